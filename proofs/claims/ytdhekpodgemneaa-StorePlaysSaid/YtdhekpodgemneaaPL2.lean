/- The plain law of StorePlays, second part: sums of accounts, trial balances. No program in it. -/
import Derived.Test.YtdhekpodgemneaaPL1
set_option linter.unusedVariables false
set_option linter.unusedSimpArgs false
set_option maxRecDepth 100000
namespace Go.Proofs.Ytdhekpodgemneaa
open Go

/-! ### turned lines; lines held against lines -/
def rv (l : List api_Line) : List api_Line := l.map fun x => ⟨x.Account, w64 (0 - x.Amount)⟩
theorem jrev_loop : ∀ (l : List api_Line) (i : Int) (xs : List api_Line), xs.length + l.length ≤ 1000000 → journal_Reverse.l1 l (i, xs) = some (xs ++ rv l)
  | [], _, xs, _ => by simp [journal_Reverse.l1, rv]
  | y :: ys, i, xs, h => by
    simp only [List.length_cons] at h
    rw [journal_Reverse.l1, gd_true (fit_small (by simp; omega)), jrev_loop ys _ _ (by simp; omega)]
    simp [rv]
theorem jrev_ok {l : List api_Line} (h : l.length ≤ 100000) : journal_Reverse l = some (rv l) := by
  unfold journal_Reverse
  rw [jrev_loop l 0 [] (by simp; omega)]; rfl
theorem rrev_loop : ∀ (l : List api_Line) (i : Int) (xs : List api_Line), xs.length + l.length ≤ 1000000 → scutageref01_Reverse.l1 l (i, xs) = some (xs ++ rv l)
  | [], _, xs, _ => by simp [scutageref01_Reverse.l1, rv]
  | y :: ys, i, xs, h => by
    simp only [List.length_cons] at h
    rw [scutageref01_Reverse.l1, gd_true (fit_small (by simp; omega)), rrev_loop ys _ _ (by simp; omega)]
    simp [rv]
theorem rrev_ok {l : List api_Line} (h : l.length ≤ 100000) : scutageref01_Reverse l = some (rv l) := by
  unfold scutageref01_Reverse
  rw [rrev_loop l 0 [] (by simp; omega)]; rfl
theorem line_eq (x y : api_Line) : (x.Account == y.Account && (x.Amount == y.Amount)) = decide (x = y) := by
  obtain ⟨a, b⟩ := x; obtain ⟨c, d⟩ := y
  rw [Bool.eq_iff_iff]; simp
theorem drop_rd {b : List api_Line} {i : Nat} (h : i < b.length) : b.drop i = rd b (i : Int) :: b.drop (i + 1) := by
  rw [List.drop_eq_getElem_cons h]
  simp [rd, h]
theorem eq_loop (b : List api_Line) : ∀ (ys : List api_Line) (i : Nat), i + ys.length = b.length → slices_Equal_api_Line.l1 b ys (i : Int) = some (if ys = b.drop i then .inr () else .inl false)
  | [], i, h => by
    have : b.drop i = [] := List.drop_of_length_le (by simp at h; omega)
    rw [this, if_pos rfl]; rfl
  | y :: ys, i, h => by
    simp only [List.length_cons] at h
    rw [slices_Equal_api_Line.l1, gd_true (by omega), line_eq, drop_rd (by omega)]
    by_cases hy : y = rd b (i : Int)
    · rw [if_neg (by simp [hy])]
      have := eq_loop b ys (i + 1) (by omega)
      rw [show (i : Int) + 1 = ((i + 1 : Nat) : Int) by omega, this]
      congr 1
      simp only [hy, List.cons.injEq, true_and]
    · rw [if_pos (by simp [hy]), if_neg (fun hh => hy (List.cons.inj hh).1)]
theorem equal_ok (a b : List api_Line) : slices_Equal_api_Line a b = some (decide (a = b)) := by
  unfold slices_Equal_api_Line
  by_cases h : a.length = b.length
  · rw [if_neg (by simp [h])]
    have := eq_loop b a 0 (by omega)
    rw [show (0 : Int) = ((0 : Nat) : Int) from rfl, this, List.drop_zero]
    by_cases he : a = b
    · rw [if_pos he]; simp [he]
    · rw [if_neg he]; simp [he]
  · rw [if_pos (by simp; omega)]
    have : a ≠ b := fun e => h (by rw [e])
    simp [this]
theorem eq_loop2 (b : List api_Line) : ∀ (ys : List api_Line) (i : Nat), i + ys.length = b.length → scutageref01_Same.l1 b ys (i : Int) = some (if ys = b.drop i then .inr () else .inl false)
  | [], i, h => by
    have : b.drop i = [] := List.drop_of_length_le (by simp at h; omega)
    rw [this, if_pos rfl]; rfl
  | y :: ys, i, h => by
    simp only [List.length_cons] at h
    rw [scutageref01_Same.l1, gd_true (by omega), line_eq, drop_rd (by omega)]
    by_cases hy : y = rd b (i : Int)
    · rw [if_neg (by simp [hy])]
      have := eq_loop2 b ys (i + 1) (by omega)
      rw [show (i : Int) + 1 = ((i + 1 : Nat) : Int) by omega, this]
      congr 1
      simp only [hy, List.cons.injEq, true_and]
    · rw [if_pos (by simp [hy]), if_neg (fun hh => hy (List.cons.inj hh).1)]
theorem rsame_ok (a b : List api_Line) : scutageref01_Same a b = some (decide (a = b)) := by
  unfold scutageref01_Same
  by_cases h : a.length = b.length
  · rw [if_neg (by simp [h])]
    have := eq_loop2 b a 0 (by omega)
    rw [show (0 : Int) = ((0 : Nat) : Int) from rfl, this, List.drop_zero]
    by_cases he : a = b
    · rw [if_pos he]; simp [he]
    · rw [if_neg he]; simp [he]
  · rw [if_pos (by simp; omega)]
    have : a ≠ b := fun e => h (by rw [e])
    simp [this]

/-! ### sums of an account -/
def sa (a : Int) : List api_Line → Int
  | [] => 0
  | x :: xs => (if x.Account = a then x.Amount else 0) + sa a xs
theorem sa_append (a : Int) : ∀ l k, sa a (l ++ k) = sa a l + sa a k
  | [], k => by simp [sa]
  | x :: l, k => by
    have := sa_append a l k
    rw [List.cons_append, sa, sa]; omega
theorem sa_bd (a : Int) : ∀ l : List api_Line, (∀ x ∈ l, Mny x.Amount) → -100000000000 * l.length ≤ sa a l ∧ sa a l ≤ 100000000000 * l.length
  | [], _ => by simp [sa]
  | x :: l, h => by
    have h1 := sa_bd a l fun y hy => h y (by simp [hy])
    have h2 := h x (by simp)
    rw [Mny_def] at h2
    rw [sa]
    simp only [List.length_cons]
    split <;> omega
theorem sa_zero {a : Int} : ∀ {l : List api_Line}, (∀ x ∈ l, x.Account ≠ a) → sa a l = 0
  | [], _ => rfl
  | x :: l, h => by
    rw [sa, if_neg (h x (by simp)), sa_zero fun y hy => h y (by simp [hy])]; rfl
theorem sa_lok : ∀ {l : List api_Line} {last : Int}, lok last l = true → ∀ x ∈ l, sa x.Account l = x.Amount
  | [], _, _, x, hx => by simp at hx
  | y :: ys, last, h, x, hx => by
    obtain ⟨⟨h1, h2⟩, h3⟩ := lok_cons.1 h
    rw [sa]
    rcases List.mem_cons.1 hx with rfl | hx
    · rw [if_pos rfl, sa_zero fun z hz => by have := (lok_mem h3 z hz).2; omega]; omega
    · have := (lok_mem h3 x hx).2
      rw [if_neg (by omega), sa_lok h3 x hx]; omega
theorem merge_l2 (v : Int) : ∀ (l : List api_Line) (i n : Int) (c : Nat), (∀ x ∈ l, Mny x.Amount) → c + l.length ≤ 1000000 → -100000000000 * c ≤ n → n ≤ 100000000000 * c → scutageref01_Merge.l2 v l (i, n) = some (n + sa v l)
  | [], _, n, _, _, _, _, _ => by simp [scutageref01_Merge.l2, sa]
  | y :: ys, i, n, c, h, hc, h1, h2 => by
    simp only [List.length_cons] at hc
    have hy := h y (by simp)
    rw [Mny_def] at hy
    rw [scutageref01_Merge.l2, sa]
    unfold scutageref01_Merge.j2
    by_cases hv : y.Account = v
    · rw [if_pos (by simpa using hv), if_pos hv, w64_id (by omega) (by omega), merge_l2 v ys _ _ (c + 1) (fun x hx => h x (by simp [hx])) (by omega) (by omega) (by omega)]
      congr 1; omega
    · rw [if_neg (by simpa using hv), if_neg hv, merge_l2 v ys _ _ c (fun x hx => h x (by simp [hx])) (by omega) (by omega) (by omega)]
      congr 1; omega
def mg (l : List api_Line) : List Int → List api_Line
  | [] => []
  | a :: as => if sa a l = 0 then mg l as else ⟨a, sa a l⟩ :: mg l as
def ac7 : List Int := [1, 2, 3, 4, 5, 6, 7]
def mrg (l : List api_Line) : List api_Line := mg l ac7
def rng (v : Int) : Nat → List Int
  | 0 => []
  | k + 1 => v :: rng (v + 1) k
theorem mg_len (l : List api_Line) : ∀ as, (mg l as).length ≤ as.length
  | [] => by simp [mg]
  | a :: as => by
    have := mg_len l as
    rw [mg]; split <;> simp <;> omega
theorem mg_mem {l : List api_Line} : ∀ {as : List Int} {y : api_Line}, y ∈ mg l as ↔ y.Account ∈ as ∧ sa y.Account l ≠ 0 ∧ y.Amount = sa y.Account l
  | [], y => by simp [mg]
  | a :: as, y => by
    rw [mg]
    split
    · rename_i h
      rw [mg_mem]
      constructor
      · rintro ⟨h1, h2, h3⟩; exact ⟨by simp [h1], h2, h3⟩
      · rintro ⟨h1, h2, h3⟩
        rcases List.mem_cons.1 h1 with h4 | h4
        · rw [h4] at h2; exact absurd h h2
        · exact ⟨h4, h2, h3⟩
    · rename_i h
      rw [List.mem_cons, mg_mem]
      constructor
      · rintro (rfl | ⟨h1, h2, h3⟩)
        · exact ⟨by simp, h, rfl⟩
        · exact ⟨by simp [h1], h2, h3⟩
      · rintro ⟨h1, h2, h3⟩
        rcases List.mem_cons.1 h1 with h4 | h4
        · left
          obtain ⟨p, q⟩ := y
          simp only at h3 h4; rw [h3, h4]
        · exact .inr ⟨h4, h2, h3⟩
theorem merge_l1 (l : List api_Line) (hm : ∀ x ∈ l, Mny x.Amount) (hl : l.length ≤ 1000000) : ∀ (k fuel : Nat) (xs : List api_Line) (v : Int), v + k = 8 → 1 ≤ v → k < fuel → xs.length + k ≤ 1000 → scutageref01_Merge.l1 l fuel (xs, v) = some (xs ++ mg l (rng v k))
  | _, 0, _, _, _, _, h, _ => by omega
  | 0, fuel + 1, xs, v, hv, h1, _, _ => by
    rw [scutageref01_Merge.l1, if_neg (by simp; omega)]; simp [rng, mg]
  | k + 1, fuel + 1, xs, v, hv, h1, hf, hx => by
    rw [scutageref01_Merge.l1, if_pos (by simp; omega), merge_l2 v l 0 0 0 hm (by omega) (by omega) (by omega), Option.bind_some, Int.zero_add]
    unfold scutageref01_Merge.j1
    rw [rng, mg, w64_id (by omega) (by omega)]
    by_cases h : sa v l = 0
    · rw [if_neg (by simp [h]), if_pos h]
      exact merge_l1 l hm hl k fuel xs (v + 1) (by omega) (by omega) (by omega) (by omega)
    · rw [if_pos (by simp [h]), if_neg h, gd_true (fit_small (by simp; omega)), merge_l1 l hm hl k fuel _ (v + 1) (by omega) (by omega) (by omega) (by simp; omega)]
      simp
theorem merge_ok {l : List api_Line} (hm : ∀ x ∈ l, Mny x.Amount) (hl : l.length ≤ 1000000) : scutageref01_Merge l = some (mrg l) := by
  unfold scutageref01_Merge
  rw [merge_l1 l hm hl 7 FUEL [] 1 (by omega) (by omega) (by simp only [FUEL]; omega) (by simp)]
  rfl

/-! ### what an entity has -/
def inq (e : ByteArray) (u : Int) (j : api_Journal) : Bool := decide (j.Entity = e) && decide (j.Period ≤ u)
def bal (e : ByteArray) (a u : Int) : List api_Journal → Int
  | [] => 0
  | j :: js => (if inq e u j = true then sa a j.Lines else 0) + bal e a u js
def al (e : ByteArray) (u : Int) : List api_Journal → List api_Line
  | [] => []
  | j :: js => (if inq e u j = true then j.Lines else []) ++ al e u js
theorem sa_al (e : ByteArray) (a u : Int) : ∀ js, sa a (al e u js) = bal e a u js
  | [] => rfl
  | j :: js => by
    rw [al, bal, sa_append, sa_al e a u js]
    split <;> simp [sa]
theorem bal_append (e : ByteArray) (a u : Int) : ∀ l k, bal e a u (l ++ k) = bal e a u l + bal e a u k
  | [], k => by simp [bal]
  | x :: l, k => by
    have := bal_append e a u l k
    rw [List.cons_append, bal, bal]; omega
/-- a journal that is kept -/
structure JG (j : api_Journal) : Prop where
  ok : chk j.Lines = true
  kd : (j.Kind = 1 ∧ j.Of = 0) ∨ j.Kind = 2
theorem JG.lok {j : api_Journal} (h : JG j) : lok 0 j.Lines = true := by
  have := h.ok
  simp only [chk, Bool.and_eq_true] at this
  exact this.1
theorem JG.len {j : api_Journal} (h : JG j) : j.Lines.length ≤ 7 := by
  have := lok_len h.lok (by omega) (by omega)
  omega
theorem JG.mny {j : api_Journal} (h : JG j) : ∀ x ∈ j.Lines, Mny x.Amount := fun x hx => (rgt_t.1 (lok_mem h.lok x hx).1).2.2
theorem JG.acc {j : api_Journal} (h : JG j) : ∀ x ∈ j.Lines, Ac x.Account := fun x hx => (rgt_t.1 (lok_mem h.lok x hx).1).1
theorem al_mem {e : ByteArray} {u : Int} : ∀ {js : List api_Journal} {x : api_Line}, x ∈ al e u js → ∃ j ∈ js, x ∈ j.Lines
  | [], x, h => by simp [al] at h
  | j :: js, x, h => by
    rw [al] at h
    rcases List.mem_append.1 h with h | h
    · split at h
      · exact ⟨j, by simp, h⟩
      · simp at h
    · obtain ⟨k, hk, hx⟩ := al_mem h
      exact ⟨k, by simp [hk], hx⟩
theorem al_len {e : ByteArray} {u : Int} : ∀ {js : List api_Journal}, (∀ j ∈ js, JG j) → (al e u js).length ≤ 7 * js.length
  | [], _ => by simp [al]
  | j :: js, h => by
    have h1 := al_len (e := e) (u := u) fun k hk => h k (List.mem_cons_of_mem _ hk)
    have h2 := (h j (by simp)).len
    rw [al, List.length_append]
    simp only [List.length_cons]
    split <;> simp <;> omega
theorem idx_none : ∀ (l : List api_Line) (i : Int), (∀ x ∈ l, Mny x.Amount) → slices_IndexFunc_api_Line.l1 (fun x => journal_few_c1 x) l i = some (.inr ())
  | [], _, _ => rfl
  | x :: l, i, h => by
    have hx := h x (by simp)
    rw [slices_IndexFunc_api_Line.l1]
    show (journal_few_c1 x).bind _ = _
    unfold journal_few_c1
    rw [money_ok, Option.bind_some, Option.bind_some, if_neg (by simp [hx])]
    exact idx_none l _ fun y hy => h y (by simp [hy])
theorem sum_l1 (a : Int) : ∀ (l : List api_Line) (i n : Int) (c : Nat), (∀ x ∈ l, Mny x.Amount) → c + l.length ≤ 1000000 → -100000000000 * c ≤ n → n ≤ 100000000000 * c → journal_sum.l1 a l (i, n) = some (n + sa a l)
  | [], _, n, _, _, _, _, _ => by simp [journal_sum.l1, sa]
  | y :: ys, i, n, c, h, hc, h1, h2 => by
    simp only [List.length_cons] at hc
    have hy := h y (by simp)
    rw [Mny_def] at hy
    rw [journal_sum.l1, sa]
    unfold journal_sum.j1
    by_cases hv : y.Account = a
    · rw [if_pos (by simpa using hv), if_pos hv, w64_id (by omega) (by omega), sum_l1 a ys _ _ (c + 1) (fun x hx => h x (by simp [hx])) (by omega) (by omega) (by omega)]
      congr 1; omega
    · rw [if_neg (by simpa using hv), if_neg hv, sum_l1 a ys _ _ c (fun x hx => h x (by simp [hx])) (by omega) (by omega) (by omega)]
      congr 1; omega
theorem net_ok {l : List api_Line} (hm : ∀ x ∈ l, Mny x.Amount) (hl : l.length ≤ 40) (a : Int) : journal_Net l a = some (sa a l) := by
  unfold journal_Net journal_few slices_ContainsFunc_api_Line slices_IndexFunc_api_Line journal_few.j1
  rw [if_pos (by simp; omega), idx_none l 0 hm]
  simp only [Option.bind_some]
  rw [if_neg (by simp)]
  unfold journal_sum
  rw [sum_l1 a l 0 0 0 hm (by omega) (by omega) (by omega)]
  simp
theorem balance_loop (e : ByteArray) (a u : Int) : ∀ (js : List api_Journal) (i n : Int) (c : Nat), (∀ j ∈ js, JG j) → c + js.length ≤ 1000 → -700000000000 * c ≤ n → n ≤ 700000000000 * c → store_Store_Balance.l1 e a u js (i, n) = some (n + bal e a u js)
  | [], _, n, _, _, _, _, _ => by simp [store_Store_Balance.l1, bal]
  | j :: js, i, n, c, h, hc, h1, h2 => by
    simp only [List.length_cons] at hc
    have hj := h j (by simp)
    have hb := sa_bd a j.Lines hj.mny
    have hl := hj.len
    have hjs : ∀ k ∈ js, JG k := fun k hk => h k (List.mem_cons_of_mem _ hk)
    rw [store_Store_Balance.l1, bal, str_eq]
    unfold store_Store_Balance.j2 store_Store_Balance.j1
    have no : inq e u j = false → store_Store_Balance.l1 e a u js (i + 1, n) = some (n + ((if inq e u j = true then sa a j.Lines else 0) + bal e a u js)) := fun hq => by
      rw [balance_loop e a u js _ _ c hjs (by omega) (by omega) (by omega), hq, if_neg (by simp), Int.zero_add]
    by_cases he : j.Entity = e
    · rw [if_pos (by simpa using he)]
      by_cases hu : j.Period ≤ u
      · rw [if_pos (by simpa using hu), net_ok hj.mny (by omega), Option.bind_some, w64_id (by omega) (by omega), balance_loop e a u js _ _ (c + 1) hjs (by omega) (by omega) (by omega), if_pos (by simp [inq, he, hu])]
        congr 1; omega
      · rw [if_neg (by simpa using hu)]; exact no (by simp [inq]; omega)
    · rw [if_neg (by simpa using he), if_neg (by simp)]; exact no (by simp [inq, he])
theorem balance_ok {js : List api_Journal} (h : ∀ j ∈ js, JG j) (hl : js.length ≤ 100) (e : ByteArray) (a u : Int) : store_Store_Balance ⟨js⟩ e a u = some (bal e a u js) := by
  unfold store_Store_Balance
  show (store_Store_Balance.l1 e a u js (0, 0)).bind _ = _
  rw [balance_loop e a u js 0 0 0 h (by omega) (by omega) (by omega)]
  simp
theorem all_loop (e : ByteArray) (u : Int) : ∀ (js : List api_Journal) (i : Int) (xs : List api_Line), (∀ j ∈ js, JG j) → xs.length + 7 * js.length ≤ 10000 → scutageref01_Store_all.l1 e u js (i, xs) = some (xs ++ al e u js)
  | [], _, xs, _, _ => by simp [scutageref01_Store_all.l1, al]
  | j :: js, i, xs, h, hc => by
    simp only [List.length_cons] at hc
    have hl := (h j (by simp)).len
    have hjs : ∀ k ∈ js, JG k := fun k hk => h k (List.mem_cons_of_mem _ hk)
    rw [scutageref01_Store_all.l1, al, str_eq]
    unfold scutageref01_Store_all.j2 scutageref01_Store_all.j1
    have no : inq e u j = false → scutageref01_Store_all.l1 e u js (i + 1, xs) = some (xs ++ ((if inq e u j = true then j.Lines else []) ++ al e u js)) := fun hq => by
      rw [all_loop e u js _ _ hjs (by omega), hq, if_neg (by simp), List.nil_append]
    by_cases he : j.Entity = e
    · rw [if_pos (by simpa using he)]
      by_cases hu : j.Period ≤ u
      · rw [if_pos (by simpa using hu), gd_true (fit_small (by omega)), all_loop e u js _ _ hjs (by simp; omega), if_pos (by simp [inq, he, hu])]
        simp
      · rw [if_neg (by simpa using hu)]; exact no (by simp [inq]; omega)
    · rw [if_neg (by simpa using he), if_neg (by simp)]; exact no (by simp [inq, he])
theorem all_ok {js : List api_Journal} (h : ∀ j ∈ js, JG j) (hl : js.length ≤ 100) (e : ByteArray) (u : Int) : scutageref01_Store_all ⟨js⟩ e u = some (al e u js) := by
  unfold scutageref01_Store_all
  show (scutageref01_Store_all.l1 e u js (0, [])).bind _ = _
  rw [all_loop e u js 0 [] h (by simp; omega)]
  simp
theorem accounts_ok : chart_Accounts = some ac7 := by decide +kernel
theorem trial_loop {js : List api_Journal} (h : ∀ j ∈ js, JG j) (hl : js.length ≤ 100) (e : ByteArray) (u : Int) : ∀ (as : List Int) (i : Int) (xs : List api_Line), xs.length + as.length ≤ 1000 → store_Store_Trial.l1 ⟨js⟩ e u as (i, xs) = some (xs ++ mg (al e u js) as)
  | [], _, xs, _ => by simp [store_Store_Trial.l1, mg]
  | a :: as, i, xs, hx => by
    simp only [List.length_cons] at hx
    rw [store_Store_Trial.l1]
    show (store_Store_Balance ⟨js⟩ e a u).bind _ = _
    rw [balance_ok h hl, Option.bind_some, mg, sa_al]
    unfold store_Store_Trial.j1
    by_cases hz : bal e a u js = 0
    · rw [if_neg (by simp [hz]), if_pos hz, trial_loop h hl e u as _ _ (by omega)]
    · rw [if_pos (by simp [hz]), if_neg hz, gd_true (fit_small (by simp; omega)), trial_loop h hl e u as _ _ (by simp; omega)]
      simp
theorem trial_ok {js : List api_Journal} (h : ∀ j ∈ js, JG j) (hl : js.length ≤ 100) (e : ByteArray) (u : Int) : store_Store_Trial ⟨js⟩ e u = some (mrg (al e u js)) := by
  unfold store_Store_Trial
  rw [accounts_ok, Option.bind_some, trial_loop h hl e u ac7 0 [] (by simp [ac7])]
  simp [mrg]
theorem al_mny {e : ByteArray} {u : Int} {js : List api_Journal} (h : ∀ j ∈ js, JG j) : ∀ x ∈ al e u js, Mny x.Amount := fun x hx => by
  obtain ⟨j, hj, hx⟩ := al_mem hx
  exact (h j hj).mny x hx
theorem rtrial_ok {js : List api_Journal} (h : ∀ j ∈ js, JG j) (hl : js.length ≤ 100) (e : ByteArray) (u : Int) : scutageref01_Store_Trial ⟨js⟩ e u = some (mrg (al e u js)) := by
  unfold scutageref01_Store_Trial
  show (scutageref01_Store_all ⟨js⟩ e u).bind _ = _
  have := al_len (e := e) (u := u) h
  rw [all_ok h hl, Option.bind_some, merge_ok (al_mny h) (by omega)]
  rfl
theorem find_loop (l : List api_Line) (a : Int) : ∀ (as : List Int) (i : Int), scutageref01_Store_Balance.l1 a (mg l as) i = some (if a ∈ as ∧ sa a l ≠ 0 then .inl (sa a l) else .inr ())
  | [], i => by simp [mg, scutageref01_Store_Balance.l1]
  | b :: as, i => by
    rw [mg]
    split
    · rename_i h
      rw [find_loop l a as i]
      by_cases hab : a = b
      · subst hab; simp [h]
      · simp [hab]
    · rename_i h
      rw [scutageref01_Store_Balance.l1]
      by_cases hab : b = a
      · subst hab; rw [if_pos (by simp), if_pos ⟨by simp, h⟩]
      · rw [if_neg (by simpa using hab), find_loop l a as]
        have : ¬ a = b := fun e => hab e.symm
        simp [this]
theorem rbalance_ok {js : List api_Journal} (h : ∀ j ∈ js, JG j) (hl : js.length ≤ 100) (e : ByteArray) (a u : Int) : scutageref01_Store_Balance ⟨js⟩ e a u = some (bal e a u js) := by
  unfold scutageref01_Store_Balance
  show (scutageref01_Store_Trial ⟨js⟩ e u).bind _ = _
  rw [rtrial_ok h hl, Option.bind_some, mrg, find_loop, sa_al]
  by_cases hc : a ∈ ac7 ∧ bal e a u js ≠ 0
  · rw [if_pos hc]; rfl
  · rw [if_neg hc]
    have : bal e a u js = 0 := by
      by_cases ha : a ∈ ac7
      · exact Classical.byContradiction fun hn => hc ⟨ha, hn⟩
      · rw [← sa_al]
        refine sa_zero fun x hx => ?_
        obtain ⟨j, hj, hx⟩ := al_mem hx
        have := (h j hj).acc x hx
        rw [Ac_def] at this
        intro hxa
        apply ha
        rw [← hxa]
        have : x.Account = 1 ∨ x.Account = 2 ∨ x.Account = 3 ∨ x.Account = 4 ∨ x.Account = 5 ∨ x.Account = 6 ∨ x.Account = 7 := by omega
        simp only [ac7, List.mem_cons, List.not_mem_nil, or_false]
        exact this
    rw [this]; rfl
end Go.Proofs.Ytdhekpodgemneaa
