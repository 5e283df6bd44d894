/- The plain law of StorePlays, third part: what is posted. No program in it. -/
import Derived.Test.YtdhekpodgemneaaPL2
set_option linter.unusedVariables false
set_option linter.unusedSimpArgs false
set_option maxRecDepth 100000
namespace Go.Proofs.Ytdhekpodgemneaa
open Go

structure SI (js : List api_Journal) : Prop where
  g : ∀ j ∈ js, JG j
  sq : ∀ (i : Nat) j, js[i]? = some j → j.Seq = (i : Int) + 1
  bd : ∀ e a, Mny (bal e a 399 js)
theorem SI.nil : SI [] := ⟨by simp, by simp, fun e a => Mny_def.2 (by simp [bal])⟩
def emp : ByteArray := ⟨#[]⟩

/-! ### the journal that is turned -/
theorem ix_loop (o : Int) : ∀ (ys : List api_Journal) (i : Nat), (∀ (k : Nat) j, ys[k]? = some j → j.Seq = (i : Int) + k + 1) → slices_IndexFunc_api_Journal.l1 (fun x => store_Store_reversed_c1 x o) ys (i : Int) = some (if (i : Int) < o ∧ o ≤ (i : Int) + ys.length then .inl (o - 1) else .inr ())
  | [], i, _ => by rw [slices_IndexFunc_api_Journal.l1, if_neg (by simp only [List.length_nil]; omega)]
  | y :: ys, i, h => by
    have h0 := h 0 y rfl
    rw [slices_IndexFunc_api_Journal.l1]
    show (store_Store_reversed_c1 y o).bind _ = _
    rw [show store_Store_reversed_c1 y o = some (y.Seq == o) from rfl, Option.bind_some]
    by_cases hy : y.Seq = o
    · rw [if_pos (by simpa using hy), if_pos (by simp only [List.length_cons]; omega)]
      congr 2; omega
    · rw [if_neg (by simpa using hy)]
      have := ix_loop o ys (i + 1) fun k j hj => by
        have := h (k + 1) j (by simpa using hj)
        omega
      rw [show (i : Int) + 1 = ((i + 1 : Nat) : Int) by omega, this]
      by_cases hc : ((i + 1 : Nat) : Int) < o ∧ o ≤ ((i + 1 : Nat) : Int) + ys.length
      · rw [if_pos hc, if_pos (by simp only [List.length_cons]; omega)]
      · rw [if_neg hc, if_neg (by simp only [List.length_cons]; omega)]
theorem ix_ok {js : List api_Journal} (h : SI js) (o : Int) : slices_IndexFunc_api_Journal js (fun x => store_Store_reversed_c1 x o) = some (if 1 ≤ o ∧ o ≤ js.length then o - 1 else -1) := by
  unfold slices_IndexFunc_api_Journal
  have := ix_loop o js 0 fun k j hj => by have := h.sq k j hj; omega
  rw [show (0 : Int) = ((0 : Nat) : Int) from rfl, this]
  by_cases hc : 1 ≤ o ∧ o ≤ (js.length : Int)
  · rw [if_pos (by omega), if_pos hc]; rfl
  · rw [if_neg (by omega), if_neg hc]; rfl
theorem any_loop {f : api_Journal → Option Bool} {p : api_Journal → Bool} (hf : ∀ x, f x = some (p x)) : ∀ (ys : List api_Journal) (i : Int), 0 ≤ i → (ys.any p = true ∧ ∃ k, 0 ≤ k ∧ slices_IndexFunc_api_Journal.l1 f ys i = some (.inl k)) ∨ (ys.any p = false ∧ slices_IndexFunc_api_Journal.l1 f ys i = some (.inr ()))
  | [], i, _ => .inr ⟨rfl, rfl⟩
  | y :: ys, i, h => by
    rw [slices_IndexFunc_api_Journal.l1, hf, Option.bind_some, List.any_cons]
    by_cases hp : p y = true
    · rw [if_pos hp, hp]; exact .inl ⟨rfl, i, h, rfl⟩
    · rw [if_neg hp]
      have : p y = false := by simpa using hp
      rw [this, Bool.false_or]
      exact any_loop hf ys (i + 1) (by omega)
def pk (o : Int) (x : api_Journal) : Bool := x.Kind == 2 && x.Of == o
theorem cont_ok (js : List api_Journal) (o : Int) : slices_ContainsFunc_api_Journal js (fun x => store_Store_reversed_c2 x o) = some (js.any (pk o)) := by
  unfold slices_ContainsFunc_api_Journal slices_IndexFunc_api_Journal
  have hf : ∀ x, (fun x => store_Store_reversed_c2 x o) x = some (pk o x) := fun x => by
    show store_Store_reversed_c2 x o = _
    unfold store_Store_reversed_c2 store_Store_reversed_c2.j1 pk
    by_cases h : x.Kind = 2
    · rw [if_pos (by simpa using h)]; simp [h]
    · rw [if_neg (by simpa using h)]; simp [h]
  rcases any_loop hf js 0 (by omega) with ⟨h1, k, h2, h3⟩ | ⟨h1, h2⟩
  · rw [h1, h3, Option.bind_some, Option.bind_some]; congr 1; simpa using h2
  · rw [h1, h2, Option.bind_some, Option.bind_some]; rfl
/-- the journal of a number -/
def jn (js : List api_Journal) (o : Int) : api_Journal := rd js (o - 1)
def rev1 (js : List api_Journal) (e : ByteArray) (p o : Int) : Int :=
  if (1 ≤ o ∧ o ≤ js.length) ∧ (jn js o).Entity = e ∧ (jn js o).Period = p ∧ ¬ (jn js o).Kind = 2 then (if js.any (pk o) = true then 4 else 0) else 3
theorem rev_ok {js : List api_Journal} (h : SI js) (hl : js.length ≤ 100) (e : ByteArray) (p o : Int) : ∃ j, store_Store_reversed ⟨js⟩ e p o = some (j, rev1 js e p o) ∧ (rev1 js e p o = 0 → j = jn js o) := by
  unfold store_Store_reversed
  show ∃ j, (slices_IndexFunc_api_Journal js _).bind _ = _ ∧ _
  rw [ix_ok h, Option.bind_some]
  have hbad : ∀ y, store_Store_reversed.j1 ⟨js⟩ o y true = some ((⟨0, (⟨#[]⟩ : ByteArray), 0, 0, 0, ([] : List api_Line)⟩ : api_Journal), 3) := fun y => by unfold store_Store_reversed.j1; rw [if_pos rfl]
  by_cases hr : 1 ≤ o ∧ o ≤ (js.length : Int)
  · rw [if_pos hr, if_neg (by simp; omega), gd_true (by show (0 : Int) ≤ o - 1 ∧ o - 1 < (js.length : Int); omega), str_eq]
    show ∃ j, (if (!decide ((jn js o).Entity = e)) = true then store_Store_reversed.j1 ⟨js⟩ o (o - 1) true else if ((jn js o).Period != p) = true then store_Store_reversed.j1 ⟨js⟩ o (o - 1) true else store_Store_reversed.j1 ⟨js⟩ o (o - 1) ((jn js o).Kind == 2)) = _ ∧ _
    by_cases he : (jn js o).Entity = e
    · rw [if_neg (by simp [he])]
      by_cases hp : (jn js o).Period = p
      · rw [if_neg (by simp [hp])]
        by_cases hk : (jn js o).Kind = 2
        · have e3 : rev1 js e p o = 3 := by unfold rev1; rw [if_neg (fun hh => hh.2.2.2 hk)]
          rw [show ((jn js o).Kind == 2) = true by simp [hk], hbad, e3]
          exact ⟨_, rfl, fun hh => by omega⟩
        · rw [show ((jn js o).Kind == 2) = false by simp [hk]]
          unfold store_Store_reversed.j1
          rw [if_neg (by simp)]
          show ∃ j, (slices_ContainsFunc_api_Journal js _).bind _ = _ ∧ _
          rw [cont_ok, Option.bind_some]
          have er : rev1 js e p o = if js.any (pk o) = true then 4 else 0 := by unfold rev1; rw [if_pos ⟨hr, he, hp, hk⟩]
          rw [er]
          cases hA : js.any (pk o) with
          | true => rw [if_pos rfl]; exact ⟨_, rfl, fun hh => by simp at hh⟩
          | false =>
            rw [if_neg (by simp), gd_true (by show (0 : Int) ≤ o - 1 ∧ o - 1 < (js.length : Int); omega)]
            exact ⟨_, rfl, fun _ => rfl⟩
      · have e3 : rev1 js e p o = 3 := by unfold rev1; rw [if_neg (fun hh => hp hh.2.2.1)]
        rw [if_pos (by simp [hp]), hbad, e3]; exact ⟨_, rfl, fun hh => by omega⟩
    · have e3 : rev1 js e p o = 3 := by unfold rev1; rw [if_neg (fun hh => he hh.2.1)]
      rw [if_pos (by simp [he]), hbad, e3]; exact ⟨_, rfl, fun hh => by omega⟩
  · have e3 : rev1 js e p o = 3 := by unfold rev1; rw [if_neg (fun hh => hr hh.1)]
    rw [if_neg hr, if_pos (by simp), hbad, e3]; exact ⟨_, rfl, fun hh => by omega⟩
theorem jn_mem {js : List api_Journal} {o : Int} (h : 1 ≤ o ∧ o ≤ (js.length : Int)) : jn js o ∈ js := by
  unfold jn rd
  have : (o - 1).toNat < js.length := by omega
  simp only [List.getD_eq_getElem?_getD, List.getElem?_eq_getElem this, Option.getD_some]
  exact List.getElem_mem this
theorem rev1_in {js : List api_Journal} {e : ByteArray} {p o : Int} (h : rev1 js e p o = 0) : 1 ≤ o ∧ o ≤ (js.length : Int) := by
  unfold rev1 at h
  split at h
  · rename_i hh; exact hh.1
  · omega
/-- are the lines taken? -/
def le (js : List api_Journal) (e : ByteArray) (p k o : Int) (l : List api_Line) : Int :=
  if k = 2 then (if rev1 js e p o = 0 then (if chk l = true ∧ l = rv (jn js o).Lines then 0 else 2) else rev1 js e p o) else if chk l = true then 0 else 2
theorem lines_ok {js : List api_Journal} (h : SI js) (hl : js.length ≤ 100) (e : ByteArray) (p k o : Int) (l : List api_Line) : store_Store_lines ⟨js⟩ e p k o l = some (le js e p k o l) := by
  unfold store_Store_lines le
  have hj1 : ∀ xs, store_Store_lines.j1 l k xs = some (if chk l = true then (if k = 2 then (if l = xs then 0 else 2) else 0) else 2) := fun xs => by
    unfold store_Store_lines.j1 store_Store_lines.j2
    rw [check_ok, Option.bind_some]
    by_cases hc : chk l = true
    · rw [if_pos hc, if_neg (by simp), if_pos hc]
      by_cases hk : k = 2
      · rw [if_pos (by simpa using hk), if_pos hk, equal_ok, Option.bind_some]
        by_cases hx : l = xs
        · simp [hx]
        · simp [hx]
      · rw [if_neg (by simpa using hk), if_neg hk]; simp
    · rw [if_neg hc, if_pos (by simp), if_neg hc]
  by_cases hk : k = 2
  · rw [if_pos (by simpa using hk), if_pos hk]
    obtain ⟨j, hj, hj2⟩ := rev_ok h hl e p o
    have hj' : store_Store_reversed ⟨(⟨js⟩ : store_Store).f_l⟩ e p o = _ := hj
    rw [hj', Option.bind_some]
    show (if (rev1 js e p o != 0) = true then _ else _) = _
    by_cases hr : rev1 js e p o = 0
    · have hjj := hj2 hr
      have hg := (h.g _ (jn_mem (rev1_in hr))).len
      rw [if_neg (by simp [hr]), if_pos hr, hjj, jrev_ok (by omega), Option.bind_some, hj1, if_pos hk]
      by_cases hc : chk l = true
      · rw [if_pos hc]; simp [hc]
      · rw [if_neg hc]; simp [hc]
    · rw [if_pos (by simp [hr]), if_neg hr]
  · rw [if_neg (by simpa using hk), if_neg hk, hj1]
    simp [hk]

/-! ### too much? -/
def ov (js : List api_Journal) (e : ByteArray) (l : List api_Line) : Bool := l.all fun x => decide (Mny (bal e x.Account 399 js + x.Amount))
def fin (js : List api_Journal) (e : ByteArray) (p k o : Int) (l : List api_Line) : Int × Int × List api_Journal :=
  if ov js e l = true then ((js.length : Int) + 1, 0, js ++ [⟨(js.length : Int) + 1, e, p, k, o, l⟩]) else (0, 6, js)
theorem bal_small {js : List api_Journal} (h : SI js) (e : ByteArray) (a : Int) : -100000000000 ≤ bal e a 399 js ∧ bal e a 399 js ≤ 100000000000 := by
  have := h.bd e a
  rwa [Mny_def] at this
theorem post_l1 {js : List api_Journal} (h : SI js) (hl : js.length ≤ 100) (e : ByteArray) : ∀ (l : List api_Line) (i : Int), (∀ x ∈ l, Mny x.Amount) → store_Store_Post.l1 ⟨js⟩ e l i = some (if (l.all fun x => decide (Mny (bal e x.Account 399 js + x.Amount))) = true then .inr () else .inl (0, 6, ⟨js⟩))
  | [], _, _ => rfl
  | x :: l, i, hm => by
    have hx := hm x (by simp)
    rw [Mny_def] at hx
    have hb := bal_small h e x.Account
    rw [store_Store_Post.l1]
    show (store_Store_Balance ⟨js⟩ e x.Account 399).bind _ = _
    rw [balance_ok h.g hl, Option.bind_some, w64_id (by omega) (by omega), money_ok, Option.bind_some, List.all_cons]
    by_cases hM : Mny (bal e x.Account 399 js + x.Amount)
    · rw [if_neg (by simp [hM]), post_l1 h hl e l _ fun y hy => hm y (by simp [hy])]
      simp only [hM, decide_true, Bool.true_and]
    · rw [if_pos (by simp [hM]), if_neg (by simp [hM])]
theorem rpost_l2 (s : scutageref01_Store) : ∀ (l : List api_Line) (i : Int), scutageref01_Store_Post.l2 s l i = some (if (l.all fun x => decide (Mny x.Amount)) = true then .inr () else .inl (0, 6, ⟨s.f_J⟩))
  | [], _ => rfl
  | x :: l, i => by
    rw [scutageref01_Store_Post.l2, rmoney_ok, Option.bind_some, List.all_cons]
    by_cases hM : Mny x.Amount
    · rw [if_neg (by simp [hM]), rpost_l2 s l]
      simp only [hM, decide_true, Bool.true_and]
    · rw [if_pos (by simp [hM]), if_neg (by simp [hM])]
theorem rpost_l3 (s : scutageref01_Store) : ∀ (l : List api_Line) (i : Int), scutageref01_Store_Post.l3 s l i = some (if (l.all fun x => decide (Mny x.Amount)) = true then .inr () else .inl (0, 6, ⟨s.f_J⟩))
  | [], _ => rfl
  | x :: l, i => by
    rw [scutageref01_Store_Post.l3, rmoney_ok, Option.bind_some, List.all_cons]
    by_cases hM : Mny x.Amount
    · rw [if_neg (by simp [hM]), rpost_l3 s l]
      simp only [hM, decide_true, Bool.true_and]
    · rw [if_pos (by simp [hM]), if_neg (by simp [hM])]
theorem chk_lok {l : List api_Line} (h : chk l = true) : lok 0 l = true := by
  simp only [chk, Bool.and_eq_true] at h; exact h.1
theorem ac7_mem {a : Int} : a ∈ ac7 ↔ Ac a := by
  simp only [ac7, List.mem_cons, List.not_mem_nil, or_false, Ac_def]; omega
theorem ov_mrg {js : List api_Journal} (h : SI js) (e : ByteArray) {l : List api_Line} (hc : chk l = true) : ((mrg (al e 399 js ++ l)).all fun x => decide (Mny x.Amount)) = ov js e l := by
  have hk := chk_lok hc
  rw [Bool.eq_iff_iff, ov, List.all_eq_true, List.all_eq_true]
  simp only [decide_eq_true_eq]
  have hs : ∀ a, sa a (al e 399 js ++ l) = bal e a 399 js + sa a l := fun a => by rw [sa_append, sa_al]
  constructor
  · intro hh x hx
    have h1 := sa_lok hk x hx
    have h2 := (rgt_t.1 (lok_mem hk x hx).1).1
    by_cases hz : bal e x.Account 399 js + x.Amount = 0
    · rw [hz, Mny_def]; omega
    · have := hh ⟨x.Account, bal e x.Account 399 js + x.Amount⟩ (mg_mem.2 ⟨ac7_mem.2 h2, by show sa x.Account _ ≠ 0; rw [hs, h1]; exact hz, by show _ = sa x.Account _; rw [hs, h1]⟩)
      exact this
  · intro hh y hy
    obtain ⟨h1, h2, h3⟩ := mg_mem.1 hy
    rw [h3, hs]
    by_cases hx : ∃ x ∈ l, x.Account = y.Account
    · obtain ⟨x, hx, hxy⟩ := hx
      rw [← hxy, sa_lok hk x hx]; exact hh x hx
    · rw [sa_zero fun x hx' he => hx ⟨x, hx', he⟩, Int.add_zero]; exact h.bd e _
theorem chk_len {l : List api_Line} (h : chk l = true) : l.length ≤ 7 := by
  have := lok_len (chk_lok h) (by omega) (by omega)
  omega
theorem chk_mny {l : List api_Line} (h : chk l = true) : ∀ x ∈ l, Mny x.Amount := fun x hx => (rgt_t.1 (lok_mem (chk_lok h) x hx).1).2.2
def wp (t : Int × Int × List api_Journal) : Int × Int × store_Store := (t.1, t.2.1, ⟨t.2.2⟩)
def wr (t : Int × Int × List api_Journal) : Int × Int × scutageref01_Store := (t.1, t.2.1, ⟨t.2.2⟩)
theorem merge_al {js : List api_Journal} (h : SI js) (hl : js.length ≤ 100) (e : ByteArray) {l : List api_Line} (hc : chk l = true) : scutageref01_Merge (([] ++ al e 399 js) ++ l) = some (mrg (al e 399 js ++ l)) := by
  have := al_len (e := e) (u := 399) h.g
  have := chk_len hc
  rw [List.nil_append]
  exact merge_ok (fun x hx => by
    rcases List.mem_append.1 hx with hx | hx
    · exact al_mny h.g x hx
    · exact chk_mny hc x hx) (by simp; omega)
theorem rfin3 {js : List api_Journal} (h : SI js) (hl : js.length ≤ 100) (e : ByteArray) (p k o : Int) {l : List api_Line} (hc : chk l = true) : scutageref01_Store_Post.j3 ⟨js⟩ e l p k o false = some (wr (fin js e p k o l)) := by
  have hlen := chk_len hc
  have hal := al_len (e := e) (u := 399) h.g
  unfold scutageref01_Store_Post.j3
  rw [if_neg (by simp), if_neg (by simp; omega)]
  show (scutageref01_Store_all ⟨js⟩ e 399).bind _ = _
  rw [all_ok h.g hl, Option.bind_some, gd_true (fit_small (by simp; omega)), gd_true (fit_small (by simp; omega)), merge_al h hl e hc, Option.bind_some, rpost_l2, ov_mrg h e hc, Option.bind_some]
  unfold fin
  by_cases ho : ov js e l = true
  · rw [if_pos ho, if_pos ho]
    show gd _ (gd _ _) = _
    rw [gd_true (fit_small (by simp; omega)), gd_true (fit_small (by simp; omega)), List.nil_append, w64_id (by show -9223372036854775808 ≤ (js.length : Int) + 1; omega) (by show (js.length : Int) + 1 ≤ _; omega)]
    simp [wr]
  · rw [if_neg ho, if_neg ho]; rfl
theorem rfin4 {js : List api_Journal} (h : SI js) (hl : js.length ≤ 100) (e : ByteArray) (p k o : Int) {l : List api_Line} (hc : chk l = true) : scutageref01_Store_Post.j4 ⟨js⟩ e l p k o false = some (wr (fin js e p k o l)) := by
  have hlen := chk_len hc
  have hal := al_len (e := e) (u := 399) h.g
  unfold scutageref01_Store_Post.j4
  rw [if_neg (by simp), if_neg (by simp; omega)]
  show (scutageref01_Store_all ⟨js⟩ e 399).bind _ = _
  rw [all_ok h.g hl, Option.bind_some, gd_true (fit_small (by simp; omega)), gd_true (fit_small (by simp; omega)), merge_al h hl e hc, Option.bind_some, rpost_l3, ov_mrg h e hc, Option.bind_some]
  unfold fin
  by_cases ho : ov js e l = true
  · rw [if_pos ho, if_pos ho]
    show gd _ (gd _ _) = _
    rw [gd_true (fit_small (by simp; omega)), gd_true (fit_small (by simp; omega)), List.nil_append, w64_id (by show -9223372036854775808 ≤ (js.length : Int) + 1; omega) (by show (js.length : Int) + 1 ≤ _; omega)]
    simp [wr]
  · rw [if_neg ho, if_neg ho]; rfl
theorem own_ok {j : api_Journal} (h : j.Lines.length ≤ 1000) : store_own j = some j := by
  unfold store_own slices_Clone_api_Line
  rw [gd_true (fit_small (by simp; omega)), Option.bind_some, List.nil_append]
/-- the whole answer -/
def ps (js : List api_Journal) (e : ByteArray) (p k o : Int) (l : List api_Line) : Int × Int × List api_Journal := if le js e p k o l = 0 then fin js e p k o l else (0, le js e p k o l, js)
theorem le_chk {js : List api_Journal} {e : ByteArray} {p k o : Int} {l : List api_Line} (h : le js e p k o l = 0) : chk l = true := by
  unfold le at h
  by_cases hk : k = 2
  · rw [if_pos hk] at h
    by_cases hr : rev1 js e p o = 0
    · rw [if_pos hr] at h
      by_cases hc : chk l = true ∧ l = rv (jn js o).Lines
      · exact hc.1
      · rw [if_neg hc] at h; omega
    · rw [if_neg hr] at h; exact absurd h hr
  · rw [if_neg hk] at h
    by_cases hc : chk l = true
    · exact hc
    · rw [if_neg hc] at h; omega
theorem post_j1 {js : List api_Journal} (h : SI js) (hl : js.length ≤ 100) (e : ByteArray) (p k o : Int) (l : List api_Line) : store_Store_Post.j1 ⟨js⟩ e p k o l false = some (wp (ps js e p k o l)) := by
  unfold store_Store_Post.j1 ps
  rw [if_neg (by simp)]
  show (store_Store_lines ⟨js⟩ e p k o l).bind _ = _
  rw [lines_ok h hl, Option.bind_some]
  by_cases hle : le js e p k o l = 0
  · have hc := le_chk hle
    rw [if_neg (by simp [hle]), if_pos hle, if_neg (by simp; omega), post_l1 h hl e l 0 (chk_mny hc), Option.bind_some]
    unfold fin
    by_cases ho : ov js e l = true
    · have ho' : (l.all fun x => decide (Mny (bal e x.Account 399 js + x.Amount))) = true := ho
      rw [if_pos ho', if_pos ho]
      show (store_own _).bind _ = _
      rw [own_ok (by have := chk_len hc; show l.length ≤ 1000; omega), Option.bind_some, gd_true (fit_small (by simp; omega)), w64_id (by show -9223372036854775808 ≤ (js.length : Int) + 1; omega) (by show (js.length : Int) + 1 ≤ _; omega)]
      rfl
    · have ho' : ¬ (l.all fun x => decide (Mny (bal e x.Account 399 js + x.Amount))) = true := ho
      rw [if_neg ho', if_neg ho]; rfl
  · rw [if_pos (by simp [hle]), if_neg hle]; rfl
theorem rl1_loop (o : Int) (s : scutageref01_Store) : ∀ (ys : List api_Journal) (i : Int), scutageref01_Store_Post.l1 o s ys i = some (if (ys.any fun x => x.Of == o) = true then .inl (0, 4, ⟨s.f_J⟩) else .inr ())
  | [], _ => rfl
  | y :: ys, i => by
    rw [scutageref01_Store_Post.l1, List.any_cons]
    by_cases hy : (y.Of == o) = true
    · rw [if_pos hy, hy]; rfl
    · have : (y.Of == o) = false := by simpa using hy
      rw [if_neg hy, this, Bool.false_or, rl1_loop o s ys]
theorem any_of {js : List api_Journal} (h : SI js) {o : Int} (ho : 1 ≤ o) : (js.any fun x => x.Of == o) = js.any (pk o) := by
  rw [Bool.eq_iff_iff, List.any_eq_true, List.any_eq_true]
  constructor
  · rintro ⟨x, hx, hxo⟩
    have hxo' : x.Of = o := by simpa using hxo
    refine ⟨x, hx, ?_⟩
    rcases (h.g x hx).kd with ⟨_, h2⟩ | h2
    · omega
    · simp [pk, h2, hxo']
  · rintro ⟨x, hx, hxo⟩
    simp only [pk, Bool.and_eq_true] at hxo
    exact ⟨x, hx, hxo.2⟩
theorem rpost_j1 {js : List api_Journal} (h : SI js) (hl : js.length ≤ 100) (e : ByteArray) (p k o : Int) (l : List api_Line) : scutageref01_Store_Post.j1 ⟨js⟩ k o l e p false = some (wr (ps js e p k o l)) := by
  have bad3 : scutageref01_Store_Post.j3 ⟨js⟩ e l p k o true = some (0, 2, ⟨js⟩) := by unfold scutageref01_Store_Post.j3; rw [if_pos rfl]
  have bad4 : scutageref01_Store_Post.j4 ⟨js⟩ e l p k o true = some (0, 2, ⟨js⟩) := by unfold scutageref01_Store_Post.j4; rw [if_pos rfl]
  have bad2 : scutageref01_Store_Post.j2 ⟨js⟩ o l e p k true = some (0, 3, ⟨js⟩) := by unfold scutageref01_Store_Post.j2; rw [if_pos rfl]
  unfold scutageref01_Store_Post.j1
  rw [if_neg (by simp)]
  by_cases hk : k = 2
  · rw [if_pos (by simpa using hk)]
    have p3 : rev1 js e p o = 3 → ps js e p k o l = (0, 3, js) := fun h3 => by
      have : le js e p k o l = 3 := by unfold le; rw [if_pos hk, if_neg (by omega), h3]
      unfold ps; rw [if_neg (by omega), this]
    by_cases h1 : o < 1
    · have e3 : rev1 js e p o = 3 := by unfold rev1; rw [if_neg (fun hh => by have := hh.1.1; omega)]
      rw [if_pos (by simpa using h1), bad2, p3 e3]; rfl
    rw [if_neg (by simpa using h1)]
    by_cases h2 : o > (js.length : Int)
    · have e3 : rev1 js e p o = 3 := by unfold rev1; rw [if_neg (fun hh => by have := hh.1.2; omega)]
      rw [if_pos (by simpa using h2), bad2, p3 e3]; rfl
    rw [if_neg (by simpa using h2)]
    have hw : w64 (o - 1) = o - 1 := w64_id (by omega) (by omega)
    rw [hw, gd_true (by show (0 : Int) ≤ o - 1 ∧ o - 1 < (js.length : Int); omega), str_eq]
    show (if (!decide ((jn js o).Entity = e)) = true then scutageref01_Store_Post.j2 ⟨js⟩ o l e p k true else if ((jn js o).Period != p) = true then scutageref01_Store_Post.j2 ⟨js⟩ o l e p k true else scutageref01_Store_Post.j2 ⟨js⟩ o l e p k ((jn js o).Kind != 1)) = _
    have hin : 1 ≤ o ∧ o ≤ (js.length : Int) := by omega
    have hg := h.g _ (jn_mem hin)
    by_cases he : (jn js o).Entity = e
    · rw [if_neg (by simp [he])]
      by_cases hp : (jn js o).Period = p
      · rw [if_neg (by simp [hp])]
        by_cases hkk : (jn js o).Kind = 2
        · have e3 : rev1 js e p o = 3 := by unfold rev1; rw [if_neg (fun hh => hh.2.2.2 hkk)]
          rw [show ((jn js o).Kind != 1) = true by simp [hkk], bad2, p3 e3]; rfl
        · have hk1 : (jn js o).Kind = 1 := by
            rcases hg.kd with h3 | h3
            · exact h3.1
            · exact absurd h3 hkk
          rw [show ((jn js o).Kind != 1) = false by simp [hk1]]
          unfold scutageref01_Store_Post.j2
          rw [if_neg (by simp), rl1_loop, Option.bind_some, any_of h (by omega)]
          have er : rev1 js e p o = if js.any (pk o) = true then 4 else 0 := by unfold rev1; rw [if_pos ⟨hin, he, hp, hkk⟩]
          cases hA : js.any (pk o) with
          | true =>
            rw [hA, if_pos rfl] at er
            have : le js e p k o l = 4 := by unfold le; rw [if_pos hk, if_neg (by omega), er]
            rw [if_pos rfl]
            unfold ps; rw [if_neg (by omega), this]; rfl
          | false =>
            rw [hA, if_neg (by simp)] at er
            rw [if_neg (by simp)]
            show (scutageref01_Check l).bind _ = _
            rw [dcheck_ok, Option.bind_some]
            by_cases hc : chk l = true
            · rw [if_neg (by simp [hc]), hw, gd_true (by show (0 : Int) ≤ o - 1 ∧ o - 1 < (js.length : Int); omega)]
              show (scutageref01_Reverse (jn js o).Lines).bind _ = _
              rw [rrev_ok (by have := hg.len; omega), Option.bind_some, rsame_ok, Option.bind_some]
              by_cases hq : l = rv (jn js o).Lines
              · have : le js e p k o l = 0 := by unfold le; rw [if_pos hk, if_pos er, if_pos ⟨hc, hq⟩]
                rw [show (!decide (l = rv (jn js o).Lines)) = false by simp [hq], rfin3 h hl e p k o hc]
                unfold ps; rw [if_pos this]
              · have : le js e p k o l = 2 := by unfold le; rw [if_pos hk, if_pos er, if_neg (fun hh => hq hh.2)]
                rw [show (!decide (l = rv (jn js o).Lines)) = true by simp [hq], bad3]
                unfold ps; rw [if_neg (by omega), this]; rfl
            · have : le js e p k o l = 2 := by unfold le; rw [if_pos hk, if_pos er, if_neg (fun hh => hc hh.1)]
              rw [if_pos (by simp [hc]), bad3]
              unfold ps; rw [if_neg (by omega), this]; rfl
      · have e3 : rev1 js e p o = 3 := by unfold rev1; rw [if_neg (fun hh => hp hh.2.2.1)]
        rw [if_pos (by simp [hp]), bad2, p3 e3]; rfl
    · have e3 : rev1 js e p o = 3 := by unfold rev1; rw [if_neg (fun hh => he hh.2.1)]
      rw [if_pos (by simp [he]), bad2, p3 e3]; rfl
  · rw [if_neg (by simpa using hk), dcheck_ok, Option.bind_some]
    by_cases hc : chk l = true
    · have : le js e p k o l = 0 := by unfold le; rw [if_neg hk, if_pos hc]
      rw [if_neg (by simp [hc]), rfin4 h hl e p k o hc]
      unfold ps; rw [if_pos this]
    · have : le js e p k o l = 2 := by unfold le; rw [if_neg hk, if_neg hc]
      rw [if_pos (by simp [hc]), bad4]
      unfold ps; rw [if_neg (by omega), this]; rfl
end Go.Proofs.Ytdhekpodgemneaa
