/- The plain law of CrossOrder. No program in it. -/
import Derived.Test.YtfhekejaobmacaaBL2
set_option linter.unusedVariables false
set_option linter.unusedSimpArgs false
namespace Go.Proofs.Ytfhekejaobmacaa
open Go

theorem within_ok0 (v n : Int) (h1 : 1 ≤ n) (h2 : n ≤ 1000000000000) : ∃ k, scutagekeep_Within v n = some k ∧ 0 ≤ k ∧ k < n := by
  unfold scutagekeep_Within scutagekeep_Within.j1
  have hlt : Int.tmod v n < n := Int.tmod_lt_of_pos v (by omega)
  have hgt : -n < Int.tmod v n := by
    have := Int.tmod_lt_of_pos (-v) (b := n) (by omega)
    rw [Int.neg_tmod] at this; omega
  rw [if_neg (by simp; omega), gd_true (by omega)]
  by_cases h : Int.tmod v n < 0
  · refine ⟨Int.tmod v n + n, ?_, by omega, by omega⟩
    rw [if_pos (by simpa using h), w64_id (by omega) (by omega)]
  · refine ⟨Int.tmod v n, ?_, by omega, by omega⟩
    rw [if_neg (by simpa using h)]
def wi (v n : Int) : Int := (scutagekeep_Within v n).getD 0
theorem within_ok (v n : Int) (h1 : 1 ≤ n) (h2 : n ≤ 1000000000000) : scutagekeep_Within v n = some (wi v n) ∧ 0 ≤ wi v n ∧ wi v n < n := by
  obtain ⟨k, h, h3⟩ := within_ok0 v n h1 h2
  have : wi v n = k := by unfold wi; rw [h]; rfl
  rw [this]; exact ⟨h, h3⟩
theorem wakes_ok : scutagelaw24_wakes = some true := by decide +kernel

/-! ### sums -/
def Sg (f : Nat → Int) : Nat → Int
  | 0 => 0
  | k + 1 => Sg f k + f k
theorem Sg_head (f : Nat → Int) : ∀ k, Sg f (k + 1) = f 0 + Sg (fun i => f (i + 1)) k
  | 0 => by simp [Sg]
  | k + 1 => by
    have := Sg_head f k
    rw [Sg, this, Sg]; omega
theorem Sg_rev (f : Nat → Int) : ∀ n, Sg (fun i => f (n - 1 - i)) n = Sg f n
  | 0 => rfl
  | n + 1 => by
    rw [Sg_head]
    have h := Sg_rev f n
    have e : (fun i => f (n + 1 - 1 - (i + 1))) = fun i => f (n - 1 - i) := by funext i; congr 1; omega
    rw [e, h, Sg, show n + 1 - 1 - 0 = n by omega]; omega
theorem Sg_bd {f : Nat → Int} (h : ∀ i, 0 ≤ f i ∧ f i ≤ 999) : ∀ k : Nat, 0 ≤ Sg f k ∧ Sg f k ≤ 999 * k
  | 0 => by simp [Sg]
  | k + 1 => by
    have h1 := Sg_bd h k; have h2 := h k
    rw [Sg]; omega

/-! ### a list without repetition, among others -/
theorem len_sub {α : Type} [DecidableEq α] : ∀ {l k : List α}, l.Nodup → (∀ x ∈ l, x ∈ k) → l.length ≤ k.length
  | [], _, _, _ => by simp
  | x :: l, k, hd, hs => by
    obtain ⟨h1, h2⟩ := List.nodup_cons.1 hd
    have hx := hs x (by simp)
    have := len_sub (l := l) (k := k.erase x) h2 fun y hy => (List.mem_erase_of_ne (fun (e : y = x) => h1 (by rw [← e]; exact hy))).2 (hs y (by simp [hy]))
    rw [List.length_erase_of_mem hx] at this
    have := List.length_pos_of_mem hx
    simp only [List.length_cons]; omega

/-! ### rows -/
def key (x : cross_Row) : ByteArray × ByteArray := (x.Seller, x.Buyer)
theorem xk_key {s b : ByteArray} {x : cross_Row} : xk s b x = true ↔ key x = (s, b) := by rw [xk_t, key, Prod.mk.injEq]
theorem xlt_ne {x y : cross_Row} (h : xlt x y = true) : key x ≠ key y := fun e => by
  rw [key, key, Prod.mk.injEq] at e
  rw [xlt_t, e.1, e.2, slt_irr, slt_irr] at h; simp at h
theorem srt_keys {l : List cross_Row} (h : Srt xlt l) : (l.map key).Nodup := by
  unfold List.Nodup
  rw [List.pairwise_map]
  exact h.imp fun {a b} hab => xlt_ne hab
theorem amt_mem {l : List cross_Row} (h : Srt xlt l) {x : cross_Row} (hx : x ∈ l) : amt x.Seller x.Buyer l = x.Amount := by
  obtain ⟨A, B, rfl⟩ := List.append_of_mem hx
  have hk : xk x.Seller x.Buyer x = true := xk_t.2 ⟨rfl, rfl⟩
  exact amt_mid hk (xkey_other h hk).1
theorem amt_rest (s b s' b' : ByteArray) : ∀ l : List cross_Row, amt s' b' (rest s b l) = if (s', b') = (s, b) then 0 else amt s' b' l
  | [] => by simp [rest, amt]
  | x :: l => by
    have ih := amt_rest s b s' b' l
    unfold rest at ih ⊢
    rw [List.filter_cons]
    by_cases hx : xk s b x = true
    · rw [if_neg (by simp [hx]), ih]
      by_cases he : (s', b') = (s, b)
      · rw [if_pos he, if_pos he]
      · rw [if_neg he, if_neg he, amt, if_neg]
        intro hh
        rw [xk_key] at hx hh
        exact he (hh.symm.trans hx)
    · rw [if_pos (by simp [hx]), amt, ih]
      by_cases he : (s', b') = (s, b)
      · cases he
        simp [hx]
      · rw [if_neg he, if_neg he, amt]
theorem amt_ins (x : cross_Row) (s' b' : ByteArray) : ∀ R : List cross_Row, (∀ y ∈ R, xk x.Seller x.Buyer y = false) → amt s' b' (ins xlt x R) = if (s', b') = key x then x.Amount else amt s' b' R
  | [], _ => by
    simp only [ins, amt]
    by_cases he : (s', b') = key x
    · rw [if_pos (xk_key.2 he.symm), if_pos he]
    · rw [if_neg (fun h => he (xk_key.1 h).symm), if_neg he]
  | y :: R, hR => by
    have ih := amt_ins x s' b' R fun z hz => hR z (by simp [hz])
    rw [ins]
    split
    · rw [amt]
      by_cases he : (s', b') = key x
      · rw [if_pos (xk_key.2 he.symm), if_pos he]
      · rw [if_neg (fun h => he (xk_key.1 h).symm), if_neg he]
    · rw [amt, ih]
      by_cases he : (s', b') = key x
      · have : xk s' b' y = false := by
          have := hR y (by simp)
          rw [key, Prod.mk.injEq] at he
          rw [he.1, he.2]; exact this
        rw [if_neg (by simp [this]), if_pos he, if_pos he]
      · rw [if_neg he, if_neg he, amt]
theorem amt_nxt (l : List cross_Row) (s b : ByteArray) (m : Int) (s' b' : ByteArray) : amt s' b' (nxt l s b m) = if (s', b') = (s, b) then m else amt s' b' l := by
  unfold nxt
  split
  · rename_i hm
    rw [amt_rest, hm]
  · rw [amt_ins, amt_rest]
    · show (if (s', b') = (s, b) then m else _) = _
      by_cases he : (s', b') = (s, b)
      · rw [if_pos he, if_pos he]
      · rw [if_neg he, if_neg he, if_neg he]
    · intro y hy
      have := (List.mem_filter.1 hy).2
      simpa using this
/-- rows told by their amounts -/
theorem rows_ext : ∀ {l k : List cross_Row}, Srt xlt l → Srt xlt k → (∀ x ∈ l, 1 ≤ x.Amount) → (∀ x ∈ k, 1 ≤ x.Amount) → (∀ s b, amt s b l = amt s b k) → l = k
  | [], [], _, _, _, _, _ => rfl
  | [], y :: k, _, _, _, h2, he => by
    have := he y.Seller y.Buyer
    have h3 := h2 y (by simp)
    rw [amt, amt, if_pos (xk_t.2 ⟨rfl, rfl⟩)] at this; omega
  | x :: l, [], _, _, h1, _, he => by
    have := he x.Seller x.Buyer
    have h3 := h1 x (by simp)
    rw [amt, amt, if_pos (xk_t.2 ⟨rfl, rfl⟩)] at this; omega
  | x :: l, y :: k, s1, s2, h1, h2, he => by
    obtain ⟨a1, a2⟩ := List.pairwise_cons.1 s1
    obtain ⟨b1, b2⟩ := List.pairwise_cons.1 s2
    have hno : ∀ {u : cross_Row} {m : List cross_Row}, (∀ z ∈ m, xlt u z = true) → amt u.Seller u.Buyer m = 0 := fun hm => amt_none fun z hz => by
      cases hq : xk _ _ z with
      | false => rfl
      | true => exact absurd (xk_key.1 hq).symm (xlt_ne (hm z hz))
    have hx := he x.Seller x.Buyer
    have hy := he y.Seller y.Buyer
    have px := h1 x (by simp)
    have py := h2 y (by simp)
    rcases xlt_total x y with g | g | g
    · rw [amt, if_pos (xk_t.2 ⟨rfl, rfl⟩), hno (m := y :: k) fun z hz => by
        rcases List.mem_cons.1 hz with rfl | hz
        · exact g
        · exact xlt_trans g (b1 z hz)] at hx
      omega
    · have hxy : x.Amount = y.Amount := by
        rw [amt, amt, if_pos (xk_t.2 ⟨rfl, rfl⟩), if_pos (xk_t.2 ⟨g.1.symm, g.2.symm⟩)] at hx; exact hx
      have : x = y := by
        obtain ⟨x1, x2, x3⟩ := x; obtain ⟨y1, y2, y3⟩ := y
        simp only at g hxy; rw [g.1, g.2, hxy]
      subst this
      rw [rows_ext a2 b2 (fun z hz => h1 z (by simp [hz])) (fun z hz => h2 z (by simp [hz])) fun s b => ?_]
      have := he s b
      rw [amt, amt] at this
      by_cases hq : xk s b x = true
      · rw [xk_t] at hq
        rw [← hq.1, ← hq.2, hno a1, hno b1]
      · rw [if_neg hq, if_neg hq] at this; exact this
    · have e1 := hno (u := y) (m := x :: l) fun z hz => by
        rcases List.mem_cons.1 hz with rfl | hz
        · exact g
        · exact xlt_trans g (a1 z hz)
      have e2 : amt y.Seller y.Buyer (y :: k) = y.Amount := by rw [amt, if_pos (xk_t.2 ⟨rfl, rfl⟩)]
      omega

/-! ### what is added -/
def P3 : List ByteArray := [(⟨#[112]⟩ : ByteArray), (⟨#[113]⟩ : ByteArray), (⟨#[114]⟩ : ByteArray)]
def P2 : List ByteArray := [(⟨#[117]⟩ : ByteArray), (⟨#[118]⟩ : ByteArray)]
def K6 : List (ByteArray × ByteArray) := P3.flatMap fun s => P2.map fun b => (s, b)
def kS (x : scutagelaw24_Act) : ByteArray := rd P3 (wi x.Seller 3)
def kB (x : scutagelaw24_Act) : ByteArray := rd P2 (wi x.Buyer 2)
def am (x : scutagelaw24_Act) : Int := wi x.f_N 1000
theorem pair_in {y z : Int} (h1 : 0 ≤ y ∧ y < 3) (h2 : 0 ≤ z ∧ z < 2) : (rd P3 y, rd P2 z) ∈ K6 := by
  have hy : y = 0 ∨ y = 1 ∨ y = 2 := by omega
  have hz : z = 0 ∨ z = 1 := by omega
  rcases hy with rfl | rfl | rfl <;> rcases hz with rfl | rfl <;> simp [K6, P3, P2, rd]
theorem K6_ok : ∀ k ∈ K6, k.1 ≠ emp ∧ k.2 ≠ emp ∧ k.1 ≠ k.2 := by decide
theorem key_in (x : scutagelaw24_Act) : (kS x, kB x) ∈ K6 := pair_in (within_ok _ 3 (by omega) (by omega)).2 (within_ok _ 2 (by omega) (by omega)).2
structure KI (l : List cross_Row) : Prop where
  ci : CI l
  ky : ∀ x ∈ l, key x ∈ K6
theorem KI.len {l : List cross_Row} (h : KI l) : l.length ≤ 6 := by
  have := len_sub (srt_keys h.ci.srt) (k := K6) fun k hk => by
    obtain ⟨x, hx, rfl⟩ := List.mem_map.1 hk
    exact h.ky x hx
  have h6 : K6.length = 6 := rfl
  rw [h6] at this
  simpa using this
theorem KI.nil : KI [] := ⟨.nil, by simp⟩
theorem nxt_KI {l : List cross_Row} (h : KI l) {s b : ByteArray} {m : Int} (hk : (s, b) ∈ K6) (h0 : 0 ≤ m) (h1 : m ≤ 100000000000) : KI (nxt l s b m) := by
  have hr : ∀ x ∈ rest s b l, x ∈ l := fun x hx => (List.mem_filter.1 hx).1
  have hs : Srt xlt (nxt l s b m) := by
    unfold nxt
    split
    · exact rest_srt h.ci.srt s b
    · exact ins_srt xord (rest_srt h.ci.srt s b) rest_no
  have ha : ∀ x ∈ nxt l s b m, (1 ≤ x.Amount ∧ x.Amount ≤ 100000000000) ∧ key x ∈ K6 := by
    unfold nxt
    split
    · exact fun x hx => ⟨h.ci.amt x (hr x hx), h.ky x (hr x hx)⟩
    · intro x hx
      rcases ins_mem.1 hx with rfl | hx
      · exact ⟨by simp only; omega, hk⟩
      · exact ⟨h.ci.amt x (hr x hx), h.ky x (hr x hx)⟩
  have hl := len_sub (srt_keys hs) (k := K6) fun k hk => by
    obtain ⟨x, hx, rfl⟩ := List.mem_map.1 hk
    exact (ha x hx).2
  exact ⟨⟨hs, by have : K6.length = 6 := rfl; simp at hl; omega, fun x hx => (ha x hx).1⟩, fun x hx => (ha x hx).2⟩
/-- a sale is taken -/
theorem add_ok {l : List cross_Row} (h : KI l) {s b : ByteArray} {n : Int} (hk : (s, b) ∈ K6) (hn : 0 ≤ n ∧ n ≤ 999) (ha : amt s b l ≤ 100000) :
    ∃ l', cross_Cross_Add ⟨l⟩ s b n = some (0, ⟨l'⟩) ∧ KI l' ∧ ∀ s' b', amt s' b' l' = (if (s, b) = (s', b') then n else 0) + amt s' b' l := by
  obtain ⟨k1, k2, k3⟩ := K6_ok _ hk
  have hb := (amt_bd (s := s) (b := b) h.ci.amt).1
  have hN := nxt_KI h hk (m := amt s b l + n) (by omega) (by omega)
  have e : cAdd l s b n = (0, nxt l s b (amt s b l + n)) := by
    unfold cAdd
    rw [if_neg (fun hh => hh.elim k1 fun hh => hh.elim k2 fun hh => hh.elim k3 fun hh => hh (Mny_def.2 (by omega))), if_neg (fun hh => hh.elim (by omega) fun hh => hh (Mny_def.2 (by omega))), if_neg (by have := hN.len; omega)]
  refine ⟨nxt l s b (amt s b l + n), by rw [cAdd_ok h.ci, e], hN, fun s' b' => ?_⟩
  rw [amt_nxt]
  by_cases he : (s', b') = (s, b)
  · cases he
    rw [if_pos rfl, if_pos rfl]; omega
  · rw [if_neg he, if_neg (fun h => he h.symm)]; omega

/-! ### the map -/
theorem pput_nodup {κ ν : Type} [DecidableEq κ] {x : κ} {v : ν} : ∀ {m : List (κ × ν)}, (m.map (·.1)).Nodup → ((pput m x v).map (·.1)).Nodup := by
  intro m h
  cases hg : pget m x with
  | none =>
    rw [pput_none hg, List.map_append]
    refine List.nodup_append.2 ⟨h, by simp, ?_⟩
    intro a ha b hb
    simp at hb; subst hb
    obtain ⟨p, hp, rfl⟩ := List.mem_map.1 ha
    exact pget_none.1 hg p hp
  | some u =>
    have : (pput m x v).map (·.1) = m.map (·.1) := by
      clear h
      induction m with
      | nil => simp [pget] at hg
      | cons p m ih =>
        obtain ⟨k, q⟩ := p
        simp only [pput]
        by_cases hk : k = x
        · simp [hk]
        · simp only [pget, hk, if_false] at hg
          simp [hk, ih hg]
    rw [this]; exact h
theorem pget_mem {κ ν : Type} [DecidableEq κ] {x : κ} {v : ν} : ∀ {m : List (κ × ν)}, pget m x = some v → (x, v) ∈ m
  | [], h => by simp [pget] at h
  | (k, u) :: m, h => by
    simp only [pget] at h
    by_cases hk : k = x
    · rw [if_pos hk] at h; cases h; subst hk; simp
    · rw [if_neg hk] at h; exact List.mem_cons_of_mem _ (pget_mem h)
theorem l2_count : ∀ (m : List ((ByteArray × ByteArray) × Int)) (v : Nat), v + m.length ≤ 1000000 → scutagelaw24_CrossOrder.l2 m (v : Int) = some (((v + (m.filter fun p => p.2 != 0).length : Nat)) : Int)
  | [], v, _ => rfl
  | p :: m, v, h => by
    simp only [List.length_cons] at h
    rw [scutagelaw24_CrossOrder.l2, List.filter_cons]
    by_cases hp : (p.2 != 0) = true
    · rw [if_pos hp, if_pos hp, w64_id (by omega) (by omega)]
      have := l2_count m (v + 1) (by omega)
      rw [show ((v : Int) + 1) = ((v + 1 : Nat) : Int) by omega, this]
      congr 2; simp only [List.length_cons]; omega
    · rw [if_neg hp, if_neg hp]
      exact l2_count m v (by omega)

/-! ### the plays -/
def fI (l : List scutagelaw24_Act) (i : Nat) (k : ByteArray × ByteArray) : Int := if (kS (rd l (i : Int)), kB (rd l (i : Int))) = k then am (rd l (i : Int)) else 0
theorem am_bd (x : scutagelaw24_Act) : 0 ≤ am x ∧ am x ≤ 999 := by
  have := (within_ok x.f_N 1000 (by omega) (by omega)).2
  unfold am; omega
theorem fI_bd (l : List scutagelaw24_Act) (i : Nat) (k : ByteArray × ByteArray) : 0 ≤ fI l i k ∧ fI l i k ≤ 999 := by
  unfold fI
  split
  · exact am_bd _
  · omega
structure Inv (l : List scutagelaw24_Act) (n k : Nat) (xs ys : List cross_Row) (mm : List ((ByteArray × ByteArray) × Int)) : Prop where
  a : KI xs
  b : KI ys
  nd : (mm.map (·.1)).Nodup
  ml : mm.length ≤ k
  sa : ∀ s b, amt s b xs = Sg (fun i => fI l i (s, b)) k
  sb : ∀ s b, amt s b ys = Sg (fun i => fI l (n - 1 - i) (s, b)) k
  sm : ∀ q, pgetD (0 : Int) mm q = Sg (fun i => fI l i q) k
theorem plays (l : List scutagelaw24_Act) (n : Nat) (hn : mn (l.length : Int) 8 = n) (hl : n ≤ l.length) (h8 : n ≤ 8) : ∀ (fuel k : Nat) (xs ys : List cross_Row) (mm : List ((ByteArray × ByteArray) × Int)), Inv l n k xs ys mm → k ≤ n → n - k < fuel →
    ∃ xs' ys' mm', scutagelaw24_CrossOrder.l1 l fuel (xs, ys, mm, (k : Int)) = some (.inr (xs', ys', mm')) ∧ Inv l n n xs' ys' mm'
  | 0, k, xs, ys, mm, _, _, hf => by omega
  | fuel + 1, k, xs, ys, mm, hI, hk, hf => by
    rw [scutagelaw24_CrossOrder.l1, hn]
    by_cases hkn : k < n
    · have hj : w64 (w64 ((n : Int) - 1) - (k : Int)) = ((n - 1 - k : Nat) : Int) := by
        rw [w64_id (x := (n : Int) - 1) (by omega) (by omega), w64_id (by omega) (by omega)]; omega
      have W : ∀ (x : scutagelaw24_Act), scutagekeep_Within x.Seller 3 = some (wi x.Seller 3) ∧ scutagekeep_Within x.Buyer 2 = some (wi x.Buyer 2) ∧ scutagekeep_Within x.f_N 1000 = some (am x) := fun x => ⟨(within_ok _ 3 (by omega) (by omega)).1, (within_ok _ 2 (by omega) (by omega)).1, (within_ok _ 1000 (by omega) (by omega)).1⟩
      have B3 : ∀ x : scutagelaw24_Act, (0 : Int) ≤ wi x.Seller 3 ∧ wi x.Seller 3 < ([(⟨#[112]⟩ : ByteArray), (⟨#[113]⟩ : ByteArray), (⟨#[114]⟩ : ByteArray)].length : Int) := fun x => (within_ok x.Seller 3 (by omega) (by omega)).2
      have B2 : ∀ x : scutagelaw24_Act, (0 : Int) ≤ wi x.Buyer 2 ∧ wi x.Buyer 2 < ([(⟨#[117]⟩ : ByteArray), (⟨#[118]⟩ : ByteArray)].length : Int) := fun x => (within_ok x.Buyer 2 (by omega) (by omega)).2
      have sbd : ∀ q, 0 ≤ Sg (fun i => fI l i q) k ∧ Sg (fun i => fI l i q) k ≤ 999 * k := fun q => Sg_bd (fun i => fI_bd l i q) k
      have sbd2 : ∀ q, 0 ≤ Sg (fun i => fI l (n - 1 - i) q) k ∧ Sg (fun i => fI l (n - 1 - i) q) k ≤ 999 * k := fun q => Sg_bd (fun i => fI_bd l _ q) k
      obtain ⟨xs', ea, hA, sA⟩ := add_ok hI.a (key_in (rd l (k : Int))) (am_bd (rd l (k : Int))) (by rw [hI.sa]; have := sbd (kS (rd l (k : Int)), kB (rd l (k : Int))); omega)
      obtain ⟨ys', eb, hB, sB⟩ := add_ok hI.b (key_in (rd l ((n - 1 - k : Nat) : Int))) (am_bd (rd l ((n - 1 - k : Nat) : Int))) (by rw [hI.sb]; have := sbd2 (kS (rd l ((n - 1 - k : Nat) : Int)), kB (rd l ((n - 1 - k : Nat) : Int))); omega)
      rw [if_pos (by simpa using hkn), gd_true (by omega), (W _).1, Option.bind_some, gd_true (B3 _), (W _).2.1, Option.bind_some, gd_true (B2 _), (W _).2.2, Option.bind_some]
      have ea' : cross_Cross_Add ⟨xs⟩ (rd [(⟨#[112]⟩ : ByteArray), (⟨#[113]⟩ : ByteArray), (⟨#[114]⟩ : ByteArray)] (wi (rd l (k : Int)).Seller 3)) (rd [(⟨#[117]⟩ : ByteArray), (⟨#[118]⟩ : ByteArray)] (wi (rd l (k : Int)).Buyer 2)) (am (rd l (k : Int))) = some (0, ⟨xs'⟩) := ea
      have eb' : cross_Cross_Add ⟨ys⟩ (rd [(⟨#[112]⟩ : ByteArray), (⟨#[113]⟩ : ByteArray), (⟨#[114]⟩ : ByteArray)] (wi (rd l ((n - 1 - k : Nat) : Int)).Seller 3)) (rd [(⟨#[117]⟩ : ByteArray), (⟨#[118]⟩ : ByteArray)] (wi (rd l ((n - 1 - k : Nat) : Int)).Buyer 2)) (am (rd l ((n - 1 - k : Nat) : Int))) = some (0, ⟨ys'⟩) := eb
      rw [ea', Option.bind_some, hj]
      show ∃ xs' ys' mm', (if ((0 : Int) != 0) = true then _ else gd _ _) = _ ∧ _
      rw [if_neg (by simp), gd_true (by omega), (W _).1, Option.bind_some, gd_true (B3 _), (W _).2.1, Option.bind_some, gd_true (B2 _), (W _).2.2, Option.bind_some, eb', Option.bind_some]
      show ∃ xs' ys' mm', (if ((0 : Int) != 0) = true then _ else scutagelaw24_CrossOrder.l1 l fuel (_, _, pput mm (kS (rd l (k : Int)), kB (rd l (k : Int))) (w64 (pgetD (0 : Int) mm (kS (rd l (k : Int)), kB (rd l (k : Int))) + am (rd l (k : Int)))), _)) = _ ∧ _
      have h1 := sbd (kS (rd l (k : Int)), kB (rd l (k : Int)))
      have h2 := am_bd (rd l (k : Int))
      rw [if_neg (by simp), hI.sm, w64_id (x := (k : Int) + 1) (by omega) (by omega), w64_id (by omega) (by omega), show ((k : Int) + 1) = ((k + 1 : Nat) : Int) by omega]
      refine plays l n hn hl h8 fuel (k + 1) xs' ys' _ ⟨hA, hB, pput_nodup hI.nd, ?_, fun s b => ?_, fun s b => ?_, fun q => ?_⟩ (by omega) (by omega)
      · have := hI.ml
        have hpl : ∀ m : List ((ByteArray × ByteArray) × Int), ∀ x v, (pput m x v).length ≤ m.length + 1 := by
          intro m x v
          induction m with
          | nil => simp [pput]
          | cons p m ih =>
            obtain ⟨k, q⟩ := p
            simp only [pput]
            split <;> simp <;> omega
        have := hpl mm (kS (rd l (k : Int)), kB (rd l (k : Int))) (Sg (fun i => fI l i (kS (rd l (k : Int)), kB (rd l (k : Int)))) k + am (rd l (k : Int)))
        omega
      · rw [sA, hI.sa, Sg, fI]; omega
      · rw [sB, hI.sb, Sg, fI]; omega
      · have := hI.sm q
        simp only [pgetD] at this ⊢
        rw [pget_put, Sg]
        by_cases hq : q = (kS (rd l (k : Int)), kB (rd l (k : Int)))
        · rw [if_pos hq, hq]
          show _ = _ + fI l k _
          rw [fI, if_pos rfl]; rfl
        · rw [if_neg hq, this]
          show _ = _ + fI l k q
          rw [fI, if_neg (fun h => hq h.symm)]; omega
    · have : k = n := by omega
      subst this
      rw [if_neg (by simp)]
      exact ⟨xs, ys, mm, rfl, hI⟩

/-! ### what is told -/
theorem rows_loop (mm : List ((ByteArray × ByteArray) × Int)) (R : List cross_Row) (hS : Srt xlt R) (hR : R.length ≤ 8) (ha : ∀ x ∈ R, 1 ≤ x.Amount ∧ pgetD (0 : Int) mm (key x) = x.Amount) : ∀ ys dn : List cross_Row, R = dn ++ ys → scutagelaw24_CrossOrder.l3 mm R ys (dn.length : Int) = some (.inr ())
  | [], dn, _ => rfl
  | y :: ys, dn, e => by
    have hlen : R.length = dn.length + (ys.length + 1) := by rw [e]; simp
    have hy := ha y (by rw [e]; simp)
    have hnext := rows_loop mm R hS hR ha ys (dn ++ [y]) (by rw [e]; simp)
    have e1 : (((dn ++ [y]).length : Nat) : Int) = (dn.length : Int) + 1 := by simp
    rw [e1] at hnext
    have hj : scutagelaw24_CrossOrder.j2 (scutagelaw24_CrossOrder.l3 mm R ys) (dn.length : Int) false = some (.inr ()) := by
      rw [scutagelaw24_CrossOrder.j2, if_neg (by simp)]; exact hnext
    have hk : pgetD (0 : Int) mm (y.Seller, y.Buyer) = y.Amount := hy.2
    rw [scutagelaw24_CrossOrder.l3, if_neg (by simp; omega), hk, if_neg (by simp)]
    by_cases h0 : (dn.length : Int) > 0
    · rw [if_pos (by simpa using h0), w64_id (by omega) (by omega), gd_true (by omega)]
      obtain ⟨dn', z, rfl⟩ : ∃ dn' z, dn = dn' ++ [z] := by
        have hne : dn ≠ [] := fun h => by rw [h] at h0; simp at h0
        exact ⟨dn.dropLast, dn.getLast hne, (List.dropLast_concat_getLast hne).symm⟩
      have hz : rd R (((dn' ++ [z]).length : Int) - 1) = z := by
        have : (((dn' ++ [z]).length : Nat) : Int) - 1 = (dn'.length : Int) := by simp
        rw [this, e]
        have := rd_mid dn' (y :: ys) z
        simpa using this
      rw [hz]
      have hlt : xlt z y = true := by
        have h := hS
        rw [e] at h
        have := (List.pairwise_append.1 h).2.2 z (by simp) y (by simp)
        exact this
      have e3 : ∀ a b : ByteArray, Op.bytesLess a.toList b.toList = slt a b := fun a b => rfl
      rw [e3, str_eq, e3, str_eq]
      rw [xlt_t] at hlt
      rcases hlt with h | ⟨h, h'⟩
      · rw [if_neg (by rw [slt_asymm h]; simp), if_neg (by simp; exact fun hh => by rw [hh, slt_irr] at h; cases h)]
        exact hj
      · rw [if_neg (by rw [h, slt_irr]; simp), if_pos (by simpa using h.symm), slt_asymm h', show decide (y.Buyer = z.Buyer) = false by simp; exact fun hh => by rw [hh, slt_irr] at h'; cases h']
        exact hj
    · rw [if_neg (by simpa using h0)]; exact hj
theorem write_loop : ∀ (ys : List cross_Row) (i : Int) (xs : List cross_Row), 0 ≤ i → i + ys.length ≤ xs.length → scutagelaw24_CrossOrder.l4 ys (i, xs) = some ()
  | [], _, _, _, _ => rfl
  | y :: ys, i, xs, h0, h => by
    simp only [List.length_cons] at h
    rw [scutagelaw24_CrossOrder.l4, gd_true (by omega)]
    exact write_loop ys (i + 1) _ (by omega) (by simp; omega)
theorem CrossOrder_true (l : List scutagelaw24_Act) : scutagelaw24_CrossOrder l = some true := by
  obtain ⟨n, hn, hl, h8⟩ : ∃ n : Nat, mn (l.length : Int) 8 = n ∧ n ≤ l.length ∧ n ≤ 8 := by
    unfold mn
    by_cases h : (8 : Int) < (l.length : Int)
    · exact ⟨8, by rw [if_pos h]; rfl, by omega, by omega⟩
    · exact ⟨l.length, by rw [if_neg h], by omega, by omega⟩
  have z6 : Inv l n 0 [] [] [] := ⟨.nil, .nil, by simp, by simp, fun _ _ => rfl, fun _ _ => rfl, fun _ => rfl⟩
  obtain ⟨xs, ys, mm, e, I⟩ := plays l n hn hl h8 FUEL 0 [] [] [] z6 (by omega) (by simp only [FUEL]; omega)
  have hxy : xs = ys := rows_ext I.a.ci.srt I.b.ci.srt (fun x hx => (I.a.ci.amt x hx).1) (fun x hx => (I.b.ci.amt x hx).1) fun s b => by
    rw [I.sa, I.sb]; exact (Sg_rev (fun i => fI l i (s, b)) n).symm
  subst hxy
  have hlen := I.a.len
  have hval : ∀ s b, pgetD (0 : Int) mm (s, b) = amt s b xs := fun s b => by rw [I.sm, I.sa]
  have hamt : ∀ x ∈ xs, 1 ≤ x.Amount ∧ pgetD (0 : Int) mm (key x) = x.Amount := fun x hx => ⟨(I.a.ci.amt x hx).1, by rw [key, hval]; exact amt_mem I.a.ci.srt hx⟩
  have hcount : xs.length = (mm.filter fun p => p.2 != 0).length := by
    have hf : ((mm.filter fun p => p.2 != 0).map (·.1)).Nodup := List.Nodup.sublist (List.Sublist.map _ List.filter_sublist) I.nd
    apply Nat.le_antisymm
    · have := len_sub (srt_keys I.a.ci.srt) (k := (mm.filter fun p => p.2 != 0).map (·.1)) fun q hq => by
        obtain ⟨x, hx, rfl⟩ := List.mem_map.1 hq
        have h := hamt x hx
        cases hg : pget mm (key x) with
        | none => rw [pgetD, hg] at h; simp at h; omega
        | some v =>
          rw [pgetD, hg] at h; simp at h
          exact List.mem_map.2 ⟨(key x, v), List.mem_filter.2 ⟨pget_mem hg, by simp; omega⟩, rfl⟩
      simpa using this
    · have := len_sub hf (k := xs.map key) fun q hq => by
        obtain ⟨p, hp, rfl⟩ := List.mem_map.1 hq
        obtain ⟨⟨s, b⟩, v⟩ := p
        obtain ⟨hp1, hp2⟩ := List.mem_filter.1 hp
        have hv := hval s b
        rw [pgetD, pget_at I.nd hp1] at hv
        simp at hv hp2
        apply Classical.byContradiction
        intro hno
        have : amt s b xs = 0 := amt_none fun x hx => by
          cases hq : xk s b x with
          | false => rfl
          | true => exact absurd (List.mem_map.2 ⟨x, hx, xk_key.1 hq⟩) hno
        omega
      simpa using this
  have e' : scutagelaw24_CrossOrder.l1 l FUEL ([], [], ([] : List ((ByteArray × ByteArray) × Int)), 0) = some (.inr (xs, xs, mm)) := e
  have hc := l2_count mm 0 (by have := I.ml; omega)
  rw [Nat.zero_add, ← hcount] at hc
  have hc' : scutagelaw24_CrossOrder.l2 mm 0 = some (xs.length : Int) := hc
  have h3 := rows_loop mm xs I.a.ci.srt (by omega) hamt xs [] rfl
  have h3' : scutagelaw24_CrossOrder.l3 mm xs xs 0 = some (.inr ()) := h3
  have hs := same_cross_Row xs (by omega)
  rw [scutagelaw24_CrossOrder]
  show (scutagelaw24_CrossOrder.l1 l FUEL ([], [], ([] : List ((ByteArray × ByteArray) × Int)), 0)).bind _ = _
  rw [e', Option.bind_some]
  show (cross_Cross_Rows ⟨xs⟩).bind _ = _
  rw [rows_ok (by omega), Option.bind_some, Option.bind_some, hs, Option.bind_some, if_neg (by simp), hc', Option.bind_some, h3', Option.bind_some]
  show (scutagelaw24_CrossOrder.l4 xs (0, xs)).bind _ = _
  rw [write_loop xs 0 xs (by omega) (by omega), Option.bind_some, if_pos (by simp), Option.bind_some, Option.bind_some, hs, Option.bind_some, if_pos rfl, wakes_ok]
  rfl
end Go.Proofs.Ytfhekejaobmacaa
