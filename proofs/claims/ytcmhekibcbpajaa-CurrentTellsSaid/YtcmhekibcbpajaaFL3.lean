/- What the printed functions of package current come to. No program in it. -/
import Derived.Test.YtcmhekibcbpajaaFL2
set_option linter.unusedVariables false
set_option linter.unusedSimpArgs false
namespace Go.Proofs.Ytcmhekibcbpajaa
open Go

def RR (n : Int) : Prop := 0 ≤ n ∧ n ≤ 1000000
instance (n : Int) : Decidable (RR n) := inferInstanceAs (Decidable (_ ∧ _))
theorem RR_def {n : Int} : RR n ↔ 0 ≤ n ∧ n ≤ 1000000 := Iff.rfl
def YR (n : Int) : Prop := 0 ≤ n ∧ n ≤ 99
instance (n : Int) : Decidable (YR n) := inferInstanceAs (Decidable (_ ∧ _))
theorem YR_def {n : Int} : YR n ↔ 0 ≤ n ∧ n ≤ 99 := Iff.rfl
theorem rright_ok (n : Int) : rate_Right n = some (decide (RR n)) := by
  unfold rate_Right rate_Right.j1
  by_cases h : n ≥ 0
  · rw [if_pos (by simpa using h)]; congr 1; rw [decide_eq_decide, RR_def]; omega
  · rw [if_neg (by simpa using h)]; congr 1; symm; rw [decide_eq_false_iff_not, RR_def]; omega
theorem cright_ok (n : Int) : current_right n = some (decide (YR n)) := by
  unfold current_right current_right.j1
  by_cases h : n ≥ 0
  · rw [if_pos (by simpa using h)]; congr 1; rw [decide_eq_decide, YR_def]; omega
  · rw [if_neg (by simpa using h)]; congr 1; symm; rw [decide_eq_false_iff_not, YR_def]; omega
theorem income_ok (b p m : Int) : bridge_Income b p m = if Mny b ∧ Mny p ∧ Mny m ∧ Mny (b + p - m) then some (b + p - m, true) else some (0, false) := by
  unfold bridge_Income
  rw [money_ok, Option.bind_some]
  by_cases hm : Mny m
  · have hm' := hm; rw [Mny_def] at hm'
    have hm2 : Mny (-m) := by rw [Mny_def]; omega
    rw [if_neg (by simp [hm]), w64_id (by omega) (by omega)]
    simp only [rate_Sum, rate_Sum.l1, money_ok, Option.bind_some]
    by_cases hb : Mny b
    · have hb' := hb; rw [Mny_def] at hb'
      rw [if_neg (by simp [hb])]
      by_cases hp : Mny p
      · have hp' := hp; rw [Mny_def] at hp'
        rw [if_neg (by simp [hp]), if_neg (by simp [hm2])]
        rw [Int.zero_add, w64_id (x := b) (by omega) (by omega), w64_id (x := b + p) (by omega) (by omega), w64_id (by omega) (by omega)]
        rw [show b + p + (0 - m) = b + p - m by omega]
        simp only [money_ok, Option.bind_some]
        by_cases hs : Mny (b + p - m)
        · rw [if_neg (by simp [hs]), if_pos ⟨hb, hp, hm, hs⟩]; rfl
        · rw [if_pos (by simp [hs]), if_neg (fun h => hs h.2.2.2)]; rfl
      · rw [if_pos (by simp [hp]), if_neg (fun h => hp h.2.1)]; rfl
    · rw [if_pos (by simp [hb]), if_neg (fun h => hb h.1)]; rfl
  · rw [if_pos (by simp [hm]), if_neg (fun h => hm h.2.2.1)]
def V (n r : Int) : Int := if 0 ≤ n then (2 * (n * r) + 1000000) / 2000000 else -((2 * (-(n * r)) + 1000000) / 2000000)
theorem prod_bound {n r : Int} (hn : 0 ≤ n) (hn2 : n ≤ 400000000000) (hr : 0 ≤ r) (hr2 : r ≤ 10000000) : 0 ≤ n * r ∧ n * r ≤ 4000000000000000000 := by
  constructor
  · exact Int.mul_nonneg hn hr
  · calc n * r ≤ 400000000000 * r := Int.mul_le_mul_of_nonneg_right hn2 hr
      _ ≤ 400000000000 * 10000000 := Int.mul_le_mul_of_nonneg_left hr2 (by omega)
      _ = 4000000000000000000 := by decide
theorem tdiv_pos {a b : Int} (ha : 0 ≤ a) : Int.tdiv a b = a / b := Int.tdiv_eq_ediv_of_nonneg ha
theorem tmod_pos {a b : Int} (ha : 0 ≤ a) : Int.tmod a b = a % b := Int.tmod_eq_emod_of_nonneg ha
theorem rateOf_ok (n r : Int) (hn0 : -400000000000 ≤ n) (hn1 : n ≤ 400000000000) (hr : 0 ≤ r) (hr2 : r ≤ 10000000) : rate_Of n r = some (V n r, true) := by
  unfold rate_Of
  rw [if_neg (by simp; omega), if_neg (by simp; omega), if_neg (by simp; omega)]
  unfold rate_Of.j1
  rw [if_neg (by simp; omega)]
  by_cases h3 : n < 0
  · rw [if_pos (by simpa using h3)]
    obtain ⟨p0, p1⟩ := prod_bound (n := -n) (r := r) (by omega) (by omega) (by omega) hr2
    rw [Int.neg_mul] at p0 p1
    have e : 2 * n * r = 2 * (n * r) := Int.mul_assoc _ _ _
    rw [w64_id (x := 2 * n) (by omega) (by omega), e, w64_id (x := 2 * (n * r)) (by omega) (by omega), w64_id (x := 2 * (n * r) - 1000000) (by omega) (by omega)]
    have e2 : Int.tdiv (2 * (n * r) - 1000000) 2000000 = -((2 * (-(n * r)) + 1000000) / 2000000) := by
      have : 2 * (n * r) - 1000000 = -(2 * (-(n * r)) + 1000000) := by omega
      rw [this, Int.neg_tdiv, tdiv_pos (by omega)]
    rw [e2, w64_id (by omega) (by omega)]
    simp only [V]
    rw [if_neg (by omega)]
  · rw [if_neg (by simpa using h3)]
    obtain ⟨p0, p1⟩ := prod_bound (n := n) (r := r) (by omega) (by omega) (by omega) hr2
    have e : 2 * n * r = 2 * (n * r) := Int.mul_assoc _ _ _
    rw [w64_id (x := 2 * n) (by omega) (by omega), e, w64_id (x := 2 * (n * r)) (by omega) (by omega), w64_id (x := 2 * (n * r) + 1000000) (by omega) (by omega)]
    rw [tdiv_pos (by omega), w64_id (by omega) (by omega)]
    simp only [V]
    rw [if_pos (by omega)]
def room (inc cap : Int) : Int := inc * cap / 1000000
theorem room_bd {inc cap : Int} (h0 : 0 ≤ inc) (h1 : Mny inc) (hc : RR cap) : 0 ≤ room inc cap ∧ room inc cap ≤ 400000000000 := by
  rw [Mny_def] at h1; rw [RR_def] at hc
  have p0 : 0 ≤ inc * cap := Int.mul_nonneg h0 hc.1
  have p1 : inc * cap ≤ 100000000000 * 1000000 := by
    calc inc * cap ≤ 100000000000 * cap := Int.mul_le_mul_of_nonneg_right h1.2 hc.1
      _ ≤ 100000000000 * 1000000 := Int.mul_le_mul_of_nonneg_left hc.2 (by omega)
  unfold room; omega
theorem room_ok {inc cap : Int} (h0 : 0 < inc) (h1 : Mny inc) (hc : RR cap) : use_Room inc cap = some (room inc cap) := by
  have h1' := h1; have hc' := hc
  rw [Mny_def] at h1'; rw [RR_def] at hc'
  have p0 : 0 ≤ inc * cap := Int.mul_nonneg (by omega) hc'.1
  have p1 : inc * cap ≤ 100000000000 * 1000000 := by
    calc inc * cap ≤ 100000000000 * cap := Int.mul_le_mul_of_nonneg_right h1'.2 hc'.1
      _ ≤ 100000000000 * 1000000 := Int.mul_le_mul_of_nonneg_left hc'.2 (by omega)
  unfold use_Room
  rw [if_neg (by simp; omega)]
  unfold rate_Floor
  rw [money_ok, Option.bind_some, if_neg (by simp [h1]), if_neg (by simp; omega), rright_ok, Option.bind_some]
  simp only [hc, decide_true, Bool.not_true]
  unfold rate_Floor.j1
  rw [if_neg (by simp), w64_id (x := inc * cap) (by omega) (by omega), tdiv_pos p0, w64_id (by omega) (by omega)]
  rfl
def vVec : List api_Vintage → Int → Int → List Int
  | [], _, _ => []
  | v :: l, y, m => (if v.Expiry ≥ y then (if v.Left < m then v.Left else m) else 0) :: vVec l y (m - (if v.Expiry ≥ y then (if v.Left < m then v.Left else m) else 0))
theorem mn_eq (a b : Int) : mn a b = if a < b then a else b := by unfold mn; split <;> split <;> omega
theorem vVec_len : ∀ (l : List api_Vintage) (y m : Int), (vVec l y m).length = l.length
  | [], _, _ => rfl
  | v :: l, y, m => by simp [vVec, vVec_len l]
theorem vec_loop (y : Int) : ∀ (l : List api_Vintage) (i m : Int) (xs : List Int), 0 ≤ m → m ≤ 1000000000000 → (∀ v ∈ l, 1 ≤ v.Left) → xs.length + l.length ≤ 1000 → use_Vector.l1 y l (i, m, xs) = some (xs ++ vVec l y m)
  | [], i, m, xs, _, _, _, _ => by simp [use_Vector.l1, vVec]
  | v :: l, i, m, xs, h0, h1, hp, hl => by
    have hv := hp v (by simp)
    simp only [List.length_cons] at hl
    have go : ∀ q : Int, q = (if v.Expiry ≥ y then (if v.Left < m then v.Left else m) else 0) → use_Vector.j1 xs (use_Vector.l1 y l) i m q = some (xs ++ vVec (v :: l) y m) := by
      intro q hq
      have hq0 : 0 ≤ q ∧ q ≤ m := by rw [hq]; split <;> (try split) <;> omega
      rw [use_Vector.j1, gd_true (fit_small (by simp; omega)), w64_id (by omega) (by omega), vec_loop y l _ _ _ (by omega) (by omega) (fun x hx => hp x (List.mem_cons_of_mem _ hx)) (by simp; omega), vVec, ← hq]
      simp
    rw [use_Vector.l1]
    by_cases h : v.Expiry ≥ y
    · rw [if_pos (by simpa using h)]; exact go _ (by rw [mn_eq, if_pos h])
    · rw [if_neg (by simpa using h)]; exact go _ (by rw [if_neg h])
theorem vector_ok {l : List api_Vintage} (y : Int) {m : Int} (h0 : 0 ≤ m) (h1 : m ≤ 1000000000000) (hp : ∀ v ∈ l, 1 ≤ v.Left) (hl : l.length ≤ 1000) : use_Vector l y m = some (vVec l y m) := by
  rw [use_Vector, show mx 0 m = m by unfold mx; split <;> omega, vec_loop y l 0 m [] h0 h1 hp (by simpa using hl)]; rfl
def isum : List Int → Int
  | [] => 0
  | x :: l => x + isum l
theorem vVec_bd (y : Int) : ∀ (l : List api_Vintage) (m : Int), 0 ≤ m → (∀ v ∈ l, 1 ≤ v.Left) → 0 ≤ isum (vVec l y m) ∧ isum (vVec l y m) ≤ m ∧ ∀ x ∈ vVec l y m, 0 ≤ x
  | [], m, h, _ => by simp [vVec, isum, h]
  | v :: l, m, h, hp => by
    have hv := hp v (by simp)
    simp only [vVec]
    generalize hq : (if v.Expiry ≥ y then (if v.Left < m then v.Left else m) else 0) = q
    have hq0 : 0 ≤ q ∧ q ≤ m := by rw [← hq]; split <;> (try split) <;> omega
    obtain ⟨a, b, c⟩ := vVec_bd y l (m - q) (by omega) fun x hx => hp x (List.mem_cons_of_mem _ hx)
    refine ⟨by simp only [isum]; omega, by simp only [isum]; omega, fun x hx => ?_⟩
    rcases List.mem_cons.1 hx with rfl | hx
    · omega
    · exact c x hx
theorem used_loop : ∀ (l : List Int) (i s : Int), 0 ≤ s → s + isum l ≤ 1000000000000 → (∀ x ∈ l, 0 ≤ x) → 0 ≤ isum l ∧ use_Used.l1 l (i, s) = some (s + isum l)
  | [], i, s, _, _, _ => by simp [use_Used.l1, isum]
  | x :: l, i, s, h0, h1, hp => by
    have hx := hp x (by simp)
    have hnn : 0 ≤ isum l := by
      have : ∀ q : List Int, (∀ x ∈ q, 0 ≤ x) → 0 ≤ isum q := by
        intro q
        induction q with
        | nil => intro _; simp [isum]
        | cons a q ih => intro hq; have := hq a (by simp); have := ih fun v hv => hq v (List.mem_cons_of_mem _ hv); simp only [isum]; omega
      exact this l fun v hv => hp v (List.mem_cons_of_mem _ hv)
    simp only [isum] at h1 ⊢
    refine ⟨by omega, ?_⟩
    rw [use_Used.l1, w64_id (by omega) (by omega), (used_loop l _ _ (by omega) (by omega) fun v hv => hp v (List.mem_cons_of_mem _ hv)).2]
    congr 1; omega
theorem used_ok {l : List Int} (h1 : isum l ≤ 1000000000000) (hp : ∀ x ∈ l, 0 ≤ x) : use_Used l = some (isum l) := by
  rw [use_Used, (used_loop l 0 0 (by omega) (by omega) hp).2, Option.bind_some, Int.zero_add]

/-! ### Tax -/
def z0 : current_Result := ⟨0, 0, 0, 0, 0, 0, []⟩
def vTax (l : List api_Vintage) (b p m cap life year r : Int) : current_Result × Option vintage_Losses × Int :=
  if ¬ (RR cap ∧ RR r ∧ YR life ∧ YR year) then (z0, none, 1)
  else if ¬ (Mny b ∧ Mny p ∧ Mny m ∧ Mny (b + p - m)) then (z0, none, 6)
  else if b + p - m > 0 then
    (⟨b + p - m, vGone l year, isum (vVec (vStay l year) year (room (b + p - m) cap)), 0, b + p - m - isum (vVec (vStay l year) year (room (b + p - m) cap)), V (b + p - m - isum (vVec (vStay l year) year (room (b + p - m) cap))) r, vVec (vStay l year) year (room (b + p - m) cap)⟩,
      some ⟨(vTake (vStay l year) (vVec (vStay l year) year (room (b + p - m) cap))).2⟩, 0)
  else if b + p - m < 0 then
    if (vAdd (vStay l year) year (year + life) (-(b + p - m))).1 ≠ 0 then (z0, none, (vAdd (vStay l year) year (year + life) (-(b + p - m))).1)
    else (⟨b + p - m, vGone l year, 0, -(b + p - m), 0, V 0 r, []⟩, some ⟨(vAdd (vStay l year) year (year + life) (-(b + p - m))).2⟩, 0)
  else (⟨0, vGone l year, 0, 0, 0, V 0 r, []⟩, some ⟨vStay l year⟩, 0)
theorem tax_ok {l : List api_Vintage} (h : VI l) (b p m cap life year r : Int) : current_Tax ⟨l⟩ b p m cap life year r = some (vTax l b p m cap life year r) := by
  unfold current_Tax vTax
  rw [rright_ok, Option.bind_some, rright_ok, Option.bind_some, cright_ok, Option.bind_some, cright_ok, Option.bind_some]
  by_cases hA : RR cap ∧ RR r ∧ YR life ∧ YR year
  · obtain ⟨h1, h2, h3, h4⟩ := hA
    rw [if_neg (by simp [h1]), if_neg (by simp [h2]), if_neg (by simp [h3]), if_neg (not_not_intro ⟨h1, h2, h3, h4⟩)]
    simp only [h4, decide_true, Bool.not_true]
    unfold current_Tax.j1
    rw [if_neg (by simp), income_ok]
    by_cases hB : Mny b ∧ Mny p ∧ Mny m ∧ Mny (b + p - m)
    · rw [if_pos hB, if_neg (not_not_intro hB), Option.bind_some]
      have hM := hB.2.2.2
      generalize b + p - m = inc at hM ⊢
      have hM' := hM; rw [Mny_def] at hM'
      rw [RR_def] at h2
      have h4' := h4; rw [YR_def] at h4'
      have h3' := h3; rw [YR_def] at h3'
      have hI := vStay_inv h year
      show (if (!true) = true then _ else _) = _
      rw [if_neg (by simp)]
      show (vintage_Losses_Clone ⟨l⟩).bind _ = _
      rw [vclone_ok (by have := h.len; omega), Option.bind_some]
      show (vintage_Losses_Expire ⟨l⟩ year).bind _ = _
      rw [expire_ok h, Option.bind_some]
      by_cases hi : inc > 0
      · have hr := room_bd (cap := cap) (by omega) hM h1
        obtain ⟨v0, v1, v2⟩ := vVec_bd year (vStay l year) (room inc cap) hr.1 hI.pos
        rw [if_pos hi]
        show (if decide (inc > 0) = true then _ else _) = _
        rw [if_pos (by simpa using hi)]
        show (vintage_Losses_Rows ⟨vStay l year⟩).bind _ = _
        rw [rows_ok (by have := hI.len; omega), Option.bind_some, room_ok (by omega) hM h1, Option.bind_some, vector_ok year hr.1 (by omega) hI.pos (by have := hI.len; omega), Option.bind_some, used_ok (by omega) v2, Option.bind_some]
        show (vintage_Losses_Take ⟨vStay l year⟩ _).bind _ = _
        rw [take_ok hI, Option.bind_some]
        show current_Tax.j2 _ _ _ _ _ _ _ = _
        have hu : isum (vVec (vStay l year) year (room inc cap)) ≤ inc := by
          refine Int.le_trans v1 ?_
          unfold room
          have : inc * cap ≤ inc * 1000000 := Int.mul_le_mul_of_nonneg_left (by rw [RR_def] at h1; exact h1.2) (by omega)
          omega
        unfold current_Tax.j2
        rw [w64_id (x := inc - _) (by omega) (by omega), Int.add_zero, w64_id (by omega) (by omega), rateOf_ok _ _ (by omega) (by omega) h2.1 (by omega)]
        rfl
      · rw [if_neg hi]
        show (if decide (inc > 0) = true then _ else _) = _
        rw [if_neg (by simpa using hi)]
        by_cases hj : inc < 0
        · rw [if_pos (by simpa using hj), if_pos hj, w64_id (by omega) (by omega), w64_id (by omega) (by omega), show 0 - inc = -inc by omega]
          show (vintage_Losses_Add ⟨vStay l year⟩ _ _ _).bind _ = _
          rw [vAdd_ok hI, Option.bind_some]
          show (if ((vAdd (vStay l year) year (year + life) (-inc)).1 != 0) = true then _ else _) = _
          by_cases he : (vAdd (vStay l year) year (year + life) (-inc)).1 = 0
          · rw [if_neg (by simp [he]), if_neg (by simp [he])]
            unfold current_Tax.j2
            rw [Int.sub_zero, w64_id (x := inc) (by omega) (by omega), show inc + -inc = 0 by omega, w64_id (x := 0) (by omega) (by omega), rateOf_ok 0 r (by omega) (by omega) h2.1 (by omega)]
            rfl
          · rw [if_pos (by simpa using he), if_pos he]; rfl
        · have e : inc = 0 := by omega
          subst e
          rw [if_neg (by simp), if_neg (by omega)]
          unfold current_Tax.j2
          rw [show w64 (w64 (0 - 0) + 0) = 0 from by decide, rateOf_ok 0 r (by omega) (by omega) h2.1 (by omega)]
          rfl
    · rw [if_neg hB, if_pos hB]; rfl
  · rw [if_pos hA]
    have hj : current_Tax.j1 b p m ⟨l⟩ year cap r life true = some (z0, none, 1) := by unfold current_Tax.j1; rw [if_pos rfl]; rfl
    by_cases h1 : RR cap
    · rw [if_neg (by simp [h1])]
      by_cases h2 : RR r
      · rw [if_neg (by simp [h2])]
        by_cases h3 : YR life
        · rw [if_neg (by simp [h3])]
          have h4 : ¬ YR year := fun h4 => hA ⟨h1, h2, h3, h4⟩
          simp only [h4, decide_false, Bool.not_false]
          exact hj
        · rw [if_pos (by simp [h3])]; exact hj
      · rw [if_pos (by simp [h2])]; exact hj
    · rw [if_pos (by simp [h1])]; exact hj
theorem vTax_inv {l : List api_Vintage} (h : VI l) (b p m cap life year r : Int) : ∀ q, (vTax l b p m cap life year r).2.1 = some q → VI q.f_l := by
  intro q
  have hI := vStay_inv h year
  unfold vTax
  split
  · intro h; cases h
  split
  · intro h; cases h
  split
  · intro h; cases h; exact vTake_inv hI _
  split
  · split
    · intro h; cases h
    · intro h; cases h; exact vAdd_inv hI _ _ _
  · intro h; cases h; exact hI
end Go.Proofs.Ytcmhekibcbpajaa
