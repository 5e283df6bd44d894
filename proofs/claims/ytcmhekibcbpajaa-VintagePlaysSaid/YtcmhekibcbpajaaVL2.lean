/- What the printed functions of package vintage come to. No program in it. -/
import Derived.Test.YtcmhekibcbpajaaVL1
set_option linter.unusedVariables false
set_option linter.unusedSimpArgs false
namespace Go.Proofs.Ytcmhekibcbpajaa
open Go

def Mny (n : Int) : Prop := -100000000000 ≤ n ∧ n ≤ 100000000000
instance (n : Int) : Decidable (Mny n) := inferInstanceAs (Decidable (_ ∧ _))
theorem Mny_def {n : Int} : Mny n ↔ -100000000000 ≤ n ∧ n ≤ 100000000000 := Iff.rfl
theorem money_ok (n : Int) : rate_Money n = some (decide (Mny n)) := by
  unfold rate_Money rate_Money.j1
  by_cases h : n ≥ -100000000000
  · rw [if_pos (by simpa using h)]; congr 1; rw [decide_eq_decide, Mny_def]; omega
  · rw [if_neg (by simpa using h)]; congr 1; symm; rw [decide_eq_false_iff_not, Mny_def]; omega
theorem cmpI (x y : Int) : cmp_Compare_int x y = some (if x < y then -1 else if x > y then 1 else 0) := by
  simp only [cmp_Compare_int, cmp_isNaN_int, Option.bind_some]
  rw [if_neg (by simp), if_neg (by simp)]
  by_cases h : x < y
  · simp [h]
  · by_cases h2 : x > y <;> simp [h, h2]
theorem or2 (a b : Int) : cmp_Or_int [a, b] = some (if a ≠ 0 then a else b) := by
  simp only [cmp_Or_int, cmp_Or_int.l1]
  by_cases h : a = 0
  · by_cases h2 : b = 0 <;> simp [h, h2]
  · simp [h]

def vlt (a b : api_Vintage) : Bool := decide (a.Expiry < b.Expiry ∨ (a.Expiry = b.Expiry ∧ a.Origin < b.Origin))
theorem vlt_t {a b : api_Vintage} : vlt a b = true ↔ (a.Expiry < b.Expiry ∨ (a.Expiry = b.Expiry ∧ a.Origin < b.Origin)) := by simp only [vlt, decide_eq_true_eq]
theorem vlt_f {a b : api_Vintage} : vlt a b = false ↔ ¬ (a.Expiry < b.Expiry ∨ (a.Expiry = b.Expiry ∧ a.Origin < b.Origin)) := by simp only [vlt, decide_eq_false_iff_not]
theorem vord : Ord vlt where
  irr := fun x => by rw [vlt_f]; omega
  trans := fun x y z => by simp only [vlt_t]; omega
  neg := fun x y z => by simp only [vlt_f]; omega
def vcm : (api_Vintage × api_Vintage) → Option Int := fun x => vintage_Losses_Add_c2 x.1 x.2
theorem vcmp (x y : api_Vintage) : ∃ r, vcm (x, y) = some r ∧ decide (r < 0) = vlt x y := by
  simp only [vcm, vintage_Losses_Add_c2, cmpI, Option.bind_some, or2]
  refine ⟨_, rfl, ?_⟩
  rw [Bool.eq_iff_iff, decide_eq_true_eq, vlt_t]
  by_cases h1 : x.Expiry < y.Expiry
  · simp [h1]
  · by_cases h2 : x.Expiry > y.Expiry
    · simp [h1, h2]; omega
    · have e : x.Expiry = y.Expiry := by omega
      by_cases h3 : x.Origin < y.Origin
      · simp [e, h3]
      · by_cases h4 : x.Origin > y.Origin <;> simp [e, h3, h4]

def vsum : List api_Vintage → Int
  | [] => 0
  | v :: l => v.Left + vsum l
theorem vsum_app (a b : List api_Vintage) : vsum (a ++ b) = vsum a + vsum b := by
  induction a with
  | nil => simp [vsum]
  | cons x a ih => simp only [List.cons_append, vsum, ih]; omega
theorem vsum_nn {l : List api_Vintage} (h : ∀ v ∈ l, 1 ≤ v.Left) : 0 ≤ vsum l := by
  induction l with
  | nil => simp [vsum]
  | cons x l ih =>
    have := h x (by simp)
    have := ih fun v hv => h v (List.mem_cons_of_mem _ hv)
    simp only [vsum]; omega
theorem vsum_perm {a b : List api_Vintage} (h : a.Perm b) : vsum a = vsum b := by
  induction h with
  | nil => rfl
  | cons x _ ih => simp only [vsum, ih]
  | swap x y l => simp only [vsum]; omega
  | trans _ _ ih1 ih2 => rw [ih1, ih2]
/-- losses as they stand -/
structure VI (l : List api_Vintage) : Prop where
  srt : Srt vlt l
  len : l.length ≤ 12
  pos : ∀ v ∈ l, 1 ≤ v.Left
  sum : vsum l ≤ 100000000000
theorem VI.nil : VI [] := ⟨List.Pairwise.nil, by simp, by simp, by simp [vsum]⟩
theorem left_loop : ∀ (ys : List api_Vintage) (i v : Int), 0 ≤ v → v + vsum ys ≤ 1000000000000 → (∀ y ∈ ys, 1 ≤ y.Left) → vintage_Losses_Left.l1 ys (i, v) = some (v + vsum ys)
  | [], i, v, _, _, _ => by simp [vintage_Losses_Left.l1, vsum]
  | y :: ys, i, v, h0, h1, hp => by
    have hy := hp y (by simp)
    have hn := vsum_nn fun q hq => hp q (List.mem_cons_of_mem _ hq)
    simp only [vsum] at h1
    rw [vintage_Losses_Left.l1, w64_id (by omega) (by omega), left_loop ys _ _ (by omega) (by omega) fun q hq => hp q (List.mem_cons_of_mem _ hq)]
    simp only [vsum]; congr 1; omega
theorem left_ok {l : List api_Vintage} (h : VI l) : vintage_Losses_Left ⟨l⟩ = some (vsum l) := by
  have := h.sum
  rw [vintage_Losses_Left, left_loop l 0 0 (by omega) (by omega) h.pos, Option.bind_some, Int.zero_add]

/-! ### Add -/
def VR (o e : Int) : Prop := 0 ≤ o ∧ o ≤ 99 ∧ o ≤ e ∧ e ≤ 198
instance (o e : Int) : Decidable (VR o e) := inferInstanceAs (Decidable (_ ∧ _))
def vkey (o e : Int) (v : api_Vintage) : Bool := decide (v.Origin = o ∧ v.Expiry = e)
theorem vkey_t {o e : Int} {v : api_Vintage} : vkey o e v = true ↔ v.Origin = o ∧ v.Expiry = e := by simp only [vkey, decide_eq_true_eq]
theorem vkey_f {o e : Int} {v : api_Vintage} : vkey o e v = false ↔ ¬ (v.Origin = o ∧ v.Expiry = e) := by simp only [vkey, decide_eq_false_iff_not]
theorem VR_def {o e : Int} : VR o e ↔ 0 ≤ o ∧ o ≤ 99 ∧ o ≤ e ∧ e ≤ 198 := Iff.rfl
theorem right_ok (o e : Int) : vintage_right o e = some (decide (VR o e)) := by
  unfold vintage_right vintage_right.j1
  by_cases h1 : o ≥ 0
  · rw [if_pos (by simpa using h1)]
    by_cases h2 : o ≤ 99
    · rw [if_pos (by simpa using h2)]
      by_cases h3 : e ≥ o
      · rw [if_pos (by simpa using h3)]; congr 1; rw [decide_eq_decide, VR_def]; omega
      · rw [if_neg (by simpa using h3)]; congr 1; symm; rw [decide_eq_false_iff_not, VR_def]; omega
    · rw [if_neg (by simpa using h2)]; congr 1; symm; rw [decide_eq_false_iff_not, VR_def]; omega
  · rw [if_neg (by simpa using h1)]; congr 1; symm; rw [decide_eq_false_iff_not, VR_def]; omega
theorem c1_ok (x : api_Vintage) (o e : Int) : vintage_Losses_Add_c1 x o e = some (vkey o e x) := by
  unfold vintage_Losses_Add_c1 vintage_Losses_Add_c1.j1
  by_cases h : x.Origin = o
  · rw [if_pos (by simpa using h)]; refine congrArg some ?_; rw [Bool.eq_iff_iff]; simp [vkey, h]
  · rw [if_neg (by simpa using h)]; simp [vkey, h]
def vput (o e n : Int) (v : api_Vintage) : api_Vintage := if vkey o e v = true then ⟨v.Origin, v.Expiry, v.Left + n⟩ else v
def vAdd (l : List api_Vintage) (o e n : Int) : Int × List api_Vintage :=
  if ¬ (VR o e ∧ 1 ≤ n ∧ n ≤ 100000000000) then (1, l)
  else if vsum l + n > 100000000000 then (6, l)
  else if l.any (vkey o e) = true then (0, l.map (vput o e n))
  else if l.length ≥ 12 then (5, l)
  else (0, ins vlt ⟨o, e, n⟩ l)
theorem vput_none {o e n : Int} {l : List api_Vintage} (h : ∀ v ∈ l, vkey o e v = false) : l.map (vput o e n) = l := by
  induction l with
  | nil => rfl
  | cons x l ih =>
    rw [List.map_cons, ih fun v hv => h v (List.mem_cons_of_mem _ hv)]
    simp [vput, h x (by simp)]
theorem key_other {o e : Int} {A B : List api_Vintage} {x : api_Vintage} (hs : Srt vlt (A ++ x :: B)) (hx : vkey o e x = true) : (∀ v ∈ A, vkey o e v = false) ∧ ∀ v ∈ B, vkey o e v = false := by
  obtain ⟨g1, g2, g3⟩ := List.pairwise_append.1 hs
  rw [vkey_t] at hx
  constructor
  · intro v hv
    have := g3 v hv x (by simp)
    rw [vlt_t] at this
    rw [vkey_f]; omega
  · intro v hv
    have := (List.pairwise_cons.1 g2).1 v hv
    rw [vlt_t] at this
    rw [vkey_f]; omega
theorem vAdd_ok {l : List api_Vintage} (h : VI l) (o e n : Int) : vintage_Losses_Add ⟨l⟩ o e n = some ((vAdd l o e n).1, ⟨(vAdd l o e n).2⟩) := by
  have hs := h.sum
  have hn := vsum_nn h.pos
  have hlen := h.len
  unfold vintage_Losses_Add vAdd
  rw [index_api_Vintage l (p := vkey o e) (fun x _ => c1_ok x o e), Option.bind_some, right_ok, Option.bind_some]
  by_cases hR : VR o e ∧ 1 ≤ n ∧ n ≤ 100000000000
  · rw [if_neg (by simp [hR.1]), if_neg (by simp; omega), money_ok, Option.bind_some, if_neg (not_not_intro hR)]
    have hm : Mny n := by unfold Mny; omega
    simp only [hm, decide_true, Bool.not_true]
    unfold vintage_Losses_Add.j1
    rw [if_neg (by simp), left_ok h, Option.bind_some, w64_id (by omega) (by omega), money_ok, Option.bind_some]
    by_cases hO : vsum l + n > 100000000000
    · have : ¬ Mny (vsum l + n) := by unfold Mny; omega
      rw [if_pos (by simp [this]), if_pos hO]
    · have hM : Mny (vsum l + n) := by unfold Mny; omega
      rw [if_neg (by simp [hM]), if_neg hO]
      rcases idx_cases (vkey o e) l 0 with ⟨A, x, B, rfl, hx, hA, hr⟩ | ⟨hA, hr⟩
      · have hB := (key_other h.srt hx).2
        have hxn := h.pos x (by simp)
        have hxs : vsum (A ++ x :: B) = vsum A + (x.Left + vsum B) := by rw [vsum_app]; rfl
        have hAn := vsum_nn (l := A) fun v hv => h.pos v (by simp [hv])
        have hBn := vsum_nn (l := B) fun v hv => h.pos v (by simp [hv])
        rw [hr, Int.zero_add, if_pos (by simp), gd_true (by simp; omega), rd_mid, set_mid, if_pos (by simp [hx]), w64_id (by omega) (by omega)]
        rw [List.map_append, List.map_cons, vput_none hA, vput_none hB, vput, if_pos hx]
      · rw [hr, if_neg (by simp)]
        have hany : ¬ l.any (vkey o e) = true := by
          simp only [List.any_eq_true, not_exists, not_and]
          intro v hv; simp [hA v hv]
        rw [if_neg hany]
        by_cases hL : l.length ≥ 12
        · rw [if_pos (by simp; omega), if_pos hL]
        · rw [if_neg (by simp; omega), if_neg hL, gd_true (fit_small (by simp; omega))]
          obtain ⟨S, h1, h2, h3⟩ := sortFunc_api_Vintage vord vcmp (l ++ [⟨o, e, n⟩]) (by simp; omega)
          have hno : ∀ y ∈ l, vlt (⟨o, e, n⟩ : api_Vintage) y = true ∨ vlt y (⟨o, e, n⟩ : api_Vintage) = true := by
            intro y hy
            have := hA y hy
            rw [vkey_f] at this
            rw [vlt_t, vlt_t]
            show _ ∨ _
            simp only; omega
          have hS := sort_ins vord h3 h2 h.srt hno
          have h1' : slices_SortFunc_api_Vintage (l ++ [⟨o, e, n⟩]) (fun x => vintage_Losses_Add_c2 x.1 x.2) = some S := h1
          rw [h1', Option.bind_some, hS]
  · rw [if_pos hR]
    by_cases hV : VR o e
    · rw [if_neg (by simp [hV])]
      by_cases h1 : n < 1
      · rw [if_pos (by simpa using h1), vintage_Losses_Add.j1, if_pos rfl]
      · have hm : ¬ Mny n := by unfold Mny; intro hm; exact hR ⟨hV, by omega, hm.2⟩
        rw [if_neg (by simpa using h1), money_ok, Option.bind_some]
        simp only [hm, decide_false, Bool.not_false]
        rw [vintage_Losses_Add.j1, if_pos rfl]
    · rw [if_pos (by simp [hV]), vintage_Losses_Add.j1, if_pos rfl]
theorem vput_key (o e n : Int) (v : api_Vintage) : (vput o e n v).Origin = v.Origin ∧ (vput o e n v).Expiry = v.Expiry := by unfold vput; split <;> exact ⟨rfl, rfl⟩
theorem vAdd_inv {l : List api_Vintage} (h : VI l) (o e n : Int) : VI (vAdd l o e n).2 := by
  unfold vAdd
  by_cases hR : VR o e ∧ 1 ≤ n ∧ n ≤ 100000000000
  · rw [if_neg (not_not_intro hR)]
    by_cases hO : vsum l + n > 100000000000
    · rw [if_pos hO]; exact h
    · rw [if_neg hO]
      by_cases hany : l.any (vkey o e) = true
      · rw [if_pos hany]
        refine ⟨?_, by simpa using h.len, ?_, ?_⟩
        · refine List.pairwise_map.2 (List.Pairwise.imp (fun {a b} hab => ?_) h.srt)
          rw [vlt_t] at hab ⊢
          rw [(vput_key o e n a).1, (vput_key o e n a).2, (vput_key o e n b).1, (vput_key o e n b).2]; exact hab
        · intro v hv
          obtain ⟨q, hq, rfl⟩ := List.mem_map.1 hv
          have := h.pos q hq
          unfold vput; split
          · show 1 ≤ q.Left + n; omega
          · exact this
        · obtain ⟨x, hx, hk⟩ := List.any_eq_true.1 hany
          obtain ⟨A, B, rfl⟩ := List.append_of_mem hx
          obtain ⟨hA, hB⟩ := key_other h.srt hk
          show vsum (List.map _ _) ≤ _
          rw [List.map_append, List.map_cons, vput_none hA, vput_none hB, vput, if_pos hk]
          rw [vsum_app] at hO ⊢
          simp only [vsum] at hO ⊢; omega
      · rw [if_neg hany]
        by_cases hL : l.length ≥ 12
        · rw [if_pos hL]; exact h
        · rw [if_neg hL]
          have hno : ∀ y ∈ l, vlt (⟨o, e, n⟩ : api_Vintage) y = true ∨ vlt y (⟨o, e, n⟩ : api_Vintage) = true := by
            intro y hy
            have : vkey o e y = false := by
              cases hk : vkey o e y with
              | false => rfl
              | true => exact absurd (List.any_eq_true.2 ⟨y, hy, hk⟩) hany
            rw [vkey_f] at this
            rw [vlt_t, vlt_t]
            simp only; omega
          refine ⟨ins_srt vord h.srt hno, by show (ins vlt _ l).length ≤ 12; rw [ins_len]; omega, ?_, ?_⟩
          · intro v hv
            rcases ins_mem.1 hv with rfl | hv
            · exact hR.2.1
            · exact h.pos v hv
          · show vsum (ins vlt _ l) ≤ _
            rw [vsum_perm (ins_perm _ l)]
            simp only [vsum]; omega
  · rw [if_pos hR]; exact h

/-! ### Rows, Clone, Expire, Take -/
theorem rows_ok {l : List api_Vintage} (h : l.length ≤ 1000) : vintage_Losses_Rows ⟨l⟩ = some l := by
  rw [vintage_Losses_Rows]
  show (slices_Clone_api_Vintage l).bind _ = _
  rw [clone_api_Vintage l (by omega)]; rfl
theorem vclone_ok {l : List api_Vintage} (h : l.length ≤ 1000) : vintage_Losses_Clone ⟨l⟩ = some ⟨l⟩ := by
  rw [vintage_Losses_Clone, rows_ok h]; rfl
def over (year : Int) (v : api_Vintage) : Bool := decide (v.Expiry < year)
def vStay (l : List api_Vintage) (year : Int) : List api_Vintage := l.filter fun v => !over year v
def vGone (l : List api_Vintage) (year : Int) : Int := vsum (l.filter (over year))
theorem filter_all_false {p : api_Vintage → Bool} {l : List api_Vintage} (h : ∀ v ∈ l, p v = false) : l.filter p = [] := by
  rw [List.filter_eq_nil_iff]; intro v hv; simp [h v hv]
theorem expire_loop (year : Int) : ∀ (fuel : Nat) (l : List api_Vintage) (g : Int), Srt vlt l → (∀ v ∈ l, 1 ≤ v.Left) → l.length < fuel → l.length ≤ 1000 → 0 ≤ g → g + vsum l ≤ 1000000000000 →
    vintage_Losses_Expire.l1 year fuel (l, g) = some (.inl (g + vGone l year, ⟨vStay l year⟩))
  | 0, l, g, _, _, h, _, _, _ => by omega
  | fuel + 1, [], g, _, _, _, _, _, _ => by
    rw [vintage_Losses_Expire.l1, if_neg (by simp), vintage_Losses_Expire.j1, if_neg (by simp)]
    simp [vGone, vStay, vsum]
  | fuel + 1, x :: l, g, hs, hp, hf, hl, h0, h1 => by
    simp only [List.length_cons] at hf hl
    simp only [vsum] at h1
    have hx := hp x (by simp)
    have hn := vsum_nn (l := l) fun v hv => hp v (List.mem_cons_of_mem _ hv)
    have r0 : rd (x :: l) 0 = x := by simp [rd]
    rw [vintage_Losses_Expire.l1, if_pos (by simp <;> omega), gd_true (by simp <;> omega), r0]
    by_cases hv : x.Expiry < year
    · have e : sb (x :: l) 1 ((x :: l).length : Int) = l := by simp [sb]
      rw [vintage_Losses_Expire.j1, if_pos (by simpa using hv), gd_true (by simp <;> omega), gd_true (by simp <;> omega), e, r0, w64_id (by omega) (by omega)]
      rw [expire_loop year fuel l _ (List.pairwise_cons.1 hs).2 (fun v hv => hp v (List.mem_cons_of_mem _ hv)) (by omega) (by omega) (by omega) (by omega)]
      have ho : over year x = true := by simpa [over] using hv
      simp only [vGone, vStay, List.filter_cons, ho, if_true, vsum, Bool.not_true, Bool.false_eq_true, if_false]
      congr 3; omega
    · have ho : ∀ v ∈ x :: l, over year v = false := by
        intro v hm
        rcases List.mem_cons.1 hm with rfl | hm
        · simpa [over] using hv
        · have := (List.pairwise_cons.1 hs).1 v hm
          rw [vlt_t] at this
          simp [over]; omega
      rw [vintage_Losses_Expire.j1, if_neg (by simpa using hv)]
      simp only [vGone, vStay, filter_all_false ho, filter_none ho, vsum, Int.add_zero]
theorem expire_ok {l : List api_Vintage} (h : VI l) (year : Int) : vintage_Losses_Expire ⟨l⟩ year = some (vGone l year, ⟨vStay l year⟩) := by
  have := h.sum; have := h.len
  rw [vintage_Losses_Expire, expire_loop year FUEL l 0 h.srt h.pos (by simp only [FUEL]; omega) (by omega) (by omega) (by omega), Option.bind_some, Int.zero_add]
theorem vsum_filter (p : api_Vintage → Bool) : ∀ l : List api_Vintage, vsum l = vsum (l.filter p) + vsum (l.filter fun v => !p v)
  | [] => by simp [vsum]
  | x :: l => by
    have := vsum_filter p l
    cases h : p x <;> simp [h, vsum, List.filter_cons] <;> omega
theorem VI.filter {l : List api_Vintage} (h : VI l) (p : api_Vintage → Bool) : VI (l.filter p) := by
  refine ⟨h.srt.filter p, Nat.le_trans (List.length_filter_le _ _) h.len, fun v hv => h.pos v (List.mem_filter.1 hv).1, ?_⟩
  have h1 := vsum_filter p l
  have h2 := vsum_nn (l := l.filter fun v => !p v) fun v hv => h.pos v (List.mem_filter.1 hv).1
  have := h.sum; omega
theorem vStay_inv {l : List api_Vintage} (h : VI l) (year : Int) : VI (vStay l year) := h.filter _
theorem vGone_bd {l : List api_Vintage} (h : VI l) (year : Int) : 0 ≤ vGone l year ∧ vGone l year ≤ 100000000000 := by
  have h1 := (h.filter (over year)).sum
  have h2 := vsum_nn (h.filter (over year)).pos
  exact ⟨h2, h1⟩

/-- may so much be used? -/
def tk : List api_Vintage → List Int → Bool
  | v :: l, n :: us => decide (0 ≤ n ∧ n ≤ v.Left) && tk l us
  | _, _ => true
def tkd : List api_Vintage → List Int → List api_Vintage
  | v :: l, n :: us => ⟨v.Origin, v.Expiry, v.Left - n⟩ :: tkd l us
  | l, _ => l
def vTake (l : List api_Vintage) (used : List Int) : Int × List api_Vintage :=
  if used.length ≠ l.length ∨ tk l used = false then (1, l) else (0, (tkd l used).filter fun v => !decide (v.Left = 0))
set_option maxRecDepth 20000 in
theorem take1 (L : List api_Vintage) : ∀ (us : List Int) (l D : List api_Vintage), L = D ++ l → us.length = l.length → (D.length + l.length : Int) ≤ 1000 →
    vintage_Losses_Take.l1 ⟨L⟩ us (D.length : Int) = if tk l us = true then some (.inr ()) else some (.inl (1, ⟨L⟩))
  | [], l, D, _, hl, _ => by
    have : l = [] := List.eq_nil_of_length_eq_zero (by simpa using hl.symm)
    subst this; simp [vintage_Losses_Take.l1, tk]
  | u :: us, [], D, _, hl, _ => by simp at hl
  | u :: us, x :: l, D, hL, hl, hb => by
    simp only [List.length_cons] at hl hb
    have r : rd L (D.length : Int) = x := by rw [hL]; exact rd_mid D l x
    have hlen : (L.length : Int) = D.length + (l.length + 1) := by rw [hL]; simp
    rw [vintage_Losses_Take.l1]
    have rec_ := take1 L us l (D ++ [x]) (by rw [hL]; simp) (by omega) (by simp; omega)
    rw [show (((D ++ [x]).length : Nat) : Int) = (D.length : Int) + 1 by simp] at rec_
    by_cases h0 : u < 0
    · rw [if_pos (by simpa using h0), vintage_Losses_Take.j1, if_pos rfl, tk]
      have : ¬ (0 ≤ u ∧ u ≤ x.Left) := by omega
      simp [this]
    · rw [if_neg (by simpa using h0), gd_true ⟨by omega, by show _ < (L.length : Int); omega⟩]
      show vintage_Losses_Take.j1 _ _ _ (decide (u > (rd L _).Left)) = _
      rw [r, vintage_Losses_Take.j1, tk]
      by_cases h1 : u > x.Left
      · have : ¬ (0 ≤ u ∧ u ≤ x.Left) := by omega
        rw [if_pos (by simpa using h1)]; simp [this]
      · have : 0 ≤ u ∧ u ≤ x.Left := by omega
        rw [if_neg (by simpa using h1), rec_]; simp [this]
theorem take2 : ∀ (us : List Int) (l D : List api_Vintage), us.length = l.length → tk l us = true → (∀ v ∈ l, v.Left ≤ 1000000000000) → 
    vintage_Losses_Take.l2 us ((D.length : Int), D ++ l) = some (D ++ tkd l us)
  | [], l, D, hl, _, _ => by
    have : l = [] := List.eq_nil_of_length_eq_zero (by simpa using hl.symm)
    subst this; simp [vintage_Losses_Take.l2, tkd]
  | u :: us, [], D, hl, _, _ => by simp at hl
  | u :: us, x :: l, D, hl, ht, hb => by
    simp only [List.length_cons] at hl
    simp only [tk, Bool.and_eq_true, decide_eq_true_eq] at ht
    have hx := hb x (by simp)
    have rec_ := take2 us l (D ++ [⟨x.Origin, x.Expiry, x.Left - u⟩]) (by omega) ht.2 fun v hv => hb v (List.mem_cons_of_mem _ hv)
    rw [show (((D ++ [(⟨x.Origin, x.Expiry, x.Left - u⟩ : api_Vintage)]).length : Nat) : Int) = (D.length : Int) + 1 by simp] at rec_
    rw [vintage_Losses_Take.l2, gd_true (by simp; omega), rd_mid, set_mid, w64_id (by omega) (by omega), tkd]
    simpa using rec_
theorem vsum_mem {l : List api_Vintage} (h : ∀ v ∈ l, 1 ≤ v.Left) : ∀ v ∈ l, v.Left ≤ vsum l := by
  intro v hv
  obtain ⟨A, B, rfl⟩ := List.append_of_mem hv
  have h1 := vsum_nn (l := A) fun q hq => h q (by simp [hq])
  have h2 := vsum_nn (l := B) fun q hq => h q (by simp [hq])
  rw [vsum_app]; simp only [vsum]; omega
theorem tkd_len : ∀ (l : List api_Vintage) (us : List Int), (tkd l us).length = l.length
  | v :: l, n :: us => by simp [tkd, tkd_len l us]
  | [], us => by simp [tkd]
  | v :: l, [] => by simp [tkd]
theorem take_ok {l : List api_Vintage} (h : VI l) (used : List Int) : vintage_Losses_Take ⟨l⟩ used = some ((vTake l used).1, ⟨(vTake l used).2⟩) := by
  have hs := h.sum; have hlen := h.len
  unfold vintage_Losses_Take vTake
  by_cases hl : used.length = l.length
  · rw [if_neg (by simp; omega)]
    have h1 := take1 l used l [] rfl hl (by simp; omega)
    simp only [List.length_nil, Int.natCast_zero] at h1
    show (vintage_Losses_Take.l1 ⟨l⟩ used 0).bind _ = _
    rw [h1]
    by_cases ht : tk l used = true
    · rw [if_pos ht, Option.bind_some, if_neg (by simp [hl, ht])]
      have h2 : vintage_Losses_Take.l2 used (0, l) = some (tkd l used) := take2 used l [] hl ht fun v hv => by have := vsum_mem h.pos v hv; omega
      show (vintage_Losses_Rows ⟨l⟩).bind _ = _
      rw [rows_ok (by omega), Option.bind_some]
      rw [h2, Option.bind_some, delete_api_Vintage (p := fun v => decide (v.Left = 0)) (tkd l used) (by rw [tkd_len]; omega) (fun x _ => by rw [vintage_Losses_Take_c1]; congr 1), Option.bind_some]
    · rw [if_neg ht, Option.bind_some, if_pos (.inr (by simpa using ht))]
  · rw [if_pos (by simp; omega), if_pos (.inl hl)]
theorem tkd_inv : ∀ {l : List api_Vintage} {us : List Int}, tk l us = true → (∀ v ∈ l, 1 ≤ v.Left) → (∀ v ∈ tkd l us, 0 ≤ v.Left) ∧ vsum (tkd l us) ≤ vsum l ∧ ∀ x ∈ tkd l us, ∃ y ∈ l, y.Origin = x.Origin ∧ y.Expiry = x.Expiry
  | [], us, _, _ => by simp [tkd, vsum]
  | v :: l, [], _, hp => ⟨fun x hx => by have := hp x hx; omega, Int.le_refl _, fun x hx => ⟨x, hx, rfl, rfl⟩⟩
  | v :: l, n :: us, ht, hp => by
    simp only [tk, Bool.and_eq_true, decide_eq_true_eq] at ht
    obtain ⟨h1, h2, h3⟩ := tkd_inv ht.2 fun q hq => hp q (List.mem_cons_of_mem _ hq)
    refine ⟨fun x hx => ?_, by simp only [tkd, vsum]; omega, fun x hx => ?_⟩
    · rcases List.mem_cons.1 hx with rfl | hx
      · show 0 ≤ v.Left - n; omega
      · exact h1 x hx
    · rcases List.mem_cons.1 hx with rfl | hx
      · exact ⟨v, by simp, rfl, rfl⟩
      · obtain ⟨y, hy, e⟩ := h3 x hx
        exact ⟨y, List.mem_cons_of_mem _ hy, e⟩
theorem tkd_srt : ∀ {l : List api_Vintage} {us : List Int}, tk l us = true → (∀ v ∈ l, 1 ≤ v.Left) → Srt vlt l → Srt vlt (tkd l us)
  | [], us, _, _, h => by simpa [tkd] using h
  | v :: l, [], _, _, h => by simpa [tkd] using h
  | v :: l, n :: us, ht, hp, h => by
    simp only [tk, Bool.and_eq_true, decide_eq_true_eq] at ht
    have hp' : ∀ q ∈ l, 1 ≤ q.Left := fun q hq => hp q (List.mem_cons_of_mem _ hq)
    obtain ⟨g1, g2⟩ := List.pairwise_cons.1 h
    refine List.pairwise_cons.2 ⟨fun x hx => ?_, tkd_srt ht.2 hp' g2⟩
    obtain ⟨y, hy, e1, e2⟩ := (tkd_inv ht.2 hp').2.2 x hx
    have := g1 y hy
    rw [vlt_t] at this ⊢
    show v.Expiry < x.Expiry ∨ _
    rw [← e1, ← e2]; exact this
theorem vTake_inv {l : List api_Vintage} (h : VI l) (used : List Int) : VI (vTake l used).2 := by
  unfold vTake
  by_cases hc : used.length ≠ l.length ∨ tk l used = false
  · rw [if_pos hc]; exact h
  · rw [if_neg hc]
    have ht : tk l used = true := by
      cases hh : tk l used with
      | true => rfl
      | false => exact absurd (.inr hh) hc
    obtain ⟨h1, h2, h3⟩ := tkd_inv ht h.pos
    refine ⟨(tkd_srt ht h.pos h.srt).filter _, ?_, fun v hv => ?_, ?_⟩
    · exact Nat.le_trans (List.length_filter_le _ _) (by rw [tkd_len]; exact h.len)
    · obtain ⟨hm, hz⟩ := List.mem_filter.1 hv
      have := h1 v hm
      simp at hz; omega
    · have hf := vsum_filter (fun v => !decide (v.Left = 0)) (tkd l used)
      have hz : 0 ≤ vsum ((tkd l used).filter fun v => !!decide (v.Left = 0)) := by
        have : ∀ q : List api_Vintage, (∀ v ∈ q, 0 ≤ v.Left) → 0 ≤ vsum q := by
          intro q
          induction q with
          | nil => intro _; simp [vsum]
          | cons x q ih => intro hq; have := hq x (by simp); have := ih fun v hv => hq v (List.mem_cons_of_mem _ hv); simp only [vsum]; omega
        exact this _ fun v hv => h1 v (List.mem_filter.1 hv).1
      have := h.sum
      show vsum ((tkd l used).filter fun v => !decide (v.Left = 0)) ≤ 100000000000
      omega
end Go.Proofs.Ytcmhekibcbpajaa
