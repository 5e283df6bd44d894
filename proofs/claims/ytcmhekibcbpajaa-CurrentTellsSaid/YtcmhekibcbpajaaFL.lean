/- The plain law of CurrentTells. No program in it. -/
import Derived.Test.YtcmhekibcbpajaaFL4
import Derived.Test.YtcmhekibcbpajaaFL5
import Derived.Test.YtcmhekibcbpajaaFL0
set_option linter.unusedVariables false
set_option linter.unusedSimpArgs false
namespace Go.Proofs.Ytcmhekibcbpajaa
open Go

theorem within_ok (v n : Int) (h1 : 1 ≤ n) (h2 : n ≤ 1000000000000) : ∃ k, scutagekeep_Within v n = some k ∧ 0 ≤ k ∧ k < n := by
  unfold scutagekeep_Within scutagekeep_Within.j1
  have hlt : Int.tmod v n < n := Int.tmod_lt_of_pos v (by omega)
  have hgt : -n < Int.tmod v n := by
    have := Int.tmod_lt_of_pos (-v) (b := n) (by omega)
    rw [Int.neg_tmod] at this; omega
  rw [if_neg (by simp; omega), gd_true (by omega)]
  by_cases h : Int.tmod v n < 0
  · refine ⟨Int.tmod v n + n, ?_, by omega, by omega⟩
    rw [if_pos (by simpa using h), w64_id (by omega) (by omega)]
  · refine ⟨Int.tmod v n, ?_, by omega, by omega⟩
    rw [if_neg (by simpa using h)]
theorem amount_ok (n : Int) : ∃ k, scutageplay_Amount n = some k := by
  unfold scutageplay_Amount
  obtain ⟨a, ha, _⟩ := within_ok (w64 (Int.tdiv n 23)) 5 (by omega) (by omega)
  obtain ⟨b, hb, _⟩ := within_ok (w64 (Int.tdiv n 23)) 200000000001 (by omega) (by omega)
  obtain ⟨c, hc, _⟩ := within_ok n 4001 (by omega) (by omega)
  rw [ha, hb, hc]
  simp only [Option.bind_some]
  split
  · exact ⟨_, rfl⟩
  split
  · exact ⟨_, rfl⟩
  split
  · exact ⟨_, rfl⟩
  split <;> exact ⟨_, rfl⟩
theorem prate_ok (n : Int) : ∃ k, scutageplay_Rate n = some k := by
  unfold scutageplay_Rate
  obtain ⟨a, ha, a0, a1⟩ := within_ok n 10 (by omega) (by omega)
  rw [ha]
  split
  · exact ⟨_, rfl⟩
  · rw [Option.bind_some, gd_true ⟨a0, a1⟩]; exact ⟨_, rfl⟩
theorem wakes_ok : scutagelaw15_wakes = some true := by decide +kernel

/-! ### the document's tax -/
theorem rmoney_ok (n : Int) : scutageref01_Money n = some (decide (Mny n)) := by
  unfold scutageref01_Money scutageref01_Money.j1
  by_cases h : n ≥ -100000000000
  · rw [if_pos (by simpa using h)]; congr 1; rw [decide_eq_decide, Mny_def]; omega
  · rw [if_neg (by simpa using h)]; congr 1; symm; rw [decide_eq_false_iff_not, Mny_def]; omega
theorem rright2_ok (n : Int) : scutageref01_Right n = some (decide (RR n)) := by
  unfold scutageref01_Right scutageref01_Right.j1
  by_cases h : n ≥ 0
  · rw [if_pos (by simpa using h)]; congr 1; rw [decide_eq_decide, RR_def]; omega
  · rw [if_neg (by simpa using h)]; congr 1; symm; rw [decide_eq_false_iff_not, RR_def]; omega
theorem ryear2_ok (n : Int) : scutageref09_Year n = some (decide (YR n)) := by
  rw [ryear_ok]; congr 1
theorem rincome_ok (b p m : Int) : scutageref09_Income b p m = if Mny b ∧ Mny p ∧ Mny m ∧ Mny (b + p - m) then some (b + p - m, true) else some (0, false) := by
  unfold scutageref09_Income
  have hj : scutageref09_Income.j1 b p m true = some (0, false) := by unfold scutageref09_Income.j1; rw [if_pos rfl]
  rw [rmoney_ok, Option.bind_some]
  by_cases hb : Mny b
  · have hb' := hb; rw [Mny_def] at hb'
    rw [if_neg (by simp [hb]), rmoney_ok, Option.bind_some]
    by_cases hp : Mny p
    · have hp' := hp; rw [Mny_def] at hp'
      rw [if_neg (by simp [hp]), rmoney_ok, Option.bind_some]
      by_cases hm : Mny m
      · have hm' := hm; rw [Mny_def] at hm'
        have hw : w64 (w64 (b + p) - m) = b + p - m := by rw [w64_id (x := b + p) (by omega) (by omega), w64_id (by omega) (by omega)]
        rw [if_neg (by simp [hm]), rmoney_ok, Option.bind_some, hw]
        unfold scutageref09_Income.j1
        rw [hw]
        by_cases hs : Mny (b + p - m)
        · rw [if_neg (by simp [hs]), if_pos ⟨hb, hp, hm, hs⟩]
        · rw [if_pos (by simp [hs]), if_neg (fun h => hs h.2.2.2)]
      · rw [if_pos (by simp [hm]), if_neg (fun h => hm h.2.2.1)]; exact hj
    · rw [if_pos (by simp [hp]), if_neg (fun h => hp h.2.1)]; exact hj
  · rw [if_pos (by simp [hb]), if_neg (fun h => hb h.1)]; exact hj
theorem rroom_ok {inc cap : Int} (h0 : 0 < inc) (h1 : Mny inc) (hc : RR cap) : scutageref09_Room inc cap = some (room inc cap) := by
  have h1' := h1; have hc' := hc
  rw [Mny_def] at h1'; rw [RR_def] at hc'
  have p0 : 0 ≤ inc * cap := Int.mul_nonneg (by omega) hc'.1
  have p1 : inc * cap ≤ 100000000000 * 1000000 := by
    calc inc * cap ≤ 100000000000 * cap := Int.mul_le_mul_of_nonneg_right h1'.2 hc'.1
      _ ≤ 100000000000 * 1000000 := Int.mul_le_mul_of_nonneg_left hc'.2 (by omega)
  unfold scutageref09_Room scutageref01_Floor
  rw [if_neg (by simp; omega), rmoney_ok, Option.bind_some, if_neg (by simp [h1]), rright2_ok, Option.bind_some]
  simp only [hc, decide_true, Bool.not_true]
  unfold scutageref01_Floor.j1
  rw [if_neg (by simp), w64_id (x := inc * cap) (by omega) (by omega), tdiv_pos p0, w64_id (by omega) (by omega)]
  rfl
theorem rvec_loop (y : Int) : ∀ (l : List api_Vintage) (i m : Int) (xs : List Int), 0 ≤ m → m ≤ 1000000000000 → (∀ v ∈ l, 1 ≤ v.Left) → xs.length + l.length ≤ 1000 → scutageref09_Vector.l1 y l (i, m, xs) = some (xs ++ vVec l y m)
  | [], i, m, xs, _, _, _, _ => by simp [scutageref09_Vector.l1, vVec]
  | v :: l, i, m, xs, h0, h1, hp, hl => by
    have hv := hp v (by simp)
    simp only [List.length_cons] at hl
    have go : ∀ q : Int, q = (if v.Expiry ≥ y then (if v.Left < m then v.Left else m) else 0) → scutageref09_Vector.j1 xs (scutageref09_Vector.l1 y l) i m q = some (xs ++ vVec (v :: l) y m) := by
      intro q hq
      have hq0 : 0 ≤ q ∧ q ≤ m := by rw [hq]; split <;> (try split) <;> omega
      rw [scutageref09_Vector.j1, gd_true (fit_small (by simp; omega)), w64_id (by omega) (by omega), rvec_loop y l _ _ _ (by omega) (by omega) (fun x hx => hp x (List.mem_cons_of_mem _ hx)) (by simp; omega), vVec, ← hq]
      simp
    have hmx : mx m 0 = m := by unfold mx; split <;> omega
    rw [scutageref09_Vector.l1, hmx]
    by_cases h : v.Expiry ≥ y
    · rw [if_pos (by simpa using h)]; exact go _ (by rw [mn_eq, if_pos h])
    · rw [if_neg (by simpa using h)]; exact go _ (by rw [if_neg h])
theorem rvector_ok {l : List api_Vintage} (y : Int) {m : Int} (h0 : 0 ≤ m) (h1 : m ≤ 1000000000000) (hp : ∀ v ∈ l, 1 ≤ v.Left) (hl : l.length ≤ 1000) : scutageref09_Vector l y m = some (vVec l y m) := by
  rw [scutageref09_Vector, rvec_loop y l 0 m [] h0 h1 hp (by simpa using hl)]; rfl
theorem total_loop : ∀ (l : List Int) (i s : Int), 0 ≤ s → s + isum l ≤ 1000000000000 → (∀ x ∈ l, 0 ≤ x) → 0 ≤ isum l ∧ scutageref09_total.l1 l (i, s) = some (s + isum l)
  | [], i, s, _, _, _ => by simp [scutageref09_total.l1, isum]
  | x :: l, i, s, h0, h1, hp => by
    have hx := hp x (by simp)
    have hnn := (used_loop l 0 0 (by omega) (by
      have : 0 ≤ x := hx
      simp only [isum] at h1; omega) fun v hv => hp v (List.mem_cons_of_mem _ hv)).1
    simp only [isum] at h1 ⊢
    refine ⟨by omega, ?_⟩
    rw [scutageref09_total.l1, w64_id (by omega) (by omega), (total_loop l _ _ (by omega) (by omega) fun v hv => hp v (List.mem_cons_of_mem _ hv)).2]
    congr 1; omega
theorem total_ok {l : List Int} (h1 : isum l ≤ 1000000000000) (hp : ∀ x ∈ l, 0 ≤ x) : scutageref09_total l = some (isum l) := by
  rw [scutageref09_total, (total_loop l 0 0 (by omega) (by omega) hp).2, Option.bind_some, Int.zero_add]
def toR (a : current_Result) : scutageref09_Result := ⟨a.Income, a.Expired, a.Used, a.New, a.Taxable, a.Tax, a.Vector⟩
def toL (q : vintage_Losses) : scutageref09_Losses := ⟨q.f_l⟩
theorem rtax_ok {l : List api_Vintage} (h : VI l) (b p m cap life year r : Int) : scutageref09_Tax ⟨l⟩ b p m cap life year r = some (toR (vTax l b p m cap life year r).1, (vTax l b p m cap life year r).2.1.map toL, (vTax l b p m cap life year r).2.2) := by
  unfold scutageref09_Tax vTax
  rw [rright2_ok, Option.bind_some, rright2_ok, Option.bind_some, ryear2_ok, Option.bind_some, ryear2_ok, Option.bind_some]
  by_cases hA : RR cap ∧ RR r ∧ YR life ∧ YR year
  · obtain ⟨h1, h2, h3, h4⟩ := hA
    rw [if_neg (by simp [h1]), if_neg (by simp [h2]), if_neg (by simp [h3]), if_neg (not_not_intro ⟨h1, h2, h3, h4⟩)]
    simp only [h4, decide_true, Bool.not_true]
    unfold scutageref09_Tax.j1
    rw [if_neg (by simp), rincome_ok]
    by_cases hB : Mny b ∧ Mny p ∧ Mny m ∧ Mny (b + p - m)
    · rw [if_pos hB, if_neg (not_not_intro hB), Option.bind_some]
      have hM := hB.2.2.2
      generalize b + p - m = inc at hM ⊢
      have hM' := hM; rw [Mny_def] at hM'
      rw [RR_def] at h2
      have h4' := h4; rw [YR_def] at h4'
      have h3' := h3; rw [YR_def] at h3'
      have hI := vStay_inv h year
      have hcp : scutageref09_Losses_Copy ⟨l⟩ = some ⟨l⟩ := by
        rw [scutageref09_Losses_Copy, gd_true (fit_small (by have := h.len; simp; omega))]; rfl
      show (if (!true) = true then _ else _) = _
      rw [if_neg (by simp)]
      show (scutageref09_Losses_Copy ⟨l⟩).bind _ = _
      rw [hcp, Option.bind_some]
      show (scutageref09_Losses_Expire ⟨l⟩ year).bind _ = _
      rw [rexpire_ok h, Option.bind_some]
      by_cases hi : inc > 0
      · have hr := room_bd (cap := cap) (by omega) hM h1
        obtain ⟨v0, v1, v2⟩ := vVec_bd year (vStay l year) (room inc cap) hr.1 hI.pos
        rw [if_pos hi]
        show (if decide (inc > 0) = true then _ else _) = _
        rw [if_pos (by simpa using hi), rroom_ok (by omega) hM h1, Option.bind_some]
        show (scutageref09_Vector (vStay l year) year (room inc cap)).bind _ = _
        rw [rvector_ok year hr.1 (by omega) hI.pos (by have := hI.len; omega), Option.bind_some, total_ok (by omega) v2, Option.bind_some]
        show (scutageref09_Losses_Take ⟨vStay l year⟩ _).bind _ = _
        rw [rtake_ok hI, Option.bind_some]
        show scutageref09_Tax.j2 _ _ _ _ _ _ _ = _
        have hu : isum (vVec (vStay l year) year (room inc cap)) ≤ inc := by
          refine Int.le_trans v1 ?_
          unfold room
          have : inc * cap ≤ inc * 1000000 := Int.mul_le_mul_of_nonneg_left (by rw [RR_def] at h1; exact h1.2) (by omega)
          omega
        unfold scutageref09_Tax.j2
        rw [w64_id (x := inc - _) (by omega) (by omega), Int.add_zero, w64_id (by omega) (by omega), part_ok _ _ (by omega) h2.1 (by omega)]
        rfl
      · rw [if_neg hi]
        show (if decide (inc > 0) = true then _ else _) = _
        rw [if_neg (by simpa using hi)]
        by_cases hj : inc < 0
        · rw [if_pos (by simpa using hj), if_pos hj, w64_id (by omega) (by omega), w64_id (by omega) (by omega), show 0 - inc = -inc by omega]
          show (scutageref09_Losses_Add ⟨vStay l year⟩ _ _ _).bind _ = _
          rw [rvAdd_ok hI, Option.bind_some]
          show (if ((vAdd (vStay l year) year (year + life) (-inc)).1 != 0) = true then _ else _) = _
          by_cases he : (vAdd (vStay l year) year (year + life) (-inc)).1 = 0
          · rw [if_neg (by simp [he]), if_neg (by simp [he])]
            unfold scutageref09_Tax.j2
            rw [Int.sub_zero, w64_id (x := inc) (by omega) (by omega), show inc + -inc = 0 by omega, w64_id (x := 0) (by omega) (by omega), part_ok 0 r (by omega) h2.1 (by omega)]
            rfl
          · rw [if_pos (by simpa using he), if_pos he]; rfl
        · have e : inc = 0 := by omega
          subst e
          rw [if_neg (by simp), if_neg (by omega)]
          unfold scutageref09_Tax.j2
          rw [show w64 (w64 (0 - 0) + 0) = 0 from by decide, part_ok 0 r (by omega) h2.1 (by omega)]
          rfl
    · rw [if_neg hB, if_pos hB]; rfl
  · rw [if_pos hA]
    have hj : scutageref09_Tax.j1 b p m ⟨l⟩ year cap r life true = some (toR z0, none, 1) := by unfold scutageref09_Tax.j1; rw [if_pos rfl]; rfl
    by_cases h1 : RR cap
    · rw [if_neg (by simp [h1])]
      by_cases h2 : RR r
      · rw [if_neg (by simp [h2])]
        by_cases h3 : YR life
        · rw [if_neg (by simp [h3])]
          have h4 : ¬ YR year := fun h4 => hA ⟨h1, h2, h3, h4⟩
          simp only [h4, decide_false, Bool.not_false]
          exact hj
        · rw [if_pos (by simp [h3])]; exact hj
      · rw [if_pos (by simp [h2])]; exact hj
    · rw [if_pos (by simp [h1])]; exact hj
theorem vTax_code (l : List api_Vintage) (b p m cap life year r : Int) : (∃ q, (vTax l b p m cap life year r).2.1 = some q ∧ (vTax l b p m cap life year r).2.2 = 0) ∨ ((vTax l b p m cap life year r).2.1 = none ∧ (vTax l b p m cap life year r).2.2 ≠ 0) := by
  unfold vTax
  split
  · exact .inr ⟨rfl, by decide⟩
  split
  · exact .inr ⟨rfl, by decide⟩
  split
  · exact .inl ⟨_, rfl, rfl⟩
  split
  · split
    · rename_i h; exact .inr ⟨rfl, h⟩
    · exact .inl ⟨_, rfl, rfl⟩
  · exact .inl ⟨_, rfl, rfl⟩

/-! ### losses of numbers -/
structure VO (l : List api_Vintage) : Prop extends VI l where
  rgt : ∀ v ∈ l, VR v.Origin v.Expiry
theorem VO.nil : VO [] := ⟨.nil, by simp⟩
theorem vAdd_rgt {l : List api_Vintage} (h : VO l) (o e n : Int) : VO (vAdd l o e n).2 := by
  refine ⟨vAdd_inv h.toVI o e n, ?_⟩
  unfold vAdd
  split
  · exact h.rgt
  split
  · exact h.rgt
  split
  · intro v hv
    obtain ⟨q, hq, rfl⟩ := List.mem_map.1 hv
    rw [(vput_key o e n q).1, (vput_key o e n q).2]; exact h.rgt q hq
  split
  · exact h.rgt
  · rename_i h1 _ _ _
    intro v hv
    rcases ins_mem.1 hv with rfl | hv
    · exact (Classical.byContradiction fun hh => h1 hh : VR o e ∧ _).1
    · exact h.rgt v hv
theorem losses_loop (l : List Int) : ∀ (fuel : Nat) (xs : List api_Vintage) (v : Int), VO xs → 0 ≤ v → v ≤ 8 → (8 - v).toNat < fuel → ∃ xs', VO xs' ∧ scutageplay_Losses.l1 l fuel (xs, v) = some xs'
  | 0, xs, v, _, _, _, h => by omega
  | fuel + 1, xs, v, hx, h0, h1, hf => by
    rw [scutageplay_Losses.l1]
    have stop : ∃ xs', VO xs' ∧ scutageplay_Losses.j1 v l xs (scutageplay_Losses.l1 l fuel) false = some xs' := ⟨xs, hx, by rw [scutageplay_Losses.j1, if_neg (by simp)]⟩
    by_cases hl : v < (l.length : Int)
    · rw [if_pos (by simpa using hl)]
      by_cases h8 : v < 8
      · obtain ⟨a, ha, a0, a1⟩ := within_ok (rd l v) 5 (by omega) (by omega)
        obtain ⟨b, hb, b0, b1⟩ := within_ok (w64 (Int.tdiv (rd l v) 5)) 5 (by omega) (by omega)
        obtain ⟨c, hc⟩ := amount_ok (w64 (Int.tdiv (rd l v) 25))
        rw [decide_eq_true h8, scutageplay_Losses.j1, if_pos rfl, gd_true ⟨h0, hl⟩, ha, Option.bind_some, hb, Option.bind_some, hc, Option.bind_some, rvAdd_ok hx.toVI, Option.bind_some]
        obtain ⟨xs', k1, k2⟩ := losses_loop l fuel _ (v + 1) (vAdd_rgt hx a (w64 (a + b)) (mx c 1)) (by omega) (by omega) (by omega)
        refine ⟨xs', k1, ?_⟩
        show scutageplay_Losses.l1 l fuel (_, w64 (v + 1)) = _
        rw [w64_id (x := v + 1) (by omega) (by omega)]; exact k2
      · rw [decide_eq_false h8]; exact stop
    · rw [if_neg (by simpa using hl)]; exact stop
theorem losses_ok (l : List Int) : ∃ xs, VO xs ∧ scutageplay_Losses l = some ⟨xs⟩ := by
  obtain ⟨xs, h1, h2⟩ := losses_loop l FUEL [] 0 .nil (by omega) (by omega) (by simp only [FUEL]; omega)
  exact ⟨xs, h1, by rw [scutageplay_Losses, h2]; rfl⟩
theorem ins_last {x : api_Vintage} : ∀ {D : List api_Vintage}, (∀ v ∈ D, vlt v x = true) → ins vlt x D = D ++ [x]
  | [], _ => rfl
  | y :: D, h => by
    have hy := vord.asymm (h y (by simp))
    rw [ins, if_neg (by simp [hy]), ins_last fun v hv => h v (List.mem_cons_of_mem _ hv)]; rfl
theorem VI.pre {A B : List api_Vintage} (h : VI (A ++ B)) : VI A := by
  refine ⟨(List.pairwise_append.1 h.srt).1, by have := h.len; simp at this; omega, fun v hv => h.pos v (by simp [hv]), ?_⟩
  have h1 := h.sum
  have h2 := vsum_nn (l := B) fun v hv => h.pos v (by simp [hv])
  rw [vsum_app] at h1; omega
theorem of_loop : ∀ (ys D : List api_Vintage) (i : Int), VO (D ++ ys) → scutagelaw13_Of.l1 ys (i, D) = some (.inr (D ++ ys))
  | [], D, i, _ => by simp [scutagelaw13_Of.l1]
  | y :: ys, D, i, h => by
    have hD : VI D := h.toVI.pre
    have e : D ++ y :: ys = (D ++ [y]) ++ ys := by simp
    have h2 : VI (D ++ [y]) := (e ▸ h.toVI).pre
    have hlt : ∀ v ∈ D, vlt v y = true := fun v hv => (List.pairwise_append.1 h.srt).2.2 v hv y (by simp)
    have hy := h.pos y (by simp)
    have hr := h.rgt y (by simp)
    have hs := h2.sum
    rw [vsum_app] at hs
    simp only [vsum] at hs
    have hDn := vsum_nn hD.pos
    have ha : vAdd D y.Origin y.Expiry y.Left = (0, D ++ [y]) := by
      unfold vAdd
      rw [if_neg (not_not_intro ⟨hr, hy, by omega⟩), if_neg (by omega), if_neg, if_neg (by have := h2.len; simp at this; omega)]
      · rw [show (⟨y.Origin, y.Expiry, y.Left⟩ : api_Vintage) = y from rfl, ins_last hlt]
      · simp only [List.any_eq_true, not_exists, not_and]
        intro v hv
        have := hlt v hv
        rw [vlt_t] at this
        rw [vkey_t]; omega
    rw [scutagelaw13_Of.l1, vAdd_ok hD, ha, Option.bind_some]
    show (if ((0 : Int) != 0) = true then _ else scutagelaw13_Of.l1 ys (i + 1, D ++ [y])) = _
    rw [if_neg (by simp), of_loop ys (D ++ [y]) _ (e ▸ h), ← e]
theorem vof_ok {l : List api_Vintage} (h : VO l) : scutagelaw13_Of ⟨l⟩ = some (some ⟨l⟩) := by
  rw [scutagelaw13_Of]
  show (scutagelaw13_Of.l1 l (0, [])).bind _ = _
  rw [of_loop l [] 0 h]; rfl

/-! ### the whole -/
theorem same_ok (a : current_Result) (h : a.Vector.length ≤ 1000) : scutagelaw15_Same a (toR a) = some true := by
  unfold scutagelaw15_Same toR
  simp only [beq_self_eq_true, if_true]
  rw [same_int _ (by omega)]; rfl
theorem vTax_vec {l : List api_Vintage} (h : VI l) (b p m cap life year r : Int) : (vTax l b p m cap life year r).1.Vector.length ≤ 1000 := by
  have := (vStay_inv h year).len
  unfold vTax
  split
  · simp [z0]
  split
  · simp [z0]
  split
  · show (vVec _ _ _).length ≤ 1000
    rw [vVec_len]; omega
  split
  · split
    · simp [z0]
    · simp
  · simp
theorem tells_j1 {l : List api_Vintage} (h : VI l) (b p m cap life year r : Int) : scutagelaw15_CurrentTells.j1 ⟨l⟩ b p m ⟨l⟩ cap life year r = some true := by
  have hlen := h.len
  have hrow : vintage_Losses_Rows ⟨l⟩ = some l := rows_ok (by omega)
  have hsm := same_api_Vintage l (by omega)
  have hS := same_ok _ (vTax_vec h b p m cap life year r)
  unfold scutagelaw15_CurrentTells.j1
  show (current_Tax ⟨l⟩ b p m cap life year r).bind _ = _
  rw [tax_ok h, Option.bind_some]
  have hr := rtax_ok h b p m cap life year r
  have hinv := vTax_inv h b p m cap life year r
  rcases vTax_code l b p m cap life year r with ⟨q, c1, c2⟩ | ⟨c1, c2⟩
  · generalize vTax l b p m cap life year r = T at *
    obtain ⟨t1, t2, t3⟩ := T
    simp only at c1 c2 hS
    subst c1; subst c2
    have hq := hinv q rfl
    show (scutageref09_Tax ⟨l⟩ b p m cap life year r).bind _ = _
    rw [hr, Option.bind_some]
    show (if ((0 : Int) != 0) = true then _ else (scutagelaw15_Same t1 (toR t1)).bind _) = _
    rw [if_neg (by simp), hS, Option.bind_some]
    show (if (!true) = true then _ else scutagelaw15_CurrentTells.j7 q (toL q) ⟨l⟩ ⟨l⟩ (!(true == ((0 : Int) == 0)))) = _
    rw [if_neg (by simp), show (!(true == ((0 : Int) == 0))) = false from rfl, scutagelaw15_CurrentTells.j7, if_neg (by simp)]
    show (vintage_Losses_Rows ⟨q.f_l⟩).bind _ = _
    have hql := hq.len
    rw [rows_ok (by omega), Option.bind_some]
    show (scutagekeep_Same_api_Vintage q.f_l q.f_l).bind _ = _
    rw [same_api_Vintage q.f_l (by omega), Option.bind_some, if_pos rfl]
    show (vintage_Losses_Rows ⟨l⟩).bind _ = _
    rw [hrow, Option.bind_some]
    show (scutagekeep_Same_api_Vintage l l).bind _ = _
    rw [hsm, Option.bind_some, if_pos rfl, wakes_ok]; rfl
  · generalize vTax l b p m cap life year r = T at *
    obtain ⟨t1, t2, t3⟩ := T
    simp only at c1 c2 hS
    subst c1
    show (scutageref09_Tax ⟨l⟩ b p m cap life year r).bind _ = _
    rw [hr, Option.bind_some]
    show (if (t3 != t3) = true then _ else (scutagelaw15_Same t1 (toR t1)).bind _) = _
    rw [if_neg (by simp), hS, Option.bind_some]
    show (if (!true) = true then _ else scutagelaw15_CurrentTells.j2 ⟨l⟩ ⟨l⟩ (!(false == (t3 == 0)))) = _
    have : (!(false == (t3 == 0))) = false := by simp [c2]
    rw [if_neg (by simp), this, scutagelaw15_CurrentTells.j2, if_neg (by simp)]
    show (vintage_Losses_Rows ⟨l⟩).bind _ = _
    rw [hrow, Option.bind_some]
    show (scutagekeep_Same_api_Vintage l l).bind _ = _
    rw [hsm, Option.bind_some, if_pos rfl, wakes_ok]; rfl
theorem CurrentTells_true (l : List Int) (book perm moved cap life year r how : Int) : scutagelaw15_CurrentTells l book perm moved cap life year r how = some true := by
  obtain ⟨xs, hx, hl⟩ := losses_ok l
  obtain ⟨b, hb⟩ := amount_ok book
  obtain ⟨p, hp⟩ := amount_ok perm
  obtain ⟨m, hm⟩ := amount_ok moved
  rw [scutagelaw15_CurrentTells, hl, Option.bind_some]
  show (scutagelaw13_Of ⟨xs⟩).bind _ = _
  rw [vof_ok hx, Option.bind_some]
  show (scutageplay_Amount book).bind _ = _
  rw [hb, Option.bind_some, hp, Option.bind_some, hm, Option.bind_some]
  split
  · obtain ⟨c, hc⟩ := prate_ok cap
    obtain ⟨d, hd, _⟩ := within_ok life 6 (by omega) (by omega)
    obtain ⟨e, he, _⟩ := within_ok year 10 (by omega) (by omega)
    obtain ⟨f, hf⟩ := prate_ok r
    rw [hc, Option.bind_some, hd, Option.bind_some, he, Option.bind_some, hf, Option.bind_some]
    exact tells_j1 hx.toVI b p m c d e f
  · exact tells_j1 hx.toVI b p m cap life year r
end Go.Proofs.Ytcmhekibcbpajaa
