/- The plain law of CurrentYears. No program in it. -/
import Derived.Test.YtcmhekibcbpajaaBL3
import Derived.Test.YtcmhekibcbpajaaBL0
set_option linter.unusedVariables false
set_option linter.unusedSimpArgs false
namespace Go.Proofs.Ytcmhekibcbpajaa
open Go

theorem within_ok (v n : Int) (h1 : 1 ≤ n) (h2 : n ≤ 1000000000000) : ∃ k, scutagekeep_Within v n = some k ∧ 0 ≤ k ∧ k < n := by
  unfold scutagekeep_Within scutagekeep_Within.j1
  have hlt : Int.tmod v n < n := Int.tmod_lt_of_pos v (by omega)
  have hgt : -n < Int.tmod v n := by
    have := Int.tmod_lt_of_pos (-v) (b := n) (by omega)
    rw [Int.neg_tmod] at this; omega
  rw [if_neg (by simp; omega), gd_true (by omega)]
  by_cases h : Int.tmod v n < 0
  · refine ⟨Int.tmod v n + n, ?_, by omega, by omega⟩
    rw [if_pos (by simpa using h), w64_id (by omega) (by omega)]
  · refine ⟨Int.tmod v n, ?_, by omega, by omega⟩
    rw [if_neg (by simpa using h)]
theorem wakes_ok : scutagelaw15_wakes = some true := by decide +kernel
theorem add1 {o e n : Int} (h : VR o e) (h1 : 1 ≤ n) (h2 : n ≤ 100000000000) : vAdd [] o e n = (0, [⟨o, e, n⟩]) := by
  unfold vAdd
  rw [if_neg (not_not_intro ⟨h, h1, h2⟩), if_neg (by simp only [vsum]; omega), if_neg (by simp), if_neg (by simp)]
  rfl
theorem VI.one {x : api_Vintage} (h1 : 1 ≤ x.Left) (h2 : x.Left ≤ 100000000000) : VI [x] :=
  ⟨List.pairwise_singleton _ _, by simp, by simpa using h1, by simp only [vsum]; omega⟩
theorem tax1 (a c : Int) (ha : 0 ≤ a) (ha1 : a < 100000) (hc : 0 ≤ c) (hc1 : c < 5) :
    vTax [] (0 - (1 + a)) 0 0 500000 (1 + c) 3 250000 = (⟨0 - (1 + a), 0, 0, 1 + a, 0, 0, []⟩, some ⟨[⟨3, 3 + (1 + c), 1 + a⟩]⟩, 0) := by
  have hv : vAdd (vStay [] 3) 3 (3 + (1 + c)) (-(0 - (1 + a) + 0 - 0)) = (0, [⟨3, 3 + (1 + c), 1 + a⟩]) := by
    rw [show -(0 - (1 + a) + 0 - 0) = 1 + a by omega]
    exact add1 (by rw [VR_def]; omega) (by omega) (by omega)
  unfold vTax
  rw [if_neg (not_not_intro ⟨by decide, by decide, by rw [YR_def]; omega, by decide⟩), if_neg (not_not_intro ⟨by rw [Mny_def]; omega, by decide, by decide, by rw [Mny_def]; omega⟩), if_neg (by omega), if_pos (by omega), hv, if_neg (by simp)]
  rw [show -(0 - (1 + a) + 0 - 0) = 1 + a by omega, show 0 - (1 + a) + 0 - 0 = 0 - (1 + a) by omega]
  rfl
theorem tax2 (x : api_Vintage) (b life year : Int) (h1 : 1 ≤ x.Left) (h2 : x.Left ≤ 100000) (hb : 0 ≤ b) (hb1 : b < 100000) (hl : YR life) (hy : YR year) :
    ∃ res q, vTax [x] (2 * b) 0 0 500000 life year 250000 = (res, some ⟨q⟩, 0) ∧ VI q ∧
      (x.Expiry < year → res.Expired = x.Left ∧ res.Used = 0 ∧ res.Taxable = 2 * b ∧ vsum q = 0) ∧
      (¬ x.Expiry < year → res.Expired = 0 ∧ res.Used = mn x.Left b ∧ res.Taxable = 2 * b - mn x.Left b ∧ vsum q = x.Left - mn x.Left b ∧ res.Vector = if b = 0 then [] else [mn x.Left b]) := by
  have hI : VI [x] := .one h1 (by omega)
  have hinv := vTax_inv hI (2 * b) 0 0 500000 life year 250000
  have hroom : room (2 * b + 0 - 0) 500000 = b := by unfold room; omega
  have hmn := mn_eq x.Left b
  have hm0 : 0 ≤ mn x.Left b ∧ mn x.Left b ≤ b ∧ mn x.Left b ≤ x.Left := by rw [hmn]; split <;> omega
  revert hinv
  unfold vTax
  rw [if_neg (not_not_intro ⟨by decide, by decide, hl, hy⟩), if_neg (not_not_intro ⟨by rw [Mny_def]; omega, by decide, by decide, by rw [Mny_def]; omega⟩)]
  by_cases hz : b = 0
  · subst hz
    rw [if_neg (by omega), if_neg (by omega)]
    intro hinv
    refine ⟨_, _, rfl, hinv _ rfl, fun he => ?_, fun he => ?_⟩
    · have ho : over year x = true := by simpa [over] using he
      simp [vGone, vStay, ho, vsum]
    · have ho : over year x = false := by simpa [over] using he
      have hm : mn x.Left 0 = 0 := by omega
      rw [hm]
      simp [vGone, vStay, ho, vsum]
  · rw [if_pos (by omega), hroom]
    intro hinv
    refine ⟨_, _, rfl, hinv _ rfl, fun he => ?_, fun he => ?_⟩
    · have ho : over year x = true := by simpa [over] using he
      simp [vGone, vStay, ho, vsum, vVec, isum, vTake, tk, tkd]
    · have ho : over year x = false := by simpa [over] using he
      have hv : vVec (vStay [x] year) year b = [mn x.Left b] := by
        simp only [vStay, List.filter_cons, ho, Bool.not_false, if_true, List.filter_nil, vVec]
        rw [if_pos (by omega), hmn]
      have hvs : vStay [x] year = [x] := by simp [vStay, ho]
      rw [hv]
      refine ⟨by simp [vGone, ho, vsum], by simp [isum], by simp [isum], ?_, by rw [if_neg hz]⟩
      rw [hvs]
      unfold vTake
      rw [if_neg (by simp [tk]; omega)]
      simp only [tkd, List.filter_cons, List.filter_nil]
      by_cases e : x.Left - mn x.Left b = 0
      · rw [if_neg (by simp [e])]; simp [vsum, e]
      · rw [if_pos (by simp [e])]; simp [vsum]
theorem CurrentYears_true (loss income life wait : Int) : scutagelaw15_CurrentYears loss income life wait = some true := by
  obtain ⟨a, ha, a0, a1⟩ := within_ok loss 100000 (by omega) (by omega)
  obtain ⟨b, hb, b0, b1⟩ := within_ok income 100000 (by omega) (by omega)
  obtain ⟨c, hc, c0, c1⟩ := within_ok life 5 (by omega) (by omega)
  obtain ⟨d, hd, d0, d1⟩ := within_ok wait 8 (by omega) (by omega)
  rw [scutagelaw15_CurrentYears, ha, Option.bind_some, hb, Option.bind_some, hc, Option.bind_some, hd, Option.bind_some]
  show (current_Tax ⟨[]⟩ _ _ _ _ _ _ _).bind _ = _
  rw [w64_id (x := 1 + a) (by omega) (by omega), w64_id (x := 0 - (1 + a)) (by omega) (by omega), w64_id (x := 1 + c) (by omega) (by omega), tax_ok .nil, tax1 a c a0 a1 c0 c1, Option.bind_some]
  have hI : VI [(⟨3, 3 + (1 + c), 1 + a⟩ : api_Vintage)] := .one (by show 1 ≤ 1 + a; omega) (by show 1 + a ≤ _; omega)
  show (if ((0 : Int) != 0) = true then _ else if ((1 + a) != (1 + a)) = true then _ else if ((0 : Int) != 0) = true then _ else if ((0 : Int) != 0) = true then _ else (vintage_Losses_Left ⟨[⟨3, 3 + (1 + c), 1 + a⟩]⟩).bind _) = _
  rw [if_neg (by simp), if_neg (by simp), if_neg (by simp), if_neg (by simp), left_ok hI, Option.bind_some]
  have e1 : vsum [(⟨3, 3 + (1 + c), 1 + a⟩ : api_Vintage)] = 1 + a := by simp [vsum]
  rw [e1, if_neg (by simp)]
  show (vintage_Losses_Rows ⟨[⟨3, 3 + (1 + c), 1 + a⟩]⟩).bind _ = _
  rw [rows_ok (by simp), Option.bind_some, if_neg (by simp), Option.bind_some, gd_true (by simp)]
  have r0 : rd [(⟨3, 3 + (1 + c), 1 + a⟩ : api_Vintage)] 0 = ⟨3, 3 + (1 + c), 1 + a⟩ := rfl
  rw [r0, w64_id (x := 3 + (1 + c)) (by omega) (by omega)]
  have e2 : (!((3 : Int) == 3 && ((3 + (1 + c)) == (3 + (1 + c)) && (1 + a) == (1 + a)))) = false := by simp
  show scutagelaw15_CurrentYears.j2 _ _ _ _ _ (!((3 : Int) == 3 && ((3 + (1 + c)) == (3 + (1 + c)) && (1 + a) == (1 + a)))) = _
  rw [e2]
  unfold scutagelaw15_CurrentYears.j2
  rw [if_neg (by simp), w64_id (x := 2 * b) (by omega) (by omega), w64_id (x := 1 + d) (by omega) (by omega), w64_id (x := 3 + (1 + d)) (by omega) (by omega), w64_id (x := 1 + c) (by omega) (by omega)]
  obtain ⟨res, q, ht, hq, k1, k2⟩ := tax2 ⟨3, 3 + (1 + c), 1 + a⟩ b (1 + c) (3 + (1 + d)) (by show 1 ≤ 1 + a; omega) (by show 1 + a ≤ _; omega) b0 b1 (by rw [YR_def]; omega) (by rw [YR_def]; omega)
  show (current_Tax ⟨[⟨3, 3 + (1 + c), 1 + a⟩]⟩ _ _ _ _ _ _ _).bind _ = _
  rw [tax_ok hI, ht, Option.bind_some]
  show (if ((0 : Int) != 0) = true then _ else scutagelaw15_CurrentYears.j4 d c res a b ⟨q⟩ ⟨[⟨3, 3 + (1 + c), 1 + a⟩]⟩ false) = _
  rw [if_neg (by simp)]
  unfold scutagelaw15_CurrentYears.j4
  rw [if_neg (by simp), w64_id (x := 2 * b) (by omega) (by omega), w64_id (x := 1 + d) (by omega) (by omega), w64_id (x := 1 + c) (by omega) (by omega), w64_id (x := 1 + a) (by omega) (by omega)]
  simp only at k1 k2
  by_cases hw : 1 + d > 1 + c
  · obtain ⟨p1, p2, p3, p4⟩ := k1 (by omega)
    rw [if_pos (by simpa using hw), p1, p2, p3, if_pos (by simp), if_pos (by simp), if_pos (by simp)]
    show (vintage_Losses_Left ⟨q⟩).bind _ = _
    rw [left_ok hq, Option.bind_some, p4, if_pos (by simp)]
    show (vintage_Losses_Left ⟨[⟨3, 3 + (1 + c), 1 + a⟩]⟩).bind _ = _
    rw [left_ok hI, Option.bind_some, e1, if_pos (by simp), wakes_ok]; rfl
  · obtain ⟨p1, p2, p3, p4, p5⟩ := k2 (by omega)
    have hmn := mn_eq (1 + a) b
    have hm0 : 0 ≤ mn (1 + a) b ∧ mn (1 + a) b ≤ b ∧ mn (1 + a) b ≤ 1 + a := by rw [hmn]; split <;> omega
    have et : Int.tdiv (2 * b) 2 = b := by rw [tdiv_pos (by omega)]; omega
    rw [if_neg (by simpa using hw), et, w64_id (x := b) (by omega) (by omega), w64_id (x := 2 * b - _) (by omega) (by omega), w64_id (x := 1 + a - _) (by omega) (by omega), p1, p2, p3, if_pos (by simp), if_pos (by simp), if_pos (by simp)]
    show (vintage_Losses_Left ⟨q⟩).bind _ = _
    rw [left_ok hq, Option.bind_some, p4, if_pos (by simp), p5]
    have hvec : scutagelaw15_vector (2 * b) (mn (1 + a) b) = some (if b = 0 then [] else [mn (1 + a) b]) := by
      unfold scutagelaw15_vector
      by_cases hz : b = 0
      · rw [if_pos (by simp [hz]), if_pos hz]
      · rw [if_neg (by simp; omega), if_neg hz]
    rw [hvec, Option.bind_some, same_int _ (by split <;> simp), Option.bind_some, if_pos rfl, wakes_ok]; rfl
end Go.Proofs.Ytcmhekibcbpajaa
