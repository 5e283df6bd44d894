/- The plain law of CurrentErrors: for each of the thousand numbers that n may come to, the printed function is reckoned out. No program in it. -/
import Derived.Test.YtcmhekibcbpajaaDM
set_option linter.unusedVariables false
set_option linter.unusedSimpArgs false
set_option maxRecDepth 1000000
namespace Go.Proofs.Ytcmhekibcbpajaa
open Go

theorem within_ok (v n : Int) (h1 : 1 ≤ n) (h2 : n ≤ 1000000000000) : ∃ k, scutagekeep_Within v n = some k ∧ 0 ≤ k ∧ k < n := by
  unfold scutagekeep_Within scutagekeep_Within.j1
  have hlt : Int.tmod v n < n := Int.tmod_lt_of_pos v (by omega)
  have hgt : -n < Int.tmod v n := by
    have := Int.tmod_lt_of_pos (-v) (b := n) (by omega)
    rw [Int.neg_tmod] at this; omega
  rw [if_neg (by simp; omega), gd_true (by omega)]
  by_cases h : Int.tmod v n < 0
  · refine ⟨Int.tmod v n + n, ?_, by omega, by omega⟩
    rw [if_pos (by simpa using h), w64_id (by omega) (by omega)]
  · refine ⟨Int.tmod v n, ?_, by omega, by omega⟩
    rw [if_neg (by simpa using h)]
theorem all_0 : ∀ j : Fin 20, scutagelaw15_CurrentErrors ((0 + j.val : Nat) : Int) = some true := by decide +kernel
theorem all_1 : ∀ j : Fin 20, scutagelaw15_CurrentErrors ((20 + j.val : Nat) : Int) = some true := by decide +kernel
theorem all_2 : ∀ j : Fin 20, scutagelaw15_CurrentErrors ((40 + j.val : Nat) : Int) = some true := by decide +kernel
theorem all_3 : ∀ j : Fin 20, scutagelaw15_CurrentErrors ((60 + j.val : Nat) : Int) = some true := by decide +kernel
theorem all_4 : ∀ j : Fin 20, scutagelaw15_CurrentErrors ((80 + j.val : Nat) : Int) = some true := by decide +kernel
theorem all_5 : ∀ j : Fin 20, scutagelaw15_CurrentErrors ((100 + j.val : Nat) : Int) = some true := by decide +kernel
theorem all_6 : ∀ j : Fin 20, scutagelaw15_CurrentErrors ((120 + j.val : Nat) : Int) = some true := by decide +kernel
theorem all_7 : ∀ j : Fin 20, scutagelaw15_CurrentErrors ((140 + j.val : Nat) : Int) = some true := by decide +kernel
theorem all_8 : ∀ j : Fin 20, scutagelaw15_CurrentErrors ((160 + j.val : Nat) : Int) = some true := by decide +kernel
theorem all_9 : ∀ j : Fin 20, scutagelaw15_CurrentErrors ((180 + j.val : Nat) : Int) = some true := by decide +kernel
theorem all_10 : ∀ j : Fin 20, scutagelaw15_CurrentErrors ((200 + j.val : Nat) : Int) = some true := by decide +kernel
theorem all_11 : ∀ j : Fin 20, scutagelaw15_CurrentErrors ((220 + j.val : Nat) : Int) = some true := by decide +kernel
theorem all_12 : ∀ j : Fin 20, scutagelaw15_CurrentErrors ((240 + j.val : Nat) : Int) = some true := by decide +kernel
theorem all_13 : ∀ j : Fin 20, scutagelaw15_CurrentErrors ((260 + j.val : Nat) : Int) = some true := by decide +kernel
theorem all_14 : ∀ j : Fin 20, scutagelaw15_CurrentErrors ((280 + j.val : Nat) : Int) = some true := by decide +kernel
theorem all_15 : ∀ j : Fin 20, scutagelaw15_CurrentErrors ((300 + j.val : Nat) : Int) = some true := by decide +kernel
theorem all_16 : ∀ j : Fin 20, scutagelaw15_CurrentErrors ((320 + j.val : Nat) : Int) = some true := by decide +kernel
theorem all_17 : ∀ j : Fin 20, scutagelaw15_CurrentErrors ((340 + j.val : Nat) : Int) = some true := by decide +kernel
theorem all_18 : ∀ j : Fin 20, scutagelaw15_CurrentErrors ((360 + j.val : Nat) : Int) = some true := by decide +kernel
theorem all_19 : ∀ j : Fin 20, scutagelaw15_CurrentErrors ((380 + j.val : Nat) : Int) = some true := by decide +kernel
theorem all_20 : ∀ j : Fin 20, scutagelaw15_CurrentErrors ((400 + j.val : Nat) : Int) = some true := by decide +kernel
theorem all_21 : ∀ j : Fin 20, scutagelaw15_CurrentErrors ((420 + j.val : Nat) : Int) = some true := by decide +kernel
theorem all_22 : ∀ j : Fin 20, scutagelaw15_CurrentErrors ((440 + j.val : Nat) : Int) = some true := by decide +kernel
theorem all_23 : ∀ j : Fin 20, scutagelaw15_CurrentErrors ((460 + j.val : Nat) : Int) = some true := by decide +kernel
theorem all_24 : ∀ j : Fin 20, scutagelaw15_CurrentErrors ((480 + j.val : Nat) : Int) = some true := by decide +kernel
theorem all_25 : ∀ j : Fin 20, scutagelaw15_CurrentErrors ((500 + j.val : Nat) : Int) = some true := by decide +kernel
theorem all_26 : ∀ j : Fin 20, scutagelaw15_CurrentErrors ((520 + j.val : Nat) : Int) = some true := by decide +kernel
theorem all_27 : ∀ j : Fin 20, scutagelaw15_CurrentErrors ((540 + j.val : Nat) : Int) = some true := by decide +kernel
theorem all_28 : ∀ j : Fin 20, scutagelaw15_CurrentErrors ((560 + j.val : Nat) : Int) = some true := by decide +kernel
theorem all_29 : ∀ j : Fin 20, scutagelaw15_CurrentErrors ((580 + j.val : Nat) : Int) = some true := by decide +kernel
theorem all_30 : ∀ j : Fin 20, scutagelaw15_CurrentErrors ((600 + j.val : Nat) : Int) = some true := by decide +kernel
theorem all_31 : ∀ j : Fin 20, scutagelaw15_CurrentErrors ((620 + j.val : Nat) : Int) = some true := by decide +kernel
theorem all_32 : ∀ j : Fin 20, scutagelaw15_CurrentErrors ((640 + j.val : Nat) : Int) = some true := by decide +kernel
theorem all_33 : ∀ j : Fin 20, scutagelaw15_CurrentErrors ((660 + j.val : Nat) : Int) = some true := by decide +kernel
theorem all_34 : ∀ j : Fin 20, scutagelaw15_CurrentErrors ((680 + j.val : Nat) : Int) = some true := by decide +kernel
theorem all_35 : ∀ j : Fin 20, scutagelaw15_CurrentErrors ((700 + j.val : Nat) : Int) = some true := by decide +kernel
theorem all_36 : ∀ j : Fin 20, scutagelaw15_CurrentErrors ((720 + j.val : Nat) : Int) = some true := by decide +kernel
theorem all_37 : ∀ j : Fin 20, scutagelaw15_CurrentErrors ((740 + j.val : Nat) : Int) = some true := by decide +kernel
theorem all_38 : ∀ j : Fin 20, scutagelaw15_CurrentErrors ((760 + j.val : Nat) : Int) = some true := by decide +kernel
theorem all_39 : ∀ j : Fin 20, scutagelaw15_CurrentErrors ((780 + j.val : Nat) : Int) = some true := by decide +kernel
theorem all_40 : ∀ j : Fin 20, scutagelaw15_CurrentErrors ((800 + j.val : Nat) : Int) = some true := by decide +kernel
theorem all_41 : ∀ j : Fin 20, scutagelaw15_CurrentErrors ((820 + j.val : Nat) : Int) = some true := by decide +kernel
theorem all_42 : ∀ j : Fin 20, scutagelaw15_CurrentErrors ((840 + j.val : Nat) : Int) = some true := by decide +kernel
theorem all_43 : ∀ j : Fin 20, scutagelaw15_CurrentErrors ((860 + j.val : Nat) : Int) = some true := by decide +kernel
theorem all_44 : ∀ j : Fin 20, scutagelaw15_CurrentErrors ((880 + j.val : Nat) : Int) = some true := by decide +kernel
theorem all_45 : ∀ j : Fin 20, scutagelaw15_CurrentErrors ((900 + j.val : Nat) : Int) = some true := by decide +kernel
theorem all_46 : ∀ j : Fin 20, scutagelaw15_CurrentErrors ((920 + j.val : Nat) : Int) = some true := by decide +kernel
theorem all_47 : ∀ j : Fin 20, scutagelaw15_CurrentErrors ((940 + j.val : Nat) : Int) = some true := by decide +kernel
theorem all_48 : ∀ j : Fin 20, scutagelaw15_CurrentErrors ((960 + j.val : Nat) : Int) = some true := by decide +kernel
theorem all_49 : ∀ j : Fin 20, scutagelaw15_CurrentErrors ((980 + j.val : Nat) : Int) = some true := by decide +kernel
theorem all_i : ∀ i : Nat, i < 50 → ∀ j : Fin 20, scutagelaw15_CurrentErrors ((20 * i + j.val : Nat) : Int) = some true
  | 0, _ => all_0
  | 1, _ => all_1
  | 2, _ => all_2
  | 3, _ => all_3
  | 4, _ => all_4
  | 5, _ => all_5
  | 6, _ => all_6
  | 7, _ => all_7
  | 8, _ => all_8
  | 9, _ => all_9
  | 10, _ => all_10
  | 11, _ => all_11
  | 12, _ => all_12
  | 13, _ => all_13
  | 14, _ => all_14
  | 15, _ => all_15
  | 16, _ => all_16
  | 17, _ => all_17
  | 18, _ => all_18
  | 19, _ => all_19
  | 20, _ => all_20
  | 21, _ => all_21
  | 22, _ => all_22
  | 23, _ => all_23
  | 24, _ => all_24
  | 25, _ => all_25
  | 26, _ => all_26
  | 27, _ => all_27
  | 28, _ => all_28
  | 29, _ => all_29
  | 30, _ => all_30
  | 31, _ => all_31
  | 32, _ => all_32
  | 33, _ => all_33
  | 34, _ => all_34
  | 35, _ => all_35
  | 36, _ => all_36
  | 37, _ => all_37
  | 38, _ => all_38
  | 39, _ => all_39
  | 40, _ => all_40
  | 41, _ => all_41
  | 42, _ => all_42
  | 43, _ => all_43
  | 44, _ => all_44
  | 45, _ => all_45
  | 46, _ => all_46
  | 47, _ => all_47
  | 48, _ => all_48
  | 49, _ => all_49
  | n + 50, h => absurd h (by omega)
theorem all_k (k : Fin 1000) : scutagelaw15_CurrentErrors ((k.val : Nat) : Int) = some true := by
  have := all_i (k.val / 20) (by omega) ⟨k.val % 20, by omega⟩
  simp only at this
  rwa [Nat.div_add_mod] at this
theorem within_self (k : Nat) (h : k < 1000) : scutagekeep_Within (k : Int) 1000 = some (k : Int) := by
  unfold scutagekeep_Within scutagekeep_Within.j1
  have e : Int.tmod (k : Int) 1000 = (k : Int) := Int.tmod_eq_of_lt (by omega) (by omega)
  rw [if_neg (by simp), gd_true (by omega), e, if_neg (by simp)]
theorem CurrentErrors_true (n : Int) : scutagelaw15_CurrentErrors n = some true := by
  obtain ⟨k, h, h0, h1⟩ := within_ok n 1000 (by omega) (by omega)
  obtain ⟨m, rfl⟩ : ∃ m : Nat, k = (m : Int) := ⟨k.toNat, by omega⟩
  have hm : m < 1000 := by omega
  have := all_k ⟨m, hm⟩
  simp only at this
  unfold scutagelaw15_CurrentErrors at this ⊢
  rw [h]
  rw [within_self m hm] at this
  exact this
end Go.Proofs.Ytcmhekibcbpajaa
