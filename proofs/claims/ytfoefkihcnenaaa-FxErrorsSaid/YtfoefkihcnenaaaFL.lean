/- The plain law of FxErrors: for each of the thousand numbers that n may come to, the printed function is reckoned out. No program in it. -/
import Derived.Test.YtfoefkihcnenaaaFM
set_option linter.unusedVariables false
set_option linter.unusedSimpArgs false
set_option maxRecDepth 1000000
namespace Go.Proofs.Ytfoefkihcnenaaa
open Go

theorem within_ok (v n : Int) (h1 : 1 ≤ n) (h2 : n ≤ 1000000000000) : ∃ k, scutagekeep_Within v n = some k ∧ 0 ≤ k ∧ k < n := by
  unfold scutagekeep_Within scutagekeep_Within.j1
  have hlt : Int.tmod v n < n := Int.tmod_lt_of_pos v (by omega)
  have hgt : -n < Int.tmod v n := by
    have := Int.tmod_lt_of_pos (-v) (b := n) (by omega)
    rw [Int.neg_tmod] at this; omega
  rw [if_neg (by simp; omega), gd_true (by omega)]
  by_cases h : Int.tmod v n < 0
  · refine ⟨Int.tmod v n + n, ?_, by omega, by omega⟩
    rw [if_pos (by simpa using h), w64_id (by omega) (by omega)]
  · refine ⟨Int.tmod v n, ?_, by omega, by omega⟩
    rw [if_neg (by simpa using h)]
theorem all_k : ∀ k : Fin 1000, scutagelaw25_FxErrors ((k.val : Nat) : Int) = some true := by decide +kernel
theorem within_self (k : Nat) (h : k < 1000) : scutagekeep_Within (k : Int) 1000 = some (k : Int) := by
  unfold scutagekeep_Within scutagekeep_Within.j1
  have e : Int.tmod (k : Int) 1000 = (k : Int) := Int.tmod_eq_of_lt (by omega) (by omega)
  rw [if_neg (by simp), gd_true (by omega), e, if_neg (by simp)]
theorem FxErrors_true (n : Int) : scutagelaw25_FxErrors n = some true := by
  obtain ⟨k, h, h0, h1⟩ := within_ok n 1000 (by omega) (by omega)
  obtain ⟨m, rfl⟩ : ∃ m : Nat, k = (m : Int) := ⟨k.toNat, by omega⟩
  have hm : m < 1000 := by omega
  have := all_k ⟨m, hm⟩
  simp only at this
  unfold scutagelaw25_FxErrors at this ⊢
  rw [h]
  rw [within_self m hm] at this
  exact this
end Go.Proofs.Ytfoefkihcnenaaa
