/- What the printed functions of package slices come to, for slices of api_Line. No program in it. -/
import Derived.Test.YtdhekpodgemneaaPM
import Derived.Test.YtdhekpodgemneaaCore10
set_option linter.unusedVariables false
set_option linter.unusedSimpArgs false
namespace Go.Proofs.Ytdhekpodgemneaa
open Go

theorem samel_api_Line (a : List api_Line) (ha : a.length ≤ 100000) : ∀ (fuel : Nat) (v : Int), 0 ≤ v → (a.length - v).toNat < fuel → scutagekeep_Same_api_Line.l1 a a fuel v = some (.inr ())
  | 0, v, _, h => by omega
  | fuel + 1, v, h0, hf => by
    rw [scutagekeep_Same_api_Line.l1]
    by_cases h1 : v < (a.length : Int)
    · rw [if_pos (by simpa using h1), gd_true ⟨h0, h1⟩, gd_true ⟨h0, h1⟩, if_neg (by simp), w64_id (by omega) (by omega)]
      exact samel_api_Line a ha fuel _ (by omega) (by omega)
    · rw [if_neg (by simpa using h1)]
theorem same_api_Line (a : List api_Line) (ha : a.length ≤ 100000) : scutagekeep_Same_api_Line a a = some true := by
  rw [scutagekeep_Same_api_Line, if_neg (by simp), samel_api_Line a ha FUEL 0 (by omega) (by simp only [FUEL]; omega)]; rfl
end Go.Proofs.Ytdhekpodgemneaa
