/- What the printed functions of package slices come to, for slices of Int. No program in it. -/
import Derived.Test.YtcmhekibcbpajaaVM
import Derived.Test.YtcmhekibcbpajaaCore10
set_option linter.unusedVariables false
set_option linter.unusedSimpArgs false
namespace Go.Proofs.Ytcmhekibcbpajaa
open Go

theorem copy_int (l : List Int) (h : l.length ≤ 100000) : scutagekeep_Copy_int l = some l := by
  rw [scutagekeep_Copy_int, gd_true (fit_small (by simp; omega))]; rfl
theorem samel_int (a : List Int) (ha : a.length ≤ 100000) : ∀ (fuel : Nat) (v : Int), 0 ≤ v → (a.length - v).toNat < fuel → scutagekeep_Same_int.l1 a a fuel v = some (.inr ())
  | 0, v, _, h => by omega
  | fuel + 1, v, h0, hf => by
    rw [scutagekeep_Same_int.l1]
    by_cases h1 : v < (a.length : Int)
    · rw [if_pos (by simpa using h1), gd_true ⟨h0, h1⟩, gd_true ⟨h0, h1⟩, if_neg (by simp), w64_id (by omega) (by omega)]
      exact samel_int a ha fuel _ (by omega) (by omega)
    · rw [if_neg (by simpa using h1)]
theorem same_int (a : List Int) (ha : a.length ≤ 100000) : scutagekeep_Same_int a a = some true := by
  rw [scutagekeep_Same_int, if_neg (by simp), samel_int a ha FUEL 0 (by omega) (by simp only [FUEL]; omega)]; rfl
end Go.Proofs.Ytcmhekibcbpajaa
