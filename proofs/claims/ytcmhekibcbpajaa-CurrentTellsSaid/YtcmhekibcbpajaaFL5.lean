/- What the printed functions of package rate, and the document's, come to. No program in it. -/
import Derived.Test.YtcmhekibcbpajaaFL3
set_option linter.unusedVariables false
set_option linter.unusedSimpArgs false
namespace Go.Proofs.Ytcmhekibcbpajaa
open Go

theorem V_bound {n r : Int} (hn : -400000000000 ≤ n ∧ n ≤ 400000000000) (hr : 0 ≤ r) (hr2 : r ≤ 10000000) : -4000000000001 ≤ V n r ∧ V n r ≤ 4000000000001 := by
  unfold V
  split
  · have := prod_bound (n := n) (r := r) (by omega) (by omega) hr hr2; omega
  · have := prod_bound (n := -n) (r := r) (by omega) (by omega) hr hr2
    rw [Int.neg_mul] at this; omega
theorem ofCore (n r : Int) (h0 : 0 ≤ n) (h1 : n ≤ 400000000000) (hr : 0 ≤ r) (hr2 : r ≤ 10000000) :
    (if (decide (w64 (2 * Int.tmod (w64 (n * r)) 1000000) ≥ 1000000)) = true then some (w64 (w64 (Int.tdiv (w64 (n * r)) 1000000) + 1), true) else some (w64 (Int.tdiv (w64 (n * r)) 1000000), true)) = some (V n r, true) := by
  obtain ⟨p0, p1⟩ := prod_bound (n := n) (r := r) h0 h1 (by omega) hr2
  rw [w64_id (x := n * r) (by omega) (by omega), tdiv_pos p0, tmod_pos p0]
  have m0 := Int.emod_nonneg (n * r) (b := 1000000) (by omega)
  have m1 := Int.emod_lt_of_pos (n * r) (b := 1000000) (by omega)
  rw [w64_id (x := 2 * (n * r % 1000000)) (by omega) (by omega), w64_id (x := n * r / 1000000) (by omega) (by omega), w64_id (x := n * r / 1000000 + 1) (by omega) (by omega)]
  simp only [V]
  rw [if_pos h0]
  split
  · rename_i h; simp at h; congr 2; omega
  · rename_i h; simp at h; congr 2; omega
theorem ofr1_ok (n r : Int) (h0 : 0 ≤ n) (h1 : n ≤ 400000000000) (hr : 0 ≤ r) (hr2 : r ≤ 10000000) : scutageref01_Of_r1 n r = some (V n r, true) := by
  unfold scutageref01_Of_r1
  rw [if_neg (by simp; omega), if_neg (by simp; omega), if_neg (by simp; omega)]
  unfold scutageref01_Of_r1.j1 scutageref01_Of_r1.j2
  rw [if_neg (by simp; omega), if_neg (by simp; omega)]
  exact ofCore n r h0 h1 hr hr2
theorem of_ok (n r : Int) (hn : -400000000000 ≤ n ∧ n ≤ 400000000000) (hr : 0 ≤ r) (hr2 : r ≤ 10000000) : scutageref01_Of n r = some (V n r, true) := by
  unfold scutageref01_Of
  rw [if_neg (by simp; omega), if_neg (by simp; omega), if_neg (by simp; omega)]
  unfold scutageref01_Of.j1 scutageref01_Of.j2
  rw [if_neg (by simp; omega)]
  by_cases h3 : n < 0
  · rw [if_pos (by simpa using h3), w64_id (by omega) (by omega), ofr1_ok (0 - n) r (by omega) (by omega) hr hr2, Option.bind_some]
    have hb := V_bound (n := 0 - n) (r := r) (by omega) (by omega) hr2
    show some (w64 (0 - V (0 - n) r), true) = _
    rw [w64_id (by omega) (by omega)]
    simp only [V]
    rw [if_pos (by omega), if_neg (by omega), show (0 - n) * r = -(n * r) by rw [Int.zero_sub, Int.neg_mul]]
    congr 2; omega
  · rw [if_neg (by simpa using h3)]
    exact ofCore n r (by omega) (by omega) hr hr2
theorem part_ok (n r : Int) (hn : -400000000000 ≤ n ∧ n ≤ 400000000000) (hr : 0 ≤ r) (hr2 : r ≤ 10000000) : scutageref01_Part n r = some (V n r) := by
  rw [scutageref01_Part, of_ok n r hn hr hr2]; rfl
end Go.Proofs.Ytcmhekibcbpajaa
