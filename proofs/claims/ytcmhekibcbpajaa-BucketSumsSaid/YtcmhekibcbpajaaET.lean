/- Facts on the types of the program. -/
import Derived.Test.YtcmhekibcbpajaaProg
import Derived.Test.YtcmhekibcbpajaaEM
set_option linter.unusedVariables false
set_option linter.unusedSimpArgs false
set_option maxRecDepth 100000
namespace Go.Proofs.Ytcmhekibcbpajaa
open Go Go.RowKit

def K3 : Kn Int := ⟨3, 1, fun x => [.int .i64 x], fun _ => rfl, by decide, fun _ => rfl⟩
theorem FL86 : Flds Try.prog 86 [(0, 1)] [.slice none 0 0] := ⟨_, Try.underlying86, fun w => by kernel_rfl, fun w => ⟨_, Try.zeroValue86 w, rfl⟩⟩
theorem IX29 : IxT Try.prog 29 3 1 := ⟨Try.underlying29, fun w => Try.sizeOf3 w⟩
theorem LD3 : Ld1 Try.prog 3 := fun w => ⟨Try.isAgg3 w, Try.sizeOf3 w⟩
def K54 : Kn api_Bucket := ⟨54, 3, fun x => [.int .i64 x.Class, .int .i64 x.Year, .int .i64 x.Amount], fun _ => rfl, by decide, fun _ => rfl⟩
theorem FA86_0 : FAt Try.prog 86 0 0 := FAt.mk2 (m := 1) Try.underlying86 rfl rfl (fun w => Try.sizeOf51 w) (by decide)
theorem LD51 : Ld1 Try.prog 51 := fun w => ⟨Try.isAgg51 w, Try.sizeOf51 w⟩
theorem IX51 : IxT Try.prog 51 54 3 := ⟨Try.underlying51, fun w => Try.sizeOf54 w⟩
theorem LD54 : LdA Try.prog 54 3 := fun w => ⟨Try.isAgg54 w, Try.sizeOf54 w⟩
theorem FA54_0 : FAt Try.prog 54 0 0 := FAt.mk2 (m := 1) Try.underlying54 rfl rfl (fun w => Try.sizeOf3 w) (by decide)
theorem FA54_1 : FAt Try.prog 54 1 1 := FAt.mk2 (m := 1) Try.underlying54 rfl rfl (fun w => Try.sizeOf3 w) (by decide)
theorem FA54_2 : FAt Try.prog 54 2 2 := FAt.mk2 (m := 1) Try.underlying54 rfl rfl (fun w => Try.sizeOf3 w) (by decide)
theorem AP51 : ApT Try.prog 51 54 3 24 := ⟨Try.underlying51, by decide, Try.t54, _, by kernel_rfl, rfl, rfl, rfl, rfl⟩
theorem FL54 : Flds Try.prog 54 [(0, 1), (1, 1), (2, 1)] [.int .i64 0, .int .i64 0, .int .i64 0] := ⟨_, Try.underlying54, fun w => by kernel_rfl, fun w => ⟨_, Try.zeroValue54 w, rfl⟩⟩
theorem EL51 : ElT Try.prog 51 54 3 [.int .i64 0, .int .i64 0, .int .i64 0] := ⟨IX51, rfl, by decide, fun w => ⟨_, Try.zeroValue54 w, rfl⟩⟩
theorem FL89 : Flds Try.prog 89 [(0, 1)] [.slice none 0 0] := ⟨_, Try.underlying89, fun w => by kernel_rfl, fun w => ⟨_, Try.zeroValue89 w, rfl⟩⟩
theorem FA89_0 : FAt Try.prog 89 0 0 := FAt.mk2 (m := 1) Try.underlying89 rfl rfl (fun w => Try.sizeOf51 w) (by decide)
theorem ZV54 : ∀ w, ∃ zv, (zeroValue 54).run Try.prog w = .ok zv w ∧ zv.cells = #[.int .i64 0, .int .i64 0, .int .i64 0] := fun w => ⟨_, Try.zeroValue54 w, rfl⟩
theorem LD89 : LdA Try.prog 89 1 := fun w => ⟨Try.isAgg89 w, Try.sizeOf89 w⟩
theorem EL29 : ElT Try.prog 29 3 1 [.int .i64 0] := ⟨IX29, rfl, by decide, fun w => ⟨_, Try.zeroValue3 w, rfl⟩⟩
theorem EQ54 (x0 y0 : Int) (x1 y1 : Int) (x2 y2 : Int) : EqT Try.prog 54 2 [.int .i64 x0, .int .i64 x1, .int .i64 x2] [.int .i64 y0, .int .i64 y1, .int .i64 y2] (x0 == y0 && (x1 == y1 && (x2 == y2))) := by
  have h := eqt_of (m := 1) (xs := [.int .i64 x0, .int .i64 x1, .int .i64 x2]) (ys := [.int .i64 y0, .int .i64 y1, .int .i64 y2]) Try.underlying54 Try.stoodInHeld54 (eqs_int rfl LD3 Try.underlying3 rfl rfl (by decide) (eqs_int rfl LD3 Try.underlying3 rfl rfl (by decide) (eqs_int rfl LD3 Try.underlying3 rfl rfl (by decide) eqs_nil)))
  simpa only [Bool.and_true] using h

end Go.Proofs.Ytcmhekibcbpajaa
