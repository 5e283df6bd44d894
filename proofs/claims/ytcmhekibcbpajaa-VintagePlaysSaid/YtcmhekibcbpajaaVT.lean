/- Facts on the types of the program. -/
import Derived.Test.YtcmhekibcbpajaaProg
import Derived.Test.YtcmhekibcbpajaaVM
set_option linter.unusedVariables false
set_option linter.unusedSimpArgs false
set_option maxRecDepth 100000
namespace Go.Proofs.Ytcmhekibcbpajaa
open Go Go.RowKit

def K3 : Kn Int := ⟨3, 1, fun x => [.int .i64 x], fun _ => rfl, by decide, fun _ => rfl⟩
def KN31 (a0 : Option Addr × Nat) : Kn scutagelaw13_Act := ⟨31, 5, fun x => [.int .i64 x.Do, .int .i64 x.Origin, .int .i64 x.Life, .int .i64 x.f_N, .slice a0.1 x.Used.length a0.2], fun _ => rfl, by decide, fun _ => rfl⟩
theorem FL75 : Flds Try.prog 75 [(0, 1)] [.slice none 0 0] := ⟨_, Try.underlying75, fun w => by kernel_rfl, fun w => ⟨_, Try.zeroValue75 w, rfl⟩⟩
def K38 : Kn api_Vintage := ⟨38, 3, fun x => [.int .i64 x.Origin, .int .i64 x.Expiry, .int .i64 x.Left], fun _ => rfl, by decide, fun _ => rfl⟩
theorem FL28 : Flds Try.prog 28 [(0, 1)] [.slice none 0 0] := ⟨_, Try.underlying28, fun w => by kernel_rfl, fun w => ⟨_, Try.zeroValue28 w, rfl⟩⟩
theorem IX22 : IxT Try.prog 22 31 5 := ⟨Try.underlying22, fun w => Try.sizeOf31 w⟩
theorem LD31 : LdA Try.prog 31 5 := fun w => ⟨Try.isAgg31 w, Try.sizeOf31 w⟩
theorem FA31_1 : FAt Try.prog 31 1 1 := FAt.mk2 (m := 1) Try.underlying31 rfl rfl (fun w => Try.sizeOf3 w) (by decide)
theorem LD3 : Ld1 Try.prog 3 := fun w => ⟨Try.isAgg3 w, Try.sizeOf3 w⟩
theorem FA31_2 : FAt Try.prog 31 2 2 := FAt.mk2 (m := 1) Try.underlying31 rfl rfl (fun w => Try.sizeOf3 w) (by decide)
theorem FA31_3 : FAt Try.prog 31 3 3 := FAt.mk2 (m := 1) Try.underlying31 rfl rfl (fun w => Try.sizeOf3 w) (by decide)
theorem FA31_0 : FAt Try.prog 31 0 0 := FAt.mk2 (m := 1) Try.underlying31 rfl rfl (fun w => Try.sizeOf3 w) (by decide)
theorem FA75_0 : FAt Try.prog 75 0 0 := FAt.mk2 (m := 1) Try.underlying75 rfl rfl (fun w => Try.sizeOf26 w) (by decide)
theorem LD26 : Ld1 Try.prog 26 := fun w => ⟨Try.isAgg26 w, Try.sizeOf26 w⟩
theorem IX26 : IxT Try.prog 26 38 3 := ⟨Try.underlying26, fun w => Try.sizeOf38 w⟩
theorem LD38 : LdA Try.prog 38 3 := fun w => ⟨Try.isAgg38 w, Try.sizeOf38 w⟩
theorem FA38_0 : FAt Try.prog 38 0 0 := FAt.mk2 (m := 1) Try.underlying38 rfl rfl (fun w => Try.sizeOf3 w) (by decide)
theorem FA38_1 : FAt Try.prog 38 1 1 := FAt.mk2 (m := 1) Try.underlying38 rfl rfl (fun w => Try.sizeOf3 w) (by decide)
theorem FA38_2 : FAt Try.prog 38 2 2 := FAt.mk2 (m := 1) Try.underlying38 rfl rfl (fun w => Try.sizeOf3 w) (by decide)
theorem FL38 : Flds Try.prog 38 [(0, 1), (1, 1), (2, 1)] [.int .i64 0, .int .i64 0, .int .i64 0] := ⟨_, Try.underlying38, fun w => by kernel_rfl, fun w => ⟨_, Try.zeroValue38 w, rfl⟩⟩
theorem EL26 : ElT Try.prog 26 38 3 [.int .i64 0, .int .i64 0, .int .i64 0] := ⟨IX26, rfl, by decide, fun w => ⟨_, Try.zeroValue38 w, rfl⟩⟩
theorem AP26 : ApT Try.prog 26 38 3 24 := ⟨Try.underlying26, by decide, Try.t38, _, by kernel_rfl, rfl, rfl, rfl, rfl⟩
theorem IX29 : IxT Try.prog 29 3 1 := ⟨Try.underlying29, fun w => Try.sizeOf3 w⟩
theorem EL29 : ElT Try.prog 29 3 1 [.int .i64 0] := ⟨IX29, rfl, by decide, fun w => ⟨_, Try.zeroValue3 w, rfl⟩⟩
theorem FA28_0 : FAt Try.prog 28 0 0 := FAt.mk2 (m := 1) Try.underlying28 rfl rfl (fun w => Try.sizeOf26 w) (by decide)
theorem EQ38 (x0 y0 : Int) (x1 y1 : Int) (x2 y2 : Int) : EqT Try.prog 38 2 [.int .i64 x0, .int .i64 x1, .int .i64 x2] [.int .i64 y0, .int .i64 y1, .int .i64 y2] (x0 == y0 && (x1 == y1 && (x2 == y2))) := by
  have h := eqt_of (m := 1) (xs := [.int .i64 x0, .int .i64 x1, .int .i64 x2]) (ys := [.int .i64 y0, .int .i64 y1, .int .i64 y2]) Try.underlying38 Try.stoodInHeld38 (eqs_int rfl LD3 Try.underlying3 rfl rfl (by decide) (eqs_int rfl LD3 Try.underlying3 rfl rfl (by decide) (eqs_int rfl LD3 Try.underlying3 rfl rfl (by decide) eqs_nil)))
  simpa only [Bool.and_true] using h
theorem FA31_4 : FAt Try.prog 31 4 4 := FAt.mk2 (m := 1) Try.underlying31 rfl rfl (fun w => Try.sizeOf29 w) (by decide)
theorem LD29 : Ld1 Try.prog 29 := fun w => ⟨Try.isAgg29 w, Try.sizeOf29 w⟩
theorem AP29 : ApT Try.prog 29 3 1 8 := ⟨Try.underlying29, by decide, Try.t3, _, by kernel_rfl, rfl, rfl, rfl, rfl⟩
theorem ZV38 : ∀ w, ∃ zv, (zeroValue 38).run Try.prog w = .ok zv w ∧ zv.cells = #[.int .i64 0, .int .i64 0, .int .i64 0] := fun w => ⟨_, Try.zeroValue38 w, rfl⟩

end Go.Proofs.Ytcmhekibcbpajaa
