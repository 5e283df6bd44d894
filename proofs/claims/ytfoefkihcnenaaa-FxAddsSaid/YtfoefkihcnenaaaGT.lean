/- Facts on the types of the program. -/
import Derived.Test.YtfoefkihcnenaaaProg
import Derived.Test.YtfoefkihcnenaaaGM
set_option linter.unusedVariables false
set_option linter.unusedSimpArgs false
set_option maxRecDepth 100000
namespace Go.Proofs.Ytfoefkihcnenaaa
open Go Go.RowKit

def K3 : Kn Int := ⟨3, 1, fun x => [.int .i64 x], fun _ => rfl, by decide, fun _ => rfl⟩
def K24 : Kn api_Item := ⟨24, 2, fun x => [.int .i64 x.Kind, .int .i64 x.Amount], fun _ => rfl, by decide, fun _ => rfl⟩
theorem IX34 : IxT Try.prog 34 3 1 := ⟨Try.underlying34, fun w => Try.sizeOf3 w⟩
theorem LD3 : Ld1 Try.prog 3 := fun w => ⟨Try.isAgg3 w, Try.sizeOf3 w⟩
theorem FL24 : Flds Try.prog 24 [(0, 1), (1, 1)] [.int .i64 0, .int .i64 0] := ⟨_, Try.underlying24, fun w => by kernel_rfl, fun w => ⟨_, Try.zeroValue24 w, rfl⟩⟩
theorem IX25 : IxT Try.prog 25 24 2 := ⟨Try.underlying25, fun w => Try.sizeOf24 w⟩
theorem EL25 : ElT Try.prog 25 24 2 [.int .i64 0, .int .i64 0] := ⟨IX25, rfl, by decide, fun w => ⟨_, Try.zeroValue24 w, rfl⟩⟩
theorem AP25 : ApT Try.prog 25 24 2 16 := ⟨Try.underlying25, by decide, Try.t24, _, by kernel_rfl, rfl, rfl, rfl, rfl⟩
theorem MT39 : MpT Try.prog 39 3 3 := ⟨Try.underlying39, Try.underlying3, Try.underlying3, Try.zeroValue3⟩
theorem FA24_1 : FAt Try.prog 24 1 1 := FAt.mk2 (m := 1) Try.underlying24 rfl rfl (fun w => Try.sizeOf3 w) (by decide)
theorem FA24_0 : FAt Try.prog 24 0 0 := FAt.mk2 (m := 1) Try.underlying24 rfl rfl (fun w => Try.sizeOf3 w) (by decide)
theorem IX49 : IxT Try.prog 49 25 1 := ⟨Try.underlying49, fun w => Try.sizeOf25 w⟩
theorem EL49 : ElT Try.prog 49 25 1 [.slice none 0 0] := ⟨IX49, rfl, by decide, fun w => ⟨_, Try.zeroValue25 w, rfl⟩⟩
theorem LD25 : Ld1 Try.prog 25 := fun w => ⟨Try.isAgg25 w, Try.sizeOf25 w⟩
theorem ZV24 : ∀ w, ∃ zv, (zeroValue 24).run Try.prog w = .ok zv w ∧ zv.cells = #[.int .i64 0, .int .i64 0] := fun w => ⟨_, Try.zeroValue24 w, rfl⟩
theorem LD24 : LdA Try.prog 24 2 := fun w => ⟨Try.isAgg24 w, Try.sizeOf24 w⟩
theorem EQ24 (x0 y0 : Int) (x1 y1 : Int) : EqT Try.prog 24 2 [.int .i64 x0, .int .i64 x1] [.int .i64 y0, .int .i64 y1] (x0 == y0 && (x1 == y1)) := by
  have h := eqt_of (m := 1) (xs := [.int .i64 x0, .int .i64 x1]) (ys := [.int .i64 y0, .int .i64 y1]) Try.underlying24 Try.stoodInHeld24 (eqs_int rfl LD3 Try.underlying3 rfl rfl (by decide) (eqs_int rfl LD3 Try.underlying3 rfl rfl (by decide) eqs_nil))
  simpa only [Bool.and_true] using h

end Go.Proofs.Ytfoefkihcnenaaa
