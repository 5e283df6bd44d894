/- Facts on the types of the program. -/
import Derived.Test.YtfoefkihcnenaaaProg
import Derived.Test.YtfoefkihcnenaaaFM
set_option linter.unusedVariables false
set_option linter.unusedSimpArgs false
set_option maxRecDepth 100000
namespace Go.Proofs.Ytfoefkihcnenaaa
open Go Go.RowKit

theorem FL24 : Flds Try.prog 24 [(0, 1), (1, 1)] [.int .i64 0, .int .i64 0] := ⟨_, Try.underlying24, fun w => by kernel_rfl, fun w => ⟨_, Try.zeroValue24 w, rfl⟩⟩
def K24 : Kn api_Item := ⟨24, 2, fun x => [.int .i64 x.Kind, .int .i64 x.Amount], fun _ => rfl, by decide, fun _ => rfl⟩
theorem IX25 : IxT Try.prog 25 24 2 := ⟨Try.underlying25, fun w => Try.sizeOf24 w⟩
theorem EL25 : ElT Try.prog 25 24 2 [.int .i64 0, .int .i64 0] := ⟨IX25, rfl, by decide, fun w => ⟨_, Try.zeroValue24 w, rfl⟩⟩
theorem FL27 : Flds Try.prog 27 [(0, 1), (1, 1), (2, 1)] [.slice none 0 0, .int .i64 0, .int .i64 0] := ⟨_, Try.underlying27, fun w => by kernel_rfl, fun w => ⟨_, Try.zeroValue27 w, rfl⟩⟩
theorem AP25 : ApT Try.prog 25 24 2 16 := ⟨Try.underlying25, by decide, Try.t24, _, by kernel_rfl, rfl, rfl, rfl, rfl⟩
theorem ZV24 : ∀ w, ∃ zv, (zeroValue 24).run Try.prog w = .ok zv w ∧ zv.cells = #[.int .i64 0, .int .i64 0] := fun w => ⟨_, Try.zeroValue24 w, rfl⟩
theorem IX28 : IxT Try.prog 28 27 3 := ⟨Try.underlying28, fun w => Try.sizeOf27 w⟩
theorem EL28 : ElT Try.prog 28 27 3 [.slice none 0 0, .int .i64 0, .int .i64 0] := ⟨IX28, rfl, by decide, fun w => ⟨_, Try.zeroValue27 w, rfl⟩⟩
theorem LD27 : LdA Try.prog 27 3 := fun w => ⟨Try.isAgg27 w, Try.sizeOf27 w⟩
theorem FA27_0 : FAt Try.prog 27 0 0 := FAt.mk2 (m := 1) Try.underlying27 rfl rfl (fun w => Try.sizeOf25 w) (by decide)
theorem LD25 : Ld1 Try.prog 25 := fun w => ⟨Try.isAgg25 w, Try.sizeOf25 w⟩
theorem FA27_1 : FAt Try.prog 27 1 1 := FAt.mk2 (m := 1) Try.underlying27 rfl rfl (fun w => Try.sizeOf3 w) (by decide)
theorem LD3 : Ld1 Try.prog 3 := fun w => ⟨Try.isAgg3 w, Try.sizeOf3 w⟩
theorem LD24 : LdA Try.prog 24 2 := fun w => ⟨Try.isAgg24 w, Try.sizeOf24 w⟩
theorem FA24_1 : FAt Try.prog 24 1 1 := FAt.mk2 (m := 1) Try.underlying24 rfl rfl (fun w => Try.sizeOf3 w) (by decide)
theorem FA24_0 : FAt Try.prog 24 0 0 := FAt.mk2 (m := 1) Try.underlying24 rfl rfl (fun w => Try.sizeOf3 w) (by decide)
theorem FA27_2 : FAt Try.prog 27 2 2 := FAt.mk2 (m := 1) Try.underlying27 rfl rfl (fun w => Try.sizeOf26 w) (by decide)
theorem LD26 : Ld1 Try.prog 26 := fun w => ⟨Try.isAgg26 w, Try.sizeOf26 w⟩
theorem IX49 : IxT Try.prog 49 25 1 := ⟨Try.underlying49, fun w => Try.sizeOf25 w⟩
theorem EL49 : ElT Try.prog 49 25 1 [.slice none 0 0] := ⟨IX49, rfl, by decide, fun w => ⟨_, Try.zeroValue25 w, rfl⟩⟩

end Go.Proofs.Ytfoefkihcnenaaa
