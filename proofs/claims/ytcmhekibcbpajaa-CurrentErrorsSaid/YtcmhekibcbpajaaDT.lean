/- Facts on the types of the program. -/
import Derived.Test.YtcmhekibcbpajaaProg
import Derived.Test.YtcmhekibcbpajaaDM
set_option linter.unusedVariables false
set_option linter.unusedSimpArgs false
set_option maxRecDepth 100000
namespace Go.Proofs.Ytcmhekibcbpajaa
open Go Go.RowKit

theorem FL75 : Flds Try.prog 75 [(0, 1)] [.slice none 0 0] := ⟨_, Try.underlying75, fun w => by kernel_rfl, fun w => ⟨_, Try.zeroValue75 w, rfl⟩⟩
def K38 : Kn api_Vintage := ⟨38, 3, fun x => [.int .i64 x.Origin, .int .i64 x.Expiry, .int .i64 x.Left], fun _ => rfl, by decide, fun _ => rfl⟩
theorem FA75_0 : FAt Try.prog 75 0 0 := FAt.mk2 (m := 1) Try.underlying75 rfl rfl (fun w => Try.sizeOf26 w) (by decide)
theorem LD26 : Ld1 Try.prog 26 := fun w => ⟨Try.isAgg26 w, Try.sizeOf26 w⟩
theorem IX26 : IxT Try.prog 26 38 3 := ⟨Try.underlying26, fun w => Try.sizeOf38 w⟩
theorem LD38 : LdA Try.prog 38 3 := fun w => ⟨Try.isAgg38 w, Try.sizeOf38 w⟩
theorem FA38_0 : FAt Try.prog 38 0 0 := FAt.mk2 (m := 1) Try.underlying38 rfl rfl (fun w => Try.sizeOf3 w) (by decide)
theorem LD3 : Ld1 Try.prog 3 := fun w => ⟨Try.isAgg3 w, Try.sizeOf3 w⟩
theorem FA38_1 : FAt Try.prog 38 1 1 := FAt.mk2 (m := 1) Try.underlying38 rfl rfl (fun w => Try.sizeOf3 w) (by decide)
theorem FA38_2 : FAt Try.prog 38 2 2 := FAt.mk2 (m := 1) Try.underlying38 rfl rfl (fun w => Try.sizeOf3 w) (by decide)
theorem FL38 : Flds Try.prog 38 [(0, 1), (1, 1), (2, 1)] [.int .i64 0, .int .i64 0, .int .i64 0] := ⟨_, Try.underlying38, fun w => by kernel_rfl, fun w => ⟨_, Try.zeroValue38 w, rfl⟩⟩
theorem EL26 : ElT Try.prog 26 38 3 [.int .i64 0, .int .i64 0, .int .i64 0] := ⟨IX26, rfl, by decide, fun w => ⟨_, Try.zeroValue38 w, rfl⟩⟩
theorem AP26 : ApT Try.prog 26 38 3 24 := ⟨Try.underlying26, by decide, Try.t38, _, by kernel_rfl, rfl, rfl, rfl, rfl⟩
def K3 : Kn Int := ⟨3, 1, fun x => [.int .i64 x], fun _ => rfl, by decide, fun _ => rfl⟩
theorem IX29 : IxT Try.prog 29 3 1 := ⟨Try.underlying29, fun w => Try.sizeOf3 w⟩
theorem EL29 : ElT Try.prog 29 3 1 [.int .i64 0] := ⟨IX29, rfl, by decide, fun w => ⟨_, Try.zeroValue3 w, rfl⟩⟩
theorem FL64 : Flds Try.prog 64 [(0, 1), (1, 1), (2, 1), (3, 1), (4, 1), (5, 1), (6, 1), (7, 1)] [.int .i64 0, .int .i64 0, .int .i64 0, .int .i64 0, .int .i64 0, .int .i64 0, .int .i64 0, .int .i64 0] := ⟨_, Try.underlying64, fun w => by kernel_rfl, fun w => ⟨_, Try.zeroValue64 w, rfl⟩⟩
def K64 : Kn Anon64 := ⟨64, 8, fun x => [.int .i64 x.book, .int .i64 x.perm, .int .i64 x.moved, .int .i64 x.cap, .int .i64 x.life, .int .i64 x.year, .int .i64 x.f_r, .int .i64 x.f_e], fun _ => rfl, by decide, fun _ => rfl⟩
theorem IX65 : IxT Try.prog 65 64 8 := ⟨Try.underlying65, fun w => Try.sizeOf64 w⟩
theorem EL65 : ElT Try.prog 65 64 8 [.int .i64 0, .int .i64 0, .int .i64 0, .int .i64 0, .int .i64 0, .int .i64 0, .int .i64 0, .int .i64 0] := ⟨IX65, rfl, by decide, fun w => ⟨_, Try.zeroValue64 w, rfl⟩⟩
theorem LD64 : LdA Try.prog 64 8 := fun w => ⟨Try.isAgg64 w, Try.sizeOf64 w⟩
theorem FA64_0 : FAt Try.prog 64 0 0 := FAt.mk2 (m := 1) Try.underlying64 rfl rfl (fun w => Try.sizeOf3 w) (by decide)
theorem FA64_1 : FAt Try.prog 64 1 1 := FAt.mk2 (m := 1) Try.underlying64 rfl rfl (fun w => Try.sizeOf3 w) (by decide)
theorem FA64_2 : FAt Try.prog 64 2 2 := FAt.mk2 (m := 1) Try.underlying64 rfl rfl (fun w => Try.sizeOf3 w) (by decide)
theorem FA64_3 : FAt Try.prog 64 3 3 := FAt.mk2 (m := 1) Try.underlying64 rfl rfl (fun w => Try.sizeOf3 w) (by decide)
theorem FA64_4 : FAt Try.prog 64 4 4 := FAt.mk2 (m := 1) Try.underlying64 rfl rfl (fun w => Try.sizeOf3 w) (by decide)
theorem FA64_5 : FAt Try.prog 64 5 5 := FAt.mk2 (m := 1) Try.underlying64 rfl rfl (fun w => Try.sizeOf3 w) (by decide)
theorem FA64_6 : FAt Try.prog 64 6 6 := FAt.mk2 (m := 1) Try.underlying64 rfl rfl (fun w => Try.sizeOf3 w) (by decide)
theorem FL59 : Flds Try.prog 59 [(0, 1), (1, 1), (2, 1), (3, 1), (4, 1), (5, 1), (6, 1)] [.int .i64 0, .int .i64 0, .int .i64 0, .int .i64 0, .int .i64 0, .int .i64 0, .slice none 0 0] := ⟨_, Try.underlying59, fun w => by kernel_rfl, fun w => ⟨_, Try.zeroValue59 w, rfl⟩⟩
theorem LD59 : LdA Try.prog 59 7 := fun w => ⟨Try.isAgg59 w, Try.sizeOf59 w⟩
theorem AP29 : ApT Try.prog 29 3 1 8 := ⟨Try.underlying29, by decide, Try.t3, _, by kernel_rfl, rfl, rfl, rfl, rfl⟩
theorem FA59_6 : FAt Try.prog 59 6 6 := FAt.mk2 (m := 1) Try.underlying59 rfl rfl (fun w => Try.sizeOf29 w) (by decide)
theorem LD29 : Ld1 Try.prog 29 := fun w => ⟨Try.isAgg29 w, Try.sizeOf29 w⟩
theorem FA59_2 : FAt Try.prog 59 2 2 := FAt.mk2 (m := 1) Try.underlying59 rfl rfl (fun w => Try.sizeOf3 w) (by decide)
theorem ZV38 : ∀ w, ∃ zv, (zeroValue 38).run Try.prog w = .ok zv w ∧ zv.cells = #[.int .i64 0, .int .i64 0, .int .i64 0] := fun w => ⟨_, Try.zeroValue38 w, rfl⟩
theorem FA59_3 : FAt Try.prog 59 3 3 := FAt.mk2 (m := 1) Try.underlying59 rfl rfl (fun w => Try.sizeOf3 w) (by decide)
theorem FA59_4 : FAt Try.prog 59 4 4 := FAt.mk2 (m := 1) Try.underlying59 rfl rfl (fun w => Try.sizeOf3 w) (by decide)
theorem FA59_5 : FAt Try.prog 59 5 5 := FAt.mk2 (m := 1) Try.underlying59 rfl rfl (fun w => Try.sizeOf3 w) (by decide)
theorem FA64_7 : FAt Try.prog 64 7 7 := FAt.mk2 (m := 1) Try.underlying64 rfl rfl (fun w => Try.sizeOf34 w) (by decide)
theorem LD34 : Ld1 Try.prog 34 := fun w => ⟨Try.isAgg34 w, Try.sizeOf34 w⟩
theorem FA59_0 : FAt Try.prog 59 0 0 := FAt.mk2 (m := 1) Try.underlying59 rfl rfl (fun w => Try.sizeOf3 w) (by decide)

end Go.Proofs.Ytcmhekibcbpajaa
