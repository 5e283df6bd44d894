/- Facts on the types of the program. -/
import Derived.Test.YtfhekejaobmacaaProg
import Derived.Test.YtfhekejaobmacaaAM
set_option linter.unusedVariables false
set_option linter.unusedSimpArgs false
set_option maxRecDepth 100000
namespace Go.Proofs.Ytfhekejaobmacaa
open Go Go.RowKit

def K28 : Kn scutagelaw24_Act := ⟨28, 3, fun x => [.int .i64 x.Seller, .int .i64 x.Buyer, .int .i64 x.f_N], fun _ => rfl, by decide, fun _ => rfl⟩
def K3 : Kn Int := ⟨3, 1, fun x => [.int .i64 x], fun _ => rfl, by decide, fun _ => rfl⟩
theorem FL53 : Flds Try.prog 53 [(0, 1)] [.slice none 0 0] := ⟨_, Try.underlying53, fun w => by kernel_rfl, fun w => ⟨_, Try.zeroValue53 w, rfl⟩⟩
def K38 : Kn cross_Row := ⟨38, 3, fun x => [.string x.Seller, .string x.Buyer, .int .i64 x.Amount], fun _ => rfl, by decide, fun _ => rfl⟩
theorem FL45 : Flds Try.prog 45 [(0, 1)] [.slice none 0 0] := ⟨_, Try.underlying45, fun w => by kernel_rfl, fun w => ⟨_, Try.zeroValue45 w, rfl⟩⟩
def K9 : Kn ByteArray := ⟨9, 1, fun x => [.string x], fun _ => rfl, by decide, fun _ => rfl⟩
theorem IX29 : IxT Try.prog 29 9 1 := ⟨Try.underlying29, fun w => Try.sizeOf9 w⟩
theorem EL29 : ElT Try.prog 29 9 1 [.string ⟨#[]⟩] := ⟨IX29, rfl, by decide, fun w => ⟨_, Try.zeroValue9 w, rfl⟩⟩
theorem IX22 : IxT Try.prog 22 28 3 := ⟨Try.underlying22, fun w => Try.sizeOf28 w⟩
theorem LD28 : LdA Try.prog 28 3 := fun w => ⟨Try.isAgg28 w, Try.sizeOf28 w⟩
theorem FA28_0 : FAt Try.prog 28 0 0 := FAt.mk2 (m := 1) Try.underlying28 rfl rfl (fun w => Try.sizeOf3 w) (by decide)
theorem LD3 : Ld1 Try.prog 3 := fun w => ⟨Try.isAgg3 w, Try.sizeOf3 w⟩
theorem LD9 : Ld1 Try.prog 9 := fun w => ⟨Try.isAgg9 w, Try.sizeOf9 w⟩
theorem FA28_1 : FAt Try.prog 28 1 1 := FAt.mk2 (m := 1) Try.underlying28 rfl rfl (fun w => Try.sizeOf3 w) (by decide)
theorem FA28_2 : FAt Try.prog 28 2 2 := FAt.mk2 (m := 1) Try.underlying28 rfl rfl (fun w => Try.sizeOf3 w) (by decide)
theorem FA53_0 : FAt Try.prog 53 0 0 := FAt.mk2 (m := 1) Try.underlying53 rfl rfl (fun w => Try.sizeOf34 w) (by decide)
theorem LD34 : Ld1 Try.prog 34 := fun w => ⟨Try.isAgg34 w, Try.sizeOf34 w⟩
theorem IX34 : IxT Try.prog 34 38 3 := ⟨Try.underlying34, fun w => Try.sizeOf38 w⟩
theorem LD38 : LdA Try.prog 38 3 := fun w => ⟨Try.isAgg38 w, Try.sizeOf38 w⟩
theorem FA38_0 : FAt Try.prog 38 0 0 := FAt.mk2 (m := 1) Try.underlying38 rfl rfl (fun w => Try.sizeOf9 w) (by decide)
theorem FA38_1 : FAt Try.prog 38 1 1 := FAt.mk2 (m := 1) Try.underlying38 rfl rfl (fun w => Try.sizeOf9 w) (by decide)
theorem FA38_2 : FAt Try.prog 38 2 2 := FAt.mk2 (m := 1) Try.underlying38 rfl rfl (fun w => Try.sizeOf3 w) (by decide)
theorem EL34 : ElT Try.prog 34 38 3 [.string ⟨#[]⟩, .string ⟨#[]⟩, .int .i64 0] := ⟨IX34, rfl, by decide, fun w => ⟨_, Try.zeroValue38 w, rfl⟩⟩
theorem AP34 : ApT Try.prog 34 38 3 40 := ⟨Try.underlying34, by decide, Try.t38, _, by kernel_rfl, rfl, rfl, rfl, rfl⟩
theorem ZV38 : ∀ w, ∃ zv, (zeroValue 38).run Try.prog w = .ok zv w ∧ zv.cells = #[.string ⟨#[]⟩, .string ⟨#[]⟩, .int .i64 0] := fun w => ⟨_, Try.zeroValue38 w, rfl⟩
theorem FL38 : Flds Try.prog 38 [(0, 1), (1, 1), (2, 1)] [.string ⟨#[]⟩, .string ⟨#[]⟩, .int .i64 0] := ⟨_, Try.underlying38, fun w => by kernel_rfl, fun w => ⟨_, Try.zeroValue38 w, rfl⟩⟩
theorem CX45 : CmpX Try.prog 45 := fun args w => run_callFunc_extern Try.func45 (by kernel_rfl) (by kernel_rfl) (by kernel_rfl) (by kernel_rfl) args w
theorem IX41 : IxT Try.prog 41 3 1 := ⟨Try.underlying41, fun w => Try.sizeOf3 w⟩
theorem EL41 : ElT Try.prog 41 3 1 [.int .i64 0] := ⟨IX41, rfl, by decide, fun w => ⟨_, Try.zeroValue3 w, rfl⟩⟩
def K47 : Kn scutageref19_Pair := ⟨47, 3, fun x => [.string x.Seller, .string x.Buyer, .int .i64 x.Amount], fun _ => rfl, by decide, fun _ => rfl⟩
theorem FA45_0 : FAt Try.prog 45 0 0 := FAt.mk2 (m := 1) Try.underlying45 rfl rfl (fun w => Try.sizeOf43 w) (by decide)
theorem LD43 : Ld1 Try.prog 43 := fun w => ⟨Try.isAgg43 w, Try.sizeOf43 w⟩
theorem IX43 : IxT Try.prog 43 47 3 := ⟨Try.underlying43, fun w => Try.sizeOf47 w⟩
theorem LD47 : LdA Try.prog 47 3 := fun w => ⟨Try.isAgg47 w, Try.sizeOf47 w⟩
theorem FA47_0 : FAt Try.prog 47 0 0 := FAt.mk2 (m := 1) Try.underlying47 rfl rfl (fun w => Try.sizeOf9 w) (by decide)
theorem FA47_1 : FAt Try.prog 47 1 1 := FAt.mk2 (m := 1) Try.underlying47 rfl rfl (fun w => Try.sizeOf9 w) (by decide)
theorem FA47_2 : FAt Try.prog 47 2 2 := FAt.mk2 (m := 1) Try.underlying47 rfl rfl (fun w => Try.sizeOf3 w) (by decide)
theorem FL47 : Flds Try.prog 47 [(0, 1), (1, 1), (2, 1)] [.string ⟨#[]⟩, .string ⟨#[]⟩, .int .i64 0] := ⟨_, Try.underlying47, fun w => by kernel_rfl, fun w => ⟨_, Try.zeroValue47 w, rfl⟩⟩
theorem EL43 : ElT Try.prog 43 47 3 [.string ⟨#[]⟩, .string ⟨#[]⟩, .int .i64 0] := ⟨IX43, rfl, by decide, fun w => ⟨_, Try.zeroValue47 w, rfl⟩⟩
theorem AP43 : ApT Try.prog 43 47 3 40 := ⟨Try.underlying43, by decide, Try.t47, _, by kernel_rfl, rfl, rfl, rfl, rfl⟩
theorem EQ47 (x0 y0 : ByteArray) (x1 y1 : ByteArray) (x2 y2 : Int) : EqT Try.prog 47 2 [.string x0, .string x1, .int .i64 x2] [.string y0, .string y1, .int .i64 y2] (x0.toList == y0.toList && (x1.toList == y1.toList && (x2 == y2))) := by
  have h := eqt_of (m := 1) (xs := [.string x0, .string x1, .int .i64 x2]) (ys := [.string y0, .string y1, .int .i64 y2]) Try.underlying47 Try.stoodInHeld47 (eqs_str rfl LD9 Try.underlying9 rfl rfl (by decide) (eqs_str rfl LD9 Try.underlying9 rfl rfl (by decide) (eqs_int rfl LD3 Try.underlying3 rfl rfl (by decide) eqs_nil)))
  simpa only [Bool.and_true] using h
theorem AP41 : ApT Try.prog 41 3 1 8 := ⟨Try.underlying41, by decide, Try.t3, _, by kernel_rfl, rfl, rfl, rfl, rfl⟩

end Go.Proofs.Ytfhekejaobmacaa
