/- The statement CrossOrder: the walk and the plain law, joined in its row. -/
import Derived.Test.YtfhekejaobmacaaRows
import Derived.Test.YtfhekejaobmacaaCore13
import Derived.Test.YtfhekejaobmacaaBX
import Derived.Test.YtfhekejaobmacaaBL
set_option linter.unusedVariables false
namespace Go.Proofs.Ytfhekejaobmacaa.crossOrder
open Go Go.ChangeShapes Go.WideShapes Go.ChangeAt Go.RowKit Go.Proofs.Ytfhekejaobmacaa

theorem own : ownKnob Try.prog.godebug = none := by kernel_rfl
theorem laidOut : laidOutB Try.prog = true := by kernel_rfl

theorem dec28 {H : Type} {enc : TypeId × Value → H} {W : World} {held : Bool} : ∀ fuel cs y, DataW.trod enc Try.prog W 0 (fun _ => true) held fuel 28 cs = some y → ∃ x, K28.enc x = cs ∧ True := by
  intro fuel cs y h
  obtain ⟨hl, hf⟩ := dc_struct Try.underlying28 (by kernel_rfl) (by kernel_rfl) h
  match cs, hl with
  | [z0, z1, z2], _ =>
    obtain ⟨n0, y0, h0⟩ := hf 0 _ rfl
    obtain ⟨a0, e0, _⟩ := DataW.trod_int Try.underlying3 h0
    obtain rfl : z0 = .int .i64 a0 := by simpa using e0
    obtain ⟨n1, y1, h1⟩ := hf 1 _ rfl
    obtain ⟨a1, e1, _⟩ := DataW.trod_int Try.underlying3 h1
    obtain rfl : z1 = .int .i64 a1 := by simpa using e1
    obtain ⟨n2, y2, h2⟩ := hf 2 _ rfl
    obtain ⟨a2, e2, _⟩ := DataW.trod_int Try.underlying3 h2
    obtain rfl : z2 = .int .i64 a2 := by simpa using e2
    exact ⟨⟨a0, a1, a2⟩, rfl, trivial⟩

set_option maxRecDepth 100000 in
theorem lifted (os : Os) (started : os.Started) (H : Type) (enc : TypeId × Value → H) :
    ReturnsInHanded {} Try.checked os 3 .any (Rows.crossOrderSpec.pre6 enc Try.prog Try.f3 Rows.crossOrderRow.domain false) (Rows.crossOrderSpec.post enc Try.prog Try.f3 false true false false) := by
  refine returnsInHanded_of_change (C := Try.checked) own started (by kernel_rfl) Try.func3
    (ChangeSpec.witness6 (enc := enc) (C := Try.checked) false ⟨#[], #[.slice none 0 0], []⟩ 8 (by kernel_rfl) (by kernel_rfl) (by kernel_rfl) (by kernel_rfl)) ?_
  intro W base args ds gs before hval0 hW hcnd _
  have hval : ∀ (j : Nat) t v, Try.f3.params[j]? = some t → args[j]? = some v → Value.okWide Try.prog W .any base t v := hval0
  have hW' := hW
  obtain ⟨p, q, hA0, hV, rfl, _, _⟩ := hW
  have hA : DataW.TrodAll enc Try.prog W 0 (fun _ => true) true Try.f3.params.toList args.toList ds p := hA0
  rw [Try.params3] at hA hval
  obtain ⟨v0, vs0, d0, ds0, p0, q0, hargs, rfl, rfl, h0, r0⟩ := trodAll_cons hA
  obtain ⟨rfl, rfl, rfl⟩ := trodAll_nil r0
  obtain rfl : args = #[v0] := by cases args; simp_all
  obtain ⟨rfl, rfl⟩ := trodVars_none hV
  obtain ⟨A0, c0, xs0, rfl, hc0, hs0, _⟩ := open_viewE (K := K28) Try.underlying22 (by kernel_rfl) dec28 (hval 0 22 v0 rfl rfl) h0
  refine (scutagelaw24_CrossOrder_ok (w0 := W) (Γ := [Old W]) xs0 A0 _ c0 rfl hc0 (fun u hu => hs0 u hu.g0) true (Hp.start W) (CrossOrder_true xs0)).mono fun e W' ⟨he, hH⟩ => ?_
  subst he
  exact ⟨_, rfl, law_post laidOut rfl rfl Try.underlying4 (of_decide_eq_true (by kernel_rfl)) hW' rfl (hH.below hH.older)⟩

theorem over : Rows.crossOrderRow.holds Try.pinned (OpenSpec.ofChange Rows.crossOrderSpec) :=
  OpenClaim.holds_of_wide 3 Try.f3 rfl rfl rfl rfl rfl rfl rfl ⟨rfl, rfl, rfl, rfl, rfl⟩ rfl rfl rfl rfl rfl (by kernel_rfl) Try.func3 (by kernel_rfl)
    (of_decide_eq_true (by kernel_rfl)) (by unfold Func.isWrapper; first | (rw [if_pos (by decide +kernel)]; kernel_rfl) | (rw [if_neg (by decide +kernel)]; exact ⟨rfl, rfl⟩))
    (fun os started H enc _ => lifted os started H enc)
theorem proved : Rows.CrossOrderSaid := over
end Go.Proofs.Ytfhekejaobmacaa.crossOrder
