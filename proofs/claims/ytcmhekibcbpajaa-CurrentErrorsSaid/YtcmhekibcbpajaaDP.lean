/- The statement CurrentErrors: the walk and the plain law, joined in its row. -/
import Derived.Test.YtcmhekibcbpajaaRows
import Derived.Test.YtcmhekibcbpajaaCore9
import Derived.Test.YtcmhekibcbpajaaDX
import Derived.Test.YtcmhekibcbpajaaDL
set_option linter.unusedVariables false
namespace Go.Proofs.Ytcmhekibcbpajaa.currentErrors
open Go Go.ChangeShapes Go.WideShapes Go.ChangeAt Go.RowKit Go.Proofs.Ytcmhekibcbpajaa

theorem own : ownKnob Try.prog.godebug = none := by kernel_rfl
theorem laidOut : laidOutB Try.prog = true := by kernel_rfl

set_option maxRecDepth 100000 in
theorem lifted (os : Os) (started : os.Started) (H : Type) (enc : TypeId × Value → H) :
    ReturnsInHanded {} Try.checked os 6 .any (Rows.currentErrorsSpec.pre6 enc Try.prog Try.f6 Rows.currentErrorsRow.domain false) (Rows.currentErrorsSpec.post enc Try.prog Try.f6 false true false false) := by
  refine returnsInHanded_of_change (C := Try.checked) own started (by kernel_rfl) Try.func6
    (ChangeSpec.witness6 (enc := enc) (C := Try.checked) false ⟨#[], #[.int .i64 0], []⟩ 8 (by kernel_rfl) (by kernel_rfl) (by kernel_rfl) (by kernel_rfl)) ?_
  intro W base args ds gs before hval0 hW hcnd _
  have hval : ∀ (j : Nat) t v, Try.f6.params[j]? = some t → args[j]? = some v → Value.okWide Try.prog W .any base t v := hval0
  have hW' := hW
  obtain ⟨p, q, hA0, hV, rfl, _, _⟩ := hW
  have hA : DataW.TrodAll enc Try.prog W 0 (fun _ => true) true Try.f6.params.toList args.toList ds p := hA0
  rw [Try.params6] at hA hval
  obtain ⟨v0, vs0, d0, ds0, p0, q0, hargs, rfl, rfl, h0, r0⟩ := trodAll_cons hA
  obtain ⟨rfl, rfl, rfl⟩ := trodAll_nil r0
  obtain rfl : args = #[v0] := by cases args; simp_all
  obtain ⟨rfl, rfl⟩ := trodVars_none hV
  obtain ⟨x0, rfl, rfl, rfl, w3⟩ := open_int Try.underlying3 (hval 0 3 v0 rfl rfl) h0
  refine (scutagelaw15_CurrentErrors_ok (w0 := W) (Γ := [Old W]) x0 true (Hp.start W) (CurrentErrors_true x0)).mono fun e W' ⟨he, hH⟩ => ?_
  subst he
  exact ⟨_, rfl, law_post laidOut rfl rfl Try.underlying4 (of_decide_eq_true (by kernel_rfl)) hW' rfl (hH.below hH.older)⟩

theorem over : Rows.currentErrorsRow.holds Try.pinned (OpenSpec.ofChange Rows.currentErrorsSpec) :=
  OpenClaim.holds_of_wide 6 Try.f6 rfl rfl rfl rfl rfl rfl rfl ⟨rfl, rfl, rfl, rfl, rfl⟩ rfl rfl rfl rfl rfl (by kernel_rfl) Try.func6 (by kernel_rfl)
    (of_decide_eq_true (by kernel_rfl)) (by unfold Func.isWrapper; first | (rw [if_pos (by decide +kernel)]; kernel_rfl) | (rw [if_neg (by decide +kernel)]; exact ⟨rfl, rfl⟩))
    (fun os started H enc _ => lifted os started H enc)
theorem proved : Rows.CurrentErrorsSaid := over
end Go.Proofs.Ytcmhekibcbpajaa.currentErrors
