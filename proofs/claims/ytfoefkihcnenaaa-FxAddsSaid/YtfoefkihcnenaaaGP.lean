/- The statement FxAdds: the walk and the plain law, joined in its row. -/
import Derived.Test.YtfoefkihcnenaaaRows
import Derived.Test.YtfoefkihcnenaaaCore9
import Derived.Test.YtfoefkihcnenaaaGX
import Derived.Test.YtfoefkihcnenaaaGL
set_option linter.unusedVariables false
namespace Go.Proofs.Ytfoefkihcnenaaa.fxAdds
open Go Go.ChangeShapes Go.WideShapes Go.ChangeAt Go.RowKit Go.Proofs.Ytfoefkihcnenaaa

theorem own : ownKnob Try.prog.godebug = none := by kernel_rfl
theorem laidOut : laidOutB Try.prog = true := by kernel_rfl

set_option maxRecDepth 100000 in
theorem lifted (os : Os) (started : os.Started) (H : Type) (enc : TypeId × Value → H) :
    ReturnsInHanded {} Try.checked os 5 .any (Rows.fxAddsSpec.pre6 enc Try.prog Try.f5 Rows.fxAddsRow.domain false) (Rows.fxAddsSpec.post enc Try.prog Try.f5 false true false false) := by
  refine returnsInHanded_of_change (C := Try.checked) own started (by kernel_rfl) Try.func5
    (ChangeSpec.witness6 (enc := enc) (C := Try.checked) false ⟨#[], #[.slice none 0 0, .slice none 0 0, .slice none 0 0], []⟩ 8 (by kernel_rfl) (by kernel_rfl) (by kernel_rfl) (by kernel_rfl)) ?_
  intro W base args ds gs before hval0 hW hcnd _
  have hval : ∀ (j : Nat) t v, Try.f5.params[j]? = some t → args[j]? = some v → Value.okWide Try.prog W .any base t v := hval0
  have hW' := hW
  obtain ⟨p, q, hA0, hV, rfl, _, _⟩ := hW
  have hA : DataW.TrodAll enc Try.prog W 0 (fun _ => true) true Try.f5.params.toList args.toList ds p := hA0
  rw [Try.params5] at hA hval
  obtain ⟨v0, vs0, d0, ds0, p0, q0, hargs, rfl, rfl, h0, r0⟩ := trodAll_cons hA
  obtain ⟨v1, vs1, d1, ds1, p1, q1, rfl, rfl, rfl, h1, r1⟩ := trodAll_cons r0
  obtain ⟨v2, vs2, d2, ds2, p2, q2, rfl, rfl, rfl, h2, r2⟩ := trodAll_cons r1
  obtain ⟨rfl, rfl, rfl⟩ := trodAll_nil r2
  obtain rfl : args = #[v0, v1, v2] := by cases args; simp_all
  obtain ⟨rfl, rfl⟩ := trodVars_none hV
  obtain ⟨A0, c0, xs0, rfl, hc0, hs0, _⟩ := open_view (K := K3) Try.underlying34 Try.underlying3 (by kernel_rfl) (fun _ => rfl) (hval 0 34 v0 rfl rfl) h0
  obtain ⟨A1, c1, xs1, rfl, hc1, hs1, _⟩ := open_view (K := K3) Try.underlying34 Try.underlying3 (by kernel_rfl) (fun _ => rfl) (hval 1 34 v1 rfl rfl) h1
  obtain ⟨A2, c2, xs2, rfl, hc2, hs2, _⟩ := open_view (K := K3) Try.underlying34 Try.underlying3 (by kernel_rfl) (fun _ => rfl) (hval 2 34 v2 rfl rfl) h2
  refine (scutagelaw25_FxAdds_ok (w0 := W) (Γ := [Old W]) xs0 A0 _ c0 rfl hc0 (fun u hu => hs0 u hu.g0) xs1 A1 _ c1 rfl hc1 (fun u hu => hs1 u hu.g0) xs2 A2 _ c2 rfl hc2 (fun u hu => hs2 u hu.g0) true (Hp.start W) (FxAdds_true xs0 xs1 xs2)).mono fun e W' ⟨he, hH⟩ => ?_
  subst he
  exact ⟨_, rfl, law_post laidOut rfl rfl Try.underlying4 (of_decide_eq_true (by kernel_rfl)) hW' rfl (hH.below hH.older)⟩

theorem over : Rows.fxAddsRow.holds Try.pinned (OpenSpec.ofChange Rows.fxAddsSpec) :=
  OpenClaim.holds_of_wide 5 Try.f5 rfl rfl rfl rfl rfl rfl rfl ⟨rfl, rfl, rfl, rfl, rfl⟩ rfl rfl rfl rfl rfl (by kernel_rfl) Try.func5 (by kernel_rfl)
    (of_decide_eq_true (by kernel_rfl)) (by unfold Func.isWrapper; first | (rw [if_pos (by decide +kernel)]; kernel_rfl) | (rw [if_neg (by decide +kernel)]; exact ⟨rfl, rfl⟩))
    (fun os started H enc _ => lifted os started H enc)
theorem proved : Rows.FxAddsSaid := over
end Go.Proofs.Ytfoefkihcnenaaa.fxAdds
