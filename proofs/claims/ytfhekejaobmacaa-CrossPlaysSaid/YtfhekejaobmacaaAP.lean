/- The statement CrossPlays: the walk and the plain law, joined in its row. -/
import Derived.Test.YtfhekejaobmacaaRows
import Derived.Test.YtfhekejaobmacaaCore13
import Derived.Test.YtfhekejaobmacaaAX
import Derived.Test.YtfhekejaobmacaaAL
set_option linter.unusedVariables false
namespace Go.Proofs.Ytfhekejaobmacaa.crossPlays
open Go Go.ChangeShapes Go.WideShapes Go.ChangeAt Go.RowKit Go.Proofs.Ytfhekejaobmacaa

theorem own : ownKnob Try.prog.godebug = none := by kernel_rfl
theorem laidOut : laidOutB Try.prog = true := by kernel_rfl

theorem dec28 {H : Type} {enc : TypeId × Value → H} {W : World} {held : Bool} : ∀ fuel cs y, DataW.trod enc Try.prog W 0 (fun _ => true) held fuel 28 cs = some y → ∃ x, K28.enc x = cs ∧ True := by
  intro fuel cs y h
  obtain ⟨hl, hf⟩ := dc_struct Try.underlying28 (by kernel_rfl) (by kernel_rfl) h
  match cs, hl with
  | [z0, z1, z2], _ =>
    obtain ⟨n0, y0, h0⟩ := hf 0 _ rfl
    obtain ⟨a0, e0, _⟩ := DataW.trod_int Try.underlying3 h0
    obtain rfl : z0 = .int .i64 a0 := by simpa using e0
    obtain ⟨n1, y1, h1⟩ := hf 1 _ rfl
    obtain ⟨a1, e1, _⟩ := DataW.trod_int Try.underlying3 h1
    obtain rfl : z1 = .int .i64 a1 := by simpa using e1
    obtain ⟨n2, y2, h2⟩ := hf 2 _ rfl
    obtain ⟨a2, e2, _⟩ := DataW.trod_int Try.underlying3 h2
    obtain rfl : z2 = .int .i64 a2 := by simpa using e2
    exact ⟨⟨a0, a1, a2⟩, rfl, trivial⟩

set_option maxRecDepth 100000 in
theorem lifted (os : Os) (started : os.Started) (H : Type) (enc : TypeId × Value → H) :
    ReturnsInHanded {} Try.checked os 4 .any (Rows.crossPlaysSpec.pre6 enc Try.prog Try.f4 Rows.crossPlaysRow.domain false) (Rows.crossPlaysSpec.post enc Try.prog Try.f4 false true false false) := by
  refine returnsInHanded_of_change (C := Try.checked) own started (by kernel_rfl) Try.func4
    (ChangeSpec.witness6 (enc := enc) (C := Try.checked) false ⟨#[], #[.slice none 0 0, .slice none 0 0, .int .i64 0], []⟩ 8 (by kernel_rfl) (by kernel_rfl) (by kernel_rfl) (by kernel_rfl)) ?_
  intro W base args ds gs before hval0 hW hcnd _
  have hval : ∀ (j : Nat) t v, Try.f4.params[j]? = some t → args[j]? = some v → Value.okWide Try.prog W .any base t v := hval0
  have hW' := hW
  obtain ⟨p, q, hA0, hV, rfl, _, _⟩ := hW
  have hA : DataW.TrodAll enc Try.prog W 0 (fun _ => true) true Try.f4.params.toList args.toList ds p := hA0
  rw [Try.params4] at hA hval
  obtain ⟨v0, vs0, d0, ds0, p0, q0, hargs, rfl, rfl, h0, r0⟩ := trodAll_cons hA
  obtain ⟨v1, vs1, d1, ds1, p1, q1, rfl, rfl, rfl, h1, r1⟩ := trodAll_cons r0
  obtain ⟨v2, vs2, d2, ds2, p2, q2, rfl, rfl, rfl, h2, r2⟩ := trodAll_cons r1
  obtain ⟨rfl, rfl, rfl⟩ := trodAll_nil r2
  obtain rfl : args = #[v0, v1, v2] := by cases args; simp_all
  obtain ⟨rfl, rfl⟩ := trodVars_none hV
  obtain ⟨A0, c0, xs0, rfl, hc0, hs0, _⟩ := open_viewE (K := K28) Try.underlying22 (by kernel_rfl) dec28 (hval 0 22 v0 rfl rfl) h0
  obtain ⟨A1, c1, xs1, rfl, hc1, hs1, _⟩ := open_view (K := K3) Try.underlying41 Try.underlying3 (by kernel_rfl) (fun _ => rfl) (hval 1 41 v1 rfl rfl) h1
  obtain ⟨x2, rfl, rfl, rfl, w2⟩ := open_int Try.underlying3 (hval 2 3 v2 rfl rfl) h2
  refine (scutagelaw24_CrossPlays_ok (w0 := W) (Γ := [Old W]) xs0 A0 _ c0 rfl hc0 (fun u hu => hs0 u hu.g0) xs1 A1 _ c1 rfl hc1 (fun u hu => hs1 u hu.g0) x2 true (Hp.start W) (CrossPlays_true xs0 xs1 x2)).mono fun e W' ⟨he, hH⟩ => ?_
  subst he
  exact ⟨_, rfl, law_post laidOut rfl rfl Try.underlying4 (of_decide_eq_true (by kernel_rfl)) hW' rfl (hH.below hH.older)⟩

theorem over : Rows.crossPlaysRow.holds Try.pinned (OpenSpec.ofChange Rows.crossPlaysSpec) :=
  OpenClaim.holds_of_wide 4 Try.f4 rfl rfl rfl rfl rfl rfl rfl ⟨rfl, rfl, rfl, rfl, rfl⟩ rfl rfl rfl rfl rfl (by kernel_rfl) Try.func4 (by kernel_rfl)
    (of_decide_eq_true (by kernel_rfl)) (by unfold Func.isWrapper; first | (rw [if_pos (by decide +kernel)]; kernel_rfl) | (rw [if_neg (by decide +kernel)]; exact ⟨rfl, rfl⟩))
    (fun os started H enc _ => lifted os started H enc)
theorem proved : Rows.CrossPlaysSaid := over
end Go.Proofs.Ytfhekejaobmacaa.crossPlays
