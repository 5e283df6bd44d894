/- The statement StorePlays: the walk and the plain law, joined in its row. -/
import Derived.Test.YtdhekpodgemneaaRows
import Derived.Test.YtdhekpodgemneaaCore13
import Derived.Test.YtdhekpodgemneaaPX
import Derived.Test.YtdhekpodgemneaaPL4
set_option linter.unusedVariables false
namespace Go.Proofs.Ytdhekpodgemneaa.storePlays
open Go Go.ChangeShapes Go.WideShapes Go.ChangeAt Go.RowKit Go.Proofs.Ytdhekpodgemneaa

theorem own : ownKnob Try.prog.godebug = none := by kernel_rfl
theorem laidOut : laidOutB Try.prog = true := by kernel_rfl

theorem dec3 {H : Type} {enc : TypeId × Value → H} {W : World} {held : Bool} : ∀ fuel cs y, DataW.trod enc Try.prog W 0 (fun _ => true) held fuel 3 cs = some y → ∃ x, K3.enc x = cs ∧ True := fun fuel cs y h => by obtain ⟨a, e, _⟩ := DataW.trod_int Try.underlying3 h; exact ⟨a, e.symm, trivial⟩
theorem dec31 {H : Type} {enc : TypeId × Value → H} {W : World} {held : Bool} : ∀ fuel cs y, DataW.trod enc Try.prog W 0 (fun _ => true) held fuel 31 cs = some y → ∃ x : scutagelaw07_Act × ((Option Addr × Nat) × (Option Addr × Nat)), ((fun b : (Option Addr × Nat) × (Option Addr × Nat) => KN31 b.1 b.2) x.2).enc x.1 = cs ∧ (fun (x : scutagelaw07_Act) (b : (Option Addr × Nat) × (Option Addr × Nat)) => (x.Accounts.length ≤ b.1.2 ∧ ∀ u, Old W u → SlR K3 b.1.1 x.Accounts u) ∧ (x.Amounts.length ≤ b.2.2 ∧ ∀ u, Old W u → SlR K3 b.2.1 x.Amounts u)) x.1 x.2 := by
  intro fuel cs y h
  obtain ⟨hl, hf⟩ := dc_struct Try.underlying31 (by kernel_rfl) (by kernel_rfl) h
  match cs, hl with
  | [z0, z1, z2, z3, z4, z5, z6, z7], _ =>
    obtain ⟨n0, y0, h0⟩ := hf 0 _ rfl
    obtain ⟨a0, e0, _⟩ := DataW.trod_int Try.underlying3 h0
    obtain rfl : z0 = .int .i64 a0 := by simpa using e0
    obtain ⟨n1, y1, h1⟩ := hf 1 _ rfl
    obtain ⟨a1, e1, _⟩ := DataW.trod_int Try.underlying3 h1
    obtain rfl : z1 = .int .i64 a1 := by simpa using e1
    obtain ⟨n2, y2, h2⟩ := hf 2 _ rfl
    obtain ⟨a2, e2, _⟩ := DataW.trod_int Try.underlying3 h2
    obtain rfl : z2 = .int .i64 a2 := by simpa using e2
    obtain ⟨n3, y3, h3⟩ := hf 3 _ rfl
    obtain ⟨a3, e3, _⟩ := DataW.trod_int Try.underlying3 h3
    obtain rfl : z3 = .int .i64 a3 := by simpa using e3
    obtain ⟨n4, y4, h4⟩ := hf 4 _ rfl
    obtain ⟨A4, c4, a4, e4, hc4, hs4, _⟩ := open_elems (K := K3) Try.underlying29 (by kernel_rfl) dec3 h4
    obtain rfl : z4 = .slice A4 a4.length c4 := by simpa using e4
    obtain ⟨n5, y5, h5⟩ := hf 5 _ rfl
    obtain ⟨A5, c5, a5, e5, hc5, hs5, _⟩ := open_elems (K := K3) Try.underlying29 (by kernel_rfl) dec3 h5
    obtain rfl : z5 = .slice A5 a5.length c5 := by simpa using e5
    obtain ⟨n6, y6, h6⟩ := hf 6 _ rfl
    obtain ⟨a6, e6, _⟩ := DataW.trod_int Try.underlying3 h6
    obtain rfl : z6 = .int .i64 a6 := by simpa using e6
    obtain ⟨n7, y7, h7⟩ := hf 7 _ rfl
    obtain ⟨a7, e7, _⟩ := DataW.trod_int Try.underlying3 h7
    obtain rfl : z7 = .int .i64 a7 := by simpa using e7
    exact ⟨(⟨a0, a1, a2, a3, a4, a5, a6, a7⟩, (A4, c4), (A5, c5)), rfl, ⟨hc4, hs4⟩, ⟨hc5, hs5⟩⟩

set_option maxRecDepth 100000 in
theorem lifted (os : Os) (started : os.Started) (H : Type) (enc : TypeId × Value → H) :
    ReturnsInHanded {} Try.checked os 3 .any (Rows.storePlaysSpec.pre6 enc Try.prog Try.f3 Rows.storePlaysRow.domain false) (Rows.storePlaysSpec.post enc Try.prog Try.f3 false true false false) := by
  refine returnsInHanded_of_change (C := Try.checked) own started (by kernel_rfl) Try.func3
    (ChangeSpec.witness6 (enc := enc) (C := Try.checked) false ⟨#[], #[.slice none 0 0], []⟩ 8 (by kernel_rfl) (by kernel_rfl) (by kernel_rfl) (by kernel_rfl)) ?_
  intro W base args ds gs before hval0 hW hcnd _
  have hval : ∀ (j : Nat) t v, Try.f3.params[j]? = some t → args[j]? = some v → Value.okWide Try.prog W .any base t v := hval0
  have hW' := hW
  obtain ⟨p, q, hA0, hV, rfl, _, _⟩ := hW
  have hA : DataW.TrodAll enc Try.prog W 0 (fun _ => true) true Try.f3.params.toList args.toList ds p := hA0
  rw [Try.params3] at hA hval
  obtain ⟨v0, vs0, d0, ds0, p0, q0, hargs, rfl, rfl, h0, r0⟩ := trodAll_cons hA
  obtain ⟨rfl, rfl, rfl⟩ := trodAll_nil r0
  obtain rfl : args = #[v0] := by cases args; simp_all
  obtain ⟨rfl, rfl⟩ := trodVars_none hV
  obtain ⟨A0, c0, xs0, bs0, rfl, hc0, hs0, hq0⟩ := open_viewN (KB := (fun b : (Option Addr × Nat) × (Option Addr × Nat) => KN31 b.1 b.2)) (Q := fun x b => (x.Accounts.length ≤ b.1.2 ∧ ∀ u, Old W u → SlR K3 b.1.1 x.Accounts u) ∧ (x.Amounts.length ≤ b.2.2 ∧ ∀ u, Old W u → SlR K3 b.2.1 x.Amounts u)) (sz := 8) Try.underlying22 (fun _ => rfl) (by kernel_rfl) (by decide) dec31 (hval 0 22 v0 rfl rfl) h0
  refine (scutagelaw07_StorePlays_ok (w0 := W) (Γ := [Old W]) xs0 A0 _ c0 rfl hc0 (fun j => (bs0 j).1) (fun j => (bs0 j).2) (fun u hu => hs0 u hu.g0) (fun j x hj => ⟨(hq0 j x hj).1.1, fun u hu => (hq0 j x hj).1.2 u hu.g0⟩) (fun j x hj => ⟨(hq0 j x hj).2.1, fun u hu => (hq0 j x hj).2.2 u hu.g0⟩) true (Hp.start W) (StorePlays_true xs0)).mono fun e W' ⟨he, hH⟩ => ?_
  subst he
  exact ⟨_, rfl, law_post laidOut rfl rfl Try.underlying4 (of_decide_eq_true (by kernel_rfl)) hW' rfl (hH.below hH.older)⟩

theorem over : Rows.storePlaysRow.holds Try.pinned (OpenSpec.ofChange Rows.storePlaysSpec) :=
  OpenClaim.holds_of_wide 3 Try.f3 rfl rfl rfl rfl rfl rfl rfl ⟨rfl, rfl, rfl, rfl, rfl⟩ rfl rfl rfl rfl rfl (by kernel_rfl) Try.func3 (by kernel_rfl)
    (of_decide_eq_true (by kernel_rfl)) (by unfold Func.isWrapper; first | (rw [if_pos (by decide +kernel)]; kernel_rfl) | (rw [if_neg (by decide +kernel)]; exact ⟨rfl, rfl⟩))
    (fun os started H enc _ => lifted os started H enc)
theorem proved : Rows.StorePlaysSaid := over
end Go.Proofs.Ytdhekpodgemneaa.storePlays
