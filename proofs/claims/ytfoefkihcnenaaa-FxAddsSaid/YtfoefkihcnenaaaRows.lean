/-
  No cell of these rows narrows 'for every input' (looked for: loops, veiled, ifaces, maps, wideKeys, modest, calm, conditions, laid).
  DERIVED. THE GIVEN ROWS OF THIS SEAT. 3 by the template 'for every input the law returns true; each argument reads behind the call as it read before'; 0 by the template 'total and deterministic' (their statements: YtfoefkihcnenaaaTotals.lean).
  GIVEN WITH THE SEED: the statements are not yours to turn. If you find one false, say at which input.
  Laid BY PROGRAM, IN A SANDBOX (cutbox-rows.mjs): the forced cells as the released guide's own fill.sh prints them over the translation d8b49c54bc8e7fc9… (all of the seat's roots in one cut). By AI agents, Wed Nov 11 2026. No macro, syntax, notation, axiom, sorry.
-/
import Derived.Test.YtfoefkihcnenaaaChecked
import GoSem.Claim
import GoSem.ClaimJoined
import GoSem.ClaimMapViews
import Derived.JoinedTies
import Derived.KernelRfl
namespace Go.Proofs.Ytfoefkihcnenaaa
/- THE CELL 'sum', in the pinned program and in every row, IS THE sha256 OF THE DUMP (.gsa) THAT YtfoefkihcnenaaaProg.lean LOADS. Nothing in Lean hashes anything: it is a label: what it is worth is what the hold of that sum in a sandbox is worth. -/
noncomputable def Try.pinned : Pinned := { name := "ytfoefkihcnenaaa", sum := "d8b49c54bc8e7fc9690d6d4321b3c87ca6f19e506280b5461045f878d8b3a47c", checked := Try.checked }
namespace Rows
def none {H : Type} : Left H := { results := [], args := [] }

/-- 'scutagelaw25.FxErrors': WHATEVER THE INPUT: true; the input reads as it did. -/
def fxErrorsSpec : ChangeSpec := { name := "fxErrors", fn := fun _ => fun
  | [d] => { results := [.lit (.bool true)], args := [d] }
  | _ => none }
def fxErrorsRow : OpenClaim := { program := "ytfoefkihcnenaaa", sum := "d8b49c54bc8e7fc9690d6d4321b3c87ca6f19e506280b5461045f878d8b3a47c", func := "scutage/scutagelaw25.FxErrors", spec := "fxErrors", unfollowed := true, recurses := true, apart := false }
def FxErrorsSaid : Prop := fxErrorsRow.holds Try.pinned (OpenSpec.ofChange fxErrorsSpec)

/-- ITS FALSE NEIGHBOUR: 'it returns false'. Refute it at one input. -/
def fxErrorsWrong : ChangeSpec := { name := "fxErrors", fn := fun _ => fun
  | [d] => { results := [.lit (.bool false)], args := [d] }
  | _ => none }
def FxErrorsWrongFalsely : Prop := fxErrorsRow.holds Try.pinned (OpenSpec.ofChange fxErrorsWrong)

/-- 'scutagelaw25.FxTells': WHATEVER THE INPUT: true; the input reads as it did. -/
def fxTellsSpec : ChangeSpec := { name := "fxTells", fn := fun _ => fun
  | [d1, d2, d3, d4, d5] => { results := [.lit (.bool true)], args := [d1, d2, d3, d4, d5] }
  | _ => none }
def fxTellsRow : OpenClaim := { program := "ytfoefkihcnenaaa", sum := "d8b49c54bc8e7fc9690d6d4321b3c87ca6f19e506280b5461045f878d8b3a47c", func := "scutage/scutagelaw25.FxTells", spec := "fxTells", unfollowed := true, recurses := true, apart := false }
def FxTellsSaid : Prop := fxTellsRow.holds Try.pinned (OpenSpec.ofChange fxTellsSpec)

/-- ITS FALSE NEIGHBOUR: 'it returns false'. Refute it at one input. -/
def fxTellsWrong : ChangeSpec := { name := "fxTells", fn := fun _ => fun
  | [d1, d2, d3, d4, d5] => { results := [.lit (.bool false)], args := [d1, d2, d3, d4, d5] }
  | _ => none }
def FxTellsWrongFalsely : Prop := fxTellsRow.holds Try.pinned (OpenSpec.ofChange fxTellsWrong)

/-- 'scutagelaw25.FxAdds': WHATEVER THE INPUT: true; the input reads as it did. -/
def fxAddsSpec : ChangeSpec := { name := "fxAdds", fn := fun _ => fun
  | [d1, d2, d3] => { results := [.lit (.bool true)], args := [d1, d2, d3] }
  | _ => none }
def fxAddsRow : OpenClaim := { program := "ytfoefkihcnenaaa", sum := "d8b49c54bc8e7fc9690d6d4321b3c87ca6f19e506280b5461045f878d8b3a47c", func := "scutage/scutagelaw25.FxAdds", spec := "fxAdds", unfollowed := true, recurses := true, apart := false }
def FxAddsSaid : Prop := fxAddsRow.holds Try.pinned (OpenSpec.ofChange fxAddsSpec)

/-- ITS FALSE NEIGHBOUR: 'it returns false'. Refute it at one input. -/
def fxAddsWrong : ChangeSpec := { name := "fxAdds", fn := fun _ => fun
  | [d1, d2, d3] => { results := [.lit (.bool false)], args := [d1, d2, d3] }
  | _ => none }
def FxAddsWrongFalsely : Prop := fxAddsRow.holds Try.pinned (OpenSpec.ofChange fxAddsWrong)

/- THE SECOND FORM. 'bulk': how many values and letters a reading holds, each counted each time it is reached (what is shared counts as often as it is met; a slice's spare places count too). A statement '..UptoSaid' is the law's where the arguments, and the package variables that the reading takes, are together of bulk at most 1048576: NARROWER than '..Said'. Prove '..Said' where nothing that the law and all that it calls make is longer than what came in: it says more and counts as full. Else prove '..UptoSaid'. A law counts once. -/
mutual
def uptoBulk {H : Type} : DataW H → Nat
  | .lit (.string bytes) => bytes.length + 1
  | .lit _ => 1
  | .nil => 1
  | .ptr d => uptoBulk d + 1
  | .slice elems spare => uptoBulkAll elems + uptoBulkAll spare + 1
  | .agg parts => uptoBulkAll parts + 1
  | .iface _ d => uptoBulk d + 1
  | .map entries => uptoBulkEntries entries + 1
  | .held _ => 1
def uptoBulkAll {H : Type} : List (DataW H) → Nat
  | [] => 0
  | d :: r => uptoBulk d + uptoBulkAll r
def uptoBulkEntries {H : Type} : List (Lit × DataW H) → Nat
  | [] => 0
  | x :: r => uptoBulkEntry x + uptoBulkEntries r
def uptoBulkEntry {H : Type} : Lit × DataW H → Nat
  | (.string bytes, d) => bytes.length + uptoBulk d + 1
  | (_, d) => uptoBulk d + 1
 end
def uptoSmall : (H : Type) → List (DataW H) → Bool := fun _ ds => decide (uptoBulkAll ds ≤ 1048576)
def OpenSpec.upto (s : _root_.Go.ChangeSpec) : _root_.Go.OpenSpec := { _root_.Go.OpenSpec.ofChange s with cond := some uptoSmall }

/-- 'scutagelaw25.FxErrors', WHERE WHAT IT READS IS OF BULK AT MOST 1048576: true; the input reads as it did. -/
def fxErrorsUptoRow : OpenClaim := { program := "ytfoefkihcnenaaa", sum := "d8b49c54bc8e7fc9690d6d4321b3c87ca6f19e506280b5461045f878d8b3a47c", func := "scutage/scutagelaw25.FxErrors", spec := "fxErrors", unfollowed := true, recurses := true, apart := false, narrowed := true }
def FxErrorsUptoSaid : Prop := fxErrorsUptoRow.holds Try.pinned (OpenSpec.upto fxErrorsSpec)

/-- 'scutagelaw25.FxTells', WHERE WHAT IT READS IS OF BULK AT MOST 1048576: true; the input reads as it did. -/
def fxTellsUptoRow : OpenClaim := { program := "ytfoefkihcnenaaa", sum := "d8b49c54bc8e7fc9690d6d4321b3c87ca6f19e506280b5461045f878d8b3a47c", func := "scutage/scutagelaw25.FxTells", spec := "fxTells", unfollowed := true, recurses := true, apart := false, narrowed := true }
def FxTellsUptoSaid : Prop := fxTellsUptoRow.holds Try.pinned (OpenSpec.upto fxTellsSpec)

/-- 'scutagelaw25.FxAdds', WHERE WHAT IT READS IS OF BULK AT MOST 1048576: true; the input reads as it did. -/
def fxAddsUptoRow : OpenClaim := { program := "ytfoefkihcnenaaa", sum := "d8b49c54bc8e7fc9690d6d4321b3c87ca6f19e506280b5461045f878d8b3a47c", func := "scutage/scutagelaw25.FxAdds", spec := "fxAdds", unfollowed := true, recurses := true, apart := false, narrowed := true }
def FxAddsUptoSaid : Prop := fxAddsUptoRow.holds Try.pinned (OpenSpec.upto fxAddsSpec)

end Rows
end Go.Proofs.Ytfoefkihcnenaaa
