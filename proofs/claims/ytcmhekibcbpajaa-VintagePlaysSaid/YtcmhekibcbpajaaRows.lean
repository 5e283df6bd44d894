/-
  No cell of these rows narrows 'for every input' (looked for: loops, veiled, ifaces, maps, wideKeys, modest, calm, conditions, laid).
  DERIVED. THE GIVEN ROWS OF THIS SEAT. 5 by the template 'for every input the law returns true; each argument reads behind the call as it read before'; 0 by the template 'total and deterministic' (their statements: YtcmhekibcbpajaaTotals.lean).
  GIVEN WITH THE SEED: the statements are not yours to turn. If you find one false, say at which input.
  Laid BY PROGRAM, IN A SANDBOX (cutbox-rows.mjs): the forced cells as the released guide's own fill.sh prints them over the translation 1f527c5c904d7b71… (all of the seat's roots in one cut). By AI agents, Wed Nov 11 2026. No macro, syntax, notation, axiom, sorry.
-/
import Derived.Test.YtcmhekibcbpajaaChecked
import GoSem.Claim
import GoSem.ClaimJoined
import GoSem.ClaimMapViews
import Derived.JoinedTies
import Derived.KernelRfl
namespace Go.Proofs.Ytcmhekibcbpajaa
/- THE CELL 'sum', in the pinned program and in every row, IS THE sha256 OF THE DUMP (.gsa) THAT YtcmhekibcbpajaaProg.lean LOADS. Nothing in Lean hashes anything: it is a label: what it is worth is what the hold of that sum in a sandbox is worth. -/
noncomputable def Try.pinned : Pinned := { name := "ytcmhekibcbpajaa", sum := "1f527c5c904d7b71a3967898a49866e2906f0f96b520b1ed48fd314087278f70", checked := Try.checked }
namespace Rows
def none {H : Type} : Left H := { results := [], args := [] }

/-- 'scutagelaw13.VintagePlays': WHATEVER THE INPUT: true; the input reads as it did. -/
def vintagePlaysSpec : ChangeSpec := { name := "vintagePlays", fn := fun _ => fun
  | [d] => { results := [.lit (.bool true)], args := [d] }
  | _ => none }
def vintagePlaysRow : OpenClaim := { program := "ytcmhekibcbpajaa", sum := "1f527c5c904d7b71a3967898a49866e2906f0f96b520b1ed48fd314087278f70", func := "scutage/scutagelaw13.VintagePlays", spec := "vintagePlays", unfollowed := true, recurses := true, apart := false }
def VintagePlaysSaid : Prop := vintagePlaysRow.holds Try.pinned (OpenSpec.ofChange vintagePlaysSpec)

/-- ITS FALSE NEIGHBOUR: 'it returns false'. Refute it at one input. -/
def vintagePlaysWrong : ChangeSpec := { name := "vintagePlays", fn := fun _ => fun
  | [d] => { results := [.lit (.bool false)], args := [d] }
  | _ => none }
def VintagePlaysWrongFalsely : Prop := vintagePlaysRow.holds Try.pinned (OpenSpec.ofChange vintagePlaysWrong)

/-- 'scutagelaw10.BucketSums': WHATEVER THE INPUT: true; the input reads as it did. -/
def bucketSumsSpec : ChangeSpec := { name := "bucketSums", fn := fun _ => fun
  | [d1, d2, d3, d4, d5, d6] => { results := [.lit (.bool true)], args := [d1, d2, d3, d4, d5, d6] }
  | _ => none }
def bucketSumsRow : OpenClaim := { program := "ytcmhekibcbpajaa", sum := "1f527c5c904d7b71a3967898a49866e2906f0f96b520b1ed48fd314087278f70", func := "scutage/scutagelaw10.BucketSums", spec := "bucketSums", unfollowed := true, recurses := true, apart := false }
def BucketSumsSaid : Prop := bucketSumsRow.holds Try.pinned (OpenSpec.ofChange bucketSumsSpec)

/-- ITS FALSE NEIGHBOUR: 'it returns false'. Refute it at one input. -/
def bucketSumsWrong : ChangeSpec := { name := "bucketSums", fn := fun _ => fun
  | [d1, d2, d3, d4, d5, d6] => { results := [.lit (.bool false)], args := [d1, d2, d3, d4, d5, d6] }
  | _ => none }
def BucketSumsWrongFalsely : Prop := bucketSumsRow.holds Try.pinned (OpenSpec.ofChange bucketSumsWrong)

/-- 'scutagelaw15.CurrentYears': WHATEVER THE INPUT: true; the input reads as it did. -/
def currentYearsSpec : ChangeSpec := { name := "currentYears", fn := fun _ => fun
  | [d1, d2, d3, d4] => { results := [.lit (.bool true)], args := [d1, d2, d3, d4] }
  | _ => none }
def currentYearsRow : OpenClaim := { program := "ytcmhekibcbpajaa", sum := "1f527c5c904d7b71a3967898a49866e2906f0f96b520b1ed48fd314087278f70", func := "scutage/scutagelaw15.CurrentYears", spec := "currentYears", unfollowed := true, recurses := true, apart := false }
def CurrentYearsSaid : Prop := currentYearsRow.holds Try.pinned (OpenSpec.ofChange currentYearsSpec)

/-- ITS FALSE NEIGHBOUR: 'it returns false'. Refute it at one input. -/
def currentYearsWrong : ChangeSpec := { name := "currentYears", fn := fun _ => fun
  | [d1, d2, d3, d4] => { results := [.lit (.bool false)], args := [d1, d2, d3, d4] }
  | _ => none }
def CurrentYearsWrongFalsely : Prop := currentYearsRow.holds Try.pinned (OpenSpec.ofChange currentYearsWrong)

/-- 'scutagelaw15.CurrentErrors': WHATEVER THE INPUT: true; the input reads as it did. -/
def currentErrorsSpec : ChangeSpec := { name := "currentErrors", fn := fun _ => fun
  | [d] => { results := [.lit (.bool true)], args := [d] }
  | _ => none }
def currentErrorsRow : OpenClaim := { program := "ytcmhekibcbpajaa", sum := "1f527c5c904d7b71a3967898a49866e2906f0f96b520b1ed48fd314087278f70", func := "scutage/scutagelaw15.CurrentErrors", spec := "currentErrors", unfollowed := true, recurses := true, apart := false }
def CurrentErrorsSaid : Prop := currentErrorsRow.holds Try.pinned (OpenSpec.ofChange currentErrorsSpec)

/-- ITS FALSE NEIGHBOUR: 'it returns false'. Refute it at one input. -/
def currentErrorsWrong : ChangeSpec := { name := "currentErrors", fn := fun _ => fun
  | [d] => { results := [.lit (.bool false)], args := [d] }
  | _ => none }
def CurrentErrorsWrongFalsely : Prop := currentErrorsRow.holds Try.pinned (OpenSpec.ofChange currentErrorsWrong)

/-- 'scutagelaw15.CurrentTells': WHATEVER THE INPUT: true; the input reads as it did. -/
def currentTellsSpec : ChangeSpec := { name := "currentTells", fn := fun _ => fun
  | [d1, d2, d3, d4, d5, d6, d7, d8, d9] => { results := [.lit (.bool true)], args := [d1, d2, d3, d4, d5, d6, d7, d8, d9] }
  | _ => none }
def currentTellsRow : OpenClaim := { program := "ytcmhekibcbpajaa", sum := "1f527c5c904d7b71a3967898a49866e2906f0f96b520b1ed48fd314087278f70", func := "scutage/scutagelaw15.CurrentTells", spec := "currentTells", unfollowed := true, recurses := true, apart := false }
def CurrentTellsSaid : Prop := currentTellsRow.holds Try.pinned (OpenSpec.ofChange currentTellsSpec)

/-- ITS FALSE NEIGHBOUR: 'it returns false'. Refute it at one input. -/
def currentTellsWrong : ChangeSpec := { name := "currentTells", fn := fun _ => fun
  | [d1, d2, d3, d4, d5, d6, d7, d8, d9] => { results := [.lit (.bool false)], args := [d1, d2, d3, d4, d5, d6, d7, d8, d9] }
  | _ => none }
def CurrentTellsWrongFalsely : Prop := currentTellsRow.holds Try.pinned (OpenSpec.ofChange currentTellsWrong)

/- THE SECOND FORM. 'bulk': how many values and letters a reading holds, each counted each time it is reached (what is shared counts as often as it is met; a slice's spare places count too). A statement '..UptoSaid' is the law's where the arguments, and the package variables that the reading takes, are together of bulk at most 1048576: NARROWER than '..Said'. Prove '..Said' where nothing that the law and all that it calls make is longer than what came in: it says more and counts as full. Else prove '..UptoSaid'. A law counts once. -/
mutual
def uptoBulk {H : Type} : DataW H → Nat
  | .lit (.string bytes) => bytes.length + 1
  | .lit _ => 1
  | .nil => 1
  | .ptr d => uptoBulk d + 1
  | .slice elems spare => uptoBulkAll elems + uptoBulkAll spare + 1
  | .agg parts => uptoBulkAll parts + 1
  | .iface _ d => uptoBulk d + 1
  | .map entries => uptoBulkEntries entries + 1
  | .held _ => 1
def uptoBulkAll {H : Type} : List (DataW H) → Nat
  | [] => 0
  | d :: r => uptoBulk d + uptoBulkAll r
def uptoBulkEntries {H : Type} : List (Lit × DataW H) → Nat
  | [] => 0
  | x :: r => uptoBulkEntry x + uptoBulkEntries r
def uptoBulkEntry {H : Type} : Lit × DataW H → Nat
  | (.string bytes, d) => bytes.length + uptoBulk d + 1
  | (_, d) => uptoBulk d + 1
 end
def uptoSmall : (H : Type) → List (DataW H) → Bool := fun _ ds => decide (uptoBulkAll ds ≤ 1048576)
def OpenSpec.upto (s : _root_.Go.ChangeSpec) : _root_.Go.OpenSpec := { _root_.Go.OpenSpec.ofChange s with cond := some uptoSmall }

/-- 'scutagelaw13.VintagePlays', WHERE WHAT IT READS IS OF BULK AT MOST 1048576: true; the input reads as it did. -/
def vintagePlaysUptoRow : OpenClaim := { program := "ytcmhekibcbpajaa", sum := "1f527c5c904d7b71a3967898a49866e2906f0f96b520b1ed48fd314087278f70", func := "scutage/scutagelaw13.VintagePlays", spec := "vintagePlays", unfollowed := true, recurses := true, apart := false, narrowed := true }
def VintagePlaysUptoSaid : Prop := vintagePlaysUptoRow.holds Try.pinned (OpenSpec.upto vintagePlaysSpec)

/-- 'scutagelaw10.BucketSums', WHERE WHAT IT READS IS OF BULK AT MOST 1048576: true; the input reads as it did. -/
def bucketSumsUptoRow : OpenClaim := { program := "ytcmhekibcbpajaa", sum := "1f527c5c904d7b71a3967898a49866e2906f0f96b520b1ed48fd314087278f70", func := "scutage/scutagelaw10.BucketSums", spec := "bucketSums", unfollowed := true, recurses := true, apart := false, narrowed := true }
def BucketSumsUptoSaid : Prop := bucketSumsUptoRow.holds Try.pinned (OpenSpec.upto bucketSumsSpec)

/-- 'scutagelaw15.CurrentYears', WHERE WHAT IT READS IS OF BULK AT MOST 1048576: true; the input reads as it did. -/
def currentYearsUptoRow : OpenClaim := { program := "ytcmhekibcbpajaa", sum := "1f527c5c904d7b71a3967898a49866e2906f0f96b520b1ed48fd314087278f70", func := "scutage/scutagelaw15.CurrentYears", spec := "currentYears", unfollowed := true, recurses := true, apart := false, narrowed := true }
def CurrentYearsUptoSaid : Prop := currentYearsUptoRow.holds Try.pinned (OpenSpec.upto currentYearsSpec)

/-- 'scutagelaw15.CurrentErrors', WHERE WHAT IT READS IS OF BULK AT MOST 1048576: true; the input reads as it did. -/
def currentErrorsUptoRow : OpenClaim := { program := "ytcmhekibcbpajaa", sum := "1f527c5c904d7b71a3967898a49866e2906f0f96b520b1ed48fd314087278f70", func := "scutage/scutagelaw15.CurrentErrors", spec := "currentErrors", unfollowed := true, recurses := true, apart := false, narrowed := true }
def CurrentErrorsUptoSaid : Prop := currentErrorsUptoRow.holds Try.pinned (OpenSpec.upto currentErrorsSpec)

/-- 'scutagelaw15.CurrentTells', WHERE WHAT IT READS IS OF BULK AT MOST 1048576: true; the input reads as it did. -/
def currentTellsUptoRow : OpenClaim := { program := "ytcmhekibcbpajaa", sum := "1f527c5c904d7b71a3967898a49866e2906f0f96b520b1ed48fd314087278f70", func := "scutage/scutagelaw15.CurrentTells", spec := "currentTells", unfollowed := true, recurses := true, apart := false, narrowed := true }
def CurrentTellsUptoSaid : Prop := currentTellsUptoRow.holds Try.pinned (OpenSpec.upto currentTellsSpec)

end Rows
end Go.Proofs.Ytcmhekibcbpajaa
