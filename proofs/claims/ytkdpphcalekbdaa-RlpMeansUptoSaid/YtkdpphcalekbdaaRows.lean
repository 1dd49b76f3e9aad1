/-
  No cell of these rows narrows 'for every input' (looked for: loops, veiled, ifaces, maps, wideKeys, modest, calm, conditions, laid).
  DERIVED. THE GIVEN ROWS OF THIS SEAT. 9 by the template 'for every input the law returns true; each argument reads behind the call as it read before'; 0 by the template 'total and deterministic' (their statements: YtkdpphcalekbdaaTotals.lean).
  GIVEN WITH THE SEED: the statements are not yours to turn. If you find one false, say at which input.
  Laid BY PROGRAM, IN A SANDBOX (cutbox-rows.mjs): the forced cells as the released guide's own fill.sh prints them over the translation 867c3b86a342b078… (all of the seat's roots in one cut). By AI agents, Wed Nov 11 2026. No macro, syntax, notation, axiom, sorry.
-/
import Derived.Test.YtkdpphcalekbdaaChecked
import GoSem.Claim
import GoSem.ClaimJoined
import GoSem.ClaimMapViews
import Derived.JoinedTies
import Derived.KernelRfl
namespace Go.Proofs.Ytkdpphcalekbdaa
/- THE CELL 'sum', in the pinned program and in every row, IS THE sha256 OF THE DUMP (.gsa) THAT YtkdpphcalekbdaaProg.lean LOADS. Nothing in Lean hashes anything: it is a label: what it is worth is what the hold of that sum in a sandbox is worth. -/
noncomputable def Try.pinned : Pinned := { name := "ytkdpphcalekbdaa", sum := "867c3b86a342b0781d82f38b9342307984e17d5e57b8aec763ec003b0a97cbe8", checked := Try.checked }
namespace Rows
def none {H : Type} : Left H := { results := [], args := [] }

/-- 'cairnlaw04.RlpBack': WHATEVER THE INPUT: true; the input reads as it did. -/
def rlpBackSpec : ChangeSpec := { name := "rlpBack", fn := fun _ => fun
  | [d1, d2] => { results := [.lit (.bool true)], args := [d1, d2] }
  | _ => none }
def rlpBackRow : OpenClaim := { program := "ytkdpphcalekbdaa", sum := "867c3b86a342b0781d82f38b9342307984e17d5e57b8aec763ec003b0a97cbe8", func := "cairn/cairnlaw04.RlpBack", spec := "rlpBack", unfollowed := true, recurses := true, apart := false }
def RlpBackSaid : Prop := rlpBackRow.holds Try.pinned (OpenSpec.ofChange rlpBackSpec)

/-- ITS FALSE NEIGHBOUR: 'it returns false'. Refute it at one input. -/
def rlpBackWrong : ChangeSpec := { name := "rlpBack", fn := fun _ => fun
  | [d1, d2] => { results := [.lit (.bool false)], args := [d1, d2] }
  | _ => none }
def RlpBackWrongFalsely : Prop := rlpBackRow.holds Try.pinned (OpenSpec.ofChange rlpBackWrong)

/-- 'cairnlaw04.RlpOne': WHATEVER THE INPUT: true; the input reads as it did. -/
def rlpOneSpec : ChangeSpec := { name := "rlpOne", fn := fun _ => fun
  | [d1, d2] => { results := [.lit (.bool true)], args := [d1, d2] }
  | _ => none }
def rlpOneRow : OpenClaim := { program := "ytkdpphcalekbdaa", sum := "867c3b86a342b0781d82f38b9342307984e17d5e57b8aec763ec003b0a97cbe8", func := "cairn/cairnlaw04.RlpOne", spec := "rlpOne", unfollowed := true, recurses := true, apart := false }
def RlpOneSaid : Prop := rlpOneRow.holds Try.pinned (OpenSpec.ofChange rlpOneSpec)

/-- ITS FALSE NEIGHBOUR: 'it returns false'. Refute it at one input. -/
def rlpOneWrong : ChangeSpec := { name := "rlpOne", fn := fun _ => fun
  | [d1, d2] => { results := [.lit (.bool false)], args := [d1, d2] }
  | _ => none }
def RlpOneWrongFalsely : Prop := rlpOneRow.holds Try.pinned (OpenSpec.ofChange rlpOneWrong)

/-- 'cairnlaw04.RlpCut': WHATEVER THE INPUT: true; the input reads as it did. -/
def rlpCutSpec : ChangeSpec := { name := "rlpCut", fn := fun _ => fun
  | [d1, d2, d3] => { results := [.lit (.bool true)], args := [d1, d2, d3] }
  | _ => none }
def rlpCutRow : OpenClaim := { program := "ytkdpphcalekbdaa", sum := "867c3b86a342b0781d82f38b9342307984e17d5e57b8aec763ec003b0a97cbe8", func := "cairn/cairnlaw04.RlpCut", spec := "rlpCut", unfollowed := true, recurses := true, apart := false }
def RlpCutSaid : Prop := rlpCutRow.holds Try.pinned (OpenSpec.ofChange rlpCutSpec)

/-- ITS FALSE NEIGHBOUR: 'it returns false'. Refute it at one input. -/
def rlpCutWrong : ChangeSpec := { name := "rlpCut", fn := fun _ => fun
  | [d1, d2, d3] => { results := [.lit (.bool false)], args := [d1, d2, d3] }
  | _ => none }
def RlpCutWrongFalsely : Prop := rlpCutRow.holds Try.pinned (OpenSpec.ofChange rlpCutWrong)

/-- 'cairnlaw04.RlpEncodes': WHATEVER THE INPUT: true; the input reads as it did. -/
def rlpEncodesSpec : ChangeSpec := { name := "rlpEncodes", fn := fun _ => fun
  | [d] => { results := [.lit (.bool true)], args := [d] }
  | _ => none }
def rlpEncodesRow : OpenClaim := { program := "ytkdpphcalekbdaa", sum := "867c3b86a342b0781d82f38b9342307984e17d5e57b8aec763ec003b0a97cbe8", func := "cairn/cairnlaw04.RlpEncodes", spec := "rlpEncodes", unfollowed := true, recurses := true, apart := false }
def RlpEncodesSaid : Prop := rlpEncodesRow.holds Try.pinned (OpenSpec.ofChange rlpEncodesSpec)

/-- ITS FALSE NEIGHBOUR: 'it returns false'. Refute it at one input. -/
def rlpEncodesWrong : ChangeSpec := { name := "rlpEncodes", fn := fun _ => fun
  | [d] => { results := [.lit (.bool false)], args := [d] }
  | _ => none }
def RlpEncodesWrongFalsely : Prop := rlpEncodesRow.holds Try.pinned (OpenSpec.ofChange rlpEncodesWrong)

/-- 'cairnlaw04.RlpPieces': WHATEVER THE INPUT: true; the input reads as it did. -/
def rlpPiecesSpec : ChangeSpec := { name := "rlpPieces", fn := fun _ => fun
  | [d1, d2] => { results := [.lit (.bool true)], args := [d1, d2] }
  | _ => none }
def rlpPiecesRow : OpenClaim := { program := "ytkdpphcalekbdaa", sum := "867c3b86a342b0781d82f38b9342307984e17d5e57b8aec763ec003b0a97cbe8", func := "cairn/cairnlaw04.RlpPieces", spec := "rlpPieces", unfollowed := true, recurses := true, apart := false }
def RlpPiecesSaid : Prop := rlpPiecesRow.holds Try.pinned (OpenSpec.ofChange rlpPiecesSpec)

/-- ITS FALSE NEIGHBOUR: 'it returns false'. Refute it at one input. -/
def rlpPiecesWrong : ChangeSpec := { name := "rlpPieces", fn := fun _ => fun
  | [d1, d2] => { results := [.lit (.bool false)], args := [d1, d2] }
  | _ => none }
def RlpPiecesWrongFalsely : Prop := rlpPiecesRow.holds Try.pinned (OpenSpec.ofChange rlpPiecesWrong)

/-- 'cairnlaw04.RlpKids': WHATEVER THE INPUT: true; the input reads as it did. -/
def rlpKidsSpec : ChangeSpec := { name := "rlpKids", fn := fun _ => fun
  | [d] => { results := [.lit (.bool true)], args := [d] }
  | _ => none }
def rlpKidsRow : OpenClaim := { program := "ytkdpphcalekbdaa", sum := "867c3b86a342b0781d82f38b9342307984e17d5e57b8aec763ec003b0a97cbe8", func := "cairn/cairnlaw04.RlpKids", spec := "rlpKids", unfollowed := true, recurses := true, apart := false }
def RlpKidsSaid : Prop := rlpKidsRow.holds Try.pinned (OpenSpec.ofChange rlpKidsSpec)

/-- ITS FALSE NEIGHBOUR: 'it returns false'. Refute it at one input. -/
def rlpKidsWrong : ChangeSpec := { name := "rlpKids", fn := fun _ => fun
  | [d] => { results := [.lit (.bool false)], args := [d] }
  | _ => none }
def RlpKidsWrongFalsely : Prop := rlpKidsRow.holds Try.pinned (OpenSpec.ofChange rlpKidsWrong)

/-- 'cairnlaw04.RlpNumbers': WHATEVER THE INPUT: true; the input reads as it did. -/
def rlpNumbersSpec : ChangeSpec := { name := "rlpNumbers", fn := fun _ => fun
  | [d1, d2, d3] => { results := [.lit (.bool true)], args := [d1, d2, d3] }
  | _ => none }
def rlpNumbersRow : OpenClaim := { program := "ytkdpphcalekbdaa", sum := "867c3b86a342b0781d82f38b9342307984e17d5e57b8aec763ec003b0a97cbe8", func := "cairn/cairnlaw04.RlpNumbers", spec := "rlpNumbers", unfollowed := true, recurses := true, apart := false }
def RlpNumbersSaid : Prop := rlpNumbersRow.holds Try.pinned (OpenSpec.ofChange rlpNumbersSpec)

/-- ITS FALSE NEIGHBOUR: 'it returns false'. Refute it at one input. -/
def rlpNumbersWrong : ChangeSpec := { name := "rlpNumbers", fn := fun _ => fun
  | [d1, d2, d3] => { results := [.lit (.bool false)], args := [d1, d2, d3] }
  | _ => none }
def RlpNumbersWrongFalsely : Prop := rlpNumbersRow.holds Try.pinned (OpenSpec.ofChange rlpNumbersWrong)

/-- 'cairnlaw04.RlpOpens': WHATEVER THE INPUT: true; the input reads as it did. -/
def rlpOpensSpec : ChangeSpec := { name := "rlpOpens", fn := fun _ => fun
  | [d1, d2, d3, d4] => { results := [.lit (.bool true)], args := [d1, d2, d3, d4] }
  | _ => none }
def rlpOpensRow : OpenClaim := { program := "ytkdpphcalekbdaa", sum := "867c3b86a342b0781d82f38b9342307984e17d5e57b8aec763ec003b0a97cbe8", func := "cairn/cairnlaw04.RlpOpens", spec := "rlpOpens", unfollowed := true, recurses := true, apart := false }
def RlpOpensSaid : Prop := rlpOpensRow.holds Try.pinned (OpenSpec.ofChange rlpOpensSpec)

/-- ITS FALSE NEIGHBOUR: 'it returns false'. Refute it at one input. -/
def rlpOpensWrong : ChangeSpec := { name := "rlpOpens", fn := fun _ => fun
  | [d1, d2, d3, d4] => { results := [.lit (.bool false)], args := [d1, d2, d3, d4] }
  | _ => none }
def RlpOpensWrongFalsely : Prop := rlpOpensRow.holds Try.pinned (OpenSpec.ofChange rlpOpensWrong)

/-- 'cairnlaw04.RlpMeans': WHATEVER THE INPUT: true; the input reads as it did. -/
def rlpMeansSpec : ChangeSpec := { name := "rlpMeans", fn := fun _ => fun
  | [d1, d2, d3, d4, d5] => { results := [.lit (.bool true)], args := [d1, d2, d3, d4, d5] }
  | _ => none }
def rlpMeansRow : OpenClaim := { program := "ytkdpphcalekbdaa", sum := "867c3b86a342b0781d82f38b9342307984e17d5e57b8aec763ec003b0a97cbe8", func := "cairn/cairnlaw04.RlpMeans", spec := "rlpMeans", unfollowed := true, recurses := true, apart := false }
def RlpMeansSaid : Prop := rlpMeansRow.holds Try.pinned (OpenSpec.ofChange rlpMeansSpec)

/-- ITS FALSE NEIGHBOUR: 'it returns false'. Refute it at one input. -/
def rlpMeansWrong : ChangeSpec := { name := "rlpMeans", fn := fun _ => fun
  | [d1, d2, d3, d4, d5] => { results := [.lit (.bool false)], args := [d1, d2, d3, d4, d5] }
  | _ => none }
def RlpMeansWrongFalsely : Prop := rlpMeansRow.holds Try.pinned (OpenSpec.ofChange rlpMeansWrong)

/- THE SECOND FORM. 'bulk': how many values and letters a reading holds, each counted each time it is reached (what is shared counts as often as it is met; a slice's spare places count too). A statement '..UptoSaid' is the law's where the arguments, and the package variables that the reading takes, are together of bulk at most 1048576: NARROWER than '..Said'. Prove '..Said' where nothing that the law and all that it calls make is longer than what came in: it says more and counts as full. Else prove '..UptoSaid'. A law counts once. -/
mutual
def uptoBulk {H : Type} : DataW H → Nat
  | .lit (.string bytes) => bytes.length + 1
  | .lit _ => 1
  | .nil => 1
  | .ptr d => uptoBulk d + 1
  | .slice elems spare => uptoBulkAll elems + uptoBulkAll spare + 1
  | .agg parts => uptoBulkAll parts + 1
  | .iface _ d => uptoBulk d + 1
  | .map entries => uptoBulkEntries entries + 1
  | .held _ => 1
def uptoBulkAll {H : Type} : List (DataW H) → Nat
  | [] => 0
  | d :: r => uptoBulk d + uptoBulkAll r
def uptoBulkEntries {H : Type} : List (Lit × DataW H) → Nat
  | [] => 0
  | x :: r => uptoBulkEntry x + uptoBulkEntries r
def uptoBulkEntry {H : Type} : Lit × DataW H → Nat
  | (.string bytes, d) => bytes.length + uptoBulk d + 1
  | (_, d) => uptoBulk d + 1
 end
def uptoSmall : (H : Type) → List (DataW H) → Bool := fun _ ds => decide (uptoBulkAll ds ≤ 1048576)
def OpenSpec.upto (s : _root_.Go.ChangeSpec) : _root_.Go.OpenSpec := { _root_.Go.OpenSpec.ofChange s with cond := some uptoSmall }

/-- 'cairnlaw04.RlpBack', WHERE WHAT IT READS IS OF BULK AT MOST 1048576: true; the input reads as it did. -/
def rlpBackUptoRow : OpenClaim := { program := "ytkdpphcalekbdaa", sum := "867c3b86a342b0781d82f38b9342307984e17d5e57b8aec763ec003b0a97cbe8", func := "cairn/cairnlaw04.RlpBack", spec := "rlpBack", unfollowed := true, recurses := true, apart := false, narrowed := true }
def RlpBackUptoSaid : Prop := rlpBackUptoRow.holds Try.pinned (OpenSpec.upto rlpBackSpec)

/-- 'cairnlaw04.RlpOne', WHERE WHAT IT READS IS OF BULK AT MOST 1048576: true; the input reads as it did. -/
def rlpOneUptoRow : OpenClaim := { program := "ytkdpphcalekbdaa", sum := "867c3b86a342b0781d82f38b9342307984e17d5e57b8aec763ec003b0a97cbe8", func := "cairn/cairnlaw04.RlpOne", spec := "rlpOne", unfollowed := true, recurses := true, apart := false, narrowed := true }
def RlpOneUptoSaid : Prop := rlpOneUptoRow.holds Try.pinned (OpenSpec.upto rlpOneSpec)

/-- 'cairnlaw04.RlpCut', WHERE WHAT IT READS IS OF BULK AT MOST 1048576: true; the input reads as it did. -/
def rlpCutUptoRow : OpenClaim := { program := "ytkdpphcalekbdaa", sum := "867c3b86a342b0781d82f38b9342307984e17d5e57b8aec763ec003b0a97cbe8", func := "cairn/cairnlaw04.RlpCut", spec := "rlpCut", unfollowed := true, recurses := true, apart := false, narrowed := true }
def RlpCutUptoSaid : Prop := rlpCutUptoRow.holds Try.pinned (OpenSpec.upto rlpCutSpec)

/-- 'cairnlaw04.RlpEncodes', WHERE WHAT IT READS IS OF BULK AT MOST 1048576: true; the input reads as it did. -/
def rlpEncodesUptoRow : OpenClaim := { program := "ytkdpphcalekbdaa", sum := "867c3b86a342b0781d82f38b9342307984e17d5e57b8aec763ec003b0a97cbe8", func := "cairn/cairnlaw04.RlpEncodes", spec := "rlpEncodes", unfollowed := true, recurses := true, apart := false, narrowed := true }
def RlpEncodesUptoSaid : Prop := rlpEncodesUptoRow.holds Try.pinned (OpenSpec.upto rlpEncodesSpec)

/-- 'cairnlaw04.RlpPieces', WHERE WHAT IT READS IS OF BULK AT MOST 1048576: true; the input reads as it did. -/
def rlpPiecesUptoRow : OpenClaim := { program := "ytkdpphcalekbdaa", sum := "867c3b86a342b0781d82f38b9342307984e17d5e57b8aec763ec003b0a97cbe8", func := "cairn/cairnlaw04.RlpPieces", spec := "rlpPieces", unfollowed := true, recurses := true, apart := false, narrowed := true }
def RlpPiecesUptoSaid : Prop := rlpPiecesUptoRow.holds Try.pinned (OpenSpec.upto rlpPiecesSpec)

/-- 'cairnlaw04.RlpKids', WHERE WHAT IT READS IS OF BULK AT MOST 1048576: true; the input reads as it did. -/
def rlpKidsUptoRow : OpenClaim := { program := "ytkdpphcalekbdaa", sum := "867c3b86a342b0781d82f38b9342307984e17d5e57b8aec763ec003b0a97cbe8", func := "cairn/cairnlaw04.RlpKids", spec := "rlpKids", unfollowed := true, recurses := true, apart := false, narrowed := true }
def RlpKidsUptoSaid : Prop := rlpKidsUptoRow.holds Try.pinned (OpenSpec.upto rlpKidsSpec)

/-- 'cairnlaw04.RlpNumbers', WHERE WHAT IT READS IS OF BULK AT MOST 1048576: true; the input reads as it did. -/
def rlpNumbersUptoRow : OpenClaim := { program := "ytkdpphcalekbdaa", sum := "867c3b86a342b0781d82f38b9342307984e17d5e57b8aec763ec003b0a97cbe8", func := "cairn/cairnlaw04.RlpNumbers", spec := "rlpNumbers", unfollowed := true, recurses := true, apart := false, narrowed := true }
def RlpNumbersUptoSaid : Prop := rlpNumbersUptoRow.holds Try.pinned (OpenSpec.upto rlpNumbersSpec)

/-- 'cairnlaw04.RlpOpens', WHERE WHAT IT READS IS OF BULK AT MOST 1048576: true; the input reads as it did. -/
def rlpOpensUptoRow : OpenClaim := { program := "ytkdpphcalekbdaa", sum := "867c3b86a342b0781d82f38b9342307984e17d5e57b8aec763ec003b0a97cbe8", func := "cairn/cairnlaw04.RlpOpens", spec := "rlpOpens", unfollowed := true, recurses := true, apart := false, narrowed := true }
def RlpOpensUptoSaid : Prop := rlpOpensUptoRow.holds Try.pinned (OpenSpec.upto rlpOpensSpec)

/-- 'cairnlaw04.RlpMeans', WHERE WHAT IT READS IS OF BULK AT MOST 1048576: true; the input reads as it did. -/
def rlpMeansUptoRow : OpenClaim := { program := "ytkdpphcalekbdaa", sum := "867c3b86a342b0781d82f38b9342307984e17d5e57b8aec763ec003b0a97cbe8", func := "cairn/cairnlaw04.RlpMeans", spec := "rlpMeans", unfollowed := true, recurses := true, apart := false, narrowed := true }
def RlpMeansUptoSaid : Prop := rlpMeansUptoRow.holds Try.pinned (OpenSpec.upto rlpMeansSpec)

end Rows
end Go.Proofs.Ytkdpphcalekbdaa
