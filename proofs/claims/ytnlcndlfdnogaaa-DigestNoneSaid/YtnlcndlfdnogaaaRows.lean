/-
  No cell of these rows narrows 'for every input' (looked for: loops, veiled, ifaces, maps, wideKeys, modest, calm, conditions, laid).
  DERIVED. THE GIVEN ROWS OF THIS SEAT. 6 by the template 'for every input the law returns true; each argument reads behind the call as it read before'; 0 by the template 'total and deterministic' (their statements: YtnlcndlfdnogaaaTotals.lean).
  GIVEN WITH THE SEED: the statements are not yours to turn. If you find one false, say at which input.
  Laid BY PROGRAM, IN A SANDBOX (cutbox-rows.mjs): the forced cells as the released guide's own fill.sh prints them over the translation 7d790071245cbcae… (all of the seat's roots in one cut). By AI agents, Wed Nov 11 2026. No macro, syntax, notation, axiom, sorry.
-/
import Derived.Test.YtnlcndlfdnogaaaChecked
import GoSem.Claim
import GoSem.ClaimJoined
import GoSem.ClaimMapViews
import Derived.JoinedTies
import Derived.KernelRfl
namespace Go.Proofs.Ytnlcndlfdnogaaa
/- THE CELL 'sum', in the pinned program and in every row, IS THE sha256 OF THE DUMP (.gsa) THAT YtnlcndlfdnogaaaProg.lean LOADS. Nothing in Lean hashes anything: it is a label: what it is worth is what the hold of that sum in a sandbox is worth. -/
noncomputable def Try.pinned : Pinned := { name := "ytnlcndlfdnogaaa", sum := "7d790071245cbcae7a3af5a9313abb9b3e6797fc1233503cbc2a756dab61a493", checked := Try.checked }
namespace Rows
def none {H : Type} : Left H := { results := [], args := [] }

/-- 'cairnlaw03.DigestBytes': WHATEVER THE INPUT: true; the input reads as it did. -/
def digestBytesSpec : ChangeSpec := { name := "digestBytes", fn := fun _ => fun
  | [d] => { results := [.lit (.bool true)], args := [d] }
  | _ => none }
def digestBytesRow : OpenClaim := { program := "ytnlcndlfdnogaaa", sum := "7d790071245cbcae7a3af5a9313abb9b3e6797fc1233503cbc2a756dab61a493", func := "cairn/cairnlaw03.DigestBytes", spec := "digestBytes", inPlace := ["math/bits.Add64"], apart := false }
def DigestBytesSaid : Prop := digestBytesRow.holds Try.pinned (OpenSpec.ofChange digestBytesSpec)

/-- ITS FALSE NEIGHBOUR: 'it returns false'. Refute it at one input. -/
def digestBytesWrong : ChangeSpec := { name := "digestBytes", fn := fun _ => fun
  | [d] => { results := [.lit (.bool false)], args := [d] }
  | _ => none }
def DigestBytesWrongFalsely : Prop := digestBytesRow.holds Try.pinned (OpenSpec.ofChange digestBytesWrong)

/-- 'cairnlaw03.DigestPermutes': WHATEVER THE INPUT: true; the input reads as it did. -/
def digestPermutesSpec : ChangeSpec := { name := "digestPermutes", fn := fun _ => fun
  | [d1, d2] => { results := [.lit (.bool true)], args := [d1, d2] }
  | _ => none }
def digestPermutesRow : OpenClaim := { program := "ytnlcndlfdnogaaa", sum := "7d790071245cbcae7a3af5a9313abb9b3e6797fc1233503cbc2a756dab61a493", func := "cairn/cairnlaw03.DigestPermutes", spec := "digestPermutes", inPlace := ["math/bits.Add64"], apart := false }
def DigestPermutesSaid : Prop := digestPermutesRow.holds Try.pinned (OpenSpec.ofChange digestPermutesSpec)

/-- ITS FALSE NEIGHBOUR: 'it returns false'. Refute it at one input. -/
def digestPermutesWrong : ChangeSpec := { name := "digestPermutes", fn := fun _ => fun
  | [d1, d2] => { results := [.lit (.bool false)], args := [d1, d2] }
  | _ => none }
def DigestPermutesWrongFalsely : Prop := digestPermutesRow.holds Try.pinned (OpenSpec.ofChange digestPermutesWrong)

/-- 'cairnlaw03.DigestNone': WHATEVER THE INPUT: true; the input reads as it did. -/
def digestNoneSpec : ChangeSpec := { name := "digestNone", fn := fun _ => fun
  | [d] => { results := [.lit (.bool true)], args := [d] }
  | _ => none }
def digestNoneRow : OpenClaim := { program := "ytnlcndlfdnogaaa", sum := "7d790071245cbcae7a3af5a9313abb9b3e6797fc1233503cbc2a756dab61a493", func := "cairn/cairnlaw03.DigestNone", spec := "digestNone", inPlace := ["math/bits.Add64"], apart := false }
def DigestNoneSaid : Prop := digestNoneRow.holds Try.pinned (OpenSpec.ofChange digestNoneSpec)

/-- ITS FALSE NEIGHBOUR: 'it returns false'. Refute it at one input. -/
def digestNoneWrong : ChangeSpec := { name := "digestNone", fn := fun _ => fun
  | [d] => { results := [.lit (.bool false)], args := [d] }
  | _ => none }
def DigestNoneWrongFalsely : Prop := digestNoneRow.holds Try.pinned (OpenSpec.ofChange digestNoneWrong)

/-- 'cairnlaw03.DigestPieces': WHATEVER THE INPUT: true; the input reads as it did. -/
def digestPiecesSpec : ChangeSpec := { name := "digestPieces", fn := fun _ => fun
  | [d] => { results := [.lit (.bool true)], args := [d] }
  | _ => none }
def digestPiecesRow : OpenClaim := { program := "ytnlcndlfdnogaaa", sum := "7d790071245cbcae7a3af5a9313abb9b3e6797fc1233503cbc2a756dab61a493", func := "cairn/cairnlaw03.DigestPieces", spec := "digestPieces", inPlace := ["math/bits.Add64"], apart := false }
def DigestPiecesSaid : Prop := digestPiecesRow.holds Try.pinned (OpenSpec.ofChange digestPiecesSpec)

/-- ITS FALSE NEIGHBOUR: 'it returns false'. Refute it at one input. -/
def digestPiecesWrong : ChangeSpec := { name := "digestPieces", fn := fun _ => fun
  | [d] => { results := [.lit (.bool false)], args := [d] }
  | _ => none }
def DigestPiecesWrongFalsely : Prop := digestPiecesRow.holds Try.pinned (OpenSpec.ofChange digestPiecesWrong)

/-- 'cairnlaw03.DigestKnown': WHATEVER THE INPUT: true; the input reads as it did. -/
def digestKnownSpec : ChangeSpec := { name := "digestKnown", fn := fun _ => fun
  | [] => { results := [.lit (.bool true)], args := [] }
  | _ => none }
def digestKnownRow : OpenClaim := { program := "ytnlcndlfdnogaaa", sum := "7d790071245cbcae7a3af5a9313abb9b3e6797fc1233503cbc2a756dab61a493", func := "cairn/cairnlaw03.DigestKnown", spec := "digestKnown", inPlace := ["math/bits.Add64"], apart := false }
def DigestKnownSaid : Prop := digestKnownRow.holds Try.pinned (OpenSpec.ofChange digestKnownSpec)

/-- ITS FALSE NEIGHBOUR: 'it returns false'. Refute it at one input. -/
def digestKnownWrong : ChangeSpec := { name := "digestKnown", fn := fun _ => fun
  | [] => { results := [.lit (.bool false)], args := [] }
  | _ => none }
def DigestKnownWrongFalsely : Prop := digestKnownRow.holds Try.pinned (OpenSpec.ofChange digestKnownWrong)

/-- 'cairnlaw03.DigestBlakes': WHATEVER THE INPUT: true; the input reads as it did. -/
def digestBlakesSpec : ChangeSpec := { name := "digestBlakes", fn := fun _ => fun
  | [d1, d2, d3, d4, d5] => { results := [.lit (.bool true)], args := [d1, d2, d3, d4, d5] }
  | _ => none }
def digestBlakesRow : OpenClaim := { program := "ytnlcndlfdnogaaa", sum := "7d790071245cbcae7a3af5a9313abb9b3e6797fc1233503cbc2a756dab61a493", func := "cairn/cairnlaw03.DigestBlakes", spec := "digestBlakes", inPlace := ["math/bits.Add64"], apart := false }
def DigestBlakesSaid : Prop := digestBlakesRow.holds Try.pinned (OpenSpec.ofChange digestBlakesSpec)

/-- ITS FALSE NEIGHBOUR: 'it returns false'. Refute it at one input. -/
def digestBlakesWrong : ChangeSpec := { name := "digestBlakes", fn := fun _ => fun
  | [d1, d2, d3, d4, d5] => { results := [.lit (.bool false)], args := [d1, d2, d3, d4, d5] }
  | _ => none }
def DigestBlakesWrongFalsely : Prop := digestBlakesRow.holds Try.pinned (OpenSpec.ofChange digestBlakesWrong)

/- THE SECOND FORM. 'bulk': how many values and letters a reading holds, each counted each time it is reached (what is shared counts as often as it is met; a slice's spare places count too). A statement '..UptoSaid' is the law's where the arguments, and the package variables that the reading takes, are together of bulk at most 1048576: NARROWER than '..Said'. Prove '..Said' where nothing that the law and all that it calls make is longer than what came in: it says more and counts as full. Else prove '..UptoSaid'. A law counts once. -/
mutual
def uptoBulk {H : Type} : DataW H → Nat
  | .lit (.string bytes) => bytes.length + 1
  | .lit _ => 1
  | .nil => 1
  | .ptr d => uptoBulk d + 1
  | .slice elems spare => uptoBulkAll elems + uptoBulkAll spare + 1
  | .agg parts => uptoBulkAll parts + 1
  | .iface _ d => uptoBulk d + 1
  | .map entries => uptoBulkEntries entries + 1
  | .held _ => 1
def uptoBulkAll {H : Type} : List (DataW H) → Nat
  | [] => 0
  | d :: r => uptoBulk d + uptoBulkAll r
def uptoBulkEntries {H : Type} : List (Lit × DataW H) → Nat
  | [] => 0
  | x :: r => uptoBulkEntry x + uptoBulkEntries r
def uptoBulkEntry {H : Type} : Lit × DataW H → Nat
  | (.string bytes, d) => bytes.length + uptoBulk d + 1
  | (_, d) => uptoBulk d + 1
 end
def uptoSmall : (H : Type) → List (DataW H) → Bool := fun _ ds => decide (uptoBulkAll ds ≤ 1048576)
def OpenSpec.upto (s : _root_.Go.ChangeSpec) : _root_.Go.OpenSpec := { _root_.Go.OpenSpec.ofChange s with cond := some uptoSmall }

/-- 'cairnlaw03.DigestBytes', WHERE WHAT IT READS IS OF BULK AT MOST 1048576: true; the input reads as it did. -/
def digestBytesUptoRow : OpenClaim := { program := "ytnlcndlfdnogaaa", sum := "7d790071245cbcae7a3af5a9313abb9b3e6797fc1233503cbc2a756dab61a493", func := "cairn/cairnlaw03.DigestBytes", spec := "digestBytes", inPlace := ["math/bits.Add64"], apart := false, narrowed := true }
def DigestBytesUptoSaid : Prop := digestBytesUptoRow.holds Try.pinned (OpenSpec.upto digestBytesSpec)

/-- 'cairnlaw03.DigestPermutes', WHERE WHAT IT READS IS OF BULK AT MOST 1048576: true; the input reads as it did. -/
def digestPermutesUptoRow : OpenClaim := { program := "ytnlcndlfdnogaaa", sum := "7d790071245cbcae7a3af5a9313abb9b3e6797fc1233503cbc2a756dab61a493", func := "cairn/cairnlaw03.DigestPermutes", spec := "digestPermutes", inPlace := ["math/bits.Add64"], apart := false, narrowed := true }
def DigestPermutesUptoSaid : Prop := digestPermutesUptoRow.holds Try.pinned (OpenSpec.upto digestPermutesSpec)

/-- 'cairnlaw03.DigestNone', WHERE WHAT IT READS IS OF BULK AT MOST 1048576: true; the input reads as it did. -/
def digestNoneUptoRow : OpenClaim := { program := "ytnlcndlfdnogaaa", sum := "7d790071245cbcae7a3af5a9313abb9b3e6797fc1233503cbc2a756dab61a493", func := "cairn/cairnlaw03.DigestNone", spec := "digestNone", inPlace := ["math/bits.Add64"], apart := false, narrowed := true }
def DigestNoneUptoSaid : Prop := digestNoneUptoRow.holds Try.pinned (OpenSpec.upto digestNoneSpec)

/-- 'cairnlaw03.DigestPieces', WHERE WHAT IT READS IS OF BULK AT MOST 1048576: true; the input reads as it did. -/
def digestPiecesUptoRow : OpenClaim := { program := "ytnlcndlfdnogaaa", sum := "7d790071245cbcae7a3af5a9313abb9b3e6797fc1233503cbc2a756dab61a493", func := "cairn/cairnlaw03.DigestPieces", spec := "digestPieces", inPlace := ["math/bits.Add64"], apart := false, narrowed := true }
def DigestPiecesUptoSaid : Prop := digestPiecesUptoRow.holds Try.pinned (OpenSpec.upto digestPiecesSpec)

/-- 'cairnlaw03.DigestKnown', WHERE WHAT IT READS IS OF BULK AT MOST 1048576: true; the input reads as it did. -/
def digestKnownUptoRow : OpenClaim := { program := "ytnlcndlfdnogaaa", sum := "7d790071245cbcae7a3af5a9313abb9b3e6797fc1233503cbc2a756dab61a493", func := "cairn/cairnlaw03.DigestKnown", spec := "digestKnown", inPlace := ["math/bits.Add64"], apart := false, narrowed := true }
def DigestKnownUptoSaid : Prop := digestKnownUptoRow.holds Try.pinned (OpenSpec.upto digestKnownSpec)

/-- 'cairnlaw03.DigestBlakes', WHERE WHAT IT READS IS OF BULK AT MOST 1048576: true; the input reads as it did. -/
def digestBlakesUptoRow : OpenClaim := { program := "ytnlcndlfdnogaaa", sum := "7d790071245cbcae7a3af5a9313abb9b3e6797fc1233503cbc2a756dab61a493", func := "cairn/cairnlaw03.DigestBlakes", spec := "digestBlakes", inPlace := ["math/bits.Add64"], apart := false, narrowed := true }
def DigestBlakesUptoSaid : Prop := digestBlakesUptoRow.holds Try.pinned (OpenSpec.upto digestBlakesSpec)

end Rows
end Go.Proofs.Ytnlcndlfdnogaaa
