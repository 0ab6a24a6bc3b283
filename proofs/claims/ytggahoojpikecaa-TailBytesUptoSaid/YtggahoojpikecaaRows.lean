/-
  No cell of these rows narrows 'for every input' (looked for: loops, veiled, ifaces, maps, wideKeys, modest, calm, conditions, laid).
  DERIVED. THE GIVEN ROWS OF THIS SEAT. 8 by the template 'for every input the law returns true; each argument reads behind the call as it read before'; 0 by the template 'total and deterministic' (their statements: YtggahoojpikecaaTotals.lean).
  GIVEN WITH THE SEED: the statements are not yours to turn. If you find one false, say at which input.
  Laid BY PROGRAM, IN A SANDBOX (cutbox-rows.mjs): the forced cells as the released guide's own fill.sh prints them over the translation fc5c9834f8a7020f… (all of the seat's roots in one cut). By AI agents, Wed Nov 11 2026. No macro, syntax, notation, axiom, sorry.
-/
import Derived.Test.YtggahoojpikecaaChecked
import GoSem.Claim
import GoSem.ClaimJoined
import GoSem.ClaimMapViews
import Derived.JoinedTies
import Derived.KernelRfl
namespace Go.Proofs.Ytggahoojpikecaa
/- THE CELL 'sum', in the pinned program and in every row, IS THE sha256 OF THE DUMP (.gsa) THAT YtggahoojpikecaaProg.lean LOADS. Nothing in Lean hashes anything: it is a label: what it is worth is what the hold of that sum in a sandbox is worth. -/
noncomputable def Try.pinned : Pinned := { name := "ytggahoojpikecaa", sum := "fc5c9834f8a7020f8d89ead573c15c958f7655f8133c436f1ad6d6765d6c09c8", checked := Try.checked }
namespace Rows
def none {H : Type} : Left H := { results := [], args := [] }

/-- 'mullionlaw06.TailBytes': WHATEVER THE INPUT: true; the input reads as it did. -/
def tailBytesSpec : ChangeSpec := { name := "tailBytes", fn := fun _ => fun
  | [d1, d2] => { results := [.lit (.bool true)], args := [d1, d2] }
  | _ => none }
def tailBytesRow : OpenClaim := { program := "ytggahoojpikecaa", sum := "fc5c9834f8a7020f8d89ead573c15c958f7655f8133c436f1ad6d6765d6c09c8", func := "mullion/mullionlaw06.TailBytes", spec := "tailBytes", apart := false }
def TailBytesSaid : Prop := tailBytesRow.holds Try.pinned (OpenSpec.ofChange tailBytesSpec)

/-- ITS FALSE NEIGHBOUR: 'it returns false'. Refute it at one input. -/
def tailBytesWrong : ChangeSpec := { name := "tailBytes", fn := fun _ => fun
  | [d1, d2] => { results := [.lit (.bool false)], args := [d1, d2] }
  | _ => none }
def TailBytesWrongFalsely : Prop := tailBytesRow.holds Try.pinned (OpenSpec.ofChange tailBytesWrong)

/-- 'mullionlaw06.TailPieces': WHATEVER THE INPUT: true; the input reads as it did. -/
def tailPiecesSpec : ChangeSpec := { name := "tailPieces", fn := fun _ => fun
  | [d1, d2, d3] => { results := [.lit (.bool true)], args := [d1, d2, d3] }
  | _ => none }
def tailPiecesRow : OpenClaim := { program := "ytggahoojpikecaa", sum := "fc5c9834f8a7020f8d89ead573c15c958f7655f8133c436f1ad6d6765d6c09c8", func := "mullion/mullionlaw06.TailPieces", spec := "tailPieces", apart := false }
def TailPiecesSaid : Prop := tailPiecesRow.holds Try.pinned (OpenSpec.ofChange tailPiecesSpec)

/-- ITS FALSE NEIGHBOUR: 'it returns false'. Refute it at one input. -/
def tailPiecesWrong : ChangeSpec := { name := "tailPieces", fn := fun _ => fun
  | [d1, d2, d3] => { results := [.lit (.bool false)], args := [d1, d2, d3] }
  | _ => none }
def TailPiecesWrongFalsely : Prop := tailPiecesRow.holds Try.pinned (OpenSpec.ofChange tailPiecesWrong)

/-- 'mullionlaw06.TailNews': WHATEVER THE INPUT: true; the input reads as it did. -/
def tailNewsSpec : ChangeSpec := { name := "tailNews", fn := fun _ => fun
  | [d] => { results := [.lit (.bool true)], args := [d] }
  | _ => none }
def tailNewsRow : OpenClaim := { program := "ytggahoojpikecaa", sum := "fc5c9834f8a7020f8d89ead573c15c958f7655f8133c436f1ad6d6765d6c09c8", func := "mullion/mullionlaw06.TailNews", spec := "tailNews", apart := false }
def TailNewsSaid : Prop := tailNewsRow.holds Try.pinned (OpenSpec.ofChange tailNewsSpec)

/-- ITS FALSE NEIGHBOUR: 'it returns false'. Refute it at one input. -/
def tailNewsWrong : ChangeSpec := { name := "tailNews", fn := fun _ => fun
  | [d] => { results := [.lit (.bool false)], args := [d] }
  | _ => none }
def TailNewsWrongFalsely : Prop := tailNewsRow.holds Try.pinned (OpenSpec.ofChange tailNewsWrong)

/-- 'mullionlaw06.TailPlays': WHATEVER THE INPUT: true; the input reads as it did. -/
def tailPlaysSpec : ChangeSpec := { name := "tailPlays", fn := fun _ => fun
  | [d1, d2] => { results := [.lit (.bool true)], args := [d1, d2] }
  | _ => none }
def tailPlaysRow : OpenClaim := { program := "ytggahoojpikecaa", sum := "fc5c9834f8a7020f8d89ead573c15c958f7655f8133c436f1ad6d6765d6c09c8", func := "mullion/mullionlaw06.TailPlays", spec := "tailPlays", apart := false }
def TailPlaysSaid : Prop := tailPlaysRow.holds Try.pinned (OpenSpec.ofChange tailPlaysSpec)

/-- ITS FALSE NEIGHBOUR: 'it returns false'. Refute it at one input. -/
def tailPlaysWrong : ChangeSpec := { name := "tailPlays", fn := fun _ => fun
  | [d1, d2] => { results := [.lit (.bool false)], args := [d1, d2] }
  | _ => none }
def TailPlaysWrongFalsely : Prop := tailPlaysRow.holds Try.pinned (OpenSpec.ofChange tailPlaysWrong)

/-- 'mullionlaw06.TailReads': WHATEVER THE INPUT: true; the input reads as it did. -/
def tailReadsSpec : ChangeSpec := { name := "tailReads", fn := fun _ => fun
  | [d1, d2, d3] => { results := [.lit (.bool true)], args := [d1, d2, d3] }
  | _ => none }
def tailReadsRow : OpenClaim := { program := "ytggahoojpikecaa", sum := "fc5c9834f8a7020f8d89ead573c15c958f7655f8133c436f1ad6d6765d6c09c8", func := "mullion/mullionlaw06.TailReads", spec := "tailReads", apart := false }
def TailReadsSaid : Prop := tailReadsRow.holds Try.pinned (OpenSpec.ofChange tailReadsSpec)

/-- ITS FALSE NEIGHBOUR: 'it returns false'. Refute it at one input. -/
def tailReadsWrong : ChangeSpec := { name := "tailReads", fn := fun _ => fun
  | [d1, d2, d3] => { results := [.lit (.bool false)], args := [d1, d2, d3] }
  | _ => none }
def TailReadsWrongFalsely : Prop := tailReadsRow.holds Try.pinned (OpenSpec.ofChange tailReadsWrong)

/-- 'mullionlaw06.TailLines': WHATEVER THE INPUT: true; the input reads as it did. -/
def tailLinesSpec : ChangeSpec := { name := "tailLines", fn := fun _ => fun
  | [d1, d2, d3] => { results := [.lit (.bool true)], args := [d1, d2, d3] }
  | _ => none }
def tailLinesRow : OpenClaim := { program := "ytggahoojpikecaa", sum := "fc5c9834f8a7020f8d89ead573c15c958f7655f8133c436f1ad6d6765d6c09c8", func := "mullion/mullionlaw06.TailLines", spec := "tailLines", apart := false }
def TailLinesSaid : Prop := tailLinesRow.holds Try.pinned (OpenSpec.ofChange tailLinesSpec)

/-- ITS FALSE NEIGHBOUR: 'it returns false'. Refute it at one input. -/
def tailLinesWrong : ChangeSpec := { name := "tailLines", fn := fun _ => fun
  | [d1, d2, d3] => { results := [.lit (.bool false)], args := [d1, d2, d3] }
  | _ => none }
def TailLinesWrongFalsely : Prop := tailLinesRow.holds Try.pinned (OpenSpec.ofChange tailLinesWrong)

/-- 'mullionlaw06.TailAgain': WHATEVER THE INPUT: true; the input reads as it did. -/
def tailAgainSpec : ChangeSpec := { name := "tailAgain", fn := fun _ => fun
  | [d1, d2, d3] => { results := [.lit (.bool true)], args := [d1, d2, d3] }
  | _ => none }
def tailAgainRow : OpenClaim := { program := "ytggahoojpikecaa", sum := "fc5c9834f8a7020f8d89ead573c15c958f7655f8133c436f1ad6d6765d6c09c8", func := "mullion/mullionlaw06.TailAgain", spec := "tailAgain", apart := false }
def TailAgainSaid : Prop := tailAgainRow.holds Try.pinned (OpenSpec.ofChange tailAgainSpec)

/-- ITS FALSE NEIGHBOUR: 'it returns false'. Refute it at one input. -/
def tailAgainWrong : ChangeSpec := { name := "tailAgain", fn := fun _ => fun
  | [d1, d2, d3] => { results := [.lit (.bool false)], args := [d1, d2, d3] }
  | _ => none }
def TailAgainWrongFalsely : Prop := tailAgainRow.holds Try.pinned (OpenSpec.ofChange tailAgainWrong)

/-- 'mullionlaw06.TailApart': WHATEVER THE INPUT: true; the input reads as it did. -/
def tailApartSpec : ChangeSpec := { name := "tailApart", fn := fun _ => fun
  | [d1, d2, d3] => { results := [.lit (.bool true)], args := [d1, d2, d3] }
  | _ => none }
def tailApartRow : OpenClaim := { program := "ytggahoojpikecaa", sum := "fc5c9834f8a7020f8d89ead573c15c958f7655f8133c436f1ad6d6765d6c09c8", func := "mullion/mullionlaw06.TailApart", spec := "tailApart", apart := false }
def TailApartSaid : Prop := tailApartRow.holds Try.pinned (OpenSpec.ofChange tailApartSpec)

/-- ITS FALSE NEIGHBOUR: 'it returns false'. Refute it at one input. -/
def tailApartWrong : ChangeSpec := { name := "tailApart", fn := fun _ => fun
  | [d1, d2, d3] => { results := [.lit (.bool false)], args := [d1, d2, d3] }
  | _ => none }
def TailApartWrongFalsely : Prop := tailApartRow.holds Try.pinned (OpenSpec.ofChange tailApartWrong)

/- THE SECOND FORM. 'bulk': how many values and letters a reading holds, each counted each time it is reached (what is shared counts as often as it is met; a slice's spare places count too). A statement '..UptoSaid' is the law's where the arguments, and the package variables that the reading takes, are together of bulk at most 1048576: NARROWER than '..Said'. Prove '..Said' where nothing that the law and all that it calls make is longer than what came in: it says more and counts as full. Else prove '..UptoSaid'. A law counts once. -/
mutual
def uptoBulk {H : Type} : DataW H → Nat
  | .lit (.string bytes) => bytes.length + 1
  | .lit _ => 1
  | .nil => 1
  | .ptr d => uptoBulk d + 1
  | .slice elems spare => uptoBulkAll elems + uptoBulkAll spare + 1
  | .agg parts => uptoBulkAll parts + 1
  | .iface _ d => uptoBulk d + 1
  | .map entries => uptoBulkEntries entries + 1
  | .held _ => 1
def uptoBulkAll {H : Type} : List (DataW H) → Nat
  | [] => 0
  | d :: r => uptoBulk d + uptoBulkAll r
def uptoBulkEntries {H : Type} : List (Lit × DataW H) → Nat
  | [] => 0
  | x :: r => uptoBulkEntry x + uptoBulkEntries r
def uptoBulkEntry {H : Type} : Lit × DataW H → Nat
  | (.string bytes, d) => bytes.length + uptoBulk d + 1
  | (_, d) => uptoBulk d + 1
 end
def uptoSmall : (H : Type) → List (DataW H) → Bool := fun _ ds => decide (uptoBulkAll ds ≤ 1048576)
def OpenSpec.upto (s : _root_.Go.ChangeSpec) : _root_.Go.OpenSpec := { _root_.Go.OpenSpec.ofChange s with cond := some uptoSmall }

/-- 'mullionlaw06.TailBytes', WHERE WHAT IT READS IS OF BULK AT MOST 1048576: true; the input reads as it did. -/
def tailBytesUptoRow : OpenClaim := { program := "ytggahoojpikecaa", sum := "fc5c9834f8a7020f8d89ead573c15c958f7655f8133c436f1ad6d6765d6c09c8", func := "mullion/mullionlaw06.TailBytes", spec := "tailBytes", apart := false, narrowed := true }
def TailBytesUptoSaid : Prop := tailBytesUptoRow.holds Try.pinned (OpenSpec.upto tailBytesSpec)

/-- 'mullionlaw06.TailPieces', WHERE WHAT IT READS IS OF BULK AT MOST 1048576: true; the input reads as it did. -/
def tailPiecesUptoRow : OpenClaim := { program := "ytggahoojpikecaa", sum := "fc5c9834f8a7020f8d89ead573c15c958f7655f8133c436f1ad6d6765d6c09c8", func := "mullion/mullionlaw06.TailPieces", spec := "tailPieces", apart := false, narrowed := true }
def TailPiecesUptoSaid : Prop := tailPiecesUptoRow.holds Try.pinned (OpenSpec.upto tailPiecesSpec)

/-- 'mullionlaw06.TailNews', WHERE WHAT IT READS IS OF BULK AT MOST 1048576: true; the input reads as it did. -/
def tailNewsUptoRow : OpenClaim := { program := "ytggahoojpikecaa", sum := "fc5c9834f8a7020f8d89ead573c15c958f7655f8133c436f1ad6d6765d6c09c8", func := "mullion/mullionlaw06.TailNews", spec := "tailNews", apart := false, narrowed := true }
def TailNewsUptoSaid : Prop := tailNewsUptoRow.holds Try.pinned (OpenSpec.upto tailNewsSpec)

/-- 'mullionlaw06.TailPlays', WHERE WHAT IT READS IS OF BULK AT MOST 1048576: true; the input reads as it did. -/
def tailPlaysUptoRow : OpenClaim := { program := "ytggahoojpikecaa", sum := "fc5c9834f8a7020f8d89ead573c15c958f7655f8133c436f1ad6d6765d6c09c8", func := "mullion/mullionlaw06.TailPlays", spec := "tailPlays", apart := false, narrowed := true }
def TailPlaysUptoSaid : Prop := tailPlaysUptoRow.holds Try.pinned (OpenSpec.upto tailPlaysSpec)

/-- 'mullionlaw06.TailReads', WHERE WHAT IT READS IS OF BULK AT MOST 1048576: true; the input reads as it did. -/
def tailReadsUptoRow : OpenClaim := { program := "ytggahoojpikecaa", sum := "fc5c9834f8a7020f8d89ead573c15c958f7655f8133c436f1ad6d6765d6c09c8", func := "mullion/mullionlaw06.TailReads", spec := "tailReads", apart := false, narrowed := true }
def TailReadsUptoSaid : Prop := tailReadsUptoRow.holds Try.pinned (OpenSpec.upto tailReadsSpec)

/-- 'mullionlaw06.TailLines', WHERE WHAT IT READS IS OF BULK AT MOST 1048576: true; the input reads as it did. -/
def tailLinesUptoRow : OpenClaim := { program := "ytggahoojpikecaa", sum := "fc5c9834f8a7020f8d89ead573c15c958f7655f8133c436f1ad6d6765d6c09c8", func := "mullion/mullionlaw06.TailLines", spec := "tailLines", apart := false, narrowed := true }
def TailLinesUptoSaid : Prop := tailLinesUptoRow.holds Try.pinned (OpenSpec.upto tailLinesSpec)

/-- 'mullionlaw06.TailAgain', WHERE WHAT IT READS IS OF BULK AT MOST 1048576: true; the input reads as it did. -/
def tailAgainUptoRow : OpenClaim := { program := "ytggahoojpikecaa", sum := "fc5c9834f8a7020f8d89ead573c15c958f7655f8133c436f1ad6d6765d6c09c8", func := "mullion/mullionlaw06.TailAgain", spec := "tailAgain", apart := false, narrowed := true }
def TailAgainUptoSaid : Prop := tailAgainUptoRow.holds Try.pinned (OpenSpec.upto tailAgainSpec)

/-- 'mullionlaw06.TailApart', WHERE WHAT IT READS IS OF BULK AT MOST 1048576: true; the input reads as it did. -/
def tailApartUptoRow : OpenClaim := { program := "ytggahoojpikecaa", sum := "fc5c9834f8a7020f8d89ead573c15c958f7655f8133c436f1ad6d6765d6c09c8", func := "mullion/mullionlaw06.TailApart", spec := "tailApart", apart := false, narrowed := true }
def TailApartUptoSaid : Prop := tailApartUptoRow.holds Try.pinned (OpenSpec.upto tailApartSpec)

end Rows
end Go.Proofs.Ytggahoojpikecaa
