/-
  No cell of these rows narrows 'for every input' (looked for: loops, veiled, ifaces, maps, wideKeys, modest, calm, conditions, laid).
  DERIVED. THE GIVEN ROWS OF THIS SEAT. 9 by the template 'for every input the law returns true; each argument reads behind the call as it read before'; 0 by the template 'total and deterministic' (their statements: YtfpbgchlemcpbaaTotals.lean).
  GIVEN WITH THE SEED: the statements are not yours to turn. If you find one false, say at which input.
  Laid BY PROGRAM, IN A SANDBOX (cutbox-rows.mjs): the forced cells as the released guide's own fill.sh prints them over the translation 12eebc05a5f9c327… (all of the seat's roots in one cut). By AI agents, Wed Nov 11 2026. No macro, syntax, notation, axiom, sorry.
-/
import Derived.Test.YtfpbgchlemcpbaaChecked
import GoSem.Claim
import GoSem.ClaimJoined
import GoSem.ClaimMapViews
import Derived.JoinedTies
import Derived.KernelRfl
namespace Go.Proofs.Ytfpbgchlemcpbaa
/- THE CELL 'sum', in the pinned program and in every row, IS THE sha256 OF THE DUMP (.gsa) THAT YtfpbgchlemcpbaaProg.lean LOADS. Nothing in Lean hashes anything: it is a label: what it is worth is what the hold of that sum in a sandbox is worth. -/
noncomputable def Try.pinned : Pinned := { name := "ytfpbgchlemcpbaa", sum := "12eebc05a5f9c327b2c4f1d25b6290b7a0d8718cb5a05798e0073232582c6431", checked := Try.checked }
namespace Rows
def none {H : Type} : Left H := { results := [], args := [] }

/-- 'mullionlaw09.LexConsts': WHATEVER THE INPUT: true; the input reads as it did. -/
def lexConstsSpec : ChangeSpec := { name := "lexConsts", fn := fun _ => fun
  | [] => { results := [.lit (.bool true)], args := [] }
  | _ => none }
def lexConstsRow : OpenClaim := { program := "ytfpbgchlemcpbaa", sum := "12eebc05a5f9c327b2c4f1d25b6290b7a0d8718cb5a05798e0073232582c6431", func := "mullion/mullionlaw09.LexConsts", spec := "lexConsts", apart := false }
def LexConstsSaid : Prop := lexConstsRow.holds Try.pinned (OpenSpec.ofChange lexConstsSpec)

/-- ITS FALSE NEIGHBOUR: 'it returns false'. Refute it at one input. -/
def lexConstsWrong : ChangeSpec := { name := "lexConsts", fn := fun _ => fun
  | [] => { results := [.lit (.bool false)], args := [] }
  | _ => none }
def LexConstsWrongFalsely : Prop := lexConstsRow.holds Try.pinned (OpenSpec.ofChange lexConstsWrong)

/-- 'mullionlaw09.LexQuotes': WHATEVER THE INPUT: true; the input reads as it did. -/
def lexQuotesSpec : ChangeSpec := { name := "lexQuotes", fn := fun _ => fun
  | [d] => { results := [.lit (.bool true)], args := [d] }
  | _ => none }
def lexQuotesRow : OpenClaim := { program := "ytfpbgchlemcpbaa", sum := "12eebc05a5f9c327b2c4f1d25b6290b7a0d8718cb5a05798e0073232582c6431", func := "mullion/mullionlaw09.LexQuotes", spec := "lexQuotes", inPlace := ["internal/bytealg.IndexByteString"], apart := false }
def LexQuotesSaid : Prop := lexQuotesRow.holds Try.pinned (OpenSpec.ofChange lexQuotesSpec)

/-- ITS FALSE NEIGHBOUR: 'it returns false'. Refute it at one input. -/
def lexQuotesWrong : ChangeSpec := { name := "lexQuotes", fn := fun _ => fun
  | [d] => { results := [.lit (.bool false)], args := [d] }
  | _ => none }
def LexQuotesWrongFalsely : Prop := lexQuotesRow.holds Try.pinned (OpenSpec.ofChange lexQuotesWrong)

/-- 'mullionlaw09.LexBack': WHATEVER THE INPUT: true; the input reads as it did. -/
def lexBackSpec : ChangeSpec := { name := "lexBack", fn := fun _ => fun
  | [d] => { results := [.lit (.bool true)], args := [d] }
  | _ => none }
def lexBackRow : OpenClaim := { program := "ytfpbgchlemcpbaa", sum := "12eebc05a5f9c327b2c4f1d25b6290b7a0d8718cb5a05798e0073232582c6431", func := "mullion/mullionlaw09.LexBack", spec := "lexBack", inPlace := ["internal/bytealg.IndexByteString"], apart := false }
def LexBackSaid : Prop := lexBackRow.holds Try.pinned (OpenSpec.ofChange lexBackSpec)

/-- ITS FALSE NEIGHBOUR: 'it returns false'. Refute it at one input. -/
def lexBackWrong : ChangeSpec := { name := "lexBack", fn := fun _ => fun
  | [d] => { results := [.lit (.bool false)], args := [d] }
  | _ => none }
def LexBackWrongFalsely : Prop := lexBackRow.holds Try.pinned (OpenSpec.ofChange lexBackWrong)

/-- 'mullionlaw09.LexLists': WHATEVER THE INPUT: true; the input reads as it did. -/
def lexListsSpec : ChangeSpec := { name := "lexLists", fn := fun _ => fun
  | [d] => { results := [.lit (.bool true)], args := [d] }
  | _ => none }
def lexListsRow : OpenClaim := { program := "ytfpbgchlemcpbaa", sum := "12eebc05a5f9c327b2c4f1d25b6290b7a0d8718cb5a05798e0073232582c6431", func := "mullion/mullionlaw09.LexLists", spec := "lexLists", inPlace := ["internal/bytealg.IndexByteString"], apart := false }
def LexListsSaid : Prop := lexListsRow.holds Try.pinned (OpenSpec.ofChange lexListsSpec)

/-- ITS FALSE NEIGHBOUR: 'it returns false'. Refute it at one input. -/
def lexListsWrong : ChangeSpec := { name := "lexLists", fn := fun _ => fun
  | [d] => { results := [.lit (.bool false)], args := [d] }
  | _ => none }
def LexListsWrongFalsely : Prop := lexListsRow.holds Try.pinned (OpenSpec.ofChange lexListsWrong)

/-- 'mullionlaw09.LexReads': WHATEVER THE INPUT: true; the input reads as it did. -/
def lexReadsSpec : ChangeSpec := { name := "lexReads", fn := fun _ => fun
  | [d] => { results := [.lit (.bool true)], args := [d] }
  | _ => none }
def lexReadsRow : OpenClaim := { program := "ytfpbgchlemcpbaa", sum := "12eebc05a5f9c327b2c4f1d25b6290b7a0d8718cb5a05798e0073232582c6431", func := "mullion/mullionlaw09.LexReads", spec := "lexReads", inPlace := ["internal/bytealg.IndexByteString"], apart := false }
def LexReadsSaid : Prop := lexReadsRow.holds Try.pinned (OpenSpec.ofChange lexReadsSpec)

/-- ITS FALSE NEIGHBOUR: 'it returns false'. Refute it at one input. -/
def lexReadsWrong : ChangeSpec := { name := "lexReads", fn := fun _ => fun
  | [d] => { results := [.lit (.bool false)], args := [d] }
  | _ => none }
def LexReadsWrongFalsely : Prop := lexReadsRow.holds Try.pinned (OpenSpec.ofChange lexReadsWrong)

/-- 'mullionlaw09.LexBlanks': WHATEVER THE INPUT: true; the input reads as it did. -/
def lexBlanksSpec : ChangeSpec := { name := "lexBlanks", fn := fun _ => fun
  | [d1, d2, d3] => { results := [.lit (.bool true)], args := [d1, d2, d3] }
  | _ => none }
def lexBlanksRow : OpenClaim := { program := "ytfpbgchlemcpbaa", sum := "12eebc05a5f9c327b2c4f1d25b6290b7a0d8718cb5a05798e0073232582c6431", func := "mullion/mullionlaw09.LexBlanks", spec := "lexBlanks", inPlace := ["internal/bytealg.IndexByteString"], apart := false }
def LexBlanksSaid : Prop := lexBlanksRow.holds Try.pinned (OpenSpec.ofChange lexBlanksSpec)

/-- ITS FALSE NEIGHBOUR: 'it returns false'. Refute it at one input. -/
def lexBlanksWrong : ChangeSpec := { name := "lexBlanks", fn := fun _ => fun
  | [d1, d2, d3] => { results := [.lit (.bool false)], args := [d1, d2, d3] }
  | _ => none }
def LexBlanksWrongFalsely : Prop := lexBlanksRow.holds Try.pinned (OpenSpec.ofChange lexBlanksWrong)

/-- 'mullionlaw09.LexTwo': WHATEVER THE INPUT: true; the input reads as it did. -/
def lexTwoSpec : ChangeSpec := { name := "lexTwo", fn := fun _ => fun
  | [d1, d2] => { results := [.lit (.bool true)], args := [d1, d2] }
  | _ => none }
def lexTwoRow : OpenClaim := { program := "ytfpbgchlemcpbaa", sum := "12eebc05a5f9c327b2c4f1d25b6290b7a0d8718cb5a05798e0073232582c6431", func := "mullion/mullionlaw09.LexTwo", spec := "lexTwo", inPlace := ["internal/bytealg.IndexByteString"], apart := false }
def LexTwoSaid : Prop := lexTwoRow.holds Try.pinned (OpenSpec.ofChange lexTwoSpec)

/-- ITS FALSE NEIGHBOUR: 'it returns false'. Refute it at one input. -/
def lexTwoWrong : ChangeSpec := { name := "lexTwo", fn := fun _ => fun
  | [d1, d2] => { results := [.lit (.bool false)], args := [d1, d2] }
  | _ => none }
def LexTwoWrongFalsely : Prop := lexTwoRow.holds Try.pinned (OpenSpec.ofChange lexTwoWrong)

/-- 'mullionlaw09.LexPlaces': WHATEVER THE INPUT: true; the input reads as it did. -/
def lexPlacesSpec : ChangeSpec := { name := "lexPlaces", fn := fun _ => fun
  | [d] => { results := [.lit (.bool true)], args := [d] }
  | _ => none }
def lexPlacesRow : OpenClaim := { program := "ytfpbgchlemcpbaa", sum := "12eebc05a5f9c327b2c4f1d25b6290b7a0d8718cb5a05798e0073232582c6431", func := "mullion/mullionlaw09.LexPlaces", spec := "lexPlaces", inPlace := ["internal/bytealg.IndexByteString"], apart := false }
def LexPlacesSaid : Prop := lexPlacesRow.holds Try.pinned (OpenSpec.ofChange lexPlacesSpec)

/-- ITS FALSE NEIGHBOUR: 'it returns false'. Refute it at one input. -/
def lexPlacesWrong : ChangeSpec := { name := "lexPlaces", fn := fun _ => fun
  | [d] => { results := [.lit (.bool false)], args := [d] }
  | _ => none }
def LexPlacesWrongFalsely : Prop := lexPlacesRow.holds Try.pinned (OpenSpec.ofChange lexPlacesWrong)

/-- 'mullionlaw09.LexOwn': WHATEVER THE INPUT: true; the input reads as it did. -/
def lexOwnSpec : ChangeSpec := { name := "lexOwn", fn := fun _ => fun
  | [d] => { results := [.lit (.bool true)], args := [d] }
  | _ => none }
def lexOwnRow : OpenClaim := { program := "ytfpbgchlemcpbaa", sum := "12eebc05a5f9c327b2c4f1d25b6290b7a0d8718cb5a05798e0073232582c6431", func := "mullion/mullionlaw09.LexOwn", spec := "lexOwn", inPlace := ["internal/bytealg.IndexByteString"], apart := false }
def LexOwnSaid : Prop := lexOwnRow.holds Try.pinned (OpenSpec.ofChange lexOwnSpec)

/-- ITS FALSE NEIGHBOUR: 'it returns false'. Refute it at one input. -/
def lexOwnWrong : ChangeSpec := { name := "lexOwn", fn := fun _ => fun
  | [d] => { results := [.lit (.bool false)], args := [d] }
  | _ => none }
def LexOwnWrongFalsely : Prop := lexOwnRow.holds Try.pinned (OpenSpec.ofChange lexOwnWrong)

/- THE SECOND FORM. 'bulk': how many values and letters a reading holds, each counted each time it is reached (what is shared counts as often as it is met; a slice's spare places count too). A statement '..UptoSaid' is the law's where the arguments, and the package variables that the reading takes, are together of bulk at most 1048576: NARROWER than '..Said'. Prove '..Said' where nothing that the law and all that it calls make is longer than what came in: it says more and counts as full. Else prove '..UptoSaid'. A law counts once. -/
mutual
def uptoBulk {H : Type} : DataW H → Nat
  | .lit (.string bytes) => bytes.length + 1
  | .lit _ => 1
  | .nil => 1
  | .ptr d => uptoBulk d + 1
  | .slice elems spare => uptoBulkAll elems + uptoBulkAll spare + 1
  | .agg parts => uptoBulkAll parts + 1
  | .iface _ d => uptoBulk d + 1
  | .map entries => uptoBulkEntries entries + 1
  | .held _ => 1
def uptoBulkAll {H : Type} : List (DataW H) → Nat
  | [] => 0
  | d :: r => uptoBulk d + uptoBulkAll r
def uptoBulkEntries {H : Type} : List (Lit × DataW H) → Nat
  | [] => 0
  | x :: r => uptoBulkEntry x + uptoBulkEntries r
def uptoBulkEntry {H : Type} : Lit × DataW H → Nat
  | (.string bytes, d) => bytes.length + uptoBulk d + 1
  | (_, d) => uptoBulk d + 1
 end
def uptoSmall : (H : Type) → List (DataW H) → Bool := fun _ ds => decide (uptoBulkAll ds ≤ 1048576)
def OpenSpec.upto (s : _root_.Go.ChangeSpec) : _root_.Go.OpenSpec := { _root_.Go.OpenSpec.ofChange s with cond := some uptoSmall }

/-- 'mullionlaw09.LexConsts', WHERE WHAT IT READS IS OF BULK AT MOST 1048576: true; the input reads as it did. -/
def lexConstsUptoRow : OpenClaim := { program := "ytfpbgchlemcpbaa", sum := "12eebc05a5f9c327b2c4f1d25b6290b7a0d8718cb5a05798e0073232582c6431", func := "mullion/mullionlaw09.LexConsts", spec := "lexConsts", apart := false, narrowed := true }
def LexConstsUptoSaid : Prop := lexConstsUptoRow.holds Try.pinned (OpenSpec.upto lexConstsSpec)

/-- 'mullionlaw09.LexQuotes', WHERE WHAT IT READS IS OF BULK AT MOST 1048576: true; the input reads as it did. -/
def lexQuotesUptoRow : OpenClaim := { program := "ytfpbgchlemcpbaa", sum := "12eebc05a5f9c327b2c4f1d25b6290b7a0d8718cb5a05798e0073232582c6431", func := "mullion/mullionlaw09.LexQuotes", spec := "lexQuotes", inPlace := ["internal/bytealg.IndexByteString"], apart := false, narrowed := true }
def LexQuotesUptoSaid : Prop := lexQuotesUptoRow.holds Try.pinned (OpenSpec.upto lexQuotesSpec)

/-- 'mullionlaw09.LexBack', WHERE WHAT IT READS IS OF BULK AT MOST 1048576: true; the input reads as it did. -/
def lexBackUptoRow : OpenClaim := { program := "ytfpbgchlemcpbaa", sum := "12eebc05a5f9c327b2c4f1d25b6290b7a0d8718cb5a05798e0073232582c6431", func := "mullion/mullionlaw09.LexBack", spec := "lexBack", inPlace := ["internal/bytealg.IndexByteString"], apart := false, narrowed := true }
def LexBackUptoSaid : Prop := lexBackUptoRow.holds Try.pinned (OpenSpec.upto lexBackSpec)

/-- 'mullionlaw09.LexLists', WHERE WHAT IT READS IS OF BULK AT MOST 1048576: true; the input reads as it did. -/
def lexListsUptoRow : OpenClaim := { program := "ytfpbgchlemcpbaa", sum := "12eebc05a5f9c327b2c4f1d25b6290b7a0d8718cb5a05798e0073232582c6431", func := "mullion/mullionlaw09.LexLists", spec := "lexLists", inPlace := ["internal/bytealg.IndexByteString"], apart := false, narrowed := true }
def LexListsUptoSaid : Prop := lexListsUptoRow.holds Try.pinned (OpenSpec.upto lexListsSpec)

/-- 'mullionlaw09.LexReads', WHERE WHAT IT READS IS OF BULK AT MOST 1048576: true; the input reads as it did. -/
def lexReadsUptoRow : OpenClaim := { program := "ytfpbgchlemcpbaa", sum := "12eebc05a5f9c327b2c4f1d25b6290b7a0d8718cb5a05798e0073232582c6431", func := "mullion/mullionlaw09.LexReads", spec := "lexReads", inPlace := ["internal/bytealg.IndexByteString"], apart := false, narrowed := true }
def LexReadsUptoSaid : Prop := lexReadsUptoRow.holds Try.pinned (OpenSpec.upto lexReadsSpec)

/-- 'mullionlaw09.LexBlanks', WHERE WHAT IT READS IS OF BULK AT MOST 1048576: true; the input reads as it did. -/
def lexBlanksUptoRow : OpenClaim := { program := "ytfpbgchlemcpbaa", sum := "12eebc05a5f9c327b2c4f1d25b6290b7a0d8718cb5a05798e0073232582c6431", func := "mullion/mullionlaw09.LexBlanks", spec := "lexBlanks", inPlace := ["internal/bytealg.IndexByteString"], apart := false, narrowed := true }
def LexBlanksUptoSaid : Prop := lexBlanksUptoRow.holds Try.pinned (OpenSpec.upto lexBlanksSpec)

/-- 'mullionlaw09.LexTwo', WHERE WHAT IT READS IS OF BULK AT MOST 1048576: true; the input reads as it did. -/
def lexTwoUptoRow : OpenClaim := { program := "ytfpbgchlemcpbaa", sum := "12eebc05a5f9c327b2c4f1d25b6290b7a0d8718cb5a05798e0073232582c6431", func := "mullion/mullionlaw09.LexTwo", spec := "lexTwo", inPlace := ["internal/bytealg.IndexByteString"], apart := false, narrowed := true }
def LexTwoUptoSaid : Prop := lexTwoUptoRow.holds Try.pinned (OpenSpec.upto lexTwoSpec)

/-- 'mullionlaw09.LexPlaces', WHERE WHAT IT READS IS OF BULK AT MOST 1048576: true; the input reads as it did. -/
def lexPlacesUptoRow : OpenClaim := { program := "ytfpbgchlemcpbaa", sum := "12eebc05a5f9c327b2c4f1d25b6290b7a0d8718cb5a05798e0073232582c6431", func := "mullion/mullionlaw09.LexPlaces", spec := "lexPlaces", inPlace := ["internal/bytealg.IndexByteString"], apart := false, narrowed := true }
def LexPlacesUptoSaid : Prop := lexPlacesUptoRow.holds Try.pinned (OpenSpec.upto lexPlacesSpec)

/-- 'mullionlaw09.LexOwn', WHERE WHAT IT READS IS OF BULK AT MOST 1048576: true; the input reads as it did. -/
def lexOwnUptoRow : OpenClaim := { program := "ytfpbgchlemcpbaa", sum := "12eebc05a5f9c327b2c4f1d25b6290b7a0d8718cb5a05798e0073232582c6431", func := "mullion/mullionlaw09.LexOwn", spec := "lexOwn", inPlace := ["internal/bytealg.IndexByteString"], apart := false, narrowed := true }
def LexOwnUptoSaid : Prop := lexOwnUptoRow.holds Try.pinned (OpenSpec.upto lexOwnSpec)

end Rows
end Go.Proofs.Ytfpbgchlemcpbaa
