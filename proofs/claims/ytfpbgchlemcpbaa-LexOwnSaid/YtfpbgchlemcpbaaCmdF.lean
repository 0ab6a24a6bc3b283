/- What Commands answers, by the reading's end. No condition. -/
import Derived.Test.YtfpbgchlemcpbaaSame
namespace Go.Proofs.Ytfpbgchlemcpbaa.LexLaws
open Go.RowKit Go.Proofs.Ytfpbgchlemcpbaa.PL Go.Proofs.Ytfpbgchlemcpbaa.Mach Go.Proofs.YtfpbgchlemcpbaaW.PrintWords Go.Proofs.YtfpbgchlemcpbaaW.PrintLast

theorem ev_pos {α : Type} {c : Prop} [Decidable c] {a b : Nat → Option α} {r : α} (h : c) (k : Ev a r) : Ev (fun n => if c then a n else b n) r := Ev.congr (fun _ => if_pos h) k
theorem ev_neg {α : Type} {c : Prop} [Decidable c] {a b : Nat → Option α} {r : α} (h : ¬ c) (k : Ev b r) : Ev (fun n => if c then a n else b n) r := Ev.congr (fun _ => if_neg h) k
theorem commandsF_ok {s : ByteArray} (hs : s.size ≤ 8192) {cmds : List (List ByteArray)} {tot : Int} (h : Mach.ahead (bytesOf s) [] [] 0 = .ok cmds tot) :
    commandsF s = if cmds.length > 16 ∨ tot > 64 then ([], 0, 91) else (cmds, 0, 0) := by
  unfold commandsF
  rw [if_neg (by omega), h]
  rfl
theorem commandsF_fail {s : ByteArray} (hs : s.size ≤ 8192) {n : Nat} (h : Mach.ahead (bytesOf s) [] [] 0 = .fail n) : commandsF s = ([], (s.size : Int) - n, 90) := by
  unfold commandsF
  rw [if_neg (by omega), h]
  rfl
theorem commandsF_long {s : ByteArray} (hs : ¬ s.size ≤ 8192) : commandsF s = ([], 0, 2) := by
  unfold commandsF
  rw [if_pos (by omega)]
theorem bytesOf_take (s : ByteArray) (n : Nat) : bytesOf (s.extract 0 n) = (bytesOf s).take n := by
  unfold bytesOf
  rw [Lib.extract_data, List.map_take]
  simp

end Go.Proofs.Ytfpbgchlemcpbaa.LexLaws
