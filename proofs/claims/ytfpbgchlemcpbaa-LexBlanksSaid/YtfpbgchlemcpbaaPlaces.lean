/- The law LexPlaces, plain: where Commands fails stands a quote or a backslash, and what is ahead is read. No condition. -/
import Derived.Test.YtfpbgchlemcpbaaPLx6
import Derived.Test.YtfpbgchlemcpbaaSame
import Derived.Test.YtfpbgchlemcpbaaReads
namespace Go.Proofs.Ytfpbgchlemcpbaa.LexLaws
open Go.RowKit Go.Proofs.Ytfpbgchlemcpbaa.PL Go.Proofs.Ytfpbgchlemcpbaa.Mach Go.Proofs.YtfpbgchlemcpbaaW.PrintWords Go.Proofs.YtfpbgchlemcpbaaW.PrintLast

theorem ev_pos {α : Type} {c : Prop} [Decidable c] {a b : Nat → Option α} {r : α} (h : c) (k : Ev a r) : Ev (fun n => if c then a n else b n) r := Ev.congr (fun _ => if_pos h) k
theorem ev_neg {α : Type} {c : Prop} [Decidable c] {a b : Nat → Option α} {r : α} (h : ¬ c) (k : Ev b r) : Ev (fun n => if c then a n else b n) r := Ev.congr (fun _ => if_neg h) k
theorem commandsF_ok {s : ByteArray} (hs : s.size ≤ 8192) {cmds : List (List ByteArray)} {tot : Int} (h : Mach.ahead (bytesOf s) [] [] 0 = .ok cmds tot) :
    commandsF s = if cmds.length > 16 ∨ tot > 64 then ([], 0, 91) else (cmds, 0, 0) := by
  unfold commandsF
  rw [if_neg (by omega), h]
  rfl
theorem commandsF_fail {s : ByteArray} (hs : s.size ≤ 8192) {n : Nat} (h : Mach.ahead (bytesOf s) [] [] 0 = .fail n) : commandsF s = ([], (s.size : Int) - n, 90) := by
  unfold commandsF
  rw [if_neg (by omega), h]
  rfl
theorem commandsF_long {s : ByteArray} (hs : ¬ s.size ≤ 8192) : commandsF s = ([], 0, 2) := by
  unfold commandsF
  rw [if_pos (by omega)]
theorem bytesOf_take (s : ByteArray) (n : Nat) : bytesOf (s.extract 0 n) = (bytesOf s).take n := by
  unfold bytesOf
  rw [Lib.extract_data, List.map_take]
  simp

theorem places_sure {s : ByteArray} (h1 : (commandsF s).2.2 ≠ 90) (h2 : (commandsF s).2.1 = 0) (h3 : (commandsF s).2.2 = 0 ∨ (commandsF s).1 = []) : Ev (fun k => mullionlaw09_LexPlaces.f k s) true := by
  unfold mullionlaw09_LexPlaces.f lex_Commands.f
  refine Ev.bind (Ev.now _) ?_
  refine ev_neg h1 (ev_pos h2 ?_)
  rcases h3 with h3 | h3
  · exact ev_pos h3 (Ev.bind sure_f (Ev.now _))
  · by_cases h4 : (commandsF s).2.2 = 0
    · exact ev_pos h4 (Ev.bind sure_f (Ev.now _))
    · exact ev_neg h4 (ev_pos (by rw [h3]; rfl) (Ev.bind sure_f (Ev.now _)))

theorem LexPlaces_f (s : ByteArray) : ∃ k, mullionlaw09_LexPlaces.f k s = some true := by
  refine Ev.rounds ?_
  by_cases hs : s.size ≤ 8192
  · cases hR : Mach.ahead (bytesOf s) [] [] 0 with
    | ok cmds tot =>
      have h := commandsF_ok hs hR
      by_cases hb : cmds.length > 16 ∨ tot > 64
      · rw [if_pos hb] at h
        exact places_sure (by rw [h]; simp) (by rw [h]) (by rw [h]; simp)
      · rw [if_neg hb] at h
        exact places_sure (by rw [h]; simp) (by rw [h]) (by rw [h]; simp)
    | fail n =>
      have h := commandsF_fail hs hR
      obtain ⟨h0, h1, ⟨c, h2, h3⟩, cmds, t', h4⟩ := read_fail.1 _ _ _ _ _ hR
      rw [len_bytesOf] at h1 h2 h4
      have hat : ((s.size : Int) - n) = ((s.size - n : Nat) : Int) := by omega
      rw [get_bytesOf s (s.size - n) (by omega)] at h2
      have hc : bt s ((s.size - n : Nat) : Int) = c := Option.some.inj h2
      have hpre : (commandsF (s.extract 0 (s.size - n))).2.2 ≠ 90 := by
        have h5 := commandsF_ok (s := s.extract 0 (s.size - n)) (by simp; omega) (by rw [bytesOf_take]; exact h4)
        rw [h5]
        split <;> simp
      have hend : Ev (fun k => (lex_Commands.f (s.extract 0 (((s.size - n : Nat) : Int)).toNat)).bind fun bt => some (bt.2.2 != 90)) true := by
        unfold lex_Commands.f
        refine Ev.bind (Ev.now _) ?_
        rw [Int.toNat_natCast, bne_iff_ne.mpr hpre]
        exact Ev.now _
      unfold mullionlaw09_LexPlaces.f lex_Commands.f
      refine Ev.bind (Ev.now _) ?_
      rw [h]
      simp only [hat]
      refine ev_pos trivial (ev_pos (by simp) (ev_neg (by omega) ?_))
      rw [decide_eq_false (by omega)]
      refine Ev.step (fun k => ?_) hend
      simp only [mullionlaw09_LexPlaces.j0]
      rw [if_neg (by simp), if_pos (by omega), if_pos (by omega)]
      rcases h3 with h3 | h3 | h3
      · rw [if_pos (by rw [hc, h3]), if_pos (by omega)]
      · rw [if_neg (by rw [hc, h3]; decide), if_pos (by rw [hc, h3]), if_pos (by omega)]
      · rw [if_neg (by rw [hc, h3]; decide), if_neg (by rw [hc, h3]; decide), if_pos (by rw [hc, h3]), if_pos (by omega)]
  · have h := commandsF_long hs
    exact places_sure (by rw [h]; simp) (by rw [h]) (by rw [h]; simp)
end Go.Proofs.Ytfpbgchlemcpbaa.LexLaws
