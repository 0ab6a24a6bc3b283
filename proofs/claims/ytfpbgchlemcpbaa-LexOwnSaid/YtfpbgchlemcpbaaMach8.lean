/- The lexer's machine: the whole line; and Commands. No condition. -/
import Derived.Test.YtfpbgchlemcpbaaMach7
import Derived.Test.YtfpbgchlemcpbaaSpec2
namespace Go.Proofs.Ytfpbgchlemcpbaa.Mach
open Go.RowKit Go.Proofs.YtfpbgchlemcpbaaW.PrintWords Go.Proofs.YtfpbgchlemcpbaaW.PrintLast Go.Proofs.YtfpbgchlemcpbaaW.PrintMore
set_option linter.unusedVariables false
set_option linter.unusedSimpArgs false

theorem jumps_mono {P : Program} {c : Code} {J J' : Nat → Act → World → Prop} {Q : Exit → Act → World → Prop} {a : Act} {w : World} (h : c.wp P (jumps J Q) a w) (hJ : ∀ l a w, J l a w → J' l a w) : c.wp P (jumps J' Q) a w := by
  refine wp_mono h ?_
  intro e a w hq
  cases e with
  | goto l => exact hJ _ _ _ hq
  | _ => exact hq
theorem wp_skip_seq {P : Program} {c : Code} {Q : Exit → Act → World → Prop} {a : Act} {w : World} (h : c.wp P Q a w) : (Code.seq .skip c).wp P Q a w := wp_seq (wp_skip h)

set_option maxHeartbeats 8000000 in
set_option maxRecDepth 100000 in
theorem run (w0 w : World) (g : Nat) (s : ByteArray) (h : MS w0 g s 0 [] [] [] 0 w) (hs : s.size ≤ 8192) :
    Calls Try.prog 22 #[.pointer (some ⟨g, 0, none⟩)] w (RunP w0 g s (ahead (bytesOf s) [] [] 0)) := by
  generalize hR : ahead (bytesOf s) [] [] 0 = R
  have HR := Aside0.mk hR
  have HM := Aside0.mk h
  clear hR h
  go_enter Try.func22, Try.ntmps22
  go_wp2
  refine wp_scope_multi (J w0 g s R) ?_ ?_
  · go_wp2
    go_step3
    rename_i hK
    refine hK _ _ (jumps_mono (ahead_wp w0 g s R (by omega) (2 * s.size + 1) 0 [] [] 0 _ _ ⟨rfl, rfl, rfl⟩ HM.out (by rw [List.drop_zero]; exact HR.out) (by omega) (by omega) (by omega) (by simp) (by omega) _ rfl) (fun l a w ⟨m, _, hm⟩ => ⟨m, hm⟩))
  · rintro n l a w ⟨hF, hJ⟩
    match l, hJ with
    | 1, ⟨q, words, cmds, tot, hm, hr, hn, hq, h0, htq, hc⟩ =>
      refine ⟨_, rfl, wp_skip_seq ?_⟩
      exact ahead_wp w0 g s R (by omega) n q words cmds tot a w hF hm hr hq h0 htq hc (by omega) _ rfl
    | 2, ⟨q, word, words, cmds, tot, hm, hr, hn, hq, h0, htq, hl, hc⟩ =>
      refine ⟨_, rfl, wp_skip_seq ?_⟩
      exact within_wp w0 g s R (by omega) n q word words cmds tot a w hF hm hr hq h0 hl hc (.inl ⟨by omega, htq⟩) _ rfl
    | 0, ⟨q, word, words, cmds, tot, hm, hr, hc⟩ =>
      refine ⟨_, rfl, wp_skip_seq ?_⟩
      obtain ⟨t, d⟩ := a
      obtain ⟨rfl, hsz, h0⟩ := hF
      obtain ⟨u, rfl⟩ := lit150 t hsz
      have hu0 : u 0 = .pointer (some ⟨g, 0, none⟩) := Option.some.inj h0
      rw [hu0]
      clear h0 hsz hu0
      have HM2 := Aside0.mk hm
      have HR2 := Aside0.mk hr
      clear hm hr HM HR
      go_wp2_with (go_at_call 27; refine (endCommand w0 _ g s q word words cmds tot HM2.out (by omega)).mono ?_; rintro e w' ⟨rfl, hm⟩; have HM3 := Aside0.mk hm; clear hm)
      rw [jumps_ret]
      go_ret
      rw [HR2.out]
      exact ⟨rfl, q, word, HM3.out⟩

/-- What Commands answers. -/
def commandsOf (R : Res) (size : Int) : List (List ByteArray) × Int × Int :=
  match R with
  | .fail n => ([], size - n, 90)
  | .ok cmds tot => if cmds.length > 16 ∨ tot > 64 then ([], 0, 91) else (cmds, 0, 0)
def commandsF (s : ByteArray) : List (List ByteArray) × Int × Int := if (s.size : Int) > 8192 then ([], 0, 2) else commandsOf (ahead (bytesOf s) [] [] 0) s.size

/-- The ending of Commands. -/
def CmdP (w : World) (r : List (List ByteArray) × Int × Int) (e : Ending) (w' : World) : Prop :=
  ∃ v0_ : Value, e = .returned (.tuple #[v0_, .int .i64 r.2.1, .int .i64 r.2.2]) ∧ Kd.S (Kd.slice 9 Kd.string) 30 w' w.heap.size (fun _ => True) v0_ r.1 ∧ Below w.heap.size w w'

theorem MS_new (w : World) (s : ByteArray) : MS w w.heap.size s 0 [] [] [] 0 (w.alloc (.cells #[.string s, .int .i64 0, .slice none 0 0, .slice none 0 0, .slice none 0 0, .int .i64 0] 42)) :=
  ⟨.slice none 0 0, .slice none 0 0, .slice none 0 0, heap_alloc_new w _, Nat.le_refl _, below_alloc (Below.refl _ _) _, Kd.R_nil _ _ _ _ _, Kd.R_nil _ _ _ _ _, Kd.S_nil _ _ _ _ _⟩

set_option maxHeartbeats 8000000 in
set_option maxRecDepth 100000 in
theorem commands (s : ByteArray) (w : World) : Calls Try.prog 14 #[.string s] w (CmdP w (commandsF s)) := by
  by_cases hsz : (s.size : Int) > 8192
  · have hF : Aside0 (commandsF s = ([], 0, 2)) := ⟨by unfold commandsF; rw [if_pos hsz]⟩
    have c2b0 : decide (8192 < (s.size : Int)) = true := decide_eq_true hsz
    have c2b1 : decide (8192 < s.size) = true := decide_eq_true (by omega)
    clear hsz
    go_enter Try.func14, Try.ntmps14
    go_wp2
    go_ret3
    rw [hF.out]
    exact ⟨_, rfl, Kd.S_nil _ _ _ _ _, Below.refl _ _⟩
  · have hF : Aside0 (commandsF s = commandsOf (ahead (bytesOf s) [] [] 0) s.size) := ⟨by unfold commandsF; rw [if_neg hsz]⟩
    have c2b0 : decide (8192 < (s.size : Int)) = false := decide_eq_false hsz
    have c2b1 : decide (8192 < s.size) = false := decide_eq_false (by omega)
    have HSZ : Aside0 (s.size ≤ 8192) := ⟨by omega⟩
    clear hsz
    have hrun := run w _ w.heap.size s (MS_new w s) HSZ.out
    have hleft := left_ok (bytesOf s) [] [] 0
    rw [len_bytesOf] at hleft
    generalize ahead (bytesOf s) [] [] 0 = R at hrun hF hleft
    have HRUN := Aside0.mk hrun
    clear hrun
    go_enter Try.func14, Try.ntmps14
    cases R with
    | fail n =>
      have hn0 : 0 ≤ (s.size : Int) - (n : Int) := by have := hleft.2; omega
      have hn1 : n ≤ s.size := hleft.2
      clear hleft
      go_wp2_with (go_at_call 22; refine HRUN.out.mono ?_; rintro e w' ⟨rfl, hB⟩; have HB := Aside0.mk hB; clear hB)
      go_ret3
      rw [hF.out]
      exact ⟨_, rfl, Kd.S_nil _ _ _ _ _, HB.out⟩
    | ok cmds tot =>
      clear hleft
      go_upto_region 5 with (go_at_call 22; refine HRUN.out.mono ?_; rintro e w' ⟨rfl, q, word, hm⟩; have HM := Aside0.mk hm; clear hm)
      obtain ⟨vw, vs, vc, hb, hg, hB, hw, hs', hc⟩ := HM.out
      obtain ⟨Ac, kc, rfl⟩ := Kd.S_slice hc
      have c4 : w'.cell? ⟨w.heap.size, 4, none⟩ = some (.slice Ac cmds.length kc) := (blk_cell hb 4).trans rfl
      have c5 : w'.cell? ⟨w.heap.size, 5, none⟩ = some (.int .i64 tot) := (blk_cell hb 5).trans rfl
      have HB := Aside0.mk hB
      have HC := Aside0.mk hc
      clear hb hg hB hw hs' hc
      by_cases h16 : cmds.length > 16
      · have d1 : decide (16 < cmds.length) = true := decide_eq_true h16
        have d2 : decide ((16 : Int) < (cmds.length : Int)) = true := decide_eq_true (by omega)
        have hR : Aside0 (commandsF s = ([], 0, 91)) := ⟨by rw [hF.out]; simp only [commandsOf]; rw [if_pos (.inl h16)]⟩
        clear h16
        go_wp2
        go_ret3
        rw [hR.out]
        exact ⟨_, rfl, Kd.S_nil _ _ _ _ _, HB.out⟩
      · have d1 : decide (16 < cmds.length) = false := decide_eq_false h16
        have d2 : decide ((16 : Int) < (cmds.length : Int)) = false := decide_eq_false (by omega)
        by_cases h64 : tot > 64
        · have d3 : decide ((64 : Int) < tot) = true := decide_eq_true h64
          have hR : Aside0 (commandsF s = ([], 0, 91)) := ⟨by rw [hF.out]; simp only [commandsOf]; rw [if_pos (.inr h64)]⟩
          clear h16 h64
          go_wp2
          go_ret3
          rw [hR.out]
          exact ⟨_, rfl, Kd.S_nil _ _ _ _ _, HB.out⟩
        · have d3 : decide ((64 : Int) < tot) = false := decide_eq_false h64
          have hR : Aside0 (commandsF s = (cmds, 0, 0)) := ⟨by rw [hF.out]; simp only [commandsOf]; rw [if_neg (by rintro (h | h) <;> omega)]⟩
          clear h16 h64
          go_wp2
          go_ret3
          rw [hR.out]
          exact ⟨_, rfl, Kd.S_mono HC.out (fun _ _ => trivial), HB.out⟩
end Go.Proofs.Ytfpbgchlemcpbaa.Mach
