/- The lexer's machine: ahead of a word, to the next jump; and the whole line. No condition but the line's length. -/
import Derived.Test.YtfpbgchlemcpbaaMach6
namespace Go.Proofs.Ytfpbgchlemcpbaa.Mach
open Go.RowKit Go.Proofs.YtfpbgchlemcpbaaW.PrintWords Go.Proofs.YtfpbgchlemcpbaaW.PrintLast Go.Proofs.YtfpbgchlemcpbaaW.PrintMore
set_option linter.unusedVariables false
set_option linter.unusedSimpArgs false

theorem endC_len (words : List ByteArray) (cmds : List (List ByteArray)) : (endC words cmds).length ≤ cmds.length + words.length := by
  unfold endC
  split
  · omega
  · cases words with
    | nil => contradiction
    | cons a t => simp

set_option maxHeartbeats 8000000 in
set_option maxRecDepth 100000 in
theorem ahead_wp (w0 : World) (g : Nat) (s : ByteArray) (R : Res) (hs : s.size ≤ 10000) (n q : Nat) (words : List ByteArray) (cmds : List (List ByteArray)) (tot : Int) (a : Act) (w : World)
    (hF : Fr g a) (h : MS w0 g s q [] words cmds tot w) (hR : ahead ((bytesOf s).drop q) words cmds tot = R) (hq : q ≤ s.size) (ht0 : 0 ≤ tot) (htq : tot ≤ q) (hc : ((cmds.length + words.length : Nat) : Int) ≤ tot)
    (hn : 2 * (s.size - q) + 1 ≤ n)
    (Y : Code) (hY : findLabel runC 1 = some (.seq .skip Y)) :
    Y.wp Try.prog (jumps (fun l' a' w' => ∃ m, m < n ∧ J w0 g s R m l' a' w') (bodyPost Try.prog Try.f22 (RunP w0 g s R))) a w := by
  obtain ⟨t, d⟩ := a
  obtain ⟨rfl, hsz, h0⟩ := hF
  obtain ⟨u, rfl⟩ := lit150 t hsz
  have hu0 : u 0 = .pointer (some ⟨g, 0, none⟩) := Option.some.inj h0
  rw [hu0]
  clear h0 hsz hu0
  have HX : Aside0 (∀ a' w', Fr g a' → MS w0 g s q [] words cmds tot w' → q < s.size → isBlank (bt s q) = false → bt s q ≠ 59 → within ((bytesOf s).drop q) [] words cmds tot = R → ∀ X, findLabel runC 2 = some (.seq .skip X) →
      X.wp Try.prog (jumps (fun l' a' w' => ∃ m, m < n ∧ J w0 g s R m l' a' w') (bodyPost Try.prog Try.f22 (RunP w0 g s R))) a' w') :=
    ⟨fun a' w' hF h hq1 hb h59 hR X hX => within_wp w0 g s R hs n q [] words cmds tot a' w' hF h hR hq ht0 (by simp) hc (.inr ⟨hn, htq, hq1, hb, h59⟩) X hX⟩
  delta runC at hY
  dsimp only [Try.f22] at hY
  have hY4 := Option.some.inj (show some _ = some (Code.seq .skip Y) from hY)
  injection hY4 with _ hY5
  subst hY5
  clear hY
  have HM := Aside0.mk h
  have HR := Aside0.mk hR
  have HQ := Aside0.mk hq
  have HT := Aside0.mk ht0
  have HTQ := Aside0.mk htq
  have HC := Aside0.mk hc
  have HN := Aside0.mk hn
  clear h hR hq ht0 htq hc hn
  by_cases hlt : q < s.size
  · obtain ⟨c0, c1, f1, hglt⟩ := HM.out.cells
    have hd : Aside0 (decide ((s.size : Int) ≤ (q : Int)) = false) := ⟨decide_eq_false (by omega)⟩
    have hat : (((s[q]'hlt).toNat : Nat) : Int) = bt s q := bt_at s q hlt
    have hlt2 : (q : Int) < (s.size : Int) := by omega
    have HST : Aside0 (ahead (bt s q :: (bytesOf s).drop (q + 1)) words cmds tot = R) := ⟨by rw [← HR.out, drop_cons s q hlt]⟩
    have HLT := Aside0.mk hlt
    go_wp2_with (go_at_call 26; refine (done w0 _ g s q [] words cmds tot HM.out).mono ?_; rintro e w' ⟨rfl, ⟨nd, rfl⟩⟩; rw [hd.out])
    go_quiet (fail)
    have hM2 := (HM.out.drewN nd).drewN nq
    generalize (w.drewN nd).drewN nq = W at hM2 ⊢
    have HM2 := Aside0.mk hM2
    clear hM2 c0 c1 f1 hglt hd HM
    obtain ⟨c0, c1, f1, hglt⟩ := HM2.out.cells
    by_cases e32 : bt s q = 32 ∨ bt s q = 9
    · have hres : Aside0 (ahead ((bytesOf s).drop (q + 1)) words cmds tot = R) := ⟨by
        rw [← HST.out]
        exact (ahead_blank (by rcases e32 with e | e <;> simp [isBlank, e])).symm⟩
      rcases e32 with e | e
      · have g32 : (bt s q == 32) = true := beq_iff_eq.mpr e
        clear e
        go_wp2
        go_step3
        exact ⟨2 * (s.size - (q + 1)) + 1, by have := HN.out; have := HLT.out; omega, ⟨rfl, rfl, rfl⟩, q + 1, words, cmds, tot, fin32 (HM2.out.move _), hres.out, rfl, HLT.out, HT.out, by have := HTQ.out; omega, HC.out⟩
      · have g32 : (bt s q == 32) = false := by rw [e]; rfl
        have g9 : (bt s q == 9) = true := beq_iff_eq.mpr e
        clear e
        go_wp2
        go_step3
        exact ⟨2 * (s.size - (q + 1)) + 1, by have := HN.out; have := HLT.out; omega, ⟨rfl, rfl, rfl⟩, q + 1, words, cmds, tot, fin32 (HM2.out.move _), hres.out, rfl, HLT.out, HT.out, by have := HTQ.out; omega, HC.out⟩
    have e32' : bt s q ≠ 32 := fun h => e32 (.inl h)
    have e9' : bt s q ≠ 9 := fun h => e32 (.inr h)
    have g32 : (bt s q == 32) = false := beq_eq_false_iff_ne.mpr e32'
    have g9 : (bt s q == 9) = false := beq_eq_false_iff_ne.mpr e9'
    have n32 := Aside0.mk g32
    have n9 := Aside0.mk g9
    clear e32 e32' e9'
    by_cases e59 : bt s q = 59
    · have g59 : (bt s q == 59) = true := beq_iff_eq.mpr e59
      have hres : Aside0 (ahead ((bytesOf s).drop (q + 1)) [] (endC words cmds) tot = R) := ⟨by
        rw [← HST.out]
        exact (ahead_semi e59).symm⟩
      clear e59
      go_upto_region 9 with (go_at_call 27; refine (endCommand w0 _ g s q [] words cmds tot HM2.out (by have := HC.out; have := HTQ.out; have := HQ.out; omega)).mono ?_; rintro e w' ⟨rfl, hm⟩; have HM3 := Aside0.mk hm; clear hm)
      clear c0 c1 f1 hglt
      obtain ⟨c0, c1, f1, hglt⟩ := HM3.out.cells
      go_wp2
      go_step3
      exact ⟨2 * (s.size - (q + 1)) + 1, by have := HN.out; have := HLT.out; omega, ⟨rfl, rfl, rfl⟩, q + 1, [], _, tot, fin32 (HM3.out.move _), hres.out, rfl, HLT.out, HT.out, by have := HTQ.out; omega, by have := HC.out; have := endC_len words cmds; unfold endC at this; simp; omega⟩
    · have g59 : (bt s q == 59) = false := beq_eq_false_iff_ne.mpr e59
      have n59 := Aside0.mk e59
      have hblank : Aside0 (isBlank (bt s q) = false) := ⟨by simp [isBlank, n32.out, n9.out]⟩
      clear e59
      by_cases e35 : bt s q = 35
      · have g35 : (bt s q == 35) = true := beq_iff_eq.mpr e35
        have hw1 : IntKind.i64.wrap ((q : Int) + 1) = (q : Int) + 1 := IntWalk.i64_in _ (by omega)
        have hw2 : (0 : Int) ≤ (q : Int) + 1 := by omega
        have hw3 : ((q : Int) + 1).toNat = q + 1 := by omega
        by_cases hl1 : q + 1 < s.size
        · have hd1 : decide ((s.size : Int) ≤ (q : Int) + 1) = false := decide_eq_false (by omega)
          have hl2 : (q : Int) + 1 < (s.size : Int) := by omega
          have hat1 : (((s[q + 1]'hl1).toNat : Nat) : Int) = bt s ((q + 1 : Nat) : Int) := bt_at s ((q + 1 : Nat) : Int) hl1
          generalize hbv : bt s ((q + 1 : Nat) : Int) = bv at hat1
          by_cases e123 : bv = 123
          · have g123 : (bv != 123) = false := bne_eq_false_iff_eq.mpr e123
            have hres : Aside0 (within ((bytesOf s).drop q) [] words cmds tot = R) := ⟨by
              rw [← HST.out, drop_cons s q HLT.out]
              refine (ahead_word hblank.out n59.out (fun h => h.2 ?_)).symm
              rw [drop_cons s (q + 1) hl1, hbv, e123]; rfl⟩
            clear e123 e35 hbv
            go_wp2
            go_quiet (fail)
            go_wp2
            go_step3
            rename_i hK
            exact hK _ _ (HX.out _ _ ⟨rfl, rfl, rfl⟩ (HM2.out.drewN nq) HLT.out hblank.out n59.out hres.out _ rfl)
          · have g123 : (bv != 123) = true := bne_iff_ne.mpr e123
            have hres : Aside0 (R = .ok (endC words cmds) tot) := ⟨by
              rw [← HST.out]
              refine ahead_remark e35 ?_
              rw [drop_cons s (q + 1) hl1, hbv]
              simpa using e123⟩
            clear e123 e35 hbv
            go_wp2
            go_quiet (fail)
            go_wp2
            go_step3
            exact ⟨0, by have := HN.out; omega, ⟨rfl, rfl, rfl⟩, q, [], words, cmds, tot, HM2.out.drewN nq, hres.out, by have := HC.out; have := HTQ.out; have := HQ.out; omega⟩
        · have hd1 : decide ((s.size : Int) ≤ (q : Int) + 1) = true := decide_eq_true (by omega)
          have hres : Aside0 (R = .ok (endC words cmds) tot) := ⟨by
            rw [← HST.out]
            refine ahead_remark e35 ?_
            rw [List.drop_of_length_le (by rw [len_bytesOf]; omega)]
            simp⟩
          clear e35
          go_wp2
          go_quiet (fail)
          go_wp2
          go_step3
          exact ⟨0, by have := HN.out; omega, ⟨rfl, rfl, rfl⟩, q, [], words, cmds, tot, HM2.out.drewN nq, hres.out, by have := HC.out; have := HTQ.out; have := HQ.out; omega⟩
      · have g35 : (bt s q == 35) = false := beq_eq_false_iff_ne.mpr e35
        have hres : Aside0 (within ((bytesOf s).drop q) [] words cmds tot = R) := ⟨by
          rw [← HST.out, drop_cons s q HLT.out]
          exact (ahead_word hblank.out n59.out (fun h => e35 h.1)).symm⟩
        clear e35
        go_wp2
        go_step3
        rename_i hK
        exact hK _ _ (HX.out _ _ ⟨rfl, rfl, rfl⟩ HM2.out HLT.out hblank.out n59.out hres.out _ rfl)
  · have hd : Aside0 (decide ((s.size : Int) ≤ (q : Int)) = true) := ⟨decide_eq_true (by omega)⟩
    have hres : Aside0 (R = .ok (endC words cmds) tot) := ⟨by rw [← HR.out, List.drop_of_length_le (by rw [len_bytesOf]; omega), ahead_nil]⟩
    go_wp2_with (go_at_call 26; refine (done w0 _ g s q [] words cmds tot HM.out).mono ?_; rintro e w' ⟨rfl, ⟨nd, rfl⟩⟩; rw [hd.out])
    go_step3
    exact ⟨0, by have := HN.out; omega, ⟨rfl, rfl, rfl⟩, q, [], words, cmds, tot, HM.out.drewN nd, hres.out, by have := HC.out; have := HTQ.out; have := HQ.out; omega⟩
end Go.Proofs.Ytfpbgchlemcpbaa.Mach
