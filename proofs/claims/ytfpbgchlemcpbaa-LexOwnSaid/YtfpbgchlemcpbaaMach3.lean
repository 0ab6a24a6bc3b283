/- The lexer's machine: three octal digits, or one sign, behind a backslash in double quotes. No condition but lengths below a bound. -/
import Derived.Test.YtfpbgchlemcpbaaMach2
import Derived.Test.YtfpbgchlemcpbaaSpec
namespace Go.Proofs.Ytfpbgchlemcpbaa.Mach
open Go.RowKit Go.Proofs.YtfpbgchlemcpbaaW.PrintWords Go.Proofs.YtfpbgchlemcpbaaW.PrintLast Go.Proofs.YtfpbgchlemcpbaaW.PrintMore
set_option linter.unusedVariables false
set_option linter.unusedSimpArgs false

/-- what the machine is behind the escape -/
def EscP (w0 : World) (g : Nat) (s : ByteArray) (p : Nat) (r : ByteArray) (word : List Int) (words : List ByteArray) (cmds : List (List ByteArray)) (tot : Int) (oct : Bool) (w : World) : Prop :=
  if oct then MS w0 g s (p + 3) (word ++ [valD r 3]) words cmds tot w else MS w0 g s (p + 1) (word ++ [esc1 (bt r 0)]) words cmds tot w

set_option maxHeartbeats 4000000 in
set_option maxRecDepth 100000 in
theorem escaped3 (w0 w : World) (g : Nat) (s : ByteArray) (p : Nat) (word : List Int) (words : List ByteArray) (cmds : List (List ByteArray)) (tot : Int)
    (h : MS w0 g s p word words cmds tot w) (hp : p + 3 ≤ s.size) (hs : s.size ≤ 1000000) (hl : word.length ≤ 1000000)
    (r : ByteArray) (hr : s.extract p s.size = r) :
    Calls Try.prog 34 #[.pointer (some ⟨g, 0, none⟩)] w fun e w' => e = .returned (.bool true) ∧ EscP w0 g s p r word words cmds tot (okD r 3 && decide (valD r 3 ≤ 255)) w' := by
  have HM := Aside0.mk h
  obtain ⟨c0, c1, f1, hglt⟩ := h.cells
  clear h
  have hd : decide ((s.size : Int) ≤ (p : Int)) = false := decide_eq_false (by omega)
  have HD := Aside0.mk hd
  clear hd
  have hr3 : 3 ≤ r.size := by rw [← hr]; simp; omega
  have HR := Aside0.mk hr
  clear hr
  have q1 : decide ((p : Int) ≤ (s.size : Int)) = true := decide_eq_true (by omega)
  go_enter Try.func34, Try.ntmps34
  go_wp2_with (first | (go_at_call 26; refine (done w0 _ g s p word words cmds tot HM.out).mono ?_; rintro e w' ⟨rfl, ⟨nd, rfl⟩⟩; rw [HD.out]) | fail)
  go_quiet (fail)
  rw [HR.out]
  have hsz3 : decide ((3 : Int) ≤ (r.size : Int)) = true := decide_eq_true (by omega)
  have hsz3b : decide (3 ≤ r.size) = true := decide_eq_true (by omega)
  go_wp2
  go_loop [4, 5, 6] (fun v4 v5 v6 => ∃ x : Int, v6 = .int .i64 x ∧ v4 = .int .i64 (valD r x.toNat) ∧ v5 = .bool (okD r x.toNat) ∧ Aside0 (0 ≤ x ∧ x ≤ 3)) (fun _ _ v6 => (3 - intOf v6).toNat)
  case atStart => exact ⟨0, rfl, rfl, rfl, ⟨by omega⟩⟩
  case round =>
    obtain ⟨x, rfl, rfl, rfl, HX⟩ := hrel
    have hx := HX.out
    by_cases hlt : x < 3
    · have hlt0 : decide (x < 3) = true := decide_eq_true hlt
      have hb := valD_bd r x.toNat (by omega)
      have hbt := bt_range r x
      have hat := bt_at r x
      have hq : x < (r.size : Int) := by omega
      have e1 : okD r (x + 1).toNat = (okD r x.toNat && (decide (48 ≤ bt r x) && decide (bt r x ≤ 55))) := by
        rw [show (x + 1).toNat = x.toNat + 1 by omega]
        simp only [okD]
        rw [show ((x.toNat : Nat) : Int) = x by omega]
      have e2 : valD r (x + 1).toNat = 8 * valD r x.toNat + bt r x - 48 := by
        rw [show (x + 1).toNat = x.toNat + 1 by omega]
        simp only [valD]
        rw [show ((x.toNat : Nat) : Int) = x by omega]
      have E1 := Aside0.mk e1
      have E2 := Aside0.mk e2
      clear e1 e2
      have b1 := hb.1
      have b2 := hb.2.1
      clear hb
      have t1 := hbt.1
      have t2 := hbt.2
      clear hbt
      have x0 := hx.1
      clear hx
      generalize okD r x.toNat = ok at E1 ⊢
      generalize valD r x.toNat = vv at E2 b1 b2 ⊢
      cases ok <;> cases d1 : decide (48 ≤ bt r x) <;> cases d2 : decide (bt r x ≤ 55)
      all_goals
        simp only [d1, d2, Bool.and_true, Bool.and_false, Bool.true_and, Bool.false_and] at E1
        go_wp2
        go_round
        case rel => exact ⟨x + 1, by go_num, by rw [E2.out], by rw [E1.out], ⟨by have := HX.out; omega⟩⟩
        case measure => have := HX.out; simp [intOf]; omega
    · obtain rfl : x = 3 := by have := HX.out; omega
      have hb3 := valD_bd r 3 (by omega)
      have v1 := hb3.1
      have v2 := hb3.2.1
      clear hb3 hlt HX hx
      rw [show ((3 : Int).toNat) = 3 from rfl]
      have hvlo : okD r 3 = true → 0 ≤ valD r 3 := by
        intro h
        simp only [okD, Bool.true_and, Bool.and_eq_true, decide_eq_true_eq] at h
        simp only [valD]
        omega
      have HV := Aside0.mk hvlo
      clear hvlo
      have hM2 := HM.out.drewN (nd + nq)
      generalize w.drewN (nd + nq) = W at hM2 ⊢
      obtain ⟨vw, vs, vc, hb, hg, hB, hw, hs', hc⟩ := hM2
      clear c0 c1 f1 hglt HM HD
      have c0 : W.cell? ⟨g, 0, none⟩ = some (.string s) := (blk_cell hb 0).trans rfl
      have c1 : W.cell? ⟨g, 1, none⟩ = some (.int .i64 p) := (blk_cell hb 1).trans rfl
      have c2 : W.cell? ⟨g, 2, none⟩ = some vw := (blk_cell hb 2).trans rfl
      have hglt : g < W.heap.size := blk_lt hb
      have HW := Aside0.mk hw
      have HS := Aside0.mk hs'
      have HC := Aside0.mk hc
      have HB := Aside0.mk hB
      have HG := Aside0.mk hg
      have Hb := Aside0.mk hb
      clear hw hs' hc hB hg hb
      have hsz : w0.heap.size ≤ W.heap.size := HB.out.size
      generalize hok : okD r 3 = ok at HV ⊢
      generalize hvv : valD r 3 = vv at HV v1 v2 ⊢
      have HOK := Aside0.mk hok
      have HVV := Aside0.mk hvv
      clear hok hvv
      have h00 : (0 : Int) < (r.size : Int) := by omega
      have h01 : 0 < r.size := by omega
      have hat0 : (((r[0]'h01).toNat : Nat) : Int) = bt r 0 := bt_at r 0 h01
      by_cases hcase : ok = true ∧ vv ≤ 255
      · obtain ⟨rfl, hle⟩ := hcase
        have hge := HV.out rfl
        have e256 : vv % 256 = vv := by omega
        go_wp2_with (at_builtin; refine Kd.R_append (Kd.int .u8) (w0 := w0) w0.heap.size rfl (.tmp 56) (.tmp 59) 38 5 (.int .u8 0) 1 rfl Try.underlying38 info5 rfl (by decide) (by omega) vw word (vv) [.int .u8 (vv)] (fun _ => True) (fun _ => False) rfl rfl rfl (fun _ hk => hk.elim) (fun _ _ => trivial) HW.out HB.out hsz (by omega) ?_; intro v1 w1 ho hb hgr hat; obtain ⟨A1, k1, hv1⟩ := Kd.R_slice ho; subst hv1; obtain ⟨f1', f2', c0', c1', c2', HB1⟩ := facts3 Hb HW hgr; have HO := Aside0.mk ho; have HB2 := Aside0.mk hb; have HGR := Aside0.mk hgr; clear ho hb hgr hat)
        all_goals go_ret
        all_goals refine ⟨rfl, ?_⟩
        all_goals simp only [EscP, HOK.out, HVV.out, decide_eq_true hle, Bool.and_self, if_true]
        all_goals exact word_ms (p + 3) HW HS HC HG HB1 HO HB2 HGR (by simp)
      · have hfalse : (ok && decide (vv ≤ 255)) = false := by
          cases ok
          · rfl
          · have : ¬ vv ≤ 255 := fun h => hcase ⟨rfl, h⟩
            simp [this]
        have HF := Aside0.mk hfalse
        have hbr := bt_range r 0
        have b0 := hbr.1
        have b1 := hbr.2
        clear hbr hcase HV
        cases ok <;> cases d : decide (vv ≤ 255)
        case neg.true.true => simp [d] at hfalse
        all_goals
          clear hfalse
          have hcs : bt r 0 = 110 ∨ bt r 0 = 116 ∨ bt r 0 = 114 ∨ bt r 0 = 101 ∨ (bt r 0 ≠ 110 ∧ bt r 0 ≠ 116 ∧ bt r 0 ≠ 114 ∧ bt r 0 ≠ 101) := by omega
          rcases hcs with e | e | e | e | ⟨e1, e2, e3, e4⟩
          · have HE : Aside0 (esc1 (bt r 0) = 10) := ⟨by rw [e]; rfl⟩
            go_wp2_with (at_builtin; refine Kd.R_append (Kd.int .u8) (w0 := w0) w0.heap.size rfl (.tmp 85) (.tmp 87) 38 5 (.int .u8 0) 1 rfl Try.underlying38 info5 rfl (by decide) (by omega) vw word (10) [.int .u8 (10)] (fun _ => True) (fun _ => False) rfl rfl rfl (fun _ hk => hk.elim) (fun _ _ => trivial) HW.out HB.out hsz (by omega) ?_; intro v1 w1 ho hb hgr hat; obtain ⟨A1, k1, hv1⟩ := Kd.R_slice ho; subst hv1; obtain ⟨f1', f2', c0', c1', c2', HB1⟩ := facts3 Hb HW hgr; have HO := Aside0.mk ho; have HB2 := Aside0.mk hb; have HGR := Aside0.mk hgr; clear ho hb hgr hat)
            go_ret
            refine ⟨rfl, ?_⟩
            simp only [EscP, HOK.out, HVV.out, HF.out, Bool.false_eq_true, if_false]
            rw [HE.out]
            exact word_ms (p + 1) HW HS HC HG HB1 HO HB2 HGR (by simp)
          · have HE : Aside0 (esc1 (bt r 0) = 9) := ⟨by rw [e]; rfl⟩
            go_wp2_with (at_builtin; refine Kd.R_append (Kd.int .u8) (w0 := w0) w0.heap.size rfl (.tmp 85) (.tmp 87) 38 5 (.int .u8 0) 1 rfl Try.underlying38 info5 rfl (by decide) (by omega) vw word (9) [.int .u8 (9)] (fun _ => True) (fun _ => False) rfl rfl rfl (fun _ hk => hk.elim) (fun _ _ => trivial) HW.out HB.out hsz (by omega) ?_; intro v1 w1 ho hb hgr hat; obtain ⟨A1, k1, hv1⟩ := Kd.R_slice ho; subst hv1; obtain ⟨f1', f2', c0', c1', c2', HB1⟩ := facts3 Hb HW hgr; have HO := Aside0.mk ho; have HB2 := Aside0.mk hb; have HGR := Aside0.mk hgr; clear ho hb hgr hat)
            go_ret
            refine ⟨rfl, ?_⟩
            simp only [EscP, HOK.out, HVV.out, HF.out, Bool.false_eq_true, if_false]
            rw [HE.out]
            exact word_ms (p + 1) HW HS HC HG HB1 HO HB2 HGR (by simp)
          · have HE : Aside0 (esc1 (bt r 0) = 13) := ⟨by rw [e]; rfl⟩
            go_wp2_with (at_builtin; refine Kd.R_append (Kd.int .u8) (w0 := w0) w0.heap.size rfl (.tmp 85) (.tmp 87) 38 5 (.int .u8 0) 1 rfl Try.underlying38 info5 rfl (by decide) (by omega) vw word (13) [.int .u8 (13)] (fun _ => True) (fun _ => False) rfl rfl rfl (fun _ hk => hk.elim) (fun _ _ => trivial) HW.out HB.out hsz (by omega) ?_; intro v1 w1 ho hb hgr hat; obtain ⟨A1, k1, hv1⟩ := Kd.R_slice ho; subst hv1; obtain ⟨f1', f2', c0', c1', c2', HB1⟩ := facts3 Hb HW hgr; have HO := Aside0.mk ho; have HB2 := Aside0.mk hb; have HGR := Aside0.mk hgr; clear ho hb hgr hat)
            go_ret
            refine ⟨rfl, ?_⟩
            simp only [EscP, HOK.out, HVV.out, HF.out, Bool.false_eq_true, if_false]
            rw [HE.out]
            exact word_ms (p + 1) HW HS HC HG HB1 HO HB2 HGR (by simp)
          · have HE : Aside0 (esc1 (bt r 0) = 27) := ⟨by rw [e]; rfl⟩
            go_wp2_with (at_builtin; refine Kd.R_append (Kd.int .u8) (w0 := w0) w0.heap.size rfl (.tmp 85) (.tmp 87) 38 5 (.int .u8 0) 1 rfl Try.underlying38 info5 rfl (by decide) (by omega) vw word (27) [.int .u8 (27)] (fun _ => True) (fun _ => False) rfl rfl rfl (fun _ hk => hk.elim) (fun _ _ => trivial) HW.out HB.out hsz (by omega) ?_; intro v1 w1 ho hb hgr hat; obtain ⟨A1, k1, hv1⟩ := Kd.R_slice ho; subst hv1; obtain ⟨f1', f2', c0', c1', c2', HB1⟩ := facts3 Hb HW hgr; have HO := Aside0.mk ho; have HB2 := Aside0.mk hb; have HGR := Aside0.mk hgr; clear ho hb hgr hat)
            go_ret
            refine ⟨rfl, ?_⟩
            simp only [EscP, HOK.out, HVV.out, HF.out, Bool.false_eq_true, if_false]
            rw [HE.out]
            exact word_ms (p + 1) HW HS HC HG HB1 HO HB2 HGR (by simp)
          · have HE : Aside0 (esc1 (bt r 0) = bt r 0) := ⟨by unfold esc1; rw [if_neg e1, if_neg e2, if_neg e3, if_neg e4]⟩
            have g1 : (bt r 0 == 110) = false := beq_eq_false_iff_ne.mpr e1
            have g2 : (bt r 0 == 116) = false := beq_eq_false_iff_ne.mpr e2
            have g3 : (bt r 0 == 114) = false := beq_eq_false_iff_ne.mpr e3
            have g4 : (bt r 0 == 101) = false := beq_eq_false_iff_ne.mpr e4
            clear e1 e2 e3 e4
            go_wp2_with (at_builtin; refine Kd.R_append (Kd.int .u8) (w0 := w0) w0.heap.size rfl (.tmp 85) (.tmp 87) 38 5 (.int .u8 0) 1 rfl Try.underlying38 info5 rfl (by decide) (by omega) vw word (bt r 0) [.int .u8 (bt r 0)] (fun _ => True) (fun _ => False) rfl rfl rfl (fun _ hk => hk.elim) (fun _ _ => trivial) HW.out HB.out hsz (by omega) ?_; intro v1 w1 ho hb hgr hat; obtain ⟨A1, k1, hv1⟩ := Kd.R_slice ho; subst hv1; obtain ⟨f1', f2', c0', c1', c2', HB1⟩ := facts3 Hb HW hgr; have HO := Aside0.mk ho; have HB2 := Aside0.mk hb; have HGR := Aside0.mk hgr; clear ho hb hgr hat)
            go_ret
            refine ⟨rfl, ?_⟩
            simp only [EscP, HOK.out, HVV.out, HF.out, Bool.false_eq_true, if_false]
            rw [HE.out]
            exact word_ms (p + 1) HW HS HC HG HB1 HO HB2 HGR (by simp)

set_option maxHeartbeats 4000000 in
set_option maxRecDepth 100000 in
theorem escaped_short (w0 w : World) (g : Nat) (s : ByteArray) (p : Nat) (word : List Int) (words : List ByteArray) (cmds : List (List ByteArray)) (tot : Int)
    (h : MS w0 g s p word words cmds tot w) (hp : p < s.size) (hp3 : s.size < p + 3) (hs : s.size ≤ 1000000) (hl : word.length ≤ 1000000)
    (r : ByteArray) (hr : s.extract p s.size = r) :
    Calls Try.prog 34 #[.pointer (some ⟨g, 0, none⟩)] w fun e w' => e = .returned (.bool true) ∧ MS w0 g s (p + 1) (word ++ [esc1 (bt r 0)]) words cmds tot w' := by
  have HM := Aside0.mk h
  obtain ⟨c0, c1, f1, hglt⟩ := h.cells
  clear h
  have hd : decide ((s.size : Int) ≤ (p : Int)) = false := decide_eq_false (by omega)
  have HD := Aside0.mk hd
  clear hd
  have hr3 : r.size < 3 := by rw [← hr]; simp; omega
  have hr1 : 0 < r.size := by rw [← hr]; simp; omega
  have HR := Aside0.mk hr
  clear hr
  have q1 : decide ((p : Int) ≤ (s.size : Int)) = true := decide_eq_true (by omega)
  go_enter Try.func34, Try.ntmps34
  go_wp2_with (first | (go_at_call 26; refine (done w0 _ g s p word words cmds tot HM.out).mono ?_; rintro e w' ⟨rfl, ⟨nd, rfl⟩⟩; rw [HD.out]) | fail)
  go_quiet (fail)
  rw [HR.out]
  have hM3 := (HM.out.drewN nd).drewN nq
  generalize (w.drewN nd).drewN nq = W at hM3 ⊢
  obtain ⟨vw, vs, vc, hb, hg, hB, hw, hs', hc⟩ := hM3
  clear c0 c1 f1 hglt HM HD
  have c0 : W.cell? ⟨g, 0, none⟩ = some (.string s) := (blk_cell hb 0).trans rfl
  have c1 : W.cell? ⟨g, 1, none⟩ = some (.int .i64 p) := (blk_cell hb 1).trans rfl
  have c2 : W.cell? ⟨g, 2, none⟩ = some vw := (blk_cell hb 2).trans rfl
  have hglt : g < W.heap.size := blk_lt hb
  have HW := Aside0.mk hw
  have HS := Aside0.mk hs'
  have HC := Aside0.mk hc
  have HB := Aside0.mk hB
  have HG := Aside0.mk hg
  have Hb := Aside0.mk hb
  clear hw hs' hc hB hg hb
  have hsz : w0.heap.size ≤ W.heap.size := HB.out.size
  have hsz3 : decide ((3 : Int) ≤ (r.size : Int)) = false := decide_eq_false (by omega)
  have hsz3b : decide (3 ≤ r.size) = false := decide_eq_false (by omega)
  have h00 : (0 : Int) < (r.size : Int) := by omega
  have hat0 : (((r[0]'hr1).toNat : Nat) : Int) = bt r 0 := bt_at r 0 hr1
  have hbr := bt_range r 0
  have b0 := hbr.1
  have b1 := hbr.2
  clear hbr
  have hcs : bt r 0 = 110 ∨ bt r 0 = 116 ∨ bt r 0 = 114 ∨ bt r 0 = 101 ∨ (bt r 0 ≠ 110 ∧ bt r 0 ≠ 116 ∧ bt r 0 ≠ 114 ∧ bt r 0 ≠ 101) := by omega
  rcases hcs with e | e | e | e | ⟨e1, e2, e3, e4⟩
  · have HE : Aside0 (esc1 (bt r 0) = 10) := ⟨by rw [e]; rfl⟩
    go_wp2_with (at_builtin; refine Kd.R_append (Kd.int .u8) (w0 := w0) w0.heap.size rfl (.tmp 85) (.tmp 87) 38 5 (.int .u8 0) 1 rfl Try.underlying38 info5 rfl (by decide) (by omega) vw word (10) [.int .u8 (10)] (fun _ => True) (fun _ => False) rfl rfl rfl (fun _ hk => hk.elim) (fun _ _ => trivial) HW.out HB.out hsz (by omega) ?_; intro v1 w1 ho hb hgr hat; obtain ⟨A1, k1, hv1⟩ := Kd.R_slice ho; subst hv1; obtain ⟨f1', f2', c0', c1', c2', HB1⟩ := facts3 Hb HW hgr; have HO := Aside0.mk ho; have HB2 := Aside0.mk hb; have HGR := Aside0.mk hgr; clear ho hb hgr hat)
    go_ret
    refine ⟨rfl, ?_⟩
    rw [HE.out]
    exact word_ms (p + 1) HW HS HC HG HB1 HO HB2 HGR (by simp)
  · have HE : Aside0 (esc1 (bt r 0) = 9) := ⟨by rw [e]; rfl⟩
    go_wp2_with (at_builtin; refine Kd.R_append (Kd.int .u8) (w0 := w0) w0.heap.size rfl (.tmp 85) (.tmp 87) 38 5 (.int .u8 0) 1 rfl Try.underlying38 info5 rfl (by decide) (by omega) vw word (9) [.int .u8 (9)] (fun _ => True) (fun _ => False) rfl rfl rfl (fun _ hk => hk.elim) (fun _ _ => trivial) HW.out HB.out hsz (by omega) ?_; intro v1 w1 ho hb hgr hat; obtain ⟨A1, k1, hv1⟩ := Kd.R_slice ho; subst hv1; obtain ⟨f1', f2', c0', c1', c2', HB1⟩ := facts3 Hb HW hgr; have HO := Aside0.mk ho; have HB2 := Aside0.mk hb; have HGR := Aside0.mk hgr; clear ho hb hgr hat)
    go_ret
    refine ⟨rfl, ?_⟩
    rw [HE.out]
    exact word_ms (p + 1) HW HS HC HG HB1 HO HB2 HGR (by simp)
  · have HE : Aside0 (esc1 (bt r 0) = 13) := ⟨by rw [e]; rfl⟩
    go_wp2_with (at_builtin; refine Kd.R_append (Kd.int .u8) (w0 := w0) w0.heap.size rfl (.tmp 85) (.tmp 87) 38 5 (.int .u8 0) 1 rfl Try.underlying38 info5 rfl (by decide) (by omega) vw word (13) [.int .u8 (13)] (fun _ => True) (fun _ => False) rfl rfl rfl (fun _ hk => hk.elim) (fun _ _ => trivial) HW.out HB.out hsz (by omega) ?_; intro v1 w1 ho hb hgr hat; obtain ⟨A1, k1, hv1⟩ := Kd.R_slice ho; subst hv1; obtain ⟨f1', f2', c0', c1', c2', HB1⟩ := facts3 Hb HW hgr; have HO := Aside0.mk ho; have HB2 := Aside0.mk hb; have HGR := Aside0.mk hgr; clear ho hb hgr hat)
    go_ret
    refine ⟨rfl, ?_⟩
    rw [HE.out]
    exact word_ms (p + 1) HW HS HC HG HB1 HO HB2 HGR (by simp)
  · have HE : Aside0 (esc1 (bt r 0) = 27) := ⟨by rw [e]; rfl⟩
    go_wp2_with (at_builtin; refine Kd.R_append (Kd.int .u8) (w0 := w0) w0.heap.size rfl (.tmp 85) (.tmp 87) 38 5 (.int .u8 0) 1 rfl Try.underlying38 info5 rfl (by decide) (by omega) vw word (27) [.int .u8 (27)] (fun _ => True) (fun _ => False) rfl rfl rfl (fun _ hk => hk.elim) (fun _ _ => trivial) HW.out HB.out hsz (by omega) ?_; intro v1 w1 ho hb hgr hat; obtain ⟨A1, k1, hv1⟩ := Kd.R_slice ho; subst hv1; obtain ⟨f1', f2', c0', c1', c2', HB1⟩ := facts3 Hb HW hgr; have HO := Aside0.mk ho; have HB2 := Aside0.mk hb; have HGR := Aside0.mk hgr; clear ho hb hgr hat)
    go_ret
    refine ⟨rfl, ?_⟩
    rw [HE.out]
    exact word_ms (p + 1) HW HS HC HG HB1 HO HB2 HGR (by simp)
  · have HE : Aside0 (esc1 (bt r 0) = bt r 0) := ⟨by unfold esc1; rw [if_neg e1, if_neg e2, if_neg e3, if_neg e4]⟩
    have g1 : (bt r 0 == 110) = false := beq_eq_false_iff_ne.mpr e1
    have g2 : (bt r 0 == 116) = false := beq_eq_false_iff_ne.mpr e2
    have g3 : (bt r 0 == 114) = false := beq_eq_false_iff_ne.mpr e3
    have g4 : (bt r 0 == 101) = false := beq_eq_false_iff_ne.mpr e4
    clear e1 e2 e3 e4
    go_wp2_with (at_builtin; refine Kd.R_append (Kd.int .u8) (w0 := w0) w0.heap.size rfl (.tmp 85) (.tmp 87) 38 5 (.int .u8 0) 1 rfl Try.underlying38 info5 rfl (by decide) (by omega) vw word (bt r 0) [.int .u8 (bt r 0)] (fun _ => True) (fun _ => False) rfl rfl rfl (fun _ hk => hk.elim) (fun _ _ => trivial) HW.out HB.out hsz (by omega) ?_; intro v1 w1 ho hb hgr hat; obtain ⟨A1, k1, hv1⟩ := Kd.R_slice ho; subst hv1; obtain ⟨f1', f2', c0', c1', c2', HB1⟩ := facts3 Hb HW hgr; have HO := Aside0.mk ho; have HB2 := Aside0.mk hb; have HGR := Aside0.mk hgr; clear ho hb hgr hat)
    go_ret
    refine ⟨rfl, ?_⟩
    rw [HE.out]
    exact word_ms (p + 1) HW HS HC HG HB1 HO HB2 HGR (by simp)


/-- Behind the backslash stands something: what the machine is then. -/
theorem escaped_some (w0 w : World) (g : Nat) (s : ByteArray) (p : Nat) (word : List Int) (words : List ByteArray) (cmds : List (List ByteArray)) (tot : Int)
    (h : MS w0 g s p word words cmds tot w) (hp : p < s.size) (hs : s.size ≤ 1000000) (hl : word.length ≤ 1000000)
    (r : ByteArray) (hr : s.extract p s.size = r) :
    Calls Try.prog 34 #[.pointer (some ⟨g, 0, none⟩)] w fun e w' => e = .returned (.bool true) ∧ EscP w0 g s p r word words cmds tot (decide (3 ≤ r.size) && (okD r 3 && decide (valD r 3 ≤ 255))) w' := by
  have hrs : r.size = s.size - p := by rw [← hr]; simp
  by_cases h3 : p + 3 ≤ s.size
  · rw [decide_eq_true (by omega), Bool.true_and]
    exact escaped3 w0 w g s p word words cmds tot h h3 hs hl r hr
  · rw [decide_eq_false (by omega), Bool.false_and]
    exact escaped_short w0 w g s p word words cmds tot h hp (by omega) hs hl r hr
end Go.Proofs.Ytfpbgchlemcpbaa.Mach
