/- The law LexTwo, plain: two lines put together are the first one's commands, then the second one's. Condition: each line has at most 2^47 - 4096 bytes. -/
import Derived.Test.YtfpbgchlemcpbaaPLx4
import Derived.Test.YtfpbgchlemcpbaaSame
import Derived.Test.YtfpbgchlemcpbaaCmdF
import Derived.Test.YtfpbgchlemcpbaaReads
namespace Go.Proofs.Ytfpbgchlemcpbaa.LexLaws
open Go.RowKit Go.Proofs.Ytfpbgchlemcpbaa.PL Go.Proofs.Ytfpbgchlemcpbaa.Mach Go.Proofs.YtfpbgchlemcpbaaW.PrintWords Go.Proofs.YtfpbgchlemcpbaaW.PrintLast
theorem two_app (a b : ByteArray) : bytesOf (a ++ b) = bytesOf a ++ bytesOf b := by
  unfold bytesOf
  rw [show (a ++ b).data = a.data ++ b.data from ByteArray.data_append, Array.toList_append, List.map_append]
theorem commandsF_inv {s : ByteArray} (h : (commandsF s).2.2 = 0) : ∃ cmds tot, Mach.ahead (bytesOf s) [] [] 0 = .ok cmds tot ∧ commandsF s = (cmds, 0, 0) ∧ (sumLen cmds : Int) = tot := by
  by_cases hs : s.size ≤ 8192
  · have hc := counted (bytesOf s) [] [] 0 (by simp [sumLen]) (by simp)
    cases hR : Mach.ahead (bytesOf s) [] [] 0 with
    | fail n => rw [commandsF_fail hs hR] at h; exact absurd h (show ¬ (90 : Int) = 0 by decide)
    | ok cmds tot =>
      rw [hR] at hc
      have e := commandsF_ok hs hR
      by_cases hb : cmds.length > 16 ∨ tot > 64
      · rw [if_pos hb] at e; rw [e] at h; exact absurd h (by decide)
      · rw [if_neg hb] at e; exact ⟨cmds, tot, rfl, e, hc.1⟩
  · rw [commandsF_long hs] at h; exact absurd h (by decide)
theorem two_commands (a b : ByteArray) (h1 : (commandsF (a ++ (⟨#[32, 101, 110, 100]⟩ : ByteArray))).2.2 = 0) (h2 : (commandsF b).2.2 = 0)
    (hw : sumLen ((commandsF (a ++ (⟨#[32, 101, 110, 100]⟩ : ByteArray))).1 ++ (commandsF b).1) ≤ 64) (hc : ((commandsF (a ++ (⟨#[32, 101, 110, 100]⟩ : ByteArray))).1 ++ (commandsF b).1).length ≤ 16)
    (hsz : a.size + b.size ≤ 8000) (hne : (commandsF (a ++ (⟨#[32, 101, 110, 100]⟩ : ByteArray))).1 ≠ (commandsF (a ++ (⟨#[32, 101, 110, 100, 50]⟩ : ByteArray))).1) :
    commandsF ((a ++ (⟨#[32, 101, 110, 100, 59]⟩ : ByteArray)) ++ b) = ((commandsF (a ++ (⟨#[32, 101, 110, 100]⟩ : ByteArray))).1 ++ (commandsF b).1, 0, 0) := by
  obtain ⟨l, t1, hl, el, n1⟩ := commandsF_inv h1
  obtain ⟨m, t2, hm, em, n2⟩ := commandsF_inv h2
  rw [el] at hw hc hne ⊢
  rw [em] at hw hc ⊢
  simp only at hw hc hne ⊢
  have z1 : (⟨#[32, 101, 110, 100, 50]⟩ : ByteArray).size = 5 := rfl
  have z2 : (⟨#[32, 101, 110, 100, 59]⟩ : ByteArray).size = 5 := rfl
  obtain ⟨st, hst, hM⟩ := read_append.1 _ _ _ _ _ _ hl
  have b2 : bytesOf (a ++ (⟨#[32, 101, 110, 100, 50]⟩ : ByteArray)) = bytesOf (a ++ (⟨#[32, 101, 110, 100]⟩ : ByteArray)) ++ [50] := by
    rw [two_app, two_app, List.append_assoc]; rfl
  have b3 : bytesOf ((a ++ (⟨#[32, 101, 110, 100, 59]⟩ : ByteArray)) ++ b) = bytesOf (a ++ (⟨#[32, 101, 110, 100]⟩ : ByteArray)) ++ (59 :: bytesOf b) := by
    rw [two_app, two_app, two_app, List.append_assoc, List.append_assoc]; rfl
  have key : st.cont (59 :: bytesOf b) = Mach.ahead (bytesOf b) [] l t1 := by
    cases st with
    | ahead ws cs tot =>
      simp only [St.cont] at hst ⊢
      rw [ahead_nil] at hst
      injection hst with e1 e2
      rw [ahead_semi rfl, e1, e2]
    | within word ws cs tot =>
      simp only [St.cont] at hst ⊢
      rw [within_nil] at hst
      injection hst with e1 e2
      rw [within_semi rfl, ahead_semi rfl, e1, e2]
    | remark ws cs tot =>
      have h := hM [50] (by decide)
      rw [← b2] at h
      have h' := h.trans (show St.cont (.remark ws cs tot) [50] = St.cont (.remark ws cs tot) [] from rfl)
      rw [hst] at h'
      have e2 := commandsF_ok (s := a ++ (⟨#[32, 101, 110, 100, 50]⟩ : ByteArray)) (by rw [ByteArray.size_append, z1]; omega) h'
      have e1 := el
      rw [commandsF_ok (by rw [ByteArray.size_append]; have : (⟨#[32, 101, 110, 100]⟩ : ByteArray).size = 4 := rfl; omega) hl] at e1
      rw [e1] at e2
      rw [e2] at hne
      exact absurd rfl hne
  have sh := (read_shift l t1).1 (bytesOf b) [] [] 0
  rw [List.append_nil, Int.add_zero, hm] at sh
  have hX := hM (59 :: bytesOf b) (by simp)
  rw [← b3, key, sh] at hX
  rw [commandsF_ok (by rw [ByteArray.size_append, ByteArray.size_append, z2]; omega) hX]
  rw [sumLen_append] at hw
  rw [if_neg (by omega)]
section
variable (a b : ByteArray)
theorem two_sure0 (l m : List (List ByteArray)) : Ev (fun k => mullionlaw09_LexTwo.j0 k a b l m true) true := by
  refine Ev.step (f := fun k => (mullionlaw09_sure.f k).bind fun t => some t) (fun k => ?_) (Ev.bind sure_f (Ev.now _))
  rw [mullionlaw09_LexTwo.j0, if_pos rfl]
theorem two_sure2 (l : List (List ByteArray)) : Ev (fun k => mullionlaw09_LexTwo.j2 k a b l true) true := by
  refine Ev.step (f := fun k => (mullionlaw09_sure.f k).bind fun t => some t) (fun k => ?_) (Ev.bind sure_f (Ev.now _))
  rw [mullionlaw09_LexTwo.j2, if_pos rfl]
theorem two_l0 (x11 : List ByteArray) (B : List (List ByteArray)) (hl : B.length ≤ 1000000) (hs : sumLen B ≤ 1000000) (r : Bool)
    (hr : Ev (fun k => mullionlaw09_LexTwo.l0 k a b x11 (sumLen B : Int) B (B.length : Int)) r) :
    ∀ (d i : Nat), B.length - i = d → i ≤ B.length → Ev (fun k => mullionlaw09_LexTwo.l0 k a b x11 (sumLen (B.take i) : Int) B (i : Int)) r := by
  intro d
  induction d with
  | zero =>
    intro i hd hi
    have : i = B.length := by omega
    subst this
    rw [List.take_length]
    exact hr
  | succ d ih =>
    intro i hd hi
    have h : i < B.length := by omega
    have e : sumLen (B.take (i + 1)) = sumLen (B.take i) + (B[i]).length := by
      rw [List.take_succ_eq_append_getElem h, sumLen_append]; simp [sumLen]
    have le : sumLen (B.take (i + 1)) ≤ sumLen B := by
      have := sumLen_append (B.take (i + 1)) (B.drop (i + 1))
      rw [List.take_append_drop] at this
      omega
    have w1 : wrap64 ((sumLen (B.take i) : Int) + ((rd_L1 B (i : Int)).length : Int)) = (sumLen (B.take (i + 1)) : Int) := by
      rw [rd_at B i h]; unfold wrap64; omega
    refine Ev.step (fun k => ?_) (ih (i + 1) (by omega) (by omega))
    rw [mullionlaw09_LexTwo.l0, if_pos (by omega), if_pos (by omega), w1, wrap1 i (by omega)]
theorem two_remarked (h : a.size ≤ 140737488351232) : Ev (fun k => mullionlaw09_remarked.f k a) (decide ((commandsF (a ++ (⟨#[32, 101, 110, 100]⟩ : ByteArray))).1 = (commandsF (a ++ (⟨#[32, 101, 110, 100, 50]⟩ : ByteArray))).1)) := by
  unfold mullionlaw09_remarked.f mullionref09_Commands.f
  refine ev_pos (by omega) (Ev.bind (Ev.now _) (ev_pos (by omega) (Ev.bind (Ev.now _) ?_)))
  exact Ev.bind (same_commands _ _) (Ev.now _)
theorem cmd_now (s : ByteArray) : lex_Commands.f s = some (commandsF s) := rfl
set_option maxHeartbeats 8000000 in
theorem LexTwo_f (ha : a.size ≤ 140737488351232) (hb : b.size ≤ 140737488351232) : ∃ k, mullionlaw09_LexTwo.f k a b = some true := by
  refine Ev.rounds ?_
  have rem := two_remarked a (by omega)
  have wsz : wrap64 ((a.size : Int) + (b.size : Int)) = (a.size : Int) + (b.size : Int) := by unfold wrap64; omega
  have z1 : (⟨#[32, 101, 110, 100]⟩ : ByteArray).size = 4 := rfl
  have z2 : (⟨#[32, 101, 110, 100, 59]⟩ : ByteArray).size = 5 := rfl
  have cA := cmd_now (a ++ (⟨#[32, 101, 110, 100]⟩ : ByteArray))
  have cB := cmd_now b
  have cX := cmd_now ((a ++ (⟨#[32, 101, 110, 100, 59]⟩ : ByteArray)) ++ b)
  have shA := commandsF_short (a ++ (⟨#[32, 101, 110, 100]⟩ : ByteArray))
  have shB := commandsF_short b
  unfold mullionlaw09_LexTwo.f
  refine ev_pos (by omega) (Ev.bind (a := commandsF (a ++ (⟨#[32, 101, 110, 100]⟩ : ByteArray))) (by rw [cA]; exact Ev.now _) (Ev.bind (a := commandsF b) (by rw [cB]; exact Ev.now _) ?_))
  by_cases h1 : (commandsF (a ++ (⟨#[32, 101, 110, 100]⟩ : ByteArray))).2.2 = 0
  case neg => exact ev_neg h1 (two_sure0 a b _ _)
  refine ev_pos h1 ?_
  by_cases h2 : (commandsF b).2.2 = 0
  case neg => exact ev_neg h2 (two_sure0 a b _ _)
  refine ev_pos h2 ?_
  by_cases h3 : ((commandsF (a ++ (⟨#[32, 101, 110, 100]⟩ : ByteArray))).1.length : Int) = 0
  case pos => exact ev_pos h3 (two_sure0 a b _ _)
  refine ev_neg h3 ?_
  rw [wsz]
  by_cases h4 : (a.size : Int) + (b.size : Int) > 8000
  · rw [decide_eq_true h4]; exact two_sure0 a b _ _
  rw [decide_eq_false h4]
  have two := two_commands a b h1 h2
  generalize hl : (commandsF (a ++ (⟨#[32, 101, 110, 100]⟩ : ByteArray))).1 = l at *
  generalize hm : (commandsF b).1 = m at *
  have hlen : l.length ≠ 0 := by omega
  have w1 : wrap64 ((l.length : Int) - 1) = ((l.length - 1 : Nat) : Int) := by unfold wrap64; omega
  have hlast : rd_L1 l ((l.length - 1 : Nat) : Int) = l[l.length - 1]'(by omega) := rd_at l _ (by omega)
  have hne := shA.2.1 _ (List.getElem_mem (l := l) (n := l.length - 1) (by omega))
  have hrow := Nat.le_trans (mem_sumLen (List.getElem_mem (l := l) (n := l.length - 1) (by omega))) shA.2.2
  generalize hx : l[l.length - 1]'(by omega) = x at *
  have hxl : x.length ≠ 0 := fun e => hne (List.length_eq_zero_iff.1 e)
  have w2 : wrap64 ((x.length : Int) - 1) = ((x.length - 1 : Nat) : Int) := by unfold wrap64; omega
  have sumB : sumLen (l ++ m) = sumLen l + sumLen m := sumLen_append l m
  have lenB : (l ++ m).length = l.length + m.length := List.length_append
  have n0 : ([] : List (List ByteArray)).length + l.length < 5864062014805 := by rw [List.length_nil]; omega
  refine Ev.step (f := fun k => (some (([] : List (List ByteArray)) ++ l : List (List ByteArray))).bind fun y217 => (if y217.length + m.length < 5864062014805 then (mullionlaw09_LexTwo.l0 k a b x 0 (y217 ++ m) 0) else none)) (fun k => ?_) ?_
  · rw [mullionlaw09_LexTwo.j0, if_neg Bool.false_ne_true, w1, if_pos (by omega), if_pos (by omega), if_pos n0, hlast]
  have n1 : (([] : List (List ByteArray)) ++ l).length + m.length < 5864062014805 := by rw [List.nil_append]; omega
  refine Ev.bind (a := ([] : List (List ByteArray)) ++ l) (Ev.now _) (ev_pos n1 ?_)
  rw [List.nil_append]
  refine two_l0 a b x (l ++ m) (by omega) (by omega) true ?_ _ 0 rfl (by omega)
  have fin : ∀ c : Bool, (c = false → sumLen (l ++ m) ≤ 64 ∧ (l ++ m).length ≤ 16) → Ev (fun k => mullionlaw09_LexTwo.j2 k a b (l ++ m) c) true := by
    intro c hc
    cases c with
    | true => exact two_sure2 a b _
    | false =>
      have hc := hc rfl
      refine Ev.step (f := fun k => (mullionlaw09_remarked.f k a).bind fun t226 => (if t226 = true then ((mullionlaw09_sure.f k).bind fun t227 => (some t227)) else (if a.size + 5 ≤ 9223372036854775807 then (if (a ++ (⟨#[32, 101, 110, 100, 59]⟩ : ByteArray)).size + b.size ≤ 9223372036854775807 then ((lex_Commands.f ((a ++ (⟨#[32, 101, 110, 100, 59]⟩ : ByteArray)) ++ b)).bind fun bt228 => ((mullionlaw09_same.f k bt228.1 (l ++ m)).bind fun t233 => (if t233 = true then (if bt228.2.1 = 0 then (some (bt228.2.2 == 0)) else (some false)) else (some false)))) else (none)) else (none)))) (fun k => ?_) ?_
      · rw [mullionlaw09_LexTwo.j2, if_neg (by decide)]
      refine Ev.bind rem ?_
      by_cases hr : l = (commandsF (a ++ (⟨#[32, 101, 110, 100, 50]⟩ : ByteArray))).1
      · rw [decide_eq_true hr]
        exact ev_pos rfl (Ev.bind sure_f (Ev.now _))
      · rw [decide_eq_false hr]
        refine ev_neg (by decide) (ev_pos (by omega) (ev_pos (by rw [ByteArray.size_append, z2]; omega) ?_))
        refine Ev.bind (a := commandsF ((a ++ (⟨#[32, 101, 110, 100, 59]⟩ : ByteArray)) ++ b)) (by rw [cX]; exact Ev.now _) ?_
        have same := same_commands ((a ++ (⟨#[32, 101, 110, 100, 59]⟩ : ByteArray)) ++ b) (l ++ m)
        rw [two hc.1 hc.2 (by omega) hr] at same ⊢
        refine Ev.bind same ?_
        rw [decide_eq_true rfl]
        exact ev_pos rfl (ev_pos rfl (Ev.now _))
  by_cases h5 : (rdOf ByteArray.empty x ((x.length - 1 : Nat) : Int)).toList = ([101, 110, 100] : List UInt8)
  · by_cases h6 : (sumLen (l ++ m) : Int) > 64
    · refine Ev.step (f := fun k => mullionlaw09_LexTwo.j2 k a b (l ++ m) true) (fun k => ?_) (fin true (by intro h; cases h))
      rw [mullionlaw09_LexTwo.l0, if_neg (by omega), w2, if_pos (by omega), if_pos (by omega), if_pos h5, if_pos h6]
    · refine Ev.step (f := fun k => mullionlaw09_LexTwo.j2 k a b (l ++ m) (decide (((l ++ m).length : Int) > 16))) (fun k => ?_) (fin _ (by intro h; have := of_decide_eq_false h; omega))
      rw [mullionlaw09_LexTwo.l0, if_neg (by omega), w2, if_pos (by omega), if_pos (by omega), if_pos h5, if_neg h6]
  · refine Ev.step (f := fun k => mullionlaw09_LexTwo.j2 k a b (l ++ m) true) (fun k => ?_) (fin true (by intro h; cases h))
    rw [mullionlaw09_LexTwo.l0, if_neg (by omega), w2, if_pos (by omega), if_pos (by omega), if_neg h5]
end
end Go.Proofs.Ytfpbgchlemcpbaa.LexLaws
