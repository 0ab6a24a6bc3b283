/- Lists of lists of words held against one another; what Commands answers is short; the probe of Commands. Condition: lists below a million. -/
import Derived.Test.YtfpbgchlemcpbaaPLx1
namespace Go.Proofs.Ytfpbgchlemcpbaa.LexLaws
open Go.RowKit Go.Proofs.Ytfpbgchlemcpbaa.PL Go.Proofs.Ytfpbgchlemcpbaa.Mach Go.Proofs.YtfpbgchlemcpbaaW.PrintWords Go.Proofs.YtfpbgchlemcpbaaW.PrintLast

theorem wrap1 (q : Nat) (h : q < 4611686018427387904) : wrap64 ((q : Int) + 1) = ((q + 1 : Nat) : Int) := by unfold wrap64; omega
theorem bytes_eq {a b : ByteArray} : a.toList = b.toList ↔ a = b := by
  rw [ByteArray.toList_eq, ByteArray.toList_eq]
  exact ⟨fun h => WideShapes.bytes_inj h, fun h => by rw [h]⟩
theorem rd_at (a : List (List ByteArray)) (i : Nat) (h : i < a.length) : rd_L1 a i = a[i] := by
  simp [rd_L1, List.getD_eq_getElem?_getD, List.getElem?_eq_getElem h]
theorem rdOf_at (a : List ByteArray) (i : Nat) (h : i < a.length) : rdOf ByteArray.empty a i = a[i] := by
  simp [rdOf, List.getD_eq_getElem?_getD, List.getElem?_eq_getElem h]

section
variable (a b : List (List ByteArray)) (hl : a.length = b.length) (ha : a.length ≤ 1000000) (hi : ∀ r ∈ a, r.length ≤ 1000000)
include hl ha hi
theorem same_l1 (i : Nat) (h : i < a.length) (h2 : (a[i]).length = (b[i]'(hl ▸ h)).length) (r : Bool) (hr : Ev (fun k => mullionlaw09_same.l0 k a b ((i + 1 : Nat) : Int)) r) :
    ∀ (d j : Nat), (a[i]).length - j = d → j ≤ (a[i]).length → Ev (fun k => mullionlaw09_same.l1 k a b i j) (decide ((a[i]).drop j = (b[i]'(hl ▸ h)).drop j) && r) := by
  have hA : rd_L1 a i = a[i] := rd_at a i h
  have hB : rd_L1 b i = b[i]'(hl ▸ h) := rd_at b i (hl ▸ h)
  have hin := hi _ (List.getElem_mem h)
  intro d
  induction d with
  | zero =>
    intro j hd hj
    rw [List.drop_of_length_le (by omega), List.drop_of_length_le (by omega)]
    simp only [decide_true, Bool.true_and]
    refine Ev.step (fun k => ?_) hr
    simp only [mullionlaw09_same.l1]
    rw [hA, if_pos (by omega), if_pos (by omega), if_neg (by omega), wrap1 i (by omega)]
  | succ d ih =>
    intro j hd hj
    have hja : j < (a[i]).length := by omega
    have hjb : j < (b[i]'(hl ▸ h)).length := by omega
    rw [List.drop_eq_getElem_cons hja, List.drop_eq_getElem_cons hjb]
    by_cases e : (a[i])[j] = (b[i]'(hl ▸ h))[j]
    · have e1 : decide ((a[i])[j] :: (a[i]).drop (j + 1) = (b[i]'(hl ▸ h))[j] :: (b[i]'(hl ▸ h)).drop (j + 1)) = decide ((a[i]).drop (j + 1) = (b[i]'(hl ▸ h)).drop (j + 1)) := by
        rw [decide_eq_decide]; constructor
        · intro h; exact (List.cons.inj h).2
        · intro h; rw [e, h]
      rw [e1]
      refine Ev.step (fun k => ?_) (ih (j + 1) (by omega) (by omega))
      simp only [mullionlaw09_same.l1]
      rw [hA, hB, if_pos (by omega), if_pos (by omega), if_pos (by omega), if_pos (by omega), if_pos (by omega), if_pos (by omega), rdOf_at _ j hja, rdOf_at _ j hjb, if_pos (bytes_eq.2 e), wrap1 j (by omega)]
    · have e1 : decide ((a[i])[j] :: (a[i]).drop (j + 1) = (b[i]'(hl ▸ h))[j] :: (b[i]'(hl ▸ h)).drop (j + 1)) = false := by
        rw [decide_eq_false_iff_not]; intro h; exact e (List.cons.inj h).1
      rw [e1, Bool.false_and]
      refine Ev.step (f := fun k => some false) (fun k => ?_) (Ev.now _)
      simp only [mullionlaw09_same.l1]
      rw [hA, hB, if_pos (by omega), if_pos (by omega), if_pos (by omega), if_pos (by omega), if_pos (by omega), if_pos (by omega), rdOf_at _ j hja, rdOf_at _ j hjb, if_neg (fun h => e (bytes_eq.1 h))]
theorem same_l0 : ∀ (d i : Nat), a.length - i = d → i ≤ a.length → Ev (fun k => mullionlaw09_same.l0 k a b i) (decide (a.drop i = b.drop i)) := by
  intro d
  induction d with
  | zero =>
    intro i hd hle
    rw [List.drop_of_length_le (by omega), List.drop_of_length_le (by omega)]
    refine Ev.step (f := fun k => some true) (fun k => ?_) (by simpa using Ev.now true)
    simp only [mullionlaw09_same.l0]
    rw [if_neg (by omega)]
  | succ d ih =>
    intro i hd hle
    have h : i < a.length := by omega
    have hb : i < b.length := by omega
    rw [List.drop_eq_getElem_cons h, List.drop_eq_getElem_cons hb]
    have hA : rd_L1 a i = a[i] := rd_at a i h
    have hB : rd_L1 b i = b[i] := rd_at b i hb
    by_cases h2 : (a[i]).length = (b[i]).length
    · have := same_l1 a b hl ha hi i h h2 _ (ih (i + 1) (by omega) (by omega)) _ 0 rfl (by omega)
      have e1 : decide (a[i] :: a.drop (i + 1) = b[i] :: b.drop (i + 1)) = (decide ((a[i]).drop 0 = (b[i]).drop 0) && decide (a.drop (i + 1) = b.drop (i + 1))) := by
        rw [Bool.eq_iff_iff, Bool.and_eq_true, decide_eq_true_eq, decide_eq_true_eq, decide_eq_true_eq, List.drop_zero, List.drop_zero, List.cons.injEq]
      rw [e1]
      refine Ev.step (fun k => ?_) this
      simp only [mullionlaw09_same.l0]
      rw [hA, hB, if_pos (by omega), if_pos (by omega), if_pos (by omega), if_pos (by omega)]
      rfl
    · have e1 : decide (a[i] :: a.drop (i + 1) = b[i] :: b.drop (i + 1)) = false := by
        rw [decide_eq_false_iff_not]; intro h; exact h2 (by rw [(List.cons.inj h).1])
      rw [e1]
      refine Ev.step (f := fun k => some false) (fun k => ?_) (Ev.now _)
      simp only [mullionlaw09_same.l0]
      rw [hA, hB, if_pos (by omega), if_pos (by omega), if_pos (by omega), if_neg (by omega)]
end
theorem same_f (a b : List (List ByteArray)) (ha : a.length ≤ 1000000) (hi : ∀ r ∈ a, r.length ≤ 1000000) : Ev (fun k => mullionlaw09_same.f k a b) (decide (a = b)) := by
  unfold mullionlaw09_same.f
  by_cases hl : a.length = b.length
  · refine Ev.congr (fun k => if_pos (by omega)) ?_
    have := same_l0 a b hl ha hi _ 0 rfl (by omega)
    simpa using this
  · rw [decide_eq_false (fun h => hl (by rw [h]))]
    exact Ev.congr (fun k => if_neg (by omega)) (Ev.now _)

/-- how many words -/
def sumLen (l : List (List ByteArray)) : Nat := (l.map List.length).sum
theorem sumLen_append (a b : List (List ByteArray)) : sumLen (a ++ b) = sumLen a + sumLen b := by simp [sumLen]
theorem sumLen_endC (ws : List ByteArray) (cs : List (List ByteArray)) : sumLen (endC ws cs) = sumLen cs + ws.length := by
  unfold endC
  split
  · rename_i h; simp [h]
  · rw [sumLen_append]; simp [sumLen]
theorem mem_sumLen {l : List (List ByteArray)} {r : List ByteArray} (h : r ∈ l) : r.length ≤ sumLen l := by
  induction l with
  | nil => cases h
  | cons a l ih =>
    simp only [sumLen, List.map_cons, List.sum_cons]
    cases List.mem_cons.1 h with
    | inl e => subst e; omega
    | inr e => have := ih e; simp only [sumLen] at this; omega
def Counted (n : Int) : Res → Prop
  | .fail _ => True
  | .ok cmds tot => (sumLen cmds : Int) = tot ∧ (∀ r ∈ cmds, r ≠ []) ∧ n ≤ tot
theorem noNil_endC {ws : List ByteArray} {cs : List (List ByteArray)} (h : ∀ r ∈ cs, r ≠ []) : ∀ r ∈ endC ws cs, r ≠ [] := by
  unfold endC
  split
  · exact h
  · rename_i hn
    intro r hr
    rcases List.mem_append.1 hr with hr | hr
    · exact h r hr
    · rw [List.mem_singleton.1 hr]; exact hn
theorem counted (L : List Int) (ws : List ByteArray) (cs : List (List ByteArray)) (tot : Int) (h : (sumLen cs : Int) + ws.length = tot) (hn : ∀ r ∈ cs, r ≠ []) : Counted tot (Mach.ahead L ws cs tot) := by
  have mono : ∀ {m n : Int} {R : Res}, m ≤ n → Counted n R → Counted m R := by
    intro m n R hmn h
    cases R with
    | fail _ => trivial
    | ok cmds t => exact ⟨h.1, h.2.1, by have := h.2.2; omega⟩
  refine (read_ind (fun _ ws cs tot R => (sumLen cs : Int) + ws.length = tot → (∀ r ∈ cs, r ≠ []) → Counted tot R) (fun _ _ ws cs tot R => (sumLen cs : Int) + ws.length = tot → (∀ r ∈ cs, r ≠ []) → Counted tot R) ?_ ?_ ?_ ?_ ?_ ?_ ?_ ?_ ?_ ?_ ?_ ?_ ?_ ?_ ?_).1 L ws cs tot h hn
  · intro ws cs tot h hn; exact ⟨by rw [sumLen_endC]; omega, noNil_endC hn, by omega⟩
  · intro c t ws cs tot R _ ih h hn; exact ih h hn
  · intro t ws cs tot R ih h hn; exact ih (by rw [sumLen_endC]; simp; omega) (noNil_endC hn)
  · intro t ws cs tot _ h hn; exact ⟨by rw [sumLen_endC]; omega, noNil_endC hn, by omega⟩
  · intro c t ws cs tot R _ _ _ ih h hn; exact ih h hn
  · intro w ws cs tot h hn; exact ⟨by rw [sumLen_endC]; simp; omega, noNil_endC hn, by omega⟩
  · intro c t w ws cs tot R _ ih h hn; exact mono (by omega) (ih (by simp; omega) hn)
  · intro t w ws cs tot R ih h hn; exact mono (by omega) (ih (by rw [sumLen_endC]; simp; omega) (noNil_endC hn))
  · intros; trivial
  · intro t w ws cs tot acc rest R _ ih h hn; exact ih h hn
  · intros; trivial
  · intro t w ws cs tot acc rest R _ ih h hn; exact ih h hn
  · intros; trivial
  · intro c2 t w ws cs tot R ih h hn; exact ih h hn
  · intro c t w ws cs tot R _ _ _ _ _ ih h hn; exact ih h hn

/-- What Commands answers is short, and no list in it is empty. -/
theorem commandsF_short (s : ByteArray) : (commandsF s).1.length ≤ 16 ∧ (∀ r ∈ (commandsF s).1, r ≠ []) ∧ sumLen (commandsF s).1 ≤ 64 := by
  unfold commandsF
  split
  · simp [sumLen]
  · have hc := counted (bytesOf s) [] [] 0 (by simp [sumLen]) (by simp)
    cases hR : Mach.ahead (bytesOf s) [] [] 0 with
    | fail n => simp [commandsOf, sumLen]
    | ok cmds tot =>
      rw [hR] at hc
      simp only [commandsOf]
      split
      · simp [sumLen]
      · rename_i hn
        exact ⟨show cmds.length ≤ 16 by omega, hc.2.1, show sumLen cmds ≤ 64 by have := hc.1; omega⟩
theorem commandsF_rows (s : ByteArray) : ∀ r ∈ (commandsF s).1, r.length ≤ 64 := fun _ hr => Nat.le_trans (mem_sumLen hr) (commandsF_short s).2.2
theorem same_commands (s : ByteArray) (b : List (List ByteArray)) : Ev (fun k => mullionlaw09_same.f k (commandsF s).1 b) (decide ((commandsF s).1 = b)) :=
  same_f _ _ (by have := (commandsF_short s).1; omega) (fun r hr => by have := commandsF_rows s r hr; omega)

theorem sure_f : Ev (fun k => mullionlaw09_sure.f k) true := by
  have e : commandsF (⟨#[97, 32, 39, 98, 32, 99, 39, 59, 100]⟩ : ByteArray) = ([[⟨#[97]⟩, ⟨#[98, 32, 99]⟩], [⟨#[100]⟩]], 0, 0) := by
    have hb : bytesOf (⟨#[97, 32, 39, 98, 32, 99, 39, 59, 100]⟩ : ByteArray) = [97, 32, 39, 98, 32, 99, 39, 59, 100] := rfl
    unfold commandsF
    rw [if_neg (by decide), hb]
    rw [ahead_word rfl (by decide) (by decide), within_other rfl (by decide) (by decide) (by decide) (by decide), within_blank rfl, ahead_blank rfl, ahead_word rfl (by decide) (by decide),
      within_sgl rfl (acc := [98, 32, 99]) (rest := [59, 100]) rfl, within_semi rfl, ahead_semi rfl, ahead_word rfl (by decide) (by decide), within_other rfl (by decide) (by decide) (by decide) (by decide), within_nil]
    rfl
  unfold mullionlaw09_sure.f lex_Commands.f
  refine Ev.bind (Ev.now _) ?_
  rw [e]
  refine Ev.bind (a := true) ?_ ?_
  · have := same_commands (⟨#[97, 32, 39, 98, 32, 99, 39, 59, 100]⟩ : ByteArray) [[⟨#[97]⟩, ⟨#[98, 32, 99]⟩], [⟨#[100]⟩]]
    rw [e] at this
    simpa using this
  · exact Ev.congr (fun k => by simp) (Ev.now _)

theorem LexReads_f (s : ByteArray) : ∃ k, mullionlaw09_LexReads.f k s = some true := by
  refine Ev.rounds ?_
  unfold mullionlaw09_LexReads.f lex_Commands.f mullionref09_Commands.f
  simp only [Option.bind_some]
  refine Ev.bind (a := true) (by simpa using same_commands s (commandsF s).1) ?_
  simp only [if_true]
  exact Ev.bind sure_f (Ev.now _)
end Go.Proofs.Ytfpbgchlemcpbaa.LexLaws
