/- The lexer's machine: what each of its methods does to the machine in memory. No condition but lengths below a bound. -/
import Derived.Test.YtfpbgchlemcpbaaPQx0
import Derived.Deep.RegionLaw
import Derived.Test.YtfpbgchlemcpbaaHandA
namespace Go.Proofs.Ytfpbgchlemcpbaa.Mach
open Go.RowKit Go.Proofs.YtfpbgchlemcpbaaW.PrintWords Go.Proofs.YtfpbgchlemcpbaaW.PrintLast Go.Proofs.YtfpbgchlemcpbaaW.PrintMore
set_option linter.unusedVariables false
set_option linter.unusedSimpArgs false
theorem info5 : (Try.prog.info? 5).map (fun i => (i.zero, i.size, i.bytes)) = some (some (.int .u8 0), 1, 1) := by kernel_rfl
theorem info9 : (Try.prog.info? 9).map (fun i => (i.zero, i.size, i.bytes)) = some (some (.string ⟨#[]⟩), 1, 16) := by kernel_rfl
theorem info30 : (Try.prog.info? 30).map (fun i => (i.zero, i.size, i.bytes)) = some (some (.slice none 0 0), 1, 24) := by kernel_rfl

/-- The machine lies at block g, made since w0. -/
def MS (w0 : World) (g : Nat) (s : ByteArray) (p : Int) (word : List Int) (words : List ByteArray) (cmds : List (List ByteArray)) (tot : Int) (w : World) : Prop :=
  ∃ vw vs vc, w.heap[g]? = some (.cells #[.string s, .int .i64 p, vw, vs, vc, .int .i64 tot] 42 (0, 0)) ∧ w0.heap.size ≤ g ∧ Below w0.heap.size w0 w ∧
    Kd.R (Kd.int .u8) 5 w w0.heap.size (fun _ => True) vw word ∧ Kd.R Kd.string 9 w w0.heap.size (fun _ => True) vs words ∧
    Kd.S (Kd.slice 9 Kd.string) 30 w w0.heap.size (fun k => some k ≠ vs.ownBlock) vc cmds

/-- The machine's own cells behind an append to another block. -/
theorem facts1 {w w1 : World} {g : Nat} {s : ByteArray} {p tot : Int} {vw vs vc v : Value} {B e : Nat} {α : Type} {d : Kd α} {xs : List α} {ok : Nat → Prop}
    (Hb : Aside0 (w.heap[g]? = some (.cells #[.string s, .int .i64 p, vw, vs, vc, .int .i64 tot] 42 (0, 0)))) (HS : Aside0 (d.R e w B ok v xs)) (hg : w.drew.grownBy w1 v.ownBlock) (he : e ≠ 42 := by decide) :
    w1.frozen? ⟨g, 2, none⟩ = false ∧ w1.frozen? ⟨g, 3, none⟩ = false ∧ w1.frozen? ⟨g, 5, none⟩ = false ∧
    w1.cell? ⟨g, 1, none⟩ = some (.int .i64 p) ∧ w1.cell? ⟨g, 2, none⟩ = some vw ∧ w1.cell? ⟨g, 3, none⟩ = some vs ∧ w1.cell? ⟨g, 5, none⟩ = some (.int .i64 tot) ∧
    Aside0 (w1.heap[g]? = some (.cells #[.string s, .int .i64 p, vw, vs, vc, .int .i64 tot] 42 (0, 0))) := by
  have hne : some g ≠ v.ownBlock := Kd.R_ne HS.out Hb.out he
  have hb1 : w1.heap[g]? = some (.cells #[.string s, .int .i64 p, vw, vs, vc, .int .i64 tot] 42 (0, 0)) := (hg.block g (blk_lt Hb.out) hne).trans Hb.out
  exact ⟨blk_frozen hb1 2, blk_frozen hb1 3, blk_frozen hb1 5, (blk_cell hb1 1).trans rfl, (blk_cell hb1 2).trans rfl, (blk_cell hb1 3).trans rfl, (blk_cell hb1 5).trans rfl, ⟨hb1⟩⟩

theorem endWord_ms {w0 w w1 : World} {g : Nat} {s : ByteArray} {p tot : Int} {vw vs vc : Value} {word : List Int} {words : List ByteArray} {cmds : List (List ByteArray)} {x : ByteArray} {A1 : Option Addr} {k1 : Nat}
    (Hb : Aside0 (w.heap[g]? = some (.cells #[.string s, .int .i64 p, vw, vs, vc, .int .i64 tot] 42 (0, 0))))
    (HW : Aside0 (Kd.R (Kd.int .u8) 5 w w0.heap.size (fun _ => True) vw word)) (HS : Aside0 (Kd.R Kd.string 9 w w0.heap.size (fun _ => True) vs words))
    (HC : Aside0 (Kd.S (Kd.slice 9 Kd.string) 30 w w0.heap.size (fun k => some k ≠ vs.ownBlock) vc cmds)) (HG : Aside0 (w0.heap.size ≤ g))
    (HB1 : Aside0 (w1.heap[g]? = some (.cells #[.string s, .int .i64 p, vw, vs, vc, .int .i64 tot] 42 (0, 0))))
    (HO : Aside0 (Kd.R Kd.string 9 w1 w0.heap.size (fun _ => True) (.slice A1 (words ++ [x]).length k1) (words ++ [x]))) (HB2 : Aside0 (Below w0.heap.size w0 w1)) (HGR : Aside0 (w.drew.grownBy w1 vs.ownBlock))
    (HAT : Aside0 ((Value.slice A1 (words ++ [x]).length k1).ownBlock = vs.ownBlock ∨ ∃ b, (Value.slice A1 (words ++ [x]).length k1).ownBlock = some b ∧ w.drew.heap.size ≤ b)) :
    MS w0 g s p [] (words ++ [x]) cmds (tot + 1) (((w1.setCell ⟨g, 3, none⟩ (.slice A1 (words.length + 1) k1)).setCell ⟨g, 2, none⟩ (.slice none 0 0)).setCell ⟨g, 5, none⟩ (.int .i64 (tot + 1))) := by
  have hlen : (words ++ [x]).length = words.length + 1 := by simp
  rw [hlen] at HO HAT
  have b1 := blk_set HB1.out 3 (.slice A1 (words.length + 1) k1)
  have b2 := blk_set b1 2 (.slice none 0 0)
  have b3 := blk_set b2 5 (.int .i64 (tot + 1))
  have hs1 : ∀ q ∈ 9 :: Kd.string.E, q ≠ 42 := by decide
  have hc1 : ∀ q ∈ 30 :: (Kd.slice 9 Kd.string).E, q ≠ 42 := by decide
  have hC1 := Kd.S_after (Kd.S_mono (Kd.S_drew HC.out) (fun k hk => ⟨trivial, hk⟩)) HGR.out HAT.out
  refine ⟨.slice none 0 0, .slice A1 (words.length + 1) k1, vc, ?_, HG.out, ?_, Kd.R_nil _ _ _ _ _, ?_, ?_⟩
  · simpa using b3
  · exact below_set (below_set (below_set HB2.out HG.out) HG.out) HG.out
  · exact Kd.R_set (Kd.R_set (Kd.R_set HO.out HB1.out hs1 _ _) b1 hs1 _ _) b2 hs1 _ _
  · exact Kd.S_mono (Kd.S_set (Kd.S_set (Kd.S_set hC1 HB1.out hc1 _ _) b1 hc1 _ _) b2 hc1 _ _) (fun _ hk => hk.2)

set_option maxHeartbeats 4000000 in
set_option maxRecDepth 100000 in
theorem endWord (w0 w : World) (g : Nat) (s : ByteArray) (p : Int) (word : List Int) (words : List ByteArray) (cmds : List (List ByteArray)) (tot : Int)
    (h : MS w0 g s p word words cmds tot w) (hl : words.length ≤ 1000000) (ht0 : 0 ≤ tot) (ht : tot ≤ 1000000) :
    Calls Try.prog 28 #[.pointer (some ⟨g, 0, none⟩)] w fun e w' => e = .returned (.tuple #[]) ∧ MS w0 g s p [] (words ++ [strOfNums word]) cmds (tot + 1) w' := by
  obtain ⟨vw, vs, vc, hb, hg, hB, hw, hs, hc⟩ := h
  have hc1 : w.cell? ⟨g, 1, none⟩ = some (.int .i64 p) := (blk_cell hb 1).trans rfl
  have hc2 : w.cell? ⟨g, 2, none⟩ = some vw := (blk_cell hb 2).trans rfl
  have hc3 : w.cell? ⟨g, 3, none⟩ = some vs := (blk_cell hb 3).trans rfl
  have hc5 : w.cell? ⟨g, 5, none⟩ = some (.int .i64 tot) := (blk_cell hb 5).trans rfl
  have hglt : g < w.heap.size := blk_lt hb
  have HW := Aside0.mk hw
  have HS := Aside0.mk hs
  have HC := Aside0.mk hc
  have HB := Aside0.mk hB
  have HG := Aside0.mk hg
  have Hb := Aside0.mk hb
  clear hw hs hc hB hg hb
  have hcv := own_string (P := Try.prog) (src := 38) (dst := 9) Try.underlying38 Try.underlying5 Try.underlying9 (Kd.own_of_R (Kd.R_drew HW.out))
  have hsz : w0.heap.size ≤ w.drew.heap.size := HB.out.size
  go_enter Try.func28, Try.ntmps28
  go_wp2
  go_region_law (refine Kd.R_append_step Kd.string (w0 := w0) w0.heap.size rfl (.tmp 6) (.tmp 12) 30 9 (.string ⟨#[]⟩) 16 rfl Try.underlying30 info9 rfl (by decide) (by omega) vs words (strOfNums word) [.string (strOfNums word)] (fun _ => True) (fun _ => False) rfl rfl rfl (fun _ hk => hk.elim) (fun _ _ => trivial) (Kd.R_drew HS.out) (below_drew HB.out) hsz (by omega) ?_; intro v1 w1 ho hb hgr hat; obtain ⟨A1, k1, hv1⟩ := Kd.R_slice ho; subst hv1; obtain ⟨f2, f3, f5, c1, c2, c3, c5, HB1⟩ := facts1 Hb HS hgr; have HO := Aside0.mk ho; have HB2 := Aside0.mk hb; have HGR := Aside0.mk hgr; have HAT := Aside0.mk hat; clear ho hb hgr hat)
  all_goals go_wp2
  all_goals go_end0
  all_goals refine ⟨rfl, ?_⟩
  all_goals exact endWord_ms Hb HW HS HC HG HB1 HO HB2 HGR HAT

/-- The machine's own cells behind an append to the commands. -/
theorem facts2 {w w1 : World} {g : Nat} {s : ByteArray} {p tot : Int} {vw vs vc v : Value} {B e : Nat} {α : Type} {d : Kd α} {xs : List α} {ok : Nat → Prop}
    (Hb : Aside0 (w.heap[g]? = some (.cells #[.string s, .int .i64 p, vw, vs, vc, .int .i64 tot] 42 (0, 0)))) (HS : Aside0 (Kd.S d e w B ok v xs)) (hg : w.drew.grownBy w1 v.ownBlock) (he : e ≠ 42 := by decide) :
    w1.frozen? ⟨g, 3, none⟩ = false ∧ w1.frozen? ⟨g, 4, none⟩ = false ∧ w1.cell? ⟨g, 3, none⟩ = some vs ∧ w1.cell? ⟨g, 4, none⟩ = some vc ∧
    Aside0 (w1.heap[g]? = some (.cells #[.string s, .int .i64 p, vw, vs, vc, .int .i64 tot] 42 (0, 0))) := by
  have hne : some g ≠ v.ownBlock := Kd.S_ne HS.out Hb.out he
  have hb1 : w1.heap[g]? = some (.cells #[.string s, .int .i64 p, vw, vs, vc, .int .i64 tot] 42 (0, 0)) := (hg.block g (blk_lt Hb.out) hne).trans Hb.out
  exact ⟨blk_frozen hb1 3, blk_frozen hb1 4, (blk_cell hb1 3).trans rfl, (blk_cell hb1 4).trans rfl, ⟨hb1⟩⟩

theorem endCommand_ms {w0 w w1 : World} {g : Nat} {s : ByteArray} {p tot : Int} {vw vs vc : Value} {word : List Int} {words : List ByteArray} {cmds : List (List ByteArray)} {A1 : Option Addr} {k1 : Nat}
    (HW : Aside0 (Kd.R (Kd.int .u8) 5 w w0.heap.size (fun _ => True) vw word))
    (HC : Aside0 (Kd.S (Kd.slice 9 Kd.string) 30 w w0.heap.size (fun k => some k ≠ vs.ownBlock) vc cmds)) (HG : Aside0 (w0.heap.size ≤ g))
    (HB1 : Aside0 (w1.heap[g]? = some (.cells #[.string s, .int .i64 p, vw, vs, vc, .int .i64 tot] 42 (0, 0))))
    (HO : Aside0 (Kd.S (Kd.slice 9 Kd.string) 30 w1 w0.heap.size (fun _ => True) (.slice A1 (cmds ++ [words]).length k1) (cmds ++ [words]))) (HB2 : Aside0 (Below w0.heap.size w0 w1)) (HGR : Aside0 (w.drew.grownBy w1 vc.ownBlock)) :
    MS w0 g s p word [] (cmds ++ [words]) tot ((w1.setCell ⟨g, 4, none⟩ (.slice A1 (cmds.length + 1) k1)).setCell ⟨g, 3, none⟩ (.slice none 0 0)) := by
  have hlen : (cmds ++ [words]).length = cmds.length + 1 := by simp
  rw [hlen] at HO
  have b1 := blk_set HB1.out 4 (.slice A1 (cmds.length + 1) k1)
  have b2 := blk_set b1 3 (.slice none 0 0)
  have hw1 : ∀ q ∈ 5 :: (Kd.int .u8).E, q ≠ 42 := by decide
  have hc1 : ∀ q ∈ 30 :: (Kd.slice 9 Kd.string).E, q ≠ 42 := by decide
  have hW1 := Kd.R_over' (Kd.R_drew HW.out) (Kd.S_typed (Kd.S_drew HC.out)) (by decide) HGR.out
  refine ⟨vw, .slice none 0 0, .slice A1 (cmds.length + 1) k1, ?_, HG.out, ?_, ?_, Kd.R_nil _ _ _ _ _, ?_⟩
  · simpa using b2
  · exact below_set (below_set HB2.out HG.out) HG.out
  · exact Kd.R_set (Kd.R_set hW1 HB1.out hw1 _ _) b1 hw1 _ _
  · exact Kd.S_mono (Kd.S_set (Kd.S_set HO.out HB1.out hc1 _ _) b1 hc1 _ _) (fun _ _ => by simp [Value.ownBlock])

set_option maxHeartbeats 4000000 in
set_option maxRecDepth 100000 in
theorem endCommand (w0 w : World) (g : Nat) (s : ByteArray) (p : Int) (word : List Int) (words : List ByteArray) (cmds : List (List ByteArray)) (tot : Int)
    (h : MS w0 g s p word words cmds tot w) (hl : cmds.length ≤ 1000000) :
    Calls Try.prog 27 #[.pointer (some ⟨g, 0, none⟩)] w fun e w' => e = .returned (.tuple #[]) ∧ MS w0 g s p word [] (if words = [] then cmds else cmds ++ [words]) tot w' := by
  have h0 := h
  obtain ⟨vw, vs, vc, hb, hg, hB, hw, hs, hc⟩ := h
  obtain ⟨As, ks, rfl⟩ := Kd.R_slice hs
  have hc3 : w.cell? ⟨g, 3, none⟩ = some (.slice As words.length ks) := (blk_cell hb 3).trans rfl
  have hc4 : w.cell? ⟨g, 4, none⟩ = some vc := (blk_cell hb 4).trans rfl
  by_cases c : words.length = 0
  · have hn : words = [] := List.length_eq_zero_iff.1 c
    subst hn
    rw [if_pos rfl]
    have HM := Aside0.mk h0
    clear h0 hw hs hc hB hg hb c
    go_enter Try.func27, Try.ntmps27
    go_wp2
    go_end0
    exact ⟨rfl, HM.out⟩
  · have hn : words ≠ [] := fun e => c (by simp [e])
    rw [if_neg hn]
    have cb0 : decide (0 < (words.length : Int)) = true := decide_eq_true (by omega)
    have cb1 : decide (0 < words.length) = true := decide_eq_true (by omega)
    have hglt : g < w.heap.size := blk_lt hb
    have HW := Aside0.mk hw
    have HS := Aside0.mk hs
    have HC := Aside0.mk hc
    have HB := Aside0.mk hB
    have HG := Aside0.mk hg
    have Hb := Aside0.mk hb
    have hsz : w0.heap.size ≤ w.drew.heap.size := HB.out.size
    have hM : (Kd.slice 9 Kd.string).M w.drew w0.heap.size (fun k => some k = (Value.slice As words.length ks).ownBlock) words [.slice As words.length ks] := ⟨_, rfl, Kd.R_tight rfl (Kd.R_drew hs)⟩
    have hOK : ∀ k, some k = (Value.slice As words.length ks).ownBlock → True ∧ some k ≠ vc.ownBlock := fun k hk => ⟨trivial, fun e => by
      obtain ⟨cs1, h1⟩ := Kd.R_typed hs k hk.symm
      obtain ⟨cs2, h2⟩ := Kd.S_typed hc k e.symm
      rw [h1] at h2
      simp at h2⟩
    have HM := Aside0.mk hM
    have HK := Aside0.mk hOK
    have hHO : Kd.S (Kd.slice 9 Kd.string) 30 w.drew w0.heap.size (fun k => True ∧ ¬ (some k = (Value.slice As words.length ks).ownBlock)) vc cmds := Kd.S_mono (Kd.S_drew hc) (fun k hk => ⟨trivial, hk⟩)
    have HO0 := Aside0.mk hHO
    clear hw hs hc hB hg hb hM hOK hHO h0
    clear c hn
    go_enter Try.func27, Try.ntmps27
    go_wp2
    go_region_law (refine Kd.S_append_step (Kd.slice 9 Kd.string) (w0 := w0) w0.heap.size rfl (.tmp 12) (.tmp 17) 25 30 (.slice none 0 0) 24 rfl Try.underlying25 info30 rfl (by decide) (by omega) vc cmds words [.slice As words.length ks] (fun _ => True) (fun k => some k = (Value.slice As words.length ks).ownBlock) rfl rfl HM.out HK.out (fun _ _ => trivial) HO0.out (below_drew HB.out) hsz (by omega) ?_; intro v1 w1 ho hb hgr hat; obtain ⟨A1, k1, hv1⟩ := Kd.S_slice ho; subst hv1; obtain ⟨f3, f4, c3, c4, HB1⟩ := facts2 Hb HC hgr; have HO := Aside0.mk ho; have HB2 := Aside0.mk hb; have HGR := Aside0.mk hgr; clear ho hb hgr hat)
    all_goals go_wp2
    all_goals go_end0
    all_goals refine ⟨rfl, ?_⟩
    all_goals exact endCommand_ms HW HC HG HB1 HO HB2 HGR
end Go.Proofs.Ytfpbgchlemcpbaa.Mach
