/- The lexer's machine: what stands behind a backslash in double quotes. No condition but lengths below a bound. -/
import Derived.Test.YtfpbgchlemcpbaaMach
namespace Go.Proofs.Ytfpbgchlemcpbaa.Mach
open Go.RowKit Go.Proofs.YtfpbgchlemcpbaaW.PrintWords Go.Proofs.YtfpbgchlemcpbaaW.PrintLast Go.Proofs.YtfpbgchlemcpbaaW.PrintMore
set_option linter.unusedVariables false
set_option linter.unusedSimpArgs false

theorem MS.drewN {w0 w : World} {g : Nat} {s : ByteArray} {p : Int} {word : List Int} {words : List ByteArray} {cmds : List (List ByteArray)} {tot : Int} (h : MS w0 g s p word words cmds tot w) (n : Nat) : MS w0 g s p word words cmds tot (w.drewN n) := by
  obtain ⟨vw, vs, vc, hb, hg, hB, hw, hs, hc⟩ := h
  exact ⟨vw, vs, vc, hb, hg, pw_below_drewN hB n, Kd.R_drewN hw n, Kd.R_drewN hs n, Kd.S_drewN hc n⟩
theorem MS.below {w0 w : World} {g : Nat} {s : ByteArray} {p : Int} {word : List Int} {words : List ByteArray} {cmds : List (List ByteArray)} {tot : Int} (h : MS w0 g s p word words cmds tot w) : Below w0.heap.size w0 w := by
  obtain ⟨vw, vs, vc, hb, hg, hB, hw, hs, hc⟩ := h
  exact hB
/-- The place is moved on. -/
theorem MS.move {w0 w : World} {g : Nat} {s : ByteArray} {p : Int} {word : List Int} {words : List ByteArray} {cmds : List (List ByteArray)} {tot : Int} (h : MS w0 g s p word words cmds tot w) (q : Int) : MS w0 g s q word words cmds tot (w.setCell ⟨g, 1, none⟩ (.int .i64 q)) := by
  obtain ⟨vw, vs, vc, hb, hg, hB, hw, hs, hc⟩ := h
  refine ⟨vw, vs, vc, by simpa using blk_set hb 1 (.int .i64 q), hg, below_set hB hg, Kd.R_set hw hb (by decide) _ _, Kd.R_set hs hb (by decide) _ _, Kd.S_set hc hb (by decide) _ _⟩
/-- What the walk reads of the machine. -/
theorem MS.cells {w0 w : World} {g : Nat} {s : ByteArray} {p : Int} {word : List Int} {words : List ByteArray} {cmds : List (List ByteArray)} {tot : Int} (h : MS w0 g s p word words cmds tot w) :
    w.cell? ⟨g, 0, none⟩ = some (.string s) ∧ w.cell? ⟨g, 1, none⟩ = some (.int .i64 p) ∧ w.frozen? ⟨g, 1, none⟩ = false ∧ g < w.heap.size := by
  obtain ⟨vw, vs, vc, hb, _⟩ := h
  exact ⟨(blk_cell hb 0).trans rfl, (blk_cell hb 1).trans rfl, blk_frozen hb 1, blk_lt hb⟩

/-- done: is the line at its end? -/
theorem done (w0 w : World) (g : Nat) (s : ByteArray) (p : Int) (word : List Int) (words : List ByteArray) (cmds : List (List ByteArray)) (tot : Int)
    (h : MS w0 g s p word words cmds tot w) :
    Calls Try.prog 26 #[.pointer (some ⟨g, 0, none⟩)] w fun e w' => e = .returned (.bool (decide ((s.size : Int) ≤ p))) ∧ Drawn0 w w' := by
  obtain ⟨c0, c1, f1, hglt⟩ := h.cells
  clear h
  go_enter Try.func26, Try.ntmps26
  go_wp2
  repeat (go_quiet (fail); try go_wp2)
  go_ret
  exact ⟨by first | rfl | (simp; done) | (simp [*]; done), by repeat (first | exact Drawn0.refl _ | apply Drawn0.step)⟩

/-- The machine's own cells behind an append to the word. -/
theorem facts3 {w w1 : World} {g : Nat} {s : ByteArray} {p tot : Int} {vw vs vc v : Value} {B e : Nat} {α : Type} {d : Kd α} {xs : List α} {ok : Nat → Prop}
    (Hb : Aside0 (w.heap[g]? = some (.cells #[.string s, .int .i64 p, vw, vs, vc, .int .i64 tot] 42 (0, 0)))) (HS : Aside0 (d.R e w B ok v xs)) (hg : w.grownBy w1 v.ownBlock) (he : e ≠ 42 := by decide) :
    w1.frozen? ⟨g, 1, none⟩ = false ∧ w1.frozen? ⟨g, 2, none⟩ = false ∧ w1.cell? ⟨g, 0, none⟩ = some (.string s) ∧ w1.cell? ⟨g, 1, none⟩ = some (.int .i64 p) ∧ w1.cell? ⟨g, 2, none⟩ = some vw ∧
    Aside0 (w1.heap[g]? = some (.cells #[.string s, .int .i64 p, vw, vs, vc, .int .i64 tot] 42 (0, 0))) := by
  have hne : some g ≠ v.ownBlock := Kd.R_ne HS.out Hb.out he
  have hb1 : w1.heap[g]? = some (.cells #[.string s, .int .i64 p, vw, vs, vc, .int .i64 tot] 42 (0, 0)) := (hg.block g (blk_lt Hb.out) hne).trans Hb.out
  exact ⟨blk_frozen hb1 1, blk_frozen hb1 2, (blk_cell hb1 0).trans rfl, (blk_cell hb1 1).trans rfl, (blk_cell hb1 2).trans rfl, ⟨hb1⟩⟩

/-- A byte more in the word. -/
theorem word_ms {w0 w w1 : World} {g : Nat} {s : ByteArray} {p tot : Int} {vw vs vc : Value} {word : List Int} {words : List ByteArray} {cmds : List (List ByteArray)} {ys : List Int} {A1 : Option Addr} {k1 : Nat} {N : Nat} (q : Int)
    (HW : Aside0 (Kd.R (Kd.int .u8) 5 w w0.heap.size (fun _ => True) vw word)) (HS : Aside0 (Kd.R Kd.string 9 w w0.heap.size (fun _ => True) vs words))
    (HC : Aside0 (Kd.S (Kd.slice 9 Kd.string) 30 w w0.heap.size (fun k => some k ≠ vs.ownBlock) vc cmds)) (HG : Aside0 (w0.heap.size ≤ g))
    (HB1 : Aside0 (w1.heap[g]? = some (.cells #[.string s, .int .i64 p, vw, vs, vc, .int .i64 tot] 42 (0, 0))))
    (HO : Aside0 (Kd.R (Kd.int .u8) 5 w1 w0.heap.size (fun _ => True) (.slice A1 (word ++ ys).length k1) (word ++ ys))) (HB2 : Aside0 (Below w0.heap.size w0 w1)) (HGR : Aside0 (w.grownBy w1 vw.ownBlock)) (hN : N = (word ++ ys).length) :
    MS w0 g s q (word ++ ys) words cmds tot ((w1.setCell ⟨g, 2, none⟩ (.slice A1 N k1)).setCell ⟨g, 1, none⟩ (.int .i64 q)) := by
  subst hN
  have b1 := blk_set HB1.out 2 (.slice A1 (word ++ ys).length k1)
  have b2 := blk_set b1 1 (.int .i64 q)
  have hw1 : ∀ q ∈ 5 :: (Kd.int .u8).E, q ≠ 42 := by decide
  have hs1 : ∀ q ∈ 9 :: Kd.string.E, q ≠ 42 := by decide
  have hc1 : ∀ q ∈ 30 :: (Kd.slice 9 Kd.string).E, q ≠ 42 := by decide
  have hty := Kd.R_typed HW.out
  have hS1 := Kd.R_over' HS.out hty (by decide) HGR.out
  have hC1 := Kd.S_over' HC.out hty (by decide) HGR.out
  refine ⟨.slice A1 (word ++ ys).length k1, vs, vc, ?_, HG.out, ?_, ?_, ?_, ?_⟩
  · simpa using b2
  · exact below_set (below_set HB2.out HG.out) HG.out
  · exact Kd.R_set (Kd.R_set HO.out HB1.out hw1 _ _) b1 hw1 _ _
  · exact Kd.R_set (Kd.R_set hS1 HB1.out hs1 _ _) b1 hs1 _ _
  · exact Kd.S_set (Kd.S_set hC1 HB1.out hc1 _ _) b1 hc1 _ _

/-- three octal digits: are they, up to place k? their value -/
def okD (r : ByteArray) : Nat → Bool
  | 0 => true
  | k + 1 => okD r k && (decide (48 ≤ bt r k) && decide (bt r k ≤ 55))
def valD (r : ByteArray) : Nat → Int
  | 0 => 0
  | k + 1 => 8 * valD r k + bt r k - 48
theorem valD_bd (r : ByteArray) : ∀ k, k ≤ 3 → -100000 ≤ valD r k ∧ valD r k ≤ 100000 ∧ (k = 0 → valD r k = 0) ∧ (k = 1 → -48 ≤ valD r k ∧ valD r k ≤ 207) ∧ (k = 2 → -500 ≤ valD r k ∧ valD r k ≤ 2000) := by
  intro k hk
  have h0 := bt_range r 0
  have h1 := bt_range r 1
  have h2 := bt_range r 2
  match k, hk with
  | 0, _ => simp [valD]
  | 1, _ => simp [valD]; omega
  | 2, _ => simp [valD]; omega
  | 3, _ => simp [valD]; omega

set_option maxHeartbeats 4000000 in
set_option maxRecDepth 100000 in
theorem escaped_none (w0 w : World) (g : Nat) (s : ByteArray) (p : Int) (word : List Int) (words : List ByteArray) (cmds : List (List ByteArray)) (tot : Int)
    (h : MS w0 g s p word words cmds tot w) (hp : (s.size : Int) ≤ p) :
    Calls Try.prog 34 #[.pointer (some ⟨g, 0, none⟩)] w fun e w' => e = .returned (.bool false) ∧ Below w0.heap.size w0 w' := by
  have HM := Aside0.mk h
  clear h
  have hd : decide ((s.size : Int) ≤ p) = true := decide_eq_true hp
  have HD := Aside0.mk hd
  clear hd
  go_enter Try.func34, Try.ntmps34
  go_wp2_with (go_at_call 26; refine (done w0 _ g s p word words cmds tot HM.out).mono ?_; rintro e w' ⟨rfl, ⟨nd, rfl⟩⟩; rw [HD.out])
  go_ret
  exact ⟨rfl, (HM.out.drewN nd).below⟩
end Go.Proofs.Ytfpbgchlemcpbaa.Mach
