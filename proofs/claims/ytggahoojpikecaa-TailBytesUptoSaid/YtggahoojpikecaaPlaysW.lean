/- The walk of TailPlays, and what the laws' loops hold. No condition but lengths below a bound. -/
import Derived.Test.YtggahoojpikecaaOpen
namespace Go.Proofs.Ytggahoojpikecaa.TailLog
open Go.RowKit Go.Proofs.YtggahoojpikecaaW.PrintWords Go.Proofs.YtggahoojpikecaaW.PrintLast Go.Proofs.YtggahoojpikecaaW.PrintMore
set_option linter.unusedVariables false
set_option linter.unusedSimpArgs false

/-- A law holds a Log at g and the reference's in its own variable at gr. -/
structure LS (w0 : World) (g gr : Nat) (lim st : Int) (d : ByteArray) (W : World) : Prop where
  t : TL W g lim st d
  good : Good lim st d
  r : W.heap[gr]? = some (.cells #[.int .i64 lim, .int .i64 st, .string d] 43 (0, 0))
  b : Below w0.heap.size w0 W
  hg : w0.heap.size ≤ g
  hr : w0.heap.size ≤ gr
theorem LS.ne {w0 : World} {g gr : Nat} {lim st : Int} {d : ByteArray} {W : World} (h : LS w0 g gr lim st d W) : g ≠ gr := h.t.ne h.r (by decide)
theorem LS.drewN {w0 : World} {g gr : Nat} {lim st : Int} {d : ByteArray} {W : World} (h : LS w0 g gr lim st d W) (n : Nat) : LS w0 g gr lim st d (W.drewN n) := ⟨h.t, h.good, h.r, pw_below_drewN h.b n, h.hg, h.hr⟩
theorem LS.drew {w0 : World} {g gr : Nat} {lim st : Int} {d : ByteArray} {W : World} (h : LS w0 g gr lim st d W) : LS w0 g gr lim st d W.drew := ⟨h.t, h.good, h.r, below_drew h.b, h.hg, h.hr⟩
theorem LS.below {w0 : World} {g gr : Nat} {lim st : Int} {d : ByteArray} {W W' : World} (h : LS w0 g gr lim st d W) (hB : Below W.heap.size W W') : LS w0 g gr lim st d W' :=
  ⟨h.t.below hB, h.good, (hB.block _ (blk_lt h.r)).trans h.r, below_new h.b hB, h.hg, h.hr⟩
theorem LS.cells {w0 : World} {g gr : Nat} {lim st : Int} {d : ByteArray} {W : World} (h : LS w0 g gr lim st d W) :
    W.cell? ⟨gr, 0, none⟩ = some (.int .i64 lim) ∧ W.cell? ⟨gr, 1, none⟩ = some (.int .i64 st) ∧ W.cell? ⟨gr, 2, none⟩ = some (.string d) ∧ W.frozen? ⟨gr, 0, none⟩ = false ∧ W.frozen? ⟨gr, 1, none⟩ = false ∧ W.frozen? ⟨gr, 2, none⟩ = false :=
  ⟨(blk_cell h.r 0).trans rfl, (blk_cell h.r 1).trans rfl, (blk_cell h.r 2).trans rfl, blk_frozen h.r 0, blk_frozen h.r 1, blk_frozen h.r 2⟩
theorem LS.old {w0 : World} {g gr : Nat} {lim st : Int} {d : ByteArray} {W : World} (h : LS w0 g gr lim st d W) {a : Addr} {v : Value} (hc : w0.cell? a = some v) : W.cell? a = some v := (h.b.cell (World.block_lt_of_cell? w0 _ hc)).trans hc
/-- Behind a step: the Log has gone on, the law's variable has not yet. -/
theorem LS.stepped {w0 : World} {g gr : Nat} {lim st st' : Int} {d d' : ByteArray} {W W' : World} (h : LS w0 g gr lim st d W) (hK : KeepBut W W' g none) (hB : Below g W W') :
    W'.heap[gr]? = some (.cells #[.int .i64 lim, .int .i64 st, .string d] 43 (0, 0)) ∧ Below w0.heap.size w0 W' :=
  ⟨hK.blk h.r h.ne.symm (by simp), below_more h.b h.hg hB⟩
/-- The law's variable is written anew. -/
theorem LS.store {w0 : World} {g gr : Nat} {lim st st' : Int} {d d' : ByteArray} {W : World} (hT : TL W g lim st' d') (hG : Good lim st' d') (hr : W.heap[gr]? = some (.cells #[.int .i64 lim, .int .i64 st, .string d] 43 (0, 0))) (hB : Below w0.heap.size w0 W) (hg : w0.heap.size ≤ g) (hgr : w0.heap.size ≤ gr) :
    LS w0 g gr lim st' d' (((W.setCell ⟨gr, 0, none⟩ (.int .i64 lim)).setCell ⟨gr, 1, none⟩ (.int .i64 st')).setCell ⟨gr, 2, none⟩ (.string d')) := by
  obtain ⟨h1, h2, h3⟩ := put3_facts hr hB hgr (.int .i64 lim) (.int .i64 st') (.string d')
  exact ⟨hT.keep' h2 (hT.ne hr (by decide)) hr (by decide), hG, h1, h3, hg, hgr⟩
/-- The law's variable is made. -/
theorem LS.made {w0 W1 : World} {g : Nat} {lim st : Int} {d : ByteArray} (hT : TL W1 g lim st d) (hG : Good lim st d) (hB : Below w0.heap.size w0 W1) (hg : w0.heap.size ≤ g) :
    LS w0 g W1.heap.size lim st d (W1.alloc (.cells #[.int .i64 lim, .int .i64 st, .string d] 43)) := by
  have hA := below_alloc (Below.refl W1.heap.size W1) (.cells #[.int .i64 lim, .int .i64 st, .string d] 43)
  exact ⟨hT.below hA, hG, heap_alloc_new W1 _, below_new hB hA, hg, hB.size⟩

/-- As the walk spells the cells of an element. -/
theorem spelt {w : World} {a : Addr} {v : Value} (n : Nat) (hn : n ≠ 0) (h : w.cell? (a.add n) = some v) : w.cell? ⟨a.block, a.off + n, none⟩ = some v := by
  have e : a.add n = ⟨a.block, a.off + n, none⟩ := by
    unfold Addr.add
    rw [if_neg hn]
  rw [← e]
  exact h

set_option maxHeartbeats 4000000 in
set_option maxRecDepth 100000 in
theorem plays (w : World) (fresh : Bool) (lim0 st0 : Int) (d0 : ByteArray) (hd : d0.size ≤ 140737488351232) (hst : st0 ≤ 9223372036854775807)
    (A : Option Addr) (c : Nat) (ops : List (Int × ByteArray × Int × Int)) (hc : ops.length ≤ c) (hO : OpsAt w A ops) (hm : ops.length ≤ 9223372036854775807) (hb : ∀ k x a b, (k, x, a, b) ∈ ops → x.size ≤ 140737488351232 ∧ a ≤ 9223372036854775807) :
    Calls Try.prog 6 #[.agg #[.bool fresh, .int .i64 lim0, .int .i64 st0, .string d0], .slice A ops.length c] w fun e w' => e = .returned (.bool true) ∧ Below w.heap.size w w' := by
  have hu43 := Try.underlying43
  have hu41 := Try.underlying41
  have hu29 := Try.underlying29
  have HO := Aside0.mk hO
  have HO2 := Aside0.mk hb
  clear hO hb
  go_enter Try.func6, Try.ntmps6
  go_upto_region 2 with (go_at_call 19; refine (made _ fresh lim0 st0 d0 hd hst).mono ?_; rintro e W1 ⟨p, lim, st, d, rfl, hB, hp⟩; have HB := Aside0.mk (below_new (below_alloc (Below.refl _ _) _) hB); have HP := Aside0.mk hp; clear hB hp)
  rcases HP.out with hp | ⟨g, hp, hg, hT, hG⟩
  · subst hp
    have hA := below_new HB.out (below_alloc (Below.refl W1.heap.size W1) (.cells #[.int .i64 lim, .int .i64 st, .string d] 43))
    generalize W1.alloc (.cells #[.int .i64 lim, .int .i64 st, .string d] 43) = W2 at hA ⊢
    have HA := Aside0.mk hA
    clear hA HP
    go_wp2
    go_loopg [7, 8] 0 (fun kq v7 v8 wr => v7 = .bool true ∧ v8 = .int .i64 0 ∧ Aside0 (Below w.heap.size w wr))
    case atStart => exact ⟨rfl, rfl, HA⟩
    case round =>
      obtain ⟨rfl, rfl, HB⟩ := hrel
      go_wp2
      go_ret
      exact ⟨rfl, HB.out⟩
  · subst hp
    have hL := LS.made hT hG HB.out (by have := (below_alloc (Below.refl w.heap.size w) (.cells #[.bool fresh, .int .i64 lim0, .int .i64 st0, .string d0] 41)).size; omega)
    generalize hgr : W1.heap.size = gr at hL ⊢
    clear hgr
    generalize W1.alloc (.cells #[.int .i64 lim, .int .i64 st, .string d] 43) = W2 at hL ⊢
    have HL := Aside0.mk hL
    clear hL hT hG hg HP HB
    go_wp2
    go_loopg [7, 8] ops.length (fun kq v7 v8 wr => ∃ (i : Nat) (st : Int) (d : ByteArray), v7 = .bool true ∧ v8 = .int .i64 (i : Int) ∧ Aside0 (kq = ops.length - i ∧ i ≤ ops.length) ∧ Aside0 (LS w g gr lim st d wr))
    case atStart => exact ⟨0, st, d, rfl, rfl, ⟨rfl, Nat.zero_le _⟩, HL⟩
    case round =>
      obtain ⟨i, st, d, rfl, rfl, HI, HL⟩ := hrel
      obtain ⟨hk, hi⟩ := HI.out
      by_cases h1 : i < ops.length
      · have g1 : decide ((i : Int) < (ops.length : Int)) = true := decide_eq_true (by omega)
        have g1n : decide (i < ops.length) = true := decide_eq_true h1
        obtain ⟨ad, hA, hcell⟩ := HO.out (by omega)
        subst hA
        obtain ⟨k, x, a, b, ho⟩ : ∃ k x a b, ops[i]? = some (k, x, a, b) := ⟨_, _, _, _, List.getElem?_eq_getElem h1⟩
        obtain ⟨hx, ha⟩ := HO2.out k x a b (List.mem_of_getElem? ho)
        obtain ⟨q0, q1, q2, q3⟩ := hcell i k x a b ho
        replace q0 := HL.out.old q0
        replace q1 := HL.out.old q1
        replace q2 := HL.out.old q2
        replace q3 := HL.out.old q3
        rw [← add_add] at q1 q2 q3
        replace q1 := spelt 1 (by decide) q1
        replace q2 := spelt 2 (by decide) q2
        replace q3 := spelt 3 (by decide) q3
        obtain ⟨r0, r1, r2, f0, f1, f2⟩ := HL.out.cells
        have i0 : (0 : Int) ≤ (i : Int) := by omega
        have i1 : (i : Int) < (ops.length : Int) := by omega
        clear hcell ho
        go_upto_region 5 with (fail)
        go_region_with (go_at_call 21; refine (step _ g lim st d (by first | exact HL.out.t | exact HL.out.t.drewN _) HL.out.good k a b x hx ha).mono ?_; rintro e W3 ⟨rfl, hK3, hB3, hT3⟩; obtain ⟨hr3, hb3⟩ := (by first | exact LS.stepped (st' := 0) (d' := d) HL.out hK3 hB3 | exact LS.stepped (st' := 0) (d' := d) (HL.out.drewN _) hK3 hB3 | exact LS.stepped (st' := 0) (d' := d) HL.out.drew hK3 hB3 : W3.heap[gr]? = some (.cells #[.int .i64 lim, .int .i64 st, .string d] 43 (0, 0)) ∧ Below w.heap.size w W3); have r0 : W3.cell? ⟨gr, 0, none⟩ = some (.int .i64 lim) := (blk_cell hr3 0).trans rfl; have r1 : W3.cell? ⟨gr, 1, none⟩ = some (.int .i64 st) := (blk_cell hr3 1).trans rfl; have r2 : W3.cell? ⟨gr, 2, none⟩ = some (.string d) := (blk_cell hr3 2).trans rfl; have f0 := blk_frozen hr3 0; have f1 := blk_frozen hr3 1; have f2 := blk_frozen hr3 2; have HT3 := Aside0.mk hT3; have HR3 := Aside0.mk hr3; have HB3 := Aside0.mk hb3; clear hT3 hr3 hb3 hK3 hB3)
        all_goals (
          have hL4 := LS.store HT3.out (stepF_good HL.out.good k x hx) HR3.out HB3.out HL.out.hg HL.out.hr
          generalize (stepF lim st d k x).1 = st4 at hL4 ⊢
          generalize (stepF lim st d k x).2 = d4 at hL4 ⊢
          generalize World.setCell _ _ _ = W4 at hL4 ⊢
          obtain ⟨s0, s1, s2, _, _, _⟩ := hL4.cells
          have HL4 := Aside0.mk hL4
          clear hL4 HT3 HR3 HB3 r0 r1 r2 f0 f1 f2 q0 q1 q2 q3
          go_wp2_with (go_at_call 20; refine (as_ _ g lim st4 d4 (by first | exact HL4.out.t | exact HL4.out.t.drewN _) HL4.out.good).mono ?_; rintro e W5 ⟨rfl, hB5⟩; have HL5 := Aside0.mk (HL4.out.below hB5); clear hB5)
          go_roundg (ops.length - (i + 1))
          case measure => omega
          case rel => exact ⟨i + 1, st4, d4, rfl, by first | rfl | (congr 1; omega), ⟨rfl, by omega⟩, HL5⟩)
      · have g1 : decide ((i : Int) < (ops.length : Int)) = false := decide_eq_false (by omega)
        have g1n : decide (i < ops.length) = false := decide_eq_false h1
        go_wp2
        go_ret
        exact ⟨rfl, HL.out.b⟩
end Go.Proofs.Ytggahoojpikecaa.TailLog
