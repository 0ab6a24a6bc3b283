/- The walk of TailReads. No condition but lengths below a bound. -/
import Derived.Test.YtggahoojpikecaaOpen2
namespace Go.Proofs.Ytggahoojpikecaa.TailLog
open Go.RowKit Go.Proofs.YtggahoojpikecaaW.PrintWords Go.Proofs.YtggahoojpikecaaW.PrintLast Go.Proofs.YtggahoojpikecaaW.PrintMore
set_option linter.unusedVariables false
set_option linter.unusedSimpArgs false

theorem set3_far {W : World} {gr ga : Nat} (hne : ga ≠ gr) (x y z : Value) : (((W.setCell ⟨gr, 0, none⟩ x).setCell ⟨gr, 1, none⟩ y).setCell ⟨gr, 2, none⟩ z).heap[ga]? = W.heap[ga]? := by
  rw [Below.heap_setCell _ _ _ _ (by exact hne), Below.heap_setCell _ _ _ _ (by exact hne), Below.heap_setCell _ _ _ _ (by exact hne)]

set_option maxHeartbeats 4000000 in
set_option maxRecDepth 100000 in
theorem reads (w : World) (fresh : Bool) (lim0 st0 : Int) (d0 : ByteArray) (hd : d0.size ≤ 140737488351232) (hst : st0 ≤ 9223372036854775807)
    (A : Option Addr) (c : Nat) (ops : List ByteArray) (hc : ops.length ≤ c) (hO : StrsAt w A ops) (hm : ops.length ≤ 9223372036854775807) (hb : ∀ x ∈ ops, x.size ≤ 140737488351232) (qa qb : Int) (hqa : qa ≤ 9223372036854775807) :
    Calls Try.prog 7 #[.agg #[.bool fresh, .int .i64 lim0, .int .i64 st0, .string d0], .slice A ops.length c, .agg #[.int .i64 qa, .int .i64 qb]] w fun e w' => e = .returned (.bool true) ∧ Below w.heap.size w w' := by
  have hu43 := Try.underlying43
  have hu41 := Try.underlying41
  have hu29 := Try.underlying29
  have hu52 := Try.underlying52
  have HO := Aside0.mk hO
  have HO2 := Aside0.mk hb
  clear hO hb
  go_enter Try.func7, Try.ntmps7
  go_upto_region 1 with (fail)
  obtain ⟨hm0, ha0, hB0⟩ : ((w.alloc (.cells #[.bool fresh, .int .i64 lim0, .int .i64 st0, .string d0] 41)).alloc (.cells #[.int .i64 qa, .int .i64 qb] 52)).heap[w.heap.size]? = some (.cells #[.bool fresh, .int .i64 lim0, .int .i64 st0, .string d0] 41) ∧
      ((w.alloc (.cells #[.bool fresh, .int .i64 lim0, .int .i64 st0, .string d0] 41)).alloc (.cells #[.int .i64 qa, .int .i64 qb] 52)).heap[w.heap.size + 1]? = some (.cells #[.int .i64 qa, .int .i64 qb] 52) ∧
      Below w.heap.size w ((w.alloc (.cells #[.bool fresh, .int .i64 lim0, .int .i64 st0, .string d0] 41)).alloc (.cells #[.int .i64 qa, .int .i64 qb] 52)) := ⟨heap_fst _ _ _, heap_snd _ _ _, below_alloc (below_alloc (Below.refl _ _) _) _⟩
  generalize (w.alloc (.cells #[.bool fresh, .int .i64 lim0, .int .i64 st0, .string d0] 41)).alloc (.cells #[.int .i64 qa, .int .i64 qb] 52) = W0 at hm0 ha0 hB0 ⊢
  have m0 : W0.cell? ⟨w.heap.size, 0, none⟩ = some (.bool fresh) := (blk_cell hm0 0).trans rfl
  have m1 : W0.cell? ⟨w.heap.size, 1, none⟩ = some (.int .i64 lim0) := (blk_cell hm0 1).trans rfl
  have m2 : W0.cell? ⟨w.heap.size, 2, none⟩ = some (.int .i64 st0) := (blk_cell hm0 2).trans rfl
  have m3 : W0.cell? ⟨w.heap.size, 3, none⟩ = some (.string d0) := (blk_cell hm0 3).trans rfl
  have HB0 := Aside0.mk hB0
  have HA0 := Aside0.mk ha0
  clear hB0 hm0 ha0
  go_upto_region 2 with (go_at_call 19; refine (made _ fresh lim0 st0 d0 hd hst).mono ?_; rintro e W1 ⟨p, lim, st, d, rfl, hB, hp⟩; have HB := Aside0.mk (below_new HB0.out hB); have HA1 := Aside0.mk ((hB.block _ (blk_lt HA0.out)).trans HA0.out); have HP := Aside0.mk hp; clear hB hp)
  rcases HP.out with hp | ⟨g, hp, hg, hT, hG⟩
  · subst hp
    have hA := below_new HB.out (below_alloc (Below.refl W1.heap.size W1) (.cells #[.int .i64 lim, .int .i64 st, .string d] 43))
    generalize W1.alloc (.cells #[.int .i64 lim, .int .i64 st, .string d] 43) = W2 at hA ⊢
    have HA := Aside0.mk hA
    clear hA HP
    go_wp2
    go_loopg [9, 10] 0 (fun kq vo vi wr => vo = .bool true ∧ vi = .int .i64 0 ∧ Aside0 (Below w.heap.size w wr))
    case atStart => exact ⟨rfl, rfl, HA⟩
    case round =>
      obtain ⟨rfl, rfl, HB⟩ := hrel
      go_wp2
      go_ret
      exact ⟨rfl, HB.out⟩
  · subst hp
    have hL := LS.made hT hG HB.out (Nat.le_trans HB0.out.size hg)
    have hq := ((below_alloc (Below.refl W1.heap.size W1) (.cells #[.int .i64 lim, .int .i64 st, .string d] 43)).block _ (blk_lt HA1.out)).trans HA1.out
    generalize hgr : W1.heap.size = gr at hL hq ⊢
    clear hgr
    generalize W1.alloc (.cells #[.int .i64 lim, .int .i64 st, .string d] 43) = W2 at hL hq ⊢
    have HQ := Aside0.mk hq
    have HL := Aside0.mk hL
    clear hL hT hG hg HP HB hq m0 m1 m2 m3
    go_wp2
    go_loopg [9, 10] ops.length (fun kq vo vi wr => ∃ (i : Nat) (st : Int) (d : ByteArray), vo = .bool true ∧ vi = .int .i64 (i : Int) ∧ Aside0 (kq = ops.length - i ∧ i ≤ ops.length) ∧ Aside0 (LS w g gr lim st d wr) ∧ Aside0 (wr.heap[w.heap.size + 1]? = some (.cells #[.int .i64 qa, .int .i64 qb] 52 (0, 0))))
    case atStart => exact ⟨0, st, d, rfl, rfl, ⟨rfl, Nat.zero_le _⟩, HL, HQ⟩
    case round =>
      obtain ⟨i, st, d, rfl, rfl, HI, HL, HQ⟩ := hrel
      obtain ⟨hk, hi⟩ := HI.out
      by_cases h1 : i < ops.length
      · have g1 : decide ((i : Int) < (ops.length : Int)) = true := decide_eq_true (by omega)
        have g1n : decide (i < ops.length) = true := decide_eq_true h1
        obtain ⟨ad, hA, hcell⟩ := HO.out (by omega)
        subst hA
        obtain ⟨x, ho⟩ : ∃ x, ops[i]? = some x := ⟨_, List.getElem?_eq_getElem h1⟩
        have hx := HO2.out x (List.mem_of_getElem? ho)
        have q0 := HL.out.old (hcell i x ho)
        obtain ⟨r0, r1, r2, f0, f1, f2⟩ := HL.out.cells
        have i0 : (0 : Int) ≤ (i : Int) := by omega
        have i1 : (i : Int) < (ops.length : Int) := by omega
        clear hcell ho
        go_upto_region 5 with (fail)
        go_region_with (go_at_call 21; refine (step _ g lim st d (by first | exact HL.out.t | exact HL.out.t.drewN _) HL.out.good 0 0 0 x hx (by decide)).mono ?_; rintro e W3 ⟨rfl, hK3, hB3, hT3⟩; obtain ⟨hr3, hb3⟩ := (by first | exact LS.stepped (st' := 0) (d' := d) HL.out hK3 hB3 | exact LS.stepped (st' := 0) (d' := d) (HL.out.drewN _) hK3 hB3 | exact LS.stepped (st' := 0) (d' := d) HL.out.drew hK3 hB3 : W3.heap[gr]? = some (.cells #[.int .i64 lim, .int .i64 st, .string d] 43 (0, 0)) ∧ Below w.heap.size w W3); have hq3 : W3.heap[w.heap.size + 1]? = some (.cells #[.int .i64 qa, .int .i64 qb] 52 (0, 0)) := hK3.blk (by exact HQ.out) (Ne.symm (HL.out.t.ne HQ.out (by decide))) (by simp); have HQ3 := Aside0.mk hq3; clear hq3; have r0 : W3.cell? ⟨gr, 0, none⟩ = some (.int .i64 lim) := (blk_cell hr3 0).trans rfl; have r1 : W3.cell? ⟨gr, 1, none⟩ = some (.int .i64 st) := (blk_cell hr3 1).trans rfl; have r2 : W3.cell? ⟨gr, 2, none⟩ = some (.string d) := (blk_cell hr3 2).trans rfl; have f0 := blk_frozen hr3 0; have f1 := blk_frozen hr3 1; have f2 := blk_frozen hr3 2; have HT3 := Aside0.mk hT3; have HR3 := Aside0.mk hr3; have HB3 := Aside0.mk hb3; clear hT3 hr3 hb3 hK3 hB3)
        all_goals (
          have hL4 := LS.store HT3.out (stepF_good HL.out.good 0 x hx) HR3.out HB3.out HL.out.hg HL.out.hr
          have hne4 : w.heap.size + 1 ≠ gr := by rintro rfl; have := HR3.out.symm.trans HQ3.out; simp at this
          have hq4 := (set3_far (W := W3) hne4 (.int .i64 lim) (.int .i64 (stepF lim st d 0 x).1) (.string (stepF lim st d 0 x).2)).trans HQ3.out
          generalize (stepF lim st d 0 x).1 = st4 at hL4 hq4 ⊢
          generalize (stepF lim st d 0 x).2 = d4 at hL4 hq4 ⊢
          generalize World.setCell _ _ _ = W4 at hL4 hq4 ⊢
          have HQ4 := Aside0.mk hq4
          clear hq4 HQ3
          have HL4 := Aside0.mk hL4
          clear hL4 HT3 HR3 HB3 r0 r1 r2 f0 f1 f2 q0
          go_wp2
          go_roundg (ops.length - (i + 1))
          case measure => omega
          case rel => exact ⟨i + 1, st4, d4, rfl, by first | rfl | (congr 1; omega), ⟨rfl, by omega⟩, HL4, HQ4⟩)
      · have g1 : decide ((i : Int) < (ops.length : Int)) = false := decide_eq_false (by omega)
        have g1n : decide (i < ops.length) = false := decide_eq_false h1
        obtain ⟨r0, r1, r2, _, _, _⟩ := HL.out.cells
        have q0 : wr.cell? ⟨w.heap.size + 1, 0, none⟩ = some (.int .i64 qa) := (blk_cell HQ.out 0).trans rfl
        have q1 : wr.cell? ⟨w.heap.size + 1, 1, none⟩ = some (.int .i64 qb) := (blk_cell HQ.out 1).trans rfl
        go_wp2_with (first
          | (go_at_call 21; refine (step _ g lim st d (by first | exact HL.out.t | exact HL.out.t.drewN _) HL.out.good 1 qa qb ⟨#[]⟩ (by decide) hqa).mono ?_; rintro e W3 ⟨rfl, hK3, hB3, hT3⟩; have hT3' : TL W3 g lim st d := hT3; obtain ⟨hr3, hb3⟩ := (by first | exact LS.stepped (st' := 0) (d' := d) HL.out hK3 hB3 | exact LS.stepped (st' := 0) (d' := d) (HL.out.drewN _) hK3 hB3 : W3.heap[gr]? = some (.cells #[.int .i64 lim, .int .i64 st, .string d] 43 (0, 0)) ∧ Below w.heap.size w W3); have r0 : W3.cell? ⟨gr, 0, none⟩ = some (.int .i64 lim) := (blk_cell hr3 0).trans rfl; have r1 : W3.cell? ⟨gr, 1, none⟩ = some (.int .i64 st) := (blk_cell hr3 1).trans rfl; have r2 : W3.cell? ⟨gr, 2, none⟩ = some (.string d) := (blk_cell hr3 2).trans rfl; have HT3 := Aside0.mk hT3'; have HB3 := Aside0.mk hb3; clear hT3 hr3 hb3 hK3 hB3 hT3')
          | (go_at_call 20; refine (as_ _ g lim st d (by first | exact HT3.out | exact HT3.out.drewN _) HL.out.good).mono ?_; rintro e W5 ⟨rfl, hB5⟩; have HB5 := Aside0.mk (below_new HB3.out hB5); clear hB5))
        go_ret
        exact ⟨rfl, HB5.out⟩
end Go.Proofs.Ytggahoojpikecaa.TailLog
