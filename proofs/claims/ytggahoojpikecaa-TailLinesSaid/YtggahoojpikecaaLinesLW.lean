/- The walk of TailLines. No condition but lengths below a bound. -/
import Derived.Test.YtggahoojpikecaaOpen2
namespace Go.Proofs.Ytggahoojpikecaa.TailLog
open Go.RowKit Go.Proofs.YtggahoojpikecaaW.PrintWords Go.Proofs.YtggahoojpikecaaW.PrintLast Go.Proofs.YtggahoojpikecaaW.PrintMore
set_option linter.unusedVariables false
set_option linter.unusedSimpArgs false

set_option maxHeartbeats 4000000 in
set_option maxRecDepth 100000 in
theorem linesL (w : World) (fresh : Bool) (lim0 st0 : Int) (d0 : ByteArray) (hd : d0.size ≤ 140737488351232) (hst : st0 ≤ 9223372036854775807)
    (A : Option Addr) (c : Nat) (ops : List ByteArray) (hc : ops.length ≤ c) (hO : StrsAt w A ops) (hm : ops.length ≤ 9223372036854775807) (hb : ∀ x ∈ ops, x.size ≤ 140737488351232) (n : Int) (hn : n ≤ 9223372036854775807) :
    Calls Try.prog 8 #[.agg #[.bool fresh, .int .i64 lim0, .int .i64 st0, .string d0], .slice A ops.length c, .int .i64 n] w fun e w' => e = .returned (.bool true) ∧ Below w.heap.size w w' := by
  have hu43 := Try.underlying43
  have hu41 := Try.underlying41
  have hu29 := Try.underlying29
  have HO := Aside0.mk hO
  have HO2 := Aside0.mk hb
  clear hO hb
  go_enter Try.func8, Try.ntmps8
  go_upto_region 2 with (go_at_call 19; refine (made _ fresh lim0 st0 d0 hd hst).mono ?_; rintro e W1 ⟨p, lim, st, d, rfl, hB, hp⟩; have HB := Aside0.mk (below_new (below_alloc (Below.refl _ _) _) hB); have HP := Aside0.mk hp; clear hB hp)
  rcases HP.out with hp | ⟨g, hp, hg, hT, hG⟩
  · subst hp
    have hA := below_new HB.out (below_alloc (Below.refl W1.heap.size W1) (.cells #[.int .i64 lim, .int .i64 st, .string d] 43))
    generalize W1.alloc (.cells #[.int .i64 lim, .int .i64 st, .string d] 43) = W2 at hA ⊢
    have HA := Aside0.mk hA
    clear hA HP
    go_wp2
    go_loopg [9, 10] 0 (fun kq vo vi wr => vo = .bool true ∧ vi = .int .i64 0 ∧ Aside0 (Below w.heap.size w wr))
    case atStart => exact ⟨rfl, rfl, HA⟩
    case round =>
      obtain ⟨rfl, rfl, HB⟩ := hrel
      go_wp2
      go_ret
      exact ⟨rfl, HB.out⟩
  · subst hp
    have hL := LS.made hT hG HB.out (by have := (below_alloc (Below.refl w.heap.size w) (.cells #[.bool fresh, .int .i64 lim0, .int .i64 st0, .string d0] 41)).size; omega)
    generalize hgr : W1.heap.size = gr at hL ⊢
    clear hgr
    generalize W1.alloc (.cells #[.int .i64 lim, .int .i64 st, .string d] 43) = W2 at hL ⊢
    have HL := Aside0.mk hL
    clear hL hT hG hg HP HB
    go_wp2
    go_loopg [9, 10] ops.length (fun kq vo vi wr => ∃ (i : Nat) (st : Int) (d : ByteArray), vo = .bool true ∧ vi = .int .i64 (i : Int) ∧ Aside0 (kq = ops.length - i ∧ i ≤ ops.length) ∧ Aside0 (LS w g gr lim st d wr) )
    case atStart => exact ⟨0, st, d, rfl, rfl, ⟨rfl, Nat.zero_le _⟩, HL⟩
    case round =>
      obtain ⟨i, st, d, rfl, rfl, HI, HL⟩ := hrel
      obtain ⟨hk, hi⟩ := HI.out
      by_cases h1 : i < ops.length
      · have g1 : decide ((i : Int) < (ops.length : Int)) = true := decide_eq_true (by omega)
        have g1n : decide (i < ops.length) = true := decide_eq_true h1
        obtain ⟨ad, hA, hcell⟩ := HO.out (by omega)
        subst hA
        obtain ⟨x, ho⟩ : ∃ x, ops[i]? = some x := ⟨_, List.getElem?_eq_getElem h1⟩
        have hx := HO2.out x (List.mem_of_getElem? ho)
        have q0 := HL.out.old (hcell i x ho)
        obtain ⟨r0, r1, r2, f0, f1, f2⟩ := HL.out.cells
        have i0 : (0 : Int) ≤ (i : Int) := by omega
        have i1 : (i : Int) < (ops.length : Int) := by omega
        clear hcell ho
        go_upto_region 5 with (fail)
        go_region_with (go_at_call 21; refine (step _ g lim st d (by first | exact HL.out.t | exact HL.out.t.drewN _) HL.out.good 0 0 0 x hx (by decide)).mono ?_; rintro e W3 ⟨rfl, hK3, hB3, hT3⟩; obtain ⟨hr3, hb3⟩ := (by first | exact LS.stepped (st' := 0) (d' := d) HL.out hK3 hB3 | exact LS.stepped (st' := 0) (d' := d) (HL.out.drewN _) hK3 hB3 | exact LS.stepped (st' := 0) (d' := d) HL.out.drew hK3 hB3 : W3.heap[gr]? = some (.cells #[.int .i64 lim, .int .i64 st, .string d] 43 (0, 0)) ∧ Below w.heap.size w W3); have r0 : W3.cell? ⟨gr, 0, none⟩ = some (.int .i64 lim) := (blk_cell hr3 0).trans rfl; have r1 : W3.cell? ⟨gr, 1, none⟩ = some (.int .i64 st) := (blk_cell hr3 1).trans rfl; have r2 : W3.cell? ⟨gr, 2, none⟩ = some (.string d) := (blk_cell hr3 2).trans rfl; have f0 := blk_frozen hr3 0; have f1 := blk_frozen hr3 1; have f2 := blk_frozen hr3 2; have HT3 := Aside0.mk hT3; have HR3 := Aside0.mk hr3; have HB3 := Aside0.mk hb3; clear hT3 hr3 hb3 hK3 hB3)
        all_goals (
          have hL4 := LS.store HT3.out (stepF_good HL.out.good 0 x hx) HR3.out HB3.out HL.out.hg HL.out.hr
          generalize (stepF lim st d 0 x).1 = st4 at hL4 ⊢
          generalize (stepF lim st d 0 x).2 = d4 at hL4 ⊢
          generalize World.setCell _ _ _ = W4 at hL4 ⊢
          have HL4 := Aside0.mk hL4
          clear hL4 HT3 HR3 HB3 r0 r1 r2 f0 f1 f2 q0
          go_wp2
          go_roundg (ops.length - (i + 1))
          case measure => omega
          case rel => exact ⟨i + 1, st4, d4, rfl, by first | rfl | (congr 1; omega), ⟨rfl, by omega⟩, HL4⟩)
      · have g1 : decide ((i : Int) < (ops.length : Int)) = false := decide_eq_false (by omega)
        have g1n : decide (i < ops.length) = false := decide_eq_false h1
        obtain ⟨r0, r1, r2, _, _, _⟩ := HL.out.cells
        go_upto_region 8 with (fail)
        go_region_held3 (fun w' => w'.cell? ⟨gr, 0, none⟩ = some (.int .i64 lim) ∧ w'.cell? ⟨gr, 1, none⟩ = some (.int .i64 st) ∧ w'.cell? ⟨gr, 2, none⟩ = some (.string d))
          (first | exact ⟨r0, r1, r2⟩ | exact ⟨p0, p1, p2⟩ | exact ⟨q0, q1, q2⟩ | exact ⟨s0, s1, s2⟩ | go_keep) (first
          | (go_at_call 22; refine (lines _ g lim st d (by first | exact HL.out.t | exact HL.out.t.drewN _) (by have := HL.out.good.dl; have := HL.out.good.l1; omega) n hn).mono ?_; rintro e W5 ⟨rfl, hB5⟩; have hL5 := (by first | exact LS.below HL.out hB5 | exact LS.below HL.out.drew hB5 | exact LS.below (HL.out.drewN _) hB5 : LS w g gr lim st d W5); obtain ⟨p0, p1, p2, _, _, _⟩ := hL5.cells; have HL5 := Aside0.mk hL5; clear hB5 hL5)
          | (go_at_call 23; refine (PR.mullionref06_Lines.calls 70000 lim st d n _ _ (ref_lines lim st d (by have := HL.out.good.dl; have := HL.out.good.l1; omega) n hn)).mono ?_; rintro e W6 ⟨rfl, hB6⟩; have hL6 := (by first | exact LS.below HL5.out hB6 | exact LS.below HL5.out.drew hB6 | exact LS.below (HL5.out.drewN _) hB6 : LS w g gr lim st d W6); obtain ⟨q0, q1, q2, _, _, _⟩ := hL6.cells; have HL6 := Aside0.mk hL6; clear hB6 hL6)
          | (go_at_call 20; refine (as_ _ g lim st d (by first | exact HL6.out.t | exact HL6.out.t.drewN _) HL6.out.good).mono ?_; rintro e W7 ⟨rfl, hB7⟩; have hL7 := (by first | exact LS.below HL6.out hB7 | exact LS.below HL6.out.drew hB7 | exact LS.below (HL6.out.drewN _) hB7 : LS w g gr lim st d W7); obtain ⟨s0, s1, s2, _, _, _⟩ := hL7.cells; have HL7 := Aside0.mk hL7; clear hB7 hL7))
        go_wp2
        go_ret
        exact ⟨rfl, HL7.out.b⟩
end Go.Proofs.Ytggahoojpikecaa.TailLog
