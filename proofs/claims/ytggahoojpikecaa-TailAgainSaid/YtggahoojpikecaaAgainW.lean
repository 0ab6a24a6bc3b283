/- The walk of TailAgain. No condition but lengths below a bound. -/
import Derived.Test.YtggahoojpikecaaApartW
namespace Go.Proofs.Ytggahoojpikecaa.TailLog
open Go.RowKit Go.Proofs.YtggahoojpikecaaW.PrintWords Go.Proofs.YtggahoojpikecaaW.PrintLast Go.Proofs.YtggahoojpikecaaW.PrintMore
set_option linter.unusedVariables false
set_option linter.unusedSimpArgs false

theorem good_load {lim st : Int} {d : ByteArray} (h : Good lim st d) : loadE lim st d = 0 := by
  obtain ⟨l0, l1, s0, dl, se⟩ := h
  unfold loadE
  rw [if_neg (by omega), if_neg (by omega)]

set_option maxHeartbeats 8000000 in
set_option maxRecDepth 100000 in
theorem again (w : World) (fresh : Bool) (lim0 st0 : Int) (d0 : ByteArray) (hd : d0.size ≤ 140737488351232) (hst : st0 ≤ 9223372036854775807)
    (A : Option Addr) (c : Nat) (ops : List (Int × ByteArray × Int × Int)) (hc : ops.length ≤ c) (hO : OpsAt w A ops) (hm : ops.length ≤ 9223372036854775807) (hb : ∀ k x a b, (k, x, a, b) ∈ ops → x.size ≤ 140737488351232 ∧ a ≤ 9223372036854775807)
    (A' : Option Addr) (c' : Nat) (ops' : List (Int × ByteArray × Int × Int)) (hc' : ops'.length ≤ c') (hO' : OpsAt w A' ops') (hm' : ops'.length ≤ 9223372036854775807) (hb' : ∀ k x a b, (k, x, a, b) ∈ ops' → x.size ≤ 140737488351232 ∧ a ≤ 9223372036854775807) :
    Calls Try.prog 9 #[.agg #[.bool fresh, .int .i64 lim0, .int .i64 st0, .string d0], .slice A ops.length c, .slice A' ops'.length c'] w fun e w' => e = .returned (.bool true) ∧ Below w.heap.size w w' := by
  have hu43 := Try.underlying43
  have hu41 := Try.underlying41
  have hu29 := Try.underlying29
  have HO := Aside0.mk hO
  have HO2 := Aside0.mk hb
  have HO' := Aside0.mk hO'
  have HO2' := Aside0.mk hb'
  clear hO hb hO' hb'
  go_enter Try.func9, Try.ntmps9
  go_upto_region 2 with (go_at_call 19; refine (made _ fresh lim0 st0 d0 hd hst).mono ?_; rintro e W1 ⟨p, lim, st, d, rfl, hB, hp⟩; have HB := Aside0.mk (below_new (below_alloc (Below.refl _ _) _) hB); have HP := Aside0.mk hp; clear hB hp)
  rcases HP.out with hp | ⟨g, hp, hg, hT, hG⟩
  · subst hp
    have hA := below_new HB.out (below_alloc (Below.refl W1.heap.size W1) (.cells #[.int .i64 lim, .int .i64 st, .string d] 43))
    generalize W1.alloc (.cells #[.int .i64 lim, .int .i64 st, .string d] 43) = W2 at hA ⊢
    have HA := Aside0.mk hA
    clear hA HP
    go_wp2
    go_loopg [9, 10] 0 (fun kq vo vi wr => vo = .bool true ∧ vi = .int .i64 0 ∧ Aside0 (Below w.heap.size w wr))
    case atStart => exact ⟨rfl, rfl, HA⟩
    case round =>
      obtain ⟨rfl, rfl, HB⟩ := hrel
      go_wp2
      go_ret
      exact ⟨rfl, HB.out⟩
  · subst hp
    have hL := LS.made hT hG HB.out (by have := (below_alloc (Below.refl w.heap.size w) (.cells #[.bool fresh, .int .i64 lim0, .int .i64 st0, .string d0] 41)).size; omega)
    generalize hgr : W1.heap.size = gr at hL ⊢
    clear hgr
    generalize W1.alloc (.cells #[.int .i64 lim, .int .i64 st, .string d] 43) = W2 at hL ⊢
    have HL := Aside0.mk hL
    clear hL hT hG hg HP HB
    go_wp2
    go_loopg [9, 10] ops.length (fun kq vo vi wr => ∃ (i : Nat) (st : Int) (d : ByteArray), vo = .bool true ∧ vi = .int .i64 (i : Int) ∧ Aside0 (kq = ops.length - i ∧ i ≤ ops.length) ∧ Aside0 (LS w g gr lim st d wr))
    case atStart => exact ⟨0, st, d, rfl, rfl, ⟨rfl, Nat.zero_le _⟩, HL⟩
    case round =>
      obtain ⟨i, st, d, rfl, rfl, HI, HL⟩ := hrel
      obtain ⟨hk, hi⟩ := HI.out
      by_cases h1 : i < ops.length
      · have g1 : decide ((i : Int) < (ops.length : Int)) = true := decide_eq_true (by omega)
        have g1n : decide (i < ops.length) = true := decide_eq_true h1
        obtain ⟨ad, hA, hcell⟩ := HO.out (by omega)
        subst hA
        obtain ⟨k, x, a, b, ho⟩ : ∃ k x a b, ops[i]? = some (k, x, a, b) := ⟨_, _, _, _, List.getElem?_eq_getElem h1⟩
        obtain ⟨hx, ha⟩ := HO2.out k x a b (List.mem_of_getElem? ho)
        obtain ⟨q0, q1, q2, q3⟩ := hcell i k x a b ho
        replace q0 := HL.out.old q0
        replace q1 := HL.out.old q1
        replace q2 := HL.out.old q2
        replace q3 := HL.out.old q3
        rw [← add_add] at q1 q2 q3
        replace q1 := spelt 1 (by decide) q1
        replace q2 := spelt 2 (by decide) q2
        replace q3 := spelt 3 (by decide) q3
        obtain ⟨r0, r1, r2, f0, f1, f2⟩ := HL.out.cells
        have i0 : (0 : Int) ≤ (i : Int) := by omega
        have i1 : (i : Int) < (ops.length : Int) := by omega
        clear hcell ho
        go_upto_region 5 with (fail)
        go_region_with (go_at_call 21; refine (step _ g lim st d (by first | exact HL.out.t | exact HL.out.t.drewN _) HL.out.good k a b x hx ha).mono ?_; rintro e W3 ⟨rfl, hK3, hB3, hT3⟩; obtain ⟨hr3, hb3⟩ := (by first | exact LS.stepped (st' := 0) (d' := d) HL.out hK3 hB3 | exact LS.stepped (st' := 0) (d' := d) (HL.out.drewN _) hK3 hB3 | exact LS.stepped (st' := 0) (d' := d) HL.out.drew hK3 hB3 : W3.heap[gr]? = some (.cells #[.int .i64 lim, .int .i64 st, .string d] 43 (0, 0)) ∧ Below w.heap.size w W3); have r0 : W3.cell? ⟨gr, 0, none⟩ = some (.int .i64 lim) := (blk_cell hr3 0).trans rfl; have r1 : W3.cell? ⟨gr, 1, none⟩ = some (.int .i64 st) := (blk_cell hr3 1).trans rfl; have r2 : W3.cell? ⟨gr, 2, none⟩ = some (.string d) := (blk_cell hr3 2).trans rfl; have f0 := blk_frozen hr3 0; have f1 := blk_frozen hr3 1; have f2 := blk_frozen hr3 2; have HT3 := Aside0.mk hT3; have HR3 := Aside0.mk hr3; have HB3 := Aside0.mk hb3; clear hT3 hr3 hb3 hK3 hB3)
        all_goals (
          have hL4 := LS.store HT3.out (stepF_good HL.out.good k x hx) HR3.out HB3.out HL.out.hg HL.out.hr
          generalize (stepF lim st d k x).1 = st4 at hL4 ⊢
          generalize (stepF lim st d k x).2 = d4 at hL4 ⊢
          generalize World.setCell _ _ _ = W4 at hL4 ⊢
          have HL4 := Aside0.mk hL4
          clear hL4 HT3 HR3 HB3 r0 r1 r2 f0 f1 f2 q0 q1 q2 q3
          go_wp2
          go_roundg (ops.length - (i + 1))
          case measure => omega
          case rel => exact ⟨i + 1, st4, d4, rfl, by first | rfl | (congr 1; omega), ⟨rfl, by omega⟩, HL4⟩)
      · have g1 : decide ((i : Int) < (ops.length : Int)) = false := decide_eq_false (by omega)
        have g1n : decide (i < ops.length) = false := decide_eq_false h1
        clear HI hk hi h1
        have HE := Aside0.mk (good_load HL.out.good)
        go_upto_region 11 with (first
          | (go_at_call 25; refine (limit _ g lim st d (by first | exact HL.out.t | exact HL.out.t.drewN _)).mono ?_; rintro e W5 ⟨rfl, ⟨n1, rfl⟩⟩)
          | (go_at_call 17; refine (start _ g lim st d (by first | exact HL.out.t | exact HL.out.t.drewN _)).mono ?_; rintro e W5 ⟨rfl, ⟨n2, rfl⟩⟩)
          | (go_at_call 16; refine (all' _ g lim st d (by first | exact HL.out.t | exact HL.out.t.drewN _)).mono ?_; rintro e W5 ⟨rfl, ⟨n3, rfl⟩⟩)
          | (go_at_call 24; refine (load _ lim st d (by have := HL.out.good.dl; have := HL.out.good.l1; omega)).mono ?_; rintro e W6 ⟨pk, rfl, hB6, hn6, hs6⟩; obtain ⟨gz, hpk, hgk, hTk⟩ := hs6 HE.out; subst hpk; rw [HE.out]; have HL6 := Aside0.mk ((HL.out.drewN _).below hB6); have HK6 := Aside0.mk hTk; have HG6 := Aside0.mk hgk; have r0 : W6.cell? ⟨gr, 0, none⟩ = some (.int .i64 lim) := HL6.out.cells.1; have r1 : W6.cell? ⟨gr, 1, none⟩ = some (.int .i64 st) := HL6.out.cells.2.1; have r2 : W6.cell? ⟨gr, 2, none⟩ = some (.string d) := HL6.out.cells.2.2.1; clear hB6 hn6 hs6 hgk hTk))
        go_upto_region 12 with (fail)
        have hgl := HL.out.t.lt
        have hA6 := below_alloc (Below.refl W6.heap.size W6) (.cells #[.int .i64 lim, .int .i64 st, .string d] 43)
        have hK := LS.made HK6.out HL6.out.good HL6.out.b (by have := HL.out.b.size; have := HG6.out; simp at this; omega)
        have hL := HL6.out.below hA6
        have hNG : gz ≠ g ∧ W6.heap.size ≠ gr := ⟨by have := HG6.out; simp at this; omega, by have := blk_lt HL6.out.r; omega⟩
        generalize W6.heap.size = go at hK hNG ⊢
        generalize W6.alloc (.cells #[.int .i64 lim, .int .i64 st, .string d] 43) = W7 at hK hL ⊢
        have HNG := Aside0.mk hNG
        have HL := Aside0.mk hL
        have HM := Aside0.mk hK
        clear hgl hA6 hK hL hNG HK6 HG6 HL6 HE r0 r1 r2
        go_wp2
        go_loopg [9, 14] ops'.length (fun kq vo vi wr => ∃ (i : Nat) (st : Int) (d : ByteArray), vo = .bool true ∧ vi = .int .i64 (i : Int) ∧ Aside0 (kq = ops'.length - i ∧ i ≤ ops'.length) ∧ Aside0 (LS w g gr lim st d wr) ∧ Aside0 (LS w gz go lim st d wr))
        case atStart => exact ⟨0, st, d, rfl, rfl, ⟨rfl, Nat.zero_le _⟩, HL, HM⟩
        case round =>
          obtain ⟨i, st, d, rfl, rfl, HI, HL, HM⟩ := hrel
          obtain ⟨hk, hi⟩ := HI.out
          by_cases h1 : i < ops'.length
          · have g1 : decide ((i : Int) < (ops'.length : Int)) = true := decide_eq_true (by omega)
            have g1n : decide (i < ops'.length) = true := decide_eq_true h1
            obtain ⟨ad, hA, hcell⟩ := HO'.out (by omega)
            subst hA
            obtain ⟨k, x, a, b, ho⟩ : ∃ k x a b, ops'[i]? = some (k, x, a, b) := ⟨_, _, _, _, List.getElem?_eq_getElem h1⟩
            obtain ⟨hx, ha⟩ := HO2'.out k x a b (List.mem_of_getElem? ho)
            obtain ⟨u0, u1, u2, u3⟩ := hcell i k x a b ho
            have HU := Aside0.mk (And.intro u0 (And.intro u1 (And.intro u2 u3)))
            have q0 := HL.out.old u0
            have q1 := HL.out.old u1
            have q2 := HL.out.old u2
            have q3 := HL.out.old u3
            rw [← add_add] at q1 q2 q3
            replace q1 := spelt 1 (by decide) q1
            replace q2 := spelt 2 (by decide) q2
            replace q3 := spelt 3 (by decide) q3
            obtain ⟨r0, r1, r2, f0, f1, f2⟩ := HL.out.cells
            have i0 : (0 : Int) ≤ (i : Int) := by omega
            have i1 : (i : Int) < (ops'.length : Int) := by omega
            clear hcell ho u0 u1 u2 u3
            go_upto_region 15 with (fail)
            go_region_with (go_at_call 21; refine (step _ g lim st d (by first | exact HL.out.t | exact HL.out.t.drewN _) HL.out.good k a b x hx ha).mono ?_; rintro e W3 ⟨rfl, hK3, hB3, hT3⟩; obtain ⟨hr3, hb3⟩ := (by first | exact LS.stepped (st' := 0) (d' := d) HL.out hK3 hB3 | exact LS.stepped (st' := 0) (d' := d) (HL.out.drewN _) hK3 hB3 | exact LS.stepped (st' := 0) (d' := d) HL.out.drew hK3 hB3 : W3.heap[gr]? = some (.cells #[.int .i64 lim, .int .i64 st, .string d] 43 (0, 0)) ∧ Below w.heap.size w W3); have ho3 := (by first | exact LS.apart HL.out HM.out HNG.out.1 hK3 hB3 | exact LS.apart (HL.out.drewN _) (HM.out.drewN _) HNG.out.1 hK3 hB3 | exact LS.apart HL.out.drew HM.out.drew HNG.out.1 hK3 hB3 : LS w gz go lim st d W3); have r0 : W3.cell? ⟨gr, 0, none⟩ = some (.int .i64 lim) := (blk_cell hr3 0).trans rfl; have r1 : W3.cell? ⟨gr, 1, none⟩ = some (.int .i64 st) := (blk_cell hr3 1).trans rfl; have r2 : W3.cell? ⟨gr, 2, none⟩ = some (.string d) := (blk_cell hr3 2).trans rfl; have f0 := blk_frozen hr3 0; have f1 := blk_frozen hr3 1; have f2 := blk_frozen hr3 2; have HT3 := Aside0.mk hT3; have HR3 := Aside0.mk hr3; have HB3 := Aside0.mk hb3; have HO3 := Aside0.mk ho3; clear hT3 hr3 hb3 hK3 hB3 ho3)
            all_goals (
              have hL4 := LS.store HT3.out (stepF_good HL.out.good k x hx) HR3.out HB3.out HL.out.hg HL.out.hr
              have hM4 := LS.apart3 (x := .int .i64 lim) (y := .int .i64 (stepF lim st d k x).1) (z := .string (stepF lim st d k x).2) HO3.out HR3.out HNG.out.2 HL.out.hr
              generalize hst4 : (stepF lim st d k x).1 = st4 at hL4 hM4 ⊢
              generalize hd4 : (stepF lim st d k x).2 = d4 at hL4 hM4 ⊢
              have HST := Aside0.mk (And.intro hst4 hd4)
              generalize World.setCell _ _ _ = W4 at hL4 hM4 ⊢
              obtain ⟨t0, t1, t2, _, _, _⟩ := hM4.cells
              have HL4 := Aside0.mk hL4
              have HM4 := Aside0.mk hM4
              clear hL4 hM4 HT3 HR3 HB3 HO3 r0 r1 r2 f0 f1 f2 q0 q1 q2 q3 hst4 hd4
              go_upto_region 18 with (go_at_call 20; refine (as_ _ gz lim st d (by first | exact HM4.out.t | exact HM4.out.t.drewN _) HM4.out.good).mono ?_; rintro e Wb ⟨rfl, hBb⟩; have HL5 := Aside0.mk (HL4.out.below hBb); have HM5 := Aside0.mk (HM4.out.below hBb); clear hBb)
              obtain ⟨u0, u1, u2, u3⟩ := HU.out
              have q0 := HL5.out.old u0
              have q1 := HL5.out.old u1
              have q2 := HL5.out.old u2
              have q3 := HL5.out.old u3
              rw [← add_add] at q1 q2 q3
              replace q1 := spelt 1 (by decide) q1
              replace q2 := spelt 2 (by decide) q2
              replace q3 := spelt 3 (by decide) q3
              clear u0 u1 u2 u3 t0 t1 t2
              obtain ⟨t0, t1, t2, f0, f1, f2⟩ := HM5.out.cells
              go_region_with (go_at_call 21; refine (step _ gz lim st d (by first | exact HM5.out.t | exact HM5.out.t.drewN _) HM5.out.good k a b x hx ha).mono ?_; rintro e W3 ⟨rfl, hK3, hB3, hT3⟩; obtain ⟨hr3, hb3⟩ := (by first | exact LS.stepped (st' := 0) (d' := d) HM5.out hK3 hB3 | exact LS.stepped (st' := 0) (d' := d) (HM5.out.drewN _) hK3 hB3 | exact LS.stepped (st' := 0) (d' := d) HM5.out.drew hK3 hB3 : W3.heap[go]? = some (.cells #[.int .i64 lim, .int .i64 st, .string d] 43 (0, 0)) ∧ Below w.heap.size w W3); have ho3 := (by first | exact LS.apart HM5.out HL5.out (Ne.symm HNG.out.1) hK3 hB3 | exact LS.apart (HM5.out.drewN _) (HL5.out.drewN _) (Ne.symm HNG.out.1) hK3 hB3 | exact LS.apart HM5.out.drew HL5.out.drew (Ne.symm HNG.out.1) hK3 hB3 : LS w g gr lim st4 d4 W3); have t0 : W3.cell? ⟨go, 0, none⟩ = some (.int .i64 lim) := (blk_cell hr3 0).trans rfl; have t1 : W3.cell? ⟨go, 1, none⟩ = some (.int .i64 st) := (blk_cell hr3 1).trans rfl; have t2 : W3.cell? ⟨go, 2, none⟩ = some (.string d) := (blk_cell hr3 2).trans rfl; have f0 := blk_frozen hr3 0; have f1 := blk_frozen hr3 1; have f2 := blk_frozen hr3 2; have HT3 := Aside0.mk hT3; have HR3 := Aside0.mk hr3; have HB3 := Aside0.mk hb3; have HO3 := Aside0.mk ho3; clear hT3 hr3 hb3 hK3 hB3 ho3)
              all_goals (
                have hM6 := LS.store HT3.out (stepF_good HM5.out.good k x hx) HR3.out HB3.out HM5.out.hg HM5.out.hr
                have hL6 := LS.apart3 (x := .int .i64 lim) (y := .int .i64 (stepF lim st d k x).1) (z := .string (stepF lim st d k x).2) HO3.out HR3.out (Ne.symm HNG.out.2) HM5.out.hr
                rw [HST.out.1, HST.out.2] at hM6 hL6 ⊢
                generalize World.setCell _ _ _ = W6 at hL6 hM6 ⊢
                obtain ⟨s0, s1, s2, _, _, _⟩ := hL6.cells
                have HL6 := Aside0.mk hL6
                have HM6 := Aside0.mk hM6
                clear hL6 hM6 HT3 HR3 HB3 HO3 t0 t1 t2 f0 f1 f2 q0 q1 q2 q3
                go_wp2_with (first
                  | (go_at_call 20; refine (as_ _ g lim st4 d4 (by first | exact HL6.out.t | exact HL6.out.t.drewN _) HL6.out.good).mono ?_; rintro e Wa ⟨rfl, hBa⟩; have HL7 := Aside0.mk (HL6.out.below hBa); have HM7 := Aside0.mk (HM6.out.below hBa); clear hBa)
                  | (go_at_call_of 16 (Value.pointer (some ⟨g, 0, none⟩)); refine (all' _ g lim st4 d4 (by first | exact HL7.out.t | exact HL7.out.t.drewN _)).mono ?_; rintro e W5 ⟨rfl, ⟨n1, rfl⟩⟩)
                  | (go_at_call_of 16 (Value.pointer (some ⟨gz, 0, none⟩)); refine (all' _ gz lim st4 d4 (by first | exact HM7.out.t | exact HM7.out.t.drewN _)).mono ?_; rintro e W5 ⟨rfl, ⟨n2, rfl⟩⟩)
                  | (go_at_call_of 17 (Value.pointer (some ⟨g, 0, none⟩)); refine (start _ g lim st4 d4 (by first | exact HL7.out.t | exact HL7.out.t.drewN _)).mono ?_; rintro e W5 ⟨rfl, ⟨n3, rfl⟩⟩)
                  | (go_at_call_of 17 (Value.pointer (some ⟨gz, 0, none⟩)); refine (start _ gz lim st4 d4 (by first | exact HM7.out.t | exact HM7.out.t.drewN _)).mono ?_; rintro e W5 ⟨rfl, ⟨n4, rfl⟩⟩)
                  | (go_at_call_of 18 (Value.pointer (some ⟨g, 0, none⟩)); refine (end_ _ g lim st4 d4 (by first | exact HL7.out.t | exact HL7.out.t.drewN _) HL7.out.good.s0 HL7.out.good.se).mono ?_; rintro e W5 ⟨rfl, ⟨n5, rfl⟩⟩)
                  | (go_at_call_of 18 (Value.pointer (some ⟨gz, 0, none⟩)); refine (end_ _ gz lim st4 d4 (by first | exact HM7.out.t | exact HM7.out.t.drewN _) HM7.out.good.s0 HM7.out.good.se).mono ?_; rintro e W5 ⟨rfl, ⟨n6, rfl⟩⟩))
                go_roundg (ops'.length - (i + 1))
                case measure => omega
                case rel => exact ⟨i + 1, st4, d4, rfl, by first | rfl | (congr 1; omega), ⟨rfl, by omega⟩, ⟨HL7.out.drewN _⟩, ⟨HM7.out.drewN _⟩⟩))
          · have g1 : decide ((i : Int) < (ops'.length : Int)) = false := decide_eq_false (by omega)
            have g1n : decide (i < ops'.length) = false := decide_eq_false h1
            go_wp2
            go_ret
            exact ⟨rfl, HL.out.b⟩
end Go.Proofs.Ytggahoojpikecaa.TailLog
