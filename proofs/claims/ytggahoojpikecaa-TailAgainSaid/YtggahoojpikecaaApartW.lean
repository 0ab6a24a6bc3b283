/- The walk of TailApart. No condition but lengths below a bound. -/
import Derived.Test.YtggahoojpikecaaOpen2
namespace Go.Proofs.Ytggahoojpikecaa.TailLog
open Go.RowKit Go.Proofs.YtggahoojpikecaaW.PrintWords Go.Proofs.YtggahoojpikecaaW.PrintLast Go.Proofs.YtggahoojpikecaaW.PrintMore
set_option linter.unusedVariables false
set_option linter.unusedSimpArgs false

/-- Another Log is as it was behind a step. -/
theorem LS.apart {w0 : World} {g gr g' gr' : Nat} {lim st lim' st' : Int} {d d' : ByteArray} {W W' : World} (h : LS w0 g gr lim st d W) (h' : LS w0 g' gr' lim' st' d' W) (hne : g' ≠ g) (hK : KeepBut W W' g none) (hB : Below g W W') : LS w0 g' gr' lim' st' d' W' := by
  obtain ⟨A, c, h0, _⟩ := h.t
  exact ⟨h'.t.keep hK hne h0, h'.good, hK.blk h'.r (Ne.symm (h.t.ne h'.r (by decide))) (by simp), below_more h'.b h.hg hB, h'.hg, h'.hr⟩
/-- .. and behind the store to the other variable. -/
theorem LS.apart3 {w0 : World} {gr g' gr' : Nat} {lim' st' : Int} {d' : ByteArray} {W : World} {a b c x y z : Value} (h' : LS w0 g' gr' lim' st' d' W) (hr : W.heap[gr]? = some (.cells #[a, b, c] 43 (0, 0))) (hne : gr' ≠ gr) (hgr : w0.heap.size ≤ gr) :
    LS w0 g' gr' lim' st' d' (((W.setCell ⟨gr, 0, none⟩ x).setCell ⟨gr, 1, none⟩ y).setCell ⟨gr, 2, none⟩ z) := by
  obtain ⟨h1, h2, h3⟩ := put3_facts hr h'.b hgr x y z
  exact ⟨h'.t.keep' h2 (h'.t.ne hr (by decide)) hr (by decide), h'.good, h2.blk h'.r hne (by simp), h3, h'.hg, h'.hr⟩

set_option maxHeartbeats 4000000 in
set_option maxRecDepth 100000 in
theorem apart (w : World) (fa : Bool) (la sa : Int) (da : ByteArray) (hda : da.size ≤ 140737488351232) (hsa : sa ≤ 9223372036854775807) (fb : Bool) (lb sb : Int) (db : ByteArray) (hdb : db.size ≤ 140737488351232) (hsb : sb ≤ 9223372036854775807)
    (A : Option Addr) (c : Nat) (ops : List (Int × ByteArray × Int × Int)) (hc : ops.length ≤ c) (hO : OpsAt w A ops) (hm : ops.length ≤ 9223372036854775807) (hb : ∀ k x a b, (k, x, a, b) ∈ ops → x.size ≤ 140737488351232 ∧ a ≤ 9223372036854775807) :
    Calls Try.prog 10 #[.agg #[.bool fa, .int .i64 la, .int .i64 sa, .string da], .agg #[.bool fb, .int .i64 lb, .int .i64 sb, .string db], .slice A ops.length c] w fun e w' => e = .returned (.bool true) ∧ Below w.heap.size w w' := by
  have hu43 := Try.underlying43
  have hu41 := Try.underlying41
  have hu29 := Try.underlying29
  have HO := Aside0.mk hO
  have HO2 := Aside0.mk hb
  clear hO hb
  go_enter Try.func10, Try.ntmps10
  go_upto_region 1 with (fail)
  obtain ⟨hm0, ha0, hB0⟩ : ((w.alloc (.cells #[.bool fa, .int .i64 la, .int .i64 sa, .string da] 41)).alloc (.cells #[.bool fb, .int .i64 lb, .int .i64 sb, .string db] 41)).heap[w.heap.size]? = some (.cells #[.bool fa, .int .i64 la, .int .i64 sa, .string da] 41) ∧
      ((w.alloc (.cells #[.bool fa, .int .i64 la, .int .i64 sa, .string da] 41)).alloc (.cells #[.bool fb, .int .i64 lb, .int .i64 sb, .string db] 41)).heap[w.heap.size + 1]? = some (.cells #[.bool fb, .int .i64 lb, .int .i64 sb, .string db] 41) ∧
      Below w.heap.size w ((w.alloc (.cells #[.bool fa, .int .i64 la, .int .i64 sa, .string da] 41)).alloc (.cells #[.bool fb, .int .i64 lb, .int .i64 sb, .string db] 41)) := ⟨heap_fst _ _ _, heap_snd _ _ _, below_alloc (below_alloc (Below.refl _ _) _) _⟩
  generalize (w.alloc (.cells #[.bool fa, .int .i64 la, .int .i64 sa, .string da] 41)).alloc (.cells #[.bool fb, .int .i64 lb, .int .i64 sb, .string db] 41) = W0 at hm0 ha0 hB0 ⊢
  have m0 : W0.cell? ⟨w.heap.size, 0, none⟩ = some (.bool fa) := (blk_cell hm0 0).trans rfl
  have m1 : W0.cell? ⟨w.heap.size, 1, none⟩ = some (.int .i64 la) := (blk_cell hm0 1).trans rfl
  have m2 : W0.cell? ⟨w.heap.size, 2, none⟩ = some (.int .i64 sa) := (blk_cell hm0 2).trans rfl
  have m3 : W0.cell? ⟨w.heap.size, 3, none⟩ = some (.string da) := (blk_cell hm0 3).trans rfl
  have HB0 := Aside0.mk hB0
  have HA0 := Aside0.mk ha0
  clear hB0 hm0 ha0
  go_upto_region 2 with (go_at_call 19; refine (made _ fa la sa da hda hsa).mono ?_; rintro e W1 ⟨p, lim, st, d, rfl, hB, hp⟩; have HB1 := Aside0.mk (below_new HB0.out hB); have HA1 := Aside0.mk ((hB.block _ (blk_lt HA0.out)).trans HA0.out); have HP1 := Aside0.mk hp; clear hB hp)
  have hq := ((below_alloc (Below.refl W1.heap.size W1) (.cells #[.int .i64 lim, .int .i64 st, .string d] 43)).block _ (blk_lt HA1.out)).trans HA1.out
  have hB2 := below_new HB1.out (below_alloc (Below.refl W1.heap.size W1) (.cells #[.int .i64 lim, .int .i64 st, .string d] 43))
  have hP2 : p = none ∨ ∃ g, p = some ⟨g, 0, none⟩ ∧ LS w g W1.heap.size lim st d (W1.alloc (.cells #[.int .i64 lim, .int .i64 st, .string d] 43)) :=
    HP1.out.imp id (fun ⟨g, h1, h2, h3, h4⟩ => ⟨g, h1, LS.made h3 h4 HB1.out (Nat.le_trans HB0.out.size h2)⟩)
  generalize hgr : W1.heap.size = gr at hP2 ⊢
  clear hgr
  generalize W1.alloc (.cells #[.int .i64 lim, .int .i64 st, .string d] 43) = W2 at hq hB2 hP2 ⊢
  have n0 : W2.cell? ⟨w.heap.size + 1, 0, none⟩ = some (.bool fb) := (blk_cell hq 0).trans rfl
  have n1 : W2.cell? ⟨w.heap.size + 1, 1, none⟩ = some (.int .i64 lb) := (blk_cell hq 1).trans rfl
  have n2 : W2.cell? ⟨w.heap.size + 1, 2, none⟩ = some (.int .i64 sb) := (blk_cell hq 2).trans rfl
  have n3 : W2.cell? ⟨w.heap.size + 1, 3, none⟩ = some (.string db) := (blk_cell hq 3).trans rfl
  have HB2 := Aside0.mk hB2
  have HP2 := Aside0.mk hP2
  clear HB1 HA1 HP1 hq hB2 hP2 m0 m1 m2 m3
  go_upto_region 3 with (go_at_call 19; refine (made _ fb lb sb db hdb hsb).mono ?_; rintro e W3 ⟨p', lim', st', d', rfl, hB, hp⟩; have HB3 := Aside0.mk hB; have HP3 := Aside0.mk hp; clear hB hp)
  have hA3 := below_alloc (Below.refl W3.heap.size W3) (.cells #[.int .i64 lim', .int .i64 st', .string d'] 43)
  have hB4 := below_new (below_new HB2.out HB3.out) hA3
  have hP4 : p = none ∨ ∃ g, p = some ⟨g, 0, none⟩ ∧ LS w g gr lim st d (W3.alloc (.cells #[.int .i64 lim', .int .i64 st', .string d'] 43)) ∧ gr < W3.heap.size ∧ g < W2.heap.size :=
    HP2.out.imp id (fun ⟨g, h1, h2⟩ => ⟨g, h1, (h2.below HB3.out).below hA3, by have := blk_lt h2.r; have := HB3.out.size; omega, h2.t.lt⟩)
  have hP5 : p' = none ∨ ∃ g, p' = some ⟨g, 0, none⟩ ∧ LS w g W3.heap.size lim' st' d' (W3.alloc (.cells #[.int .i64 lim', .int .i64 st', .string d'] 43)) ∧ W2.heap.size ≤ g :=
    HP3.out.imp id (fun ⟨g, h1, h2, h3, h4⟩ => ⟨g, h1, LS.made h3 h4 (below_new HB2.out HB3.out) (Nat.le_trans HB2.out.size h2), h2⟩)
  generalize hgr : W3.heap.size = gr' at hP4 hP5 ⊢
  clear hgr hA3
  generalize W3.alloc (.cells #[.int .i64 lim', .int .i64 st', .string d'] 43) = W4 at hB4 hP4 hP5 ⊢
  have HB4 := Aside0.mk hB4
  have HP4 := Aside0.mk hP4
  have HP5 := Aside0.mk hP5
  clear hB4 hP4 hP5 HP2 HP3 n0 n1 n2 n3
  rcases HP4.out with hp | ⟨g, hp, hL1, hgl, hg2⟩
  · subst hp
    go_wp2
    all_goals go_ret
    all_goals exact ⟨rfl, HB4.out⟩
  rcases HP5.out with hp' | ⟨g', hp', hL2, hgg⟩
  · subst hp
    subst hp'
    clear hL1 hgl hg2
    go_wp2
    all_goals go_ret
    all_goals exact ⟨rfl, HB4.out⟩
  subst hp
  subst hp'
  have HNG : Aside0 (g' ≠ g ∧ gr' ≠ gr) := ⟨by omega, by omega⟩
  have HL1 := Aside0.mk hL1
  have HL2 := Aside0.mk hL2
  clear hL1 hL2 hgl hg2 hgg HP4 HP5 HB3 HB2 HB4
  go_wp2
  go_loopg [9, 13] ops.length (fun kq vo vi wr => ∃ (i : Nat) (st : Int) (d : ByteArray) (st' : Int) (d' : ByteArray), vo = .bool true ∧ vi = .int .i64 (i : Int) ∧ Aside0 (kq = ops.length - i ∧ i ≤ ops.length) ∧ Aside0 (LS w g gr lim st d wr) ∧ Aside0 (LS w g' gr' lim' st' d' wr))
  case atStart => exact ⟨0, st, d, st', d', rfl, rfl, ⟨rfl, Nat.zero_le _⟩, HL1, HL2⟩
  case round =>
    obtain ⟨i, st, d, st', d', rfl, rfl, HI, HL1, HL2⟩ := hrel
    obtain ⟨hk, hi⟩ := HI.out
    by_cases h1 : i < ops.length
    · have g1 : decide ((i : Int) < (ops.length : Int)) = true := decide_eq_true (by omega)
      have g1n : decide (i < ops.length) = true := decide_eq_true h1
      obtain ⟨ad, hA, hcell⟩ := HO.out (by omega)
      subst hA
      obtain ⟨k, x, a, b, ho⟩ : ∃ k x a b, ops[i]? = some (k, x, a, b) := ⟨_, _, _, _, List.getElem?_eq_getElem h1⟩
      obtain ⟨hx, ha⟩ := HO2.out k x a b (List.mem_of_getElem? ho)
      obtain ⟨q0, q1, q2, q3⟩ := hcell i k x a b ho
      replace q0 := HL1.out.old q0
      replace q1 := HL1.out.old q1
      replace q2 := HL1.out.old q2
      replace q3 := HL1.out.old q3
      rw [← add_add] at q1 q2 q3
      replace q1 := spelt 1 (by decide) q1
      replace q2 := spelt 2 (by decide) q2
      replace q3 := spelt 3 (by decide) q3
      have i0 : (0 : Int) ≤ (i : Int) := by omega
      have i1 : (i : Int) < (ops.length : Int) := by omega
      clear hcell ho
      by_cases he : (i : Int) % 2 = 0
      · obtain ⟨r0, r1, r2, f0, f1, f2⟩ := HL1.out.cells
        have e1 : ((i : Int) % 2 == 0) = true := beq_iff_eq.mpr he
        have e2 : decide ((i : Int) % 2 = 0) = true := decide_eq_true he
        go_upto_region 9 with (fail)
        clear e1 e2 he
        go_region_with (go_at_call 21; refine (step _ g lim st d (by first | exact HL1.out.t | exact HL1.out.t.drewN _) HL1.out.good k a b x hx ha).mono ?_; rintro e W3 ⟨rfl, hK3, hB3, hT3⟩; obtain ⟨hr3, hb3⟩ := (by first | exact LS.stepped (st' := 0) (d' := d) HL1.out hK3 hB3 | exact LS.stepped (st' := 0) (d' := d) (HL1.out.drewN _) hK3 hB3 | exact LS.stepped (st' := 0) (d' := d) HL1.out.drew hK3 hB3 : W3.heap[gr]? = some (.cells #[.int .i64 lim, .int .i64 st, .string d] 43 (0, 0)) ∧ Below w.heap.size w W3); have ho3 := (by first | exact LS.apart HL1.out HL2.out HNG.out.1 hK3 hB3 | exact LS.apart (HL1.out.drewN _) (HL2.out.drewN _) HNG.out.1 hK3 hB3 | exact LS.apart HL1.out.drew HL2.out.drew HNG.out.1 hK3 hB3 : LS w g' gr' lim' st' d' W3); have r0 : W3.cell? ⟨gr, 0, none⟩ = some (.int .i64 lim) := (blk_cell hr3 0).trans rfl; have r1 : W3.cell? ⟨gr, 1, none⟩ = some (.int .i64 st) := (blk_cell hr3 1).trans rfl; have r2 : W3.cell? ⟨gr, 2, none⟩ = some (.string d) := (blk_cell hr3 2).trans rfl; have f0 := blk_frozen hr3 0; have f1 := blk_frozen hr3 1; have f2 := blk_frozen hr3 2; have HT3 := Aside0.mk hT3; have HR3 := Aside0.mk hr3; have HB3 := Aside0.mk hb3; have HO3 := Aside0.mk ho3; clear hT3 hr3 hb3 hK3 hB3 ho3)
        all_goals (
          have hL4 := LS.store HT3.out (stepF_good HL1.out.good k x hx) HR3.out HB3.out HL1.out.hg HL1.out.hr
          have hM4 := LS.apart3 (x := .int .i64 lim) (y := .int .i64 (stepF lim st d k x).1) (z := .string (stepF lim st d k x).2) HO3.out HR3.out HNG.out.2 HL1.out.hr
          generalize (stepF lim st d k x).1 = st4 at hL4 hM4 ⊢
          generalize (stepF lim st d k x).2 = d4 at hL4 hM4 ⊢
          generalize World.setCell _ _ _ = W4 at hL4 hM4 ⊢
          obtain ⟨s0, s1, s2, _, _, _⟩ := hL4.cells
          obtain ⟨t0, t1, t2, _, _, _⟩ := hM4.cells
          have HL4 := Aside0.mk hL4
          have HM4 := Aside0.mk hM4
          clear hL4 hM4 HT3 HR3 HB3 HO3 r0 r1 r2 f0 f1 f2 q0 q1 q2 q3
          go_wp2_with (first
            | (go_at_call_of 20 (Value.pointer (some ⟨g, 0, none⟩)); refine (as_ _ g lim st4 d4 (by first | exact HL4.out.t | exact HL4.out.t.drewN _) HL4.out.good).mono ?_; rintro e Wa ⟨rfl, hBa⟩; have HL5 := Aside0.mk (HL4.out.below hBa); have HM5 := Aside0.mk (HM4.out.below hBa); obtain ⟨t0, t1, t2, _, _, _⟩ := HM5.out.cells; clear hBa)
            | (go_at_call_of 20 (Value.pointer (some ⟨g', 0, none⟩)); refine (as_ _ g' lim' st' d' (by first | exact HM5.out.t | exact HM5.out.t.drewN _) HM5.out.good).mono ?_; rintro e Wb ⟨rfl, hBb⟩; have HL6 := Aside0.mk (HL5.out.below hBb); have HM6 := Aside0.mk (HM5.out.below hBb); clear hBb))
          go_roundg (ops.length - (i + 1))
          case measure => omega
          case rel => exact ⟨i + 1, st4, d4, st', d', rfl, by first | rfl | (congr 1; omega), ⟨rfl, by omega⟩, HL6, HM6⟩)
      · obtain ⟨r0, r1, r2, f0, f1, f2⟩ := HL2.out.cells
        have e1 : ((i : Int) % 2 == 0) = false := beq_eq_false_iff_ne.mpr he
        have e2 : decide ((i : Int) % 2 = 0) = false := decide_eq_false he
        go_upto_region 10 with (fail)
        clear e1 e2 he
        go_region_with (go_at_call 21; refine (step _ g' lim' st' d' (by first | exact HL2.out.t | exact HL2.out.t.drewN _) HL2.out.good k a b x hx ha).mono ?_; rintro e W3 ⟨rfl, hK3, hB3, hT3⟩; obtain ⟨hr3, hb3⟩ := (by first | exact LS.stepped (st' := 0) (d' := d') HL2.out hK3 hB3 | exact LS.stepped (st' := 0) (d' := d') (HL2.out.drewN _) hK3 hB3 | exact LS.stepped (st' := 0) (d' := d') HL2.out.drew hK3 hB3 : W3.heap[gr']? = some (.cells #[.int .i64 lim', .int .i64 st', .string d'] 43 (0, 0)) ∧ Below w.heap.size w W3); have ho3 := (by first | exact LS.apart HL2.out HL1.out (Ne.symm HNG.out.1) hK3 hB3 | exact LS.apart (HL2.out.drewN _) (HL1.out.drewN _) (Ne.symm HNG.out.1) hK3 hB3 | exact LS.apart HL2.out.drew HL1.out.drew (Ne.symm HNG.out.1) hK3 hB3 : LS w g gr lim st d W3); have r0 : W3.cell? ⟨gr', 0, none⟩ = some (.int .i64 lim') := (blk_cell hr3 0).trans rfl; have r1 : W3.cell? ⟨gr', 1, none⟩ = some (.int .i64 st') := (blk_cell hr3 1).trans rfl; have r2 : W3.cell? ⟨gr', 2, none⟩ = some (.string d') := (blk_cell hr3 2).trans rfl; have f0 := blk_frozen hr3 0; have f1 := blk_frozen hr3 1; have f2 := blk_frozen hr3 2; have HT3 := Aside0.mk hT3; have HR3 := Aside0.mk hr3; have HB3 := Aside0.mk hb3; have HO3 := Aside0.mk ho3; clear hT3 hr3 hb3 hK3 hB3 ho3)
        all_goals (
          have hL4 := LS.store HT3.out (stepF_good HL2.out.good k x hx) HR3.out HB3.out HL2.out.hg HL2.out.hr
          have hM4 := LS.apart3 (x := .int .i64 lim') (y := .int .i64 (stepF lim' st' d' k x).1) (z := .string (stepF lim' st' d' k x).2) HO3.out HR3.out (Ne.symm HNG.out.2) HL2.out.hr
          generalize (stepF lim' st' d' k x).1 = st4 at hL4 hM4 ⊢
          generalize (stepF lim' st' d' k x).2 = d4 at hL4 hM4 ⊢
          generalize World.setCell _ _ _ = W4 at hL4 hM4 ⊢
          obtain ⟨s0, s1, s2, _, _, _⟩ := hL4.cells
          obtain ⟨t0, t1, t2, _, _, _⟩ := hM4.cells
          have HL4 := Aside0.mk hL4
          have HM4 := Aside0.mk hM4
          clear hL4 hM4 HT3 HR3 HB3 HO3 r0 r1 r2 f0 f1 f2 q0 q1 q2 q3
          go_wp2_with (first
            | (go_at_call_of 20 (Value.pointer (some ⟨g', 0, none⟩)); refine (as_ _ g' lim' st4 d4 (by first | exact HL5.out.t | exact HL5.out.t.drewN _) HL5.out.good).mono ?_; rintro e Wa ⟨rfl, hBa⟩; have HL6 := Aside0.mk (HL5.out.below hBa); have HM6 := Aside0.mk (HM5.out.below hBa); clear hBa)
            | (go_at_call_of 20 (Value.pointer (some ⟨g, 0, none⟩)); refine (as_ _ g lim st d (by first | exact HM4.out.t | exact HM4.out.t.drewN _) HM4.out.good).mono ?_; rintro e Wb ⟨rfl, hBb⟩; have HL5 := Aside0.mk (HL4.out.below hBb); have HM5 := Aside0.mk (HM4.out.below hBb); obtain ⟨s0, s1, s2, _, _, _⟩ := HL5.out.cells; clear hBb))
          go_roundg (ops.length - (i + 1))
          case measure => omega
          case rel => exact ⟨i + 1, st, d, st4, d4, rfl, by first | rfl | (congr 1; omega), ⟨rfl, by omega⟩, HM6, HL6⟩)
    · have g1 : decide ((i : Int) < (ops.length : Int)) = false := decide_eq_false (by omega)
      have g1n : decide (i < ops.length) = false := decide_eq_false h1
      go_wp2
      go_ret
      exact ⟨rfl, HL1.out.b⟩
end Go.Proofs.Ytggahoojpikecaa.TailLog
