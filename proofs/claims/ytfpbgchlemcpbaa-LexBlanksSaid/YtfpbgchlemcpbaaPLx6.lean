-- Written by this session's own run of a turned printer; Lean checks every line.
import Derived.Test.YtfpbgchlemcpbaaPLx0
import Derived.Test.YtfpbgchlemcpbaaPLx1
namespace Go.Proofs.Ytfpbgchlemcpbaa.PL
open Go.RowKit Go.Proofs.YtfpbgchlemcpbaaW.PrintWords Go.Proofs.YtfpbgchlemcpbaaW.PrintLast Go.Proofs.YtfpbgchlemcpbaaW.PrintMore
attribute [local go_sem] max2_int min2_int max_two min_two max_three min_three max_four min_four   -- for this text's walks alone
set_option linter.unusedVariables false
set_option linter.unusedSimpArgs false

/-! ### mullionlaw09_LexPlaces: function 10 -/
def mullionlaw09_LexPlaces.j0 : Nat → ByteArray → Int → Bool → Option (Bool)
  | 0, _, _, _ => none
  | k + 1, x0, x4, x44 => if x44 = true then (some false) else (if 0 ≤ x4 then (if x4 < (x0.size : Int) then (if (bt x0 x4) = 39 then (if x4 ≤ (x0.size : Int) then ((lex_Commands.f (x0.extract 0 (x4 : Int).toNat)).bind fun bt298 => (some (bt298.2.2 != 90))) else (none)) else (if (bt x0 x4) = 34 then (if x4 ≤ (x0.size : Int) then ((lex_Commands.f (x0.extract 0 (x4 : Int).toNat)).bind fun bt303 => (some (bt303.2.2 != 90))) else (none)) else (if (bt x0 x4) = 92 then (if x4 ≤ (x0.size : Int) then ((lex_Commands.f (x0.extract 0 (x4 : Int).toNat)).bind fun bt308 => (some (bt308.2.2 != 90))) else (none)) else (some false)))) else (none)) else (none))
def mullionlaw09_LexPlaces.f (k : Nat) (a0 : ByteArray) : Option (Bool) := (lex_Commands.f a0).bind fun bt291 => (if bt291.2.2 = 90 then (if (bt291.1.length : Int) = 0 then (if bt291.2.1 < 0 then (mullionlaw09_LexPlaces.j0 k a0 bt291.2.1 true) else (mullionlaw09_LexPlaces.j0 k a0 bt291.2.1 (decide (bt291.2.1 ≥ (a0.size : Int))))) else (mullionlaw09_LexPlaces.j0 k a0 bt291.2.1 true)) else (if bt291.2.1 = 0 then (if bt291.2.2 = 0 then ((mullionlaw09_sure.f k).bind fun t296 => (some t296)) else (if (bt291.1.length : Int) = 0 then ((mullionlaw09_sure.f k).bind fun t297 => (some t297)) else (some false))) else (some false)))
theorem mullionlaw09_LexPlaces.mono_l : ∀ k, (∀ y0 y1 y2, LeO (mullionlaw09_LexPlaces.j0 k y0 y1 y2) (mullionlaw09_LexPlaces.j0 (k + 1) y0 y1 y2))
  | 0 => fun _ _ _ r h => by simp [mullionlaw09_LexPlaces.j0] at h
  | k + 1 => by
    have ih0 := mullionlaw09_LexPlaces.mono_l k
    · intro y0 y1 y2
      unfold mullionlaw09_LexPlaces.j0
      repeat' first
      | (with_reducible exact ih0 _ _ _)
      | (with_reducible exact mullionlaw09_sure.mono _)
      | (with_reducible exact LeO.refl _)
      | (with_reducible exact LeO.none _)
      | (with_reducible refine LeO.ite ?_ ?_)
      | (with_reducible refine LeO.bind ?_ (fun _ => ?_))
      | exact ih0 _ _ _
      | exact mullionlaw09_sure.mono _
      | exact LeO.none _
      | refine LeO.ite ?_ ?_
      | refine LeO.bind ?_ (fun _ => ?_)
theorem mullionlaw09_LexPlaces.mono : ∀ a0 k, LeO (mullionlaw09_LexPlaces.f k a0) (mullionlaw09_LexPlaces.f (k + 1) a0) := by
  intro a0 k
  have ih0 := mullionlaw09_LexPlaces.mono_l k
  unfold mullionlaw09_LexPlaces.f
  repeat' first
      | (with_reducible exact ih0 _ _ _)
      | (with_reducible exact mullionlaw09_sure.mono _)
      | (with_reducible exact LeO.refl _)
      | (with_reducible exact LeO.none _)
      | (with_reducible refine LeO.ite ?_ ?_)
      | (with_reducible refine LeO.bind ?_ (fun _ => ?_))
      | exact ih0 _ _ _
      | exact mullionlaw09_sure.mono _
      | exact LeO.none _
      | refine LeO.ite ?_ ?_
      | refine LeO.bind ?_ (fun _ => ?_)
set_option maxHeartbeats 8000000 in
set_option maxRecDepth 100000 in
theorem mullionlaw09_LexPlaces.calls (k : Nat) (a0 : ByteArray) (r : Bool) (w : World) (h : mullionlaw09_LexPlaces.f k a0 = some r) :
    Calls Try.prog 10 #[.string a0] w fun e w' => e = .returned (.bool r) ∧ Below w.heap.size w w' := by
  have HB := Aside0.mk (Below.refl w.heap.size w)
  have H : ((lex_Commands.f a0).bind fun bt291 => (if bt291.2.2 = 90 then (if (bt291.1.length : Int) = 0 then (if bt291.2.1 < 0 then (mullionlaw09_LexPlaces.j0 k a0 bt291.2.1 true) else (mullionlaw09_LexPlaces.j0 k a0 bt291.2.1 (decide (bt291.2.1 ≥ (a0.size : Int))))) else (mullionlaw09_LexPlaces.j0 k a0 bt291.2.1 true)) else (if bt291.2.1 = 0 then (if bt291.2.2 = 0 then ((mullionlaw09_sure.f k).bind fun t296 => (some t296)) else (if (bt291.1.length : Int) = 0 then ((mullionlaw09_sure.f k).bind fun t297 => (some t297)) else (some false))) else (some false)))) = some r := h
  clear h
  replace H := Option.bind_eq_some_iff.mp H
  obtain ⟨⟨t291, t292, t293⟩, A20, H⟩ := H
  replace H : (if t293 = 90 then (if (t291.length : Int) = 0 then (if t292 < 0 then (mullionlaw09_LexPlaces.j0 k a0 t292 true) else (mullionlaw09_LexPlaces.j0 k a0 t292 (decide (t292 ≥ (a0.size : Int))))) else (mullionlaw09_LexPlaces.j0 k a0 t292 true)) else (if t292 = 0 then (if t293 = 0 then ((mullionlaw09_sure.f k).bind fun t296 => (some t296)) else (if (t291.length : Int) = 0 then ((mullionlaw09_sure.f k).bind fun t297 => (some t297)) else (some false))) else (some false))) = some r := H
  have A2 := Aside0.mk A20
  clear A20
  by_cases c3 : t293 = 90
  · rw [if_pos c3] at H
    have c3b0 : (t293 == 90) = true := beq_iff_eq.mpr c3
    have c3b1 : (t293 != 90) = false := bne_eq_false_iff_eq.mpr c3
    clear c3
    have HC4 := Aside0.mk H
    clear H
    go_enter Try.func10, Try.ntmps10
    go_upto_region 4 with (first | ((with_reducible refine gate_callee (f := 14) rfl ?_); refine goesL_ (some 12) rfl rfl Try.func14 (by kernel_rfl) rfl #[.string a0] rfl (by (try simp only [List.map_toArray, List.map_cons, List.map_nil]); first | done | rfl | (simp only [List.length_drop, List.length_take]; rfl)) ?_; (with_reducible refine (lex_Commands.calls a0 t291 t292 t293 _ A2.out).mono ?_); rintro e w5 ⟨v294, rfl, ho0, hb⟩; refine ⟨_, rfl, ?_⟩; have n0_ := Aside0.mk (Kd.S_lower ho0 (below_size (by repeat (first | (with_reducible first | exact HB.out | apply below_alloc | apply pw_below_drewN | apply below_drew1) | exact HB.out)))); have n1_ := Aside0.mk (below_step (by repeat (first | (with_reducible first | exact HB.out | apply below_alloc | apply pw_below_drewN | apply below_drew1) | exact HB.out)) hb); clear HB; have HO295 := n0_; have HB := n1_; clear n0_ n1_; (try clear hb); (try clear hb2); (try clear hk); (try clear hi); (try clear ho0)))
    (try simp only [Act.put, List.setIfInBounds_toArray, List.set_cons_zero, List.set_cons_succ])
    go_cut [44] (fun v44 wc => ∃ (kq : Nat) (x44_3 : Bool), v44 = .bool x44_3 ∧ Aside0 (mullionlaw09_LexPlaces.j0 kq a0 t292 x44_3 = some r) ∧ Aside0 (kq ≤ k) ∧ Aside0 (Below w.heap.size w wc))
    case first =>
      have H := HC4.out
      clear HC4
      by_cases c6 : (t291.length : Int) = 0
      · rw [if_pos c6] at H
        have c6b0 : ((t291.length : Int) == 0) = true := beq_iff_eq.mpr c6
        have c6b1 : ((t291.length : Int) != 0) = false := bne_eq_false_iff_eq.mpr c6
        clear c6
        (first | rw [c6b0] | (simp only [i64_w, i32_w]; rw [c6b0]) | skip)
        by_cases c7 : t292 < 0
        · rw [if_pos c7] at H
          have c7b0 : decide (t292 < 0) = true := decide_eq_true c7
          clear c7
          have H' := Aside0.mk H
          clear H
          obtain ⟨Ao8, co8, eo8⟩ := Kd.S_slice HO295.out
          subst eo8
          go_wp2
          go_meet
          case rel => exact ⟨_, (true), (by first | rfl | (simp; done) | (simp [*]; done) | (simp; exact isEmpty_bne _)), H', ⟨by first | omega | exact Nat.le_refl _⟩, ⟨by repeat (first | (with_reducible first | exact HB.out | apply below_alloc | apply pw_below_drewN | apply below_drew1) | exact HB.out)⟩⟩
        · rw [if_neg c7] at H
          have c7b0 : decide (t292 < 0) = false := decide_eq_false c7
          clear c7
          have H' := Aside0.mk H
          clear H
          obtain ⟨Ao9, co9, eo9⟩ := Kd.S_slice HO295.out
          subst eo9
          go_wp2
          go_meet
          case rel => exact ⟨_, (decide (t292 ≥ (a0.size : Int))), (by first | rfl | (simp; done) | (simp [*]; done) | (simp; exact isEmpty_bne _)), H', ⟨by first | omega | exact Nat.le_refl _⟩, ⟨by repeat (first | (with_reducible first | exact HB.out | apply below_alloc | apply pw_below_drewN | apply below_drew1) | exact HB.out)⟩⟩
      · rw [if_neg c6] at H
        have c6b0 : ((t291.length : Int) == 0) = false := beq_eq_false_iff_ne.mpr c6
        have c6b1 : ((t291.length : Int) != 0) = true := bne_iff_ne.mpr c6
        have c6b2 : ¬ (t291 = []) := fun h_ => c6 (by rw [h_]; rfl)
        (first | rw [c6b0] | (simp only [i64_w, i32_w]; rw [c6b0]) | skip)
        have H' := Aside0.mk H
        clear H
        obtain ⟨Ao10, co10, eo10⟩ := Kd.S_slice HO295.out
        subst eo10
        go_wp2
        go_meet
        case rel => exact ⟨_, (true), (by first | rfl | (simp; done) | (simp [*]; done) | (simp; exact isEmpty_bne _)), H', ⟨by first | omega | exact Nat.le_refl _⟩, ⟨by repeat (first | (with_reducible first | exact HB.out | apply below_alloc | apply pw_below_drewN | apply below_drew1) | exact HB.out)⟩⟩
    case rest =>
      clear HC4
      try clear c1
      try clear p2
      try clear c3
      try clear c3b0
      try clear c3b1
      try clear c6
      try clear c6b0
      try clear c6b1
      try clear c6b2
      try clear c7
      try clear c7b0
      try clear c10
      obtain ⟨kq, x44_3, rfl, HA, HJ3, HB⟩ := hcut
      cases kq with
      | zero => exact absurd HA.out (by simp [mullionlaw09_LexPlaces.j0])
      | succ kj3 =>
        have H := HA.out
        clear HA
        simp only [mullionlaw09_LexPlaces.j0] at H
        by_cases c11 : x44_3 = true
        · subst c11
          have H1 : (some false) = some r := by rw [if_pos rfl] at H; exact H
          clear H
          have H := H1
          clear H1
          obtain rfl := Option.some.inj H
          go_wp2
          go_ret
          exact ⟨by first | rfl | (simp [errW_none, errW_some] <;> rfl) | (simp [*, errW_none, errW_some] <;> rfl), by repeat (first | (with_reducible first | exact HB.out | apply below_alloc | apply pw_below_drewN | apply below_drew1) | exact HB.out)⟩
        · replace c11 := Bool.eq_false_iff.mpr c11
          subst c11
          have H1 : (if 0 ≤ t292 then (if t292 < (a0.size : Int) then (if (bt a0 t292) = 39 then (if t292 ≤ (a0.size : Int) then ((lex_Commands.f (a0.extract 0 (t292 : Int).toNat)).bind fun bt298 => (some (bt298.2.2 != 90))) else (none)) else (if (bt a0 t292) = 34 then (if t292 ≤ (a0.size : Int) then ((lex_Commands.f (a0.extract 0 (t292 : Int).toNat)).bind fun bt303 => (some (bt303.2.2 != 90))) else (none)) else (if (bt a0 t292) = 92 then (if t292 ≤ (a0.size : Int) then ((lex_Commands.f (a0.extract 0 (t292 : Int).toNat)).bind fun bt308 => (some (bt308.2.2 != 90))) else (none)) else (some false)))) else (none)) else (none)) = some r := by rw [if_neg (show ¬ (false = true) by decide)] at H; exact H
          clear H
          have H := H1
          clear H1
          by_cases c12 : 0 ≤ t292
          · rw [if_pos c12] at H
            have c12b0 : decide (0 ≤ t292) = true := decide_eq_true c12
            clear c12
            by_cases c13 : t292 < (a0.size : Int)
            · rw [if_pos c13] at H
              have c13b0 : decide (t292 < (a0.size : Int)) = true := decide_eq_true c13
              clear c13
              by_cases c15 : (bt a0 t292) = 39
              · rw [if_pos c15] at H
                have c15b0 : ((bt a0 t292) == 39) = true := beq_iff_eq.mpr c15
                have c15b1 : ((bt a0 t292) != 39) = false := bne_eq_false_iff_eq.mpr c15
                clear c15
                have c16b0 := eq_true (of_decide_eq_true (by first | (with_reducible assumption) | assumption) : 0 ≤ t292)
                by_cases c17 : t292 ≤ (a0.size : Int)
                · rw [if_pos c17] at H
                  have c17b0 := eq_true c17
                  have c17b1 : decide (t292 ≤ (a0.size : Int)) = true := decide_eq_true c17
                  clear c17
                  replace H := Option.bind_eq_some_iff.mp H
                  obtain ⟨⟨t298, t299, t300⟩, A180, H⟩ := H
                  replace H : (some (t300 != 90)) = some r := H
                  have A18 := Aside0.mk A180
                  clear A180
                  obtain rfl := Option.some.inj H
                  have p14 : 0 ≤ (t292 : Int) := of_decide_eq_true (by first | (with_reducible assumption) | assumption)
                  have q14 : t292 < (a0.size : Int) := of_decide_eq_true (by first | (with_reducible assumption) | assumption)
                  have hx14 := bt_at a0 t292
                  replace p14 := eq_true p14
                  replace q14 := eq_true q14
                  go_wp2_with (first | ((with_reducible refine gate_callee (f := 14) rfl ?_); refine goesL_ (some 62) rfl rfl Try.func14 (by kernel_rfl) rfl #[.string (a0.extract 0 (t292 : Int).toNat)] rfl (by (try simp only [List.map_toArray, List.map_cons, List.map_nil]); first | done | rfl | (simp only [List.length_drop, List.length_take]; rfl)) ?_; (with_reducible refine (lex_Commands.calls (a0.extract 0 (t292 : Int).toNat) t298 t299 t300 _ A18.out).mono ?_); rintro e w19 ⟨v301, rfl, ho0, hb⟩; refine ⟨_, rfl, ?_⟩; have n0_ := Aside0.mk (Kd.S_lower ho0 (below_size (by repeat (first | (with_reducible first | exact HB.out | apply below_alloc | apply pw_below_drewN | apply below_drew1) | exact HB.out)))); have n1_ := Aside0.mk (below_step (by repeat (first | (with_reducible first | exact HB.out | apply below_alloc | apply pw_below_drewN | apply below_drew1) | exact HB.out)) hb); clear HB; have HO302 := n0_; have HB := n1_; clear n0_ n1_; (try clear hb); (try clear hb2); (try clear hk); (try clear hi); (try clear ho0)))
                  go_ret
                  exact ⟨by first | rfl | (simp [errW_none, errW_some] <;> rfl) | (simp [*, errW_none, errW_some] <;> rfl), by repeat (first | (with_reducible first | exact HB.out | apply below_alloc | apply pw_below_drewN | apply below_drew1) | exact HB.out)⟩
                · rw [if_neg c17] at H
                  exact absurd H (by simp)
              · rw [if_neg c15] at H
                have c15b0 : ((bt a0 t292) == 39) = false := beq_eq_false_iff_ne.mpr c15
                have c15b1 : ((bt a0 t292) != 39) = true := bne_iff_ne.mpr c15
                by_cases c20 : (bt a0 t292) = 34
                · rw [if_pos c20] at H
                  have c20b0 : ((bt a0 t292) == 34) = true := beq_iff_eq.mpr c20
                  have c20b1 : ((bt a0 t292) != 34) = false := bne_eq_false_iff_eq.mpr c20
                  clear c20
                  have c21b0 := eq_true (of_decide_eq_true (by first | (with_reducible assumption) | assumption) : 0 ≤ t292)
                  by_cases c22 : t292 ≤ (a0.size : Int)
                  · rw [if_pos c22] at H
                    have c22b0 := eq_true c22
                    have c22b1 : decide (t292 ≤ (a0.size : Int)) = true := decide_eq_true c22
                    clear c22
                    replace H := Option.bind_eq_some_iff.mp H
                    obtain ⟨⟨t303, t304, t305⟩, A230, H⟩ := H
                    replace H : (some (t305 != 90)) = some r := H
                    have A23 := Aside0.mk A230
                    clear A230
                    obtain rfl := Option.some.inj H
                    have p14 : 0 ≤ (t292 : Int) := of_decide_eq_true (by first | (with_reducible assumption) | assumption)
                    have q14 : t292 < (a0.size : Int) := of_decide_eq_true (by first | (with_reducible assumption) | assumption)
                    have hx14 := bt_at a0 t292
                    replace p14 := eq_true p14
                    replace q14 := eq_true q14
                    go_wp2_with (first | ((with_reducible refine gate_callee (f := 14) rfl ?_); refine goesL_ (some 62) rfl rfl Try.func14 (by kernel_rfl) rfl #[.string (a0.extract 0 (t292 : Int).toNat)] rfl (by (try simp only [List.map_toArray, List.map_cons, List.map_nil]); first | done | rfl | (simp only [List.length_drop, List.length_take]; rfl)) ?_; (with_reducible refine (lex_Commands.calls (a0.extract 0 (t292 : Int).toNat) t303 t304 t305 _ A23.out).mono ?_); rintro e w24 ⟨v306, rfl, ho0, hb⟩; refine ⟨_, rfl, ?_⟩; have n0_ := Aside0.mk (Kd.S_lower ho0 (below_size (by repeat (first | (with_reducible first | exact HB.out | apply below_alloc | apply pw_below_drewN | apply below_drew1) | exact HB.out)))); have n1_ := Aside0.mk (below_step (by repeat (first | (with_reducible first | exact HB.out | apply below_alloc | apply pw_below_drewN | apply below_drew1) | exact HB.out)) hb); clear HB; have HO307 := n0_; have HB := n1_; clear n0_ n1_; (try clear hb); (try clear hb2); (try clear hk); (try clear hi); (try clear ho0)))
                    go_ret
                    exact ⟨by first | rfl | (simp [errW_none, errW_some] <;> rfl) | (simp [*, errW_none, errW_some] <;> rfl), by repeat (first | (with_reducible first | exact HB.out | apply below_alloc | apply pw_below_drewN | apply below_drew1) | exact HB.out)⟩
                  · rw [if_neg c22] at H
                    exact absurd H (by simp)
                · rw [if_neg c20] at H
                  have c20b0 : ((bt a0 t292) == 34) = false := beq_eq_false_iff_ne.mpr c20
                  have c20b1 : ((bt a0 t292) != 34) = true := bne_iff_ne.mpr c20
                  by_cases c25 : (bt a0 t292) = 92
                  · rw [if_pos c25] at H
                    have c25b0 : ((bt a0 t292) == 92) = true := beq_iff_eq.mpr c25
                    have c25b1 : ((bt a0 t292) != 92) = false := bne_eq_false_iff_eq.mpr c25
                    clear c25
                    have c26b0 := eq_true (of_decide_eq_true (by first | (with_reducible assumption) | assumption) : 0 ≤ t292)
                    by_cases c27 : t292 ≤ (a0.size : Int)
                    · rw [if_pos c27] at H
                      have c27b0 := eq_true c27
                      have c27b1 : decide (t292 ≤ (a0.size : Int)) = true := decide_eq_true c27
                      clear c27
                      replace H := Option.bind_eq_some_iff.mp H
                      obtain ⟨⟨t308, t309, t310⟩, A280, H⟩ := H
                      replace H : (some (t310 != 90)) = some r := H
                      have A28 := Aside0.mk A280
                      clear A280
                      obtain rfl := Option.some.inj H
                      have p14 : 0 ≤ (t292 : Int) := of_decide_eq_true (by first | (with_reducible assumption) | assumption)
                      have q14 : t292 < (a0.size : Int) := of_decide_eq_true (by first | (with_reducible assumption) | assumption)
                      have hx14 := bt_at a0 t292
                      replace p14 := eq_true p14
                      replace q14 := eq_true q14
                      go_wp2_with (first | ((with_reducible refine gate_callee (f := 14) rfl ?_); refine goesL_ (some 62) rfl rfl Try.func14 (by kernel_rfl) rfl #[.string (a0.extract 0 (t292 : Int).toNat)] rfl (by (try simp only [List.map_toArray, List.map_cons, List.map_nil]); first | done | rfl | (simp only [List.length_drop, List.length_take]; rfl)) ?_; (with_reducible refine (lex_Commands.calls (a0.extract 0 (t292 : Int).toNat) t308 t309 t310 _ A28.out).mono ?_); rintro e w29 ⟨v311, rfl, ho0, hb⟩; refine ⟨_, rfl, ?_⟩; have n0_ := Aside0.mk (Kd.S_lower ho0 (below_size (by repeat (first | (with_reducible first | exact HB.out | apply below_alloc | apply pw_below_drewN | apply below_drew1) | exact HB.out)))); have n1_ := Aside0.mk (below_step (by repeat (first | (with_reducible first | exact HB.out | apply below_alloc | apply pw_below_drewN | apply below_drew1) | exact HB.out)) hb); clear HB; have HO312 := n0_; have HB := n1_; clear n0_ n1_; (try clear hb); (try clear hb2); (try clear hk); (try clear hi); (try clear ho0)))
                      go_ret
                      exact ⟨by first | rfl | (simp [errW_none, errW_some] <;> rfl) | (simp [*, errW_none, errW_some] <;> rfl), by repeat (first | (with_reducible first | exact HB.out | apply below_alloc | apply pw_below_drewN | apply below_drew1) | exact HB.out)⟩
                    · rw [if_neg c27] at H
                      exact absurd H (by simp)
                  · rw [if_neg c25] at H
                    have c25b0 : ((bt a0 t292) == 92) = false := beq_eq_false_iff_ne.mpr c25
                    have c25b1 : ((bt a0 t292) != 92) = true := bne_iff_ne.mpr c25
                    obtain rfl := Option.some.inj H
                    have p14 : 0 ≤ (t292 : Int) := of_decide_eq_true (by first | (with_reducible assumption) | assumption)
                    have q14 : t292 < (a0.size : Int) := of_decide_eq_true (by first | (with_reducible assumption) | assumption)
                    have hx14 := bt_at a0 t292
                    replace p14 := eq_true p14
                    replace q14 := eq_true q14
                    go_wp2
                    go_ret
                    exact ⟨by first | rfl | (simp [errW_none, errW_some] <;> rfl) | (simp [*, errW_none, errW_some] <;> rfl), by repeat (first | (with_reducible first | exact HB.out | apply below_alloc | apply pw_below_drewN | apply below_drew1) | exact HB.out)⟩
            · rw [if_neg c13] at H
              exact absurd H (by simp)
          · rw [if_neg c12] at H
            exact absurd H (by simp)
  · rw [if_neg c3] at H
    have c3b0 : (t293 == 90) = false := beq_eq_false_iff_ne.mpr c3
    have c3b1 : (t293 != 90) = true := bne_iff_ne.mpr c3
    by_cases c30 : t292 = 0
    · rw [if_pos c30] at H
      have c30b0 : (t292 == 0) = true := beq_iff_eq.mpr c30
      have c30b1 : (t292 != 0) = false := bne_eq_false_iff_eq.mpr c30
      clear c30
      by_cases c31 : t293 = 0
      · rw [if_pos c31] at H
        have c31b0 : (t293 == 0) = true := beq_iff_eq.mpr c31
        have c31b1 : (t293 != 0) = false := bne_eq_false_iff_eq.mpr c31
        clear c31
        replace H := Option.bind_eq_some_iff.mp H
        obtain ⟨t296, A320, H⟩ := H
        replace H : (some t296) = some r := H
        have A32 := Aside0.mk A320
        clear A320
        obtain rfl := Option.some.inj H
        go_enter Try.func10, Try.ntmps10
        go_wp2_with (first | ((with_reducible refine gate_callee (f := 14) rfl ?_); refine goesL_ (some 12) rfl rfl Try.func14 (by kernel_rfl) rfl #[.string a0] rfl (by (try simp only [List.map_toArray, List.map_cons, List.map_nil]); first | done | rfl | (simp only [List.length_drop, List.length_take]; rfl)) ?_; (with_reducible refine (lex_Commands.calls a0 t291 t292 t293 _ A2.out).mono ?_); rintro e w33 ⟨v294, rfl, ho0, hb⟩; refine ⟨_, rfl, ?_⟩; have n0_ := Aside0.mk (Kd.S_lower ho0 (below_size (by repeat (first | (with_reducible first | exact HB.out | apply below_alloc | apply pw_below_drewN | apply below_drew1) | exact HB.out)))); have n1_ := Aside0.mk (below_step (by repeat (first | (with_reducible first | exact HB.out | apply below_alloc | apply pw_below_drewN | apply below_drew1) | exact HB.out)) hb); clear HB; have HO295 := n0_; have HB := n1_; clear n0_ n1_; (try clear hb); (try clear hb2); (try clear hk); (try clear hi); (try clear ho0)) | (go_at_call 15; (with_reducible refine (mullionlaw09_sure.calls k  t296 _ A32.out).mono ?_); rintro e w34 ⟨rfl, hb⟩; have n0_ := Aside0.mk (Kd.S_below (by (with_reducible repeat (first | apply Kd.S_alloc | apply Kd.S_drewN | apply Kd.S_drew)); exact HO295.out) hb); have n1_ := Aside0.mk (below_step (by repeat (first | (with_reducible first | exact HB.out | apply below_alloc | apply pw_below_drewN | apply below_drew1) | exact HB.out)) hb); clear HO295; clear HB; have HO295 := n0_; have HB := n1_; clear n0_ n1_; (try clear hb); (try clear hb2); (try clear hk); (try clear hi)))
        go_ret
        exact ⟨by first | rfl | (simp [errW_none, errW_some] <;> rfl) | (simp [*, errW_none, errW_some] <;> rfl), by repeat (first | (with_reducible first | exact HB.out | apply below_alloc | apply pw_below_drewN | apply below_drew1) | exact HB.out)⟩
      · rw [if_neg c31] at H
        have c31b0 : (t293 == 0) = false := beq_eq_false_iff_ne.mpr c31
        have c31b1 : (t293 != 0) = true := bne_iff_ne.mpr c31
        by_cases c35 : (t291.length : Int) = 0
        · rw [if_pos c35] at H
          have c35b0 : ((t291.length : Int) == 0) = true := beq_iff_eq.mpr c35
          have c35b1 : ((t291.length : Int) != 0) = false := bne_eq_false_iff_eq.mpr c35
          clear c35
          replace H := Option.bind_eq_some_iff.mp H
          obtain ⟨t297, A360, H⟩ := H
          replace H : (some t297) = some r := H
          have A36 := Aside0.mk A360
          clear A360
          obtain rfl := Option.some.inj H
          go_enter Try.func10, Try.ntmps10
          go_wp2_with (first | ((with_reducible refine gate_callee (f := 14) rfl ?_); refine goesL_ (some 12) rfl rfl Try.func14 (by kernel_rfl) rfl #[.string a0] rfl (by (try simp only [List.map_toArray, List.map_cons, List.map_nil]); first | done | rfl | (simp only [List.length_drop, List.length_take]; rfl)) ?_; (with_reducible refine (lex_Commands.calls a0 t291 t292 t293 _ A2.out).mono ?_); rintro e w37 ⟨v294, rfl, ho0, hb⟩; refine ⟨_, rfl, ?_⟩; have n0_ := Aside0.mk (Kd.S_lower ho0 (below_size (by repeat (first | (with_reducible first | exact HB.out | apply below_alloc | apply pw_below_drewN | apply below_drew1) | exact HB.out)))); have n1_ := Aside0.mk (below_step (by repeat (first | (with_reducible first | exact HB.out | apply below_alloc | apply pw_below_drewN | apply below_drew1) | exact HB.out)) hb); clear HB; have HO295 := n0_; have HB := n1_; clear n0_ n1_; (try clear hb); (try clear hb2); (try clear hk); (try clear hi); (try clear ho0); obtain ⟨Ao38, co38, eo38⟩ := Kd.S_slice HO295.out; subst eo38) | (go_at_call 15; (with_reducible refine (mullionlaw09_sure.calls k  t297 _ A36.out).mono ?_); rintro e w39 ⟨rfl, hb⟩; have n0_ := Aside0.mk (Kd.S_below (by (with_reducible repeat (first | apply Kd.S_alloc | apply Kd.S_drewN | apply Kd.S_drew)); exact HO295.out) hb); have n1_ := Aside0.mk (below_step (by repeat (first | (with_reducible first | exact HB.out | apply below_alloc | apply pw_below_drewN | apply below_drew1) | exact HB.out)) hb); clear HO295; clear HB; have HO295 := n0_; have HB := n1_; clear n0_ n1_; (try clear hb); (try clear hb2); (try clear hk); (try clear hi)))
          go_ret
          exact ⟨by first | rfl | (simp [errW_none, errW_some] <;> rfl) | (simp [*, errW_none, errW_some] <;> rfl), by repeat (first | (with_reducible first | exact HB.out | apply below_alloc | apply pw_below_drewN | apply below_drew1) | exact HB.out)⟩
        · rw [if_neg c35] at H
          have c35b0 : ((t291.length : Int) == 0) = false := beq_eq_false_iff_ne.mpr c35
          have c35b1 : ((t291.length : Int) != 0) = true := bne_iff_ne.mpr c35
          have c35b2 : ¬ (t291 = []) := fun h_ => c35 (by rw [h_]; rfl)
          obtain rfl := Option.some.inj H
          go_enter Try.func10, Try.ntmps10
          go_wp2_with (first | ((with_reducible refine gate_callee (f := 14) rfl ?_); refine goesL_ (some 12) rfl rfl Try.func14 (by kernel_rfl) rfl #[.string a0] rfl (by (try simp only [List.map_toArray, List.map_cons, List.map_nil]); first | done | rfl | (simp only [List.length_drop, List.length_take]; rfl)) ?_; (with_reducible refine (lex_Commands.calls a0 t291 t292 t293 _ A2.out).mono ?_); rintro e w40 ⟨v294, rfl, ho0, hb⟩; refine ⟨_, rfl, ?_⟩; have n0_ := Aside0.mk (Kd.S_lower ho0 (below_size (by repeat (first | (with_reducible first | exact HB.out | apply below_alloc | apply pw_below_drewN | apply below_drew1) | exact HB.out)))); have n1_ := Aside0.mk (below_step (by repeat (first | (with_reducible first | exact HB.out | apply below_alloc | apply pw_below_drewN | apply below_drew1) | exact HB.out)) hb); clear HB; have HO295 := n0_; have HB := n1_; clear n0_ n1_; (try clear hb); (try clear hb2); (try clear hk); (try clear hi); (try clear ho0); obtain ⟨Ao41, co41, eo41⟩ := Kd.S_slice HO295.out; subst eo41))
          go_ret
          exact ⟨by first | rfl | (simp [errW_none, errW_some] <;> rfl) | (simp [*, errW_none, errW_some] <;> rfl), by repeat (first | (with_reducible first | exact HB.out | apply below_alloc | apply pw_below_drewN | apply below_drew1) | exact HB.out)⟩
    · rw [if_neg c30] at H
      have c30b0 : (t292 == 0) = false := beq_eq_false_iff_ne.mpr c30
      have c30b1 : (t292 != 0) = true := bne_iff_ne.mpr c30
      obtain rfl := Option.some.inj H
      go_enter Try.func10, Try.ntmps10
      go_wp2_with (first | ((with_reducible refine gate_callee (f := 14) rfl ?_); refine goesL_ (some 12) rfl rfl Try.func14 (by kernel_rfl) rfl #[.string a0] rfl (by (try simp only [List.map_toArray, List.map_cons, List.map_nil]); first | done | rfl | (simp only [List.length_drop, List.length_take]; rfl)) ?_; (with_reducible refine (lex_Commands.calls a0 t291 t292 t293 _ A2.out).mono ?_); rintro e w42 ⟨v294, rfl, ho0, hb⟩; refine ⟨_, rfl, ?_⟩; have n0_ := Aside0.mk (Kd.S_lower ho0 (below_size (by repeat (first | (with_reducible first | exact HB.out | apply below_alloc | apply pw_below_drewN | apply below_drew1) | exact HB.out)))); have n1_ := Aside0.mk (below_step (by repeat (first | (with_reducible first | exact HB.out | apply below_alloc | apply pw_below_drewN | apply below_drew1) | exact HB.out)) hb); clear HB; have HO295 := n0_; have HB := n1_; clear n0_ n1_; (try clear hb); (try clear hb2); (try clear hk); (try clear hi); (try clear ho0)))
      go_ret
      exact ⟨by first | rfl | (simp [errW_none, errW_some] <;> rfl) | (simp [*, errW_none, errW_some] <;> rfl), by repeat (first | (with_reducible first | exact HB.out | apply below_alloc | apply pw_below_drewN | apply below_drew1) | exact HB.out)⟩

/-- THE ONE PURE STATEMENT of mullionlaw09_LexPlaces: yours. -/
def mullionlaw09_LexPlaces.Pure : Prop := ∀ (a0 : ByteArray), a0.size ≤ 140737488351232 → ∃ k, mullionlaw09_LexPlaces.f k a0 = some true
theorem mullionlaw09_LexPlaces.walk (P : mullionlaw09_LexPlaces.Pure) (a0 : ByteArray) (w : World) (w0 : a0.size ≤ 140737488351232) :
    Calls Try.prog 10 #[.string a0] w fun e w' => e = .returned (.bool true) ∧ Below w.heap.size w w' := by
  obtain ⟨k, h⟩ := P a0 w0
  refine (mullionlaw09_LexPlaces.calls k a0 true w h).mono ?_
  rintro e w' ⟨rfl, hd⟩
  exact ⟨rfl, hd⟩

-- NOT PRINTED: function 11 (mullionlaw09_LexOwn)

end Go.Proofs.Ytfpbgchlemcpbaa.PL
