-- Written by this session's own run of a turned printer; Lean checks every line.
import Derived.Test.YtfpbgchlemcpbaaPLx0
import Derived.Test.YtfpbgchlemcpbaaPLx1
namespace Go.Proofs.Ytfpbgchlemcpbaa.PL
open Go.RowKit Go.Proofs.YtfpbgchlemcpbaaW.PrintWords Go.Proofs.YtfpbgchlemcpbaaW.PrintLast Go.Proofs.YtfpbgchlemcpbaaW.PrintMore
attribute [local go_sem] max2_int min2_int max_two min_two max_three min_three max_four min_four   -- for this text's walks alone
set_option linter.unusedVariables false
set_option linter.unusedSimpArgs false

/-! ### mullionlaw09_LexBlanks: function 8 -/
mutual
def mullionlaw09_LexBlanks.j0 : Nat → ByteArray → Int → ByteArray → List ByteArray → Bool → Option (Bool)
  | 0, _, _, _, _, _ => none
  | k + 1, x0, x1, x2, x7, x25 => if x25 = true then (mullionlaw09_LexBlanks.j1 k x0 1 x2 x7) else (mullionlaw09_LexBlanks.j1 k x0 x1 x2 x7)
def mullionlaw09_LexBlanks.j1 : Nat → ByteArray → Int → ByteArray → List ByteArray → Option (Bool)
  | 0, _, _, _, _ => none
  | k + 1, x0, x1, x2, x7 => (lex_Commands.f x0).bind fun bt218 => (if bt218.2.2 = 0 then (mullionlaw09_LexBlanks.j2 k x0 x1 x2 x7 bt218.1 (decide ((x0.size : Int) > 8000))) else (mullionlaw09_LexBlanks.j2 k x0 x1 x2 x7 bt218.1 true))
def mullionlaw09_LexBlanks.j2 : Nat → ByteArray → Int → ByteArray → List ByteArray → List (List ByteArray) → Bool → Option (Bool)
  | 0, _, _, _, _, _, _ => none
  | k + 1, x0, x1, x2, x7, x8, x38 => if x38 = true then ((mullionlaw09_sure.f k).bind fun t223 => (some t223)) else (if 0 ≤ x1 then (if x1 < (x7.length : Int) then (if (rdOf ByteArray.empty x7 x1).size + x0.size ≤ 9223372036854775807 then ((lex_Commands.f ((rdOf ByteArray.empty x7 x1) ++ x0)).bind fun bt225 => ((mullionlaw09_same.f k x8 bt225.1).bind fun t230 => (if t230 = true then (if bt225.2.1 = 0 then (mullionlaw09_LexBlanks.j3 k x0 x1 x2 x7 x8 (bt225.2.2 != 0)) else (mullionlaw09_LexBlanks.j3 k x0 x1 x2 x7 x8 true)) else (mullionlaw09_LexBlanks.j3 k x0 x1 x2 x7 x8 true)))) else (none)) else (none)) else (none))
def mullionlaw09_LexBlanks.j3 : Nat → ByteArray → Int → ByteArray → List ByteArray → List (List ByteArray) → Bool → Option (Bool)
  | 0, _, _, _, _, _, _ => none
  | k + 1, x0, x1, x2, x7, x8, x62 => if x62 = true then (some false) else (if x0.size + 1 ≤ 9223372036854775807 then ((lex_Commands.f (x0 ++ (⟨#[10]⟩ : ByteArray))).bind fun bt231 => (if 0 ≤ x1 then (if x1 < (x7.length : Int) then (if (x0 ++ (⟨#[10]⟩ : ByteArray)).size + (rdOf ByteArray.empty x7 x1).size ≤ 9223372036854775807 then ((lex_Commands.f ((x0 ++ (⟨#[10]⟩ : ByteArray)) ++ (rdOf ByteArray.empty x7 x1))).bind fun bt237 => (if bt231.2.2 = 0 then ((mullionlaw09_same.f k bt231.1 bt237.1).bind fun t242 => (if t242 = true then (mullionlaw09_LexBlanks.j4 k x0 x2 x8 (bt237.2.2 != 0)) else (mullionlaw09_LexBlanks.j4 k x0 x2 x8 true))) else (mullionlaw09_LexBlanks.j4 k x0 x2 x8 false))) else (none)) else (none)) else (none))) else (none))
def mullionlaw09_LexBlanks.j4 : Nat → ByteArray → ByteArray → List (List ByteArray) → Bool → Option (Bool)
  | 0, _, _, _, _ => none
  | k + 1, x0, x2, x8, x93 => if x93 = true then (some false) else (if (x2.size : Int) > 0 then (if 0 < (x2.size : Int) then (if (bt x2 0) = 123 then (mullionlaw09_LexBlanks.j5 k x0 x2 x8 true) else (mullionlaw09_LexBlanks.j5 k x0 x2 x8 (decide ((x2.size : Int) > 100)))) else (none)) else (mullionlaw09_LexBlanks.j5 k x0 x2 x8 (decide ((x2.size : Int) > 100))))
def mullionlaw09_LexBlanks.j5 : Nat → ByteArray → ByteArray → List (List ByteArray) → Bool → Option (Bool)
  | 0, _, _, _, _ => none
  | k + 1, x0, x2, x8, x106 => if x106 = true then ((mullionlaw09_sure.f k).bind fun t243 => (some t243)) else (if x0.size + 2 ≤ 9223372036854775807 then (if (x0 ++ (⟨#[32, 35]⟩ : ByteArray)).size + x2.size ≤ 9223372036854775807 then ((lex_Commands.f ((x0 ++ (⟨#[32, 35]⟩ : ByteArray)) ++ x2)).bind fun bt244 => ((mullionlaw09_same.f k x8 bt244.1).bind fun t249 => (if t249 = true then (if bt244.2.1 = 0 then (if bt244.2.2 = 0 then ((mullionlaw09_sure.f k).bind fun t250 => (some t250)) else (some false)) else (some false)) else (some false)))) else (none)) else (none))
end
def mullionlaw09_LexBlanks.f (k : Nat) (a0 : ByteArray) (a1 : Int) (a2 : ByteArray) : Option (Bool) := (some (([(⟨#[]⟩ : ByteArray), (⟨#[32]⟩ : ByteArray), (⟨#[9]⟩ : ByteArray), (⟨#[32, 32]⟩ : ByteArray), (⟨#[59]⟩ : ByteArray), (⟨#[32, 59, 32, 59, 9]⟩ : ByteArray)] : List ByteArray) : List ByteArray)).bind fun y215 => (if a1 < 0 then (mullionlaw09_LexBlanks.j0 k a0 a1 a2 y215 true) else (mullionlaw09_LexBlanks.j0 k a0 a1 a2 y215 (decide (a1 ≥ (y215.length : Int)))))
theorem mullionlaw09_LexBlanks.mono_l : ∀ k, (∀ y0 y1 y2 y3 y4, LeO (mullionlaw09_LexBlanks.j0 k y0 y1 y2 y3 y4) (mullionlaw09_LexBlanks.j0 (k + 1) y0 y1 y2 y3 y4)) ∧ (∀ y0 y1 y2 y3, LeO (mullionlaw09_LexBlanks.j1 k y0 y1 y2 y3) (mullionlaw09_LexBlanks.j1 (k + 1) y0 y1 y2 y3)) ∧ (∀ y0 y1 y2 y3 y4 y5, LeO (mullionlaw09_LexBlanks.j2 k y0 y1 y2 y3 y4 y5) (mullionlaw09_LexBlanks.j2 (k + 1) y0 y1 y2 y3 y4 y5)) ∧ (∀ y0 y1 y2 y3 y4 y5, LeO (mullionlaw09_LexBlanks.j3 k y0 y1 y2 y3 y4 y5) (mullionlaw09_LexBlanks.j3 (k + 1) y0 y1 y2 y3 y4 y5)) ∧ (∀ y0 y1 y2 y3, LeO (mullionlaw09_LexBlanks.j4 k y0 y1 y2 y3) (mullionlaw09_LexBlanks.j4 (k + 1) y0 y1 y2 y3)) ∧ (∀ y0 y1 y2 y3, LeO (mullionlaw09_LexBlanks.j5 k y0 y1 y2 y3) (mullionlaw09_LexBlanks.j5 (k + 1) y0 y1 y2 y3))
  | 0 => ⟨fun _ _ _ _ _ r h => by simp [mullionlaw09_LexBlanks.j0] at h, fun _ _ _ _ r h => by simp [mullionlaw09_LexBlanks.j1] at h, fun _ _ _ _ _ _ r h => by simp [mullionlaw09_LexBlanks.j2] at h, fun _ _ _ _ _ _ r h => by simp [mullionlaw09_LexBlanks.j3] at h, fun _ _ _ _ r h => by simp [mullionlaw09_LexBlanks.j4] at h, fun _ _ _ _ r h => by simp [mullionlaw09_LexBlanks.j5] at h⟩
  | k + 1 => by
    obtain ⟨ih0, ih1, ih2, ih3, ih4, ih5⟩ := mullionlaw09_LexBlanks.mono_l k
    refine ⟨?_, ?_, ?_, ?_, ?_, ?_⟩
    · intro y0 y1 y2 y3 y4
      unfold mullionlaw09_LexBlanks.j0
      repeat' first
      | (with_reducible exact ih0 _ _ _ _ _)
      | (with_reducible exact ih1 _ _ _ _)
      | (with_reducible exact ih2 _ _ _ _ _ _)
      | (with_reducible exact ih3 _ _ _ _ _ _)
      | (with_reducible exact ih4 _ _ _ _)
      | (with_reducible exact ih5 _ _ _ _)
      | (with_reducible exact mullionlaw09_same.mono _ _ _)
      | (with_reducible exact mullionlaw09_sure.mono _)
      | (with_reducible exact LeO.refl _)
      | (with_reducible exact LeO.none _)
      | (with_reducible refine LeO.ite ?_ ?_)
      | (with_reducible refine LeO.bind ?_ (fun _ => ?_))
      | exact ih0 _ _ _ _ _
      | exact ih1 _ _ _ _
      | exact ih2 _ _ _ _ _ _
      | exact ih3 _ _ _ _ _ _
      | exact ih4 _ _ _ _
      | exact ih5 _ _ _ _
      | exact mullionlaw09_same.mono _ _ _
      | exact mullionlaw09_sure.mono _
      | exact LeO.none _
      | refine LeO.ite ?_ ?_
      | refine LeO.bind ?_ (fun _ => ?_)
    · intro y0 y1 y2 y3
      unfold mullionlaw09_LexBlanks.j1
      repeat' first
      | (with_reducible exact ih0 _ _ _ _ _)
      | (with_reducible exact ih1 _ _ _ _)
      | (with_reducible exact ih2 _ _ _ _ _ _)
      | (with_reducible exact ih3 _ _ _ _ _ _)
      | (with_reducible exact ih4 _ _ _ _)
      | (with_reducible exact ih5 _ _ _ _)
      | (with_reducible exact mullionlaw09_same.mono _ _ _)
      | (with_reducible exact mullionlaw09_sure.mono _)
      | (with_reducible exact LeO.refl _)
      | (with_reducible exact LeO.none _)
      | (with_reducible refine LeO.ite ?_ ?_)
      | (with_reducible refine LeO.bind ?_ (fun _ => ?_))
      | exact ih0 _ _ _ _ _
      | exact ih1 _ _ _ _
      | exact ih2 _ _ _ _ _ _
      | exact ih3 _ _ _ _ _ _
      | exact ih4 _ _ _ _
      | exact ih5 _ _ _ _
      | exact mullionlaw09_same.mono _ _ _
      | exact mullionlaw09_sure.mono _
      | exact LeO.none _
      | refine LeO.ite ?_ ?_
      | refine LeO.bind ?_ (fun _ => ?_)
    · intro y0 y1 y2 y3 y4 y5
      unfold mullionlaw09_LexBlanks.j2
      repeat' first
      | (with_reducible exact ih0 _ _ _ _ _)
      | (with_reducible exact ih1 _ _ _ _)
      | (with_reducible exact ih2 _ _ _ _ _ _)
      | (with_reducible exact ih3 _ _ _ _ _ _)
      | (with_reducible exact ih4 _ _ _ _)
      | (with_reducible exact ih5 _ _ _ _)
      | (with_reducible exact mullionlaw09_same.mono _ _ _)
      | (with_reducible exact mullionlaw09_sure.mono _)
      | (with_reducible exact LeO.refl _)
      | (with_reducible exact LeO.none _)
      | (with_reducible refine LeO.ite ?_ ?_)
      | (with_reducible refine LeO.bind ?_ (fun _ => ?_))
      | exact ih0 _ _ _ _ _
      | exact ih1 _ _ _ _
      | exact ih2 _ _ _ _ _ _
      | exact ih3 _ _ _ _ _ _
      | exact ih4 _ _ _ _
      | exact ih5 _ _ _ _
      | exact mullionlaw09_same.mono _ _ _
      | exact mullionlaw09_sure.mono _
      | exact LeO.none _
      | refine LeO.ite ?_ ?_
      | refine LeO.bind ?_ (fun _ => ?_)
    · intro y0 y1 y2 y3 y4 y5
      unfold mullionlaw09_LexBlanks.j3
      repeat' first
      | (with_reducible exact ih0 _ _ _ _ _)
      | (with_reducible exact ih1 _ _ _ _)
      | (with_reducible exact ih2 _ _ _ _ _ _)
      | (with_reducible exact ih3 _ _ _ _ _ _)
      | (with_reducible exact ih4 _ _ _ _)
      | (with_reducible exact ih5 _ _ _ _)
      | (with_reducible exact mullionlaw09_same.mono _ _ _)
      | (with_reducible exact mullionlaw09_sure.mono _)
      | (with_reducible exact LeO.refl _)
      | (with_reducible exact LeO.none _)
      | (with_reducible refine LeO.ite ?_ ?_)
      | (with_reducible refine LeO.bind ?_ (fun _ => ?_))
      | exact ih0 _ _ _ _ _
      | exact ih1 _ _ _ _
      | exact ih2 _ _ _ _ _ _
      | exact ih3 _ _ _ _ _ _
      | exact ih4 _ _ _ _
      | exact ih5 _ _ _ _
      | exact mullionlaw09_same.mono _ _ _
      | exact mullionlaw09_sure.mono _
      | exact LeO.none _
      | refine LeO.ite ?_ ?_
      | refine LeO.bind ?_ (fun _ => ?_)
    · intro y0 y1 y2 y3
      unfold mullionlaw09_LexBlanks.j4
      repeat' first
      | (with_reducible exact ih0 _ _ _ _ _)
      | (with_reducible exact ih1 _ _ _ _)
      | (with_reducible exact ih2 _ _ _ _ _ _)
      | (with_reducible exact ih3 _ _ _ _ _ _)
      | (with_reducible exact ih4 _ _ _ _)
      | (with_reducible exact ih5 _ _ _ _)
      | (with_reducible exact mullionlaw09_same.mono _ _ _)
      | (with_reducible exact mullionlaw09_sure.mono _)
      | (with_reducible exact LeO.refl _)
      | (with_reducible exact LeO.none _)
      | (with_reducible refine LeO.ite ?_ ?_)
      | (with_reducible refine LeO.bind ?_ (fun _ => ?_))
      | exact ih0 _ _ _ _ _
      | exact ih1 _ _ _ _
      | exact ih2 _ _ _ _ _ _
      | exact ih3 _ _ _ _ _ _
      | exact ih4 _ _ _ _
      | exact ih5 _ _ _ _
      | exact mullionlaw09_same.mono _ _ _
      | exact mullionlaw09_sure.mono _
      | exact LeO.none _
      | refine LeO.ite ?_ ?_
      | refine LeO.bind ?_ (fun _ => ?_)
    · intro y0 y1 y2 y3
      unfold mullionlaw09_LexBlanks.j5
      repeat' first
      | (with_reducible exact ih0 _ _ _ _ _)
      | (with_reducible exact ih1 _ _ _ _)
      | (with_reducible exact ih2 _ _ _ _ _ _)
      | (with_reducible exact ih3 _ _ _ _ _ _)
      | (with_reducible exact ih4 _ _ _ _)
      | (with_reducible exact ih5 _ _ _ _)
      | (with_reducible exact mullionlaw09_same.mono _ _ _)
      | (with_reducible exact mullionlaw09_sure.mono _)
      | (with_reducible exact LeO.refl _)
      | (with_reducible exact LeO.none _)
      | (with_reducible refine LeO.ite ?_ ?_)
      | (with_reducible refine LeO.bind ?_ (fun _ => ?_))
      | exact ih0 _ _ _ _ _
      | exact ih1 _ _ _ _
      | exact ih2 _ _ _ _ _ _
      | exact ih3 _ _ _ _ _ _
      | exact ih4 _ _ _ _
      | exact ih5 _ _ _ _
      | exact mullionlaw09_same.mono _ _ _
      | exact mullionlaw09_sure.mono _
      | exact LeO.none _
      | refine LeO.ite ?_ ?_
      | refine LeO.bind ?_ (fun _ => ?_)
theorem mullionlaw09_LexBlanks.mono : ∀ a0 a1 a2 k, LeO (mullionlaw09_LexBlanks.f k a0 a1 a2) (mullionlaw09_LexBlanks.f (k + 1) a0 a1 a2) := by
  intro a0 a1 a2 k
  obtain ⟨ih0, ih1, ih2, ih3, ih4, ih5⟩ := mullionlaw09_LexBlanks.mono_l k
  unfold mullionlaw09_LexBlanks.f
  repeat' first
      | (with_reducible exact ih0 _ _ _ _ _)
      | (with_reducible exact ih1 _ _ _ _)
      | (with_reducible exact ih2 _ _ _ _ _ _)
      | (with_reducible exact ih3 _ _ _ _ _ _)
      | (with_reducible exact ih4 _ _ _ _)
      | (with_reducible exact ih5 _ _ _ _)
      | (with_reducible exact mullionlaw09_same.mono _ _ _)
      | (with_reducible exact mullionlaw09_sure.mono _)
      | (with_reducible exact LeO.refl _)
      | (with_reducible exact LeO.none _)
      | (with_reducible refine LeO.ite ?_ ?_)
      | (with_reducible refine LeO.bind ?_ (fun _ => ?_))
      | exact ih0 _ _ _ _ _
      | exact ih1 _ _ _ _
      | exact ih2 _ _ _ _ _ _
      | exact ih3 _ _ _ _ _ _
      | exact ih4 _ _ _ _
      | exact ih5 _ _ _ _
      | exact mullionlaw09_same.mono _ _ _
      | exact mullionlaw09_sure.mono _
      | exact LeO.none _
      | refine LeO.ite ?_ ?_
      | refine LeO.bind ?_ (fun _ => ?_)
set_option maxHeartbeats 8000000 in
set_option maxRecDepth 100000 in
theorem mullionlaw09_LexBlanks.calls (k : Nat) (a0 : ByteArray) (a1 : Int) (a2 : ByteArray) (r : Bool) (w : World) (h : mullionlaw09_LexBlanks.f k a0 a1 a2 = some r) :
    Calls Try.prog 8 #[.string a0, .int .i64 a1, .string a2] w fun e w' => e = .returned (.bool r) ∧ Below w.heap.size w w' := by
  have HB := Aside0.mk (Below.refl w.heap.size w)
  have H : ((some (([(⟨#[]⟩ : ByteArray), (⟨#[32]⟩ : ByteArray), (⟨#[9]⟩ : ByteArray), (⟨#[32, 32]⟩ : ByteArray), (⟨#[59]⟩ : ByteArray), (⟨#[32, 59, 32, 59, 9]⟩ : ByteArray)] : List ByteArray) : List ByteArray)).bind fun y215 => (if a1 < 0 then (mullionlaw09_LexBlanks.j0 k a0 a1 a2 y215 true) else (mullionlaw09_LexBlanks.j0 k a0 a1 a2 y215 (decide (a1 ≥ (y215.length : Int)))))) = some r := h
  clear h
  obtain ⟨y215, hy215⟩ : ∃ y_ : List ByteArray, y_ = (([(⟨#[]⟩ : ByteArray), (⟨#[32]⟩ : ByteArray), (⟨#[9]⟩ : ByteArray), (⟨#[32, 32]⟩ : ByteArray), (⟨#[59]⟩ : ByteArray), (⟨#[32, 59, 32, 59, 9]⟩ : ByteArray)] : List ByteArray)) := ⟨_, rfl⟩
  replace H : (if a1 < 0 then (mullionlaw09_LexBlanks.j0 k a0 a1 a2 y215 true) else (mullionlaw09_LexBlanks.j0 k a0 a1 a2 y215 (decide (a1 ≥ (y215.length : Int))))) = some r := by first | (rw [hy215]; with_reducible exact H) | (have H2_ := (Option.bind_some _ _).symm.trans H; rw [hy215]; with_reducible exact H2_) | (have H2_ := (Option.bind_some _ _).symm.trans H; with_reducible exact H2_) | with_reducible exact H | (rw [hy215]; exact H) | exact H
  have Ny215 := Aside0.mk hy215
  clear hy215
  have HC4 := Aside0.mk H
  clear H
  go_enter Try.func8, Try.ntmps8
  go_upto_region 2 with (first | ((with_reducible refine gate_dst (N := 17) rfl ?_); (try (refine gate_guard (by rfl) ?_; dsimp only)); refine Kd.R_lit Kd.string _ 9 ?hg (N := 17) ?hd (xs := ([(⟨#[]⟩ : ByteArray), (⟨#[32]⟩ : ByteArray), (⟨#[9]⟩ : ByteArray), (⟨#[32, 32]⟩ : ByteArray), (⟨#[59]⟩ : ByteArray), (⟨#[32, 59, 32, 59, 9]⟩ : ByteArray)] : List ByteArray)) (inner := [.string (⟨#[]⟩ : ByteArray), .string (⟨#[32]⟩ : ByteArray), .string (⟨#[9]⟩ : ByteArray), .string (⟨#[32, 32]⟩ : ByteArray), .string (⟨#[59]⟩ : ByteArray), .string (⟨#[32, 59, 32, 59, 9]⟩ : ByteArray)]) (ok := fun _ => True) (okp := fun _ => True) ?hr ?hp (fun _ hk => hk) trivial (Below.refl _ _) (Nat.le_refl _) (by simp) ?_; (case hd => rfl); (case hg => rfl); (case hr => first | (go_simp; done) | (go_simp; rfl)); (case hp => exact (Reps.one (show Kd.M Kd.string _ _ _ (⟨#[]⟩ : ByteArray) [.string (⟨#[]⟩ : ByteArray)] from rfl) (Reps.one (show Kd.M Kd.string _ _ _ (⟨#[32]⟩ : ByteArray) [.string (⟨#[32]⟩ : ByteArray)] from rfl) (Reps.one (show Kd.M Kd.string _ _ _ (⟨#[9]⟩ : ByteArray) [.string (⟨#[9]⟩ : ByteArray)] from rfl) (Reps.one (show Kd.M Kd.string _ _ _ (⟨#[32, 32]⟩ : ByteArray) [.string (⟨#[32, 32]⟩ : ByteArray)] from rfl) (Reps.one (show Kd.M Kd.string _ _ _ (⟨#[59]⟩ : ByteArray) [.string (⟨#[59]⟩ : ByteArray)] from rfl) (Reps.one (show Kd.M Kd.string _ _ _ (⟨#[32, 59, 32, 59, 9]⟩ : ByteArray) [.string (⟨#[32, 59, 32, 59, 9]⟩ : ByteArray)] from rfl) (Reps.none _ _)))))))); intro v216 w5 ho6 hb hg_ hnew_; clear hg_ hnew_; (first | rw [← Ny215.out] at ho6 | (simp only [Int.reduceToNat] at ho6; rw [← Ny215.out] at ho6)); have n0_ := Aside0.mk (Kd.R_lower ho6 (below_size (by repeat (first | (with_reducible first | exact HB.out | apply below_alloc | apply pw_below_drewN | apply below_drew1) | exact HB.out)))); have n1_ := Aside0.mk (below_step (by repeat (first | (with_reducible first | exact HB.out | apply below_alloc | apply pw_below_drewN | apply below_drew1) | exact HB.out)) hb); clear HB; have HO217 := n0_; have HB := n1_; clear n0_ n1_; clear hb ho6))
  (try simp only [Act.put, List.setIfInBounds_toArray, List.set_cons_zero, List.set_cons_succ])
  go_cut [25] (fun v25 wc => ∃ (kq : Nat) (x25_3 : Bool), v25 = .bool x25_3 ∧ Aside0 (mullionlaw09_LexBlanks.j0 kq a0 a1 a2 y215 x25_3 = some r) ∧ Aside0 (kq ≤ k) ∧ Aside0 (Kd.R Kd.string 9 wc w.heap.size (fun _ => True) v216 y215) ∧ Aside0 (Below w.heap.size w wc))
  case first =>
    have H := HC4.out
    clear HC4
    by_cases c7 : a1 < 0
    · rw [if_pos c7] at H
      have c7b0 : decide (a1 < 0) = true := decide_eq_true c7
      clear c7
      (first | rw [c7b0] | (simp only [i64_w, i32_w]; rw [c7b0]) | skip)
      have H' := Aside0.mk H
      clear H
      go_wp2
      go_meet
      case rel => exact ⟨_, (true), (by first | rfl | (simp; done) | (simp [*]; done) | (simp; exact isEmpty_bne _)), H', ⟨by first | omega | exact Nat.le_refl _⟩, ⟨by (with_reducible repeat (first | apply Kd.R_alloc | apply Kd.R_drewN | apply Kd.R_drew)); exact HO217.out⟩, ⟨by repeat (first | (with_reducible first | exact HB.out | apply below_alloc | apply pw_below_drewN | apply below_drew1) | exact HB.out)⟩⟩
    · rw [if_neg c7] at H
      have c7b0 : decide (a1 < 0) = false := decide_eq_false c7
      clear c7
      (first | rw [c7b0] | (simp only [i64_w, i32_w]; rw [c7b0]) | skip)
      have H' := Aside0.mk H
      clear H
      obtain ⟨Ao8, co8, eo8⟩ := Kd.R_slice HO217.out
      subst eo8
      go_wp2
      go_meet
      case rel => exact ⟨_, (decide (a1 ≥ (y215.length : Int))), (by first | rfl | (simp; done) | (simp [*]; done) | (simp; exact isEmpty_bne _)), H', ⟨by first | omega | exact Nat.le_refl _⟩, ⟨by (with_reducible repeat (first | apply Kd.R_alloc | apply Kd.R_drewN | apply Kd.R_drew)); exact HO217.out⟩, ⟨by repeat (first | (with_reducible first | exact HB.out | apply below_alloc | apply pw_below_drewN | apply below_drew1) | exact HB.out)⟩⟩
  case rest =>
    clear HC4
    try clear p2
    try clear c7
    try clear c7b0
    try clear c8
    obtain ⟨kq, x25_3, rfl, HA, HJ3, HO_7, HB⟩ := hcut
    cases kq with
    | zero => exact absurd HA.out (by simp [mullionlaw09_LexBlanks.j0])
    | succ kj3 =>
      have H := HA.out
      clear HA
      simp only [mullionlaw09_LexBlanks.j0] at H
      have HC9 := Aside0.mk H
      clear H
      go_upto_if 25 with (fail)
      go_cut [1] (fun v1 wc => ∃ (kq : Nat) (x1_8 : Int), v1 = .int .i64 x1_8 ∧ Aside0 (mullionlaw09_LexBlanks.j1 kq a0 x1_8 a2 y215 = some r) ∧ Aside0 (kq ≤ kj3) ∧ Aside0 (Kd.R Kd.string 9 wc w.heap.size (fun _ => True) v216 y215) ∧ Aside0 (Below w.heap.size w wc))
      case first =>
        have H := HC9.out
        clear HC9
        by_cases c10 : x25_3 = true
        · subst c10
          have H1 : (mullionlaw09_LexBlanks.j1 kj3 a0 1 a2 y215) = some r := by rw [if_pos rfl] at H; exact H
          clear H
          have H := H1
          clear H1
          have H' := Aside0.mk H
          clear H
          go_wp2
          go_meet
          case rel => exact ⟨_, (1), (by first | rfl | (simp; done) | (simp [*]; done) | (simp; exact isEmpty_bne _)), H', ⟨by have := HJ3.out; first | omega | exact Nat.le_refl _⟩, ⟨by (with_reducible repeat (first | apply Kd.R_alloc | apply Kd.R_drewN | apply Kd.R_drew)); exact HO_7.out⟩, ⟨by repeat (first | (with_reducible first | exact HB.out | apply below_alloc | apply pw_below_drewN | apply below_drew1) | exact HB.out)⟩⟩
        · replace c10 := Bool.eq_false_iff.mpr c10
          subst c10
          have H1 : (mullionlaw09_LexBlanks.j1 kj3 a0 a1 a2 y215) = some r := by rw [if_neg (show ¬ (false = true) by decide)] at H; exact H
          clear H
          have H := H1
          clear H1
          have H' := Aside0.mk H
          clear H
          go_wp2
          go_meet
          case rel => exact ⟨_, (a1), (by first | rfl | (simp; done) | (simp [*]; done) | (simp; exact isEmpty_bne _)), H', ⟨by have := HJ3.out; first | omega | exact Nat.le_refl _⟩, ⟨by (with_reducible repeat (first | apply Kd.R_alloc | apply Kd.R_drewN | apply Kd.R_drew)); exact HO_7.out⟩, ⟨by repeat (first | (with_reducible first | exact HB.out | apply below_alloc | apply pw_below_drewN | apply below_drew1) | exact HB.out)⟩⟩
      case rest =>
        clear HC9
        try clear c1
        try clear p2
        try clear c7
        try clear c7b0
        try clear c8
        try clear c10
        try clear p2
        obtain ⟨kq, x1_8, rfl, HA, HJ8, HO_7, HB⟩ := hcut
        cases kq with
        | zero => exact absurd HA.out (by simp [mullionlaw09_LexBlanks.j1])
        | succ kj8 =>
          have H := HA.out
          clear HA
          simp only [mullionlaw09_LexBlanks.j1] at H
          replace H := Option.bind_eq_some_iff.mp H
          obtain ⟨⟨t218, t219, t220⟩, A110, H⟩ := H
          replace H : (if t220 = 0 then (mullionlaw09_LexBlanks.j2 kj8 a0 x1_8 a2 y215 t218 (decide ((a0.size : Int) > 8000))) else (mullionlaw09_LexBlanks.j2 kj8 a0 x1_8 a2 y215 t218 true)) = some r := H
          have A11 := Aside0.mk A110
          clear A110
          have HC12 := Aside0.mk H
          clear H
          go_upto_region 5 with (first | ((with_reducible refine gate_callee (f := 14) rfl ?_); refine goesL_ (some 28) rfl rfl Try.func14 (by kernel_rfl) rfl #[.string a0] rfl (by (try simp only [List.map_toArray, List.map_cons, List.map_nil]); first | done | rfl | (simp only [List.length_drop, List.length_take]; rfl)) ?_; (with_reducible refine (lex_Commands.calls a0 t218 t219 t220 _ A11.out).mono ?_); rintro e w13 ⟨v221, rfl, ho0, hb⟩; refine ⟨_, rfl, ?_⟩; have n0_ := Aside0.mk (Kd.R_below (by (with_reducible repeat (first | apply Kd.R_alloc | apply Kd.R_drewN | apply Kd.R_drew)); exact HO_7.out) hb); have n1_ := Aside0.mk (Kd.S_lower (Kd.S_new' ho0 (Kd.R_lt (by (with_reducible repeat (first | apply Kd.R_alloc | apply Kd.R_drewN | apply Kd.R_drew)); exact HO_7.out))) (below_size (by repeat (first | (with_reducible first | exact HB.out | apply below_alloc | apply pw_below_drewN | apply below_drew1) | exact HB.out)))); have n2_ := Aside0.mk (below_step (by repeat (first | (with_reducible first | exact HB.out | apply below_alloc | apply pw_below_drewN | apply below_drew1) | exact HB.out)) hb); clear HO_7; clear HB; have HO_7 := n0_; have HO222 := n1_; have HB := n2_; clear n0_ n1_ n2_; (try clear hb); (try clear hb2); (try clear hk); (try clear hi); (try clear ho0)))
          (try simp only [Act.put, List.setIfInBounds_toArray, List.set_cons_zero, List.set_cons_succ])
          go_cut [38] (fun v38 wc => ∃ (kq : Nat) (x38_11 : Bool), v38 = .bool x38_11 ∧ Aside0 (mullionlaw09_LexBlanks.j2 kq a0 x1_8 a2 y215 t218 x38_11 = some r) ∧ Aside0 (kq ≤ kj8) ∧ Aside0 (Kd.R Kd.string 9 wc w.heap.size (fun _ => True) v216 y215) ∧ Aside0 (Kd.S (Kd.slice 9 Kd.string) 30 wc w.heap.size (fun k_ => some k_ ≠ (v216 : Value).ownBlock) v221 t218) ∧ Aside0 (Below w.heap.size w wc))
          case first =>
            have H := HC12.out
            clear HC12
            by_cases c14 : t220 = 0
            · rw [if_pos c14] at H
              have c14b0 : (t220 == 0) = true := beq_iff_eq.mpr c14
              have c14b1 : (t220 != 0) = false := bne_eq_false_iff_eq.mpr c14
              clear c14
              (first | rw [c14b0] | (simp only [i64_w, i32_w]; rw [c14b0]) | skip)
              have H' := Aside0.mk H
              clear H
              go_wp2
              go_meet
              case rel => exact ⟨_, (decide ((a0.size : Int) > 8000)), (by first | rfl | (simp; done) | (simp [*]; done) | (simp; exact isEmpty_bne _)), H', ⟨by have := HJ3.out; have := HJ8.out; first | omega | exact Nat.le_refl _⟩, ⟨by (with_reducible repeat (first | apply Kd.R_alloc | apply Kd.R_drewN | apply Kd.R_drew)); exact HO_7.out⟩, ⟨by (with_reducible repeat (first | apply Kd.S_alloc | apply Kd.S_drewN | apply Kd.S_drew)); exact Kd.S_mono HO222.out (fun _ hk => hk.2)⟩, ⟨by repeat (first | (with_reducible first | exact HB.out | apply below_alloc | apply pw_below_drewN | apply below_drew1) | exact HB.out)⟩⟩
            · rw [if_neg c14] at H
              have c14b0 : (t220 == 0) = false := beq_eq_false_iff_ne.mpr c14
              have c14b1 : (t220 != 0) = true := bne_iff_ne.mpr c14
              (first | rw [c14b0] | (simp only [i64_w, i32_w]; rw [c14b0]) | skip)
              have H' := Aside0.mk H
              clear H
              go_wp2
              go_meet
              case rel => exact ⟨_, (true), (by first | rfl | (simp; done) | (simp [*]; done) | (simp; exact isEmpty_bne _)), H', ⟨by have := HJ3.out; have := HJ8.out; first | omega | exact Nat.le_refl _⟩, ⟨by (with_reducible repeat (first | apply Kd.R_alloc | apply Kd.R_drewN | apply Kd.R_drew)); exact HO_7.out⟩, ⟨by (with_reducible repeat (first | apply Kd.S_alloc | apply Kd.S_drewN | apply Kd.S_drew)); exact Kd.S_mono HO222.out (fun _ hk => hk.2)⟩, ⟨by repeat (first | (with_reducible first | exact HB.out | apply below_alloc | apply pw_below_drewN | apply below_drew1) | exact HB.out)⟩⟩
          case rest =>
            clear HC12
            try clear c1
            try clear p2
            try clear c7
            try clear c7b0
            try clear c8
            try clear c10
            try clear c14
            try clear c14b0
            try clear c14b1
            try clear p2
            obtain ⟨kq, x38_11, rfl, HA, HJ11, HO_7, HO_8, HB⟩ := hcut
            cases kq with
            | zero => exact absurd HA.out (by simp [mullionlaw09_LexBlanks.j2])
            | succ kj11 =>
              have H := HA.out
              clear HA
              simp only [mullionlaw09_LexBlanks.j2] at H
              by_cases c15 : x38_11 = true
              · subst c15
                have H1 : ((mullionlaw09_sure.f kj11).bind fun t223 => (some t223)) = some r := by rw [if_pos rfl] at H; exact H
                clear H
                have H := H1
                clear H1
                replace H := Option.bind_eq_some_iff.mp H
                obtain ⟨t223, A160, H⟩ := H
                replace H : (some t223) = some r := H
                have A16 := Aside0.mk A160
                clear A160
                obtain rfl := Option.some.inj H
                go_wp2_with (first | ((with_reducible refine gate_callee (f := 15) rfl ?_); refine goesL_ (some 39) rfl rfl Try.func15 (by kernel_rfl) rfl #[] rfl (by (try simp only [List.map_toArray, List.map_cons, List.map_nil]); first | done | rfl | (simp only [List.length_drop, List.length_take]; rfl)) ?_; (with_reducible refine (mullionlaw09_sure.calls kj11  t223 _ A16.out).mono ?_); rintro e w17 ⟨rfl, hb⟩; refine ⟨_, rfl, ?_⟩; have n0_ := Aside0.mk (Kd.R_below (by (with_reducible repeat (first | apply Kd.R_alloc | apply Kd.R_drewN | apply Kd.R_drew)); exact HO_7.out) hb); have n1_ := Aside0.mk (Kd.S_below (by (with_reducible repeat (first | apply Kd.S_alloc | apply Kd.S_drewN | apply Kd.S_drew)); exact HO_8.out) hb); have n2_ := Aside0.mk (below_step (by repeat (first | (with_reducible first | exact HB.out | apply below_alloc | apply pw_below_drewN | apply below_drew1) | exact HB.out)) hb); clear HO_7; clear HO_8; clear HB; have HO_7 := n0_; have HO_8 := n1_; have HB := n2_; clear n0_ n1_ n2_; (try clear hb); (try clear hb2); (try clear hk); (try clear hi)))
                go_ret
                exact ⟨by first | rfl | (simp [errW_none, errW_some] <;> rfl) | (simp [*, errW_none, errW_some] <;> rfl), by repeat (first | (with_reducible first | exact HB.out | apply below_alloc | apply pw_below_drewN | apply below_drew1) | exact HB.out)⟩
              · replace c15 := Bool.eq_false_iff.mpr c15
                subst c15
                have H1 : (if 0 ≤ x1_8 then (if x1_8 < (y215.length : Int) then (if (rdOf ByteArray.empty y215 x1_8).size + a0.size ≤ 9223372036854775807 then ((lex_Commands.f ((rdOf ByteArray.empty y215 x1_8) ++ a0)).bind fun bt225 => ((mullionlaw09_same.f kj11 t218 bt225.1).bind fun t230 => (if t230 = true then (if bt225.2.1 = 0 then (mullionlaw09_LexBlanks.j3 kj11 a0 x1_8 a2 y215 t218 (bt225.2.2 != 0)) else (mullionlaw09_LexBlanks.j3 kj11 a0 x1_8 a2 y215 t218 true)) else (mullionlaw09_LexBlanks.j3 kj11 a0 x1_8 a2 y215 t218 true)))) else (none)) else (none)) else (none)) = some r := by rw [if_neg (show ¬ (false = true) by decide)] at H; exact H
                clear H
                have H := H1
                clear H1
                by_cases c18 : 0 ≤ x1_8
                · rw [if_pos c18] at H
                  have c18b0 : decide (0 ≤ x1_8) = true := decide_eq_true c18
                  clear c18
                  by_cases c19 : x1_8 < (y215.length : Int)
                  · rw [if_pos c19] at H
                    have c19b0 : decide (x1_8 < (y215.length : Int)) = true := decide_eq_true c19
                    clear c19
                    by_cases c20 : (rdOf ByteArray.empty y215 x1_8).size + a0.size ≤ 9223372036854775807
                    · rw [if_pos c20] at H
                      have c20b0 := eq_true c20
                      have c20b1 : decide ((rdOf ByteArray.empty y215 x1_8).size + a0.size ≤ 9223372036854775807) = true := decide_eq_true c20
                      try have c20b2 : (9223372036854775807 < (rdOf ByteArray.empty y215 x1_8).size + a0.size) = False := eq_false (Nat.not_lt.2 c20)
                      replace H := Option.bind_eq_some_iff.mp H
                      obtain ⟨⟨t225, t226, t227⟩, A210, H⟩ := H
                      replace H : ((mullionlaw09_same.f kj11 t218 t225).bind fun t230 => (if t230 = true then (if t226 = 0 then (mullionlaw09_LexBlanks.j3 kj11 a0 x1_8 a2 y215 t218 (t227 != 0)) else (mullionlaw09_LexBlanks.j3 kj11 a0 x1_8 a2 y215 t218 true)) else (mullionlaw09_LexBlanks.j3 kj11 a0 x1_8 a2 y215 t218 true))) = some r := H
                      have A21 := Aside0.mk A210
                      clear A210
                      have HC22 := Aside0.mk H
                      clear H
                      obtain ⟨Ao23, co23, eo23⟩ := Kd.R_slice HO_7.out
                      subst eo23
                      have p224 : 0 ≤ (x1_8 : Int) := of_decide_eq_true (by first | (with_reducible assumption) | assumption)
                      have q224 : x1_8 < (y215.length : Int) := of_decide_eq_true (by first | (with_reducible assumption) | assumption)
                      obtain ⟨ad224, e224, hx224_0⟩ := Kd.at_string (Kd.R_reads' HO_7.out).2.2 x1_8 p224 q224
                      cases e224
                      replace p224 := eq_true p224
                      replace q224 := eq_true q224
                      go_upto_region 8 with (first | ((with_reducible refine gate_callee (f := 14) rfl ?_); refine goesL_ (some 47) rfl rfl Try.func14 (by kernel_rfl) rfl #[.string ((rdOf ByteArray.empty y215 x1_8) ++ a0)] rfl (by (try simp only [List.map_toArray, List.map_cons, List.map_nil]); first | done | rfl | (simp only [List.length_drop, List.length_take]; rfl)) ?_; (with_reducible refine (lex_Commands.calls ((rdOf ByteArray.empty y215 x1_8) ++ a0) t225 t226 t227 _ A21.out).mono ?_); rintro e w24 ⟨v228, rfl, ho0, hb⟩; refine ⟨_, rfl, ?_⟩; have n0_ := Aside0.mk (Kd.R_below (by (with_reducible repeat (first | apply Kd.R_alloc | apply Kd.R_drewN | apply Kd.R_drew)); exact HO_7.out) hb); have n1_ := Aside0.mk (Kd.S_elder' (by (with_reducible repeat (first | apply Kd.S_alloc | apply Kd.S_drewN | apply Kd.S_drew)); exact HO_8.out) (Kd.S_base ho0) hb); have n2_ := Aside0.mk (Kd.S_lower (Kd.S_new' (Kd.S_new' ho0 (Kd.R_lt (by (with_reducible repeat (first | apply Kd.R_alloc | apply Kd.R_drewN | apply Kd.R_drew)); exact HO_7.out))) (Kd.S_lt (by (with_reducible repeat (first | apply Kd.S_alloc | apply Kd.S_drewN | apply Kd.S_drew)); exact HO_8.out))) (below_size (by repeat (first | (with_reducible first | exact HB.out | apply below_alloc | apply pw_below_drewN | apply below_drew1) | exact HB.out)))); have n3_ := Aside0.mk (below_step (by repeat (first | (with_reducible first | exact HB.out | apply below_alloc | apply pw_below_drewN | apply below_drew1) | exact HB.out)) hb); clear HO_7; clear HO_8; clear HB; have HO_7 := n0_; have HO_8 := n1_; have HO229 := n2_; have HB := n3_; clear n0_ n1_ n2_ n3_; (try clear hb); (try clear hb2); (try clear hk); (try clear hi); (try clear ho0)))
                      (try simp only [Act.put, List.setIfInBounds_toArray, List.set_cons_zero, List.set_cons_succ])
                      go_cut [62] (fun v62 wc => ∃ (kq : Nat) (x62_21 : Bool), v62 = .bool x62_21 ∧ Aside0 (mullionlaw09_LexBlanks.j3 kq a0 x1_8 a2 y215 t218 x62_21 = some r) ∧ Aside0 (kq ≤ kj11) ∧ Aside0 (Kd.R Kd.string 9 wc w.heap.size (fun _ => True) (.slice (some ad224) y215.length co23) y215) ∧ Aside0 (Kd.S (Kd.slice 9 Kd.string) 30 wc w.heap.size (fun k_ => some k_ ≠ ((.slice (some ad224) y215.length co23) : Value).ownBlock) v221 t218) ∧ Aside0 (Below w.heap.size w wc))
                      case first =>
                        have H := HC22.out
                        clear HC22
                        replace H := Option.bind_eq_some_iff.mp H
                        obtain ⟨t230, A250, H⟩ := H
                        replace H : (if t230 = true then (if t226 = 0 then (mullionlaw09_LexBlanks.j3 kj11 a0 x1_8 a2 y215 t218 (t227 != 0)) else (mullionlaw09_LexBlanks.j3 kj11 a0 x1_8 a2 y215 t218 true)) else (mullionlaw09_LexBlanks.j3 kj11 a0 x1_8 a2 y215 t218 true)) = some r := H
                        have A25 := Aside0.mk A250
                        clear A250
                        by_cases c26 : t230 = true
                        · subst c26
                          have H1 : (if t226 = 0 then (mullionlaw09_LexBlanks.j3 kj11 a0 x1_8 a2 y215 t218 (t227 != 0)) else (mullionlaw09_LexBlanks.j3 kj11 a0 x1_8 a2 y215 t218 true)) = some r := by rw [if_pos rfl] at H; exact H
                          clear H
                          have H := H1
                          clear H1
                          by_cases c27 : t226 = 0
                          · rw [if_pos c27] at H
                            have c27b0 : (t226 == 0) = true := beq_iff_eq.mpr c27
                            have c27b1 : (t226 != 0) = false := bne_eq_false_iff_eq.mpr c27
                            clear c27
                            (first | rw [c27b0] | (simp only [i64_w, i32_w]; rw [c27b0]) | skip)
                            have H' := Aside0.mk H
                            clear H
                            obtain ⟨Ao28, co28, eo28⟩ := Kd.S_slice HO_8.out
                            subst eo28
                            obtain ⟨Ao29, co29, eo29⟩ := Kd.S_slice HO229.out
                            subst eo29
                            go_wp2_with (first | ((with_reducible refine gate_callee (f := 16) rfl ?_); refine goesL_ (some 53) rfl rfl Try.func16 (by kernel_rfl) rfl #[.slice Ao28 t218.length co28, .slice Ao29 t225.length co29] rfl (by (try simp only [List.map_toArray, List.map_cons, List.map_nil]); first | done | rfl | (simp only [List.length_drop, List.length_take]; rfl)) ?_; (with_reducible refine (mullionlaw09_same.calls kj11 _ _ t218 _ _ t225 true _ ?side1 ?side2 ?side3 ?side4 A25.out).mono ?_); (case side1 => repeat (first | exact (Kd.S_reads' HO_8.out).2.2 | (with_reducible refine Kd.C_alloc ?_ _) | (with_reducible refine Kd.C_drewN ?_ _) | (with_reducible refine Kd.C_drew ?_))); (case side2 => exact (Kd.S_reads' HO_8.out).2.1); (case side3 => repeat (first | exact (Kd.S_reads' HO229.out).2.2 | (with_reducible refine Kd.C_alloc ?_ _) | (with_reducible refine Kd.C_drewN ?_ _) | (with_reducible refine Kd.C_drew ?_))); (case side4 => exact (Kd.S_reads' HO229.out).2.1); rintro e w' ⟨rfl, ⟨nd, rfl⟩⟩; refine ⟨_, rfl, ?_⟩))
                            go_meet
                            case rel => exact ⟨_, ((t227 != 0)), (by first | rfl | (simp; done) | (simp [*]; done) | (simp; exact isEmpty_bne _)), H', ⟨by have := HJ3.out; have := HJ8.out; have := HJ11.out; first | omega | exact Nat.le_refl _⟩, ⟨by (with_reducible repeat (first | apply Kd.R_alloc | apply Kd.R_drewN | apply Kd.R_drew)); exact HO_7.out⟩, ⟨by (with_reducible repeat (first | apply Kd.S_alloc | apply Kd.S_drewN | apply Kd.S_drew)); exact Kd.S_mono HO_8.out (fun _ hk => hk.1)⟩, ⟨by repeat (first | (with_reducible first | exact HB.out | apply below_alloc | apply pw_below_drewN | apply below_drew1) | exact HB.out)⟩⟩
                          · rw [if_neg c27] at H
                            have c27b0 : (t226 == 0) = false := beq_eq_false_iff_ne.mpr c27
                            have c27b1 : (t226 != 0) = true := bne_iff_ne.mpr c27
                            (first | rw [c27b0] | (simp only [i64_w, i32_w]; rw [c27b0]) | skip)
                            have H' := Aside0.mk H
                            clear H
                            obtain ⟨Ao30, co30, eo30⟩ := Kd.S_slice HO_8.out
                            subst eo30
                            obtain ⟨Ao31, co31, eo31⟩ := Kd.S_slice HO229.out
                            subst eo31
                            go_wp2_with (first | ((with_reducible refine gate_callee (f := 16) rfl ?_); refine goesL_ (some 53) rfl rfl Try.func16 (by kernel_rfl) rfl #[.slice Ao30 t218.length co30, .slice Ao31 t225.length co31] rfl (by (try simp only [List.map_toArray, List.map_cons, List.map_nil]); first | done | rfl | (simp only [List.length_drop, List.length_take]; rfl)) ?_; (with_reducible refine (mullionlaw09_same.calls kj11 _ _ t218 _ _ t225 true _ ?side1 ?side2 ?side3 ?side4 A25.out).mono ?_); (case side1 => repeat (first | exact (Kd.S_reads' HO_8.out).2.2 | (with_reducible refine Kd.C_alloc ?_ _) | (with_reducible refine Kd.C_drewN ?_ _) | (with_reducible refine Kd.C_drew ?_))); (case side2 => exact (Kd.S_reads' HO_8.out).2.1); (case side3 => repeat (first | exact (Kd.S_reads' HO229.out).2.2 | (with_reducible refine Kd.C_alloc ?_ _) | (with_reducible refine Kd.C_drewN ?_ _) | (with_reducible refine Kd.C_drew ?_))); (case side4 => exact (Kd.S_reads' HO229.out).2.1); rintro e w' ⟨rfl, ⟨nd, rfl⟩⟩; refine ⟨_, rfl, ?_⟩))
                            go_meet
                            case rel => exact ⟨_, (true), (by first | rfl | (simp; done) | (simp [*]; done) | (simp; exact isEmpty_bne _)), H', ⟨by have := HJ3.out; have := HJ8.out; have := HJ11.out; first | omega | exact Nat.le_refl _⟩, ⟨by (with_reducible repeat (first | apply Kd.R_alloc | apply Kd.R_drewN | apply Kd.R_drew)); exact HO_7.out⟩, ⟨by (with_reducible repeat (first | apply Kd.S_alloc | apply Kd.S_drewN | apply Kd.S_drew)); exact Kd.S_mono HO_8.out (fun _ hk => hk.1)⟩, ⟨by repeat (first | (with_reducible first | exact HB.out | apply below_alloc | apply pw_below_drewN | apply below_drew1) | exact HB.out)⟩⟩
                        · replace c26 := Bool.eq_false_iff.mpr c26
                          subst c26
                          have H1 : (mullionlaw09_LexBlanks.j3 kj11 a0 x1_8 a2 y215 t218 true) = some r := by rw [if_neg (show ¬ (false = true) by decide)] at H; exact H
                          clear H
                          have H := H1
                          clear H1
                          have H' := Aside0.mk H
                          clear H
                          obtain ⟨Ao32, co32, eo32⟩ := Kd.S_slice HO_8.out
                          subst eo32
                          obtain ⟨Ao33, co33, eo33⟩ := Kd.S_slice HO229.out
                          subst eo33
                          go_wp2_with (first | ((with_reducible refine gate_callee (f := 16) rfl ?_); refine goesL_ (some 53) rfl rfl Try.func16 (by kernel_rfl) rfl #[.slice Ao32 t218.length co32, .slice Ao33 t225.length co33] rfl (by (try simp only [List.map_toArray, List.map_cons, List.map_nil]); first | done | rfl | (simp only [List.length_drop, List.length_take]; rfl)) ?_; (with_reducible refine (mullionlaw09_same.calls kj11 _ _ t218 _ _ t225 false _ ?side1 ?side2 ?side3 ?side4 A25.out).mono ?_); (case side1 => repeat (first | exact (Kd.S_reads' HO_8.out).2.2 | (with_reducible refine Kd.C_alloc ?_ _) | (with_reducible refine Kd.C_drewN ?_ _) | (with_reducible refine Kd.C_drew ?_))); (case side2 => exact (Kd.S_reads' HO_8.out).2.1); (case side3 => repeat (first | exact (Kd.S_reads' HO229.out).2.2 | (with_reducible refine Kd.C_alloc ?_ _) | (with_reducible refine Kd.C_drewN ?_ _) | (with_reducible refine Kd.C_drew ?_))); (case side4 => exact (Kd.S_reads' HO229.out).2.1); rintro e w' ⟨rfl, ⟨nd, rfl⟩⟩; refine ⟨_, rfl, ?_⟩))
                          go_meet
                          case rel => exact ⟨_, (true), (by first | rfl | (simp; done) | (simp [*]; done) | (simp; exact isEmpty_bne _)), H', ⟨by have := HJ3.out; have := HJ8.out; have := HJ11.out; first | omega | exact Nat.le_refl _⟩, ⟨by (with_reducible repeat (first | apply Kd.R_alloc | apply Kd.R_drewN | apply Kd.R_drew)); exact HO_7.out⟩, ⟨by (with_reducible repeat (first | apply Kd.S_alloc | apply Kd.S_drewN | apply Kd.S_drew)); exact Kd.S_mono HO_8.out (fun _ hk => hk.1)⟩, ⟨by repeat (first | (with_reducible first | exact HB.out | apply below_alloc | apply pw_below_drewN | apply below_drew1) | exact HB.out)⟩⟩
                      case rest =>
                        clear HC22
                        try clear c1
                        try clear c2
                        try clear p2
                        try clear q2
                        try clear hx2
                        try clear c7
                        try clear c7b0
                        try clear c8
                        try clear c10
                        try clear c14
                        try clear c14b0
                        try clear c14b1
                        try clear c15
                        try clear c16
                        try clear c18
                        try clear c18b0
                        try clear c19
                        try clear c19b0
                        try clear c20
                        try clear c20b0
                        try clear c20b1
                        try clear c20b2
                        try clear p22
                        try clear q22
                        try clear hx22
                        try clear c26
                        try clear c27
                        try clear c27b0
                        try clear c27b1
                        try clear hx224_0
                        try clear p2
                        try clear p224
                        try clear q224
                        obtain ⟨kq, x62_21, rfl, HA, HJ21, HO_7, HO_8, HB⟩ := hcut
                        cases kq with
                        | zero => exact absurd HA.out (by simp [mullionlaw09_LexBlanks.j3])
                        | succ kj21 =>
                          have H := HA.out
                          clear HA
                          simp only [mullionlaw09_LexBlanks.j3] at H
                          by_cases c34 : x62_21 = true
                          · subst c34
                            have H1 : (some false) = some r := by rw [if_pos rfl] at H; exact H
                            clear H
                            have H := H1
                            clear H1
                            obtain rfl := Option.some.inj H
                            go_wp2
                            go_ret
                            exact ⟨by first | rfl | (simp [errW_none, errW_some] <;> rfl) | (simp [*, errW_none, errW_some] <;> rfl), by repeat (first | (with_reducible first | exact HB.out | apply below_alloc | apply pw_below_drewN | apply below_drew1) | exact HB.out)⟩
                          · replace c34 := Bool.eq_false_iff.mpr c34
                            subst c34
                            have H1 : (if a0.size + 1 ≤ 9223372036854775807 then ((lex_Commands.f (a0 ++ (⟨#[10]⟩ : ByteArray))).bind fun bt231 => (if 0 ≤ x1_8 then (if x1_8 < (y215.length : Int) then (if (a0 ++ (⟨#[10]⟩ : ByteArray)).size + (rdOf ByteArray.empty y215 x1_8).size ≤ 9223372036854775807 then ((lex_Commands.f ((a0 ++ (⟨#[10]⟩ : ByteArray)) ++ (rdOf ByteArray.empty y215 x1_8))).bind fun bt237 => (if bt231.2.2 = 0 then ((mullionlaw09_same.f kj21 bt231.1 bt237.1).bind fun t242 => (if t242 = true then (mullionlaw09_LexBlanks.j4 kj21 a0 a2 t218 (bt237.2.2 != 0)) else (mullionlaw09_LexBlanks.j4 kj21 a0 a2 t218 true))) else (mullionlaw09_LexBlanks.j4 kj21 a0 a2 t218 false))) else (none)) else (none)) else (none))) else (none)) = some r := by rw [if_neg (show ¬ (false = true) by decide)] at H; exact H
                            clear H
                            have H := H1
                            clear H1
                            by_cases c35 : a0.size + 1 ≤ 9223372036854775807
                            · rw [if_pos c35] at H
                              have c35b0 := eq_true c35
                              have c35b1 : decide (a0.size + 1 ≤ 9223372036854775807) = true := decide_eq_true c35
                              try have c35b2 : (9223372036854775807 < a0.size + 1) = False := eq_false (Nat.not_lt.2 c35)
                              replace H := Option.bind_eq_some_iff.mp H
                              obtain ⟨⟨t231, t232, t233⟩, A360, H⟩ := H
                              replace H : (if 0 ≤ x1_8 then (if x1_8 < (y215.length : Int) then (if (a0 ++ (⟨#[10]⟩ : ByteArray)).size + (rdOf ByteArray.empty y215 x1_8).size ≤ 9223372036854775807 then ((lex_Commands.f ((a0 ++ (⟨#[10]⟩ : ByteArray)) ++ (rdOf ByteArray.empty y215 x1_8))).bind fun bt237 => (if t233 = 0 then ((mullionlaw09_same.f kj21 t231 bt237.1).bind fun t242 => (if t242 = true then (mullionlaw09_LexBlanks.j4 kj21 a0 a2 t218 (bt237.2.2 != 0)) else (mullionlaw09_LexBlanks.j4 kj21 a0 a2 t218 true))) else (mullionlaw09_LexBlanks.j4 kj21 a0 a2 t218 false))) else (none)) else (none)) else (none)) = some r := H
                              have A36 := Aside0.mk A360
                              clear A360
                              by_cases c37 : 0 ≤ x1_8
                              · rw [if_pos c37] at H
                                have c37b0 : decide (0 ≤ x1_8) = true := decide_eq_true c37
                                clear c37
                                by_cases c38 : x1_8 < (y215.length : Int)
                                · rw [if_pos c38] at H
                                  have c38b0 : decide (x1_8 < (y215.length : Int)) = true := decide_eq_true c38
                                  clear c38
                                  by_cases c39 : (a0 ++ (⟨#[10]⟩ : ByteArray)).size + (rdOf ByteArray.empty y215 x1_8).size ≤ 9223372036854775807
                                  · rw [if_pos c39] at H
                                    have c39b0 := eq_true c39
                                    have c39b1 : decide ((a0 ++ (⟨#[10]⟩ : ByteArray)).size + (rdOf ByteArray.empty y215 x1_8).size ≤ 9223372036854775807) = true := decide_eq_true c39
                                    try have c39b2 : (9223372036854775807 < (a0 ++ (⟨#[10]⟩ : ByteArray)).size + (rdOf ByteArray.empty y215 x1_8).size) = False := eq_false (Nat.not_lt.2 c39)
                                    replace H := Option.bind_eq_some_iff.mp H
                                    obtain ⟨⟨t237, t238, t239⟩, A400, H⟩ := H
                                    replace H : (if t233 = 0 then ((mullionlaw09_same.f kj21 t231 t237).bind fun t242 => (if t242 = true then (mullionlaw09_LexBlanks.j4 kj21 a0 a2 t218 (t239 != 0)) else (mullionlaw09_LexBlanks.j4 kj21 a0 a2 t218 true))) else (mullionlaw09_LexBlanks.j4 kj21 a0 a2 t218 false)) = some r := H
                                    have A40 := Aside0.mk A400
                                    clear A400
                                    have HC41 := Aside0.mk H
                                    clear H
                                    go_upto_region 12 with (first | ((with_reducible refine gate_callee (f := 14) rfl ?_); refine goesL_ (some 66) rfl rfl Try.func14 (by kernel_rfl) rfl #[.string (a0 ++ (⟨#[10]⟩ : ByteArray))] rfl (by (try simp only [List.map_toArray, List.map_cons, List.map_nil]); first | done | rfl | (simp only [List.length_drop, List.length_take]; rfl)) ?_; (with_reducible refine (lex_Commands.calls (a0 ++ (⟨#[10]⟩ : ByteArray)) t231 t232 t233 _ A36.out).mono ?_); rintro e w42 ⟨v234, rfl, ho0, hb⟩; refine ⟨_, rfl, ?_⟩; have n0_ := Aside0.mk (Kd.R_below (by (with_reducible repeat (first | apply Kd.R_alloc | apply Kd.R_drewN | apply Kd.R_drew)); exact HO_7.out) hb); have n1_ := Aside0.mk (Kd.S_elder' (by (with_reducible repeat (first | apply Kd.S_alloc | apply Kd.S_drewN | apply Kd.S_drew)); exact HO_8.out) (Kd.S_base ho0) hb); have n2_ := Aside0.mk (Kd.S_lower (Kd.S_new' (Kd.S_new' ho0 (Kd.R_lt (by (with_reducible repeat (first | apply Kd.R_alloc | apply Kd.R_drewN | apply Kd.R_drew)); exact HO_7.out))) (Kd.S_lt (by (with_reducible repeat (first | apply Kd.S_alloc | apply Kd.S_drewN | apply Kd.S_drew)); exact HO_8.out))) (below_size (by repeat (first | (with_reducible first | exact HB.out | apply below_alloc | apply pw_below_drewN | apply below_drew1) | exact HB.out)))); have n3_ := Aside0.mk (below_step (by repeat (first | (with_reducible first | exact HB.out | apply below_alloc | apply pw_below_drewN | apply below_drew1) | exact HB.out)) hb); clear HO_7; clear HO_8; clear HB; have HO_7 := n0_; have HO_8 := n1_; have HO235 := n2_; have HB := n3_; clear n0_ n1_ n2_ n3_; (try clear hb); (try clear hb2); (try clear hk); (try clear hi); (try clear ho0); have p236 : 0 ≤ (x1_8 : Int) := of_decide_eq_true (by first | (with_reducible assumption) | assumption); have q236 : x1_8 < (y215.length : Int) := of_decide_eq_true (by first | (with_reducible assumption) | assumption); obtain ⟨ad236, e236, hx236_0⟩ := Kd.at_string (Kd.R_reads' HO_7.out).2.2 x1_8 p236 q236; obtain rfl : ad224 = ad236 := (by injection e236); replace p236 := eq_true p236; replace q236 := eq_true q236) | ((with_reducible refine gate_callee (f := 14) rfl ?_); refine goesL_ (some 78) rfl rfl Try.func14 (by kernel_rfl) rfl #[.string ((a0 ++ (⟨#[10]⟩ : ByteArray)) ++ (rdOf ByteArray.empty y215 x1_8))] rfl (by (try simp only [List.map_toArray, List.map_cons, List.map_nil]); first | done | rfl | (simp only [List.length_drop, List.length_take]; rfl)) ?_; (with_reducible refine (lex_Commands.calls ((a0 ++ (⟨#[10]⟩ : ByteArray)) ++ (rdOf ByteArray.empty y215 x1_8)) t237 t238 t239 _ A40.out).mono ?_); rintro e w43 ⟨v240, rfl, ho0, hb⟩; refine ⟨_, rfl, ?_⟩; have n0_ := Aside0.mk (Kd.R_below (by (with_reducible repeat (first | apply Kd.R_alloc | apply Kd.R_drewN | apply Kd.R_drew)); exact HO_7.out) hb); have n1_ := Aside0.mk (Kd.S_elder' (by (with_reducible repeat (first | apply Kd.S_alloc | apply Kd.S_drewN | apply Kd.S_drew)); exact HO_8.out) (Kd.S_base ho0) hb); have n2_ := Aside0.mk (Kd.S_elder' (by (with_reducible repeat (first | apply Kd.S_alloc | apply Kd.S_drewN | apply Kd.S_drew)); exact HO235.out) (Kd.S_base ho0) hb); have n3_ := Aside0.mk (Kd.S_lower (Kd.S_new' (Kd.S_new' (Kd.S_new' ho0 (Kd.R_lt (by (with_reducible repeat (first | apply Kd.R_alloc | apply Kd.R_drewN | apply Kd.R_drew)); exact HO_7.out))) (Kd.S_lt (by (with_reducible repeat (first | apply Kd.S_alloc | apply Kd.S_drewN | apply Kd.S_drew)); exact HO_8.out))) (Kd.S_lt (by (with_reducible repeat (first | apply Kd.S_alloc | apply Kd.S_drewN | apply Kd.S_drew)); exact HO235.out))) (below_size (by repeat (first | (with_reducible first | exact HB.out | apply below_alloc | apply pw_below_drewN | apply below_drew1) | exact HB.out)))); have n4_ := Aside0.mk (below_step (by repeat (first | (with_reducible first | exact HB.out | apply below_alloc | apply pw_below_drewN | apply below_drew1) | exact HB.out)) hb); clear HO_7; clear HO_8; clear HO235; clear HB; have HO_7 := n0_; have HO_8 := n1_; have HO235 := n2_; have HO241 := n3_; have HB := n4_; clear n0_ n1_ n2_ n3_ n4_; (try clear hb); (try clear hb2); (try clear hk); (try clear hi); (try clear ho0)))
                                    (try simp only [Act.put, List.setIfInBounds_toArray, List.set_cons_zero, List.set_cons_succ])
                                    go_cut [93] (fun v93 wc => ∃ (kq : Nat) (x93_40 : Bool), v93 = .bool x93_40 ∧ Aside0 (mullionlaw09_LexBlanks.j4 kq a0 a2 t218 x93_40 = some r) ∧ Aside0 (kq ≤ kj21) ∧ Aside0 (Kd.S (Kd.slice 9 Kd.string) 30 wc w.heap.size (fun _ => True) v221 t218) ∧ Aside0 (Below w.heap.size w wc))
                                    case first =>
                                      have H := HC41.out
                                      clear HC41
                                      by_cases c44 : t233 = 0
                                      · rw [if_pos c44] at H
                                        have c44b0 : (t233 == 0) = true := beq_iff_eq.mpr c44
                                        have c44b1 : (t233 != 0) = false := bne_eq_false_iff_eq.mpr c44
                                        clear c44
                                        (first | rw [c44b0] | (simp only [i64_w, i32_w]; rw [c44b0]) | skip)
                                        replace H := Option.bind_eq_some_iff.mp H
                                        obtain ⟨t242, A450, H⟩ := H
                                        replace H : (if t242 = true then (mullionlaw09_LexBlanks.j4 kj21 a0 a2 t218 (t239 != 0)) else (mullionlaw09_LexBlanks.j4 kj21 a0 a2 t218 true)) = some r := H
                                        have A45 := Aside0.mk A450
                                        clear A450
                                        by_cases c46 : t242 = true
                                        · subst c46
                                          have H1 : (mullionlaw09_LexBlanks.j4 kj21 a0 a2 t218 (t239 != 0)) = some r := by rw [if_pos rfl] at H; exact H
                                          clear H
                                          have H := H1
                                          clear H1
                                          have H' := Aside0.mk H
                                          clear H
                                          obtain ⟨Ao47, co47, eo47⟩ := Kd.S_slice HO235.out
                                          subst eo47
                                          obtain ⟨Ao48, co48, eo48⟩ := Kd.S_slice HO241.out
                                          subst eo48
                                          go_wp2_with (first | (go_at_call 16; (with_reducible refine (mullionlaw09_same.calls kj21 _ _ t231 _ _ t237 true _ ?side1 ?side2 ?side3 ?side4 A45.out).mono ?_); (case side1 => repeat (first | exact (Kd.S_reads' HO235.out).2.2 | (with_reducible refine Kd.C_alloc ?_ _) | (with_reducible refine Kd.C_drewN ?_ _) | (with_reducible refine Kd.C_drew ?_))); (case side2 => exact (Kd.S_reads' HO235.out).2.1); (case side3 => repeat (first | exact (Kd.S_reads' HO241.out).2.2 | (with_reducible refine Kd.C_alloc ?_ _) | (with_reducible refine Kd.C_drewN ?_ _) | (with_reducible refine Kd.C_drew ?_))); (case side4 => exact (Kd.S_reads' HO241.out).2.1); rintro e w' ⟨rfl, ⟨nd, rfl⟩⟩))
                                          go_meet
                                          case rel => exact ⟨_, ((t239 != 0)), (by first | rfl | (simp; done) | (simp [*]; done) | (simp; exact isEmpty_bne _)), H', ⟨by have := HJ3.out; have := HJ8.out; have := HJ11.out; have := HJ21.out; first | omega | exact Nat.le_refl _⟩, ⟨by (with_reducible repeat (first | apply Kd.S_alloc | apply Kd.S_drewN | apply Kd.S_drew)); exact Kd.S_mono HO_8.out (fun _ hk => trivial)⟩, ⟨by repeat (first | (with_reducible first | exact HB.out | apply below_alloc | apply pw_below_drewN | apply below_drew1) | exact HB.out)⟩⟩
                                        · replace c46 := Bool.eq_false_iff.mpr c46
                                          subst c46
                                          have H1 : (mullionlaw09_LexBlanks.j4 kj21 a0 a2 t218 true) = some r := by rw [if_neg (show ¬ (false = true) by decide)] at H; exact H
                                          clear H
                                          have H := H1
                                          clear H1
                                          have H' := Aside0.mk H
                                          clear H
                                          obtain ⟨Ao49, co49, eo49⟩ := Kd.S_slice HO235.out
                                          subst eo49
                                          obtain ⟨Ao50, co50, eo50⟩ := Kd.S_slice HO241.out
                                          subst eo50
                                          go_wp2_with (first | (go_at_call 16; (with_reducible refine (mullionlaw09_same.calls kj21 _ _ t231 _ _ t237 false _ ?side1 ?side2 ?side3 ?side4 A45.out).mono ?_); (case side1 => repeat (first | exact (Kd.S_reads' HO235.out).2.2 | (with_reducible refine Kd.C_alloc ?_ _) | (with_reducible refine Kd.C_drewN ?_ _) | (with_reducible refine Kd.C_drew ?_))); (case side2 => exact (Kd.S_reads' HO235.out).2.1); (case side3 => repeat (first | exact (Kd.S_reads' HO241.out).2.2 | (with_reducible refine Kd.C_alloc ?_ _) | (with_reducible refine Kd.C_drewN ?_ _) | (with_reducible refine Kd.C_drew ?_))); (case side4 => exact (Kd.S_reads' HO241.out).2.1); rintro e w' ⟨rfl, ⟨nd, rfl⟩⟩))
                                          go_meet
                                          case rel => exact ⟨_, (true), (by first | rfl | (simp; done) | (simp [*]; done) | (simp; exact isEmpty_bne _)), H', ⟨by have := HJ3.out; have := HJ8.out; have := HJ11.out; have := HJ21.out; first | omega | exact Nat.le_refl _⟩, ⟨by (with_reducible repeat (first | apply Kd.S_alloc | apply Kd.S_drewN | apply Kd.S_drew)); exact Kd.S_mono HO_8.out (fun _ hk => trivial)⟩, ⟨by repeat (first | (with_reducible first | exact HB.out | apply below_alloc | apply pw_below_drewN | apply below_drew1) | exact HB.out)⟩⟩
                                      · rw [if_neg c44] at H
                                        have c44b0 : (t233 == 0) = false := beq_eq_false_iff_ne.mpr c44
                                        have c44b1 : (t233 != 0) = true := bne_iff_ne.mpr c44
                                        (first | rw [c44b0] | (simp only [i64_w, i32_w]; rw [c44b0]) | skip)
                                        have H' := Aside0.mk H
                                        clear H
                                        go_wp2
                                        go_meet
                                        case rel => exact ⟨_, (false), (by first | rfl | (simp; done) | (simp [*]; done) | (simp; exact isEmpty_bne _)), H', ⟨by have := HJ3.out; have := HJ8.out; have := HJ11.out; have := HJ21.out; first | omega | exact Nat.le_refl _⟩, ⟨by (with_reducible repeat (first | apply Kd.S_alloc | apply Kd.S_drewN | apply Kd.S_drew)); exact Kd.S_mono HO_8.out (fun _ hk => trivial)⟩, ⟨by repeat (first | (with_reducible first | exact HB.out | apply below_alloc | apply pw_below_drewN | apply below_drew1) | exact HB.out)⟩⟩
                                    case rest =>
                                      clear HC41
                                      try clear c1
                                      try clear c2
                                      try clear p2
                                      try clear q2
                                      try clear hx2
                                      try clear c3
                                      try clear c4
                                      try clear c7
                                      try clear c7b0
                                      try clear c8
                                      try clear c10
                                      try clear c14
                                      try clear c14b0
                                      try clear c14b1
                                      try clear c15
                                      try clear c16
                                      try clear c18
                                      try clear c18b0
                                      try clear c19
                                      try clear c19b0
                                      try clear c20
                                      try clear c20b0
                                      try clear c20b1
                                      try clear c20b2
                                      try clear p22
                                      try clear q22
                                      try clear hx22
                                      try clear p23
                                      try clear q23
                                      try clear hx23
                                      try clear c26
                                      try clear c27
                                      try clear c27b0
                                      try clear c27b1
                                      try clear c34
                                      try clear c35
                                      try clear c35b0
                                      try clear c35b1
                                      try clear c35b2
                                      try clear c37
                                      try clear c37b0
                                      try clear c38
                                      try clear c38b0
                                      try clear c39
                                      try clear c39b0
                                      try clear c39b1
                                      try clear c39b2
                                      try clear c44
                                      try clear c44b0
                                      try clear c44b1
                                      try clear c46
                                      try clear hx224_0
                                      try clear hx236_0
                                      try clear p2
                                      try clear p22
                                      try clear p224
                                      try clear p236
                                      try clear q2
                                      try clear q22
                                      try clear q224
                                      try clear q236
                                      obtain ⟨kq, x93_40, rfl, HA, HJ40, HO_8, HB⟩ := hcut
                                      cases kq with
                                      | zero => exact absurd HA.out (by simp [mullionlaw09_LexBlanks.j4])
                                      | succ kj40 =>
                                        have H := HA.out
                                        clear HA
                                        simp only [mullionlaw09_LexBlanks.j4] at H
                                        by_cases c51 : x93_40 = true
                                        · subst c51
                                          have H1 : (some false) = some r := by rw [if_pos rfl] at H; exact H
                                          clear H
                                          have H := H1
                                          clear H1
                                          obtain rfl := Option.some.inj H
                                          go_wp2
                                          go_ret
                                          exact ⟨by first | rfl | (simp [errW_none, errW_some] <;> rfl) | (simp [*, errW_none, errW_some] <;> rfl), by repeat (first | (with_reducible first | exact HB.out | apply below_alloc | apply pw_below_drewN | apply below_drew1) | exact HB.out)⟩
                                        · replace c51 := Bool.eq_false_iff.mpr c51
                                          subst c51
                                          have H1 : (if (a2.size : Int) > 0 then (if 0 < (a2.size : Int) then (if (bt a2 0) = 123 then (mullionlaw09_LexBlanks.j5 kj40 a0 a2 t218 true) else (mullionlaw09_LexBlanks.j5 kj40 a0 a2 t218 (decide ((a2.size : Int) > 100)))) else (none)) else (mullionlaw09_LexBlanks.j5 kj40 a0 a2 t218 (decide ((a2.size : Int) > 100)))) = some r := by rw [if_neg (show ¬ (false = true) by decide)] at H; exact H
                                          clear H
                                          have H := H1
                                          clear H1
                                          have HC52 := Aside0.mk H
                                          clear H
                                          go_upto_region 14 with (fail)
                                          go_cut [106] (fun v106 wc => ∃ (kq : Nat) (x106_51 : Bool), v106 = .bool x106_51 ∧ Aside0 (mullionlaw09_LexBlanks.j5 kq a0 a2 t218 x106_51 = some r) ∧ Aside0 (kq ≤ kj40) ∧ Aside0 (Kd.S (Kd.slice 9 Kd.string) 30 wc w.heap.size (fun _ => True) v221 t218) ∧ Aside0 (Below w.heap.size w wc))
                                          case first =>
                                            have H := HC52.out
                                            clear HC52
                                            by_cases c53 : (a2.size : Int) > 0
                                            · rw [if_pos c53] at H
                                              have c53b0 : decide (0 < (a2.size : Int)) = true := decide_eq_true c53
                                              have c53b1 : decide (0 < a2.size) = true := decide_eq_true (by omega)
                                              clear c53
                                              (first | rw [c53b0] | (simp only [i64_w, i32_w]; rw [c53b0]) | skip)
                                              by_cases c54 : 0 < (a2.size : Int)
                                              · rw [if_pos c54] at H
                                                have c54b0 : decide (0 < (a2.size : Int)) = true := decide_eq_true c54
                                                have c54b1 : decide (0 < a2.size) = true := decide_eq_true (by omega)
                                                clear c54
                                                by_cases c56 : (bt a2 0) = 123
                                                · rw [if_pos c56] at H
                                                  have c56b0 : ((bt a2 0) == 123) = true := beq_iff_eq.mpr c56
                                                  have c56b1 : ((bt a2 0) != 123) = false := bne_eq_false_iff_eq.mpr c56
                                                  clear c56
                                                  have H' := Aside0.mk H
                                                  clear H
                                                  have p55 : 0 ≤ (0 : Int) := (by omega)
                                                  have q55 : 0 < a2.size := (by have : (0 : Int) < (a2.size : Int) := of_decide_eq_true (by first | (with_reducible assumption) | assumption); omega)
                                                  have hx55 : ∀ h : 0 < a2.size, ((a2[0]'h).toNat : Int) = bt a2 0 := bt_at a2 0
                                                  clear p55
                                                  have qi55 : (0 < (a2.size : Int)) = True := eq_true (of_decide_eq_true (by first | (with_reducible assumption) | assumption))
                                                  replace q55 := eq_true q55
                                                  go_wp2
                                                  go_meet
                                                  case rel => exact ⟨_, (true), (by first | rfl | (simp; done) | (simp [*]; done) | (simp; exact isEmpty_bne _)), H', ⟨by have := HJ3.out; have := HJ8.out; have := HJ11.out; have := HJ21.out; have := HJ40.out; first | omega | exact Nat.le_refl _⟩, ⟨by (with_reducible repeat (first | apply Kd.S_alloc | apply Kd.S_drewN | apply Kd.S_drew)); exact HO_8.out⟩, ⟨by repeat (first | (with_reducible first | exact HB.out | apply below_alloc | apply pw_below_drewN | apply below_drew1) | exact HB.out)⟩⟩
                                                · rw [if_neg c56] at H
                                                  have c56b0 : ((bt a2 0) == 123) = false := beq_eq_false_iff_ne.mpr c56
                                                  have c56b1 : ((bt a2 0) != 123) = true := bne_iff_ne.mpr c56
                                                  have H' := Aside0.mk H
                                                  clear H
                                                  have p55 : 0 ≤ (0 : Int) := (by omega)
                                                  have q55 : 0 < a2.size := (by have : (0 : Int) < (a2.size : Int) := of_decide_eq_true (by first | (with_reducible assumption) | assumption); omega)
                                                  have hx55 : ∀ h : 0 < a2.size, ((a2[0]'h).toNat : Int) = bt a2 0 := bt_at a2 0
                                                  clear p55
                                                  have qi55 : (0 < (a2.size : Int)) = True := eq_true (of_decide_eq_true (by first | (with_reducible assumption) | assumption))
                                                  replace q55 := eq_true q55
                                                  go_wp2
                                                  go_meet
                                                  case rel => exact ⟨_, (decide ((a2.size : Int) > 100)), (by first | rfl | (simp; done) | (simp [*]; done) | (simp; exact isEmpty_bne _)), H', ⟨by have := HJ3.out; have := HJ8.out; have := HJ11.out; have := HJ21.out; have := HJ40.out; first | omega | exact Nat.le_refl _⟩, ⟨by (with_reducible repeat (first | apply Kd.S_alloc | apply Kd.S_drewN | apply Kd.S_drew)); exact HO_8.out⟩, ⟨by repeat (first | (with_reducible first | exact HB.out | apply below_alloc | apply pw_below_drewN | apply below_drew1) | exact HB.out)⟩⟩
                                              · rw [if_neg c54] at H
                                                exact absurd H (by simp)
                                            · rw [if_neg c53] at H
                                              have c53b0 : decide (0 < (a2.size : Int)) = false := decide_eq_false c53
                                              have c53b1 : decide (0 < a2.size) = false := decide_eq_false (by omega)
                                              clear c53
                                              (first | rw [c53b0] | (simp only [i64_w, i32_w]; rw [c53b0]) | skip)
                                              have H' := Aside0.mk H
                                              clear H
                                              go_wp2
                                              go_meet
                                              case rel => exact ⟨_, (decide ((a2.size : Int) > 100)), (by first | rfl | (simp; done) | (simp [*]; done) | (simp; exact isEmpty_bne _)), H', ⟨by have := HJ3.out; have := HJ8.out; have := HJ11.out; have := HJ21.out; have := HJ40.out; first | omega | exact Nat.le_refl _⟩, ⟨by (with_reducible repeat (first | apply Kd.S_alloc | apply Kd.S_drewN | apply Kd.S_drew)); exact HO_8.out⟩, ⟨by repeat (first | (with_reducible first | exact HB.out | apply below_alloc | apply pw_below_drewN | apply below_drew1) | exact HB.out)⟩⟩
                                          case rest =>
                                            clear HC52
                                            try clear c1
                                            try clear c2
                                            try clear p2
                                            try clear q2
                                            try clear hx2
                                            try clear c3
                                            try clear c4
                                            try clear c5
                                            try clear p5
                                            try clear q5
                                            try clear hx5
                                            try clear qi5
                                            try clear c7
                                            try clear c7b0
                                            try clear c8
                                            try clear c10
                                            try clear c14
                                            try clear c14b0
                                            try clear c14b1
                                            try clear c15
                                            try clear c16
                                            try clear c18
                                            try clear c18b0
                                            try clear c19
                                            try clear c19b0
                                            try clear c20
                                            try clear c20b0
                                            try clear c20b1
                                            try clear c20b2
                                            try clear p22
                                            try clear q22
                                            try clear hx22
                                            try clear p23
                                            try clear q23
                                            try clear hx23
                                            try clear c26
                                            try clear c27
                                            try clear c27b0
                                            try clear c27b1
                                            try clear c34
                                            try clear c35
                                            try clear c35b0
                                            try clear c35b1
                                            try clear c35b2
                                            try clear c37
                                            try clear c37b0
                                            try clear c38
                                            try clear c38b0
                                            try clear c39
                                            try clear c39b0
                                            try clear c39b1
                                            try clear c39b2
                                            try clear c44
                                            try clear c44b0
                                            try clear c44b1
                                            try clear c46
                                            try clear c51
                                            try clear c53
                                            try clear c53b0
                                            try clear c53b1
                                            try clear c54
                                            try clear c54b0
                                            try clear c54b1
                                            try clear p55
                                            try clear q55
                                            try clear hx55
                                            try clear qi55
                                            try clear c56
                                            try clear c56b0
                                            try clear c56b1
                                            try clear hx224_0
                                            try clear hx236_0
                                            try clear p2
                                            try clear p22
                                            try clear p224
                                            try clear p23
                                            try clear p236
                                            try clear p55
                                            try clear q2
                                            try clear q22
                                            try clear q224
                                            try clear q23
                                            try clear q236
                                            try clear q55
                                            obtain ⟨kq, x106_51, rfl, HA, HJ51, HO_8, HB⟩ := hcut
                                            cases kq with
                                            | zero => exact absurd HA.out (by simp [mullionlaw09_LexBlanks.j5])
                                            | succ kj51 =>
                                              have H := HA.out
                                              clear HA
                                              simp only [mullionlaw09_LexBlanks.j5] at H
                                              by_cases c57 : x106_51 = true
                                              · subst c57
                                                have H1 : ((mullionlaw09_sure.f kj51).bind fun t243 => (some t243)) = some r := by rw [if_pos rfl] at H; exact H
                                                clear H
                                                have H := H1
                                                clear H1
                                                replace H := Option.bind_eq_some_iff.mp H
                                                obtain ⟨t243, A580, H⟩ := H
                                                replace H : (some t243) = some r := H
                                                have A58 := Aside0.mk A580
                                                clear A580
                                                obtain rfl := Option.some.inj H
                                                go_wp2_with (first | ((with_reducible refine gate_callee (f := 15) rfl ?_); refine goesL_ (some 107) rfl rfl Try.func15 (by kernel_rfl) rfl #[] rfl (by (try simp only [List.map_toArray, List.map_cons, List.map_nil]); first | done | rfl | (simp only [List.length_drop, List.length_take]; rfl)) ?_; (with_reducible refine (mullionlaw09_sure.calls kj51  t243 _ A58.out).mono ?_); rintro e w59 ⟨rfl, hb⟩; refine ⟨_, rfl, ?_⟩; have n0_ := Aside0.mk (Kd.S_below (by (with_reducible repeat (first | apply Kd.S_alloc | apply Kd.S_drewN | apply Kd.S_drew)); exact HO_8.out) hb); have n1_ := Aside0.mk (below_step (by repeat (first | (with_reducible first | exact HB.out | apply below_alloc | apply pw_below_drewN | apply below_drew1) | exact HB.out)) hb); clear HO_8; clear HB; have HO_8 := n0_; have HB := n1_; clear n0_ n1_; (try clear hb); (try clear hb2); (try clear hk); (try clear hi)))
                                                go_ret
                                                exact ⟨by first | rfl | (simp [errW_none, errW_some] <;> rfl) | (simp [*, errW_none, errW_some] <;> rfl), by repeat (first | (with_reducible first | exact HB.out | apply below_alloc | apply pw_below_drewN | apply below_drew1) | exact HB.out)⟩
                                              · replace c57 := Bool.eq_false_iff.mpr c57
                                                subst c57
                                                have H1 : (if a0.size + 2 ≤ 9223372036854775807 then (if (a0 ++ (⟨#[32, 35]⟩ : ByteArray)).size + a2.size ≤ 9223372036854775807 then ((lex_Commands.f ((a0 ++ (⟨#[32, 35]⟩ : ByteArray)) ++ a2)).bind fun bt244 => ((mullionlaw09_same.f kj51 t218 bt244.1).bind fun t249 => (if t249 = true then (if bt244.2.1 = 0 then (if bt244.2.2 = 0 then ((mullionlaw09_sure.f kj51).bind fun t250 => (some t250)) else (some false)) else (some false)) else (some false)))) else (none)) else (none)) = some r := by rw [if_neg (show ¬ (false = true) by decide)] at H; exact H
                                                clear H
                                                have H := H1
                                                clear H1
                                                by_cases c60 : a0.size + 2 ≤ 9223372036854775807
                                                · rw [if_pos c60] at H
                                                  have c60b0 := eq_true c60
                                                  have c60b1 : decide (a0.size + 2 ≤ 9223372036854775807) = true := decide_eq_true c60
                                                  try have c60b2 : (9223372036854775807 < a0.size + 2) = False := eq_false (Nat.not_lt.2 c60)
                                                  by_cases c61 : (a0 ++ (⟨#[32, 35]⟩ : ByteArray)).size + a2.size ≤ 9223372036854775807
                                                  · rw [if_pos c61] at H
                                                    have c61b0 := eq_true c61
                                                    have c61b1 : decide ((a0 ++ (⟨#[32, 35]⟩ : ByteArray)).size + a2.size ≤ 9223372036854775807) = true := decide_eq_true c61
                                                    try have c61b2 : (9223372036854775807 < (a0 ++ (⟨#[32, 35]⟩ : ByteArray)).size + a2.size) = False := eq_false (Nat.not_lt.2 c61)
                                                    replace H := Option.bind_eq_some_iff.mp H
                                                    obtain ⟨⟨t244, t245, t246⟩, A620, H⟩ := H
                                                    replace H : ((mullionlaw09_same.f kj51 t218 t244).bind fun t249 => (if t249 = true then (if t245 = 0 then (if t246 = 0 then ((mullionlaw09_sure.f kj51).bind fun t250 => (some t250)) else (some false)) else (some false)) else (some false))) = some r := H
                                                    have A62 := Aside0.mk A620
                                                    clear A620
                                                    replace H := Option.bind_eq_some_iff.mp H
                                                    obtain ⟨t249, A630, H⟩ := H
                                                    replace H : (if t249 = true then (if t245 = 0 then (if t246 = 0 then ((mullionlaw09_sure.f kj51).bind fun t250 => (some t250)) else (some false)) else (some false)) else (some false)) = some r := H
                                                    have A63 := Aside0.mk A630
                                                    clear A630
                                                    by_cases c64 : t249 = true
                                                    · subst c64
                                                      have H1 : (if t245 = 0 then (if t246 = 0 then ((mullionlaw09_sure.f kj51).bind fun t250 => (some t250)) else (some false)) else (some false)) = some r := by rw [if_pos rfl] at H; exact H
                                                      clear H
                                                      have H := H1
                                                      clear H1
                                                      by_cases c65 : t245 = 0
                                                      · rw [if_pos c65] at H
                                                        have c65b0 : (t245 == 0) = true := beq_iff_eq.mpr c65
                                                        have c65b1 : (t245 != 0) = false := bne_eq_false_iff_eq.mpr c65
                                                        clear c65
                                                        by_cases c66 : t246 = 0
                                                        · rw [if_pos c66] at H
                                                          have c66b0 : (t246 == 0) = true := beq_iff_eq.mpr c66
                                                          have c66b1 : (t246 != 0) = false := bne_eq_false_iff_eq.mpr c66
                                                          clear c66
                                                          replace H := Option.bind_eq_some_iff.mp H
                                                          obtain ⟨t250, A670, H⟩ := H
                                                          replace H : (some t250) = some r := H
                                                          have A67 := Aside0.mk A670
                                                          clear A670
                                                          obtain rfl := Option.some.inj H
                                                          go_wp2_with (first | ((with_reducible refine gate_callee (f := 14) rfl ?_); refine goesL_ (some 113) rfl rfl Try.func14 (by kernel_rfl) rfl #[.string ((a0 ++ (⟨#[32, 35]⟩ : ByteArray)) ++ a2)] rfl (by (try simp only [List.map_toArray, List.map_cons, List.map_nil]); first | done | rfl | (simp only [List.length_drop, List.length_take]; rfl)) ?_; (with_reducible refine (lex_Commands.calls ((a0 ++ (⟨#[32, 35]⟩ : ByteArray)) ++ a2) t244 t245 t246 _ A62.out).mono ?_); rintro e w68 ⟨v247, rfl, ho0, hb⟩; refine ⟨_, rfl, ?_⟩; have n0_ := Aside0.mk (Kd.S_elder' (by (with_reducible repeat (first | apply Kd.S_alloc | apply Kd.S_drewN | apply Kd.S_drew)); exact HO_8.out) (Kd.S_base ho0) hb); have n1_ := Aside0.mk (Kd.S_lower (Kd.S_new' ho0 (Kd.S_lt (by (with_reducible repeat (first | apply Kd.S_alloc | apply Kd.S_drewN | apply Kd.S_drew)); exact HO_8.out))) (below_size (by repeat (first | (with_reducible first | exact HB.out | apply below_alloc | apply pw_below_drewN | apply below_drew1) | exact HB.out)))); have n2_ := Aside0.mk (below_step (by repeat (first | (with_reducible first | exact HB.out | apply below_alloc | apply pw_below_drewN | apply below_drew1) | exact HB.out)) hb); clear HO_8; clear HB; have HO_8 := n0_; have HO248 := n1_; have HB := n2_; clear n0_ n1_ n2_; (try clear hb); (try clear hb2); (try clear hk); (try clear hi); (try clear ho0); obtain ⟨Ao69, co69, eo69⟩ := Kd.S_slice HO_8.out; subst eo69; obtain ⟨Ao70, co70, eo70⟩ := Kd.S_slice HO248.out; subst eo70) | ((with_reducible refine gate_callee (f := 16) rfl ?_); refine goesL_ (some 119) rfl rfl Try.func16 (by kernel_rfl) rfl #[.slice Ao69 t218.length co69, .slice Ao70 t244.length co70] rfl (by (try simp only [List.map_toArray, List.map_cons, List.map_nil]); first | done | rfl | (simp only [List.length_drop, List.length_take]; rfl)) ?_; (with_reducible refine (mullionlaw09_same.calls kj51 _ _ t218 _ _ t244 true _ ?side1 ?side2 ?side3 ?side4 A63.out).mono ?_); (case side1 => repeat (first | exact (Kd.S_reads' HO_8.out).2.2 | (with_reducible refine Kd.C_alloc ?_ _) | (with_reducible refine Kd.C_drewN ?_ _) | (with_reducible refine Kd.C_drew ?_))); (case side2 => exact (Kd.S_reads' HO_8.out).2.1); (case side3 => repeat (first | exact (Kd.S_reads' HO248.out).2.2 | (with_reducible refine Kd.C_alloc ?_ _) | (with_reducible refine Kd.C_drewN ?_ _) | (with_reducible refine Kd.C_drew ?_))); (case side4 => exact (Kd.S_reads' HO248.out).2.1); rintro e w' ⟨rfl, ⟨nd, rfl⟩⟩; refine ⟨_, rfl, ?_⟩) | (go_at_call 15; (with_reducible refine (mullionlaw09_sure.calls kj51  t250 _ A67.out).mono ?_); rintro e w71 ⟨rfl, hb⟩; have n0_ := Aside0.mk (Kd.S_below (by (with_reducible repeat (first | apply Kd.S_alloc | apply Kd.S_drewN | apply Kd.S_drew)); exact HO_8.out) hb); have n1_ := Aside0.mk (Kd.S_below (by (with_reducible repeat (first | apply Kd.S_alloc | apply Kd.S_drewN | apply Kd.S_drew)); exact HO248.out) hb); have n2_ := Aside0.mk (below_step (by repeat (first | (with_reducible first | exact HB.out | apply below_alloc | apply pw_below_drewN | apply below_drew1) | exact HB.out)) hb); clear HO_8; clear HO248; clear HB; have HO_8 := n0_; have HO248 := n1_; have HB := n2_; clear n0_ n1_ n2_; (try clear hb); (try clear hb2); (try clear hk); (try clear hi)))
                                                          go_ret
                                                          exact ⟨by first | rfl | (simp [errW_none, errW_some] <;> rfl) | (simp [*, errW_none, errW_some] <;> rfl), by repeat (first | (with_reducible first | exact HB.out | apply below_alloc | apply pw_below_drewN | apply below_drew1) | exact HB.out)⟩
                                                        · rw [if_neg c66] at H
                                                          have c66b0 : (t246 == 0) = false := beq_eq_false_iff_ne.mpr c66
                                                          have c66b1 : (t246 != 0) = true := bne_iff_ne.mpr c66
                                                          obtain rfl := Option.some.inj H
                                                          go_wp2_with (first | ((with_reducible refine gate_callee (f := 14) rfl ?_); refine goesL_ (some 113) rfl rfl Try.func14 (by kernel_rfl) rfl #[.string ((a0 ++ (⟨#[32, 35]⟩ : ByteArray)) ++ a2)] rfl (by (try simp only [List.map_toArray, List.map_cons, List.map_nil]); first | done | rfl | (simp only [List.length_drop, List.length_take]; rfl)) ?_; (with_reducible refine (lex_Commands.calls ((a0 ++ (⟨#[32, 35]⟩ : ByteArray)) ++ a2) t244 t245 t246 _ A62.out).mono ?_); rintro e w72 ⟨v247, rfl, ho0, hb⟩; refine ⟨_, rfl, ?_⟩; have n0_ := Aside0.mk (Kd.S_elder' (by (with_reducible repeat (first | apply Kd.S_alloc | apply Kd.S_drewN | apply Kd.S_drew)); exact HO_8.out) (Kd.S_base ho0) hb); have n1_ := Aside0.mk (Kd.S_lower (Kd.S_new' ho0 (Kd.S_lt (by (with_reducible repeat (first | apply Kd.S_alloc | apply Kd.S_drewN | apply Kd.S_drew)); exact HO_8.out))) (below_size (by repeat (first | (with_reducible first | exact HB.out | apply below_alloc | apply pw_below_drewN | apply below_drew1) | exact HB.out)))); have n2_ := Aside0.mk (below_step (by repeat (first | (with_reducible first | exact HB.out | apply below_alloc | apply pw_below_drewN | apply below_drew1) | exact HB.out)) hb); clear HO_8; clear HB; have HO_8 := n0_; have HO248 := n1_; have HB := n2_; clear n0_ n1_ n2_; (try clear hb); (try clear hb2); (try clear hk); (try clear hi); (try clear ho0); obtain ⟨Ao73, co73, eo73⟩ := Kd.S_slice HO_8.out; subst eo73; obtain ⟨Ao74, co74, eo74⟩ := Kd.S_slice HO248.out; subst eo74) | ((with_reducible refine gate_callee (f := 16) rfl ?_); refine goesL_ (some 119) rfl rfl Try.func16 (by kernel_rfl) rfl #[.slice Ao73 t218.length co73, .slice Ao74 t244.length co74] rfl (by (try simp only [List.map_toArray, List.map_cons, List.map_nil]); first | done | rfl | (simp only [List.length_drop, List.length_take]; rfl)) ?_; (with_reducible refine (mullionlaw09_same.calls kj51 _ _ t218 _ _ t244 true _ ?side1 ?side2 ?side3 ?side4 A63.out).mono ?_); (case side1 => repeat (first | exact (Kd.S_reads' HO_8.out).2.2 | (with_reducible refine Kd.C_alloc ?_ _) | (with_reducible refine Kd.C_drewN ?_ _) | (with_reducible refine Kd.C_drew ?_))); (case side2 => exact (Kd.S_reads' HO_8.out).2.1); (case side3 => repeat (first | exact (Kd.S_reads' HO248.out).2.2 | (with_reducible refine Kd.C_alloc ?_ _) | (with_reducible refine Kd.C_drewN ?_ _) | (with_reducible refine Kd.C_drew ?_))); (case side4 => exact (Kd.S_reads' HO248.out).2.1); rintro e w' ⟨rfl, ⟨nd, rfl⟩⟩; refine ⟨_, rfl, ?_⟩))
                                                          go_ret
                                                          exact ⟨by first | rfl | (simp [errW_none, errW_some] <;> rfl) | (simp [*, errW_none, errW_some] <;> rfl), by repeat (first | (with_reducible first | exact HB.out | apply below_alloc | apply pw_below_drewN | apply below_drew1) | exact HB.out)⟩
                                                      · rw [if_neg c65] at H
                                                        have c65b0 : (t245 == 0) = false := beq_eq_false_iff_ne.mpr c65
                                                        have c65b1 : (t245 != 0) = true := bne_iff_ne.mpr c65
                                                        obtain rfl := Option.some.inj H
                                                        go_wp2_with (first | ((with_reducible refine gate_callee (f := 14) rfl ?_); refine goesL_ (some 113) rfl rfl Try.func14 (by kernel_rfl) rfl #[.string ((a0 ++ (⟨#[32, 35]⟩ : ByteArray)) ++ a2)] rfl (by (try simp only [List.map_toArray, List.map_cons, List.map_nil]); first | done | rfl | (simp only [List.length_drop, List.length_take]; rfl)) ?_; (with_reducible refine (lex_Commands.calls ((a0 ++ (⟨#[32, 35]⟩ : ByteArray)) ++ a2) t244 t245 t246 _ A62.out).mono ?_); rintro e w75 ⟨v247, rfl, ho0, hb⟩; refine ⟨_, rfl, ?_⟩; have n0_ := Aside0.mk (Kd.S_elder' (by (with_reducible repeat (first | apply Kd.S_alloc | apply Kd.S_drewN | apply Kd.S_drew)); exact HO_8.out) (Kd.S_base ho0) hb); have n1_ := Aside0.mk (Kd.S_lower (Kd.S_new' ho0 (Kd.S_lt (by (with_reducible repeat (first | apply Kd.S_alloc | apply Kd.S_drewN | apply Kd.S_drew)); exact HO_8.out))) (below_size (by repeat (first | (with_reducible first | exact HB.out | apply below_alloc | apply pw_below_drewN | apply below_drew1) | exact HB.out)))); have n2_ := Aside0.mk (below_step (by repeat (first | (with_reducible first | exact HB.out | apply below_alloc | apply pw_below_drewN | apply below_drew1) | exact HB.out)) hb); clear HO_8; clear HB; have HO_8 := n0_; have HO248 := n1_; have HB := n2_; clear n0_ n1_ n2_; (try clear hb); (try clear hb2); (try clear hk); (try clear hi); (try clear ho0); obtain ⟨Ao76, co76, eo76⟩ := Kd.S_slice HO_8.out; subst eo76; obtain ⟨Ao77, co77, eo77⟩ := Kd.S_slice HO248.out; subst eo77) | ((with_reducible refine gate_callee (f := 16) rfl ?_); refine goesL_ (some 119) rfl rfl Try.func16 (by kernel_rfl) rfl #[.slice Ao76 t218.length co76, .slice Ao77 t244.length co77] rfl (by (try simp only [List.map_toArray, List.map_cons, List.map_nil]); first | done | rfl | (simp only [List.length_drop, List.length_take]; rfl)) ?_; (with_reducible refine (mullionlaw09_same.calls kj51 _ _ t218 _ _ t244 true _ ?side1 ?side2 ?side3 ?side4 A63.out).mono ?_); (case side1 => repeat (first | exact (Kd.S_reads' HO_8.out).2.2 | (with_reducible refine Kd.C_alloc ?_ _) | (with_reducible refine Kd.C_drewN ?_ _) | (with_reducible refine Kd.C_drew ?_))); (case side2 => exact (Kd.S_reads' HO_8.out).2.1); (case side3 => repeat (first | exact (Kd.S_reads' HO248.out).2.2 | (with_reducible refine Kd.C_alloc ?_ _) | (with_reducible refine Kd.C_drewN ?_ _) | (with_reducible refine Kd.C_drew ?_))); (case side4 => exact (Kd.S_reads' HO248.out).2.1); rintro e w' ⟨rfl, ⟨nd, rfl⟩⟩; refine ⟨_, rfl, ?_⟩))
                                                        go_ret
                                                        exact ⟨by first | rfl | (simp [errW_none, errW_some] <;> rfl) | (simp [*, errW_none, errW_some] <;> rfl), by repeat (first | (with_reducible first | exact HB.out | apply below_alloc | apply pw_below_drewN | apply below_drew1) | exact HB.out)⟩
                                                    · replace c64 := Bool.eq_false_iff.mpr c64
                                                      subst c64
                                                      have H1 : (some false) = some r := by rw [if_neg (show ¬ (false = true) by decide)] at H; exact H
                                                      clear H
                                                      have H := H1
                                                      clear H1
                                                      obtain rfl := Option.some.inj H
                                                      go_wp2_with (first | ((with_reducible refine gate_callee (f := 14) rfl ?_); refine goesL_ (some 113) rfl rfl Try.func14 (by kernel_rfl) rfl #[.string ((a0 ++ (⟨#[32, 35]⟩ : ByteArray)) ++ a2)] rfl (by (try simp only [List.map_toArray, List.map_cons, List.map_nil]); first | done | rfl | (simp only [List.length_drop, List.length_take]; rfl)) ?_; (with_reducible refine (lex_Commands.calls ((a0 ++ (⟨#[32, 35]⟩ : ByteArray)) ++ a2) t244 t245 t246 _ A62.out).mono ?_); rintro e w78 ⟨v247, rfl, ho0, hb⟩; refine ⟨_, rfl, ?_⟩; have n0_ := Aside0.mk (Kd.S_elder' (by (with_reducible repeat (first | apply Kd.S_alloc | apply Kd.S_drewN | apply Kd.S_drew)); exact HO_8.out) (Kd.S_base ho0) hb); have n1_ := Aside0.mk (Kd.S_lower (Kd.S_new' ho0 (Kd.S_lt (by (with_reducible repeat (first | apply Kd.S_alloc | apply Kd.S_drewN | apply Kd.S_drew)); exact HO_8.out))) (below_size (by repeat (first | (with_reducible first | exact HB.out | apply below_alloc | apply pw_below_drewN | apply below_drew1) | exact HB.out)))); have n2_ := Aside0.mk (below_step (by repeat (first | (with_reducible first | exact HB.out | apply below_alloc | apply pw_below_drewN | apply below_drew1) | exact HB.out)) hb); clear HO_8; clear HB; have HO_8 := n0_; have HO248 := n1_; have HB := n2_; clear n0_ n1_ n2_; (try clear hb); (try clear hb2); (try clear hk); (try clear hi); (try clear ho0); obtain ⟨Ao79, co79, eo79⟩ := Kd.S_slice HO_8.out; subst eo79; obtain ⟨Ao80, co80, eo80⟩ := Kd.S_slice HO248.out; subst eo80) | ((with_reducible refine gate_callee (f := 16) rfl ?_); refine goesL_ (some 119) rfl rfl Try.func16 (by kernel_rfl) rfl #[.slice Ao79 t218.length co79, .slice Ao80 t244.length co80] rfl (by (try simp only [List.map_toArray, List.map_cons, List.map_nil]); first | done | rfl | (simp only [List.length_drop, List.length_take]; rfl)) ?_; (with_reducible refine (mullionlaw09_same.calls kj51 _ _ t218 _ _ t244 false _ ?side1 ?side2 ?side3 ?side4 A63.out).mono ?_); (case side1 => repeat (first | exact (Kd.S_reads' HO_8.out).2.2 | (with_reducible refine Kd.C_alloc ?_ _) | (with_reducible refine Kd.C_drewN ?_ _) | (with_reducible refine Kd.C_drew ?_))); (case side2 => exact (Kd.S_reads' HO_8.out).2.1); (case side3 => repeat (first | exact (Kd.S_reads' HO248.out).2.2 | (with_reducible refine Kd.C_alloc ?_ _) | (with_reducible refine Kd.C_drewN ?_ _) | (with_reducible refine Kd.C_drew ?_))); (case side4 => exact (Kd.S_reads' HO248.out).2.1); rintro e w' ⟨rfl, ⟨nd, rfl⟩⟩; refine ⟨_, rfl, ?_⟩))
                                                      go_ret
                                                      exact ⟨by first | rfl | (simp [errW_none, errW_some] <;> rfl) | (simp [*, errW_none, errW_some] <;> rfl), by repeat (first | (with_reducible first | exact HB.out | apply below_alloc | apply pw_below_drewN | apply below_drew1) | exact HB.out)⟩
                                                  · rw [if_neg c61] at H
                                                    exact absurd H (by simp)
                                                · rw [if_neg c60] at H
                                                  exact absurd H (by simp)
                                  · rw [if_neg c39] at H
                                    exact absurd H (by simp)
                                · rw [if_neg c38] at H
                                  exact absurd H (by simp)
                              · rw [if_neg c37] at H
                                exact absurd H (by simp)
                            · rw [if_neg c35] at H
                              exact absurd H (by simp)
                    · rw [if_neg c20] at H
                      exact absurd H (by simp)
                  · rw [if_neg c19] at H
                    exact absurd H (by simp)
                · rw [if_neg c18] at H
                  exact absurd H (by simp)

/-- THE ONE PURE STATEMENT of mullionlaw09_LexBlanks: yours. -/
def mullionlaw09_LexBlanks.Pure : Prop := ∀ (a0 : ByteArray) (a1 : Int) (a2 : ByteArray), a0.size ≤ 140737488351232 → (Lit.int .i64 a1).wf = true → a2.size ≤ 140737488351232 → ∃ k, mullionlaw09_LexBlanks.f k a0 a1 a2 = some true
theorem mullionlaw09_LexBlanks.walk (P : mullionlaw09_LexBlanks.Pure) (a0 : ByteArray) (a1 : Int) (a2 : ByteArray) (w : World) (w0 : a0.size ≤ 140737488351232) (w1 : (Lit.int .i64 a1).wf = true) (w2 : a2.size ≤ 140737488351232) :
    Calls Try.prog 8 #[.string a0, .int .i64 a1, .string a2] w fun e w' => e = .returned (.bool true) ∧ Below w.heap.size w w' := by
  obtain ⟨k, h⟩ := P a0 a1 a2 w0 w1 w2
  refine (mullionlaw09_LexBlanks.calls k a0 a1 a2 true w h).mono ?_
  rintro e w' ⟨rfl, hd⟩
  exact ⟨rfl, hd⟩

end Go.Proofs.Ytfpbgchlemcpbaa.PL
