/- The reference's functions of layer 6 in plain words. No condition but those of a Log. -/
import Derived.Test.YtggahoojpikecaaLines
import Derived.Test.YtggahoojpikecaaPSx1
namespace Go.Proofs.Ytggahoojpikecaa.TailLog
open Go.RowKit Go.Proofs.Ytggahoojpikecaa.PS Go.Proofs.YtggahoojpikecaaW.PrintWords Go.Proofs.YtggahoojpikecaaW.PrintLast Go.Proofs.YtggahoojpikecaaW.PrintMore
set_option linter.unusedVariables false
set_option linter.unusedSimpArgs false

theorem wrap_in (x : Int) (h0 : -9223372036854775808 ≤ x) (h1 : x ≤ 9223372036854775807) : wrap64 x = x := by unfold wrap64; omega

/-- What a Log of the reference is: its numbers. -/
structure Good (lim st : Int) (d : ByteArray) : Prop where
  l0 : 1 ≤ lim
  l1 : lim ≤ 65536
  s0 : 0 ≤ st
  dl : (d.size : Int) ≤ lim
  se : st + d.size ≤ 4611686018427387904

theorem ref_new (lim : Int) : mullionref06_New.f lim = some (if loadE lim 0 ⟨#[]⟩ = 0 then lim else 0, 0, ⟨#[]⟩, loadE lim 0 ⟨#[]⟩) := by
  unfold mullionref06_New.f loadE
  have hz : ((⟨#[]⟩ : ByteArray).size : Int) = 0 := rfl
  by_cases h1 : lim < 1
  · rw [if_pos h1, if_pos (Or.inl h1)]; rfl
  · rw [if_neg h1]
    by_cases h2 : lim > 65536
    · rw [if_pos h2, if_pos (Or.inr (Or.inl h2))]; rfl
    · have c1 : ¬ (lim < 1 ∨ 65536 < lim ∨ (0 : Int) < 0 ∨ lim < ((⟨#[]⟩ : ByteArray).size : Int)) := by rw [hz]; omega
      have c2 : ¬ (4611686018427387904 - ((⟨#[]⟩ : ByteArray).size : Int) < 0) := by rw [hz]; omega
      rw [if_neg h2, if_neg c1, if_neg c2, if_pos rfl]
theorem ref_load (lim st : Int) (d : ByteArray) (hd : d.size ≤ 140737488351232) (hs : st ≤ 9223372036854775807) :
    mullionref06_Load.f 1 lim st d = some (if loadE lim st d = 0 then lim else 0, if loadE lim st d = 0 then st else 0, if loadE lim st d = 0 then d else ⟨#[]⟩, loadE lim st d) := by
  unfold mullionref06_Load.f loadE
  have hw : wrap64 (4611686018427387904 - (d.size : Int)) = 4611686018427387904 - (d.size : Int) := wrap_in _ (by omega) (by omega)
  by_cases h1 : lim < 1
  · rw [if_pos h1, if_pos (Or.inl h1)]; rfl
  rw [if_neg h1]
  by_cases h2 : lim > 65536
  · rw [if_pos h2, if_pos (Or.inr (Or.inl h2))]; rfl
  rw [if_neg h2]
  by_cases h3 : st < 0
  · rw [if_pos h3, if_pos (Or.inr (Or.inr (Or.inl h3)))]; rfl
  by_cases h4 : (d.size : Int) > lim
  · rw [if_neg h3, if_pos (show lim < 1 ∨ 65536 < lim ∨ st < 0 ∨ lim < (d.size : Int) from Or.inr (Or.inr (Or.inr h4))), mullionref06_Load.j0, decide_eq_true h4]; rfl
  have c1 : ¬ (lim < 1 ∨ 65536 < lim ∨ st < 0 ∨ lim < (d.size : Int)) := by omega
  rw [if_neg h3, if_neg c1, mullionref06_Load.j0, decide_eq_false h4, if_neg (by decide), hw]
  by_cases h5 : st > 4611686018427387904 - (d.size : Int)
  · rw [if_pos h5, if_pos h5]; rfl
  · rw [if_neg h5, if_neg h5]; rfl
theorem ref_end (lim st : Int) (d : ByteArray) (h : Good lim st d) : mullionref06_End.f lim st d = some (st + d.size) := by
  have := h.s0
  have := h.se
  unfold mullionref06_End.f
  rw [wrap_in _ (by omega) (by omega)]
theorem appF_good {lim st : Int} {d : ByteArray} (h : Good lim st d) (x : ByteArray) (hx : x.size ≤ 140737488351232) : Good lim (appF lim st d x).1 (appF lim st d x).2.1 := by
  obtain ⟨l0, l1, s0, dl, se⟩ := h
  unfold appF
  by_cases h1 : 4611686018427387904 - (x.size : Int) < st + d.size
  · rw [if_pos h1]; exact ⟨l0, l1, s0, dl, se⟩
  · rw [if_neg h1]
    have e : ((d ++ x).extract (((d ++ x).size : Int) - lim).toNat (d ++ x).size).size = (d ++ x).size - (((d ++ x).size : Int) - lim).toNat := by rw [ByteArray.size_extract]; omega
    have e2 : (d ++ x).size = d.size + x.size := ByteArray.size_append
    refine ⟨l0, l1, ?_, ?_, ?_⟩
    · show 0 ≤ st + _; omega
    · show (((d ++ x).extract _ _).size : Int) ≤ lim; rw [e]; omega
    · show st + _ + (((d ++ x).extract _ _).size : Int) ≤ _; rw [e]; omega
set_option maxHeartbeats 4000000 in
set_option maxRecDepth 100000 in
theorem ref_read_ok (lim st : Int) (d : ByteArray) (h : Good lim st d) (fr most : Int) (h0 : 0 ≤ fr) (h1 : 0 ≤ most) (h2 : st ≤ fr) (h3 : fr ≤ st + d.size) (h4 : ((d.size : Int) - (fr - st)) ≤ most) (w : World) :
    Calls Try.prog 32 #[.agg #[.int .i64 lim, .int .i64 st, .string d], .int .i64 fr, .int .i64 most] w fun e w' =>
      e = .returned (.tuple #[.string (d.extract (fr - st).toNat d.size), .int .i64 (st + d.size), .int .i64 0]) ∧ Below w.heap.size w w' := by
  obtain ⟨l0, l1, s0, dl, se⟩ := h
  have b0 : decide (fr < 0) = false := decide_eq_false (by omega)
  have b1 : decide (most < 0) = false := decide_eq_false (by omega)
  have b2 : decide (fr < st) = false := decide_eq_false (by omega)
  have b3 : decide (st + (d.size : Int) < fr) = false := decide_eq_false (by omega)
  have b4 : decide (most < ((d.size - (fr - st).toNat : Nat) : Int)) = false := decide_eq_false (by omega)
  have w1 : IntKind.i64.wrap (fr - st) = fr - st := IntWalk.i64_in _ (by omega)
  go_enter Try.func32, Try.ntmps32
  go_wp2
  go_ret3
  refine ⟨?_, (by repeat (first | exact Below.refl _ _ | apply below_alloc | apply pw_below_drewN | apply below_drew1))⟩
  have e : fr + ((d.size - (fr - st).toNat : Nat) : Int) = st + d.size := by omega
  rw [← e]
  rfl
set_option maxHeartbeats 4000000 in
set_option maxRecDepth 100000 in
theorem ref_read_cut (lim st : Int) (d : ByteArray) (h : Good lim st d) (fr most : Int) (h0 : 0 ≤ fr) (h1 : 0 ≤ most) (h2 : st ≤ fr) (h3 : fr ≤ st + d.size) (h4 : most < ((d.size : Int) - (fr - st))) (w : World) :
    Calls Try.prog 32 #[.agg #[.int .i64 lim, .int .i64 st, .string d], .int .i64 fr, .int .i64 most] w fun e w' =>
      e = .returned (.tuple #[.string (d.extract (fr - st).toNat (fr - st + most).toNat), .int .i64 (fr + most), .int .i64 0]) ∧ Below w.heap.size w w' := by
  obtain ⟨l0, l1, s0, dl, se⟩ := h
  have b0 : decide (fr < 0) = false := decide_eq_false (by omega)
  have b1 : decide (most < 0) = false := decide_eq_false (by omega)
  have b2 : decide (fr < st) = false := decide_eq_false (by omega)
  have b3 : decide (st + (d.size : Int) < fr) = false := decide_eq_false (by omega)
  have b4 : decide (most < ((d.size - (fr - st).toNat : Nat) : Int)) = true := decide_eq_true (by omega)
  have w1 : IntKind.i64.wrap (fr - st) = fr - st := IntWalk.i64_in _ (by omega)
  have hz : most ≤ ((d.size - (fr - st).toNat : Nat) : Int) := by omega
  have e2 : (d.extract (fr - st).toNat d.size).extract 0 most.toNat = d.extract (fr - st).toNat (fr - st + most).toNat := by
    rw [ByteArray.extract_extract]
    congr 1 <;> omega
  have e3 : (d.extract (fr - st).toNat (fr - st + most).toNat).size = most.toNat := by rw [ByteArray.size_extract]; omega
  go_enter Try.func32, Try.ntmps32
  go_wp2
  go_ret3
  refine ⟨?_, (by repeat (first | exact Below.refl _ _ | apply below_alloc | apply pw_below_drewN | apply below_drew1))⟩
  have e : fr + max most 0 = fr + most := by omega
  rw [← e]
  rfl
set_option maxHeartbeats 4000000 in
set_option maxRecDepth 100000 in
theorem ref_read_arg (lim st : Int) (d : ByteArray) (fr most : Int) (h0 : fr < 0 ∨ most < 0) (w : World) :
    Calls Try.prog 32 #[.agg #[.int .i64 lim, .int .i64 st, .string d], .int .i64 fr, .int .i64 most] w fun e w' =>
      e = .returned (.tuple #[.string ⟨#[]⟩, .int .i64 0, .int .i64 1]) ∧ Below w.heap.size w w' := by
  by_cases h1 : fr < 0
  · have b0 : decide (fr < 0) = true := decide_eq_true (by omega)
    clear h0
    go_enter Try.func32, Try.ntmps32
    go_wp2
    go_ret3
    exact ⟨rfl, (by repeat (first | exact Below.refl _ _ | apply below_alloc | apply pw_below_drewN | apply below_drew1))⟩
  · have b0 : decide (fr < 0) = false := decide_eq_false (by omega)
    have b1 : decide (most < 0) = true := decide_eq_true (by omega)
    clear h0
    go_enter Try.func32, Try.ntmps32
    go_wp2
    go_ret3
    exact ⟨rfl, (by repeat (first | exact Below.refl _ _ | apply below_alloc | apply pw_below_drewN | apply below_drew1))⟩
set_option maxHeartbeats 4000000 in
set_option maxRecDepth 100000 in
theorem ref_read_gone (lim st : Int) (d : ByteArray) (fr most : Int) (h0 : 0 ≤ fr) (h1 : 0 ≤ most) (h2 : fr < st) (w : World) :
    Calls Try.prog 32 #[.agg #[.int .i64 lim, .int .i64 st, .string d], .int .i64 fr, .int .i64 most] w fun e w' =>
      e = .returned (.tuple #[.string ⟨#[]⟩, .int .i64 0, .int .i64 60]) ∧ Below w.heap.size w w' := by
  have b0 : decide (fr < 0) = false := decide_eq_false (by omega)
  have b1 : decide (most < 0) = false := decide_eq_false (by omega)
  have b2 : decide (fr < st) = true := decide_eq_true (by omega)
  go_enter Try.func32, Try.ntmps32
  go_wp2
  go_ret3
  exact ⟨rfl, (by repeat (first | exact Below.refl _ _ | apply below_alloc | apply pw_below_drewN | apply below_drew1))⟩
set_option maxHeartbeats 4000000 in
set_option maxRecDepth 100000 in
theorem ref_read_ahead (lim st : Int) (d : ByteArray) (h : Good lim st d) (fr most : Int) (h0 : 0 ≤ fr) (h1 : 0 ≤ most) (h2 : st ≤ fr) (h3 : st + d.size < fr) (w : World) :
    Calls Try.prog 32 #[.agg #[.int .i64 lim, .int .i64 st, .string d], .int .i64 fr, .int .i64 most] w fun e w' =>
      e = .returned (.tuple #[.string ⟨#[]⟩, .int .i64 0, .int .i64 61]) ∧ Below w.heap.size w w' := by
  obtain ⟨l0, l1, s0, dl, se⟩ := h
  have b0 : decide (fr < 0) = false := decide_eq_false (by omega)
  have b1 : decide (most < 0) = false := decide_eq_false (by omega)
  have b2 : decide (fr < st) = false := decide_eq_false (by omega)
  have b3 : decide (st + (d.size : Int) < fr) = true := decide_eq_true (by omega)
  go_enter Try.func32, Try.ntmps32
  go_wp2
  go_ret3
  exact ⟨rfl, (by repeat (first | exact Below.refl _ _ | apply below_alloc | apply pw_below_drewN | apply below_drew1))⟩
theorem ref_read (lim st : Int) (d : ByteArray) (h : Good lim st d) (fr most : Int) (w : World) :
    Calls Try.prog 32 #[.agg #[.int .i64 lim, .int .i64 st, .string d], .int .i64 fr, .int .i64 most] w fun e w' =>
      e = .returned (.tuple #[.string (readF lim st d fr most).1, .int .i64 (readF lim st d fr most).2.1, .int .i64 (readF lim st d fr most).2.2]) ∧ Below w.heap.size w w' := by
  unfold readF
  by_cases h1 : fr < 0 ∨ most < 0
  · rw [if_pos h1]
    exact ref_read_arg lim st d fr most h1 w
  rw [if_neg h1]
  by_cases h2 : fr < st
  · rw [if_pos h2]
    exact ref_read_gone lim st d fr most (by omega) (by omega) h2 w
  rw [if_neg h2]
  by_cases h3 : st + d.size < fr
  · rw [if_pos h3]
    exact ref_read_ahead lim st d h fr most (by omega) (by omega) (by omega) h3 w
  rw [if_neg h3]
  by_cases h4 : most < ((d.size : Int) - (fr - st))
  · have e : min most (st + (d.size : Int) - fr) = most := by omega
    rw [e]
    exact ref_read_cut lim st d h fr most (by omega) (by omega) (by omega) (by omega) h4 w
  · have e : min most (st + (d.size : Int) - fr) = st + d.size - fr := by omega
    rw [e]
    have h5 := ref_read_ok lim st d h fr most (by omega) (by omega) (by omega) (by omega) (by omega) w
    have e2 : (fr - st + (st + (d.size : Int) - fr)).toNat = d.size := by omega
    have e3 : fr + (st + (d.size : Int) - fr) = st + d.size := by omega
    rw [e2, e3]
    exact h5
theorem put3 {w : World} {g : Nat} {a b c : Value} (h : w.heap[g]? = some (.cells #[a, b, c] 43 (0, 0))) (x y z : Value) :
    (((w.setCell ⟨g, 0, none⟩ x).setCell ⟨g, 1, none⟩ y).setCell ⟨g, 2, none⟩ z).heap[g]? = some (.cells #[x, y, z] 43 (0, 0)) := by
  have h1 := blk_set (blk_set (blk_set h 0 x) 1 y) 2 z
  simpa using h1
theorem heap_low (w : World) (a b c : Obj) : (((w.alloc a).alloc b).alloc c).heap[w.heap.size]? = some a := by
  have h1 := heap_alloc_new w a
  have h2 := (below_alloc (below_alloc (Below.refl (w.alloc a).heap.size (w.alloc a)) b) c).block w.heap.size (blk_lt h1)
  exact h2.trans h1
theorem heap_mid (w : World) (a b c : Obj) : (((w.alloc a).alloc b).alloc c).heap[w.heap.size + 1]? = some b := by
  have e : (w.alloc a).heap.size = w.heap.size + 1 := by simp
  have h1 := heap_alloc_new (w.alloc a) b
  rw [e] at h1
  have h2 := (below_alloc (Below.refl ((w.alloc a).alloc b).heap.size ((w.alloc a).alloc b)) c).block (w.heap.size + 1) (blk_lt h1)
  exact h2.trans h1

set_option maxHeartbeats 4000000 in
set_option maxRecDepth 100000 in
theorem ref_append_long (lim st : Int) (d x : ByteArray) (h : Good lim st d) (hx : x.size ≤ 140737488351232) (h1 : 4611686018427387904 - (x.size : Int) < st + d.size) (w : World) :
    Calls Try.prog 31 #[.agg #[.int .i64 lim, .int .i64 st, .string d], .string x] w fun e w' =>
      e = .returned (.tuple #[.agg #[.int .i64 lim, .int .i64 st, .string d], .int .i64 2]) ∧ Below w.heap.size w w' := by
  obtain ⟨l0, l1, s0, dl, se⟩ := h
  have b0 : decide (4611686018427387904 - (st + (d.size : Int)) < (x.size : Int)) = true := decide_eq_true (by omega)
  have hu43 := Try.underlying43
  go_enter Try.func31, Try.ntmps31
  go_wp2
  refine bodyPost_ret (results_ct rfl _ _ (w.heap.size + 1) 43 #[.int .i64 lim, .int .i64 st, .string d] (0, 0) _ rfl (heap_mid _ _ _ _) Try.underlying43 rfl (by kernel_rfl)) rfl ?_
  exact ⟨rfl, (by repeat (first | exact Below.refl _ _ | apply below_alloc | apply pw_below_drewN | apply below_drew1))⟩
set_option maxHeartbeats 4000000 in
set_option maxRecDepth 100000 in
theorem ref_append_cut (lim st : Int) (d x : ByteArray) (h : Good lim st d) (hx : x.size ≤ 140737488351232) (h1 : st + d.size ≤ 4611686018427387904 - (x.size : Int)) (h2 : lim < ((d ++ x).size : Int)) (w : World) :
    Calls Try.prog 31 #[.agg #[.int .i64 lim, .int .i64 st, .string d], .string x] w fun e w' =>
      e = .returned (.tuple #[.agg #[.int .i64 lim, .int .i64 (st + (((d ++ x).size : Int) - lim)), .string ((d ++ x).extract (((d ++ x).size : Int) - lim).toNat (d ++ x).size)], .int .i64 0]) ∧ Below w.heap.size w w' := by
  obtain ⟨l0, l1, s0, dl, se⟩ := h
  have e0 : (d ++ x).size = d.size + x.size := ByteArray.size_append
  have b0 : decide (4611686018427387904 - (st + (d.size : Int)) < (x.size : Int)) = false := decide_eq_false (by omega)
  have b1 : decide (lim < ((d ++ x).size : Int)) = true := decide_eq_true (by omega)
  have b2 : decide (lim < (d.size : Int) + (x.size : Int)) = true := decide_eq_true (by omega)
  have hu43 := Try.underlying43
  go_enter Try.func31, Try.ntmps31
  go_wp2
  generalize hW : World.alloc _ _ = W1
  have hlo : W1.heap[w.heap.size]? = some (.cells #[.int .i64 lim, .int .i64 st, .string d] 43 (0, 0)) := by rw [← hW]; exact heap_low _ _ _ _
  have hmi : W1.heap[w.heap.size + 1]? = some (.cells #[.int .i64 0, .int .i64 0, .string ⟨#[]⟩] 43 (0, 0)) := by rw [← hW]; exact heap_mid _ _ _ _
  have HB := Aside0.mk (show Below w.heap.size w W1 by rw [← hW]; repeat (first | exact Below.refl _ _ | apply below_alloc))
  clear hW
  have l0' : W1.cell? ⟨w.heap.size, 0, none⟩ = some (.int .i64 lim) := (blk_cell hlo 0).trans rfl
  have l1' : W1.cell? ⟨w.heap.size, 1, none⟩ = some (.int .i64 st) := (blk_cell hlo 1).trans rfl
  have l2' : W1.cell? ⟨w.heap.size, 2, none⟩ = some (.string d) := (blk_cell hlo 2).trans rfl
  have w1 : IntKind.i64.wrap (st + ((d.size : Int) + x.size - lim)) = st + ((d.size : Int) + x.size - lim) := IntWalk.i64_in _ (by omega)
  have hcut : ∀ W : World, (Instr.slice 9 (.string (d ++ x)) (some (.int .i64 ((d.size : Int) + x.size - lim))) none none).run Try.prog W = .ok (.string ((d ++ x).extract ((d.size : Int) + x.size - lim).toNat (d ++ x).size)) W := fun W => run_slice_string_l W 9 (d ++ x) Try.underlying9 .i64 _ (by omega) (by omega)
  generalize hall : (d ++ x).extract ((d.size : Int) + x.size - lim).toNat (d ++ x).size = all at hcut
  have HALL := Aside0.mk hall
  clear hall
  go_still_tail 10, (by kernel_rfl)
  change wpList _ _ _ _ _ W1.drew
  have hmi2 : W1.drew.heap[w.heap.size + 1]? = some (.cells #[.int .i64 0, .int .i64 0, .string ⟨#[]⟩] 43 (0, 0)) := hmi
  have HB2 := Aside0.mk (below_drew HB.out)
  generalize W1.drew = W2 at hmi2 HB2 ⊢
  have m0 : W2.cell? ⟨w.heap.size + 1, 0, none⟩ = some (.int .i64 0) := (blk_cell hmi2 0).trans rfl
  have m1 : W2.cell? ⟨w.heap.size + 1, 1, none⟩ = some (.int .i64 0) := (blk_cell hmi2 1).trans rfl
  have m2 : W2.cell? ⟨w.heap.size + 1, 2, none⟩ = some (.string ⟨#[]⟩) := (blk_cell hmi2 2).trans rfl
  have f0 := blk_frozen hmi2 0
  have f1 := blk_frozen hmi2 1
  have f2 := blk_frozen hmi2 2
  have HM := Aside0.mk hmi2
  clear hmi2 w1 hcut hmi
  go_wp2
  have hfin := put3 HM.out (.int .i64 lim) (.int .i64 (st + ((d.size : Int) + x.size - lim))) (.string all)
  refine bodyPost_ret (results_ct rfl _ _ (w.heap.size + 1) 43 #[.int .i64 lim, .int .i64 (st + ((d.size : Int) + x.size - lim)), .string all] (0, 0) _ rfl hfin Try.underlying43 rfl (by kernel_rfl)) rfl ?_
  refine ⟨?_, below_set (below_set (below_set HB2.out (Nat.le_succ _)) (Nat.le_succ _)) (Nat.le_succ _)⟩
  rw [← HALL.out, e0]
  simp
set_option maxHeartbeats 4000000 in
set_option maxRecDepth 100000 in
theorem ref_append_keep (lim st : Int) (d x : ByteArray) (h : Good lim st d) (hx : x.size ≤ 140737488351232) (h1 : st + d.size ≤ 4611686018427387904 - (x.size : Int)) (h2 : ((d ++ x).size : Int) ≤ lim) (w : World) :
    Calls Try.prog 31 #[.agg #[.int .i64 lim, .int .i64 st, .string d], .string x] w fun e w' =>
      e = .returned (.tuple #[.agg #[.int .i64 lim, .int .i64 st, .string (d ++ x)], .int .i64 0]) ∧ Below w.heap.size w w' := by
  obtain ⟨l0, l1, s0, dl, se⟩ := h
  have e0 : (d ++ x).size = d.size + x.size := ByteArray.size_append
  have b0 : decide (4611686018427387904 - (st + (d.size : Int)) < (x.size : Int)) = false := decide_eq_false (by omega)
  have b1 : decide (lim < ((d ++ x).size : Int)) = false := decide_eq_false (by omega)
  have b2 : decide (lim < (d.size : Int) + (x.size : Int)) = false := decide_eq_false (by omega)
  have hu43 := Try.underlying43
  go_enter Try.func31, Try.ntmps31
  go_wp2
  generalize hW : World.alloc _ _ = W1
  have hlo : W1.heap[w.heap.size]? = some (.cells #[.int .i64 lim, .int .i64 st, .string d] 43 (0, 0)) := by rw [← hW]; exact heap_low _ _ _ _
  have hmi : W1.heap[w.heap.size + 1]? = some (.cells #[.int .i64 0, .int .i64 0, .string ⟨#[]⟩] 43 (0, 0)) := by rw [← hW]; exact heap_mid _ _ _ _
  have HB := Aside0.mk (show Below w.heap.size w W1 by rw [← hW]; repeat (first | exact Below.refl _ _ | apply below_alloc))
  clear hW
  have l0' : W1.cell? ⟨w.heap.size, 0, none⟩ = some (.int .i64 lim) := (blk_cell hlo 0).trans rfl
  have l1' : W1.cell? ⟨w.heap.size, 1, none⟩ = some (.int .i64 st) := (blk_cell hlo 1).trans rfl
  have l2' : W1.cell? ⟨w.heap.size, 2, none⟩ = some (.string d) := (blk_cell hlo 2).trans rfl
  have hcut : ∀ W : World, (Instr.slice 9 (.string (d ++ x)) (some (.int .i64 0)) none none).run Try.prog W = .ok (.string ((d ++ x).extract 0 (d ++ x).size)) W := fun W => run_slice_string_l W 9 (d ++ x) Try.underlying9 .i64 _ (by omega) (by omega)
  generalize hall : (d ++ x).extract 0 (d ++ x).size = all at hcut
  have HALL := Aside0.mk hall
  clear hall
  go_still_tail 10, (by kernel_rfl)
  change wpList _ _ _ _ _ W1.drew
  have hmi2 : W1.drew.heap[w.heap.size + 1]? = some (.cells #[.int .i64 0, .int .i64 0, .string ⟨#[]⟩] 43 (0, 0)) := hmi
  have HB2 := Aside0.mk (below_drew HB.out)
  generalize W1.drew = W2 at hmi2 HB2 ⊢
  have m0 : W2.cell? ⟨w.heap.size + 1, 0, none⟩ = some (.int .i64 0) := (blk_cell hmi2 0).trans rfl
  have m1 : W2.cell? ⟨w.heap.size + 1, 1, none⟩ = some (.int .i64 0) := (blk_cell hmi2 1).trans rfl
  have m2 : W2.cell? ⟨w.heap.size + 1, 2, none⟩ = some (.string ⟨#[]⟩) := (blk_cell hmi2 2).trans rfl
  have f0 := blk_frozen hmi2 0
  have f1 := blk_frozen hmi2 1
  have f2 := blk_frozen hmi2 2
  have HM := Aside0.mk hmi2
  clear hmi2 hcut hmi
  go_wp2
  have hfin := put3 HM.out (.int .i64 lim) (.int .i64 st) (.string all)
  refine bodyPost_ret (results_ct rfl _ _ (w.heap.size + 1) 43 #[.int .i64 lim, .int .i64 st, .string all] (0, 0) _ rfl hfin Try.underlying43 rfl (by kernel_rfl)) rfl ?_
  refine ⟨?_, below_set (below_set (below_set HB2.out (Nat.le_succ _)) (Nat.le_succ _)) (Nat.le_succ _)⟩
  have e9 : all = d ++ x := by
    rw [← HALL.out]
    exact ByteArray.extract_zero_size
  rw [← e9]
  rfl
theorem ref_append (lim st : Int) (d x : ByteArray) (h : Good lim st d) (hx : x.size ≤ 140737488351232) (w : World) :
    Calls Try.prog 31 #[.agg #[.int .i64 lim, .int .i64 st, .string d], .string x] w fun e w' =>
      e = .returned (.tuple #[.agg #[.int .i64 lim, .int .i64 (appF lim st d x).1, .string (appF lim st d x).2.1], .int .i64 (appF lim st d x).2.2]) ∧ Below w.heap.size w w' := by
  have e0 : (d ++ x).size = d.size + x.size := ByteArray.size_append
  unfold appF
  by_cases h1 : 4611686018427387904 - (x.size : Int) < st + d.size
  · rw [if_pos h1]
    exact ref_append_long lim st d x h hx h1 w
  · rw [if_neg h1]
    by_cases h2 : lim < ((d ++ x).size : Int)
    · have h3 := ref_append_cut lim st d x h hx (by omega) h2 w
      have e1 : ((((d ++ x).size : Int) - lim).toNat : Int) = ((d ++ x).size : Int) - lim := by omega
      rw [e1]
      exact h3
    · have h3 := ref_append_keep lim st d x h hx (by omega) (by omega) w
      have e1 : (((d ++ x).size : Int) - lim).toNat = 0 := by omega
      have e2 : (d ++ x).extract 0 (d ++ x).size = d ++ x := ByteArray.extract_zero_size
      rw [e1, e2]
      have e3 : st + ((0 : Nat) : Int) = st := by omega
      rw [e3]
      exact h3

theorem bt_bytes (d : ByteArray) (i : Nat) : bt d (i : Int) = (bytesOf d).getD i 0 := by
  rw [← rd_bytesOf]
  rfl
theorem ref_lines0 (lim st : Int) (d : ByteArray) (hd : d.size ≤ 65536) : ∀ (i n k : Nat), 1 ≤ n → n ≤ 9223372036854775807 → i ≤ d.size → i + 1 ≤ k →
    Go.Proofs.Ytggahoojpikecaa.PR.mullionref06_Lines.l0 k n ((i : Int) - 1) lim st d = some (d.extract (rf (bytesOf d) n i + 1).toNat d.size) := by
  intro i
  induction i with
  | zero =>
    intro n k hn hn2 hi hk
    obtain ⟨j, rfl⟩ := Nat.exists_eq_succ_of_ne_zero (show k ≠ 0 by omega)
    rw [Nat.succ_eq_add_one, Go.Proofs.Ytggahoojpikecaa.PR.mullionref06_Lines.l0, if_neg (by omega), rf]
    congr 1
    exact ByteArray.extract_zero_size.symm
  | succ i ih =>
    intro n k hn hn2 hi hk
    obtain ⟨j, rfl⟩ := Nat.exists_eq_succ_of_ne_zero (show k ≠ 0 by omega)
    have e1 : ((i + 1 : Nat) : Int) - 1 = (i : Int) := by omega
    rw [e1, Nat.succ_eq_add_one, Go.Proofs.Ytggahoojpikecaa.PR.mullionref06_Lines.l0, if_pos (by omega), if_pos (by omega), if_pos (by omega), bt_bytes, rf, wrap_in ((i : Int) - 1) (by omega) (by omega), wrap_in ((n : Int) - 1) (by omega) (by omega), wrap_in ((i : Int) + 1) (by omega) (by omega)]
    by_cases h1 : (bytesOf d).getD i 0 = 10
    · rw [if_pos h1, if_pos h1]
      by_cases h2 : n ≤ 1
      · rw [if_pos (by omega), if_pos (by omega), if_pos (by omega), if_pos h2]
      · rw [if_neg (by omega), if_neg h2]
        have := ih (n - 1) j (by omega) (by omega) (by omega) (by omega)
        rw [show ((n - 1 : Nat) : Int) = (n : Int) - 1 by omega] at this
        exact this
    · rw [if_neg h1, if_neg h1]
      exact ih n j hn hn2 (by omega) (by omega)
theorem ref_lines (lim st : Int) (d : ByteArray) (hd : d.size ≤ 65536) (n : Int) (hn : n ≤ 9223372036854775807) :
    Go.Proofs.Ytggahoojpikecaa.PR.mullionref06_Lines.f 70000 lim st d n = some (linesF d n) := by
  unfold Go.Proofs.Ytggahoojpikecaa.PR.mullionref06_Lines.f linesF
  by_cases h1 : n < 1
  · rw [if_pos h1, if_pos h1]
  · rw [if_neg h1, if_neg h1]
    obtain ⟨m, rfl⟩ := Int.eq_ofNat_of_zero_le (show 0 ≤ n by omega)
    rw [wrap_in _ (by omega) (by omega), Int.toNat_natCast]
    rcases Nat.eq_zero_or_pos d.size with h0 | h0
    · rw [h0, Go.Proofs.Ytggahoojpikecaa.PR.mullionref06_Lines.l0, if_neg (by decide)]
      have e0 : d = ⟨#[]⟩ := by
        apply ByteArray.ext
        exact Array.eq_empty_of_size_eq_zero h0
      subst e0
      rfl
    · have := ref_lines0 lim st d hd (d.size - 1) m 70000 (by omega) (by omega) (by omega) (by omega)
      rw [show ((d.size - 1 : Nat) : Int) - 1 = (d.size : Int) - 2 by omega] at this
      exact this
end Go.Proofs.Ytggahoojpikecaa.TailLog
