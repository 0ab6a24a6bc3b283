/- The law's own step: one call to a Log and to the reference's: the same. No condition but lengths below a bound. -/
import Derived.Test.YtggahoojpikecaaMade
namespace Go.Proofs.Ytggahoojpikecaa.TailLog
open Go.RowKit Go.Proofs.YtggahoojpikecaaW.PrintWords Go.Proofs.YtggahoojpikecaaW.PrintLast Go.Proofs.YtggahoojpikecaaW.PrintMore
set_option linter.unusedVariables false
set_option linter.unusedSimpArgs false

/-- What step answers. -/
def StepP (w : World) (g : Nat) (lim st : Int) (d : ByteArray) (e : Ending) (w' : World) : Prop :=
  e = .returned (.tuple #[.agg #[.int .i64 lim, .int .i64 st, .string d], .bool true]) ∧ KeepBut w w' g none ∧ Below g w w' ∧ TL w' g lim st d

theorem alloc3 (w : World) (a b c : Obj) : (((w.alloc a).alloc b).alloc c).heap[w.heap.size]? = some a ∧ (((w.alloc a).alloc b).alloc c).heap[w.heap.size + 1]? = some b ∧ (((w.alloc a).alloc b).alloc c).heap[w.heap.size + 1 + 1]? = some c ∧
    Below w.heap.size w (((w.alloc a).alloc b).alloc c) := by
  refine ⟨heap_low w a b c, heap_mid w a b c, ?_, below_alloc (below_alloc (below_alloc (Below.refl _ _) _) _) _⟩
  have e : ((w.alloc a).alloc b).heap.size = w.heap.size + 1 + 1 := by simp
  rw [← e]
  exact heap_alloc_new _ _
/-- Behind three stores to a block made since. -/
theorem step_end {w W : World} {g b : Nat} {lim st : Int} {d : ByteArray} {x y z a1 a2 a3 : Value} (hg : g < w.heap.size) (hb : w.heap.size ≤ b) (hB : Below g w W) (hK : KeepBut w W g none) (hT : TL W g lim st d)
    (hr : W.heap[b]? = some (.cells #[a1, a2, a3] 43 (0, 0))) :
    KeepBut w (((W.setCell ⟨b, 0, none⟩ x).setCell ⟨b, 1, none⟩ y).setCell ⟨b, 2, none⟩ z) g none ∧ Below g w (((W.setCell ⟨b, 0, none⟩ x).setCell ⟨b, 1, none⟩ y).setCell ⟨b, 2, none⟩ z) ∧
      TL (((W.setCell ⟨b, 0, none⟩ x).setCell ⟨b, 1, none⟩ y).setCell ⟨b, 2, none⟩ z) g lim st d := by
  refine ⟨keep_far (keep_far (keep_far hK (p := ⟨b, 0, none⟩) hb x) (p := ⟨b, 1, none⟩) hb y) (p := ⟨b, 2, none⟩) hb z, ?_, ?_⟩
  · exact ((hB.setCell (p := ⟨b, 0, none⟩) (by show g ≤ b; omega) x).setCell (p := ⟨b, 1, none⟩) (by show g ≤ b; omega) y).setCell (p := ⟨b, 2, none⟩) (by show g ≤ b; omega) z
  · have hkp : KeepBut W (((W.setCell ⟨b, 0, none⟩ x).setCell ⟨b, 1, none⟩ y).setCell ⟨b, 2, none⟩ z) b none := (((KeepBut.refl W b none).set_ 0 x).set_ 1 y).set_ 2 z
    exact hT.keep' hkp (hT.ne hr (by decide)) hr (by decide)
theorem below_gg {w W W' : World} {g : Nat} (h : Below g w W) (hB : Below g W W') : Below g w W' :=
  ⟨hB.os.trans h.os, hB.tape.trans h.tape, hB.output.trans h.output, Nat.le_trans h.size hB.size, fun k hk => (hB.block k hk).trans (h.block k hk)⟩
theorem below_low {w W : World} {g : Nat} (hg : g ≤ w.heap.size) (h : Below w.heap.size w W) : Below g w W := ⟨h.os, h.tape, h.output, h.size, fun k hk => h.block k (by omega)⟩
theorem keep_new {w W W' : World} {g : Nat} (h : KeepBut w W g none) (hB : Below W.heap.size W W') : KeepBut w W' g none := h.trans (KeepBut.of_below hB g none) (.inl rfl)
theorem below_g {w W W' : World} {g : Nat} (h : Below g w W) (hg : g ≤ W.heap.size) (hB : Below W.heap.size W W') : Below g w W' :=
  ⟨hB.os.trans h.os, hB.tape.trans h.tape, hB.output.trans h.output, Nat.le_trans h.size hB.size, fun k hk => (hB.block k (by omega)).trans (h.block k hk)⟩

set_option maxHeartbeats 4000000 in
set_option maxRecDepth 100000 in
theorem step0 (w : World) (g : Nat) (lim st : Int) (d : ByteArray) (h : TL w g lim st d) (hG : Good lim st d) (a b : Int) (x : ByteArray) (hx : x.size ≤ 140737488351232) :
    Calls Try.prog 21 #[.pointer (some ⟨g, 0, none⟩), .agg #[.int .i64 lim, .int .i64 st, .string d], .agg #[.int .i64 0, .string x, .int .i64 a, .int .i64 b]] w fun e w' =>
      StepP w g lim (appF lim st d x).1 (appF lim st d x).2.1 e w' := by
  have hu43 := Try.underlying43
  have hu29 := Try.underlying29
  have hgl := h.lt
  go_enter Try.func21, Try.ntmps21
  go_upto_region 1 with (fail)
  obtain ⟨hr, ho, hs, hB⟩ := alloc3 w (.cells #[.int .i64 lim, .int .i64 st, .string d] 43) (.cells #[.int .i64 0, .string x, .int .i64 a, .int .i64 b] 29) (.cells #[.int .i64 0, .int .i64 0, .string ⟨#[]⟩] 43)
  generalize hW0 : World.alloc _ _ = W0 at hr ho hs hB ⊢
  clear hW0
  have HT0 := Aside0.mk (h.below hB)
  have r0 : W0.cell? ⟨w.heap.size, 0, none⟩ = some (.int .i64 lim) := (blk_cell hr 0).trans rfl
  have r1 : W0.cell? ⟨w.heap.size, 1, none⟩ = some (.int .i64 st) := (blk_cell hr 1).trans rfl
  have r2 : W0.cell? ⟨w.heap.size, 2, none⟩ = some (.string d) := (blk_cell hr 2).trans rfl
  have o0 : W0.cell? ⟨w.heap.size + 1, 0, none⟩ = some (.int .i64 0) := (blk_cell ho 0).trans rfl
  have o1 : W0.cell? ⟨w.heap.size + 1, 1, none⟩ = some (.string x) := (blk_cell ho 1).trans rfl
  have o2 : W0.cell? ⟨w.heap.size + 1, 2, none⟩ = some (.int .i64 a) := (blk_cell ho 2).trans rfl
  have o3 : W0.cell? ⟨w.heap.size + 1, 3, none⟩ = some (.int .i64 b) := (blk_cell ho 3).trans rfl
  have HR := Aside0.mk hr
  have HO := Aside0.mk ho
  have HS := Aside0.mk hs
  have HB := Aside0.mk hB
  have HGG := Aside0.mk hG
  clear hr ho hs hB h hG
  go_upto_region 5 with (first
    | (go_at_call 13; refine (append _ g lim st d x (by first | exact HT0.out | exact HT0.out.drewN _) HGG.out.s0 HGG.out.se hx HGG.out.l0 HGG.out.l1 HGG.out.dl).mono ?_; rintro e W1 ⟨rfl, hK1, hB1, hT1⟩; have HK1 := Aside0.mk hK1; have HB1 := Aside0.mk hB1; have HT1 := Aside0.mk hT1; have hr1 := hK1.blk HR.out (by omega) (by simp); have ho1 := hK1.blk HO.out (by omega) (by simp); have r0 : W1.cell? ⟨w.heap.size, 0, none⟩ = some (.int .i64 lim) := (blk_cell hr1 0).trans rfl; have r1 : W1.cell? ⟨w.heap.size, 1, none⟩ = some (.int .i64 st) := (blk_cell hr1 1).trans rfl; have r2 : W1.cell? ⟨w.heap.size, 2, none⟩ = some (.string d) := (blk_cell hr1 2).trans rfl; have o1 : W1.cell? ⟨w.heap.size + 1, 1, none⟩ = some (.string x) := (blk_cell ho1 1).trans rfl; clear hK1 hB1 hT1 hr1 ho1)
    | (go_at_call 31; refine (ref_append lim st d x HGG.out hx _).mono ?_; rintro e W2 ⟨rfl, hB2⟩; have HB2 := Aside0.mk hB2; clear hB2))
  have hK2 := keep_new HK1.out HB2.out
  have hs1 := HK1.out.blk HS.out (by omega) (by simp)
  have hs2 := (HB2.out.block _ (blk_lt hs1)).trans hs1
  have hg1 : g ≤ W1.heap.size := by have := HT1.out.lt; omega
  have hb1 := below_gg (below_low (by omega) HB.out) HB1.out
  have hb2 := below_gg hb1 (below_low hg1 HB2.out)
  have hkk := (KeepBut.of_below HB.out g none).trans hK2 (.inl rfl)
  have hT2 := HT1.out.below HB2.out
  have hA := below_alloc (Below.refl W2.heap.size W2) (.cells #[.int .i64 lim, .int .i64 (appF lim st d x).1, .string (appF lim st d x).2.1] 43)
  have hc := heap_alloc_new W2 (.cells #[.int .i64 lim, .int .i64 (appF lim st d x).1, .string (appF lim st d x).2.1] 43)
  have hs3 := (hA.block _ (blk_lt hs2)).trans hs2
  have hne : W2.heap.size ≠ w.heap.size + 1 + 1 := by have := blk_lt hs2; omega
  have hb3 := below_gg hb2 (below_low (by have := hT2.lt; omega) hA)
  have hk3 := keep_new hkk hA
  have hT3 := hT2.below hA
  generalize W2.heap.size = b9 at hc hne ⊢
  clear hK2 hs1 hs2 hg1 hb1 hb2 hkk hT2 hA
  generalize hSS : (appF lim st d x).1 = S at hc hT3 hb3 hk3 hs3 ⊢
  generalize hDD : (appF lim st d x).2.1 = D at hc hT3 hb3 hk3 hs3 ⊢
  have HSS := Aside0.mk hSS
  have HDD := Aside0.mk hDD
  clear hSS hDD
  generalize (appF lim st d x).2.2 = E
  generalize W2.alloc (.cells #[.int .i64 lim, .int .i64 S, .string D] 43) = W3 at hc hT3 hb3 hk3 hs3 ⊢
  have c0 : W3.cell? ⟨b9, 0, none⟩ = some (.int .i64 lim) := (blk_cell hc 0).trans rfl
  have c1 : W3.cell? ⟨b9, 1, none⟩ = some (.int .i64 S) := (blk_cell hc 1).trans rfl
  have c2 : W3.cell? ⟨b9, 2, none⟩ = some (.string D) := (blk_cell hc 2).trans rfl
  have s0 : W3.cell? ⟨w.heap.size + 1 + 1, 0, none⟩ = some (.int .i64 0) := (blk_cell hs3 0).trans rfl
  have s1 : W3.cell? ⟨w.heap.size + 1 + 1, 1, none⟩ = some (.int .i64 0) := (blk_cell hs3 1).trans rfl
  have s2 : W3.cell? ⟨w.heap.size + 1 + 1, 2, none⟩ = some (.string ⟨#[]⟩) := (blk_cell hs3 2).trans rfl
  have f0 := blk_frozen hs3 0
  have f1 := blk_frozen hs3 1
  have f2 := blk_frozen hs3 2
  have HX := Aside0.mk (step_end (x := .int .i64 lim) (y := .int .i64 S) (z := .string D) hgl (by omega) hb3 hk3 hT3 hs3)
  have HP := Aside0.mk (put3 hs3 (.int .i64 lim) (.int .i64 S) (.string D))
  clear hs3 hb3 hk3 hT3
  go_wp2
  refine bodyPost_ret (results_ct rfl _ _ (w.heap.size + 1 + 1) 43 #[.int .i64 lim, .int .i64 S, .string D] (0, 0) _ rfl HP.out Try.underlying43 rfl (by kernel_rfl)) rfl ?_
  rw [HSS.out, HDD.out]
  exact ⟨rfl, HX.out.1, HX.out.2.1, HX.out.2.2⟩
set_option maxHeartbeats 4000000 in
set_option maxRecDepth 100000 in
theorem step1 (w : World) (g : Nat) (lim st : Int) (d : ByteArray) (h : TL w g lim st d) (hG : Good lim st d) (a b : Int) (x : ByteArray) :
    Calls Try.prog 21 #[.pointer (some ⟨g, 0, none⟩), .agg #[.int .i64 lim, .int .i64 st, .string d], .agg #[.int .i64 1, .string x, .int .i64 a, .int .i64 b]] w fun e w' =>
      StepP w g lim st d e w' := by
  have hu43 := Try.underlying43
  have hu29 := Try.underlying29
  have hgl := h.lt
  go_enter Try.func21, Try.ntmps21
  go_upto_region 1 with (fail)
  obtain ⟨hr, ho, hs, hB⟩ := alloc3 w (.cells #[.int .i64 lim, .int .i64 st, .string d] 43) (.cells #[.int .i64 1, .string x, .int .i64 a, .int .i64 b] 29) (.cells #[.int .i64 0, .int .i64 0, .string ⟨#[]⟩] 43)
  generalize hW0 : World.alloc _ _ = W0 at hr ho hs hB ⊢
  clear hW0
  have HT0 := Aside0.mk (h.below hB)
  have r0 : W0.cell? ⟨w.heap.size, 0, none⟩ = some (.int .i64 lim) := (blk_cell hr 0).trans rfl
  have r1 : W0.cell? ⟨w.heap.size, 1, none⟩ = some (.int .i64 st) := (blk_cell hr 1).trans rfl
  have r2 : W0.cell? ⟨w.heap.size, 2, none⟩ = some (.string d) := (blk_cell hr 2).trans rfl
  have o0 : W0.cell? ⟨w.heap.size + 1, 0, none⟩ = some (.int .i64 1) := (blk_cell ho 0).trans rfl
  have o1 : W0.cell? ⟨w.heap.size + 1, 1, none⟩ = some (.string x) := (blk_cell ho 1).trans rfl
  have o2 : W0.cell? ⟨w.heap.size + 1, 2, none⟩ = some (.int .i64 a) := (blk_cell ho 2).trans rfl
  have o3 : W0.cell? ⟨w.heap.size + 1, 3, none⟩ = some (.int .i64 b) := (blk_cell ho 3).trans rfl
  have HR := Aside0.mk hr
  have HO := Aside0.mk ho
  have HS := Aside0.mk hs
  have HB := Aside0.mk hB
  have HGG := Aside0.mk hG
  clear hr ho hs hB h hG
  go_upto_region 9 with (first
    | (go_at_call 14; refine (read _ g lim st d (by first | exact HT0.out | exact HT0.out.drewN _) HGG.out.s0 HGG.out.se a b).mono ?_; rintro e W1 ⟨rfl, ⟨n1, rfl⟩⟩)
    | (go_at_call 32; refine (ref_read lim st d HGG.out a b _).mono ?_; rintro e W2 ⟨rfl, hB2⟩; have HB2 := Aside0.mk hB2; have hr2 := (hB2.block _ (blk_lt HR.out)).trans HR.out; have r0 : W2.cell? ⟨w.heap.size, 0, none⟩ = some (.int .i64 lim) := (blk_cell hr2 0).trans rfl; have r1 : W2.cell? ⟨w.heap.size, 1, none⟩ = some (.int .i64 st) := (blk_cell hr2 1).trans rfl; have r2 : W2.cell? ⟨w.heap.size, 2, none⟩ = some (.string d) := (blk_cell hr2 2).trans rfl; clear hB2 hr2))
  have hB02 : Below W0.heap.size W0 W2 := below_new (pw_below_drewN (Below.refl _ _) n1) HB2.out
  have hs3 := (hB02.block _ (blk_lt HS.out)).trans HS.out
  have hb3 := below_gg (below_low (w := w) (g := g) (by omega) HB.out) (below_low (w := W0) (by have := HB.out.size; omega) hB02)
  have hk3 := (KeepBut.of_below HB.out g none).trans (KeepBut.of_below hB02 g none) (.inl rfl)
  have hT3 := HT0.out.below hB02
  clear hB02
  have s0 : W2.cell? ⟨w.heap.size + 1 + 1, 0, none⟩ = some (.int .i64 0) := (blk_cell hs3 0).trans rfl
  have s1 : W2.cell? ⟨w.heap.size + 1 + 1, 1, none⟩ = some (.int .i64 0) := (blk_cell hs3 1).trans rfl
  have s2 : W2.cell? ⟨w.heap.size + 1 + 1, 2, none⟩ = some (.string ⟨#[]⟩) := (blk_cell hs3 2).trans rfl
  have f0 := blk_frozen hs3 0
  have f1 := blk_frozen hs3 1
  have f2 := blk_frozen hs3 2
  have HX := Aside0.mk (step_end (x := .int .i64 lim) (y := .int .i64 st) (z := .string d) hgl (by omega) hb3 hk3 hT3 hs3)
  have HP := Aside0.mk (put3 hs3 (.int .i64 lim) (.int .i64 st) (.string d))
  clear hs3 hb3 hk3 hT3
  go_wp2
  refine bodyPost_ret (results_ct rfl _ _ (w.heap.size + 1 + 1) 43 #[.int .i64 lim, .int .i64 st, .string d] (0, 0) _ rfl HP.out Try.underlying43 rfl (by kernel_rfl)) rfl ?_
  exact ⟨rfl, HX.out.1, HX.out.2.1, HX.out.2.2⟩
set_option maxHeartbeats 4000000 in
set_option maxRecDepth 100000 in
theorem step2 (w : World) (g : Nat) (lim st : Int) (d : ByteArray) (h : TL w g lim st d) (hG : Good lim st d) (a b : Int) (x : ByteArray) (ha : a ≤ 9223372036854775807) :
    Calls Try.prog 21 #[.pointer (some ⟨g, 0, none⟩), .agg #[.int .i64 lim, .int .i64 st, .string d], .agg #[.int .i64 2, .string x, .int .i64 a, .int .i64 b]] w fun e w' =>
      StepP w g lim st d e w' := by
  have hu43 := Try.underlying43
  have hu29 := Try.underlying29
  have hgl := h.lt
  go_enter Try.func21, Try.ntmps21
  go_upto_region 1 with (fail)
  obtain ⟨hr, ho, hs, hB⟩ := alloc3 w (.cells #[.int .i64 lim, .int .i64 st, .string d] 43) (.cells #[.int .i64 2, .string x, .int .i64 a, .int .i64 b] 29) (.cells #[.int .i64 0, .int .i64 0, .string ⟨#[]⟩] 43)
  generalize hW0 : World.alloc _ _ = W0 at hr ho hs hB ⊢
  clear hW0
  have HT0 := Aside0.mk (h.below hB)
  have r0 : W0.cell? ⟨w.heap.size, 0, none⟩ = some (.int .i64 lim) := (blk_cell hr 0).trans rfl
  have r1 : W0.cell? ⟨w.heap.size, 1, none⟩ = some (.int .i64 st) := (blk_cell hr 1).trans rfl
  have r2 : W0.cell? ⟨w.heap.size, 2, none⟩ = some (.string d) := (blk_cell hr 2).trans rfl
  have o0 : W0.cell? ⟨w.heap.size + 1, 0, none⟩ = some (.int .i64 2) := (blk_cell ho 0).trans rfl
  have o1 : W0.cell? ⟨w.heap.size + 1, 1, none⟩ = some (.string x) := (blk_cell ho 1).trans rfl
  have o2 : W0.cell? ⟨w.heap.size + 1, 2, none⟩ = some (.int .i64 a) := (blk_cell ho 2).trans rfl
  have o3 : W0.cell? ⟨w.heap.size + 1, 3, none⟩ = some (.int .i64 b) := (blk_cell ho 3).trans rfl
  have HR := Aside0.mk hr
  have HO := Aside0.mk ho
  have HS := Aside0.mk hs
  have HB := Aside0.mk hB
  have HGG := Aside0.mk hG
  clear hr ho hs hB h hG
  go_upto_region 11 with (fail)
  have hne0 : w.heap.size ≠ w.heap.size + 1 + 1 := by omega
  have hne1 : w.heap.size + 1 ≠ w.heap.size + 1 + 1 := by omega
  go_region_held3 (fun w' => w'.cell? ⟨w.heap.size, 0, none⟩ = some (.int .i64 lim) ∧ w'.cell? ⟨w.heap.size, 1, none⟩ = some (.int .i64 st) ∧ w'.cell? ⟨w.heap.size, 2, none⟩ = some (.string d) ∧ w'.cell? ⟨w.heap.size + 1, 2, none⟩ = some (.int .i64 a))
    (first | exact ⟨r0, r1, r2, o2⟩ | exact ⟨p0, p1, p2, p3⟩ | exact ⟨q0, q1, q2, q3⟩ | exact ⟨(far3 hne0 _ _ _).trans q0, (far3 hne0 _ _ _).trans q1, (far3 hne0 _ _ _).trans q2, (far3 hne1 _ _ _).trans q3⟩ | go_keep) (first
    | (go_at_call 22; refine (lines _ g lim st d (by first | exact HT0.out | exact HT0.out.drewN _) (by have := HGG.out.dl; have := HGG.out.l1; omega) a ha).mono ?_; rintro e W1 ⟨rfl, hB1⟩; have hB01 : Below W0.heap.size W0 W1 := (by first | exact hB1 | exact below_new (pw_below_drewN (Below.refl _ _) _) hB1 | exact below_new (below_drew (Below.refl _ _)) hB1); have HB1 := Aside0.mk hB01; have hr1 := (hB01.block _ (blk_lt HR.out)).trans HR.out; have ho1 := (hB01.block _ (blk_lt HO.out)).trans HO.out; have p0 : W1.cell? ⟨w.heap.size, 0, none⟩ = some (.int .i64 lim) := (blk_cell hr1 0).trans rfl; have p1 : W1.cell? ⟨w.heap.size, 1, none⟩ = some (.int .i64 st) := (blk_cell hr1 1).trans rfl; have p2 : W1.cell? ⟨w.heap.size, 2, none⟩ = some (.string d) := (blk_cell hr1 2).trans rfl; have p3 : W1.cell? ⟨w.heap.size + 1, 2, none⟩ = some (.int .i64 a) := (blk_cell ho1 2).trans rfl; clear hB1 hB01 hr1 ho1)
    | (go_at_call 23; refine (PR.mullionref06_Lines.calls 70000 lim st d a _ _ (ref_lines lim st d (by have := HGG.out.dl; have := HGG.out.l1; omega) a ha)).mono ?_; rintro e W2 ⟨rfl, hB2⟩; have hB02 : Below W0.heap.size W0 W2 := (by first | exact below_new HB1.out hB2 | exact below_new (pw_below_drewN HB1.out _) hB2 | exact below_new (below_drew HB1.out) hB2); have HB2 := Aside0.mk hB02; have hr1 := (hB02.block _ (blk_lt HR.out)).trans HR.out; have ho1 := (hB02.block _ (blk_lt HO.out)).trans HO.out; have hs3 := (hB02.block _ (blk_lt HS.out)).trans HS.out; have q0 : W2.cell? ⟨w.heap.size, 0, none⟩ = some (.int .i64 lim) := (blk_cell hr1 0).trans rfl; have q1 : W2.cell? ⟨w.heap.size, 1, none⟩ = some (.int .i64 st) := (blk_cell hr1 1).trans rfl; have q2 : W2.cell? ⟨w.heap.size, 2, none⟩ = some (.string d) := (blk_cell hr1 2).trans rfl; have q3 : W2.cell? ⟨w.heap.size + 1, 2, none⟩ = some (.int .i64 a) := (blk_cell ho1 2).trans rfl; have s0 : W2.cell? ⟨w.heap.size + 1 + 1, 0, none⟩ = some (.int .i64 0) := (blk_cell hs3 0).trans rfl; have s1 : W2.cell? ⟨w.heap.size + 1 + 1, 1, none⟩ = some (.int .i64 0) := (blk_cell hs3 1).trans rfl; have s2 : W2.cell? ⟨w.heap.size + 1 + 1, 2, none⟩ = some (.string ⟨#[]⟩) := (blk_cell hs3 2).trans rfl; have f0 := blk_frozen hs3 0; have f1 := blk_frozen hs3 1; have f2 := blk_frozen hs3 2; clear hB2 hB02 hr1 ho1 hs3))
  go_wp2
  have hs3 := (HB2.out.block _ (blk_lt HS.out)).trans HS.out
  have hb3 := below_gg (below_low (w := w) (g := g) (by omega) HB.out) (below_low (w := W0) (by have := HB.out.size; omega) HB2.out)
  have hk3 := (KeepBut.of_below HB.out g none).trans (KeepBut.of_below HB2.out g none) (.inl rfl)
  have hT3 := HT0.out.below HB2.out
  have hx := step_end (x := .int .i64 lim) (y := .int .i64 st) (z := .string d) hgl (by omega) hb3 hk3 hT3 hs3
  refine bodyPost_ret (results_ct rfl _ _ (w.heap.size + 1 + 1) 43 #[.int .i64 lim, .int .i64 st, .string d] (0, 0) _ rfl (put3 hs3 (.int .i64 lim) (.int .i64 st) (.string d)) Try.underlying43 rfl (by kernel_rfl)) rfl ?_
  exact ⟨rfl, hx.1, hx.2.1, hx.2.2⟩
set_option maxHeartbeats 4000000 in
set_option maxRecDepth 100000 in
theorem step3 (w : World) (g : Nat) (lim st : Int) (d : ByteArray) (h : TL w g lim st d) (hG : Good lim st d) (kd a b : Int) (x : ByteArray) (k0 : kd ≠ 0) (k1 : kd ≠ 1) (k2 : kd ≠ 2) :
    Calls Try.prog 21 #[.pointer (some ⟨g, 0, none⟩), .agg #[.int .i64 lim, .int .i64 st, .string d], .agg #[.int .i64 kd, .string x, .int .i64 a, .int .i64 b]] w fun e w' =>
      StepP w g lim st d e w' := by
  have hu43 := Try.underlying43
  have hu29 := Try.underlying29
  have hgl := h.lt
  go_enter Try.func21, Try.ntmps21
  go_upto_region 1 with (fail)
  obtain ⟨hr, ho, hs, hB⟩ := alloc3 w (.cells #[.int .i64 lim, .int .i64 st, .string d] 43) (.cells #[.int .i64 kd, .string x, .int .i64 a, .int .i64 b] 29) (.cells #[.int .i64 0, .int .i64 0, .string ⟨#[]⟩] 43)
  generalize hW0 : World.alloc _ _ = W0 at hr ho hs hB ⊢
  clear hW0
  have HT0 := Aside0.mk (h.below hB)
  have r0 : W0.cell? ⟨w.heap.size, 0, none⟩ = some (.int .i64 lim) := (blk_cell hr 0).trans rfl
  have r1 : W0.cell? ⟨w.heap.size, 1, none⟩ = some (.int .i64 st) := (blk_cell hr 1).trans rfl
  have r2 : W0.cell? ⟨w.heap.size, 2, none⟩ = some (.string d) := (blk_cell hr 2).trans rfl
  have o0 : W0.cell? ⟨w.heap.size + 1, 0, none⟩ = some (.int .i64 kd) := (blk_cell ho 0).trans rfl
  have o1 : W0.cell? ⟨w.heap.size + 1, 1, none⟩ = some (.string x) := (blk_cell ho 1).trans rfl
  have o2 : W0.cell? ⟨w.heap.size + 1, 2, none⟩ = some (.int .i64 a) := (blk_cell ho 2).trans rfl
  have o3 : W0.cell? ⟨w.heap.size + 1, 3, none⟩ = some (.int .i64 b) := (blk_cell ho 3).trans rfl
  have HR := Aside0.mk hr
  have HO := Aside0.mk ho
  have HS := Aside0.mk hs
  have HB := Aside0.mk hB
  have HGG := Aside0.mk hG
  clear hr ho hs hB h hG
  have e0 : (kd == 0) = false := beq_eq_false_iff_ne.mpr k0
  have e1 : (kd == 1) = false := beq_eq_false_iff_ne.mpr k1
  have e2 : (kd == 2) = false := beq_eq_false_iff_ne.mpr k2
  go_upto_region 12 with (fail)
  have hne0 : w.heap.size ≠ w.heap.size + 1 + 1 := by omega
  have s0 : W0.cell? ⟨w.heap.size + 1 + 1, 0, none⟩ = some (.int .i64 0) := (blk_cell HS.out 0).trans rfl
  have s1 : W0.cell? ⟨w.heap.size + 1 + 1, 1, none⟩ = some (.int .i64 0) := (blk_cell HS.out 1).trans rfl
  have s2 : W0.cell? ⟨w.heap.size + 1 + 1, 2, none⟩ = some (.string ⟨#[]⟩) := (blk_cell HS.out 2).trans rfl
  have f0 := blk_frozen HS.out 0
  have f1 := blk_frozen HS.out 1
  have f2 := blk_frozen HS.out 2
  go_region_held3 (fun w' => w'.cell? ⟨w.heap.size, 0, none⟩ = some (.int .i64 lim) ∧ w'.cell? ⟨w.heap.size, 1, none⟩ = some (.int .i64 st) ∧ w'.cell? ⟨w.heap.size, 2, none⟩ = some (.string d))
    (first | exact ⟨r0, r1, r2⟩ | exact ⟨(far3 hne0 _ _ _).trans r0, (far3 hne0 _ _ _).trans r1, (far3 hne0 _ _ _).trans r2⟩ | go_keep) (first
    | (go_at_call 16; refine (all' _ g lim st d (by first | exact HT0.out | exact HT0.out.drewN _)).mono ?_; rintro e W1 ⟨rfl, ⟨n1, rfl⟩⟩))
  go_wp2
  have hB0n : Below W0.heap.size W0 (W0.drewN (1 + n1)) := pw_below_drewN (Below.refl _ _) _
  have hs3 : (W0.drewN (1 + n1)).heap[w.heap.size + 1 + 1]? = some (.cells #[.int .i64 0, .int .i64 0, .string ⟨#[]⟩] 43 (0, 0)) := HS.out
  have hb3 := below_gg (below_low (w := w) (g := g) (by omega) HB.out) (below_low (w := W0) (by have := HB.out.size; omega) hB0n)
  have hk3 := (KeepBut.of_below HB.out g none).trans (KeepBut.of_below hB0n g none) (.inl rfl)
  have hx := step_end (x := .int .i64 lim) (y := .int .i64 st) (z := .string d) hgl (by omega) hb3 hk3 (HT0.out.drewN (1 + n1)) hs3
  refine bodyPost_ret (results_ct rfl _ _ (w.heap.size + 1 + 1) 43 #[.int .i64 lim, .int .i64 st, .string d] (0, 0) _ rfl (put3 hs3 (.int .i64 lim) (.int .i64 st) (.string d)) Try.underlying43 rfl (by kernel_rfl)) rfl ?_
  exact ⟨rfl, hx.1, hx.2.1, hx.2.2⟩

/-- The reference's Log behind a step. -/
def stepF (lim st : Int) (d : ByteArray) (kd : Int) (x : ByteArray) : Int × ByteArray := if kd = 0 then ((appF lim st d x).1, (appF lim st d x).2.1) else (st, d)
theorem stepF_good {lim st : Int} {d : ByteArray} (h : Good lim st d) (kd : Int) (x : ByteArray) (hx : x.size ≤ 140737488351232) : Good lim (stepF lim st d kd x).1 (stepF lim st d kd x).2 := by
  unfold stepF
  by_cases h0 : kd = 0
  · rw [if_pos h0]
    exact appF_good h x hx
  · rw [if_neg h0]
    exact h
/-- step. -/
theorem step (w : World) (g : Nat) (lim st : Int) (d : ByteArray) (h : TL w g lim st d) (hG : Good lim st d) (kd a b : Int) (x : ByteArray) (hx : x.size ≤ 140737488351232) (ha : a ≤ 9223372036854775807) :
    Calls Try.prog 21 #[.pointer (some ⟨g, 0, none⟩), .agg #[.int .i64 lim, .int .i64 st, .string d], .agg #[.int .i64 kd, .string x, .int .i64 a, .int .i64 b]] w fun e w' =>
      StepP w g lim (stepF lim st d kd x).1 (stepF lim st d kd x).2 e w' := by
  unfold stepF
  by_cases h0 : kd = 0
  · rw [if_pos h0]
    subst h0
    exact step0 w g lim st d h hG a b x hx
  · rw [if_neg h0]
    by_cases h1 : kd = 1
    · subst h1
      exact step1 w g lim st d h hG a b x
    · by_cases h2 : kd = 2
      · subst h2
        exact step2 w g lim st d h hG a b x ha
      · exact step3 w g lim st d h hG kd a b x h0 h1 h2
end Go.Proofs.Ytggahoojpikecaa.TailLog
