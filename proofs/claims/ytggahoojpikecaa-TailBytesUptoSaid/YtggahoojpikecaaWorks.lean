/- The law's own first look at a Log: it answers true. No condition. -/
import Derived.Test.YtggahoojpikecaaRefs
import Derived.Deep.RegionHeld3
namespace Go.Proofs.Ytggahoojpikecaa.TailLog
open Go.RowKit Go.Proofs.YtggahoojpikecaaW.PrintWords Go.Proofs.YtggahoojpikecaaW.PrintLast Go.Proofs.YtggahoojpikecaaW.PrintMore
set_option linter.unusedVariables false
set_option linter.unusedSimpArgs false

theorem below_more {w0 w w' : World} {g : Nat} (h : Below w0.heap.size w0 w) (hg : w0.heap.size ≤ g) (h1 : Below g w w') : Below w0.heap.size w0 w' :=
  ⟨h1.os.trans h.os, h1.tape.trans h.tape, h1.output.trans h.output, Nat.le_trans h.size h1.size, fun k hk => (h1.block k (by omega)).trans (h.block k hk)⟩
theorem below_new {w0 w w' : World} (h : Below w0.heap.size w0 w) (h1 : Below w.heap.size w w') : Below w0.heap.size w0 w' := below_step h h1

theorem app_abcde : appF 4 0 ⟨#[]⟩ ⟨#[97, 98, 99, 100, 101]⟩ = (1, ⟨#[98, 99, 100, 101]⟩, 0) := by decide +kernel
theorem read_abcde : readF 4 1 ⟨#[98, 99, 100, 101]⟩ 2 2 = (⟨#[99, 100]⟩, 4, 0) := by decide +kernel

set_option maxHeartbeats 4000000 in
set_option maxRecDepth 100000 in
theorem works (w : World) : Calls Try.prog 12 #[] w fun e w' => e = .returned (.bool true) ∧ Below w.heap.size w w' := by
  go_enter Try.func12, Try.ntmps12
  go_wp2_with (first
    | (go_at_call 11; refine (new _ 4).mono ?_; rintro e w1 ⟨p, rfl, hB, hn, hs⟩; obtain ⟨g, rfl, hg, hT⟩ := hs (by decide); rw [show loadE 4 0 ⟨#[]⟩ = 0 from rfl]; have HT := Aside0.mk hT; have HB := Aside0.mk hB; have HG := Aside0.mk hg; clear hT hB hg hs hn)
    | (go_at_call 13; refine (append _ g 4 0 ⟨#[]⟩ ⟨#[97, 98, 99, 100, 101]⟩ (by first | exact HT.out | exact HT.out.drewN _) (by decide) (by decide) (by decide) (by decide) (by decide) (by decide)).mono ?_; rintro e w2 ⟨rfl, hK2, hB2, hT2⟩; rw [app_abcde] at hT2 ⊢; have HT2 := Aside0.mk hT2; have HB2 := Aside0.mk hB2; clear hT2 hB2 hK2)
    | (go_at_call 14; refine (read _ g 4 1 ⟨#[98, 99, 100, 101]⟩ (by first | exact HT2.out | exact HT2.out.drewN _) (by decide) (by decide) 2 2).mono ?_; rintro e w3 ⟨rfl, ⟨n3, rfl⟩⟩; rw [read_abcde])
    | (go_at_call 17; refine (start _ g 4 1 ⟨#[98, 99, 100, 101]⟩ (by first | exact HT2.out | exact HT2.out.drewN _)).mono ?_; rintro e w3 ⟨rfl, ⟨n4, rfl⟩⟩)
    | (go_at_call 18; refine (end_ _ g 4 1 ⟨#[98, 99, 100, 101]⟩ (by first | exact HT2.out | exact HT2.out.drewN _) (by decide) (by decide)).mono ?_; rintro e w3 ⟨rfl, ⟨n5, rfl⟩⟩))
  go_ret
  exact ⟨rfl, pw_below_drewN (below_more HB.out HG.out HB2.out) _⟩

theorem all' (w : World) (g : Nat) (lim st : Int) (d : ByteArray) (h : TL w g lim st d) : Calls Try.prog 16 #[.pointer (some ⟨g, 0, none⟩)] w fun e w' => e = .returned (.string d) ∧ Drawn0 w w' := by
  have h1 := all w g lim st d h
  rw [strOfNums_all] at h1
  exact h1

set_option maxHeartbeats 4000000 in
set_option maxRecDepth 100000 in
/-- A Log tells of itself what the reference's does. -/
theorem as_ (w : World) (g : Nat) (lim st : Int) (d : ByteArray) (h : TL w g lim st d) (hG : Good lim st d) :
    Calls Try.prog 20 #[.pointer (some ⟨g, 0, none⟩), .agg #[.int .i64 lim, .int .i64 st, .string d]] w fun e w' => e = .returned (.bool true) ∧ Below w.heap.size w w' := by
  obtain ⟨l0, l1, s0, dl, se⟩ := hG
  have HT := Aside0.mk h
  clear h
  go_enter Try.func20, Try.ntmps20
  go_upto_region 1 with (fail)
  have hb1 := heap_alloc_new w (.cells #[.int .i64 lim, .int .i64 st, .string d] 43)
  have hB1 : Below w.heap.size w (w.alloc (.cells #[.int .i64 lim, .int .i64 st, .string d] 43)) := below_alloc (Below.refl _ _) _
  generalize w.alloc (.cells #[.int .i64 lim, .int .i64 st, .string d] 43) = W1 at hb1 hB1 ⊢
  have HT1 := Aside0.mk (HT.out.below hB1)
  have HB1 := Aside0.mk hB1
  have Hb1 := Aside0.mk hb1
  have i1 : W1.cell? ⟨w.heap.size, 1, none⟩ = some (.int .i64 st) := (blk_cell hb1 1).trans rfl
  have i0 : W1.cell? ⟨w.heap.size, 0, none⟩ = some (.int .i64 lim) := (blk_cell hb1 0).trans rfl
  have i2 : W1.cell? ⟨w.heap.size, 2, none⟩ = some (.string d) := (blk_cell hb1 2).trans rfl
  have HE := Aside0.mk (fun W => PS.mullionref06_End.calls lim st d (st + d.size) W (ref_end lim st d ⟨l0, l1, s0, dl, se⟩))
  clear hb1 hB1
  go_region_held3 (fun w' => w'.cell? ⟨w.heap.size, 0, none⟩ = some (.int .i64 lim) ∧ w'.cell? ⟨w.heap.size, 1, none⟩ = some (.int .i64 st) ∧ w'.cell? ⟨w.heap.size, 2, none⟩ = some (.string d))
    (first | exact ⟨i0, i1, i2⟩ | exact ⟨j0, j1, j2⟩ | go_keep) (first
    | (go_at_call 17; refine (start _ g lim st d (by first | exact HT1.out | exact HT1.out.drewN _)).mono ?_; rintro e w3 ⟨rfl, ⟨n1, rfl⟩⟩)
    | (go_at_call 18; refine (end_ _ g lim st d (by first | exact HT1.out | exact HT1.out.drewN _) s0 se).mono ?_; rintro e w3 ⟨rfl, ⟨n2, rfl⟩⟩)
    | (go_at_call 30; refine (HE.out _).mono ?_; rintro e W2 ⟨rfl, hB2⟩; have HT2 := Aside0.mk ((HT1.out.drewN _).below hB2); have HB2 := Aside0.mk (below_new (pw_below_drewN HB1.out _) hB2); have hb2 := (hB2.block _ (blk_lt Hb1.out)).trans Hb1.out; have j0 : W2.cell? ⟨w.heap.size, 0, none⟩ = some (.int .i64 lim) := (blk_cell hb2 0).trans rfl; have j1 : W2.cell? ⟨w.heap.size, 1, none⟩ = some (.int .i64 st) := (blk_cell hb2 1).trans rfl; have j2 : W2.cell? ⟨w.heap.size, 2, none⟩ = some (.string d) := (blk_cell hb2 2).trans rfl; clear hB2 hb2)
    | (go_at_call 25; refine (limit _ g lim st d (by first | exact HT2.out | exact HT2.out.drewN _)).mono ?_; rintro e w3 ⟨rfl, ⟨n3, rfl⟩⟩)
    | (go_at_call 16; refine (all' _ g lim st d (by first | exact HT2.out | exact HT2.out.drewN _)).mono ?_; rintro e w3 ⟨rfl, ⟨n4, rfl⟩⟩))
  go_wp2
  go_ret
  exact ⟨rfl, pw_below_drewN HB2.out _⟩
end Go.Proofs.Ytggahoojpikecaa.TailLog
