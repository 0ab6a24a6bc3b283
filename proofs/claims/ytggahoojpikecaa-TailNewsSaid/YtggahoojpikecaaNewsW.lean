/- The walk of TailNews. No condition but a length below a bound. -/
import Derived.Test.YtggahoojpikecaaStep
namespace Go.Proofs.Ytggahoojpikecaa.TailLog
open Go.RowKit Go.Proofs.YtggahoojpikecaaW.PrintWords Go.Proofs.YtggahoojpikecaaW.PrintLast Go.Proofs.YtggahoojpikecaaW.PrintMore
set_option linter.unusedVariables false
set_option linter.unusedSimpArgs false

set_option maxHeartbeats 4000000 in
set_option maxRecDepth 100000 in
theorem news (w : World) (fresh : Bool) (lim st : Int) (d : ByteArray) (hd : d.size ≤ 140737488351232) (hst : st ≤ 9223372036854775807) :
    Calls Try.prog 5 #[.agg #[.bool fresh, .int .i64 lim, .int .i64 st, .string d]] w fun e w' => e = .returned (.bool true) ∧ Below w.heap.size w w' := by
  have hu43 := Try.underlying43
  have hu41 := Try.underlying41
  go_enter Try.func5, Try.ntmps5
  go_upto_region 2 with (go_at_call 19; refine (made _ fresh lim st d hd hst).mono ?_; rintro e W1 ⟨p, lim', st', d', rfl, hB, hp⟩; have HB := Aside0.mk hB; have HP := Aside0.mk hp; clear hB hp)
  obtain ⟨gr, hgr⟩ : ∃ gr, gr = W1.heap.size := ⟨_, rfl⟩
  have hA := below_alloc (Below.refl W1.heap.size W1) (.cells #[.int .i64 lim', .int .i64 st', .string d'] 43)
  have hr := heap_alloc_new W1 (.cells #[.int .i64 lim', .int .i64 st', .string d'] 43)
  rw [← hgr] at hr ⊢
  have hB2 : Below w.heap.size w (W1.alloc (.cells #[.int .i64 lim', .int .i64 st', .string d'] 43)) := below_new (below_new (below_alloc (Below.refl _ _) _) HB.out) hA
  have hT2 : p = none ∨ ∃ g, p = some ⟨g, 0, none⟩ ∧ TL (W1.alloc (.cells #[.int .i64 lim', .int .i64 st', .string d'] 43)) g lim' st' d' ∧ Good lim' st' d' := HP.out.imp id (fun ⟨g, h1, _, h3, h4⟩ => ⟨g, h1, h3.below hA, h4⟩)
  generalize W1.alloc (.cells #[.int .i64 lim', .int .i64 st', .string d'] 43) = W2 at hr hB2 hT2 ⊢
  clear hA hgr HB HP
  have r0 : W2.cell? ⟨gr, 0, none⟩ = some (.int .i64 lim') := (blk_cell hr 0).trans rfl
  have r1 : W2.cell? ⟨gr, 1, none⟩ = some (.int .i64 st') := (blk_cell hr 1).trans rfl
  have r2 : W2.cell? ⟨gr, 2, none⟩ = some (.string d') := (blk_cell hr 2).trans rfl
  have HB := Aside0.mk hB2
  have HT := Aside0.mk hT2
  clear hr hB2 hT2
  rcases HT.out with hp | ⟨g, hp, hT, hG⟩
  · subst hp
    clear HT
    go_wp2
    go_ret
    exact ⟨rfl, HB.out⟩
  · subst hp
    have HT1 := Aside0.mk hT
    have HG1 := Aside0.mk hG
    clear HT hT hG
    go_wp2_with (go_at_call 20; refine (as_ _ g lim' st' d' HT1.out HG1.out).mono ?_; rintro e W3 ⟨rfl, hB3⟩; have HB3 := Aside0.mk hB3; clear hB3)
    go_ret
    exact ⟨rfl, below_new HB.out HB3.out⟩
end Go.Proofs.Ytggahoojpikecaa.TailLog
