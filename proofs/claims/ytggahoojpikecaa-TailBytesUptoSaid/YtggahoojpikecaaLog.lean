/- The Log of layer 6 in memory, and what its small methods tell. No condition but lengths below a bound. -/
import Derived.Test.YtggahoojpikecaaPRx2
import Derived.Deep.RegionLaw
namespace Go.Proofs.Ytggahoojpikecaa.TailLog
open Go.RowKit Go.Proofs.YtggahoojpikecaaW.PrintWords Go.Proofs.YtggahoojpikecaaW.PrintLast Go.Proofs.YtggahoojpikecaaW.PrintMore
set_option linter.unusedVariables false
set_option linter.unusedSimpArgs false
theorem info5 : (Try.prog.info? 5).map (fun i => (i.zero, i.size, i.bytes)) = some (some (.int .u8 0), 1, 1) := by kernel_rfl

/-- The Log lies at block g: its limit, the offset of the first byte kept, the bytes. -/
def TL (w : World) (g : Nat) (lim st : Int) (d : ByteArray) : Prop :=
  ∃ (A : Option Addr) (c : Nat), w.heap[g]? = some (.cells #[.int .i64 lim, .int .i64 st, .slice A d.size c] 62 (0, 0)) ∧ d.size ≤ c ∧ ReadsInt w .u8 A d.size (bytesOf d) ∧
    ∀ ad, A = some ad → ∃ cs fr, w.heap[ad.block]? = some (.cells cs 5 fr)

theorem TL.lt {w : World} {g : Nat} {lim st : Int} {d : ByteArray} (h : TL w g lim st d) : g < w.heap.size := by
  obtain ⟨A, c, hb, _⟩ := h
  exact blk_lt hb
/-- What the walk reads of the Log. -/
theorem TL.cells {w : World} {g : Nat} {lim st : Int} {d : ByteArray} (h : TL w g lim st d) :
    ∃ (A : Option Addr) (c : Nat), w.cell? ⟨g, 0, none⟩ = some (.int .i64 lim) ∧ w.cell? ⟨g, 1, none⟩ = some (.int .i64 st) ∧ w.cell? ⟨g, 2, none⟩ = some (.slice A d.size c) ∧ d.size ≤ c ∧ ReadsInt w .u8 A d.size (bytesOf d) := by
  obtain ⟨A, c, hb, hc, hr, _⟩ := h
  exact ⟨A, c, (blk_cell hb 0).trans rfl, (blk_cell hb 1).trans rfl, (blk_cell hb 2).trans rfl, hc, hr⟩
theorem TL.max {w : World} {g : Nat} {lim st : Int} {d : ByteArray} (h : TL w g lim st d) : d.size ≤ 9223372036854775807 := by
  obtain ⟨A, c, hb, hc, hr, _⟩ := h
  exact hr.2.1
/-- Nothing that lay there has changed. -/
theorem TL.below {w W : World} {g : Nat} {lim st : Int} {d : ByteArray} (h : TL w g lim st d) (hB : Below w.heap.size w W) : TL W g lim st d := by
  obtain ⟨A, c, hb, hc, hr, ht⟩ := h
  refine ⟨A, c, (hB.block g (blk_lt hb)).trans hb, hc, hr.below hB, fun ad ha => ?_⟩
  obtain ⟨cs, fr, h⟩ := ht ad ha
  exact ⟨cs, fr, (hB.block _ (blk_lt h)).trans h⟩
theorem TL.drewN {w : World} {g : Nat} {lim st : Int} {d : ByteArray} (h : TL w g lim st d) (n : Nat) : TL (w.drewN n) g lim st d := h
/-- One other Log alone has changed. -/
theorem TL.keep {w W : World} {g g' : Nat} {lim st : Int} {d : ByteArray} {cs' : Array Value} (h : TL w g lim st d) (hk : KeepBut w W g' none) (hne : g ≠ g') (ho : w.heap[g']? = some (.cells cs' 62 (0, 0))) : TL W g lim st d := by
  obtain ⟨A, c, hb, hc, hr, ht⟩ := h
  have far : ∀ ad, A = some ad → ad.block ≠ g' := by
    intro ad ha he
    obtain ⟨cs, fr, h⟩ := ht ad ha
    rw [he, ho] at h
    cases h
  refine ⟨A, c, hk.blk hb hne (by simp), hc, hr.keep hk (fun ad ha _ => far ad ha), fun ad ha => ?_⟩
  obtain ⟨cs, fr, h⟩ := ht ad ha
  exact ⟨cs, fr, hk.blk h (far ad ha) (by simp)⟩

theorem start (w : World) (g : Nat) (lim st : Int) (d : ByteArray) (h : TL w g lim st d) :
    Calls Try.prog 17 #[.pointer (some ⟨g, 0, none⟩)] w fun e w' => e = .returned (.int .i64 st) ∧ Drawn0 w w' := by
  obtain ⟨A, c, c0, c1, c2, hc, hr⟩ := h.cells
  have hg := h.lt
  clear h
  go_enter Try.func17, Try.ntmps17
  go_wp2
  repeat (go_quiet (fail); try go_wp2)
  go_ret
  exact ⟨by first | rfl | (simp; done) | (simp [*]; done), by repeat (first | exact Drawn0.refl _ | apply Drawn0.step)⟩
theorem limit (w : World) (g : Nat) (lim st : Int) (d : ByteArray) (h : TL w g lim st d) :
    Calls Try.prog 25 #[.pointer (some ⟨g, 0, none⟩)] w fun e w' => e = .returned (.int .i64 lim) ∧ Drawn0 w w' := by
  obtain ⟨A, c, c0, c1, c2, hc, hr⟩ := h.cells
  have hg := h.lt
  clear h
  go_enter Try.func25, Try.ntmps25
  go_wp2
  repeat (go_quiet (fail); try go_wp2)
  go_ret
  exact ⟨by first | rfl | (simp; done) | (simp [*]; done), by repeat (first | exact Drawn0.refl _ | apply Drawn0.step)⟩
theorem end_ (w : World) (g : Nat) (lim st : Int) (d : ByteArray) (h : TL w g lim st d) (h0 : 0 ≤ st) (h1 : st + d.size ≤ 4611686018427387904) :
    Calls Try.prog 18 #[.pointer (some ⟨g, 0, none⟩)] w fun e w' => e = .returned (.int .i64 (st + d.size)) ∧ Drawn0 w w' := by
  obtain ⟨A, c, c0, c1, c2, hc, hr⟩ := h.cells
  have hg := h.lt
  clear h
  go_enter Try.func18, Try.ntmps18
  go_wp2
  repeat (go_quiet (fail); try go_wp2)
  go_ret
  exact ⟨by first | rfl | (simp; done) | (simp [*]; done), by repeat (first | exact Drawn0.refl _ | apply Drawn0.step)⟩
theorem all (w : World) (g : Nat) (lim st : Int) (d : ByteArray) (h : TL w g lim st d) :
    Calls Try.prog 16 #[.pointer (some ⟨g, 0, none⟩)] w fun e w' => e = .returned (.string (strOfNums (bytesOf d))) ∧ Drawn0 w w' := by
  obtain ⟨A, c, c0, c1, c2, hc, hr⟩ := h.cells
  have hg := h.lt
  clear h
  have hcv := fun m => string_of_reads (P := Try.prog) (src := 60) (dst := 9) (c := c) Try.underlying60 Try.underlying5 Try.underlying9 (hr.drewN m)
  have hcv0 := string_of_reads (P := Try.prog) (src := 60) (dst := 9) (c := c) Try.underlying60 Try.underlying5 Try.underlying9 hr
  go_enter Try.func16, Try.ntmps16
  go_wp2
  repeat (go_quiet (fail); try go_wp2)
  go_ret
  exact ⟨by first | rfl | (simp; done) | (simp [*]; done), by repeat (first | exact Drawn0.refl _ | apply Drawn0.step)⟩
end Go.Proofs.Ytggahoojpikecaa.TailLog
