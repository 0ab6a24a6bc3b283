/- The Log of layer 6: what Load and New make. No condition but a length below a bound. -/
import Derived.Test.YtggahoojpikecaaLog
namespace Go.Proofs.Ytggahoojpikecaa.TailLog
open Go.RowKit Go.Proofs.YtggahoojpikecaaW.PrintWords Go.Proofs.YtggahoojpikecaaW.PrintLast Go.Proofs.YtggahoojpikecaaW.PrintMore
set_option linter.unusedVariables false
set_option linter.unusedSimpArgs false

/-- Load's answer of errors. -/
def loadE (lim st : Int) (d : ByteArray) : Int :=
  if lim < 1 ∨ 65536 < lim ∨ st < 0 ∨ lim < d.size then 1 else if 4611686018427387904 - d.size < st then 2 else 0

/-- What Load and New answer: no Log with the error, or a new one. -/
def Made (w : World) (lim st : Int) (d : ByteArray) (E : Int) (e : Ending) (w' : World) : Prop :=
  ∃ p : Option Addr, e = .returned (.tuple #[.pointer p, .int .i64 E]) ∧ Below w.heap.size w w' ∧ (E ≠ 0 → p = none) ∧ (E = 0 → ∃ g, p = some ⟨g, 0, none⟩ ∧ w.heap.size ≤ g ∧ TL w' g lim st d)

theorem grown_le (w : World) (d : ByteArray) : d.size ≤ grownCap w d.size 0 5 := by
  exact grownCap_ge w d.size 0 5

theorem made_none (w : World) (lim st : Int) (d : ByteArray) (E : Int) (hE : E ≠ 0) (n : Nat) : Made w lim st d E (.returned (.tuple #[.pointer none, .int .i64 E])) (w.drewN n) :=
  ⟨none, rfl, pw_below_drewN (Below.refl _ _) n, fun _ => rfl, fun h => absurd h hE⟩

set_option maxHeartbeats 4000000 in
theorem load_bad (w : World) (lim st : Int) (d : ByteArray) (hd : d.size ≤ 140737488351232) (h : lim < 1 ∨ 65536 < lim ∨ st < 0 ∨ lim < d.size) :
    Calls Try.prog 24 #[.int .i64 lim, .int .i64 st, .string d] w fun e w' => e = .returned (.tuple #[.pointer none, .int .i64 1]) ∧ Drawn0 w w' := by
  have f : ∀ b : Bool, (decide (lim < 1) = b) → (decide (65536 < lim) = true ∨ decide (65536 < lim) = false) := fun b _ => by cases decide (65536 < lim) <;> simp
  by_cases h1 : lim < 1
  · have c1 : decide (lim < 1) = true := decide_eq_true h1
    clear h f
    go_enter Try.func24, Try.ntmps24
    go_wp2
    repeat (go_quiet (fail); try go_wp2)
    go_ret2
    exact ⟨by first | rfl | (simp; done) | (simp [*]; done), by repeat (first | exact Drawn0.refl _ | apply Drawn0.step)⟩
  have c1 : decide (lim < 1) = false := decide_eq_false h1
  by_cases h2 : 65536 < lim
  · have c2 : decide (65536 < lim) = true := decide_eq_true h2
    clear h f
    go_enter Try.func24, Try.ntmps24
    go_wp2
    repeat (go_quiet (fail); try go_wp2)
    go_ret2
    exact ⟨by first | rfl | (simp; done) | (simp [*]; done), by repeat (first | exact Drawn0.refl _ | apply Drawn0.step)⟩
  have c2 : decide (65536 < lim) = false := decide_eq_false h2
  by_cases h3 : st < 0
  · have c3 : decide (st < 0) = true := decide_eq_true h3
    clear h f
    go_enter Try.func24, Try.ntmps24
    go_wp2
    repeat (go_quiet (fail); try go_wp2)
    go_ret2
    exact ⟨by first | rfl | (simp; done) | (simp [*]; done), by repeat (first | exact Drawn0.refl _ | apply Drawn0.step)⟩
  have c3 : decide (st < 0) = false := decide_eq_false h3
  have h4 : lim < d.size := by omega
  have c4 : decide (lim < (d.size : Int)) = true := decide_eq_true h4
  clear h f
  go_enter Try.func24, Try.ntmps24
  go_wp2
  repeat (go_quiet (fail); try go_wp2)
  go_ret2
  exact ⟨by first | rfl | (simp; done) | (simp [*]; done), by repeat (first | exact Drawn0.refl _ | apply Drawn0.step)⟩

set_option maxHeartbeats 4000000 in
theorem load_long (w : World) (lim st : Int) (d : ByteArray) (hd : d.size ≤ 140737488351232) (h1 : 1 ≤ lim) (h2 : lim ≤ 65536) (h3 : 0 ≤ st) (h4 : (d.size : Int) ≤ lim) (h5 : 4611686018427387904 - d.size < st) :
    Calls Try.prog 24 #[.int .i64 lim, .int .i64 st, .string d] w fun e w' => e = .returned (.tuple #[.pointer none, .int .i64 2]) ∧ Drawn0 w w' := by
  have c1 : decide (lim < 1) = false := decide_eq_false (by omega)
  have c2 : decide (65536 < lim) = false := decide_eq_false (by omega)
  have c3 : decide (st < 0) = false := decide_eq_false (by omega)
  have c4 : decide (lim < (d.size : Int)) = false := decide_eq_false (by omega)
  have c5 : decide (4611686018427387904 - (d.size : Int) < st) = true := decide_eq_true h5
  go_enter Try.func24, Try.ntmps24
  go_wp2
  repeat (go_quiet (fail); try go_wp2)
  go_ret2
  exact ⟨by first | rfl | (simp; done) | (simp [*]; done), by repeat (first | exact Drawn0.refl _ | apply Drawn0.step)⟩

set_option maxHeartbeats 4000000 in
theorem load_ok (w : World) (lim st : Int) (d : ByteArray) (hd : d.size ≤ 140737488351232) (h1 : 1 ≤ lim) (h2 : lim ≤ 65536) (h3 : 0 ≤ st) (h4 : (d.size : Int) ≤ lim) (h5 : st ≤ 4611686018427387904 - d.size) :
    Calls Try.prog 24 #[.int .i64 lim, .int .i64 st, .string d] w fun e w' => Made w lim st d 0 e w' := by
  have c1 : decide (lim < 1) = false := decide_eq_false (by omega)
  have c2 : decide (65536 < lim) = false := decide_eq_false (by omega)
  have c3 : decide (st < 0) = false := decide_eq_false (by omega)
  have c4 : decide (lim < (d.size : Int)) = false := decide_eq_false (by omega)
  have c5 : decide (4611686018427387904 - (d.size : Int) < st) = false := decide_eq_false (by omega)
  have kb := fun W => print_bytes (P := Try.prog) 9 60 5 Try.underlying9 Try.underlying60 Try.underlying5 d W
  go_enter Try.func24, Try.ntmps24
  go_wp2
  repeat (go_quiet (fail); try go_wp2)
  go_ret2
  have hsz : (Lib.bytesWorld w 5 d).heap.size = w.heap.size + 1 := Lib.bytesWorld_size w 5 d
  have hB : Below w.heap.size w (Lib.bytesWorld w 5 d) := bytes_below (Below.refl _ _) (Nat.le_refl _) 5 d
  refine ⟨some ⟨(Lib.bytesWorld w 5 d).heap.size, 0, none⟩, rfl, below_alloc hB _, fun h => absurd rfl h, fun _ => ⟨_, rfl, by omega, some ⟨w.heap.size, 0, none⟩, grownCap w d.size 0 5, heap_alloc_new _ _, grown_le w d, ?_, ?_⟩⟩
  · exact (bytes_reads w 5 d (by omega)).allocS _
  · intro ad ha
    cases ha
    have hk := (below_alloc (Below.refl (Lib.bytesWorld w 5 d).heap.size (Lib.bytesWorld w 5 d)) (.cells #[.int .i64 lim, .int .i64 st, .slice (some ⟨w.heap.size, 0, none⟩) d.size (grownCap w d.size 0 5)] 62)).block w.heap.size (by omega)
    exact ⟨_, _, hk.trans (Lib.bytesWorld_at_new w 5 d)⟩

set_option maxHeartbeats 4000000 in
/-- Load. -/
theorem load (w : World) (lim st : Int) (d : ByteArray) (hd : d.size ≤ 140737488351232) :
    Calls Try.prog 24 #[.int .i64 lim, .int .i64 st, .string d] w fun e w' => Made w lim st d (loadE lim st d) e w' := by
  unfold loadE
  by_cases h : lim < 1 ∨ 65536 < lim ∨ st < 0 ∨ lim < d.size
  · rw [if_pos h]
    refine (load_bad w lim st d hd h).mono ?_
    rintro e w' ⟨rfl, ⟨n, rfl⟩⟩
    exact made_none w lim st d 1 (by decide) n
  · rw [if_neg h]
    by_cases h5 : 4611686018427387904 - d.size < st
    · rw [if_pos h5]
      refine (load_long w lim st d hd (by omega) (by omega) (by omega) (by omega) h5).mono ?_
      rintro e w' ⟨rfl, ⟨n, rfl⟩⟩
      exact made_none w lim st d 2 (by decide) n
    · rw [if_neg h5]
      exact load_ok w lim st d hd (by omega) (by omega) (by omega) (by omega) (by omega)

/-- New. -/
theorem new (w : World) (lim : Int) :
    Calls Try.prog 11 #[.int .i64 lim] w fun e w' => Made w lim 0 ⟨#[]⟩ (loadE lim 0 ⟨#[]⟩) e w' := by
  have h := load w lim 0 ⟨#[]⟩ (by decide)
  go_enter Try.func11, Try.ntmps11
  go_wp2_with (go_at_call 24; refine h.mono ?_; rintro e w' ⟨p, rfl, hB, hn, hs⟩)
  go_ret2
  exact ⟨p, rfl, hB, hn, hs⟩
end Go.Proofs.Ytggahoojpikecaa.TailLog
