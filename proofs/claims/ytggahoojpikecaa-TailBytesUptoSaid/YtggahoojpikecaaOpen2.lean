/- More arguments of layer 6's laws, opened: texts, a pair of numbers, two lists of numbers. No condition. -/
import Derived.Test.YtggahoojpikecaaPlaysW
namespace Go.Proofs.Ytggahoojpikecaa.TailLog
open Go.ChangeShapes Go.WideShapes Go.Proofs.YtggahoojpikecaaW.PrintWords

section
variable {H : Type} {enc : TypeId × Value → H} {W : World} {base : Nat} {spare : Nat → Bool} {held : Bool}

/-- Texts lie in memory, a cell each. -/
def StrsAt (w : World) (A : Option Addr) (l : List ByteArray) : Prop := 0 < l.length → ∃ ad, A = some ad ∧ ∀ (i : Nat) x, l[i]? = some x → w.cell? (ad.add i) = some (.string x)

theorem open_strs {fuel : Nat} {cs : List Value} {x : DataW H × List MemPlace} (h : DataW.trod enc Try.prog W base spare held fuel 51 cs = some x) (hR : Reached 51 x.1) :
    ∃ (A : Option Addr) (c : Nat) (l : List ByteArray), cs = [.slice A l.length c] ∧ l.length ≤ c ∧ StrsAt W A l ∧ l.length ≤ 9223372036854775807 ∧ ∀ x ∈ l, x.size ≤ 140737488351232 := by
  have hmax : maxLen ≤ 9223372036854775807 := by decide
  rcases open_strings Try.underlying51 Try.underlying9 (by kernel_rfl) h with ⟨rfl, rfl⟩ | ⟨ad, len, cap, ss, rfl, _, hl, hm, hz, rfl, hcell, _⟩
  · exact ⟨none, 0, [], rfl, Nat.le_refl _, fun h => absurd h (by simp), by simp, fun x h => by simp at h⟩
  · have hlen : len ≤ ss.length := by rw [hz]; split <;> omega
    have e1 : (ss.take len).length = len := by rw [List.length_take]; omega
    refine ⟨some ad, cap, ss.take len, by rw [e1], by omega, fun _ => ⟨ad, rfl, fun i x hx => ?_⟩, by omega, fun x hx => ?_⟩
    · have hi : i < len := by
        have := (List.getElem?_eq_some_iff.1 hx).1
        omega
      rw [hcell i (by omega)]
      rw [List.getElem?_take, if_pos hi] at hx
      rw [List.getD, hx]
      rfl
    · have hmem : x.data.toList.length ∈ DataW.weights Try.prog 51 (DataW.slice (H := H) (strs (ss.take len)) (strs (ss.drop len))) := by
        simp only [DataW.weights, Try.underlying51, List.mem_cons, List.mem_append]
        refine Or.inr (Or.inl (weightsAll_mem (d := .lit (.string x.data.toList)) (List.mem_map_of_mem hx) ?_))
        simp [DataW.weights]
      have := hR _ hmem
      rw [data_length] at this
      exact Nat.le_trans this reach_le

theorem okWide_array {r : Reach} {b0 n : Nat} {t e : TypeId} {v : Value} (ht : Try.prog.underlying t = some (.array n e)) (h : Value.okWide Try.prog W r b0 t v) : ∃ cs, v = .agg cs ∧ cs.size = Try.prog.cellsOf t := by
  simp only [Value.okWide, ht] at h
  obtain ⟨cs, h1, h2, _⟩ := h
  exact ⟨cs, h1, h2⟩
theorem open_pair {r : Reach} {b0 : Nat} {v : Value} {d : DataW H} {p : List MemPlace} (hv : Value.okWide Try.prog W r b0 52 v) (h : DataW.Trod enc Try.prog W base spare held 52 v d p) :
    ∃ a b : Int, v = .agg #[.int .i64 a, .int .i64 b] ∧ a ≤ 9223372036854775807 ∧ b ≤ 9223372036854775807 := by
  obtain ⟨cs, rfl, hsz⟩ := okWide_array Try.underlying52 hv
  obtain ⟨c0, c1, rfl⟩ := Go.Joins.array2 (hsz.trans (by kernel_rfl))
  obtain ⟨fuel, hf⟩ := h
  obtain ⟨xs, m, _, _, _, hl, hx⟩ := DataW.trod_array Try.underlying52 hf
  have z3 : Try.prog.cellsOf 3 = 1 := by kernel_rfl
  have h0 := hx 0 (by decide)
  have h1 := hx 1 (by decide)
  obtain ⟨x0, x1, rfl⟩ : ∃ x0 x1, xs = [x0, x1] := by
    match xs, hl with
    | [x0, x1], _ => exact ⟨x0, x1, rfl⟩
  simp only [Value.cells, z3] at h0 h1
  obtain ⟨a, e0, _, w0⟩ := DataW.trod_int Try.underlying3 h0
  obtain ⟨b, e1, _, w1⟩ := DataW.trod_int Try.underlying3 h1
  simp at e0 e1
  subst e0; subst e1
  exact ⟨a, b, rfl, (bounds_i64 w0).2, (bounds_i64 w1).2⟩
end
end Go.Proofs.Ytggahoojpikecaa.TailLog
