/- TailPieces, both cases joined, and its argument of two lists of numbers, opened. No condition but lengths below a bound. -/
import Derived.Test.YtggahoojpikecaaPiecesW
import Derived.Test.YtggahoojpikecaaOpen2
namespace Go.Proofs.Ytggahoojpikecaa.TailLog
open Go.RowKit Go.ChangeShapes Go.WideShapes Go.ChangeAt Go.Proofs.YtggahoojpikecaaW.PrintWords

theorem pieces (w : World) (lim : Int) (text : ByteArray) (ht : text.size ≤ 140737488351232) (A : Option Addr) (c : Nat) (xs : List Int) (B : Option Addr) (e : Nat) (ys : List Int) (hA : ReadsInt w .i64 A xs.length xs) (hB : ReadsInt w .i64 B ys.length ys) (hca : xs.length ≤ c) (hcb : ys.length ≤ e) :
    Calls Try.prog 4 #[.int .i64 lim, .string text, .agg #[.slice A xs.length c, .slice B ys.length e]] w fun e w' => e = .returned (.bool true) ∧ Below w.heap.size w w' := by
  by_cases h : lim < 1 ∨ 65536 < lim
  · exact pieces_bad w lim text A c _ B e _ h
  · exact pieces_ok w lim text ht A c xs B e ys hA hB hca hcb (by omega) (by omega)

section
variable {H : Type} {enc : TypeId × Value → H} {W : World} {base : Nat} {spare : Nat → Bool} {held : Bool}
theorem open_intl {fuel : Nat} {cs : List Value} {x : DataW H × List MemPlace} (h : DataW.trod enc Try.prog W base spare held fuel 34 cs = some x) :
    ∃ (A : Option Addr) (c : Nat) (l : List Int), cs = [.slice A l.length c] ∧ l.length ≤ c ∧ ReadsInt W .i64 A l.length l := by
  have hmax : maxLen ≤ 9223372036854775807 := by decide
  rcases open_ints Try.underlying34 Try.underlying3 (by kernel_rfl) h with ⟨rfl, rfl⟩ | ⟨ad, len, cap, zs, rfl, _, hl, hm, hz, rfl, hcell, _⟩
  · exact ⟨none, 0, [], rfl, Nat.le_refl _, ReadsInt.nil _ _⟩
  · have hlen : len ≤ zs.length := by rw [hz]; split <;> omega
    have e1 : (zs.take len).length = len := by rw [List.length_take]; omega
    refine ⟨some ad, cap, zs.take len, by rw [e1], by omega, rfl, by omega, fun _ => ⟨ad, rfl, fun j hj => ?_⟩⟩
    rw [e1] at hj
    rw [hcell j (by omega)]
    simp [List.getD, hj]
theorem open_cuts {r : Reach} {b0 : Nat} {v : Value} {d : DataW H} {p : List MemPlace} (hv : Value.okWide Try.prog W r b0 35 v) (h : DataW.Trod enc Try.prog W base spare held 35 v d p) :
    ∃ (A : Option Addr) (c : Nat) (xs : List Int) (B : Option Addr) (e : Nat) (ys : List Int), v = .agg #[.slice A xs.length c, .slice B ys.length e] ∧ ReadsInt W .i64 A xs.length xs ∧ ReadsInt W .i64 B ys.length ys ∧ xs.length ≤ c ∧ ys.length ≤ e := by
  obtain ⟨cs, rfl, hsz⟩ := okWide_array Try.underlying35 hv
  obtain ⟨c0, c1, rfl⟩ := Go.Joins.array2 (hsz.trans (by kernel_rfl))
  obtain ⟨fuel, hf⟩ := h
  obtain ⟨xs, m, _, _, _, hl, hx⟩ := DataW.trod_array Try.underlying35 hf
  have z : Try.prog.cellsOf 34 = 1 := by kernel_rfl
  have h0 := hx 0 (by decide)
  have h1 := hx 1 (by decide)
  obtain ⟨x0, x1, rfl⟩ : ∃ x0 x1, xs = [x0, x1] := by
    match xs, hl with
    | [x0, x1], _ => exact ⟨x0, x1, rfl⟩
  simp only [Value.cells, z] at h0 h1
  obtain ⟨A, c, l, e0, hc0, hr0⟩ := open_intl h0
  obtain ⟨B, e, l', e1, hc1, hr1⟩ := open_intl h1
  simp at e0 e1
  subst e0; subst e1
  exact ⟨A, c, l, B, e, l', rfl, hr0, hr1, hc0, hc1⟩
end
end Go.Proofs.Ytggahoojpikecaa.TailLog
