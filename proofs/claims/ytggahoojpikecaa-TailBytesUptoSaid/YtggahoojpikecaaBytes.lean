/- TailBytes, both cases joined, and its script, opened with its bulk. Condition: the script's bulk is at most 1048576. -/
import Derived.Test.YtggahoojpikecaaBytesW
namespace Go.Proofs.Ytggahoojpikecaa.TailLog
open Go.RowKit Go.ChangeShapes Go.WideShapes Go.ChangeAt Go.Proofs.YtggahoojpikecaaW.PrintWords

theorem size_textSum {k : Int} {x : ByteArray} {a b : Int} (ops : List (Int × ByteArray × Int × Int)) (h : (k, x, a, b) ∈ ops) : x.size ≤ textSum ops := by
  induction ops with
  | nil => cases h
  | cons o l ih =>
    have e : textSum (o :: l) = o.2.1.size + textSum l := rfl
    rcases List.mem_cons.1 h with rfl | h
    · simp only at e
      omega
    · have := ih h
      omega
theorem bytes (w : World) (lim : Int) (A : Option Addr) (c : Nat) (ops : List (Int × ByteArray × Int × Int)) (hc : ops.length ≤ c) (hO : OpsAt w A ops) (hm : ops.length ≤ 9223372036854775807) (hb : ∀ k x a b, (k, x, a, b) ∈ ops → a ≤ 9223372036854775807) (hs : textSum ops ≤ 1000000000) :
    Calls Try.prog 3 #[.int .i64 lim, .slice A ops.length c] w fun e w' => e = .returned (.bool true) ∧ Below w.heap.size w w' := by
  by_cases h : lim < 1 ∨ 65536 < lim
  · exact bytes_bad w lim A c _ h
  · exact bytes_ok w lim (by omega) (by omega) A c ops hc hO hm (fun k x a b h => ⟨by have := size_textSum ops h; omega, hb k x a b h⟩) hs

section
variable {H : Type} {enc : TypeId × Value → H} {W : World} {base : Nat} {spare : Nat → Bool} {held : Bool}
theorem textSum_all : ∀ (l : List (Int × ByteArray × Int × Int)) (es : List (DataW H)), l.length = es.length →
    (∀ (i : Nat) o d, l[i]? = some o → es[i]? = some d → o.2.1.size ≤ Rows.uptoBulk d) → textSum l ≤ Rows.uptoBulkAll es := by
  intro l
  induction l with
  | nil => intro es _ _; exact Nat.zero_le _
  | cons o l ih =>
    intro es hl h
    cases es with
    | nil => simp at hl
    | cons d es =>
      have e : textSum (o :: l) = o.2.1.size + textSum l := rfl
      have h0 := h 0 o d rfl rfl
      have h1 := ih es (by simpa using hl) (fun i r' d' hr hd => h (i + 1) r' d' (by simpa using hr) (by simpa using hd))
      simp only [Rows.uptoBulkAll]
      omega
theorem open_script {fuel : Nat} {cs : List Value} {x : DataW H × List MemPlace} (h : DataW.trod enc Try.prog W base spare held fuel 22 cs = some x) :
    ∃ (A : Option Addr) (c : Nat) (ops : List (Int × ByteArray × Int × Int)), cs = [.slice A ops.length c] ∧ ops.length ≤ c ∧ OpsAt W A ops ∧ ops.length ≤ 9223372036854775807 ∧ (∀ k x a b, (k, x, a, b) ∈ ops → a ≤ 9223372036854775807) ∧ textSum ops ≤ Rows.uptoBulk x.1 := by
  rcases DataW.trod_slice Try.underlying22 h with ⟨rfl, rfl⟩ | ⟨ad, len, cap, elems, rest, n, _, rfl, rfl, _, hl, hm, hlen, hel, _, _⟩
  · exact ⟨none, 0, [], rfl, Nat.le_refl _, fun h => absurd h (by simp), by simp, fun k x a b h => by simp at h, Nat.zero_le _⟩
  · have hC : Try.prog.cellsOf 29 = 4 := by kernel_rfl
    have each : ∀ i, ∃ o : Int × ByteArray × Int × Int, ∀ y, elems[i]? = some y →
        (W.cell? (ad.add (i * 4)) = some (.int .i64 o.1) ∧ W.cell? (ad.add (i * 4 + 1)) = some (.string o.2.1) ∧ W.cell? (ad.add (i * 4 + 2)) = some (.int .i64 o.2.2.1) ∧ W.cell? (ad.add (i * 4 + 3)) = some (.int .i64 o.2.2.2)) ∧
        o.2.1.size ≤ Rows.uptoBulk y.1 ∧ o.2.2.1 ≤ 9223372036854775807 := by
      intro i
      cases hy : elems[i]? with
      | none => exact ⟨(0, ⟨#[]⟩, 0, 0), fun y h => by cases h⟩
      | some y =>
        have hi : i < len := by
          have := (List.getElem?_eq_some_iff.1 hy).1
          omega
        have hb := hel i hi
        rw [hC, hy, Option.bind_eq_some_iff] at hb
        obtain ⟨cs', hcs, hy'⟩ := hb
        obtain ⟨y0, y1, y2, y3, m, hx, hlc, h0, h1, h2, h3⟩ := Go.Joins.trod_struct4 Try.underlying29 hy'
        rw [hC] at hlc
        obtain ⟨c0, c1, c2, c3, rfl⟩ : ∃ c0 c1 c2 c3, cs' = [c0, c1, c2, c3] := by
          match cs', hlc with
          | [c0, c1, c2, c3], _ => exact ⟨c0, c1, c2, c3, rfl⟩
        have z3 : Try.prog.cellsOf 3 = 1 := by kernel_rfl
        have z9 : Try.prog.cellsOf 9 = 1 := by kernel_rfl
        simp only [z3, z9, List.drop_succ_cons, List.drop_zero, List.take_succ_cons, List.take_zero] at h0 h1 h2 h3
        obtain ⟨k, e0, rfl, w0⟩ := DataW.trod_int Try.underlying3 h0
        obtain ⟨s, e1, rfl, w1⟩ := DataW.trod_string Try.underlying9 h1
        obtain ⟨a, e2, rfl, w2⟩ := DataW.trod_int Try.underlying3 h2
        obtain ⟨b, e3, rfl, w3⟩ := DataW.trod_int Try.underlying3 h3
        simp only [List.cons.injEq, and_true] at e0 e1 e2 e3
        subst e0; subst e1; subst e2; subst e3
        obtain ⟨q0, q1, q2, q3⟩ := cells4 hcs
        simp only [add_add, Nat.add_zero] at q0 q1 q2 q3
        refine ⟨(k, s, a, b), fun y2 h2 => ?_⟩
        cases h2
        refine ⟨⟨q0, q1, q2, q3⟩, ?_, (bounds_i64 w2).2⟩
        rw [hx]
        simp only [Rows.uptoBulk, Rows.uptoBulkAll, data_length]
        omega
    obtain ⟨f, hf⟩ := Classical.axiomOfChoice each
    have hmax : maxLen ≤ 9223372036854775807 := by decide
    have e1 : ((List.range len).map f).length = len := by simp
    have at_ : ∀ (j : Nat) o, ((List.range len).map f)[j]? = some o → j < len ∧ o = f j := by
      intro j o hj
      have hj' : j < len := by
        have := (List.getElem?_eq_some_iff.1 hj).1
        omega
      refine ⟨hj', ?_⟩
      rw [List.getElem?_map, List.getElem?_range hj'] at hj
      simpa using hj.symm
    have ey : ∀ j (hj : j < len), elems[j]? = some (elems[j]'(by omega)) := fun j hj => List.getElem?_eq_getElem (by omega)
    refine ⟨some ad, cap, (List.range len).map f, by rw [e1], by omega, fun _ => ⟨ad, rfl, fun i k x a b ho => ?_⟩, by omega, fun k x a b ho => ?_, ?_⟩
    · obtain ⟨hj, e⟩ := at_ i _ ho
      have := (hf i _ (ey i hj)).1
      rw [← e] at this
      exact this
    · obtain ⟨i, hi⟩ := List.getElem?_of_mem ho
      obtain ⟨hj, e⟩ := at_ i _ hi
      have := (hf i _ (ey i hj)).2.2
      rw [← e] at this
      exact this
    · have := textSum_all ((List.range len).map f) (elems.map (·.1)) (by rw [e1, List.length_map]; omega) (fun i o d ho hd => by
        obtain ⟨hj, e⟩ := at_ i _ ho
        rw [List.getElem?_map] at hd
        obtain ⟨y, hy, rfl⟩ := Option.map_eq_some_iff.1 hd
        rw [e]
        exact (hf i _ hy).2.1)
      simp only [Rows.uptoBulk]
      omega
end
end Go.Proofs.Ytggahoojpikecaa.TailLog
