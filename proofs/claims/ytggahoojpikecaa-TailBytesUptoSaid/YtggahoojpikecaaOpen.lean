/- The arguments of layer 6's laws, opened: a Log's making, a script of calls, texts, numbers. No condition. -/
import Derived.Test.YtggahoojpikecaaRows
import Derived.Test.YtggahoojpikecaaStep
import Derived.SliceStrings
import Derived.Lib.SmallJoins
import Derived.SizedLaws
import Derived.OpenShut
namespace Go.Proofs.Ytggahoojpikecaa.TailLog
open Go.ChangeShapes Go.WideShapes Go.Proofs.YtggahoojpikecaaW.PrintWords

section
variable {H : Type} {enc : TypeId × Value → H} {W : World} {base : Nat} {spare : Nat → Bool} {held : Bool}

/-- The sizes of the strings in a datum are within the reach. -/
def Reached (t : TypeId) (d : DataW H) : Prop := ∀ n ∈ d.weights Try.prog t, n ≤ reachBytes
theorem reached_arg {ts : List TypeId} {ds : List (DataW H)} (h : (DataW.weightsEach Try.prog ts ds).all (· ≤ reachBytes) = true) {j : Nat} {t : TypeId} {d : DataW H} (ht : ts[j]? = some t) (hd : ds[j]? = some d) : Reached t d := fun n hn => by
  have := List.all_eq_true.1 h _ (DataW.weights_mem_each ht hd n hn)
  simpa using this
theorem reach_le : reachBytes ≤ 140737488351232 := by decide
theorem weightsAll_mem {P : Program} {e : TypeId} {d : DataW H} {l : List (DataW H)} {n : Nat} (hd : d ∈ l) (hn : n ∈ d.weights P e) : n ∈ DataW.weightsAll P e l := by
  induction l with
  | nil => cases hd
  | cons a l ih =>
    simp only [DataW.weightsAll, List.mem_append]
    rcases List.mem_cons.1 hd with rfl | hd
    · exact Or.inl hn
    · exact Or.inr (ih hd)

theorem open_log {r : Reach} {b0 : Nat} {v : Value} {d : DataW H} {p : List MemPlace} (hv : Value.okWide Try.prog W r b0 41 v) (h : DataW.Trod enc Try.prog W base spare held 41 v d p) (hR : Reached 41 d) :
    ∃ (f : Bool) (l s : Int) (x : ByteArray), v = .agg #[.bool f, .int .i64 l, .int .i64 s, .string x] ∧ x.size ≤ 140737488351232 ∧ s ≤ 9223372036854775807 := by
  obtain ⟨v0, v1, v2, v3, y0, y1, y2, y3, n, rfl, rfl, rfl, h0, h1, h2, h3⟩ := Go.Joins.open_agg4 Try.underlying41 (by kernel_rfl) (by kernel_rfl) hv h
  obtain ⟨f, e0, rfl⟩ := DataW.trod_bool Try.underlying4 h0
  obtain ⟨l, e1, rfl, w1⟩ := DataW.trod_int Try.underlying3 h1
  obtain ⟨s, e2, rfl, w2⟩ := DataW.trod_int Try.underlying3 h2
  obtain ⟨x, e3, rfl, w3⟩ := DataW.trod_string Try.underlying9 h3
  simp only [List.cons.injEq, and_true] at e0 e1 e2 e3
  subst e0; subst e1; subst e2; subst e3
  refine ⟨f, l, s, x, rfl, ?_, (bounds_i64 w2).2⟩
  have := hR x.data.toList.length (by simp [DataW.weights, Try.underlying41, DataW.weightsEach])
  rw [data_length] at this
  exact Nat.le_trans this reach_le
/-- A script: its calls lie in memory, four cells each. -/
def OpsAt (w : World) (A : Option Addr) (ops : List (Int × ByteArray × Int × Int)) : Prop :=
  0 < ops.length → ∃ ad, A = some ad ∧ ∀ (i : Nat) k x a b, ops[i]? = some (k, x, a, b) → w.cell? (ad.add (i * 4)) = some (.int .i64 k) ∧ w.cell? (ad.add (i * 4 + 1)) = some (.string x) ∧ w.cell? (ad.add (i * 4 + 2)) = some (.int .i64 a) ∧ w.cell? (ad.add (i * 4 + 3)) = some (.int .i64 b)

theorem cells4 {w : World} {base : Nat} {a : Addr} {c0 c1 c2 c3 : Value} (h : w.cells? base a 4 = some [c0, c1, c2, c3]) : w.cell? (a.add 0) = some c0 ∧ w.cell? (a.add 1) = some c1 ∧ w.cell? (a.add 2) = some c2 ∧ w.cell? (a.add 3) = some c3 := by
  obtain ⟨_, h1⟩ := World.cells?_some h
  exact ⟨h1.2 0 (by decide), h1.2 1 (by decide), h1.2 2 (by decide), h1.2 3 (by decide)⟩

theorem open_ops {fuel : Nat} {cs : List Value} {x : DataW H × List MemPlace} (h : DataW.trod enc Try.prog W base spare held fuel 22 cs = some x) (hR : Reached 22 x.1) :
    ∃ (A : Option Addr) (c : Nat) (ops : List (Int × ByteArray × Int × Int)), cs = [.slice A ops.length c] ∧ ops.length ≤ c ∧ OpsAt W A ops ∧ ops.length ≤ 9223372036854775807 ∧ ∀ k x a b, (k, x, a, b) ∈ ops → x.size ≤ 140737488351232 ∧ a ≤ 9223372036854775807 := by
  rcases DataW.trod_slice Try.underlying22 h with ⟨rfl, rfl⟩ | ⟨ad, len, cap, elems, rest, n, _, rfl, rfl, _, hl, hm, hlen, hel, _, _⟩
  · exact ⟨none, 0, [], rfl, Nat.le_refl _, fun h => absurd h (by simp), by simp, fun k x a b h => by simp at h⟩
  · have hC : Try.prog.cellsOf 29 = 4 := by kernel_rfl
    have each : ∀ i, ∃ o : Int × ByteArray × Int × Int, ∀ y, elems[i]? = some y →
        (W.cell? (ad.add (i * 4)) = some (.int .i64 o.1) ∧ W.cell? (ad.add (i * 4 + 1)) = some (.string o.2.1) ∧ W.cell? (ad.add (i * 4 + 2)) = some (.int .i64 o.2.2.1) ∧ W.cell? (ad.add (i * 4 + 3)) = some (.int .i64 o.2.2.2)) ∧
        o.2.1.size ≤ 140737488351232 ∧ o.2.2.1 ≤ 9223372036854775807 := by
      intro i
      cases hy : elems[i]? with
      | none => exact ⟨(0, ⟨#[]⟩, 0, 0), fun y h => by cases h⟩
      | some y =>
        have hi : i < len := by
          have := (List.getElem?_eq_some_iff.1 hy).1
          omega
        have hb := hel i hi
        rw [hC, hy, Option.bind_eq_some_iff] at hb
        obtain ⟨cs', hcs, hy'⟩ := hb
        obtain ⟨y0, y1, y2, y3, m, hx, hlc, h0, h1, h2, h3⟩ := Go.Joins.trod_struct4 Try.underlying29 hy'
        rw [hC] at hlc
        obtain ⟨c0, c1, c2, c3, rfl⟩ : ∃ c0 c1 c2 c3, cs' = [c0, c1, c2, c3] := by
          match cs', hlc with
          | [c0, c1, c2, c3], _ => exact ⟨c0, c1, c2, c3, rfl⟩
        have z3 : Try.prog.cellsOf 3 = 1 := by kernel_rfl
        have z9 : Try.prog.cellsOf 9 = 1 := by kernel_rfl
        simp only [z3, z9, List.drop_succ_cons, List.drop_zero, List.take_succ_cons, List.take_zero] at h0 h1 h2 h3
        obtain ⟨k, e0, rfl, w0⟩ := DataW.trod_int Try.underlying3 h0
        obtain ⟨s, e1, rfl, w1⟩ := DataW.trod_string Try.underlying9 h1
        obtain ⟨a, e2, rfl, w2⟩ := DataW.trod_int Try.underlying3 h2
        obtain ⟨b, e3, rfl, w3⟩ := DataW.trod_int Try.underlying3 h3
        simp only [List.cons.injEq, and_true] at e0 e1 e2 e3
        subst e0; subst e1; subst e2; subst e3
        obtain ⟨q0, q1, q2, q3⟩ := cells4 hcs
        simp only [add_add, Nat.add_zero] at q0 q1 q2 q3
        refine ⟨(k, s, a, b), fun y2 h2 => ?_⟩
        cases h2
        refine ⟨⟨q0, q1, q2, q3⟩, ?_, (bounds_i64 w2).2⟩
        have hmem : s.data.toList.length ∈ DataW.weights Try.prog 22 (.slice (elems.map (·.1)) (rest.map (·.1))) := by
          simp only [DataW.weights, Try.underlying22, List.mem_cons, List.mem_append]
          refine Or.inr (Or.inl (weightsAll_mem (d := y.1) (List.mem_map_of_mem (List.mem_of_getElem? hy)) ?_))
          rw [hx]
          simp [DataW.weights, Try.underlying29, DataW.weightsEach]
        have := hR _ hmem
        rw [data_length] at this
        exact Nat.le_trans this reach_le
    obtain ⟨f, hf⟩ := Classical.axiomOfChoice each
    have hmax : maxLen ≤ 9223372036854775807 := by decide
    have e1 : ((List.range len).map f).length = len := by simp
    have at_ : ∀ (j : Nat) o, ((List.range len).map f)[j]? = some o → j < len ∧ o = f j := by
      intro j o hj
      have hj' : j < len := by
        have := (List.getElem?_eq_some_iff.1 hj).1
        omega
      refine ⟨hj', ?_⟩
      rw [List.getElem?_map, List.getElem?_range hj'] at hj
      simpa using hj.symm
    have ey : ∀ j (hj : j < len), elems[j]? = some (elems[j]'(by omega)) := fun j hj => List.getElem?_eq_getElem (by omega)
    refine ⟨some ad, cap, (List.range len).map f, by rw [e1], by omega, fun _ => ⟨ad, rfl, fun i k x a b ho => ?_⟩, by omega, fun k x a b ho => ?_⟩
    · obtain ⟨hj, e⟩ := at_ i _ ho
      have := (hf i _ (ey i hj)).1
      rw [← e] at this
      exact this
    · obtain ⟨i, hi⟩ := List.getElem?_of_mem ho
      obtain ⟨hj, e⟩ := at_ i _ hi
      have := (hf i _ (ey i hj)).2
      rw [← e] at this
      exact this
end
end Go.Proofs.Ytggahoojpikecaa.TailLog
