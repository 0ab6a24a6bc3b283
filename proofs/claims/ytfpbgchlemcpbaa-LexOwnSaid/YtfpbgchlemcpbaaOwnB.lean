/- What LexOwn holds of memory, stage by stage: its lists are written over. No condition. -/
import Derived.Test.YtfpbgchlemcpbaaOwnA
namespace Go.Proofs.Ytfpbgchlemcpbaa.LexLaws
open Go.RowKit Go.Proofs.Ytfpbgchlemcpbaa.PL Go.Proofs.Ytfpbgchlemcpbaa.Mach Go.Proofs.YtfpbgchlemcpbaaW.PrintWords Go.Proofs.YtfpbgchlemcpbaaW.PrintLast Go.Proofs.YtfpbgchlemcpbaaW.PrintMore
set_option linter.unusedVariables false

/-- List i's mark. -/
def nm (N : ByteArray) (i : Nat) : Value := .string (N.extract i (i + 1))
/-- The lengths of the lists. -/
def ln (r : List (List ByteArray)) (j : Nat) : Nat := ((r ++ r).getD j []).length

theorem own_start {W1 W2 W3 : World} {va vb : Value} {r : List (List ByteArray)} {ok ok' : Nat → Prop} (hA : Kd.S (Kd.slice 9 Kd.string) 30 W2 W1.heap.size ok va r) (h2 : Below W1.heap.size W1 W2)
    (hB : Kd.S (Kd.slice 9 Kd.string) 30 W3 W2.heap.size ok' vb r) (h3 : Below W2.heap.size W2 W3) (k : Nat) :
    ∃ La Lb : List Value, La.length = r.length ∧ Lb.length = r.length ∧ (W3.drewN k).ownsRow W1.heap.size 30 1 va La.length La ∧ (W3.drewN k).ownsRow W1.heap.size 30 1 vb Lb.length Lb ∧
      Rows9 (W3.drewN k) W1.heap.size (La ++ Lb) (fun j => ((r ++ r).getD j []).map Value.string) ∧ Apart (La ++ Lb) ∧ (∀ g, va.ownBlock = some g → vb.ownBlock ≠ some g) ∧ (∀ u ∈ La ++ Lb, u.oneCell' = true) := by
  obtain ⟨La, la, oa, ra, pa⟩ := S_heads hA
  obtain ⟨Lb, lb, ob, rb, pb⟩ := S_heads hB
  have hd : Below W3.heap.size W3 (W3.drewN k) := pw_below_drewN (Below.refl _ _) k
  have oa' := pw_own_below (pw_own_below oa h3) hd
  have ob' := pw_own_below (own_weaken ob h2.size) hd
  have lt : ∀ (j : Nat) u g, La[j]? = some u → u.ownBlock = some g → g < W2.heap.size := fun j u g hu hg => by
    obtain ⟨p, _, ho⟩ := ra j u hu
    exact own_lt ho g hg
  have ge : ∀ (j : Nat) u g, Lb[j]? = some u → u.ownBlock = some g → W2.heap.size ≤ g := fun j u g hu hg => by
    obtain ⟨p, _, ho⟩ := rb j u hu
    exact own_base ho g hg
  refine ⟨La, Lb, la, lb, oa', ob', fun j u hu => ?_, fun j k' u u' g hjk hu hu' hg hg' => ?_, fun g hg hg' => ?_, fun u hu => ?_⟩
  · rcases Nat.lt_or_ge j La.length with hj | hj
    · rw [List.getElem?_append_left hj] at hu
      obtain ⟨p, hp, ho⟩ := ra j u hu
      have e : (r ++ r).getD j [] = p := by rw [List.getD_eq_getElem?_getD, List.getElem?_append_left (by omega), hp]; rfl
      simp only [e, List.length_map]
      exact pw_own_below (pw_own_below ho h3) hd
    · rw [List.getElem?_append_right hj] at hu
      obtain ⟨p, hp, ho⟩ := rb _ u hu
      have e : (r ++ r).getD j [] = p := by rw [List.getD_eq_getElem?_getD, List.getElem?_append_right (by omega), show j - r.length = j - La.length by omega, hp]; rfl
      simp only [e, List.length_map]
      exact pw_own_below (own_weaken ho h2.size) hd
  · rcases Nat.lt_or_ge j La.length with hj | hj
    · rw [List.getElem?_append_left hj] at hu
      rcases Nat.lt_or_ge k' La.length with hk | hk
      · rw [List.getElem?_append_left hk] at hu'
        exact pa j k' u u' g hjk hu hu' hg hg'
      · rw [List.getElem?_append_right hk] at hu'
        have h1 := lt j u g hu hg
        have h4 := ge _ u' g hu' hg'
        omega
    · rw [List.getElem?_append_right hj] at hu
      rcases Nat.lt_or_ge k' La.length with hk | hk
      · rw [List.getElem?_append_left hk] at hu'
        have h1 := lt k' u' g hu' hg'
        have h4 := ge _ u g hu hg
        omega
      · rw [List.getElem?_append_right hk] at hu'
        exact pb _ _ u u' g (by omega) hu hu' hg hg'
  · have h1 := own_lt oa g hg
    have h4 := own_base ob g hg'
    omega
  · rcases List.mem_append.1 hu with hu | hu
    · exact heads_one ra u hu
    · exact heads_one rb u hu

/-- What LexOwn holds while it writes its lists over. -/
structure OW (W1 : World) (va vb vl : Value) (La Lb L : List Value) (X : Nat → List Value) (W : World) : Prop where
  b : Below W1.heap.size W1 W
  ra : W.ownsRow W1.heap.size 30 1 va La.length La
  rb : W.ownsRow W1.heap.size 30 1 vb Lb.length Lb
  rl : W.ownsRow W1.heap.size 30 1 vl L.length L
  rows : Rows9 W W1.heap.size L X

section
variable {W1 W W' : World} {va vb vl : Value} {La Lb L : List Value} {X : Nat → List Value}
theorem OW.below (h : OW W1 va vb vl La Lb L X W) (hb : Below W.heap.size W W') : OW W1 va vb vl La Lb L X W' :=
  ⟨below_step h.b hb, pw_own_below h.ra hb, pw_own_below h.rb hb, pw_own_below h.rl hb, h.rows.below hb⟩
theorem OW.drew (h : OW W1 va vb vl La Lb L X W) : OW W1 va vb vl La Lb L X W.drew := h.below (below_drew (Below.refl _ _))
theorem OW.drewN (h : OW W1 va vb vl La Lb L X W) (k : Nat) : OW W1 va vb vl La Lb L X (W.drewN k) := h.below (pw_below_drewN (Below.refl _ _) k)
/-- A row of marks has been written, or appended to: the outer rows stand. -/
theorem OW.outer (h : OW W1 va vb vl La Lb L X W) {v : Value} {n : Nat} {xs : List Value} (ho : W.ownsRow W1.heap.size 9 1 v n xs) (hg : W.grownBy W' v.ownBlock) :
    Below W1.heap.size W1 W' ∧ W'.ownsRow W1.heap.size 30 1 va La.length La ∧ W'.ownsRow W1.heap.size 30 1 vb Lb.length Lb ∧ W'.ownsRow W1.heap.size 30 1 vl L.length L :=
  ⟨h.b.grown hg h.b.size (own_base ho), h.ra.kept hg (own_type_ne h.ra ho (by decide)), h.rb.kept hg (own_type_ne h.rb ho (by decide)), h.rl.kept hg (own_type_ne h.rl ho (by decide))⟩
theorem OW.store (h : OW W1 va vb vl La Lb L X W) (hA : Apart L) {i g n c : Nat} (hu : L[i]? = some (.slice (some ⟨g, 0, none⟩) n c)) (k : Nat) (y : Value) :
    OW W1 va vb vl La Lb L (fun j => if j = i then (X i).set k y else X j) (W.setCell ⟨g, k, none⟩ y) := by
  have hi := h.rows i _ hu
  have hn : n = (X i).length := by
    obtain ⟨_, _, he⟩ := own_slice hi
    injection he
  subst hn
  obtain ⟨h1, hg⟩ := hi.stored k y
  have hg' : W.grownBy (W.setCell ⟨g, k, none⟩ y) (Value.slice (some ⟨g, 0, none⟩) (X i).length c).ownBlock := hg
  obtain ⟨o1, o2, o3, o4⟩ := h.outer hi hg'
  refine ⟨o1, o2, o3, o4, fun j u hj => ?_⟩
  by_cases e : j = i
  · subst e
    rw [hu] at hj
    cases hj
    simp only [if_true, List.length_set]
    exact h1
  · simp only [e, if_false]
    refine (h.rows j u hj).kept hg ?_
    cases hb : u.ownBlock with
    | none => exact .inl rfl
    | some g' =>
      refine .inr fun he => ?_
      injection he with he
      subst he
      exact hA j i u _ g' e hj hu hb (by simp [Value.ownBlock])
theorem OW.head (h : OW W1 va vb vl La Lb L X W) {i : Nat} {u : Value} (hu : L[i]? = some u) (hn : 0 < (X i).length) :
    ∃ gl cl gi ci, vl = .slice (some ⟨gl, 0, none⟩) L.length cl ∧ u = .slice (some ⟨gi, 0, none⟩) (X i).length ci ∧ W.cell? ⟨gl, i, none⟩ = some u ∧ (∀ k y, (X i)[k]? = some y → W.cell? ⟨gi, k, none⟩ = some y) ∧ ∀ k, W.frozen? ⟨gi, k, none⟩ = false := by
  have hi : i < L.length := (List.getElem?_eq_some_iff.1 hu).1
  obtain ⟨gl, cl, e1, _, _⟩ := h.rl.form (by omega)
  obtain ⟨gi, ci, e2, _, _⟩ := (h.rows i u hu).form hn
  have c1 := h.rl.cells (g := gl) (by rw [e1]; rfl) i u hu
  rw [add_plain] at c1
  refine ⟨gl, cl, gi, ci, e1, e2, c1, fun k y hy => ?_, fun k => ?_⟩
  · have c2 := (h.rows i u hu).cells (g := gi) (by rw [e2]; rfl) k y hy
    rwa [add_plain] at c2
  · rcases (h.rows i u hu).2 with ⟨he, h0⟩ | ⟨g', cap', cur, he, _, hh, _⟩
    · omega
    · rw [e2] at he
      injection he with he
      injection he with he
      injection he with he
      subst he
      simp [World.frozen?, hh]
end

/-- Lists below i are full of their marks; of list i the first k. -/
def St1 (W1 : World) (va vb vl : Value) (La Lb L : List Value) (N : ByteArray) (n : Nat → Nat) (i k : Nat) (W : World) : Prop :=
  ∃ X, OW W1 va vb vl La Lb L X W ∧ (∀ j, (X j).length = n j) ∧ (∀ j, j < i → X j = List.replicate (n j) (nm N j)) ∧ (X i).take k = List.replicate k (nm N i)
section
variable {W1 W W' : World} {va vb vl : Value} {La Lb L : List Value} {N : ByteArray} {n : Nat → Nat} {i k : Nat}
theorem St1.drew (h : St1 W1 va vb vl La Lb L N n i k W) : St1 W1 va vb vl La Lb L N n i k W.drew := by
  obtain ⟨X, h1, h2⟩ := h
  exact ⟨X, h1.drew, h2⟩
theorem St1.drewN (h : St1 W1 va vb vl La Lb L N n i k W) (m : Nat) : St1 W1 va vb vl La Lb L N n i k (W.drewN m) := by
  obtain ⟨X, h1, h2⟩ := h
  exact ⟨X, h1.drewN m, h2⟩
theorem St1.head (h : St1 W1 va vb vl La Lb L N n i k W) (hn : 0 < n i) {u : Value} (hu : L[i]? = some u) :
    ∃ gl cl gi ci, vl = .slice (some ⟨gl, 0, none⟩) L.length cl ∧ u = .slice (some ⟨gi, 0, none⟩) (n i) ci ∧ W.cell? ⟨gl, i, none⟩ = some u ∧ (∀ k, k < n i → ∃ y, W.cell? ⟨gi, k, none⟩ = some y) ∧ ∀ k, W.frozen? ⟨gi, k, none⟩ = false := by
  obtain ⟨X, h1, h2, h3, h4⟩ := h
  obtain ⟨gl, cl, gi, ci, e1, e2, c1, c2, c3⟩ := h1.head hu (by rw [h2]; exact hn)
  rw [h2] at e2
  exact ⟨gl, cl, gi, ci, e1, e2, c1, fun k hk => ⟨_, c2 k _ (List.getElem?_eq_getElem (by rw [h2]; exact hk))⟩, c3⟩
theorem St1.store (h : St1 W1 va vb vl La Lb L N n i k W) (hA : Apart L) {g c : Nat} (hu : L[i]? = some (.slice (some ⟨g, 0, none⟩) (n i) c)) (hk : k < n i) : St1 W1 va vb vl La Lb L N n i (k + 1) (W.setCell ⟨g, k, none⟩ (nm N i)) := by
  obtain ⟨X, h1, h2, h3, h4⟩ := h
  refine ⟨_, h1.store hA hu k (nm N i), fun j => ?_, fun j hj => ?_, ?_⟩
  · split
    · rename_i e
      rw [List.length_set, h2, e]
    · exact h2 j
  · rw [if_neg (by omega)]
    exact h3 j hj
  · rw [if_pos rfl, List.take_add_one, List.take_set_of_le (Nat.le_refl k), h4, List.getElem?_set_self (by rw [h2]; exact hk), List.replicate_succ']
    rfl
theorem St1.next (h : St1 W1 va vb vl La Lb L N n i (n i) W) : St1 W1 va vb vl La Lb L N n (i + 1) 0 W := by
  obtain ⟨X, h1, h2, h3, h4⟩ := h
  refine ⟨X, h1, h2, fun j hj => ?_, rfl⟩
  rcases Nat.lt_or_ge j i with h | h
  · exact h3 j h
  · have e : j = i := by omega
    subst e
    rw [← h4, List.take_of_length_le (by rw [h2]; exact Nat.le_refl _)]
end
end Go.Proofs.Ytfpbgchlemcpbaa.LexLaws
