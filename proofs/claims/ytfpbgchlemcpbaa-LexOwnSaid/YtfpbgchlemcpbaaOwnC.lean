/- What LexOwn holds of memory, on: its lists are grown, and both answers are made longer. No condition. -/
import Derived.Test.YtfpbgchlemcpbaaOwnB
namespace Go.Proofs.Ytfpbgchlemcpbaa.LexLaws
open Go.RowKit Go.Proofs.Ytfpbgchlemcpbaa.PL Go.Proofs.Ytfpbgchlemcpbaa.Mach Go.Proofs.YtfpbgchlemcpbaaW.PrintWords Go.Proofs.YtfpbgchlemcpbaaW.PrintLast Go.Proofs.YtfpbgchlemcpbaaW.PrintMore
set_option linter.unusedVariables false

/-- The first i lists are grown; vg: the row of the grown ones, its block at h5 or behind. -/
structure GW (W1 : World) (va vb vl : Value) (La Lb L : List Value) (N : ByteArray) (n : Nat → Nat) (h5 i : Nat) (GR : List Value) (vg : Value) (W : World) : Prop where
  ow : OW W1 va vb vl La Lb L (fun j => List.replicate (n j) (nm N j)) W
  len : GR.length = i
  og : W.ownsRow h5 30 1 vg GR.length GR
  rg : Rows9 W W1.heap.size GR (fun j => List.replicate (n j + 64) (nm N j))
  cross : ∀ (j k : Nat) u u' g, j < k → GR[j]? = some u → L[k]? = some u' → u.ownBlock = some g → u'.ownBlock ≠ some g
  hh : W1.heap.size ≤ h5 ∧ h5 ≤ W.heap.size
  low : (∀ g, va.ownBlock = some g → g < h5) ∧ (∀ g, vb.ownBlock = some g → g < h5) ∧ ∀ g, vl.ownBlock = some g → g < h5

/-- List i is being grown: t marks are appended. -/
structure VW (W1 : World) (va vb vl : Value) (La Lb L : List Value) (N : ByteArray) (n : Nat → Nat) (h5 i : Nat) (GR : List Value) (vg vt : Value) (t : Nat) (W : World) : Prop where
  gw : GW W1 va vb vl La Lb L N n h5 i GR vg W
  ot : W.ownsRow W1.heap.size 9 1 vt (n i + t) (List.replicate (n i + t) (nm N i))
  cv : ∀ (k : Nat) u' g, k ≠ i → L[k]? = some u' → vt.ownBlock = some g → u'.ownBlock ≠ some g
  cg : ∀ (j : Nat) u g, GR[j]? = some u → u.ownBlock = some g → vt.ownBlock ≠ some g
  sm : ∀ g cap m, vt = .slice (some ⟨g, 0, none⟩) m cap → ∀ u, L[i]? = some u → u.ownBlock = some g → u = .slice (some ⟨g, 0, none⟩) (n i) cap

theorem kept_ne {W W' : World} {b e n : Nat} {v : Value} {xs : List Value} {row : Option Nat} (h : W.ownsRow b e 1 v n xs) (hg : W.grownBy W' row) (hne : ∀ g, v.ownBlock = some g → some g ≠ row) : W'.ownsRow b e 1 v n xs := by
  refine h.kept hg ?_
  cases hb : v.ownBlock with
  | none => exact .inl rfl
  | some g => exact .inr (hne g hb)
theorem type_ne {W : World} {b b' e e' n n' : Nat} {v v' : Value} {xs xs' : List Value} (h : W.ownsRow b e 1 v n xs) (h' : W.ownsRow b' e' 1 v' n' xs') (hne : e ≠ e') : ∀ g, v.ownBlock = some g → some g ≠ v'.ownBlock := by
  intro g hg he
  rcases own_type_ne h h' hne with h1 | h1
  · rw [hg] at h1; cases h1
  · exact h1 (hg.trans he)
theorem len_own {W : World} {b e n : Nat} {v : Value} {xs : List Value} (h : W.ownsRow b e 1 v n xs) {A : Option Addr} {m c : Nat} (hv : v = .slice A m c) : m = n := by
  obtain ⟨_, _, he⟩ := own_slice h
  rw [he] at hv
  injection hv with _ h2 _
  exact h2.symm

section
variable {W1 W W' : World} {va vb vl vg vt : Value} {La Lb L GR : List Value} {N : ByteArray} {n : Nat → Nat} {h5 i t : Nat}
theorem GW.below (h : GW W1 va vb vl La Lb L N n h5 i GR vg W) (hb : Below W.heap.size W W') : GW W1 va vb vl La Lb L N n h5 i GR vg W' :=
  ⟨h.ow.below hb, h.len, pw_own_below h.og hb, h.rg.below hb, h.cross, ⟨h.hh.1, Nat.le_trans h.hh.2 hb.size⟩, h.low⟩
theorem VW.below (h : VW W1 va vb vl La Lb L N n h5 i GR vg vt t W) (hb : Below W.heap.size W W') : VW W1 va vb vl La Lb L N n h5 i GR vg vt t W' :=
  ⟨h.gw.below hb, pw_own_below h.ot hb, h.cv, h.cg, h.sm⟩
theorem GW.start (h : St1 W1 va vb vl La Lb L N n L.length 0 W) : GW W1 va vb vl La Lb L N n W.heap.size 0 [] (.slice none 0 0) W := by
  obtain ⟨X, h1, h2, h3, _⟩ := h
  refine ⟨⟨h1.b, h1.ra, h1.rb, h1.rl, fun j u hu => ?_⟩, rfl, own_nil _ _ _ _, fun j u hu => by simp at hu, fun j k u u' g _ hu => by simp at hu, ⟨h1.b.size, Nat.le_refl _⟩, own_lt h1.ra, own_lt h1.rb, own_lt h1.rl⟩
  have hj : j < L.length := (List.getElem?_eq_some_iff.1 hu).1
  rw [← h3 j hj]
  exact h1.rows j u hu
theorem VW.start (h : GW W1 va vb vl La Lb L N n h5 i GR vg W) (hA : Apart L) {u : Value} (hu : L[i]? = some u) : VW W1 va vb vl La Lb L N n h5 i GR vg u 0 W := by
  have ho := h.ow.rows i u hu
  simp only [List.length_replicate] at ho
  refine ⟨h, ho, fun k u' g hk hu' hg => hA i k u u' g (Ne.symm hk) hu hu' hg, fun j w g hj hg => h.cross j i w u g (by have := (List.getElem?_eq_some_iff.1 hj).1; have := h.len; omega) hj hu hg, fun g cap m he u' hu' hg => ?_⟩
  rw [hu] at hu'
  cases hu'
  have := len_own ho he
  rw [he, this]
theorem VW.step (h : VW W1 va vb vl La Lb L N n h5 i GR vg vt t W) {v1 : Value} (ho : W'.ownsRow W1.heap.size 9 1 v1 (n i + t + 1) (List.replicate (n i + t) (nm N i) ++ [nm N i])) (hg : W.grownBy W' vt.ownBlock) (ha : AppAlt W W1.heap.size 9 vt (n i + t) v1 W') :
    VW W1 va vb vl La Lb L N n h5 i GR vg v1 (t + 1) W' := by
  obtain ⟨o1, o2, o3, o4⟩ := h.gw.ow.outer h.ot hg
  have rl : Rows9 W' W1.heap.size L (fun j => List.replicate (n j) (nm N j)) := fun j u hu => by
    by_cases e : j = i
    · subst e
      rcases ha with ⟨g, cap, ev, ev1, hk⟩ | ⟨b, hb, hlt, hn⟩
      · by_cases hb : u.ownBlock = some g
        · have hu2 := h.sm g cap _ ev u hu hb
          have hr := h.gw.ow.rows j u hu
          simp only [List.length_replicate] at hr ⊢
          rw [hu2] at hr ⊢
          exact hk (n j) _ (by omega) hr
        · refine kept_ne (h.gw.ow.rows j u hu) hg (fun g' hg' he => hb ?_)
          rw [hg', he, ev]
          rfl
      · exact kept_ne (h.gw.ow.rows j u hu) hn (fun _ _ => by simp)
    · exact kept_ne (h.gw.ow.rows j u hu) hg (fun g' hg' he => h.cv j u g' e hu he.symm hg')
  have hgr : Rows9 W' W1.heap.size GR (fun j => List.replicate (n j + 64) (nm N j)) := fun j u hu => kept_ne (h.gw.rg j u hu) hg (fun g' hg' he => h.cg j u g' hu hg' he.symm)
  have hrep : List.replicate (n i + t) (nm N i) ++ [nm N i] = List.replicate (n i + (t + 1)) (nm N i) := by rw [show n i + (t + 1) = (n i + t) + 1 by omega, List.replicate_succ']
  rw [hrep] at ho
  have ltL : ∀ (k : Nat) u' g, L[k]? = some u' → u'.ownBlock = some g → g < W.heap.size := fun k u' g hu hg => own_lt (h.gw.ow.rows k u' hu) g hg
  have ltG : ∀ (k : Nat) u' g, GR[k]? = some u' → u'.ownBlock = some g → g < W.heap.size := fun k u' g hu hg => own_lt (h.gw.rg k u' hu) g hg
  refine ⟨⟨⟨o1, o2, o3, o4, rl⟩, h.gw.len, kept_ne h.gw.og hg (type_ne h.gw.og h.ot (by decide)), hgr, h.gw.cross, ⟨h.gw.hh.1, Nat.le_trans h.gw.hh.2 hg.size⟩, h.gw.low⟩, ho, fun k u' g hk hu' hg1 hg2 => ?_, fun j u g hj hg1 hg2 => ?_, fun g cap m he u hu hg1 => ?_⟩
  · rcases ha with ⟨g0, cap, ev, ev1, _⟩ | ⟨b, hb, hlt, _⟩
    · refine h.cv k u' g hk hu' ?_ hg2
      rw [ev]; rw [ev1] at hg1; exact hg1
    · have := ltL k u' g hu' hg2
      rw [hb] at hg1
      injection hg1 with hg1
      omega
  · rcases ha with ⟨g0, cap, ev, ev1, _⟩ | ⟨b, hb, hlt, _⟩
    · refine h.cg j u g hj hg1 ?_
      rw [ev]; rw [ev1] at hg2; exact hg2
    · have := ltG j u g hj hg1
      rw [hb] at hg2
      injection hg2 with hg2
      omega
  · rcases ha with ⟨g0, cap0, ev, ev1, _⟩ | ⟨b, hb, hlt, _⟩
    · rw [ev1] at he
      injection he with e1 _ e3
      injection e1 with e1
      injection e1 with e1
      subst e1; subst e3
      exact h.sm g0 cap0 _ ev u hu hg1
    · have := ltL i u g hu hg1
      rw [he] at hb
      have : g = b := by simpa [Value.ownBlock] using hb
      omega
theorem VW.done (h : VW W1 va vb vl La Lb L N n h5 i GR vg vt 64 W) {v1 : Value} (ho : W'.ownsRow h5 30 1 v1 (GR.length + 1) (GR ++ [vt])) (hg : W.grownBy W' vg.ownBlock) :
    GW W1 va vb vl La Lb L N n h5 (i + 1) (GR ++ [vt]) v1 W' := by
  have base : ∀ k, vg.ownBlock = some k → h5 ≤ k := own_base h.gw.og
  have far : ∀ {v : Value}, (∀ g, v.ownBlock = some g → g < h5) → ∀ g, v.ownBlock = some g → some g ≠ vg.ownBlock := fun hl g hg he => by
    have h1 := hl g hg
    have h2 := base g he.symm
    omega
  have hw := h.gw.ow
  have hlen := h.gw.len
  refine ⟨⟨hw.b.grown hg hw.b.size (fun k hk => Nat.le_trans h.gw.hh.1 (base k hk)), kept_ne hw.ra hg (far h.gw.low.1), kept_ne hw.rb hg (far h.gw.low.2.1), kept_ne hw.rl hg (far h.gw.low.2.2), fun j u hu => kept_ne (hw.rows j u hu) hg (type_ne (hw.rows j u hu) h.gw.og (by decide))⟩,
    by rw [List.length_append, List.length_singleton, hlen], by rw [List.length_append, List.length_singleton]; exact ho, fun j u hu => ?_, fun j k u u' g hjk hu hu' hg1 => ?_, ⟨h.gw.hh.1, Nat.le_trans h.gw.hh.2 hg.size⟩, h.gw.low⟩
  · rcases Nat.lt_or_ge j GR.length with hj | hj
    · rw [List.getElem?_append_left hj] at hu
      exact kept_ne (h.gw.rg j u hu) hg (type_ne (h.gw.rg j u hu) h.gw.og (by decide))
    · rw [List.getElem?_append_right hj] at hu
      have hj2 : j - GR.length = 0 := by
        have := (List.getElem?_eq_some_iff.1 hu).1
        simpa using this
      rw [hj2] at hu
      have e : vt = u := by simpa using hu
      subst e
      have e2 : j = i := by omega
      subst e2
      simp only [List.length_replicate]
      exact kept_ne h.ot hg (type_ne h.ot h.gw.og (by decide))
  · rcases Nat.lt_or_ge j GR.length with hj | hj
    · rw [List.getElem?_append_left hj] at hu
      exact h.gw.cross j k u u' g hjk hu hu' hg1
    · rw [List.getElem?_append_right hj] at hu
      have hj2 : j - GR.length = 0 := by
        have := (List.getElem?_eq_some_iff.1 hu).1
        simpa using this
      rw [hj2] at hu
      have e : vt = u := by simpa using hu
      subst e
      exact h.cv k u' g (by omega) hu' hg1
/-- What is read of list i and of the grown one. -/
theorem own_cell {b e m : Nat} {u : Value} {y : Value} (h : W.ownsRow b e 1 u m (List.replicate m y)) (hm : 0 < m) : ∃ g c, u = .slice (some ⟨g, 0, none⟩) m c ∧ ∀ k, k < m → W.cell? ⟨g, k, none⟩ = some y := by
  obtain ⟨g, c, e1, _, _⟩ := h.form hm
  refine ⟨g, c, e1, fun k hk => ?_⟩
  have c1 := h.cells (g := g) (by rw [e1]; rfl) k y (by rw [List.getElem?_replicate, if_pos hk])
  rwa [add_plain] at c1
theorem own_cell' {b e : Nat} {v : Value} {L : List Value} {i : Nat} {u : Value} (h : W.ownsRow b e 1 v L.length L) (hu : L[i]? = some u) : ∃ g c, v = .slice (some ⟨g, 0, none⟩) L.length c ∧ W.cell? ⟨g, i, none⟩ = some u := by
  have hi : i < L.length := (List.getElem?_eq_some_iff.1 hu).1
  obtain ⟨g, c, e1, _, _⟩ := h.form (by omega)
  refine ⟨g, c, e1, ?_⟩
  have c1 := h.cells (g := g) (by rw [e1]; rfl) i u hu
  rwa [add_plain] at c1
end
/-- Each of these lists is [X]. -/
def Box (W : World) (b0 : Nat) (X : ByteArray) (Xs : List Value) : Prop := ∀ u ∈ Xs, W.ownsRow b0 9 1 u 1 [.string X]
/-- Both answers, with what has been appended to them. -/
structure PW (W1 : World) (X Y : ByteArray) (La Lb : List Value) (va vb : Value) (Xs Ys : List Value) (W : World) : Prop where
  b : Below W1.heap.size W1 W
  ra : W.ownsRow W1.heap.size 30 1 va (La ++ Xs).length (La ++ Xs)
  rb : W.ownsRow W1.heap.size 30 1 vb (Lb ++ Ys).length (Lb ++ Ys)
  ab : ∀ g, va.ownBlock = some g → vb.ownBlock ≠ some g
  xs : Box W W1.heap.size X Xs
  ys : Box W W1.heap.size Y Ys

section
variable {W1 W W' : World} {X Y : ByteArray} {La Lb Xs Ys : List Value} {va vb : Value}
theorem PW.symm (h : PW W1 X Y La Lb va vb Xs Ys W) : PW W1 Y X Lb La vb va Ys Xs W :=
  ⟨h.b, h.rb, h.ra, fun g h1 h2 => h.ab g h2 h1, h.ys, h.xs⟩
theorem PW.below (h : PW W1 X Y La Lb va vb Xs Ys W) (hb : Below W.heap.size W W') : PW W1 X Y La Lb va vb Xs Ys W' :=
  ⟨below_step h.b hb, pw_own_below h.ra hb, pw_own_below h.rb hb, h.ab, fun u hu => pw_own_below (h.xs u hu) hb, fun u hu => pw_own_below (h.ys u hu) hb⟩
theorem PW.start {N : ByteArray} {n : Nat → Nat} {h5 i : Nat} {L GR : List Value} {vl vg : Value} (h : GW W1 va vb vl La Lb L N n h5 i GR vg W) (hab : ∀ g, va.ownBlock = some g → vb.ownBlock ≠ some g) (X Y : ByteArray) : PW W1 X Y La Lb va vb [] [] W :=
  ⟨h.ow.b, by rw [List.append_nil]; exact h.ow.ra, by rw [List.append_nil]; exact h.ow.rb, hab, fun u hu => by simp at hu, fun u hu => by simp at hu⟩
theorem PW.step (h : PW W1 X Y La Lb va vb Xs Ys W) {v1 : Value}
    (ho : W'.ownsRow W1.heap.size 30 1 v1 ((La ++ Xs).length + 1) ((La ++ Xs) ++ [.slice (some ⟨W.heap.size, 0, none⟩) 1 1]))
    (hg : (W.alloc (.cells #[.string X] 9)).grownBy W' va.ownBlock) (ha : AppAlt (W.alloc (.cells #[.string X] 9)) W1.heap.size 30 va (La ++ Xs).length v1 W') :
    PW W1 X Y La Lb v1 vb (Xs ++ [.slice (some ⟨W.heap.size, 0, none⟩) 1 1]) Ys W' := by
  have h2 : PW W1 X Y La Lb va vb Xs Ys (W.alloc (.cells #[.string X] 9)) := h.below (below_alloc (Below.refl _ _) _)
  have hnew : (W.alloc (.cells #[.string X] 9)).ownsRow W1.heap.size 9 1 (.slice (some ⟨W.heap.size, 0, none⟩) 1 1) 1 [.string X] :=
    World.ownsRow_lit (base := W1.heap.size) (e := 9) (size := 1) W #[.string X] 1 h.b.size (by simp [maxLen]) rfl
  have e : ∀ z, ((La ++ Xs) ++ [z]).length = (La ++ Xs).length + 1 := fun z => by rw [List.length_append, List.length_singleton]
  refine ⟨h2.b.grown hg h2.b.size (own_base h2.ra), ?_, kept_ne h2.rb hg (fun g h3 h4 => h2.ab g h4.symm h3), fun g h3 h4 => ?_, fun u hu => ?_, fun u hu => kept_ne (h2.ys u hu) hg (type_ne (h2.ys u hu) h2.ra (by decide))⟩
  · rw [← List.append_assoc, e]
    exact ho
  · rcases ha with ⟨g0, cap, ev, ev1, _⟩ | ⟨b, hb, hlt, _⟩
    · refine h2.ab g ?_ h4
      rw [ev]; rw [ev1] at h3; exact h3
    · have := own_lt h2.rb g h4
      rw [hb] at h3
      injection h3 with h3
      omega
  · rcases List.mem_append.1 hu with hu | hu
    · exact kept_ne (h2.xs u hu) hg (type_ne (h2.xs u hu) h2.ra (by decide))
    · have e1 : u = .slice (some ⟨W.heap.size, 0, none⟩) 1 1 := by simpa using hu
      subst e1
      exact kept_ne hnew hg (type_ne hnew h2.ra (by decide))
theorem PW.read (h : PW W1 X Y La Lb va vb Xs Ys W) {k : Nat} (h1 : La.length ≤ k) (h2 : k < (La ++ Xs).length) :
    ∃ g c gu cu, va = .slice (some ⟨g, 0, none⟩) (La ++ Xs).length c ∧ W.cell? ⟨g, k, none⟩ = some (.slice (some ⟨gu, 0, none⟩) 1 cu) ∧ W.cell? ⟨gu, 0, none⟩ = some (.string X) := by
  have hx : (La ++ Xs)[k]? = some ((La ++ Xs)[k]'h2) := List.getElem?_eq_getElem h2
  obtain ⟨g, c, e1, c1⟩ := own_cell' h.ra hx
  have hm : (La ++ Xs)[k]'h2 ∈ Xs := by
    rw [List.getElem_append_right h1]
    exact List.getElem_mem _
  have ho : W.ownsRow W1.heap.size 9 1 ((La ++ Xs)[k]'h2) 1 (List.replicate 1 (.string X)) := h.xs _ hm
  obtain ⟨gu, cu, e2, c2⟩ := own_cell ho (by omega)
  rw [e2] at c1
  exact ⟨g, c, gu, cu, e1, c1, c2 0 (by omega)⟩
end
end Go.Proofs.Ytfpbgchlemcpbaa.LexLaws
