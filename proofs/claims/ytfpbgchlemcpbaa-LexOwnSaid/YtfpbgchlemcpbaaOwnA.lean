/- Rows of one's own: their heads, what is kept of them where one is written or grown. No condition. -/
import Derived.Test.YtfpbgchlemcpbaaListsWalk
namespace Go.Proofs.Ytfpbgchlemcpbaa.LexLaws
open Go.RowKit Go.Proofs.Ytfpbgchlemcpbaa.PL Go.Proofs.Ytfpbgchlemcpbaa.Mach Go.Proofs.YtfpbgchlemcpbaaW.PrintWords Go.Proofs.YtfpbgchlemcpbaaW.PrintLast Go.Proofs.YtfpbgchlemcpbaaW.PrintMore
set_option linter.unusedVariables false

/-- No two of the heads lead to one block. -/
def Apart (L : List Value) : Prop := ∀ (j k : Nat) u u' g, j ≠ k → L[j]? = some u → L[k]? = some u' → u.ownBlock = some g → u'.ownBlock ≠ some g
/-- The heads' rows are their maker's own; X: their cells. -/
def Rows9 (W : World) (b0 : Nat) (L : List Value) (X : Nat → List Value) : Prop := ∀ (j : Nat) u, L[j]? = some u → W.ownsRow b0 9 1 u (X j).length (X j)

theorem encs_of_reps {p : List ByteArray} {inner : List Value} {w : World} {base : Nat} {ok : Nat → Prop} (h : Reps (Kd.string.M w base ok) 1 p inner) : inner = p.map Value.string := by
  have hl : inner.length = p.length := by have := h.1; omega
  apply List.ext_getElem? fun j => ?_
  rcases Nat.lt_or_ge j p.length with hj | hj
  · have h1 := h.2 j (p[j]) (List.getElem?_eq_getElem hj)
    have h2 : (inner.drop (j * 1)).take 1 = [Value.string p[j]] := h1
    rw [Nat.mul_one, List.take_one, List.head?_drop, List.getElem?_eq_getElem (by omega)] at h2
    rw [List.getElem?_map, List.getElem?_eq_getElem hj, List.getElem?_eq_getElem (by omega)]
    simpa using h2
  · rw [List.getElem?_eq_none (by omega), List.getElem?_map, List.getElem?_eq_none hj]
    rfl

theorem S_heads {w : World} {base : Nat} {ok : Nat → Prop} {v : Value} {r : List (List ByteArray)} (h : Kd.S (Kd.slice 9 Kd.string) 30 w base ok v r) :
    ∃ L : List Value, L.length = r.length ∧ w.ownsRow base 30 1 v L.length L ∧ (∀ (j : Nat) u, L[j]? = some u → ∃ p, r[j]? = some p ∧ w.ownsRow base 9 1 u p.length (p.map Value.string)) ∧ Apart L := by
  obtain ⟨f, h0, inner, ho, hr⟩ := h
  have hsz : (Kd.tag f (Kd.slice 9 Kd.string)).sz = 1 := rfl
  have hl : inner.length = r.length := by have := hr.1; rw [List.length_zipIdx, hsz] at this; omega
  rw [List.length_zipIdx, hsz, ← hl] at ho
  have each : ∀ (j : Nat) u, inner[j]? = some u → ∃ p, r[j]? = some p ∧ (w.ownsRow base 9 1 u p.length (p.map Value.string)) ∧ ∀ k, u.ownBlock = some k → f k = j := by
    intro j u hu
    have hj : j < inner.length := (List.getElem?_eq_some_iff.1 hu).1
    have hp : r[j]? = some (r[j]'(by omega)) := List.getElem?_eq_getElem (by omega)
    have h1 := hr.2 j (r[j]'(by omega), j) (Kd.zip_at hp)
    obtain ⟨u', hc, hR⟩ := h1
    rw [hsz, Nat.mul_one, List.take_one, List.head?_drop, hu] at hc
    have e : u = u' := by simpa using hc
    subst e
    obtain ⟨hk, inner', ho', hr'⟩ := hR
    rw [encs_of_reps hr'] at ho'
    exact ⟨_, hp, ho', fun k hk' => (hk k hk').2⟩
  refine ⟨inner, hl, ho, fun j u hu => ?_, fun j k u u' g hjk hu hu' hg hg' => ?_⟩
  · obtain ⟨p, hp, h1, _⟩ := each j u hu
    exact ⟨p, hp, h1⟩
  · obtain ⟨_, _, _, h1⟩ := each j u hu
    obtain ⟨_, _, _, h2⟩ := each k u' hu'
    exact hjk ((h1 g hg).symm.trans (h2 g hg'))

theorem Rows9.kept {W W' : World} {b0 : Nat} {L : List Value} {X : Nat → List Value} {row : Option Nat} (h : Rows9 W b0 L X) (hg : W.grownBy W' row) (hne : ∀ (j : Nat) u g, L[j]? = some u → u.ownBlock = some g → some g ≠ row) : Rows9 W' b0 L X := fun j u hu => by
  refine (h j u hu).kept hg ?_
  cases hb : u.ownBlock with
  | none => exact .inl rfl
  | some g => exact .inr (hne j u g hu hb)
theorem Rows9.below {W W' : World} {b0 : Nat} {L : List Value} {X : Nat → List Value} (h : Rows9 W b0 L X) (hb : Below W.heap.size W W') : Rows9 W' b0 L X := fun j u hu => pw_own_below (h j u hu) hb

/-- Where a row has been appended to: it has grown in place, and what is seen of its block by a shorter slice stands; or it has moved, and all that was there stands. -/
def AppAlt (W : World) (base e : Nat) (v : Value) (n : Nat) (v1 : Value) (w1 : World) : Prop :=
  (∃ g cap, v = .slice (some ⟨g, 0, none⟩) n cap ∧ v1 = .slice (some ⟨g, 0, none⟩) (n + 1) cap ∧ ∀ u us, u ≤ n → W.ownsRow base e 1 (.slice (some ⟨g, 0, none⟩) u cap) u us → w1.ownsRow base e 1 (.slice (some ⟨g, 0, none⟩) u cap) u us) ∨
  (∃ b, v1.ownBlock = some b ∧ W.heap.size ≤ b ∧ W.grownBy w1 none)

section
variable {P : Program} {ops : Array Oper} {rest : List Oper} {o : Oper} {a : Act} {Q : Exit → Act → World → Prop}
theorem run_append_alt (W : World) (base t ty e : Nat) (i : TypeInfo) (z : Value) (bytes : Nat) (ht : P.underlying t = some (.slice e)) (hi : P.info? e = some i) (hz : i.zero = some z)
    (hsize : i.size = 1) (hby : i.bytes = bytes) (hzs : z.cells.size = 1) (v : Value) (n : Nat) (xs : List Value) (hown : W.ownsRow base e 1 v n xs) (y : Value) (hy : y.oneCell' = true)
    (h63 : n + 1 ≤ maxLen) (hbytes : (n + 1) * bytes ≤ 140737488355328) (hbase : base ≤ W.heap.size) :
    ∃ v1 w1, (Builtin.append_ #[t, t] ty #[v, .slice (some ⟨W.heap.size, 0, none⟩) 1 1]).run P (W.alloc (.cells #[y] e)) = .ok v1 w1 ∧ w1.ownsRow base e 1 v1 (n + 1) (xs ++ [y]) ∧ (W.alloc (.cells #[y] e)).grownBy w1 v.ownBlock ∧ AppAlt W base e v n v1 w1 := by
  have hnews := World.news_of_block (cs := #[y]) (t := e) (fr := (0, 0)) (heap_alloc_new W (.cells #[y] e))
  have hones : ∀ u ∈ [y], u.oneCell' = true := by simpa using hy
  have hsm : n + 1 ≤ 9223372036854775807 := by simp only [maxLen] at h63; omega
  obtain ⟨v1, w1, hr, ho1, hg1, _, hat⟩ := run_append_own_at (P := P) (W.alloc (.cells #[y] e)) base t ty e i z 1 bytes ht hi hz hsize hby hzs (by omega) v n xs (hown.alloc _) ⟨W.heap.size, 0, none⟩ 1 1 [y] rfl hnews hones h63 hbytes (by simp; omega)
  refine ⟨v1, w1, hr, ho1, hg1, ?_⟩
  rcases (hown.alloc (.cells #[y] e)).2 with ⟨rfl, rfl⟩ | ⟨g, cap, cur, rfl, hbg, hg, hnc, hcm, hcs, htake⟩
  · right
    obtain ⟨g, cap, rfl, _, _⟩ := ho1.form (by omega)
    rcases hat with hat | hat
    · simp [Value.ownBlock] at hat
    · refine ⟨g, rfl, ?_, World.grownBy.trans (World.grownBy_alloc W _ _) hg1⟩
      have : g = (W.alloc (.cells #[y] e)).heap.size := by simpa [Value.ownBlock] using hat
      have h2 : (W.alloc (.cells #[y] e)).heap.size = W.heap.size + 1 := by simp
      omega
  · by_cases hroom : n + 1 ≤ cap
    · left
      have hfit : n * i.size + [y].length ≤ cur.size := by rw [hsize, hcs]; simp; omega
      have hr2 := run_append_room (P := P) (W.alloc (.cells #[y] e)) t ty e i ht hi g n cap cur hg ⟨W.heap.size, 0, none⟩ 1 1 [y] (by rw [hsize]; rfl) hnews hones hroom hfit
      rw [hr] at hr2
      injection hr2 with e1 e2
      subst e1; subst e2
      refine ⟨g, cap, rfl, rfl, fun u us hu hus => ?_⟩
      rcases (hus.alloc (.cells #[y] e)).2 with ⟨hv, _⟩ | ⟨g', cap', cur', hv, hb', hg', hn', hm', hs', ht'⟩
      · cases hv
      · injection hv with e1 e2 e3
        injection e1 with e1
        injection e1 with e1
        subst e1; subst e3
        rw [hg] at hg'
        injection hg' with hg'
        injection hg' with e4
        subst e4
        refine ⟨hus.1, .inr ⟨g, cap, _, rfl, hb', setRow_heap _ g cur _ e _ hg, hn', hm', ?_, ?_⟩⟩
        · simp only [List.size_toArray, List.length_append, List.length_take, List.length_drop, Array.length_toList, List.length_singleton]
          rw [hsize] at *
          omega
        · rw [← ht', hsize]
          simp only [Nat.mul_one]
          rw [List.append_assoc, List.take_append_of_le_length (by rw [List.length_take, Array.length_toList]; omega), List.take_take]
          congr 1
          omega
    · right
      have holds : ∀ j u, xs[j]? = some u → (W.alloc (.cells #[y] e)).cell? ((⟨g, 0, none⟩ : Addr).add j) = some u := (hown.alloc (.cells #[y] e)).cells (g := g) rfl
      have hr2 := run_append_grow (P := P) (W.alloc (.cells #[y] e)) t ty e i z ht hi hz ⟨g, 0, none⟩ n cap xs (by rw [hsize]; exact hown.1) holds ⟨W.heap.size, 0, none⟩ 1 1 [y] (by rw [hsize]; rfl) hnews (by omega) (by omega) (growslice_fits (by omega) (by rw [hby]; exact hbytes))
      rw [hr] at hr2
      injection hr2 with e1 e2
      refine ⟨(W.alloc (.cells #[y] e)).heap.size, by rw [e1]; rfl, by simp, ?_⟩
      rw [e2]
      refine World.grownBy.trans (World.grownBy_alloc W (.cells #[y] e) none) (World.grownBy.trans (b := (W.alloc (.cells #[y] e)).drew) ?_ (World.grownBy_alloc _ _ none))
      exact ⟨rfl, rfl, rfl, Nat.le_refl _, fun _ _ _ => rfl⟩

/-- v = append(v, y), with what stands behind it of others that share v's block. -/
theorem own_append {W : World} (base : Nat) (hgd : o.guard = none) (s x : Operand) (t e : TypeId) (z : Value) (bytes : Nat)
    (ho : o.op = .call { callee := .builtin .append, args := #[s, x], argTypes := #[t, t] })
    (ht : P.underlying t = some (.slice e)) (hinfo : (P.info? e).map (fun i => (i.zero, i.size, i.bytes)) = some (some z, 1, bytes)) (hz : z.cells.size = 1) (hb0 : 0 < bytes)
    (v : Value) (n : Nat) (xs : List Value) (y : Value) (hs : a.eval s = v) (hx : a.eval x = .slice (some ⟨W.heap.size, 0, none⟩) 1 1) (h1 : y.oneCell' = true)
    (HO : W.ownsRow base e 1 v n xs) (hbase : base ≤ W.heap.size) (hl : (n + 1) * bytes ≤ 140737488355328)
    (h : ∀ v1 w1, w1.ownsRow base e 1 v1 (n + 1) (xs ++ [y]) → W.grownBy w1 v.ownBlock → AppAlt W base e v n v1 w1 → wpList P ops Q rest (a.put o.dst v1) w1) :
    wpList P ops Q (o :: rest) a (W.alloc (.cells #[y] e)) := by
  obtain ⟨i0, hi, hzz⟩ := Option.map_eq_some_iff.1 hinfo
  simp only [Prod.mk.injEq] at hzz
  obtain ⟨hz0, hz1, hz2⟩ := hzz
  have hlen : n + 1 ≤ 140737488355328 := Nat.le_trans (Nat.le_mul_of_pos_right _ hb0) hl
  obtain ⟨v1, w1, hr, hown, hg, halt⟩ := run_append_alt (P := P) W base t o.type e i0 z bytes ht hi hz0 hz1 hz2 hz v n xs HO y h1 (by simp only [maxLen]; omega) hl hbase
  refine wpList_plain hgd fun _ hK => ?_
  unfold Oper.wp execOp
  simp only [ho, resolve, invoke, builtin, Sem.run_bind, Sem.run_pure, Result.andThen_ok, List.map_toArray, List.map_cons, List.map_nil, hs, hx, hr]
  exact hK _ _ (h v1 w1 hown (World.grownBy.trans (World.grownBy_alloc W _ _) hg) halt)
end

/-- A row's cells as they stand, for the kit's law of append(v, xs...). -/
theorem raw_of_own {W : World} {b e : Nat} {v : Value} {L : List Value} (h : W.ownsRow b e 1 v L.length L) (h1 : ∀ u ∈ L, u.oneCell' = true) : (Kd.raw 1).R e W b (fun _ => True) v (L.map fun u => [u]) := by
  refine ⟨fun _ _ => trivial, L, by rw [List.length_map]; exact h, by rw [List.length_map]; show L.length = L.length * 1; omega, fun j p hp => ?_⟩
  rw [List.getElem?_map] at hp
  obtain ⟨u, hu, rfl⟩ := Option.map_eq_some_iff.1 hp
  refine ⟨?_, ?_, ?_⟩
  · show (L.drop (j * 1)).take 1 = [u]
    rw [Nat.mul_one, List.take_one, List.head?_drop, hu]
    rfl
  · show ((L.drop (j * 1)).take 1).length = 1
    rw [Nat.mul_one, List.take_one, List.head?_drop, hu]
    rfl
  · show ∀ x ∈ (L.drop (j * 1)).take 1, x.oneCell' = true
    rw [Nat.mul_one, List.take_one, List.head?_drop, hu]
    intro x hx
    have : x = u := by simpa using hx
    rw [this]
    exact h1 u (List.mem_of_getElem? hu)
theorem own_of_raw {W : World} {b e : Nat} {ok : Nat → Prop} {v : Value} {L : List Value} (h : (Kd.raw 1).R e W b ok v (L.map fun u => [u])) : W.ownsRow b e 1 v L.length L := by
  obtain ⟨_, inner, ho, hr⟩ := h
  have hl : inner.length = L.length := by have := hr.1; rw [List.length_map, show (Kd.raw 1).sz = 1 from rfl] at this; omega
  rw [List.length_map] at ho
  have e : inner = L := by
    apply List.ext_getElem? fun j => ?_
    rcases Nat.lt_or_ge j L.length with hj | hj
    · have h1 := (hr.2 j [L[j]] (by rw [List.getElem?_map, List.getElem?_eq_getElem hj]; rfl)).1
      have h2 : (inner.drop (j * 1)).take 1 = [L[j]] := h1
      rw [Nat.mul_one, List.take_one, List.head?_drop, List.getElem?_eq_getElem (by omega)] at h2
      rw [List.getElem?_eq_getElem hj, List.getElem?_eq_getElem (by omega)]
      simpa using h2
    · rw [List.getElem?_eq_none (by omega), List.getElem?_eq_none hj]
  rw [e] at ho
  exact ho
theorem heads_one {w : World} {base : Nat} {L : List Value} {r : List (List ByteArray)} (h : ∀ (j : Nat) u, L[j]? = some u → ∃ p, r[j]? = some p ∧ w.ownsRow base 9 1 u p.length (p.map Value.string)) : ∀ u ∈ L, u.oneCell' = true := by
  intro u hu
  obtain ⟨j, hj⟩ := List.getElem?_of_mem hu
  obtain ⟨p, _, ho⟩ := h j u hj
  obtain ⟨A, c, rfl⟩ := own_slice ho
  rfl
/-- A row's cells, as a source to be appended. -/
theorem reads_raw {W : World} {b e : Nat} {v : Value} {L : List Value} (h : W.ownsRow b e 1 v L.length L) (h1 : ∀ u ∈ L, u.oneCell' = true) :
    ∃ A c, v = .slice A L.length c ∧ ReadsRow ((Kd.raw 1).K W) 1 W A L.length (L.map fun u => [u]) := by
  obtain ⟨A, c, he, _, hC⟩ := Kd.R_reads (raw_of_own h h1)
  rw [List.length_map] at he hC
  exact ⟨A, c, he, hC⟩
end Go.Proofs.Ytfpbgchlemcpbaa.LexLaws
