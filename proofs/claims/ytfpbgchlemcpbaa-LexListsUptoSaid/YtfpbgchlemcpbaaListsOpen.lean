/- An argument that is a list of lists of words, opened: its rows as the printed walks hold them, and its bulk. -/
import Derived.Test.YtfpbgchlemcpbaaRows
import Derived.Test.YtfpbgchlemcpbaaListsLaw
import Derived.SliceStrings
namespace Go.Proofs.Ytfpbgchlemcpbaa.LexLaws
open Go.ChangeShapes Go.WideShapes Go.Proofs.YtfpbgchlemcpbaaW.PrintWords

section
variable {H : Type} {enc : TypeId × Value → H} {P : Program} {w : World} {base : Nat} {spare : Nat → Bool} {held : Bool}

theorem rowSz_strs (r : List ByteArray) : rowSz r ≤ Rows.uptoBulkAll (strs (H := H) r) := by
  induction r with
  | nil => simp [rowSz, strs, Rows.uptoBulkAll]
  | cons a r ih =>
    have e : rowSz (a :: r) = (a.size + 1) + rowSz r := by simp [rowSz]
    have e2 : Rows.uptoBulkAll (strs (H := H) (a :: r)) = (a.size + 1) + Rows.uptoBulkAll (strs (H := H) r) := by
      simp only [strs, List.map_cons, Rows.uptoBulkAll, Rows.uptoBulk, Array.length_toList]
      rfl
    omega

theorem listSz_all : ∀ (l : List (List ByteArray)) (es : List (DataW H)), l.length = es.length →
    (∀ (i : Nat) r d, l[i]? = some r → es[i]? = some d → rowSz r + 1 ≤ Rows.uptoBulk d) → listSz l ≤ Rows.uptoBulkAll es := by
  intro l
  induction l with
  | nil => intro es _ _; simp [listSz]
  | cons r l ih =>
    intro es hl h
    cases es with
    | nil => simp at hl
    | cons d es =>
      have e : listSz (r :: l) = (rowSz r + 1) + listSz l := by simp [listSz]
      have h0 := h 0 r d rfl rfl
      have h1 := ih es (by simpa using hl) (fun i r' d' hr hd => h (i + 1) r' d' (by simpa using hr) (by simpa using hd))
      simp only [Rows.uptoBulkAll]
      omega

theorem open_row {e f : TypeId} {fuel : Nat} {cs : List Value} {x : DataW H × List MemPlace} (he : P.underlying e = some (.slice f)) (hf : P.underlying f = some .string) (hcf : P.cellsOf f = 1)
    (h : DataW.trod enc P w base spare held fuel e cs = some x) :
    ∃ (A : Option Addr) (c : Nat) (r : List ByteArray), cs = [.slice A r.length c] ∧ r.length ≤ c ∧ Kd.C Kd.string w A r.length r ∧ rowSz r + 1 ≤ Rows.uptoBulk x.1 := by
  rcases open_strings he hf hcf h with ⟨rfl, rfl⟩ | ⟨a, len, cap, ss, rfl, _, hl, hm, hz, rfl, hcell, _⟩
  · exact ⟨none, 0, [], rfl, Nat.le_refl _, ⟨rfl, by simp, fun h => absurd h (by simp)⟩, by simp [rowSz, Rows.uptoBulk]⟩
  · have hlen : len ≤ ss.length := by rw [hz]; split <;> omega
    have hmax : maxLen ≤ 9223372036854775807 := by decide
    have e1 : (ss.take len).length = len := by rw [List.length_take]; omega
    refine ⟨some a, cap, ss.take len, by rw [e1], by omega, ⟨rfl, by omega, fun _ => ⟨a, rfl, fun j p hj => ⟨[.string p], rfl, rfl, fun i u hu => ?_⟩⟩⟩, ?_⟩
    · have hi : i = 0 := by
        have := (List.getElem?_eq_some_iff.1 hu).1
        simpa using this
      subst hi
      have hj' : j < len := by
        have := (List.getElem?_eq_some_iff.1 hj).1
        omega
      have hc := hcell j (by omega)
      have e2 : ss.getD j ByteArray.empty = p := by
        rw [List.getElem?_take, if_pos hj'] at hj
        rw [List.getD, hj]
        rfl
      rw [e2] at hc
      have e3 : u = .string p := by simpa using hu.symm
      subst e3
      have e4 : j * Kd.string.sz + 0 = j := by show j * 1 + 0 = j; omega
      rw [e4]
      exact hc
    · have := rowSz_strs (H := H) (ss.take len)
      simp only [Rows.uptoBulk]
      omega

/-- A list of lists of words. -/
theorem open_lists {t e f : TypeId} {fuel : Nat} {cs : List Value} {x : DataW H × List MemPlace} (ht : P.underlying t = some (.slice e)) (he : P.underlying e = some (.slice f)) (hf : P.underlying f = some .string)
    (hce : P.cellsOf e = 1) (hcf : P.cellsOf f = 1) (h : DataW.trod enc P w base spare held fuel t cs = some x) :
    ∃ (A : Option Addr) (c : Nat) (l : List (List ByteArray)), cs = [.slice A l.length c] ∧ l.length ≤ c ∧ Kd.C (Kd.slice f Kd.string) w A l.length l ∧ listSz l ≤ Rows.uptoBulk x.1 := by
  rcases DataW.trod_slice ht h with ⟨rfl, rfl⟩ | ⟨a, len, cap, elems, rest, n, _, rfl, rfl, _, hl, hm, hlen, hel, _, _⟩
  · exact ⟨none, 0, [], rfl, Nat.le_refl _, ⟨rfl, by simp, fun h => absurd h (by simp)⟩, by simp [listSz, Rows.uptoBulk]⟩
  · have each : ∀ i, ∃ r : List ByteArray, ∀ y, elems[i]? = some y → ∃ A c, w.cell? (a.add i) = some (.slice A r.length c) ∧ r.length ≤ c ∧ Kd.C Kd.string w A r.length r ∧ rowSz r + 1 ≤ Rows.uptoBulk y.1 := by
      intro i
      cases hy : elems[i]? with
      | none => exact ⟨[], fun y h => by cases h⟩
      | some y =>
        have hi : i < len := by
          have := (List.getElem?_eq_some_iff.1 hy).1
          omega
        have hb := hel i hi
        rw [hce, Nat.mul_one, hy, Option.bind_eq_some_iff] at hb
        obtain ⟨cs', hcs, hy'⟩ := hb
        obtain ⟨A, c, r, rfl, hc, hC, hz⟩ := open_row he hf hcf hy'
        exact ⟨r, fun y2 h2 => by cases h2; exact ⟨A, c, cell_of_cells?_one hcs, hc, hC, hz⟩⟩
    obtain ⟨g, hg⟩ := Classical.axiomOfChoice each
    have e1 : ((List.range len).map g).length = len := by simp
    have hmax : maxLen ≤ 9223372036854775807 := by decide
    have at_ : ∀ j p, ((List.range len).map g)[j]? = some p → j < len ∧ p = g j := by
      intro j p hj
      have hj' : j < len := by
        have := (List.getElem?_eq_some_iff.1 hj).1
        omega
      refine ⟨hj', ?_⟩
      rw [List.getElem?_map, List.getElem?_range hj'] at hj
      simpa using hj.symm
    refine ⟨some a, cap, (List.range len).map g, by rw [e1], by omega, ⟨rfl, by omega, fun _ => ⟨a, rfl, fun j p hj => ?_⟩⟩, ?_⟩
    · obtain ⟨hj', rfl⟩ := at_ j p hj
      have hy : elems[j]? = some (elems[j]'(by omega)) := List.getElem?_eq_getElem (by omega)
      obtain ⟨A, c, hcell, hc, hC, _⟩ := hg j _ hy
      refine ⟨[.slice A (g j).length c], rfl, ⟨A, c, rfl, hc, hC⟩, fun i u hu => ?_⟩
      have hi : i = 0 := by
        have := (List.getElem?_eq_some_iff.1 hu).1
        simpa using this
      subst hi
      have e3 : u = .slice A (g j).length c := by simpa using hu.symm
      subst e3
      have e4 : j * (Kd.slice f Kd.string).sz + 0 = j := by show j * 1 + 0 = j; omega
      rw [e4]
      exact hcell
    · have := listSz_all ((List.range len).map g) (elems.map (·.1)) (by simp [hlen]) (fun i r d hr hd => by
        obtain ⟨_, rfl⟩ := at_ i r hr
        rw [List.getElem?_map] at hd
        obtain ⟨y, hy, rfl⟩ := Option.map_eq_some_iff.1 hd
        obtain ⟨_, _, _, _, _, hz⟩ := hg i y hy
        exact hz)
      simp only [Rows.uptoBulk]
      omega
end
end Go.Proofs.Ytfpbgchlemcpbaa.LexLaws
