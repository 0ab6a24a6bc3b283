/- A quoted word is read as that word, whatever stands behind it. No condition. -/
import Derived.Test.YtfpbgchlemcpbaaSame
import Derived.Test.YtfpbgchlemcpbaaReads
import Derived.Lib.Bytes
namespace Go.Proofs.Ytfpbgchlemcpbaa.LexLaws
open Go.RowKit Go.Proofs.Ytfpbgchlemcpbaa.Mach Go.Proofs.Ytfpbgchlemcpbaa.QuoteLaw Go.Proofs.YtfpbgchlemcpbaaW.PrintWords Go.Proofs.YtfpbgchlemcpbaaW.PrintLast

theorem bytes_range (s : ByteArray) : ∀ c ∈ bytesOf s, 0 ≤ c ∧ c ≤ 255 := by
  intro c hc
  obtain ⟨b, _, rfl⟩ := List.mem_map.1 hc
  have := b.toNat_lt
  omega
theorem plain_not {c : Int} (h : plainB c = true) : isBlank c = false ∧ c ≠ 59 ∧ c ≠ 39 ∧ c ≠ 34 ∧ c ≠ 92 ∧ c ≠ 35 := by
  have key : ∀ x : Int, plainB x = false → c ≠ x := fun x hx e => by rw [e, hx] at h; cases h
  refine ⟨?_, key 59 rfl, key 39 rfl, key 34 rfl, key 92 rfl, key 35 rfl⟩
  have h1 := key 32 rfl
  have h2 := key 9 rfl
  simp [isBlank, h1, h2]
theorem within_plain : ∀ (L rest w : List Int) (ws : List ByteArray) (cs : List (List ByteArray)) (tot : Int), (∀ c ∈ L, plainB c = true) → Mach.within (L ++ rest) w ws cs tot = Mach.within rest (w ++ L) ws cs tot := by
  intro L
  induction L with
  | nil => intro rest w ws cs tot _; simp
  | cons c L ih =>
    intro rest w ws cs tot h
    obtain ⟨h1, h2, h3, h4, h5, _⟩ := plain_not (h c List.mem_cons_self)
    rw [List.cons_append, within_other h1 h2 h3 h4 h5, ih rest (w ++ [c]) ws cs tot (fun x hx => h x (List.mem_cons_of_mem _ hx)), List.append_assoc]
    rfl
theorem dbl_esc : ∀ (L rest acc : List Int), (∀ c ∈ L, 0 ≤ c ∧ c ≤ 255) → dbl (L.flatMap esc ++ (34 :: rest)) acc = some (acc ++ L, rest) := by
  intro L
  induction L with
  | nil => intro rest acc _; simp only [List.flatMap_nil, List.nil_append]; rw [dbl, if_pos rfl]; simp
  | cons c L ih =>
    intro rest acc h
    have hc := h c List.mem_cons_self
    have hL : ∀ x ∈ L, 0 ≤ x ∧ x ≤ 255 := fun x hx => h x (List.mem_cons_of_mem _ hx)
    have hfin : (acc ++ [c]) ++ L = acc ++ c :: L := by simp
    rw [List.flatMap_cons, List.append_assoc]
    unfold esc
    split
    · rename_i h1
      rw [List.cons_append, List.cons_append, List.nil_append, dbl, if_neg (by decide), if_pos rfl]
      have he : ∀ T : List Int, escL (c :: T) = some (c, 1) := by
        intro T
        rcases h1 with rfl | rfl
        · match T with
          | [] => rfl
          | [_] => rfl
          | _ :: _ :: _ => simp [escL, oct, esc1]
        · match T with
          | [] => rfl
          | [_] => rfl
          | _ :: _ :: _ => simp [escL, oct, esc1]
      rw [he]
      simp only [List.drop_succ_cons, List.drop_zero]
      have := ih rest (acc ++ [c]) hL
      rw [hfin] at this
      exact this
    · rename_i h1
      split
      · rename_i h32
        simp only [List.cons_append, List.nil_append]
        rw [dbl, if_neg (by decide), if_pos rfl]
        have he : ∀ T : List Int, escL (48 :: (48 + c / 8) :: (48 + c % 8) :: T) = some (c, 3) := by
          intro T
          simp only [escL]
          have o1 : oct (48 + c / 8) = true := by simp [oct]; omega
          have o2 : oct (48 + c % 8) = true := by simp [oct]; omega
          have ov : oval 48 (48 + c / 8) (48 + c % 8) = c := by unfold oval; omega
          rw [o1, o2, ov, show oct 48 = true from rfl, decide_eq_true (by omega : c ≤ 255)]
          rfl
        rw [he]
        simp only [List.drop_succ_cons, List.drop_zero]
        have := ih rest (acc ++ [c]) hL
        rw [hfin] at this
        exact this
      · rename_i h32
        rw [List.cons_append, List.nil_append, dbl, if_neg (fun e => h1 (.inl e)), if_neg (fun e => h1 (.inr e))]
        have := ih rest (acc ++ [c]) hL
        rw [hfin] at this
        exact this

theorem bytesOf_str (L : List Int) (h : ∀ c ∈ L, 0 ≤ c ∧ c ≤ 255) : bytesOf (strOfNums L) = L := by
  have : (strOfNums L).data.toList = L.map (fun n => UInt8.ofNat n.toNat) := by
    rw [← ByteArray.toList_eq, Lib.strOfNums_toList]; rfl
  unfold bytesOf
  rw [this, List.map_map]
  conv => rhs; rw [← List.map_id L]
  apply List.map_congr_left
  intro c hc
  have := h c hc
  simp only [Function.comp, id, UInt8.toNat_ofNat']
  omega
theorem str_bytesOf (s : ByteArray) : strOfNums (bytesOf s) = s := by
  apply WideShapes.bytes_inj
  have : (strOfNums (bytesOf s)).data.toList = (bytesOf s).map (fun n => UInt8.ofNat n.toNat) := by
    rw [← ByteArray.toList_eq, Lib.strOfNums_toList]; rfl
  rw [this]
  unfold bytesOf
  rw [List.map_map]
  conv => rhs; rw [← List.map_id s.data.toList]
  apply List.map_congr_left
  intro c _
  simp [Function.comp]

theorem esc_range {c : Int} (h : 0 ≤ c ∧ c ≤ 255) : ∀ x ∈ esc c, 0 ≤ x ∧ x ≤ 255 := by
  intro x hx
  unfold esc at hx
  split at hx
  · simp at hx; omega
  · split at hx
    · simp at hx; omega
    · simp at hx; omega
theorem quoted_range (s : ByteArray) : ∀ c ∈ QuoteLaw.quoted (bytesOf s), 0 ≤ c ∧ c ≤ 255 := by
  intro c hc
  unfold QuoteLaw.quoted at hc
  rcases List.mem_cons.1 hc with rfl | hc
  · omega
  rcases List.mem_append.1 hc with hc | hc
  · obtain ⟨x, hx, hcx⟩ := List.mem_flatMap.1 hc
    exact esc_range (bytes_range s x hx) c hcx
  · rw [List.mem_singleton.1 hc]; omega

/-- What Quote writes, and anything behind it: read up to there it is within the word. -/
theorem read_quoted (s : ByteArray) (rest : List Int) (ws : List ByteArray) (cs : List (List ByteArray)) (tot : Int) :
    Mach.ahead (bytesOf (quoteB s) ++ rest) ws cs tot = Mach.within rest (bytesOf s) ws cs tot := by
  unfold quoteB
  split
  · rename_i h
    simp only [Bool.and_eq_true, Bool.not_eq_true'] at h
    have hall : ∀ c ∈ bytesOf s, plainB c = true := List.all_eq_true.1 h.2
    have hne : bytesOf s ≠ [] := by
      intro e
      have : s.data.toList = [] := by
        unfold bytesOf at e
        exact List.map_eq_nil_iff.1 e
      rw [this] at h
      simp at h
    obtain ⟨c, L, hcL⟩ := List.exists_cons_of_ne_nil hne
    rw [hcL] at hall
    obtain ⟨h1, h2, h3, h4, h5, h6⟩ := plain_not (hall c List.mem_cons_self)
    rw [hcL, List.cons_append, ahead_word h1 h2 (fun e => h6 e.1), ← List.cons_append, within_plain _ _ _ _ _ _ hall, List.nil_append]
  · rw [bytesOf_str _ (quoted_range s)]
    unfold QuoteLaw.quoted
    rw [List.cons_append, ahead_word rfl (by decide) (fun e => absurd e.1 (by decide)), List.append_assoc, List.cons_append, List.nil_append,
      within_dbl rfl (dbl_esc _ rest [] (bytes_range s)), List.nil_append]
end Go.Proofs.Ytfpbgchlemcpbaa.LexLaws
