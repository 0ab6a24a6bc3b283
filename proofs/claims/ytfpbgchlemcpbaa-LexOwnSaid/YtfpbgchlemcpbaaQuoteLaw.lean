/- What Quote answers, of the program and of the reference: the same text, told as a list of numbers. Condition: the word has at most 2^40 bytes. -/
import Derived.Test.YtfpbgchlemcpbaaPQx2
namespace Go.Proofs.Ytfpbgchlemcpbaa.QuoteLaw
open Go.RowKit Go.Proofs.Ytfpbgchlemcpbaa.PQ Go.Proofs.YtfpbgchlemcpbaaW.PrintWords Go.Proofs.YtfpbgchlemcpbaaW.PrintLast

/-- the ten signs beside letters and digits -/
def others : List Int := [95, 46, 47, 58, 61, 64, 37, 43, 44, 45]
def plainB (c : Int) : Bool := (decide (97 ≤ c) && decide (c ≤ 122)) || (decide (65 ≤ c) && decide (c ≤ 90)) || (decide (48 ≤ c) && decide (c ≤ 57)) || others.contains c
def esc (c : Int) : List Int := if c = 34 ∨ c = 92 then [92, c] else if c < 32 then [92, 48, 48 + c / 8, 48 + c % 8] else [c]
def quoted (L : List Int) : List Int := 34 :: (L.flatMap esc ++ [34])

theorem wrap_up {i : Int} (h0 : 0 ≤ i) (h : i < 4611686018427387904) : wrap64 (i + 1) = i + 1 := by unfold wrap64; omega

theorem idx_others (a0 : Int) (h0 : 0 ≤ a0) (h1 : a0 ≤ 255) :
    decide (Lib.indexByte (⟨#[95, 46, 47, 58, 61, 64, 37, 43, 44, 45]⟩ : ByteArray).data.toList a0.toNat.toUInt8 ≥ 0) = others.contains a0 := by
  obtain ⟨n, rfl⟩ : ∃ n : Nat, a0 = (n : Int) := ⟨a0.toNat, by omega⟩
  have hn : n < 256 := by omega
  have key : ∀ n : Fin 256, decide (Lib.indexByte (⟨#[95, 46, 47, 58, 61, 64, 37, 43, 44, 45]⟩ : ByteArray).data.toList ((n.val : Int).toNat.toUInt8) ≥ 0) = others.contains (n.val : Int) := by decide +kernel
  exact key ⟨n, hn⟩

theorem plain_f (a0 : Int) (h0 : 0 ≤ a0) (h1 : a0 ≤ 255) : lex_plain.f a0 = some (plainB a0) := by
  have hi := idx_others a0 h0 h1
  unfold lex_plain.f strings_IndexByte.f plainB
  simp only [Option.bind_some]
  rw [hi]
  generalize others.contains a0 = b
  by_cases c1 : (97 : Int) ≤ a0 <;> by_cases c2 : a0 ≤ 122 <;> by_cases c3 : (65 : Int) ≤ a0 <;> by_cases c4 : a0 ≤ 90 <;> by_cases c5 : (48 : Int) ≤ a0 <;> by_cases c6 : a0 ≤ 57 <;> simp [c1, c2, c3, c4, c5, c6]

theorem safe_l0 (a0 : Int) : ∀ (d : Nat) (i : Int) (s : ByteArray), 0 ≤ i → i ≤ s.size → (s.size : Int) - i = d → s.size < 1000 →
    Ev (fun k => mullionref09_safe.l0 k a0 s i) (((bytesOf s).drop i.toNat).contains a0) := by
  intro d
  induction d with
  | zero =>
    intro i s h0 h1 hd hs
    refine Ev.step (f := fun k => some false) (fun k => ?_) ?_
    · simp only [mullionref09_safe.l0]; rw [if_neg (by omega)]
    · rw [List.drop_of_length_le (by simp [bytesOf]; have : s.data.size = s.size := rfl; omega)]; exact Ev.now _
  | succ d ih =>
    intro i s h0 h1 hd hs
    have hlt : i < (s.size : Int) := by omega
    have hl : i.toNat < (bytesOf s).length := by simp [bytesOf]; have : s.data.size = s.size := rfl; omega
    have hbt : (bytesOf s)[i.toNat] = bt s i := by rw [← rd_bytesOf]; simp [rd, List.getD_eq_getElem?_getD, List.getElem?_eq_getElem hl]
    have hdrop : (bytesOf s).drop i.toNat = bt s i :: (bytesOf s).drop (i + 1).toNat := by
      rw [List.drop_eq_getElem_cons hl, hbt, show (i + 1).toNat = i.toNat + 1 by omega]
    rw [hdrop]
    by_cases c : a0 = bt s i
    · refine Ev.step (f := fun k => some true) (fun k => ?_) ?_
      · simp only [mullionref09_safe.l0]; rw [if_pos hlt, if_pos h0, if_pos c]
      · rw [List.contains_cons, c]; simp; exact Ev.now _
    · refine Ev.step (f := fun k => mullionref09_safe.l0 k a0 s (wrap64 (i + 1))) (fun k => ?_) ?_
      · simp only [mullionref09_safe.l0]; rw [if_pos hlt, if_pos h0, if_neg c]
      · rw [wrap_up h0 (by omega), List.contains_cons, show (a0 == bt s i) = false from by simpa using c, Bool.false_or]
        exact ih (i + 1) s (by omega) (by omega) (by omega) hs

theorem safe_f (a0 : Int) : Ev (fun k => mullionref09_safe.f k a0) (plainB a0) := by
  have hj : ∀ b, Ev (fun k => mullionref09_safe.j0 k a0 b) (b || others.contains a0) := by
    intro b
    cases b with
    | true => refine Ev.step (f := fun k => some true) (fun k => ?_) ?_
              · simp only [mullionref09_safe.j0]; rw [if_pos trivial]
              · simp; exact Ev.now _
    | false => refine Ev.step (f := fun k => mullionref09_safe.l0 k a0 (⟨#[95, 46, 47, 58, 61, 64, 37, 43, 44, 45]⟩ : ByteArray) 0) (fun k => ?_) ?_
               · simp only [mullionref09_safe.j0]; rw [if_neg (by simp)]
               · have h := safe_l0 a0 10 0 (⟨#[95, 46, 47, 58, 61, 64, 37, 43, 44, 45]⟩ : ByteArray) (by omega) (by decide) (by decide) (by decide)
                 exact h
  unfold plainB
  by_cases c1 : (97 : Int) ≤ a0 <;> by_cases c2 : a0 ≤ 122 <;> by_cases c3 : (65 : Int) ≤ a0 <;> by_cases c4 : a0 ≤ 90 <;> by_cases c5 : (48 : Int) ≤ a0 <;> by_cases c6 : a0 ≤ 57 <;>
    simp [c1, c2, c3, c4, c5, c6, mullionref09_safe.f] <;> first | omega | (simpa using hj true) | (simpa using hj false)

section
variable {s : ByteArray} {i : Int}
theorem len_bytes : (bytesOf s).length = s.size := by simp [bytesOf]
theorem drop_at (h0 : 0 ≤ i) (h : i < (s.size : Int)) : (bytesOf s).drop i.toNat = bt s i :: (bytesOf s).drop (i + 1).toNat := by
  have hl : i.toNat < (bytesOf s).length := by rw [len_bytes]; omega
  have hbt : (bytesOf s)[i.toNat] = bt s i := by rw [← rd_bytesOf]; simp [rd, List.getD_eq_getElem?_getD, List.getElem?_eq_getElem hl]
  rw [List.drop_eq_getElem_cons hl, hbt, show (i + 1).toNat = i.toNat + 1 by omega]
theorem drop_end (h : (s.size : Int) ≤ i) : (bytesOf s).drop i.toNat = [] := List.drop_of_length_le (by rw [len_bytes]; omega)
end

theorem low_bits (c : Int) (h0 : 0 ≤ c) (h : c < 32) : ([92, (48 + (c / 64)) % 256, (48 + (Go.bits .and .u8 (c / 8) 7)) % 256, (48 + (Go.bits .and .u8 c 7)) % 256] : List Int) = [92, 48, 48 + c / 8, 48 + c % 8] := by
  obtain ⟨n, rfl⟩ : ∃ n : Nat, c = (n : Int) := ⟨c.toNat, by omega⟩
  have hn : n < 32 := by omega
  have key : ∀ n : Fin 32, ([92, (48 + ((n.val : Int) / 64)) % 256, (48 + (Go.bits .and .u8 ((n.val : Int) / 8) 7)) % 256, (48 + (Go.bits .and .u8 (n.val : Int) 7)) % 256] : List Int) = [92, 48, 48 + (n.val : Int) / 8, 48 + (n.val : Int) % 8] := by decide +kernel
  exact key ⟨n, hn⟩
theorem low_ref (c : Int) (h0 : 0 ≤ c) (h : c < 32) : ([92, 48, (48 + ((Int.tdiv c 8) % 256)) % 256, (48 + (Int.tmod c 8)) % 256] : List Int) = [92, 48, 48 + c / 8, 48 + c % 8] := by
  rw [Int.tdiv_eq_ediv_of_nonneg h0, Int.tmod_eq_emod_of_nonneg h0]
  have : c / 8 < 4 := by omega
  simp; omega

theorem lex_l1 (s : ByteArray) (hs : s.size ≤ 1099511627776) : ∀ (d : Nat) (acc : List Int) (i : Int), 0 ≤ i → i ≤ s.size → (s.size : Int) - i = d → (acc.length : Int) ≤ 4 * i + 1 →
    Ev (fun k => lex_Quote.l1 k s acc i) (strOfNums (acc ++ ((bytesOf s).drop i.toNat).flatMap esc ++ [34])) := by
  intro d
  induction d with
  | zero =>
    intro acc i h0 h1 hd ha
    rw [drop_end (by omega)]
    refine Ev.step (f := fun k => some (strOfNums (acc ++ [34]))) (fun k => ?_) ?_
    · simp only [lex_Quote.l1]; rw [if_neg (by omega), if_pos (by omega)]
    · simp; exact Ev.now _
  | succ d ih =>
    intro acc i h0 h1 hd ha
    have hlt : i < (s.size : Int) := by omega
    have hr := bt_range s i
    rw [drop_at h0 hlt, List.flatMap_cons]
    have hj : ∀ b, b = decide (bt s i = 34 ∨ bt s i = 92) → Ev (fun k => lex_Quote.j2 k s acc i (bt s i) b) (strOfNums (acc ++ (esc (bt s i) ++ ((bytesOf s).drop (i + 1).toNat).flatMap esc) ++ [34])) := by
      intro b hb
      by_cases c : bt s i = 34 ∨ bt s i = 92
      · rw [decide_eq_true c] at hb
        subst hb
        have he : esc (bt s i) = [92, bt s i] := by unfold esc; rw [if_pos c]
        rw [he]
        refine Ev.step (f := fun k => lex_Quote.l1 k s (acc ++ [92, bt s i]) (wrap64 (i + 1))) (fun k => ?_) ?_
        · simp only [lex_Quote.j2]; rw [if_pos trivial]; simp only [Option.bind_some]; rw [if_pos (by simp; omega)]
        · rw [wrap_up h0 (by omega)]
          have := ih (acc ++ [92, bt s i]) (i + 1) (by omega) (by omega) (by omega) (by simp; omega)
          simpa [List.append_assoc] using this
      · rw [decide_eq_false c] at hb
        subst hb
        by_cases c32 : bt s i < 32
        · have he : esc (bt s i) = [92, 48, 48 + bt s i / 8, 48 + bt s i % 8] := by unfold esc; rw [if_neg c, if_pos c32]
          rw [he]
          refine Ev.step (f := fun k => lex_Quote.l1 k s (acc ++ [92, 48, 48 + bt s i / 8, 48 + bt s i % 8]) (wrap64 (i + 1))) (fun k => ?_) ?_
          · simp only [lex_Quote.j2]; rw [if_neg (by simp), if_pos c32]; simp only [Option.bind_some]; rw [low_bits _ hr.1 c32, if_pos (by simp; omega)]
          · rw [wrap_up h0 (by omega)]
            have := ih (acc ++ [92, 48, 48 + bt s i / 8, 48 + bt s i % 8]) (i + 1) (by omega) (by omega) (by omega) (by simp; omega)
            simpa [List.append_assoc] using this
        · have he : esc (bt s i) = [bt s i] := by unfold esc; rw [if_neg c, if_neg c32]
          rw [he]
          refine Ev.step (f := fun k => lex_Quote.l1 k s (acc ++ [bt s i]) (wrap64 (i + 1))) (fun k => ?_) ?_
          · simp only [lex_Quote.j2]; rw [if_neg (by simp), if_neg c32, if_pos (by omega)]
          · rw [wrap_up h0 (by omega)]
            have := ih (acc ++ [bt s i]) (i + 1) (by omega) (by omega) (by omega) (by simp; omega)
            simpa [List.append_assoc] using this
    by_cases c34 : bt s i = 34
    · refine Ev.step (f := fun k => lex_Quote.j2 k s acc i (bt s i) true) (fun k => ?_) (hj true (by simp [c34]))
      simp only [lex_Quote.l1]; rw [if_pos hlt, if_pos h0, if_pos c34]
    · refine Ev.step (f := fun k => lex_Quote.j2 k s acc i (bt s i) (bt s i == 92)) (fun k => ?_) (hj _ (by rw [Bool.eq_iff_iff]; simp [c34]))
      simp only [lex_Quote.l1]; rw [if_pos hlt, if_pos h0, if_neg c34]

theorem ref_l1 (s : ByteArray) (hs : s.size ≤ 1099511627776) : ∀ (d : Nat) (acc : List Int) (i : Int), 0 ≤ i → i ≤ s.size → (s.size : Int) - i = d → (acc.length : Int) ≤ 4 * i + 1 →
    Ev (fun k => mullionref09_Quote.l1 k s acc i) (strOfNums (acc ++ ((bytesOf s).drop i.toNat).flatMap esc ++ [34])) := by
  intro d
  induction d with
  | zero =>
    intro acc i h0 h1 hd ha
    rw [drop_end (by omega)]
    refine Ev.step (f := fun k => some (strOfNums (acc ++ [34]))) (fun k => ?_) ?_
    · simp only [mullionref09_Quote.l1]; rw [if_neg (by omega), if_pos (by omega)]
    · simp; exact Ev.now _
  | succ d ih =>
    intro acc i h0 h1 hd ha
    have hlt : i < (s.size : Int) := by omega
    have hr := bt_range s i
    rw [drop_at h0 hlt, List.flatMap_cons]
    have hj : ∀ b, b = decide (bt s i = 34 ∨ bt s i = 92) → Ev (fun k => mullionref09_Quote.j2 k s acc i (bt s i) b) (strOfNums (acc ++ (esc (bt s i) ++ ((bytesOf s).drop (i + 1).toNat).flatMap esc) ++ [34])) := by
      intro b hb
      by_cases c : bt s i = 34 ∨ bt s i = 92
      · rw [decide_eq_true c] at hb
        subst hb
        have he : esc (bt s i) = [92, bt s i] := by unfold esc; rw [if_pos c]
        rw [he]
        refine Ev.step (f := fun k => mullionref09_Quote.l1 k s (acc ++ [92, bt s i]) (wrap64 (i + 1))) (fun k => ?_) ?_
        · simp only [mullionref09_Quote.j2]; rw [if_pos trivial]; simp only [Option.bind_some]; rw [if_pos (by simp; omega)]
        · rw [wrap_up h0 (by omega)]
          have := ih (acc ++ [92, bt s i]) (i + 1) (by omega) (by omega) (by omega) (by simp; omega)
          simpa [List.append_assoc] using this
      · rw [decide_eq_false c] at hb
        subst hb
        by_cases c32 : bt s i < 32
        · have he : esc (bt s i) = [92, 48, 48 + bt s i / 8, 48 + bt s i % 8] := by unfold esc; rw [if_neg c, if_pos c32]
          rw [he]
          refine Ev.step (f := fun k => mullionref09_Quote.l1 k s (acc ++ [92, 48, 48 + bt s i / 8, 48 + bt s i % 8]) (wrap64 (i + 1))) (fun k => ?_) ?_
          · simp only [mullionref09_Quote.j2]; rw [if_neg (by simp), if_pos c32]; simp only [Option.bind_some]; rw [low_ref _ hr.1 c32, if_pos (by simp; omega)]
          · rw [wrap_up h0 (by omega)]
            have := ih (acc ++ [92, 48, 48 + bt s i / 8, 48 + bt s i % 8]) (i + 1) (by omega) (by omega) (by omega) (by simp; omega)
            simpa [List.append_assoc] using this
        · have he : esc (bt s i) = [bt s i] := by unfold esc; rw [if_neg c, if_neg c32]
          rw [he]
          refine Ev.step (f := fun k => mullionref09_Quote.l1 k s (acc ++ [bt s i]) (wrap64 (i + 1))) (fun k => ?_) ?_
          · simp only [mullionref09_Quote.j2]; rw [if_neg (by simp), if_neg c32, if_pos (by omega)]
          · rw [wrap_up h0 (by omega)]
            have := ih (acc ++ [bt s i]) (i + 1) (by omega) (by omega) (by omega) (by simp; omega)
            simpa [List.append_assoc] using this
    by_cases c34 : bt s i = 34
    · refine Ev.step (f := fun k => mullionref09_Quote.j2 k s acc i (bt s i) true) (fun k => ?_) (hj true (by simp [c34]))
      simp only [mullionref09_Quote.l1]; rw [if_pos hlt, if_pos h0, if_pos c34]
    · refine Ev.step (f := fun k => mullionref09_Quote.j2 k s acc i (bt s i) (bt s i == 92)) (fun k => ?_) (hj _ (by rw [Bool.eq_iff_iff]; simp [c34]))
      simp only [mullionref09_Quote.l1]; rw [if_pos hlt, if_pos h0, if_neg c34]

/-- what Quote answers -/
def quoteB (s : ByteArray) : ByteArray := if (!s.data.toList.isEmpty && (bytesOf s).all plainB) then s else strOfNums (quoted (bytesOf s))

theorem lex_l0 (s : ByteArray) (hs : s.size ≤ 1099511627776) : ∀ (d : Nat) (b : Bool) (i : Int), 0 ≤ i → i ≤ s.size → (s.size : Int) - i = d →
    Ev (fun k => lex_Quote.l0 k s b i) (if (b && ((bytesOf s).drop i.toNat).all plainB) then s else strOfNums (quoted (bytesOf s))) := by
  intro d
  induction d with
  | zero =>
    intro b i h0 h1 hd
    rw [drop_end (by omega)]
    cases b with
    | true =>
      refine Ev.step (f := fun k => some s) (fun k => ?_) ?_
      · simp only [lex_Quote.l0]; rw [if_neg (by omega), if_pos trivial]
      · simp; exact Ev.now _
    | false =>
      refine Ev.step (f := fun k => lex_Quote.l1 k s [34] 0) (fun k => ?_) ?_
      · simp only [lex_Quote.l0]; rw [if_neg (by omega), if_neg (by simp)]
      · have := lex_l1 s hs s.size [34] 0 (by omega) (by omega) (by omega) (by simp)
        simpa [quoted] using this
  | succ d ih =>
    intro b i h0 h1 hd
    have hlt : i < (s.size : Int) := by omega
    have hr := bt_range s i
    rw [drop_at h0 hlt]
    cases b with
    | true =>
      refine Ev.step (f := fun k => lex_Quote.l0 k s (plainB (bt s i)) (wrap64 (i + 1))) (fun k => ?_) ?_
      · simp only [lex_Quote.l0]; rw [if_pos hlt, if_pos trivial, if_pos h0, plain_f _ hr.1 hr.2]; rfl
      · rw [wrap_up h0 (by omega)]
        simpa using ih (plainB (bt s i)) (i + 1) (by omega) (by omega) (by omega)
    | false =>
      refine Ev.step (f := fun k => lex_Quote.l0 k s false (wrap64 (i + 1))) (fun k => ?_) ?_
      · simp only [lex_Quote.l0]; rw [if_pos hlt, if_neg (by simp)]
      · rw [wrap_up h0 (by omega)]
        simpa using ih false (i + 1) (by omega) (by omega) (by omega)

theorem ref_l0 (s : ByteArray) (hs : s.size ≤ 1099511627776) : ∀ (d : Nat) (b : Bool) (i : Int), 0 ≤ i → i ≤ s.size → (s.size : Int) - i = d →
    Ev (fun k => mullionref09_Quote.l0 k s b i) (if (b && ((bytesOf s).drop i.toNat).all plainB) then s else strOfNums (quoted (bytesOf s))) := by
  intro d
  induction d with
  | zero =>
    intro b i h0 h1 hd
    rw [drop_end (by omega)]
    cases b with
    | true =>
      refine Ev.step (f := fun k => some s) (fun k => ?_) ?_
      · simp only [mullionref09_Quote.l0]; rw [if_neg (by omega), if_pos trivial]
      · simp; exact Ev.now _
    | false =>
      refine Ev.step (f := fun k => mullionref09_Quote.l1 k s [34] 0) (fun k => ?_) ?_
      · simp only [mullionref09_Quote.l0]; rw [if_neg (by omega), if_neg (by simp)]
      · have := ref_l1 s hs s.size [34] 0 (by omega) (by omega) (by omega) (by simp)
        simpa [quoted] using this
  | succ d ih =>
    intro b i h0 h1 hd
    have hlt : i < (s.size : Int) := by omega
    rw [drop_at h0 hlt]
    cases b with
    | true =>
      refine Ev.step (f := fun k => (mullionref09_safe.f k (bt s i)).bind fun t => mullionref09_Quote.l0 k s t (wrap64 (i + 1))) (fun k => ?_) ?_
      · simp only [mullionref09_Quote.l0]; rw [if_pos hlt, if_pos trivial, if_pos h0]
      · rw [wrap_up h0 (by omega)]
        refine Ev.bind (a := plainB (bt s i)) (safe_f _) ?_
        simpa using ih (plainB (bt s i)) (i + 1) (by omega) (by omega) (by omega)
    | false =>
      refine Ev.step (f := fun k => mullionref09_Quote.l0 k s false (wrap64 (i + 1))) (fun k => ?_) ?_
      · simp only [mullionref09_Quote.l0]; rw [if_pos hlt, if_neg (by simp)]
      · rw [wrap_up h0 (by omega)]
        simpa using ih false (i + 1) (by omega) (by omega) (by omega)

theorem bne_empty (s : ByteArray) : (s.toList != ([] : List UInt8)) = !s.data.toList.isEmpty := by
  rw [ByteArray.toList_eq s]
  cases s.data.toList <;> rfl

theorem lex_f (s : ByteArray) (hs : s.size ≤ 1099511627776) : Ev (fun k => lex_Quote.f k s) (quoteB s) := by
  have h := lex_l0 s hs s.size (s.toList != ([] : List UInt8)) 0 (by omega) (by omega) (by omega)
  rw [bne_empty] at h
  unfold lex_Quote.f quoteB
  rw [bne_empty]
  exact h
theorem ref_f (s : ByteArray) (hs : s.size ≤ 1099511627776) : Ev (fun k => mullionref09_Quote.f k s) (quoteB s) := by
  have h := ref_l0 s hs s.size (s.toList != ([] : List UInt8)) 0 (by omega) (by omega) (by omega)
  rw [bne_empty] at h
  unfold mullionref09_Quote.f quoteB
  rw [bne_empty]
  exact h

theorem law (s : ByteArray) (hs : s.size ≤ 1099511627776) : ∃ k, mullionlaw09_LexQuotes.f k s = some true := by
  refine Ev.rounds ?_
  unfold mullionlaw09_LexQuotes.f
  refine Ev.bind (lex_f s hs) (Ev.bind (ref_f s hs) ?_)
  refine Ev.congr (f := fun k => (lex_Quote.f k (⟨#[]⟩ : ByteArray)).bind fun t155 => (some (t155.toList == ([34, 34] : List UInt8)))) (fun k => if_pos rfl) ?_
  refine Ev.bind (lex_f ⟨#[]⟩ (by decide)) ?_
  rw [show ((quoteB ⟨#[]⟩).toList == ([34, 34] : List UInt8)) = true from by decide +kernel]
  exact Ev.now _
end Go.Proofs.Ytfpbgchlemcpbaa.QuoteLaw
