/- What Commands answers, of the reference: the same plain function of the line as the program's. No condition. -/
import Derived.Test.YtfpbgchlemcpbaaPRx3
namespace Go.Proofs.Ytfpbgchlemcpbaa.RefLaw
open Go.RowKit Go.Proofs.Ytfpbgchlemcpbaa.PR Go.Proofs.Ytfpbgchlemcpbaa.Mach Go.Proofs.YtfpbgchlemcpbaaW.PrintWords Go.Proofs.YtfpbgchlemcpbaaW.PrintLast

theorem wr (q : Nat) (k : Int) (h : (q : Int) + k < 1000000) (h0 : 0 ≤ (q : Int) + k) : wrap64 ((q : Int) + k) = (q : Int) + k := by unfold wrap64; omega
theorem wr1 (q : Nat) (h : q < 100000) : wrap64 ((q : Int) + 1) = ((q + 1 : Nat) : Int) := by unfold wrap64; omega

theorem sgl_acc : ∀ (L acc : List Int), sgl L acc = (sgl L []).map (fun x => (acc ++ x.1, x.2)) := by
  intro L
  induction L with
  | nil => intro acc; simp [sgl]
  | cons c t ih =>
    intro acc
    simp only [sgl]
    split
    · simp
    · rw [ih (acc ++ [c]), ih ([] ++ [c])]
      cases sgl t [] <;> simp
theorem dbl_acc (n : Nat) : ∀ (L acc : List Int), L.length ≤ n → dbl L acc = (dbl L []).map (fun x => (acc ++ x.1, x.2)) := by
  induction n with
  | zero =>
    intro L acc h
    have : L = [] := List.length_eq_zero_iff.1 (by omega)
    subst this
    rw [dbl, dbl]; rfl
  | succ n ih =>
    intro L acc h
    match L with
    | [] => rw [dbl, dbl]; rfl
    | c :: t =>
      simp only [List.length_cons] at h
      rw [dbl, dbl]
      split
      · simp
      · split
        · rcases hs : escL t with _ | ⟨b, k⟩
          · rfl
          · have := escL_len hs
            simp only
            rw [ih (t.drop k) (acc ++ [b]) (by simp; omega), ih (t.drop k) ([] ++ [b]) (by simp; omega)]
            cases dbl (t.drop k) [] <;> simp
        · rw [ih t (acc ++ [c]) (by omega), ih t ([] ++ [c]) (by omega)]
          cases dbl t [] <;> simp

section
variable {s : ByteArray} (hs : s.size ≤ 8192)
include hs

theorem single_l0 : ∀ (d q : Nat) (acc : List Int), s.size - q = d → q ≤ s.size → acc.length ≤ q →
    Ev (fun k => mullionref09_single.l0 k s acc q) (match sgl ((bytesOf s).drop q) acc with | none => ([], -1) | some (a, r) => (a, (s.size : Int) - r.length)) := by
  intro d
  induction d with
  | zero =>
    intro q acc hd hq ha
    refine Ev.step (f := fun k => some ([], -1)) (fun k => ?_) ?_
    · simp only [mullionref09_single.l0]; rw [if_neg (by omega)]
    · rw [List.drop_of_length_le (by rw [len_bytesOf]; omega)]; exact Ev.now _
  | succ d ih =>
    intro q acc hd hq ha
    have hlt : (q : Int) < (s.size : Int) := by omega
    rw [drop_cons s q (by omega)]
    simp only [sgl]
    by_cases c : bt s q = 39
    · rw [if_pos c]
      refine Ev.step (f := fun k => some (acc, ((q + 1 : Nat) : Int))) (fun k => ?_) ?_
      · simp only [mullionref09_single.l0]; rw [if_pos hlt, if_pos (by omega), if_pos c, wr1 q (by omega)]
      · simp only [List.length_drop, len_bytesOf]
        rw [show ((s.size : Int) - ((s.size - (q + 1) : Nat) : Int)) = ((q + 1 : Nat) : Int) by omega]
        exact Ev.now _
    · rw [if_neg c]
      refine Ev.step (f := fun k => mullionref09_single.l0 k s (acc ++ [bt s q]) ((q + 1 : Nat) : Int)) (fun k => ?_) (ih (q + 1) (acc ++ [bt s q]) (by omega) (by omega) (by simp; omega))
      simp only [mullionref09_single.l0]; rw [if_pos hlt, if_pos (by omega), if_neg c, if_pos (by omega), wr1 q (by omega)]

theorem single_f (q : Nat) (hq : q < s.size) :
    Ev (fun k => mullionref09_single.f k s q) (match sgl ((bytesOf s).drop (q + 1)) [] with | none => ([], -1) | some (a, r) => (a, (s.size : Int) - r.length)) := by
  unfold mullionref09_single.f
  rw [wr1 q (by omega)]
  exact single_l0 hs _ (q + 1) [] rfl (by omega) (by simp)

/-- the three digits from place q + j on -/
theorem octal_f (q : Nat) (hq : q ≤ s.size) : ∃ r : Int × Bool, Ev (fun k => mullionref09_octal.f k s q) r ∧
    (q + 3 ≤ s.size ∧ oct (bt s q) = true ∧ oct (bt s ((q + 1 : Nat) : Int)) = true ∧ oct (bt s ((q + 2 : Nat) : Int)) = true ∧
        r = (oval (bt s q) (bt s ((q + 1 : Nat) : Int)) (bt s ((q + 2 : Nat) : Int)) % 256, decide (oval (bt s q) (bt s ((q + 1 : Nat) : Int)) (bt s ((q + 2 : Nat) : Int)) < 256)) ∨
      (¬ (q + 3 ≤ s.size ∧ oct (bt s q) = true ∧ oct (bt s ((q + 1 : Nat) : Int)) = true ∧ oct (bt s ((q + 2 : Nat) : Int)) = true) ∧ r = (0, false))) := by
  have hw3 : wrap64 ((q : Int) + 3) = (q : Int) + 3 := wr q 3 (by omega) (by omega)
  unfold mullionref09_octal.f
  rw [hw3]
  by_cases h3 : q + 3 ≤ s.size
  · -- one digit
    have one : ∀ (p : Nat) (v : Int), q ≤ p → p < q + 3 → 0 ≤ v → v ≤ 1000 → oct (bt s p) = true → ∀ r, Ev (fun k => mullionref09_octal.l0 k s q (8 * v + (bt s p - 48)) ((p + 1 : Nat) : Int)) r → Ev (fun k => mullionref09_octal.l0 k s q v p) r := by
      intro p v hp hj hv hv2 ho r h
      simp only [oct, Bool.and_eq_true, decide_eq_true_eq] at ho
      refine Ev.step (fun k => ?_) h
      simp only [mullionref09_octal.l0]
      rw [hw3, if_pos (by omega), if_pos (by omega), if_pos (by omega), if_neg (by omega), if_neg (by omega), wr1 p (by omega)]
      congr 1
      unfold wrap64
      omega
    have bad : ∀ (p : Nat) (v : Int), q ≤ p → p < q + 3 → oct (bt s p) = false → Ev (fun k => mullionref09_octal.l0 k s q v p) (0, false) := by
      intro p v hp hj ho
      refine Ev.step (f := fun k => some (0, false)) (fun k => ?_) (Ev.now _)
      simp only [mullionref09_octal.l0]
      rw [hw3, if_pos (by omega), if_pos (by omega), if_pos (by omega)]
      by_cases h48 : bt s p < 48
      · rw [if_pos h48]
      · rw [if_neg h48, if_pos]
        simp [oct] at ho
        omega
    have dig : ∀ c : Int, oct c = true → 48 ≤ c ∧ c ≤ 55 := by
      intro c h
      simpa [oct] using h
    by_cases o0 : oct (bt s q) = true
    · by_cases o1 : oct (bt s ((q + 1 : Nat) : Int)) = true
      · by_cases o2 : oct (bt s ((q + 2 : Nat) : Int)) = true
        · have d0 := dig _ o0
          have d1 := dig _ o1
          have d2 := dig _ o2
          refine ⟨_, ?_, .inl ⟨h3, o0, o1, o2, rfl⟩⟩
          have key : Ev (fun k => mullionref09_octal.l0 k s q 0 q) (oval (bt s q) (bt s ((q + 1 : Nat) : Int)) (bt s ((q + 2 : Nat) : Int)) % 256, decide (oval (bt s q) (bt s ((q + 1 : Nat) : Int)) (bt s ((q + 2 : Nat) : Int)) < 256)) := by
            refine one q 0 (by omega) (by omega) (by omega) (by omega) o0 _ ?_
            refine one (q + 1) _ (by omega) (by omega) (by omega) (by omega) o1 _ ?_
            refine one (q + 2) _ (by omega) (by omega) (by omega) (by omega) o2 _ ?_
            refine Ev.step (f := fun k => some (oval (bt s q) (bt s ((q + 1 : Nat) : Int)) (bt s ((q + 2 : Nat) : Int)) % 256, decide (oval (bt s q) (bt s ((q + 1 : Nat) : Int)) (bt s ((q + 2 : Nat) : Int)) < 256))) (fun k => ?_) (Ev.now _)
            simp only [mullionref09_octal.l0]
            rw [hw3, if_neg (by omega)]
            have ev : 8 * (8 * (8 * 0 + (bt s q - 48)) + (bt s ((q + 1 : Nat) : Int) - 48)) + (bt s ((q + 2 : Nat) : Int) - 48) = oval (bt s q) (bt s ((q + 1 : Nat) : Int)) (bt s ((q + 2 : Nat) : Int)) := by
              simp [oval]
            rw [ev]
            have hpos : 0 ≤ oval (bt s q) (bt s ((q + 1 : Nat) : Int)) (bt s ((q + 2 : Nat) : Int)) := by unfold oval; omega
            rw [Int.tmod_eq_emod_of_nonneg hpos]
            congr 2
            omega
          refine Ev.congr (fun k => ?_) key
          rw [if_neg (by omega)]
        · refine ⟨_, ?_, .inr ⟨fun h => o2 h.2.2.2, rfl⟩⟩
          have d0 := dig _ o0
          have d1 := dig _ o1
          have key : Ev (fun k => mullionref09_octal.l0 k s q 0 q) (0, false) := by
            refine one q 0 (by omega) (by omega) (by omega) (by omega) o0 _ ?_
            refine one (q + 1) _ (by omega) (by omega) (by omega) (by omega) o1 _ ?_
            exact bad (q + 2) _ (by omega) (by omega) (Bool.eq_false_iff.mpr o2)
          refine Ev.congr (fun k => ?_) key
          rw [if_neg (by omega)]
      · refine ⟨_, ?_, .inr ⟨fun h => o1 h.2.2.1, rfl⟩⟩
        have d0 := dig _ o0
        have key : Ev (fun k => mullionref09_octal.l0 k s q 0 q) (0, false) := by
          refine one q 0 (by omega) (by omega) (by omega) (by omega) o0 _ ?_
          exact bad (q + 1) _ (by omega) (by omega) (Bool.eq_false_iff.mpr o1)
        refine Ev.congr (fun k => ?_) key
        rw [if_neg (by omega)]
    · refine ⟨_, ?_, .inr ⟨fun h => o0 h.2.1, rfl⟩⟩
      have key : Ev (fun k => mullionref09_octal.l0 k s q 0 q) (0, false) := bad q _ (by omega) (by omega) (Bool.eq_false_iff.mpr o0)
      refine Ev.congr (fun k => ?_) key
      rw [if_neg (by omega)]
  · refine ⟨(0, false), ?_, .inr ⟨fun h => h3 h.1, rfl⟩⟩
    refine Ev.congr (fun k => ?_) (Ev.now _)
    rw [if_pos (by omega)]

theorem escape_f (q : Nat) (hq : q < s.size) : ∃ b n, escL ((bytesOf s).drop q) = some (b, n) ∧ Ev (fun k => mullionref09_escape.f k s q) (b, (n : Int)) := by
  obtain ⟨r, hr, h⟩ := octal_f hs q (by omega)
  have hr0 := bt_range s q
  have esc : ∀ (hb : r.2 = false), Ev (fun k => mullionref09_escape.f k s q) (esc1 (bt s q), ((1 : Nat) : Int)) := by
    intro hb
    unfold mullionref09_escape.f
    refine Ev.bind hr ?_
    rw [hb]
    refine Ev.congr (fun k => ?_) (Ev.now _)
    rw [if_neg (by simp), if_pos (by omega), if_pos (by omega)]
    unfold esc1
    split
    · rfl
    · split
      · rfl
      · split
        · rfl
        · split
          · rfl
          · rfl
  have hlen : ((bytesOf s).drop q).length = s.size - q := by rw [List.length_drop, len_bytesOf]
  rw [drop_cons s q hq]
  rcases h with ⟨h3, o0, o1, o2, rfl⟩ | ⟨hn, rfl⟩
  · rw [drop_cons s (q + 1) (by omega), drop_cons s (q + 1 + 1) (by omega)]
    simp only [escL]
    rw [o0, o1, show oct (bt s ((q + 1 + 1 : Nat) : Int)) = true from o2]
    simp only [Bool.true_and]
    by_cases hv : oval (bt s q) (bt s ((q + 1 : Nat) : Int)) (bt s ((q + 2 : Nat) : Int)) < 256
    · rw [if_pos (decide_eq_true (by have : ((q + 1 + 1 : Nat) : Int) = ((q + 2 : Nat) : Int) := rfl; rw [this]; omega))]
      refine ⟨_, _, rfl, ?_⟩
      unfold mullionref09_escape.f
      refine Ev.bind hr ?_
      simp only [decide_eq_true hv]
      refine Ev.congr (fun k => if_pos trivial) ?_
      have hpos : 0 ≤ oval (bt s q) (bt s ((q + 1 : Nat) : Int)) (bt s ((q + 2 : Nat) : Int)) := by
        simp only [oct, Bool.and_eq_true, decide_eq_true_eq] at o0 o1 o2
        unfold oval; omega
      rw [show (oval (bt s q) (bt s ((q + 1 : Nat) : Int)) (bt s ((q + 2 : Nat) : Int)) % 256) = oval (bt s q) (bt s ((q + 1 : Nat) : Int)) (bt s ((q + 2 : Nat) : Int)) by omega]
      exact Ev.now _
    · rw [if_neg (by simp only [decide_eq_true_eq]; have : ((q + 1 + 1 : Nat) : Int) = ((q + 2 : Nat) : Int) := rfl; rw [this]; omega)]
      exact ⟨_, _, rfl, esc (decide_eq_false hv)⟩
  · refine ⟨esc1 (bt s q), 1, ?_, esc rfl⟩
    by_cases h3 : q + 3 ≤ s.size
    · rw [drop_cons s (q + 1) (by omega), drop_cons s (q + 1 + 1) (by omega)]
      simp only [escL]
      rw [if_neg]
      intro hc
      simp only [Bool.and_eq_true] at hc
      exact hn ⟨h3, hc.1.1.1, hc.1.1.2, hc.1.2⟩
    · have hl : ((bytesOf s).drop (q + 1)).length ≤ 1 := by rw [List.length_drop, len_bytesOf]; omega
      match (bytesOf s).drop (q + 1), hl with
      | [], _ => rfl
      | [_], _ => rfl

theorem double_l0 : ∀ (d q : Nat) (acc : List Int), s.size - q ≤ d → q ≤ s.size → acc.length ≤ q →
    Ev (fun k => mullionref09_double.l0 k s acc q) (match dbl ((bytesOf s).drop q) acc with | none => ([], -1) | some (a, r) => (a, (s.size : Int) - r.length)) := by
  intro d
  induction d with
  | zero =>
    intro q acc hd hq ha
    refine Ev.step (f := fun k => some ([], -1)) (fun k => ?_) ?_
    · simp only [mullionref09_double.l0]; rw [if_neg (by omega)]
    · rw [List.drop_of_length_le (by rw [len_bytesOf]; omega), dbl]; exact Ev.now _
  | succ d ih =>
    intro q acc hd hq ha
    by_cases hlt' : q < s.size
    · have hlt : (q : Int) < (s.size : Int) := by omega
      rw [drop_cons s q (by omega), dbl]
      by_cases c : bt s q = 34
      · rw [if_pos c]
        refine Ev.step (f := fun k => some (acc, ((q + 1 : Nat) : Int))) (fun k => ?_) ?_
        · simp only [mullionref09_double.l0]; rw [if_pos hlt, if_pos (by omega), if_pos c, wr1 q (by omega)]
        · simp only [List.length_drop, len_bytesOf]
          rw [show ((s.size : Int) - ((s.size - (q + 1) : Nat) : Int)) = ((q + 1 : Nat) : Int) by omega]
          exact Ev.now _
      · rw [if_neg c]
        by_cases c2 : bt s q = 92
        · rw [if_pos c2]
          by_cases he : q + 1 = s.size
          · rw [List.drop_of_length_le (by rw [len_bytesOf]; omega)]
            refine Ev.step (f := fun k => some ([], -1)) (fun k => ?_) (Ev.now _)
            simp only [mullionref09_double.l0]; rw [if_pos hlt, if_pos (by omega), if_neg c, if_pos c2, wr1 q (by omega), if_pos (by omega)]
          · obtain ⟨b, n, hb, hE⟩ := escape_f hs (q + 1) (by omega)
            have hl := escL_len hb
            rw [List.length_drop, len_bytesOf] at hl
            rw [hb]
            simp only [List.drop_drop]
            refine Ev.step (f := fun k => (mullionref09_escape.f k s ((q + 1 : Nat) : Int)).bind fun bt137 => (if acc.length < 140737488355328 then (mullionref09_double.l0 k s (acc ++ [bt137.1]) (wrap64 (((q + 1 : Nat) : Int) + bt137.2))) else (none))) (fun k => ?_) ?_
            · simp only [mullionref09_double.l0]; rw [if_pos hlt, if_pos (by omega), if_neg c, if_pos c2, wr1 q (by omega), if_neg (by omega)]
            · refine Ev.bind hE ?_
              refine Ev.congr (f := fun k => mullionref09_double.l0 k s (acc ++ [b]) ((q + 1 + n : Nat) : Int)) (fun k => ?_) (ih (q + 1 + n) (acc ++ [b]) (by omega) (by omega) (by simp; omega))
              rw [if_pos (by omega), wr (q + 1) n (by omega) (by omega)]
              congr 1
        · rw [if_neg c2]
          refine Ev.step (f := fun k => mullionref09_double.l0 k s (acc ++ [bt s q]) ((q + 1 : Nat) : Int)) (fun k => ?_) (ih (q + 1) (acc ++ [bt s q]) (by omega) (by omega) (by simp; omega))
          simp only [mullionref09_double.l0]; rw [if_pos hlt, if_pos (by omega), if_neg c, if_neg c2, if_pos (by omega), wr1 q (by omega)]
    · refine Ev.step (f := fun k => some ([], -1)) (fun k => ?_) ?_
      · simp only [mullionref09_double.l0]; rw [if_neg (by omega)]
      · rw [List.drop_of_length_le (by rw [len_bytesOf]; omega), dbl]; exact Ev.now _

theorem double_f (q : Nat) (hq : q < s.size) :
    Ev (fun k => mullionref09_double.f k s q) (match dbl ((bytesOf s).drop (q + 1)) [] with | none => ([], -1) | some (a, r) => (a, (s.size : Int) - r.length)) := by
  unfold mullionref09_double.f
  rw [wr1 q (by omega)]
  exact double_l0 hs _ (q + 1) [] (Nat.le_refl _) (by omega) (by simp)

omit hs in
theorem sgl_suffix : ∀ {L acc a r : List Int}, sgl L acc = some (a, r) → ∃ k, 1 ≤ k ∧ k ≤ L.length ∧ r = L.drop k := by
  intro L
  induction L with
  | nil => intro acc a r h; simp [sgl] at h
  | cons c t ih =>
    intro acc a r h
    simp only [sgl] at h
    split at h
    · injection h with h; injection h with h1 h2; exact ⟨1, by omega, by simp, by simp [h2]⟩
    · obtain ⟨k, h1, h2, h3⟩ := ih h
      exact ⟨k + 1, by omega, by simp; omega, by simpa using h3⟩
omit hs in
theorem dbl_suffix (n : Nat) : ∀ {L acc a r : List Int}, L.length ≤ n → dbl L acc = some (a, r) → ∃ k, 1 ≤ k ∧ k ≤ L.length ∧ r = L.drop k := by
  induction n with
  | zero =>
    intro L acc a r hn h
    have : L = [] := List.length_eq_zero_iff.1 (by omega)
    subst this
    rw [dbl] at h
    cases h
  | succ n ih =>
    intro L acc a r hn h
    match L with
    | [] => rw [dbl] at h; cases h
    | c :: t =>
      rw [dbl] at h
      simp only [List.length_cons] at hn ⊢
      split at h
      · injection h with h; injection h with h1 h2; exact ⟨1, by omega, by omega, by simp [h2]⟩
      · split at h
        · split at h
          · cases h
          · rename_i b m hm
            have hl := escL_len hm
            obtain ⟨k, h1, h2, h3⟩ := ih (by simp; omega) h
            rw [List.drop_drop] at h3
            simp at h2
            exact ⟨m + k + 1, by omega, by omega, by simpa using h3⟩
        · obtain ⟨k, h1, h2, h3⟩ := ih (by omega) h
          exact ⟨k + 1, by omega, by omega, by simpa using h3⟩

/-- What the reference's word comes to. -/
def WordIs (s : ByteArray) (g : Nat → Option (ByteArray × Int × Int)) (q : Nat) (w : List Int) : Prop :=
  (∃ (w' : List Int) (e : Nat), Ev g (strOfNums w', (e : Int), 0) ∧ e ≤ s.size ∧ q ≤ e ∧ (q < s.size → isBlank (bt s q) = false → bt s q ≠ 59 → q < e) ∧
      ∀ ws cs tot, within ((bytesOf s).drop q) w ws cs tot = Mach.ahead ((bytesOf s).drop e) (ws ++ [strOfNums w']) cs (tot + 1)) ∨
    (∃ x : Nat, x < s.size ∧ Ev g ((⟨#[]⟩ : ByteArray), -1, (x : Int)) ∧ ∀ ws cs tot, within ((bytesOf s).drop q) w ws cs tot = .fail (s.size - x))

omit hs in
theorem WordIs.step {g f : Nat → Option (ByteArray × Int × Int)} {q q' : Nat} {w w' : List Int} (hq : q < q') (hg : ∀ r, Ev f r → Ev g r) (h : WordIs s f q' w') (he : ∀ ws cs tot, within ((bytesOf s).drop q) w ws cs tot = within ((bytesOf s).drop q') w' ws cs tot) : WordIs s g q w := by
  rcases h with ⟨w2, e, h1, h2, h3, _, h5⟩ | ⟨x, h1, h2, h3⟩
  · exact .inl ⟨w2, e, hg _ h1, h2, by omega, fun _ _ _ => by omega, fun ws cs tot => (he ws cs tot).trans (h5 ws cs tot)⟩
  · exact .inr ⟨x, h1, hg _ h2, fun ws cs tot => (he ws cs tot).trans (h3 ws cs tot)⟩

theorem word_l0 : ∀ (d q : Nat) (w : List Int), s.size - q ≤ d → q ≤ s.size → w.length ≤ q → WordIs s (fun k => mullionref09_word.l0 k s w q) q w := by
  intro d
  induction d with
  | zero =>
    intro q w hd hq hw
    refine .inl ⟨w, q, ?_, hq, Nat.le_refl _, fun h => by omega, ?_⟩
    · refine Ev.step (f := fun k => mullionref09_word.j1 k s w q false) (fun k => ?_) ?_
      · simp only [mullionref09_word.l0]; rw [if_neg (by omega)]
      · refine Ev.step (f := fun k => some (strOfNums w, (q : Int), 0)) (fun k => ?_) (Ev.now _)
        simp only [mullionref09_word.j1]; rw [if_neg (by simp)]
    · intro ws cs tot
      rw [List.drop_of_length_le (by rw [len_bytesOf]; omega), within_nil, ahead_nil]
  | succ d ih =>
    intro q w hd hq hw
    by_cases hlt' : q < s.size
    · have hlt : (q : Int) < (s.size : Int) := by omega
      have stop : ∀ (hb : isBlank (bt s q) = true ∨ bt s q = 59), WordIs s (fun k => mullionref09_word.l0 k s w q) q w := by
        intro hb
        refine .inl ⟨w, q, ?_, hq, Nat.le_refl _, fun _ h1 h2 => ?_, ?_⟩
        · have hf : Ev (fun k => mullionref09_word.j1 k s w q false) (strOfNums w, (q : Int), 0) := by
            refine Ev.step (f := fun k => some (strOfNums w, (q : Int), 0)) (fun k => ?_) (Ev.now _)
            simp only [mullionref09_word.j1]; rw [if_neg (by simp)]
          refine Ev.step (f := fun k => mullionref09_word.j1 k s w q false) (fun k => ?_) hf
          simp only [mullionref09_word.l0, mullionref09_blank.f]
          rw [if_pos hlt, if_pos (by omega)]
          rcases hb with hb | hb
          · simp only [isBlank, Bool.or_eq_true, beq_iff_eq] at hb
            rcases hb with hb | hb <;> simp [hb]
          · simp [hb]
        · rcases hb with hb | hb
          · rw [hb] at h1; cases h1
          · exact absurd hb h2
        · intro ws cs tot
          rw [drop_cons s q hlt']
          rcases hb with hb | hb
          · exact within_blank hb
          · exact within_semi hb
      by_cases hb : isBlank (bt s q) = true
      · exact stop (.inl hb)
      by_cases h59 : bt s q = 59
      · exact stop (.inr h59)
      have hb' : isBlank (bt s q) = false := by simpa using hb
      have hin : ∀ r, Ev (fun k => mullionref09_word.j1 k s w q true) r → Ev (fun k => mullionref09_word.l0 k s w q) r := by
        intro r hr
        refine Ev.step (fun k => ?_) hr
        simp only [mullionref09_word.l0, mullionref09_blank.f]
        rw [if_pos hlt, if_pos (by omega)]
        have h1 : bt s q ≠ 32 := fun e => by simp [isBlank, e] at hb'
        have h2 : bt s q ≠ 9 := fun e => by simp [isBlank, e] at hb'
        rw [if_neg h1]
        simp only [Option.bind_some]
        rw [if_neg (by simpa using h2), show (bt s q != 59) = true from bne_iff_ne.mpr h59]
      have fail : ∀ (hE : Ev (fun k => mullionref09_word.j1 k s w q true) ((⟨#[]⟩ : ByteArray), -1, (q : Int))) (hW : ∀ ws cs tot, within (bt s q :: (bytesOf s).drop (q + 1)) w ws cs tot = .fail (s.size - q)), WordIs s (fun k => mullionref09_word.l0 k s w q) q w := by
        intro hE hW
        refine .inr ⟨q, hlt', hin _ hE, fun ws cs tot => ?_⟩
        rw [drop_cons s q hlt']
        exact hW ws cs tot
      by_cases h39 : bt s q = 39
      · have hS := single_f hs q hlt'
        rcases hg : sgl ((bytesOf s).drop (q + 1)) [] with _ | ⟨a, r⟩
        · rw [hg] at hS
          refine fail ?_ (fun ws cs tot => ?_)
          · refine Ev.step (f := fun k => (mullionref09_single.f k s q).bind fun bt146 => (if bt146.2 < 0 then (some ((⟨#[]⟩ : ByteArray), (-1), (q : Int))) else (if w.length + bt146.1.length < 140737488355328 then (mullionref09_word.l0 k s (w ++ bt146.1) bt146.2) else (none)))) (fun k => ?_) ?_
            · simp only [mullionref09_word.j1]; rw [if_pos trivial, if_pos (by omega), if_pos hlt, if_pos h39]
            · refine Ev.bind hS ?_
              exact Ev.congr (fun k => if_pos (by simp)) (Ev.now _)
          · rw [within_sgl_none h39 (by rw [sgl_acc, hg]; rfl), List.length_drop, len_bytesOf]
            congr 1; omega
        · rw [hg] at hS
          obtain ⟨k, hk1, hk2, rfl⟩ := sgl_suffix hg
          have hlen := sgl_len hg
          rw [List.drop_drop, List.length_drop, List.length_drop, len_bytesOf] at hlen
          rw [List.length_drop, len_bytesOf] at hk2
          refine WordIs.step (q' := q + 1 + k) (w' := w ++ a) (by omega) (fun r hr => hin _ ?_) (ih (q + 1 + k) (w ++ a) (by omega) (by omega) (by simp at hlen ⊢; omega)) (fun ws cs tot => ?_)
          · refine Ev.step (f := fun k => (mullionref09_single.f k s q).bind fun bt146 => (if bt146.2 < 0 then (some ((⟨#[]⟩ : ByteArray), (-1), (q : Int))) else (if w.length + bt146.1.length < 140737488355328 then (mullionref09_word.l0 k s (w ++ bt146.1) bt146.2) else (none)))) (fun k => ?_) ?_
            · simp only [mullionref09_word.j1]; rw [if_pos trivial, if_pos (by omega), if_pos hlt, if_pos h39]
            · refine Ev.bind hS ?_
              have e1 : (s.size : Int) - (((bytesOf s).drop (q + 1)).drop k).length = ((q + 1 + k : Nat) : Int) := by
                rw [List.drop_drop, List.length_drop, len_bytesOf]; omega
              refine Ev.congr (f := fun k' => mullionref09_word.l0 k' s (w ++ a) ((q + 1 + k : Nat) : Int)) (fun k' => ?_) hr
              simp only [e1]
              rw [if_neg (by omega), if_pos (by simp at hlen; omega)]
          · rw [drop_cons s q hlt', within_sgl h39 (acc := w ++ a) (rest := ((bytesOf s).drop (q + 1)).drop k) (by rw [sgl_acc, hg]; rfl), List.drop_drop]
      by_cases h34 : bt s q = 34
      · have hS := double_f hs q hlt'
        rcases hg : dbl ((bytesOf s).drop (q + 1)) [] with _ | ⟨a, r⟩
        · rw [hg] at hS
          refine fail ?_ (fun ws cs tot => ?_)
          · refine Ev.step (f := fun k => (mullionref09_double.f k s q).bind fun bt153 => (if bt153.2 < 0 then (some ((⟨#[]⟩ : ByteArray), (-1), (q : Int))) else (if w.length + bt153.1.length < 140737488355328 then (mullionref09_word.l0 k s (w ++ bt153.1) bt153.2) else (none)))) (fun k => ?_) ?_
            · simp only [mullionref09_word.j1]; rw [if_pos trivial, if_pos (by omega), if_pos hlt, if_neg h39, if_pos h34]
            · refine Ev.bind hS ?_
              exact Ev.congr (fun k => if_pos (by simp)) (Ev.now _)
          · rw [within_dbl_none h34 (by rw [dbl_acc _ _ _ (Nat.le_refl _), hg]; rfl), List.length_drop, len_bytesOf]
            congr 1; omega
        · rw [hg] at hS
          obtain ⟨k, hk1, hk2, rfl⟩ := dbl_suffix _ (Nat.le_refl _) hg
          have hlen := dbl_len _ (Nat.le_refl _) hg
          rw [List.drop_drop, List.length_drop, List.length_drop, len_bytesOf] at hlen
          rw [List.length_drop, len_bytesOf] at hk2
          refine WordIs.step (q' := q + 1 + k) (w' := w ++ a) (by omega) (fun r hr => hin _ ?_) (ih (q + 1 + k) (w ++ a) (by omega) (by omega) (by simp at hlen ⊢; omega)) (fun ws cs tot => ?_)
          · refine Ev.step (f := fun k => (mullionref09_double.f k s q).bind fun bt153 => (if bt153.2 < 0 then (some ((⟨#[]⟩ : ByteArray), (-1), (q : Int))) else (if w.length + bt153.1.length < 140737488355328 then (mullionref09_word.l0 k s (w ++ bt153.1) bt153.2) else (none)))) (fun k => ?_) ?_
            · simp only [mullionref09_word.j1]; rw [if_pos trivial, if_pos (by omega), if_pos hlt, if_neg h39, if_pos h34]
            · refine Ev.bind hS ?_
              have e1 : (s.size : Int) - (((bytesOf s).drop (q + 1)).drop k).length = ((q + 1 + k : Nat) : Int) := by
                rw [List.drop_drop, List.length_drop, len_bytesOf]; omega
              refine Ev.congr (f := fun k' => mullionref09_word.l0 k' s (w ++ a) ((q + 1 + k : Nat) : Int)) (fun k' => ?_) hr
              simp only [e1]
              rw [if_neg (by omega), if_pos (by simp at hlen; omega)]
          · rw [drop_cons s q hlt', within_dbl h34 (acc := w ++ a) (rest := ((bytesOf s).drop (q + 1)).drop k) (by rw [dbl_acc _ _ _ (Nat.le_refl _), hg]; rfl), List.drop_drop]
      by_cases h92 : bt s q = 92
      · have hw2 : wrap64 ((q : Int) + 2) = ((q + 2 : Nat) : Int) := by unfold wrap64; omega
        by_cases he : q + 1 = s.size
        · refine fail ?_ (fun ws cs tot => ?_)
          · refine Ev.step (f := fun k => some ((⟨#[]⟩ : ByteArray), (-1), (q : Int))) (fun k => ?_) (Ev.now _)
            simp only [mullionref09_word.j1]; rw [if_pos trivial, if_pos (by omega), if_pos hlt, if_neg h39, if_neg h34, if_pos h92, wr1 q (by omega), if_pos (by omega)]
          · rw [List.drop_of_length_le (by rw [len_bytesOf]; omega), within_bs_end h92]
            congr 1; omega
        · refine WordIs.step (q' := q + 2) (w' := w ++ [bt s ((q + 1 : Nat) : Int)]) (by omega) (fun r hr => hin _ ?_) (ih (q + 2) (w ++ [bt s ((q + 1 : Nat) : Int)]) (by omega) (by omega) (by simp; omega)) (fun ws cs tot => ?_)
          · refine Ev.step (fun k => ?_) hr
            simp only [mullionref09_word.j1]
            rw [if_pos trivial, if_pos (by omega), if_pos hlt, if_neg h39, if_neg h34, if_pos h92, wr1 q (by omega), if_neg (by omega), if_pos (by omega), if_pos (by omega)]
            rw [Option.bind_some]
            rw [hw2, if_neg (by omega), if_pos (by rw [List.length_singleton]; omega)]
          · rw [drop_cons s q hlt', drop_cons s (q + 1) (by omega), within_bs h92]
      · refine WordIs.step (q' := q + 1) (w' := w ++ [bt s q]) (by omega) (fun r hr => hin _ ?_) (ih (q + 1) (w ++ [bt s q]) (by omega) (by omega) (by simp; omega)) (fun ws cs tot => ?_)
        · refine Ev.step (fun k => ?_) hr
          simp only [mullionref09_word.j1]
          rw [if_pos trivial, if_pos (by omega), if_pos hlt, if_neg h39, if_neg h34, if_neg h92]
          rw [Option.bind_some]
          rw [wr1 q (by omega), if_neg (by omega), if_pos (by rw [List.length_singleton]; omega)]
        · rw [drop_cons s q hlt', within_other hb' h59 h39 h34 h92]
    · refine .inl ⟨w, q, ?_, hq, Nat.le_refl _, fun h => by omega, ?_⟩
      · refine Ev.step (f := fun k => mullionref09_word.j1 k s w q false) (fun k => ?_) ?_
        · simp only [mullionref09_word.l0]; rw [if_neg (by omega)]
        · refine Ev.step (f := fun k => some (strOfNums w, (q : Int), 0)) (fun k => ?_) (Ev.now _)
          simp only [mullionref09_word.j1]; rw [if_neg (by simp)]
      · intro ws cs tot
        rw [List.drop_of_length_le (by rw [len_bytesOf]; omega), within_nil, ahead_nil]

omit hs in
theorem j2_ends (cs : List (List ByteArray)) (ws : List ByteArray) (tot : Int) (hc : cs.length ≤ 100000) : Ev (fun k => mullionref09_Commands.j2 k cs ws tot) (commandsOf (.ok (endC ws cs) tot) s.size) := by
  by_cases hw : ws = []
  · subst hw
    refine Ev.step (f := fun k => some (commandsOf (.ok (endC [] cs) tot) s.size)) (fun k => ?_) (Ev.now _)
    simp only [mullionref09_Commands.j2]
    rw [if_neg (by simp)]
    simp only [endC, if_true, commandsOf]
    by_cases h1 : cs.length > 16
    · rw [if_pos (by omega), if_pos (.inl h1)]
    · rw [if_neg (by omega)]
      by_cases h2 : tot > 64
      · rw [if_pos h2, if_pos (.inr h2)]
      · rw [if_neg h2, if_neg (by rintro (h | h) <;> omega)]
  · have hl : 0 < ws.length := List.length_pos_iff.2 hw
    refine Ev.step (f := fun k => some (commandsOf (.ok (endC ws cs) tot) s.size)) (fun k => ?_) (Ev.now _)
    simp only [mullionref09_Commands.j2]
    rw [if_pos (by omega), if_pos (by omega)]
    simp only [Option.bind_some, endC, if_neg hw, commandsOf]
    by_cases h1 : (cs ++ [ws]).length > 16
    · rw [if_pos (by omega), if_pos (.inl h1)]
    · rw [if_neg (by omega)]
      by_cases h2 : tot > 64
      · rw [if_pos h2, if_pos (.inr h2)]
      · rw [if_neg h2, if_neg (by rintro (h | h) <;> omega)]

theorem commands_l0 : ∀ (d q : Nat) (cs : List (List ByteArray)) (ws : List ByteArray) (tot : Int), s.size - q ≤ d → q ≤ s.size → 0 ≤ tot → tot ≤ q → ((cs.length + ws.length : Nat) : Int) ≤ tot →
    Ev (fun k => mullionref09_Commands.l0 k s cs ws tot q) (commandsOf (Mach.ahead ((bytesOf s).drop q) ws cs tot) s.size) := by
  intro d
  induction d with
  | zero =>
    intro q cs ws tot hd hq h0 htq hc
    rw [List.drop_of_length_le (by rw [len_bytesOf]; omega), ahead_nil]
    refine Ev.step (fun k => ?_) (j2_ends cs ws tot (by omega))
    simp only [mullionref09_Commands.l0]; rw [if_neg (by omega)]
  | succ d ih =>
    intro q cs ws tot hd hq h0 htq hc
    by_cases hlt' : q < s.size
    · have hlt : (q : Int) < (s.size : Int) := by omega
      rw [drop_cons s q hlt']
      by_cases hb : isBlank (bt s q) = true
      · rw [ahead_blank hb]
        refine Ev.step (fun k => ?_) (ih (q + 1) cs ws tot (by omega) (by omega) h0 (by omega) hc)
        simp only [mullionref09_Commands.l0, mullionref09_blank.f]
        rw [if_pos hlt, if_pos (by omega), wr1 q (by omega)]
        simp only [isBlank, Bool.or_eq_true, beq_iff_eq] at hb
        rcases hb with hb | hb <;> simp [hb]
      have hb' : isBlank (bt s q) = false := by simpa using hb
      have n1 : bt s q ≠ 32 := fun e => by simp [isBlank, e] at hb'
      have n2 : bt s q ≠ 9 := fun e => by simp [isBlank, e] at hb'
      by_cases h59 : bt s q = 59
      · rw [ahead_semi h59]
        have hlen := endC_len ws cs
        refine Ev.step (fun k => ?_) (ih (q + 1) (endC ws cs) [] tot (by omega) (by omega) h0 (by omega) (by simp; omega))
        simp only [mullionref09_Commands.l0, mullionref09_blank.f]
        rw [if_pos hlt, if_pos (by omega), wr1 q (by omega), if_neg n1]
        simp only [Option.bind_some]
        rw [if_neg (by simpa using n2), if_pos h59]
        by_cases hw : ws = []
        · subst hw
          rw [if_neg (by simp)]
          simp [endC]
        · have hl : 0 < ws.length := List.length_pos_iff.2 hw
          rw [if_pos (by omega), if_pos (by omega)]
          simp [endC, hw]
      · have hgo : ∀ (b : Bool) r, (b = true ↔ (bt s q = 35 ∧ ((bytesOf s).drop (q + 1)).head? ≠ some 123)) → Ev (fun k => mullionref09_Commands.j1 k s cs ws tot q b) r → Ev (fun k => mullionref09_Commands.l0 k s cs ws tot q) r := by
          intro b r hbb hr
          refine Ev.step (fun k => ?_) hr
          simp only [mullionref09_Commands.l0, mullionref09_blank.f]
          rw [if_pos hlt, if_pos (by omega), wr1 q (by omega), if_neg n1]
          simp only [Option.bind_some]
          rw [if_neg (by simpa using n2), if_neg h59]
          by_cases h35 : bt s q = 35
          · rw [if_pos h35]
            by_cases he : q + 1 = s.size
            · rw [if_pos (by omega)]
              have : b = true := hbb.2 ⟨h35, by rw [List.drop_of_length_le (by rw [len_bytesOf]; omega)]; simp⟩
              rw [this]
            · rw [if_neg (by omega), if_pos (by omega), if_pos (by omega)]
              rw [drop_cons s (q + 1) (by omega)] at hbb
              by_cases h123 : bt s ((q + 1 : Nat) : Int) = 123
              · have hbf : b = false := by
                  cases b with
                  | false => rfl
                  | true => exact absurd (by rw [h123]; rfl) (hbb.1 rfl).2
                rw [hbf, h123]; rfl
              · have hbt : b = true := hbb.2 ⟨h35, by simpa using h123⟩
                rw [hbt, show (bt s ((q + 1 : Nat) : Int) != 123) = true from bne_iff_ne.mpr h123]
          · rw [if_neg h35]
            have hbf : b = false := by
              cases b with
              | false => rfl
              | true => exact absurd (hbb.1 rfl).1 h35
            rw [hbf]
        by_cases hr : bt s q = 35 ∧ ((bytesOf s).drop (q + 1)).head? ≠ some 123
        · rw [ahead_remark hr.1 hr.2]
          refine hgo true _ ⟨fun _ => hr, fun _ => rfl⟩ ?_
          refine Ev.step (fun k => ?_) (j2_ends cs ws tot (by omega))
          simp only [mullionref09_Commands.j1]; rw [if_pos trivial]
        · rw [ahead_word hb' h59 hr, ← drop_cons s q hlt']
          refine hgo false _ ⟨fun h => (by cases h), fun h => absurd h hr⟩ ?_
          refine Ev.step (f := fun k => (mullionref09_word.f k s q).bind fun bt176 => (if bt176.2.1 < 0 then (some (([] : List (List ByteArray)), bt176.2.2, 90)) else (if ws.length < 8796093022208 then (mullionref09_Commands.l0 k s cs (ws ++ [bt176.1]) (wrap64 (tot + 1)) bt176.2.1) else (none)))) (fun k => ?_) ?_
          · simp only [mullionref09_Commands.j1]; rw [if_neg (by simp)]
          · rcases word_l0 hs _ q [] (Nat.le_refl _) hq (by simp) with ⟨w', e, h1, h2, h3, h4, h5⟩ | ⟨x, h1, h2, h3⟩
            · have hqe := h4 hlt' hb' h59
              rw [h5]
              refine Ev.bind (a := (strOfNums w', (e : Int), 0)) h1 ?_
              refine Ev.congr (f := fun k => mullionref09_Commands.l0 k s cs (ws ++ [strOfNums w']) (tot + 1) e) (fun k => ?_) (ih e cs (ws ++ [strOfNums w']) (tot + 1) (by omega) h2 (by omega) (by omega) (by simp; omega))
              rw [if_neg (by simp), if_pos (by omega), show wrap64 (tot + 1) = tot + 1 by unfold wrap64; omega]
            · rw [h3]
              refine Ev.bind (a := ((⟨#[]⟩ : ByteArray), -1, (x : Int))) h2 ?_
              refine Ev.congr (f := fun k => some (([] : List (List ByteArray)), (x : Int), 90)) (fun k => if_pos (by simp)) ?_
              simp only [commandsOf]
              rw [show ((s.size : Int) - ((s.size - x : Nat) : Int)) = (x : Int) by omega]
              exact Ev.now _
    · rw [List.drop_of_length_le (by rw [len_bytesOf]; omega), ahead_nil]
      refine Ev.step (fun k => ?_) (j2_ends cs ws tot (by omega))
      simp only [mullionref09_Commands.l0]; rw [if_neg (by omega)]
end

theorem commands_f (s : ByteArray) : Ev (fun k => mullionref09_Commands.f k s) (commandsF s) := by
  unfold mullionref09_Commands.f commandsF
  by_cases h : (s.size : Int) > 8192
  · exact Ev.congr (fun k => by rw [if_pos h, if_pos h]) (Ev.now _)
  · rw [if_neg h]
    refine Ev.congr (fun k => if_neg h) ?_
    have := commands_l0 (s := s) (by omega) s.size 0 [] [] 0 (by omega) (by omega) (by omega) (by omega) (by simp)
    simpa using this
end Go.Proofs.Ytfpbgchlemcpbaa.RefLaw
