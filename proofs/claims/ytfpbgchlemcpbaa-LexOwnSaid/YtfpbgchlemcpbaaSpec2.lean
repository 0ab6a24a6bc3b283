/- Small facts on the plain functions of a line: where the reading fails lies in the line. No condition. -/
import Derived.Test.YtfpbgchlemcpbaaSpec
namespace Go.Proofs.Ytfpbgchlemcpbaa.Mach
open Go.RowKit Go.Proofs.YtfpbgchlemcpbaaW.PrintWords Go.Proofs.YtfpbgchlemcpbaaW.PrintLast Go.Proofs.YtfpbgchlemcpbaaW.PrintMore

/-- An induction along the reading: what holds of every end, and comes back through every step. -/
theorem read_ind (A : List Int → List ByteArray → List (List ByteArray) → Int → Res → Prop) (W : List Int → List Int → List ByteArray → List (List ByteArray) → Int → Res → Prop)
    (a_nil : ∀ words cmds tot, A [] words cmds tot (.ok (endC words cmds) tot))
    (a_blank : ∀ c t words cmds tot R, isBlank c = true → A t words cmds tot R → A (c :: t) words cmds tot R)
    (a_semi : ∀ t words cmds tot R, A t [] (endC words cmds) tot R → A (59 :: t) words cmds tot R)
    (a_remark : ∀ t words cmds tot, t.head? ≠ some 123 → A (35 :: t) words cmds tot (.ok (endC words cmds) tot))
    (a_word : ∀ c t words cmds tot R, isBlank c = false → c ≠ 59 → ¬ (c = 35 ∧ t.head? ≠ some 123) → W (c :: t) [] words cmds tot R → A (c :: t) words cmds tot R)
    (w_nil : ∀ word words cmds tot, W [] word words cmds tot (.ok (endC (words ++ [strOfNums word]) cmds) (tot + 1)))
    (w_blank : ∀ c t word words cmds tot R, isBlank c = true → A t (words ++ [strOfNums word]) cmds (tot + 1) R → W (c :: t) word words cmds tot R)
    (w_semi : ∀ t word words cmds tot R, A t [] (endC (words ++ [strOfNums word]) cmds) (tot + 1) R → W (59 :: t) word words cmds tot R)
    (w_sgl_none : ∀ t word words cmds tot, sgl t word = none → W (39 :: t) word words cmds tot (.fail (t.length + 1)))
    (w_sgl : ∀ t word words cmds tot acc rest R, sgl t word = some (acc, rest) → W rest acc words cmds tot R → W (39 :: t) word words cmds tot R)
    (w_dbl_none : ∀ t word words cmds tot, dbl t word = none → W (34 :: t) word words cmds tot (.fail (t.length + 1)))
    (w_dbl : ∀ t word words cmds tot acc rest R, dbl t word = some (acc, rest) → W rest acc words cmds tot R → W (34 :: t) word words cmds tot R)
    (w_bs_end : ∀ word words cmds tot, W [92] word words cmds tot (.fail 1))
    (w_bs : ∀ c2 t word words cmds tot R, W t (word ++ [c2]) words cmds tot R → W (92 :: c2 :: t) word words cmds tot R)
    (w_other : ∀ c t word words cmds tot R, isBlank c = false → c ≠ 59 → c ≠ 39 → c ≠ 34 → c ≠ 92 → W t (word ++ [c]) words cmds tot R → W (c :: t) word words cmds tot R) :
    (∀ L words cmds tot, A L words cmds tot (ahead L words cmds tot)) ∧ (∀ L word words cmds tot, W L word words cmds tot (within L word words cmds tot)) := by
  have key : ∀ n, (∀ L words cmds tot, 2 * L.length + 1 ≤ n → A L words cmds tot (ahead L words cmds tot)) ∧ (∀ L word words cmds tot, 2 * L.length ≤ n → W L word words cmds tot (within L word words cmds tot)) := by
    intro n
    induction n with
    | zero =>
      refine ⟨fun L words cmds tot h => by omega, fun L word words cmds tot h => ?_⟩
      have : L = [] := List.length_eq_zero_iff.1 (by omega)
      subst this
      rw [within_nil]
      exact w_nil _ _ _ _
    | succ n ih =>
      refine ⟨fun L words cmds tot h => ?_, fun L word words cmds tot h => ?_⟩
      · match L with
        | [] => rw [ahead_nil]; exact a_nil _ _ _
        | c :: t =>
          simp only [List.length_cons] at h
          by_cases hb : isBlank c = true
          · rw [ahead_blank hb]; exact a_blank _ _ _ _ _ _ hb (ih.1 _ _ _ _ (by omega))
          · have hb' : isBlank c = false := by simpa using hb
            by_cases h59 : c = 59
            · subst h59; rw [ahead_semi rfl]; exact a_semi _ _ _ _ _ (ih.1 _ _ _ _ (by omega))
            · by_cases h35 : c = 35 ∧ t.head? ≠ some 123
              · obtain ⟨rfl, h2⟩ := h35
                rw [ahead_remark rfl h2]; exact a_remark _ _ _ _ h2
              · rw [ahead_word hb' h59 h35]; exact a_word _ _ _ _ _ _ hb' h59 h35 (ih.2 _ _ _ _ _ (by simp; omega))
      · match L with
        | [] => rw [within_nil]; exact w_nil _ _ _ _
        | c :: t =>
          simp only [List.length_cons] at h
          by_cases hb : isBlank c = true
          · rw [within_blank hb, ahead_blank hb]; exact w_blank _ _ _ _ _ _ _ hb (ih.1 _ _ _ _ (by omega))
          · have hb' : isBlank c = false := by simpa using hb
            by_cases h59 : c = 59
            · subst h59; rw [within_semi rfl, ahead_semi rfl]; exact w_semi _ _ _ _ _ _ (ih.1 _ _ _ _ (by omega))
            · by_cases h39 : c = 39
              · subst h39
                rcases hs : sgl t word with _ | ⟨acc, rest⟩
                · rw [within_sgl_none rfl hs]; exact w_sgl_none _ _ _ _ _ hs
                · have := sgl_len hs
                  rw [within_sgl rfl hs]; exact w_sgl _ _ _ _ _ _ _ _ hs (ih.2 _ _ _ _ _ (by omega))
              · by_cases h34 : c = 34
                · subst h34
                  rcases hs : dbl t word with _ | ⟨acc, rest⟩
                  · rw [within_dbl_none rfl hs]; exact w_dbl_none _ _ _ _ _ hs
                  · have := dbl_len t.length (Nat.le_refl _) hs
                    rw [within_dbl rfl hs]; exact w_dbl _ _ _ _ _ _ _ _ hs (ih.2 _ _ _ _ _ (by omega))
                · by_cases h92 : c = 92
                  · subst h92
                    match t, h with
                    | [], _ => rw [within_bs_end rfl]; exact w_bs_end _ _ _ _
                    | c2 :: t2, h => rw [within_bs rfl c2]; exact w_bs _ _ _ _ _ _ _ (ih.2 _ _ _ _ _ (by simp at h; omega))
                  · rw [within_other hb' h59 h39 h34 h92]; exact w_other _ _ _ _ _ _ _ hb' h59 h39 h34 h92 (ih.2 _ _ _ _ _ (by omega))
  exact ⟨fun L words cmds tot => (key _).1 L words cmds tot (Nat.le_refl _), fun L word words cmds tot => (key _).2 L word words cmds tot (Nat.le_refl _)⟩

def leftOk (len : Nat) : Res → Prop
  | .fail n => 1 ≤ n ∧ n ≤ len
  | .ok _ _ => True
theorem leftOk.mono {m n : Nat} {R : Res} (h : leftOk m R) (hmn : m ≤ n) : leftOk n R := by
  cases R with
  | fail k => exact ⟨h.1, Nat.le_trans h.2 hmn⟩
  | ok _ _ => trivial

theorem left_ok (L : List Int) (words : List ByteArray) (cmds : List (List ByteArray)) (tot : Int) : leftOk L.length (ahead L words cmds tot) := by
  refine (read_ind (fun L _ _ _ R => leftOk L.length R) (fun L _ _ _ _ R => leftOk L.length R) ?_ ?_ ?_ ?_ ?_ ?_ ?_ ?_ ?_ ?_ ?_ ?_ ?_ ?_ ?_).1 L words cmds tot
  · intros; trivial
  · intro c t _ _ _ _ _ h; exact h.mono (by simp)
  · intro t _ _ _ _ h; exact h.mono (by simp)
  · intros; trivial
  · intro c t _ _ _ _ _ _ _ h; exact h
  · intros; trivial
  · intro c t _ _ _ _ _ _ h; exact h.mono (by simp)
  · intro t _ _ _ _ _ h; exact h.mono (by simp)
  · intro t _ _ _ _ _; exact ⟨by omega, by simp⟩
  · intro t _ _ _ _ _ rest _ hs h; have := sgl_len hs; exact h.mono (by simp; omega)
  · intro t _ _ _ _ _; exact ⟨by omega, by simp⟩
  · intro t _ _ _ _ _ rest _ hs h; have := dbl_len t.length (Nat.le_refl _) hs; exact h.mono (by simp; omega)
  · intros; exact ⟨by omega, by simp⟩
  · intro _ t _ _ _ _ _ h; exact h.mono (by simp; omega)
  · intro c t _ _ _ _ _ _ _ _ _ _ h; exact h.mono (by simp)
end Go.Proofs.Ytfpbgchlemcpbaa.Mach
