/- Facts on the reading of a line, plain: what stands behind, what stands ahead, where it fails. No condition. -/
import Derived.Test.YtfpbgchlemcpbaaSpec2
namespace Go.Proofs.Ytfpbgchlemcpbaa.Mach
open Go.RowKit Go.Proofs.YtfpbgchlemcpbaaW.PrintWords Go.Proofs.YtfpbgchlemcpbaaW.PrintLast Go.Proofs.YtfpbgchlemcpbaaW.PrintMore

/-! what stands behind -/
theorem sgl_append : ∀ {t acc a r : List Int} (M : List Int), sgl t acc = some (a, r) → sgl (t ++ M) acc = some (a, r ++ M) := by
  intro t
  induction t with
  | nil => intro acc a r M h; simp [sgl] at h
  | cons c t ih =>
    intro acc a r M h
    simp only [List.cons_append, sgl] at h ⊢
    split at h
    · rename_i hc
      injection h with h; injection h with h1 h2
      rw [if_pos hc, h1, h2]
    · rename_i hc
      rw [if_neg hc]
      exact ih M h
theorem escL_append {t : List Int} {b : Int} {n : Nat} (M : List Int) (h : escL t = some (b, n)) (hd : dbl (t.drop n) [] ≠ none) : escL (t ++ M) = some (b, n) := by
  match t, h with
  | [a], h =>
    simp [escL] at h
    obtain ⟨rfl, rfl⟩ := h
    exfalso; apply hd; simp [dbl]
  | [a, c], h =>
    simp [escL] at h
    obtain ⟨rfl, rfl⟩ := h
    have hc : c = 34 := by
      apply Classical.byContradiction
      intro hc
      apply hd
      simp only [List.drop_succ_cons, List.drop_zero]
      rw [dbl, if_neg hc]
      split
      · rfl
      · rw [dbl]
    subst hc
    match M with
    | [] => rfl
    | m :: M => simp [escL, oct]
  | a :: b' :: c :: t, h => simpa [escL] using h
theorem dbl_none_acc (n : Nat) : ∀ {L : List Int} (acc acc' : List Int), L.length ≤ n → dbl L acc = none → dbl L acc' = none := by
  induction n with
  | zero =>
    intro L acc acc' hn h
    have : L = [] := List.length_eq_zero_iff.1 (by omega)
    subst this
    rw [dbl]
  | succ n ih =>
    intro L acc acc' hn h
    match L with
    | [] => rw [dbl]
    | c :: t =>
      rw [dbl] at h ⊢
      simp only [List.length_cons] at hn
      split at h
      · cases h
      · rename_i hc
        rw [if_neg hc]
        split at h
        · rename_i h2
          rw [if_pos h2]
          rcases he : escL t with _ | ⟨b, k⟩
          · rfl
          · rw [he] at h
            have := escL_len he
            exact ih _ _ (by simp; omega) h
        · rename_i h2
          rw [if_neg h2]
          exact ih _ _ (by omega) h
theorem dbl_append (n : Nat) : ∀ {t acc a r : List Int} (M : List Int), t.length ≤ n → dbl t acc = some (a, r) → dbl (t ++ M) acc = some (a, r ++ M) := by
  induction n with
  | zero =>
    intro t acc a r M hn h
    have : t = [] := List.length_eq_zero_iff.1 (by omega)
    subst this
    rw [dbl] at h
    cases h
  | succ n ih =>
    intro t acc a r M hn h
    match t with
    | [] => rw [dbl] at h; cases h
    | c :: t =>
      rw [List.cons_append, dbl]
      rw [dbl] at h
      simp only [List.length_cons] at hn
      split at h
      · rename_i hc
        injection h with h; injection h with h1 h2
        rw [if_pos hc, h1, h2]
      · rename_i hc
        rw [if_neg hc]
        split at h
        · rename_i h2
          rw [if_pos h2]
          rcases he : escL t with _ | ⟨b, k⟩
          · rw [he] at h; cases h
          · rw [he] at h
            have hl := escL_len he
            have hne : dbl (t.drop k) [] ≠ none := fun hx => by
              have := dbl_none_acc _ [] (acc ++ [b]) (Nat.le_refl _) hx
              simp only at h
              rw [this] at h; cases h
            rw [escL_append M he hne]
            simp only
            rw [List.drop_append_of_le_length hl.2]
            exact ih M (by simp; omega) h
        · rename_i h2
          rw [if_neg h2]
          exact ih M (by omega) h

inductive St where
  | ahead (ws : List ByteArray) (cs : List (List ByteArray)) (tot : Int)
  | within (word : List Int) (ws : List ByteArray) (cs : List (List ByteArray)) (tot : Int)
  | remark (ws : List ByteArray) (cs : List (List ByteArray)) (tot : Int)
def St.cont : St → List Int → Res
  | .ahead ws cs tot, M => Mach.ahead M ws cs tot
  | .within word ws cs tot, M => Mach.within M word ws cs tot
  | .remark ws cs tot, _ => .ok (endC ws cs) tot

/-- A line that is read, and what stands behind it. -/
theorem read_append : (∀ L ws cs tot, ∀ cmds t, ahead L ws cs tot = .ok cmds t → ∃ st : St, st.cont [] = .ok cmds t ∧ ∀ M : List Int, M.head? ≠ some 123 → ahead (L ++ M) ws cs tot = st.cont M) ∧
    (∀ L w ws cs tot, ∀ cmds t, within L w ws cs tot = .ok cmds t → ∃ st : St, st.cont [] = .ok cmds t ∧ ∀ M : List Int, M.head? ≠ some 123 → within (L ++ M) w ws cs tot = st.cont M) := by
  refine read_ind (fun L ws cs tot R => ∀ cmds t, R = .ok cmds t → ∃ st : St, st.cont [] = .ok cmds t ∧ ∀ M : List Int, M.head? ≠ some 123 → ahead (L ++ M) ws cs tot = st.cont M)
    (fun L w ws cs tot R => ∀ cmds t, R = .ok cmds t → ∃ st : St, st.cont [] = .ok cmds t ∧ ∀ M : List Int, M.head? ≠ some 123 → within (L ++ M) w ws cs tot = st.cont M) ?_ ?_ ?_ ?_ ?_ ?_ ?_ ?_ ?_ ?_ ?_ ?_ ?_ ?_ ?_
  · intro ws cs tot cmds t h
    exact ⟨.ahead ws cs tot, by rw [← h]; simp only [St.cont]; rw [ahead_nil], fun M _ => rfl⟩
  · intro c t ws cs tot R hb ih cmds n h
    obtain ⟨st, h1, h2⟩ := ih cmds n h
    exact ⟨st, h1, fun M hM => by rw [List.cons_append, ahead_blank hb]; exact h2 M hM⟩
  · intro t ws cs tot R ih cmds n h
    obtain ⟨st, h1, h2⟩ := ih cmds n h
    exact ⟨st, h1, fun M hM => by rw [List.cons_append, ahead_semi rfl]; exact h2 M hM⟩
  · intro t ws cs tot ht cmds n h
    refine ⟨.remark ws cs tot, h, fun M hM => ?_⟩
    rw [List.cons_append, ahead_remark rfl]
    · rfl
    · cases t with
      | nil => exact hM
      | cons a t => exact ht
  · intro c t ws cs tot R hb h59 hr ih cmds n h
    obtain ⟨st, h1, h2⟩ := ih cmds n h
    refine ⟨st, h1, fun M hM => ?_⟩
    rw [List.cons_append, ahead_word hb h59]
    · exact h2 M hM
    · rintro ⟨h35, hne⟩
      apply hr
      refine ⟨h35, ?_⟩
      cases t with
      | nil => simp
      | cons a t => exact hne
  · intro w ws cs tot cmds t h
    exact ⟨.within w ws cs tot, by rw [← h]; simp only [St.cont]; rw [within_nil], fun M _ => rfl⟩
  · intro c t w ws cs tot R hb ih cmds n h
    obtain ⟨st, h1, h2⟩ := ih cmds n h
    exact ⟨st, h1, fun M hM => by rw [List.cons_append, within_blank hb, ahead_blank hb]; exact h2 M hM⟩
  · intro t w ws cs tot R ih cmds n h
    obtain ⟨st, h1, h2⟩ := ih cmds n h
    exact ⟨st, h1, fun M hM => by rw [List.cons_append, within_semi rfl, ahead_semi rfl]; exact h2 M hM⟩
  · intro t w ws cs tot _ cmds n h; cases h
  · intro t w ws cs tot acc rest R hs ih cmds n h
    obtain ⟨st, h1, h2⟩ := ih cmds n h
    exact ⟨st, h1, fun M hM => by rw [List.cons_append, within_sgl rfl (sgl_append M hs)]; exact h2 M hM⟩
  · intro t w ws cs tot _ cmds n h; cases h
  · intro t w ws cs tot acc rest R hs ih cmds n h
    obtain ⟨st, h1, h2⟩ := ih cmds n h
    exact ⟨st, h1, fun M hM => by rw [List.cons_append, within_dbl rfl (dbl_append _ M (Nat.le_refl _) hs)]; exact h2 M hM⟩
  · intro w ws cs tot cmds n h; cases h
  · intro c2 t w ws cs tot R ih cmds n h
    obtain ⟨st, h1, h2⟩ := ih cmds n h
    exact ⟨st, h1, fun M hM => by rw [List.cons_append, List.cons_append, within_bs rfl]; exact h2 M hM⟩
  · intro c t w ws cs tot R hb h1 h2 h3 h4 ih cmds n h
    obtain ⟨st, h5, h6⟩ := ih cmds n h
    exact ⟨st, h5, fun M hM => by rw [List.cons_append, within_other hb h1 h2 h3 h4]; exact h6 M hM⟩

/-! what stands ahead -/
def Res.shift (c0 : List (List ByteArray)) (t0 : Int) : Res → Res
  | .fail n => .fail n
  | .ok cmds tot => .ok (c0 ++ cmds) (t0 + tot)
theorem endC_shift (c0 : List (List ByteArray)) (ws : List ByteArray) (cs : List (List ByteArray)) : endC ws (c0 ++ cs) = c0 ++ endC ws cs := by
  unfold endC
  split
  · rfl
  · rw [List.append_assoc]
theorem read_shift (c0 : List (List ByteArray)) (t0 : Int) : (∀ L ws cs tot, ahead L ws (c0 ++ cs) (t0 + tot) = (ahead L ws cs tot).shift c0 t0) ∧ (∀ L w ws cs tot, within L w ws (c0 ++ cs) (t0 + tot) = (within L w ws cs tot).shift c0 t0) := by
  refine read_ind (fun L ws cs tot R => ahead L ws (c0 ++ cs) (t0 + tot) = R.shift c0 t0) (fun L w ws cs tot R => within L w ws (c0 ++ cs) (t0 + tot) = R.shift c0 t0) ?_ ?_ ?_ ?_ ?_ ?_ ?_ ?_ ?_ ?_ ?_ ?_ ?_ ?_ ?_
  · intro ws cs tot; rw [ahead_nil, endC_shift]; rfl
  · intro c t ws cs tot R hb ih; rw [ahead_blank hb]; exact ih
  · intro t ws cs tot R ih; rw [ahead_semi rfl, endC_shift]; exact ih
  · intro t ws cs tot ht; rw [ahead_remark rfl ht, endC_shift]; rfl
  · intro c t ws cs tot R hb h59 hr ih; rw [ahead_word hb h59 hr]; exact ih
  · intro w ws cs tot; rw [within_nil, endC_shift, Int.add_assoc]; rfl
  · intro c t w ws cs tot R hb ih; rw [within_blank hb, ahead_blank hb, Int.add_assoc]; exact ih
  · intro t w ws cs tot R ih; rw [within_semi rfl, ahead_semi rfl, endC_shift, Int.add_assoc]; exact ih
  · intro t w ws cs tot hs; rw [within_sgl_none rfl hs]; rfl
  · intro t w ws cs tot acc rest R hs ih; rw [within_sgl rfl hs]; exact ih
  · intro t w ws cs tot hs; rw [within_dbl_none rfl hs]; rfl
  · intro t w ws cs tot acc rest R hs ih; rw [within_dbl rfl hs]; exact ih
  · intro w ws cs tot; rw [within_bs_end rfl]; rfl
  · intro c2 t w ws cs tot R ih; rw [within_bs rfl]; exact ih
  · intro c t w ws cs tot R hb h1 h2 h3 h4 ih; rw [within_other hb h1 h2 h3 h4]; exact ih

/-! where it fails -/
theorem sgl_take : ∀ {t acc a r : List Int}, sgl t acc = some (a, r) → ∀ j, j ≤ r.length → sgl (t.take (t.length - r.length + j)) acc = some (a, r.take j) := by
  intro t
  induction t with
  | nil => intro acc a r h; simp [sgl] at h
  | cons c t ih =>
    intro acc a r h j hj
    have hl := sgl_len h
    simp only [List.length_cons] at hl ⊢
    simp only [sgl] at h
    split at h
    · rename_i hc
      injection h with h; injection h with h1 h2
      subst h1; subst h2
      rw [show t.length + 1 - t.length + j = j + 1 by omega, List.take_succ_cons]
      simp only [sgl]
      rw [if_pos hc]
    · rename_i hc
      have hl2 := sgl_len h
      rw [show t.length + 1 - r.length + j = (t.length - r.length + j) + 1 by omega, List.take_succ_cons]
      simp only [sgl]
      rw [if_neg hc]
      exact ih h j hj
theorem escL_take {t : List Int} {b : Int} {n : Nat} (h : escL t = some (b, n)) (j : Nat) (hj : n ≤ j) : escL (t.take j) = some (b, n) := by
  have hl := escL_len h
  match t, h with
  | [a], h =>
    obtain ⟨j, rfl⟩ : ∃ i, j = i + 1 := ⟨j - 1, by omega⟩
    simpa using h
  | [a, c], h =>
    obtain ⟨j, rfl⟩ : ∃ i, j = i + 1 := ⟨j - 1, by omega⟩
    match j with
    | 0 => simpa [escL] using h
    | j + 1 => simpa using h
  | a :: b' :: c :: t, h =>
    obtain ⟨j, rfl⟩ : ∃ i, j = i + 1 := ⟨j - 1, by omega⟩
    simp only [escL] at h
    match j with
    | 0 =>
      split at h
      · injection h with h; injection h with _ h2; omega
      · simpa [escL] using h
    | 1 =>
      split at h
      · injection h with h; injection h with _ h2; omega
      · simpa [escL] using h
    | j + 2 => simpa [escL] using h
theorem dbl_take (n : Nat) : ∀ {t acc a r : List Int}, t.length ≤ n → dbl t acc = some (a, r) → ∀ j, j ≤ r.length → dbl (t.take (t.length - r.length + j)) acc = some (a, r.take j) := by
  induction n with
  | zero =>
    intro t acc a r hn h
    have : t = [] := List.length_eq_zero_iff.1 (by omega)
    subst this
    rw [dbl] at h
    cases h
  | succ n ih =>
    intro t acc a r hn h j hj
    match t with
    | [] => rw [dbl] at h; cases h
    | c :: t =>
      have hl := dbl_len _ (Nat.le_refl _) h
      simp only [List.length_cons] at hl hn ⊢
      rw [dbl] at h
      split at h
      · rename_i hc
        injection h with h; injection h with h1 h2
        subst h1; subst h2
        rw [show t.length + 1 - t.length + j = j + 1 by omega, List.take_succ_cons, dbl, if_pos hc]
      · rename_i hc
        split at h
        · rename_i h2
          rcases he : escL t with _ | ⟨b, k⟩
          · rw [he] at h; cases h
          · rw [he] at h
            simp only at h
            have hk := escL_len he
            have hl2 := dbl_len _ (Nat.le_refl _) h
            simp only [List.length_drop] at hl2
            rw [show t.length + 1 - r.length + j = (t.length - r.length + j) + 1 by omega, List.take_succ_cons, dbl, if_neg hc, if_pos h2, escL_take he _ (by omega)]
            simp only
            rw [List.drop_take, show t.length - r.length + j - k = (t.drop k).length - r.length + j by simp; omega]
            exact ih (by simp; omega) h j hj
        · rename_i h2
          have hl2 := dbl_len _ (Nat.le_refl _) h
          rw [show t.length + 1 - r.length + j = (t.length - r.length + j) + 1 by omega, List.take_succ_cons, dbl, if_neg hc, if_neg h2]
          exact ih (by omega) h j hj

def FailA (L : List Int) (ws : List ByteArray) (cs : List (List ByteArray)) (tot : Int) (n : Nat) : Prop :=
  1 ≤ n ∧ n ≤ L.length ∧ (∃ c, L[L.length - n]? = some c ∧ (c = 39 ∨ c = 34 ∨ c = 92)) ∧ ∃ cmds t, ahead (L.take (L.length - n)) ws cs tot = .ok cmds t
def FailW (L w : List Int) (ws : List ByteArray) (cs : List (List ByteArray)) (tot : Int) (n : Nat) : Prop :=
  1 ≤ n ∧ n ≤ L.length ∧ (∃ c, L[L.length - n]? = some c ∧ (c = 39 ∨ c = 34 ∨ c = 92)) ∧ ∃ cmds t, within (L.take (L.length - n)) w ws cs tot = .ok cmds t
/-- Where the reading fails stands a quote or a backslash, and what is ahead of it is read. -/
theorem read_fail : (∀ L ws cs tot n, ahead L ws cs tot = .fail n → FailA L ws cs tot n) ∧ (∀ L w ws cs tot n, within L w ws cs tot = .fail n → FailW L w ws cs tot n) := by
  have cons : ∀ (c : Int) (t : List Int) (n : Nat), n ≤ t.length → (c :: t).length - n = (t.length - n) + 1 := fun c t n h => by simp only [List.length_cons]; omega
  refine read_ind (fun L ws cs tot R => ∀ n, R = .fail n → FailA L ws cs tot n) (fun L w ws cs tot R => ∀ n, R = .fail n → FailW L w ws cs tot n) ?_ ?_ ?_ ?_ ?_ ?_ ?_ ?_ ?_ ?_ ?_ ?_ ?_ ?_ ?_
  · intro ws cs tot n h; cases h
  · intro c t ws cs tot R hb ih n h
    obtain ⟨h0, h1, h2, cmds, t', h3⟩ := ih n h
    refine ⟨h0, by simp; omega, ?_, cmds, t', ?_⟩
    · rw [cons c t n h1]; simpa using h2
    · rw [cons c t n h1, List.take_succ_cons, ahead_blank hb]; exact h3
  · intro t ws cs tot R ih n h
    obtain ⟨h0, h1, h2, cmds, t', h3⟩ := ih n h
    refine ⟨h0, by simp; omega, ?_, cmds, t', ?_⟩
    · rw [cons 59 t n h1]; simpa using h2
    · rw [cons 59 t n h1, List.take_succ_cons, ahead_semi rfl]; exact h3
  · intro t ws cs tot _ n h; cases h
  · intro c t ws cs tot R hb h59 hr ih n h
    obtain ⟨h0, h1, h2, cmds, t', h3⟩ := ih n h
    refine ⟨h0, h1, h2, ?_⟩
    by_cases hn : n = (c :: t).length
    · subst hn
      rw [Nat.sub_self, List.take_zero, ahead_nil]
      exact ⟨_, _, rfl⟩
    · have hn1 : n ≤ t.length := by simp only [List.length_cons] at h1 hn; omega
      rw [cons c t n hn1, List.take_succ_cons] at h3 ⊢
      by_cases hr2 : c = 35 ∧ (t.take (t.length - n)).head? ≠ some 123
      · rw [ahead_remark hr2.1 hr2.2]; exact ⟨_, _, rfl⟩
      · rw [ahead_word hb h59 hr2]; exact ⟨_, _, h3⟩
  · intro w ws cs tot n h; cases h
  · intro c t w ws cs tot R hb ih n h
    obtain ⟨h0, h1, h2, cmds, t', h3⟩ := ih n h
    refine ⟨h0, by simp; omega, ?_, cmds, t', ?_⟩
    · rw [cons c t n h1]; simpa using h2
    · rw [cons c t n h1, List.take_succ_cons, within_blank hb, ahead_blank hb]; exact h3
  · intro t w ws cs tot R ih n h
    obtain ⟨h0, h1, h2, cmds, t', h3⟩ := ih n h
    refine ⟨h0, by simp; omega, ?_, cmds, t', ?_⟩
    · rw [cons 59 t n h1]; simpa using h2
    · rw [cons 59 t n h1, List.take_succ_cons, within_semi rfl, ahead_semi rfl]; exact h3
  · intro t w ws cs tot _ n h
    injection h with h; subst h
    refine ⟨by omega, by simp, ⟨39, by simp, .inl rfl⟩, ?_⟩
    simp only [List.length_cons, Nat.sub_self, List.take_zero]
    rw [within_nil]; exact ⟨_, _, rfl⟩
  · intro t w ws cs tot acc rest R hs ih n h
    obtain ⟨h0, h1, ⟨c, h2, h2'⟩, cmds, t', h3⟩ := ih n h
    have hl := sgl_len hs
    have hn1 : n ≤ t.length := by omega
    have ht := sgl_take hs (rest.length - n) (by omega)
    obtain ⟨k, hk⟩ : ∃ k, rest = t.drop k ∧ k + rest.length = t.length := by
      have hsuf : ∀ {L acc a r : List Int}, sgl L acc = some (a, r) → ∃ k, r = L.drop k ∧ k + r.length = L.length := by
        intro L
        induction L with
        | nil => intro acc a r h; simp [sgl] at h
        | cons c t ih =>
          intro acc a r h
          simp only [sgl] at h
          split at h
          · injection h with h; injection h with h1 h2; exact ⟨1, by simp [h2], by simp [h2]; omega⟩
          · obtain ⟨k, h1, h2⟩ := ih h
            exact ⟨k + 1, by simpa using h1, by simp; omega⟩
      exact hsuf hs
    refine ⟨h0, by simp; omega, ⟨c, ?_, h2'⟩, cmds, t', ?_⟩
    · rw [cons 39 t n hn1, List.getElem?_cons_succ, ← h2, hk.1, List.getElem?_drop]
      congr 1; simp; omega
    · rw [cons 39 t n hn1, List.take_succ_cons, show t.length - n = t.length - rest.length + (rest.length - n) by omega, within_sgl rfl ht]; exact h3
  · intro t w ws cs tot _ n h
    injection h with h; subst h
    refine ⟨by omega, by simp, ⟨34, by simp, .inr (.inl rfl)⟩, ?_⟩
    simp only [List.length_cons, Nat.sub_self, List.take_zero]
    rw [within_nil]; exact ⟨_, _, rfl⟩
  · intro t w ws cs tot acc rest R hs ih n h
    obtain ⟨h0, h1, ⟨c, h2, h2'⟩, cmds, t', h3⟩ := ih n h
    have hl := dbl_len _ (Nat.le_refl _) hs
    have hn1 : n ≤ t.length := by omega
    have ht := dbl_take _ (Nat.le_refl _) hs (rest.length - n) (by omega)
    obtain ⟨k, hk⟩ : ∃ k, rest = t.drop k ∧ k + rest.length = t.length := by
      have hsuf : ∀ (m : Nat) {L acc a r : List Int}, L.length ≤ m → dbl L acc = some (a, r) → ∃ k, r = L.drop k ∧ k + r.length = L.length := by
        intro m
        induction m with
        | zero =>
          intro L acc a r hm h
          have : L = [] := List.length_eq_zero_iff.1 (by omega)
          subst this
          rw [dbl] at h
          cases h
        | succ m ih =>
          intro L acc a r hm h
          match L with
          | [] => rw [dbl] at h; cases h
          | c :: t =>
            rw [dbl] at h
            simp only [List.length_cons] at hm ⊢
            split at h
            · injection h with h; injection h with h1 h2; exact ⟨1, by simp [h2], by rw [h2]; omega⟩
            · split at h
              · rcases he : escL t with _ | ⟨b, k⟩
                · rw [he] at h; cases h
                · rw [he] at h
                  have hk := escL_len he
                  obtain ⟨i, h1, h2⟩ := ih (by simp; omega) h
                  simp only [List.length_drop] at h2
                  exact ⟨k + i + 1, by rw [h1, List.drop_drop]; simp, by omega⟩
              · obtain ⟨k, h1, h2⟩ := ih (by omega) h
                exact ⟨k + 1, by simpa using h1, by omega⟩
      exact hsuf _ (Nat.le_refl _) hs
    refine ⟨h0, by simp; omega, ⟨c, ?_, h2'⟩, cmds, t', ?_⟩
    · rw [cons 34 t n hn1, List.getElem?_cons_succ, ← h2, hk.1, List.getElem?_drop]
      congr 1; simp; omega
    · rw [cons 34 t n hn1, List.take_succ_cons, show t.length - n = t.length - rest.length + (rest.length - n) by omega, within_dbl rfl ht]; exact h3
  · intro w ws cs tot n h
    injection h with h; subst h
    refine ⟨by omega, by simp, ⟨92, by simp, .inr (.inr rfl)⟩, ?_⟩
    simp only [List.length_cons, List.length_nil, Nat.zero_add, Nat.sub_self, List.take_zero]
    rw [within_nil]; exact ⟨_, _, rfl⟩
  · intro c2 t w ws cs tot R ih n h
    obtain ⟨h0, h1, h2, cmds, t', h3⟩ := ih n h
    refine ⟨h0, by simp; omega, ?_, cmds, t', ?_⟩
    · rw [show (92 :: c2 :: t).length - n = (t.length - n) + 1 + 1 by simp; omega]; simpa using h2
    · rw [show (92 :: c2 :: t).length - n = (t.length - n) + 1 + 1 by simp; omega, List.take_succ_cons, List.take_succ_cons, within_bs rfl]; exact h3
  · intro c t w ws cs tot R hb h59 h39 h34 h92 ih n h
    obtain ⟨h0, h1, h2, cmds, t', h3⟩ := ih n h
    refine ⟨h0, by simp; omega, ?_, cmds, t', ?_⟩
    · rw [cons c t n h1]; simpa using h2
    · rw [cons c t n h1, List.take_succ_cons, within_other hb h59 h39 h34 h92]; exact h3
end Go.Proofs.Ytfpbgchlemcpbaa.Mach
