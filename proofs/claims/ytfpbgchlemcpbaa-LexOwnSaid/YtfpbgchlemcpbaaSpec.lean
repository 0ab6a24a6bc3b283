/- What a line of commands is, as plain functions on a list of numbers: the pieces in quotes, the words, the commands. No condition. -/
import Derived.Test.YtfpbgchlemcpbaaPQx0
namespace Go.Proofs.Ytfpbgchlemcpbaa.Mach
open Go.RowKit Go.Proofs.YtfpbgchlemcpbaaW.PrintWords Go.Proofs.YtfpbgchlemcpbaaW.PrintLast Go.Proofs.YtfpbgchlemcpbaaW.PrintMore

/-- what one sign behind a backslash means -/
def esc1 (c : Int) : Int := if c = 110 then 10 else if c = 116 then 9 else if c = 114 then 13 else if c = 101 then 27 else c
def oct (c : Int) : Bool := decide (48 ≤ c) && decide (c ≤ 55)
def oval (a b c : Int) : Int := 8 * (8 * (a - 48) + (b - 48)) + (c - 48)
/-- what stands behind a backslash in double quotes: the byte, and how many are read -/
def escL : List Int → Option (Int × Nat)
  | [] => none
  | [a] => some (esc1 a, 1)
  | [a, _] => some (esc1 a, 1)
  | a :: b :: c :: _ => if oct a && oct b && oct c && decide (oval a b c ≤ 255) then some (oval a b c, 3) else some (esc1 a, 1)

theorem escL_len {L : List Int} {b : Int} {n : Nat} (h : escL L = some (b, n)) : 1 ≤ n ∧ n ≤ L.length := by
  match L, h with
  | [a], h => simp [escL] at h; simp; omega
  | [a, _], h => simp [escL] at h; simp; omega
  | a :: b' :: c :: t, h =>
    simp only [escL] at h
    split at h <;> (injection h with h; injection h with h1 h2; subst h2; simp)

/-- a piece in double quotes, from behind the first one: its bytes behind acc, what is left; none: it does not end -/
def dbl (L : List Int) (acc : List Int) : Option (List Int × List Int) :=
  match L with
  | [] => none
  | c :: t =>
    if c = 34 then some (acc, t)
    else if c = 92 then
      match escL t with
      | none => none
      | some (b, n) => dbl (t.drop n) (acc ++ [b])
    else dbl t (acc ++ [c])
termination_by L.length
decreasing_by all_goals (simp; try omega)

/-- a piece in single quotes -/
def sgl (L : List Int) (acc : List Int) : Option (List Int × List Int) :=
  match L with
  | [] => none
  | c :: t => if c = 39 then some (acc, t) else sgl t (acc ++ [c])

theorem sgl_len : ∀ {L acc acc' rest : List Int}, sgl L acc = some (acc', rest) → rest.length + 1 ≤ L.length ∧ acc'.length + rest.length + 1 = acc.length + L.length := by
  intro L
  induction L with
  | nil => intro acc acc' rest h; simp [sgl] at h
  | cons c t ih =>
    intro acc acc' rest h
    simp only [sgl] at h
    split at h
    · injection h with h; injection h with h1 h2; subst h1; subst h2; simp; omega
    · have := ih h; simp at this ⊢; omega

theorem dbl_len (n : Nat) : ∀ {L acc acc' rest : List Int}, L.length ≤ n → dbl L acc = some (acc', rest) → rest.length + 1 ≤ L.length ∧ acc'.length + rest.length + 1 ≤ acc.length + L.length := by
  induction n with
  | zero =>
    intro L acc acc' rest hn h
    have : L = [] := List.length_eq_zero_iff.1 (by omega)
    subst this
    rw [dbl] at h
    cases h
  | succ n ih =>
    intro L acc acc' rest hn h
    match L with
    | [] => rw [dbl] at h; cases h
    | c :: t =>
      rw [dbl] at h
      simp only [List.length_cons] at hn ⊢
      split at h
      · injection h with h; injection h with h1 h2; subst h1; subst h2; omega
      · split at h
        · split at h
          · cases h
          · rename_i b k hk
            have hl := escL_len hk
            have := ih (by simp; omega) h
            simp at this ⊢
            omega
        · have := ih (by omega) h
          simp at this ⊢
          omega

inductive Res where
  | fail (left : Nat)
  | ok (cmds : List (List ByteArray)) (tot : Int)

def endC (words : List ByteArray) (cmds : List (List ByteArray)) : List (List ByteArray) := if words = [] then cmds else cmds ++ [words]
def isBlank (c : Int) : Bool := c == 32 || c == 9

mutual
/-- ahead of a word -/
def ahead (L : List Int) (words : List ByteArray) (cmds : List (List ByteArray)) (tot : Int) : Res :=
  match L with
  | [] => .ok (endC words cmds) tot
  | c :: t =>
    if isBlank c then ahead t words cmds tot
    else if c = 59 then ahead t [] (endC words cmds) tot
    else if c = 35 ∧ t.head? ≠ some 123 then .ok (endC words cmds) tot
    else within (c :: t) [] words cmds tot
termination_by 2 * L.length + 1
decreasing_by all_goals (simp; try omega)
/-- within a word -/
def within (L : List Int) (word : List Int) (words : List ByteArray) (cmds : List (List ByteArray)) (tot : Int) : Res :=
  match L with
  | [] => .ok (endC (words ++ [strOfNums word]) cmds) (tot + 1)
  | c :: t =>
    if isBlank c then ahead t (words ++ [strOfNums word]) cmds (tot + 1)
    else if c = 59 then ahead t [] (endC (words ++ [strOfNums word]) cmds) (tot + 1)
    else if c = 39 then
      match h : sgl t word with
      | none => .fail (t.length + 1)
      | some (w', r) => within r w' words cmds tot
    else if c = 34 then
      match h : dbl t word with
      | none => .fail (t.length + 1)
      | some (w', r) => within r w' words cmds tot
    else if c = 92 then
      match t with
      | [] => .fail 1
      | c2 :: t2 => within t2 (word ++ [c2]) words cmds tot
    else within t (word ++ [c]) words cmds tot
termination_by 2 * L.length
decreasing_by all_goals first
  | (have := sgl_len h; simp; omega)
  | (have := dbl_len t.length (Nat.le_refl _) h; simp; omega)
  | (simp; try omega)
end

section
variable {c : Int} {t word acc rest : List Int} {words : List ByteArray} {cmds : List (List ByteArray)} {tot : Int}
theorem within_nil : within [] word words cmds tot = .ok (endC (words ++ [strOfNums word]) cmds) (tot + 1) := by rw [within.eq_def]
theorem within_blank (h : isBlank c = true) : within (c :: t) word words cmds tot = ahead (c :: t) (words ++ [strOfNums word]) cmds (tot + 1) := by
  rw [within.eq_def, ahead.eq_def]
  simp [h]
theorem within_semi (h : c = 59) : within (c :: t) word words cmds tot = ahead (c :: t) (words ++ [strOfNums word]) cmds (tot + 1) := by
  subst h
  rw [within.eq_def, ahead.eq_def]
  simp [isBlank]
theorem within_sgl_none (h : c = 39) (hs : sgl t word = none) : within (c :: t) word words cmds tot = .fail (t.length + 1) := by
  subst h
  rw [within.eq_def]
  simp only [isBlank]
  rw [if_neg (by decide), if_neg (by decide), if_pos trivial]
  split
  · rfl
  · rename_i h2; rw [hs] at h2; cases h2
theorem within_sgl (h : c = 39) (hs : sgl t word = some (acc, rest)) : within (c :: t) word words cmds tot = within rest acc words cmds tot := by
  subst h
  rw [within.eq_def]
  simp only [isBlank]
  rw [if_neg (by decide), if_neg (by decide), if_pos trivial]
  split
  · rename_i h2; rw [hs] at h2; cases h2
  · rename_i h2; rw [hs] at h2; cases h2; rfl
theorem within_dbl_none (h : c = 34) (hs : dbl t word = none) : within (c :: t) word words cmds tot = .fail (t.length + 1) := by
  subst h
  rw [within.eq_def]
  simp only [isBlank]
  rw [if_neg (by decide), if_neg (by decide), if_neg (by decide), if_pos trivial]
  split
  · rfl
  · rename_i h2; rw [hs] at h2; cases h2
theorem within_dbl (h : c = 34) (hs : dbl t word = some (acc, rest)) : within (c :: t) word words cmds tot = within rest acc words cmds tot := by
  subst h
  rw [within.eq_def]
  simp only [isBlank]
  rw [if_neg (by decide), if_neg (by decide), if_neg (by decide), if_pos trivial]
  split
  · rename_i h2; rw [hs] at h2; cases h2
  · rename_i h2; rw [hs] at h2; cases h2; rfl
theorem within_bs_end (h : c = 92) : within [c] word words cmds tot = .fail 1 := by
  subst h
  rw [within.eq_def]
  simp [isBlank]
theorem within_bs (h : c = 92) (c2 : Int) : within (c :: c2 :: t) word words cmds tot = within t (word ++ [c2]) words cmds tot := by
  subst h
  rw [within.eq_def]
  simp [isBlank]
theorem within_other (h1 : isBlank c = false) (h2 : c ≠ 59) (h3 : c ≠ 39) (h4 : c ≠ 34) (h5 : c ≠ 92) : within (c :: t) word words cmds tot = within t (word ++ [c]) words cmds tot := by
  rw [within.eq_def]
  simp [h1, h2, h3, h4, h5]
theorem ahead_nil : ahead [] words cmds tot = .ok (endC words cmds) tot := by rw [ahead.eq_def]
theorem ahead_blank (h : isBlank c = true) : ahead (c :: t) words cmds tot = ahead t words cmds tot := by
  rw [ahead.eq_def]
  simp [h]
theorem ahead_semi (h : c = 59) : ahead (c :: t) words cmds tot = ahead t [] (endC words cmds) tot := by
  subst h
  rw [ahead.eq_def]
  simp [isBlank]
theorem ahead_remark (h : c = 35) (h2 : t.head? ≠ some 123) : ahead (c :: t) words cmds tot = .ok (endC words cmds) tot := by
  subst h
  rw [ahead.eq_def]
  simp [isBlank, h2]
theorem ahead_word (h1 : isBlank c = false) (h2 : c ≠ 59) (h3 : ¬ (c = 35 ∧ t.head? ≠ some 123)) : ahead (c :: t) words cmds tot = within (c :: t) [] words cmds tot := by
  rw [ahead.eq_def]
  simp only [h1, Bool.false_eq_true, if_false]
  rw [if_neg h2, if_neg h3]
end
end Go.Proofs.Ytfpbgchlemcpbaa.Mach
