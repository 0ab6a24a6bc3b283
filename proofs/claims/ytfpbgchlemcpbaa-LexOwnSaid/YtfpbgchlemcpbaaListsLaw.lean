/- The law LexLists, plain: what line writes is read back as the lists it was written of. Condition: the lists' bulk is small. -/
import Derived.Test.YtfpbgchlemcpbaaPLx2
import Derived.Test.YtfpbgchlemcpbaaSame
import Derived.Test.YtfpbgchlemcpbaaCmdF
import Derived.Test.YtfpbgchlemcpbaaReads
import Derived.Test.YtfpbgchlemcpbaaQuoteRead
namespace Go.Proofs.Ytfpbgchlemcpbaa.LexLaws
open Go.RowKit Go.Proofs.Ytfpbgchlemcpbaa.PL Go.Proofs.Ytfpbgchlemcpbaa.Mach Go.Proofs.Ytfpbgchlemcpbaa.QuoteLaw Go.Proofs.YtfpbgchlemcpbaaW.PrintWords Go.Proofs.YtfpbgchlemcpbaaW.PrintLast
/-- what line writes, as numbers -/
def rowL : Bool → List ByteArray → List Int
  | _, [] => []
  | first, w :: ws => (if first then [] else [32]) ++ (bytesOf (quoteB w) ++ rowL false ws)
def lineL : Bool → List (List ByteArray) → List Int
  | _, [] => []
  | first, r :: rs => (if first then [] else [59]) ++ (rowL true r ++ lineL false rs)
theorem within_end {rest : List Int} (h : rest = [] ∨ rest.head? = some 59) (w : ByteArray) (W : List ByteArray) (cs : List (List ByteArray)) (tot : Int) :
    Mach.within rest (bytesOf w) W cs tot = Mach.ahead rest (W ++ [w]) cs (tot + 1) := by
  rcases h with rfl | h
  · rw [within_nil, ahead_nil, str_bytesOf]
  · match rest, h with
    | c :: t, h =>
      simp only [List.head?_cons, Option.some.injEq] at h
      rw [within_semi h, str_bytesOf]
theorem row_read : ∀ (ws : List ByteArray) (w : ByteArray) (W : List ByteArray) (cs : List (List ByteArray)) (tot : Int) (rest : List Int), (rest = [] ∨ rest.head? = some 59) →
    Mach.within (rowL false ws ++ rest) (bytesOf w) W cs tot = Mach.ahead rest (W ++ w :: ws) cs (tot + ((ws.length : Int) + 1)) := by
  intro ws
  induction ws with
  | nil => intro w W cs tot rest h; rw [show rowL false [] = [] from rfl, List.nil_append, within_end h]; simp
  | cons v ws ih =>
    intro w W cs tot rest h
    have e : rowL false (v :: ws) ++ rest = 32 :: (bytesOf (quoteB v) ++ (rowL false ws ++ rest)) := by
      rw [rowL, if_neg (by decide)]; simp
    rw [e, within_blank rfl, ahead_blank rfl, str_bytesOf, read_quoted, ih v _ _ _ _ h, List.append_assoc]
    congr 1
    simp only [List.length_cons]
    omega
theorem row_read1 (r : List ByteArray) (hr : r ≠ []) (cs : List (List ByteArray)) (tot : Int) (rest : List Int) (h : rest = [] ∨ rest.head? = some 59) :
    Mach.ahead (rowL true r ++ rest) [] cs tot = Mach.ahead rest r cs (tot + (r.length : Int)) := by
  match r, hr with
  | w :: ws, _ =>
    have e : rowL true (w :: ws) ++ rest = bytesOf (quoteB w) ++ (rowL false ws ++ rest) := by
      rw [rowL, if_pos rfl]; simp
    rw [e, read_quoted, row_read ws w [] cs tot rest h, List.nil_append]
    simp
theorem line_head (rs : List (List ByteArray)) : lineL false rs = [] ∨ (lineL false rs).head? = some 59 := by
  cases rs with
  | nil => exact .inl rfl
  | cons r rs => right; rw [lineL, if_neg (by decide)]; rfl
theorem line_read : ∀ (rs : List (List ByteArray)) (W : List ByteArray) (cs : List (List ByteArray)) (tot : Int), (∀ r ∈ rs, r ≠ []) →
    Mach.ahead (lineL false rs) W cs tot = .ok (endC W cs ++ rs) (tot + (sumLen rs : Int)) := by
  intro rs
  induction rs with
  | nil => intro W cs tot _; rw [show lineL false [] = [] from rfl, ahead_nil]; simp [sumLen]
  | cons r rs ih =>
    intro W cs tot h
    have hr := h r List.mem_cons_self
    have e : lineL false (r :: rs) = 59 :: (rowL true r ++ lineL false rs) := by rw [lineL, if_neg (by decide)]; rfl
    rw [e, ahead_semi rfl, row_read1 r hr _ _ _ (line_head rs), ih _ _ _ (fun x hx => h x (List.mem_cons_of_mem _ hx))]
    have e2 : endC r (endC W cs) = endC W cs ++ [r] := if_neg hr
    have e3 : sumLen (r :: rs) = r.length + sumLen rs := by simp [sumLen]
    rw [e2, List.append_assoc, e3]
    congr 1
    omega
theorem line_read1 (rs : List (List ByteArray)) (h : ∀ r ∈ rs, r ≠ []) : Mach.ahead (lineL true rs) [] [] 0 = .ok rs (sumLen rs : Int) := by
  cases rs with
  | nil => rw [show lineL true [] = [] from rfl, ahead_nil]; rfl
  | cons r rs =>
    have e : lineL true (r :: rs) = rowL true r ++ lineL false rs := by rw [lineL, if_pos rfl]; rfl
    have e3 : sumLen (r :: rs) = r.length + sumLen rs := by simp [sumLen]
    have hr := h r List.mem_cons_self
    rw [e, row_read1 r hr _ _ _ (line_head rs), line_read _ _ _ _ (fun x hx => h x (List.mem_cons_of_mem _ hx)), e3]
    have e2 : endC r [] = [r] := if_neg hr
    rw [e2]
    congr 1
    omega
/-! what line writes, as bytes -/
def rowB : Bool → List ByteArray → ByteArray
  | _, [] => ByteArray.empty
  | first, w :: ws => (if first then ByteArray.empty else (⟨#[32]⟩ : ByteArray)) ++ (quoteB w ++ rowB false ws)
def lineB : Bool → List (List ByteArray) → ByteArray
  | _, [] => ByteArray.empty
  | first, r :: rs => (if first then ByteArray.empty else (⟨#[59]⟩ : ByteArray)) ++ (rowB true r ++ lineB false rs)
theorem lists_app (a b : ByteArray) : bytesOf (a ++ b) = bytesOf a ++ bytesOf b := by
  unfold bytesOf
  rw [show (a ++ b).data = a.data ++ b.data from ByteArray.data_append, Array.toList_append, List.map_append]
theorem bytes_rowB : ∀ (ws : List ByteArray) (b : Bool), bytesOf (rowB b ws) = rowL b ws := by
  intro ws
  induction ws with
  | nil => intro b; cases b <;> rfl
  | cons w ws ih =>
    intro b
    rw [rowB, rowL, lists_app, lists_app, ih]
    cases b <;> rfl
theorem bytes_lineB : ∀ (rs : List (List ByteArray)) (b : Bool), bytesOf (lineB b rs) = lineL b rs := by
  intro rs
  induction rs with
  | nil => intro b; cases b <;> rfl
  | cons r rs ih =>
    intro b
    rw [lineB, lineL, lists_app, lists_app, ih, bytes_rowB]
    cases b <;> rfl
theorem app_empty (x : ByteArray) : x ++ ByteArray.empty = x := by
  apply WideShapes.bytes_inj
  rw [show (x ++ ByteArray.empty).data = x.data ++ ByteArray.empty.data from ByteArray.data_append, Array.toList_append]
  exact List.append_nil _
theorem empty_app (x : ByteArray) : ByteArray.empty ++ x = x := by
  apply WideShapes.bytes_inj
  rw [show (ByteArray.empty ++ x).data = ByteArray.empty.data ++ x.data from ByteArray.data_append, Array.toList_append]
  exact List.nil_append _
theorem app_assoc (x y z : ByteArray) : x ++ y ++ z = x ++ (y ++ z) := by
  apply WideShapes.bytes_inj
  simp only [ByteArray.data_append, Array.toList_append, List.append_assoc]
theorem line_l1 (l : List (List ByteArray)) (hl : l.length ≤ 1000000000) (i : Nat) (h : i < l.length) (hr : (l[i]).length ≤ 1000000000) (hw : ∀ w ∈ l[i], w.size ≤ 1099511627776) (R : ByteArray) :
    ∀ (d j : Nat) (x : ByteArray), (l[i]).length - j = d → j ≤ (l[i]).length → (x ++ rowB (decide (j = 0)) ((l[i]).drop j)).size ≤ 1152921504606846976 →
      Ev (fun k => mullionlaw09_line.l0 k l (x ++ rowB (decide (j = 0)) ((l[i]).drop j)) ((i + 1 : Nat) : Int)) R → Ev (fun k => mullionlaw09_line.l1 k l x (i : Int) (j : Int)) R := by
  have hA : rd_L1 l i = l[i] := rd_at l i h
  have w1 : wrap64 ((i : Int) + 1) = ((i + 1 : Nat) : Int) := wrap1 i (by omega)
  intro d
  induction d with
  | zero =>
    intro j x hd hj hs hR
    have : j = (l[i]).length := by omega
    subst this
    rw [List.drop_of_length_le (Nat.le_refl _), rowB, app_empty] at hR
    refine Ev.step (fun k => ?_) hR
    rw [mullionlaw09_line.l1, hA, if_pos (by omega), if_pos (by omega), if_neg (by omega), w1]
  | succ d ih =>
    intro j x hd hj hs hR
    have hlt : j < (l[i]).length := by omega
    have hwj := hw _ (List.getElem_mem hlt)
    have hq : lex_Quote.f ((l[i])[j]) = some (quoteB ((l[i])[j])) := by unfold lex_Quote.f; rw [if_pos hwj]
    have hB : rdOf ByteArray.empty (l[i]) (j : Int) = (l[i])[j] := rdOf_at _ j hlt
    have w2 : wrap64 ((j : Int) + 1) = ((j + 1 : Nat) : Int) := wrap1 j (by omega)
    have nx : decide (j + 1 = 0) = false := rfl
    rw [List.drop_eq_getElem_cons hlt, rowB] at hs hR
    have IH := ih (j + 1)
    rw [nx] at IH
    generalize quoteB ((l[i])[j]) = q at *
    generalize rowB false ((l[i]).drop (j + 1)) = T at *
    by_cases hj0 : j = 0
    · subst hj0
      have e : x ++ ((if decide (0 = 0) then ByteArray.empty else (⟨#[32]⟩ : ByteArray)) ++ (q ++ T)) = (x ++ q) ++ T := by
        rw [if_pos (by decide), empty_app, app_assoc]
      rw [e] at hs hR
      have z : (x ++ q).size + T.size ≤ 1152921504606846976 := by rw [← ByteArray.size_append]; exact hs
      have z2 := ByteArray.size_append (a := x) (b := q)
      refine Ev.step (fun k => ?_) (IH (x ++ q) (by omega) (by omega) hs hR)
      rw [mullionlaw09_line.l1, hA, hB, hq, if_pos (by omega), if_pos (by omega), if_pos (by omega), if_neg (by omega), if_pos (by omega), Option.bind_some, if_pos (by omega), w2]
    · have e : x ++ ((if decide (j = 0) then ByteArray.empty else (⟨#[32]⟩ : ByteArray)) ++ (q ++ T)) = ((x ++ (⟨#[32]⟩ : ByteArray)) ++ q) ++ T := by
        rw [if_neg (by simp [hj0]), app_assoc, app_assoc]
      rw [e] at hs hR
      have z : ((x ++ (⟨#[32]⟩ : ByteArray)) ++ q).size + T.size ≤ 1152921504606846976 := by rw [← ByteArray.size_append]; exact hs
      have z2 := ByteArray.size_append (a := x ++ (⟨#[32]⟩ : ByteArray)) (b := q)
      have z3 := ByteArray.size_append (a := x) (b := (⟨#[32]⟩ : ByteArray))
      have z4 : (⟨#[32]⟩ : ByteArray).size = 1 := rfl
      refine Ev.step (fun k => ?_) (IH ((x ++ (⟨#[32]⟩ : ByteArray)) ++ q) (by omega) (by omega) hs hR)
      rw [mullionlaw09_line.l1, hA, hB, hq, if_pos (by omega), if_pos (by omega), if_pos (by omega), if_pos (by omega), if_pos (by omega), if_pos (by omega), Option.bind_some, if_pos (by omega), w2]
theorem line_l0 (l : List (List ByteArray)) (hl : l.length ≤ 1000000000) (hr : ∀ r ∈ l, r.length ≤ 1000000000 ∧ ∀ w ∈ r, w.size ≤ 1099511627776) :
    ∀ (d i : Nat) (x : ByteArray), l.length - i = d → i ≤ l.length → (x ++ lineB (decide (i = 0)) (l.drop i)).size ≤ 1152921504606846976 →
      Ev (fun k => mullionlaw09_line.l0 k l x (i : Int)) (x ++ lineB (decide (i = 0)) (l.drop i)) := by
  intro d
  induction d with
  | zero =>
    intro i x hd hi hs
    have : i = l.length := by omega
    subst this
    rw [List.drop_of_length_le (Nat.le_refl _), lineB, app_empty]
    refine Ev.step (f := fun k => some x) (fun k => ?_) (Ev.now _)
    rw [mullionlaw09_line.l0, if_neg (by omega)]
  | succ d ih =>
    intro i x hd hi hs
    have h : i < l.length := by omega
    have hri := hr _ (List.getElem_mem h)
    have nx : decide (i + 1 = 0) = false := rfl
    rw [List.drop_eq_getElem_cons h, lineB] at hs ⊢
    have IH := ih (i + 1)
    rw [nx] at IH
    have j1 : ∀ (y : ByteArray) (R : ByteArray), Ev (fun k => mullionlaw09_line.l1 k l y (i : Int) ((0 : Nat) : Int)) R → Ev (fun k => mullionlaw09_line.j1 k l y (i : Int)) R := fun y R hR =>
      Ev.step (fun k => by rw [mullionlaw09_line.j1]; rfl) hR
    have row := line_l1 l hl i h hri.1 hri.2
    by_cases hi0 : i = 0
    · subst hi0
      have e : x ++ ((if decide (0 = 0) then ByteArray.empty else (⟨#[59]⟩ : ByteArray)) ++ (rowB true (l[0]) ++ lineB false (l.drop (0 + 1)))) = (x ++ rowB true (l[0])) ++ lineB false (l.drop (0 + 1)) := by
        rw [if_pos (by decide), empty_app, app_assoc]
      rw [e] at hs ⊢
      have z := ByteArray.size_append (a := x ++ rowB true (l[0])) (b := lineB false (l.drop (0 + 1)))
      refine Ev.step (fun k => ?_) (j1 x _ (row _ _ 0 x rfl (by omega) (by simp only [decide_true, List.drop_zero]; omega) (by simp only [decide_true, List.drop_zero]; exact IH _ (by omega) (by omega) hs)))
      rw [mullionlaw09_line.l0, if_pos (by omega), if_neg (by omega)]
    · have e : x ++ ((if decide (i = 0) then ByteArray.empty else (⟨#[59]⟩ : ByteArray)) ++ (rowB true (l[i]) ++ lineB false (l.drop (i + 1)))) = ((x ++ (⟨#[59]⟩ : ByteArray)) ++ rowB true (l[i])) ++ lineB false (l.drop (i + 1)) := by
        rw [if_neg (by simp [hi0]), app_assoc, app_assoc]
      rw [e] at hs ⊢
      have z := ByteArray.size_append (a := (x ++ (⟨#[59]⟩ : ByteArray)) ++ rowB true (l[i])) (b := lineB false (l.drop (i + 1)))
      have z2 := ByteArray.size_append (a := x ++ (⟨#[59]⟩ : ByteArray)) (b := rowB true (l[i]))
      have z3 := ByteArray.size_append (a := x) (b := (⟨#[59]⟩ : ByteArray))
      have z4 : (⟨#[59]⟩ : ByteArray).size = 1 := rfl
      refine Ev.step (fun k => ?_) (j1 (x ++ (⟨#[59]⟩ : ByteArray)) _ (row _ _ 0 _ rfl (by omega) (by simp only [decide_true, List.drop_zero]; omega) (by simp only [decide_true, List.drop_zero]; exact IH _ (by omega) (by omega) hs)))
      rw [mullionlaw09_line.l0, if_pos (by omega), if_pos (by omega), if_pos (by omega)]
/-- What line answers. -/
theorem line_f (l : List (List ByteArray)) (hl : l.length ≤ 1000000000) (hr : ∀ r ∈ l, r.length ≤ 1000000000 ∧ ∀ w ∈ r, w.size ≤ 1099511627776) (hs : (lineB true l).size ≤ 1152921504606846976) :
    Ev (fun k => mullionlaw09_line.f k l) (lineB true l) := by
  have := line_l0 l hl hr _ 0 ByteArray.empty rfl (by omega)
  simp only [decide_true, List.drop_zero, empty_app] at this
  exact this hs
/-- What Commands answers to it. -/
theorem commands_line (l : List (List ByteArray)) (hn : ∀ r ∈ l, r ≠ []) (hs : (lineB true l).size ≤ 8192) :
    commandsF (lineB true l) = if l.length > 16 ∨ (sumLen l : Int) > 64 then ([], 0, 91) else (l, 0, 0) :=
  commandsF_ok hs (by rw [bytes_lineB]; exact line_read1 l hn)
end Go.Proofs.Ytfpbgchlemcpbaa.LexLaws
namespace Go.Proofs.Ytfpbgchlemcpbaa.LexLaws
open Go.RowKit Go.Proofs.Ytfpbgchlemcpbaa.PL Go.Proofs.Ytfpbgchlemcpbaa.Mach Go.Proofs.Ytfpbgchlemcpbaa.QuoteLaw Go.Proofs.YtfpbgchlemcpbaaW.PrintWords Go.Proofs.YtfpbgchlemcpbaaW.PrintLast
theorem esc_le (c : Int) : (esc c).length ≤ 4 := by
  unfold esc
  split
  · simp
  · split <;> simp
theorem flat_le : ∀ L : List Int, (L.flatMap esc).length ≤ 4 * L.length := by
  intro L
  induction L with
  | nil => simp
  | cons c L ih => have := esc_le c; simp only [List.flatMap_cons, List.length_append, List.length_cons]; omega
theorem bytes_len (s : ByteArray) : (bytesOf s).length = s.size := by
  unfold bytesOf; rw [List.length_map, Array.length_toList]; rfl
theorem quoteB_le (s : ByteArray) : (quoteB s).size ≤ 4 * s.size + 2 := by
  unfold quoteB
  split
  · omega
  · rw [← bytes_len, bytesOf_str _ (quoted_range s)]
    have := flat_le (bytesOf s)
    rw [bytes_len] at this
    unfold QuoteLaw.quoted
    simp only [List.length_cons, List.length_append, List.length_nil]
    omega
/-- how much the lists hold: a byte counts one, a word one more, a list one more -/
def rowSz (r : List ByteArray) : Nat := (r.map fun w => w.size + 1).sum
def listSz (l : List (List ByteArray)) : Nat := (l.map fun r => rowSz r + 1).sum
theorem rowB_le : ∀ (ws : List ByteArray) (b : Bool), (rowB b ws).size ≤ 4 * rowSz ws := by
  intro ws
  induction ws with
  | nil => intro b; cases b <;> simp [rowB, rowSz]
  | cons w ws ih =>
    intro b
    have h1 := ih false
    have h2 := quoteB_le w
    have e : rowSz (w :: ws) = (w.size + 1) + rowSz ws := by simp [rowSz]
    have h3 : ((if b then ByteArray.empty else (⟨#[32]⟩ : ByteArray))).size ≤ 1 := by cases b <;> decide
    rw [rowB, ByteArray.size_append, ByteArray.size_append, e]
    omega
theorem lineB_le : ∀ (rs : List (List ByteArray)) (b : Bool), (lineB b rs).size ≤ 4 * listSz rs := by
  intro rs
  induction rs with
  | nil => intro b; cases b <;> simp [lineB, listSz]
  | cons r rs ih =>
    intro b
    have h1 := ih false
    have h2 := rowB_le r true
    have e : listSz (r :: rs) = (rowSz r + 1) + listSz rs := by simp [listSz]
    have h3 : ((if b then ByteArray.empty else (⟨#[59]⟩ : ByteArray))).size ≤ 1 := by cases b <;> decide
    rw [lineB, ByteArray.size_append, ByteArray.size_append, e]
    omega
theorem mem_rowSz {r : List ByteArray} {w : ByteArray} (h : w ∈ r) : w.size + 1 ≤ rowSz r := by
  induction r with
  | nil => cases h
  | cons a r ih =>
    have e : rowSz (a :: r) = (a.size + 1) + rowSz r := by simp [rowSz]
    rcases List.mem_cons.1 h with rfl | h
    · omega
    · have := ih h; omega
theorem len_rowSz (r : List ByteArray) : r.length ≤ rowSz r := by
  induction r with
  | nil => simp
  | cons a r ih => have e : rowSz (a :: r) = (a.size + 1) + rowSz r := by simp [rowSz]
                   simp only [List.length_cons]; omega
theorem mem_listSz {l : List (List ByteArray)} {r : List ByteArray} (h : r ∈ l) : rowSz r + 1 ≤ listSz l := by
  induction l with
  | nil => cases h
  | cons a l ih =>
    have e : listSz (a :: l) = (rowSz a + 1) + listSz l := by simp [listSz]
    rcases List.mem_cons.1 h with rfl | h
    · omega
    · have := ih h; omega
theorem len_listSz (l : List (List ByteArray)) : l.length ≤ listSz l := by
  induction l with
  | nil => simp
  | cons a l ih =>
    have e : listSz (a :: l) = (rowSz a + 1) + listSz l := by simp [listSz]
    simp only [List.length_cons]; omega
theorem filter_listSz (l : List (List ByteArray)) (p : List ByteArray → Bool) : listSz (l.filter p) ≤ listSz l := by
  induction l with
  | nil => simp
  | cons a l ih =>
    have e : listSz (a :: l) = (rowSz a + 1) + listSz l := by simp [listSz]
    by_cases h : p a = true
    · rw [List.filter_cons_of_pos h]
      have e2 : listSz (a :: l.filter p) = (rowSz a + 1) + listSz (l.filter p) := by simp [listSz]
      omega
    · rw [List.filter_cons_of_neg h]; omega
/-- What line answers to lists of a small bulk. -/
theorem line_small (l : List (List ByteArray)) (h : listSz l ≤ 1000000000) : Ev (fun k => mullionlaw09_line.f k l) (lineB true l) := by
  have h1 := len_listSz l
  have h2 := lineB_le l true
  refine line_f l (by omega) (fun r hr => ?_) (by omega)
  have h3 := mem_listSz hr
  have h4 := len_rowSz r
  refine ⟨by omega, fun w hw => ?_⟩
  have h5 := mem_rowSz hw
  omega
end Go.Proofs.Ytfpbgchlemcpbaa.LexLaws
