/- The law LexBlanks, plain: blanks ahead and behind, empty commands and a remark change nothing. No condition. -/
import Derived.Test.YtfpbgchlemcpbaaPLx4
import Derived.Test.YtfpbgchlemcpbaaPlaces
namespace Go.Proofs.Ytfpbgchlemcpbaa.LexLaws
open Go.RowKit Go.Proofs.Ytfpbgchlemcpbaa.PL Go.Proofs.Ytfpbgchlemcpbaa.Mach Go.Proofs.YtfpbgchlemcpbaaW.PrintWords Go.Proofs.YtfpbgchlemcpbaaW.PrintLast

theorem bytesOf_app (a b : ByteArray) : bytesOf (a ++ b) = bytesOf a ++ bytesOf b := by
  unfold bytesOf
  rw [show (a ++ b).data.toList = a.data.toList ++ b.data.toList from by simp, List.map_append]
theorem z2 : (⟨#[32, 35]⟩ : ByteArray).size = 2 := rfl
theorem z1 : (⟨#[10]⟩ : ByteArray).size = 1 := rfl
def blanky (M : List Int) : Prop := ∀ c ∈ M, c = 32 ∨ c = 9 ∨ c = 59
theorem endC_nil (cs : List (List ByteArray)) : endC [] cs = cs := by simp [endC]
theorem ahead_blanky : ∀ (M L : List Int), blanky M → Mach.ahead (M ++ L) [] [] 0 = Mach.ahead L [] [] 0 := by
  intro M
  induction M with
  | nil => intro L _; rfl
  | cons c M ih =>
    intro L h
    have hM : blanky M := fun x hx => h x (List.mem_cons_of_mem _ hx)
    rw [List.cons_append]
    rcases h c List.mem_cons_self with rfl | rfl | rfl
    · rw [ahead_blank rfl]; exact ih L hM
    · rw [ahead_blank rfl]; exact ih L hM
    · rw [ahead_semi rfl, endC_nil]; exact ih L hM
theorem ahead_end : ∀ (M : List Int) (ws : List ByteArray) (cs : List (List ByteArray)) (tot : Int), blanky M → Mach.ahead M ws cs tot = .ok (endC ws cs) tot := by
  intro M
  induction M with
  | nil => intro ws cs tot _; rw [ahead_nil]
  | cons c M ih =>
    intro ws cs tot h
    have hM : blanky M := fun x hx => h x (List.mem_cons_of_mem _ hx)
    rcases h c List.mem_cons_self with rfl | rfl | rfl
    · rw [ahead_blank rfl]; exact ih ws cs tot hM
    · rw [ahead_blank rfl]; exact ih ws cs tot hM
    · rw [ahead_semi rfl, ih _ _ _ hM, endC_nil]
theorem cont_blanky (st : St) (M : List Int) (h : blanky M) : st.cont M = st.cont [] := by
  cases st with
  | ahead ws cs tot => simp only [St.cont]; rw [ahead_nil, ahead_end M ws cs tot h]
  | within w ws cs tot =>
    simp only [St.cont]
    rw [within_nil]
    match M, h with
    | [], _ => rw [within_nil]
    | c :: M, h =>
      rcases h c List.mem_cons_self with rfl | rfl | rfl
      · rw [within_blank rfl, ahead_end _ _ _ _ h]
      · rw [within_blank rfl, ahead_end _ _ _ _ h]
      · rw [within_semi rfl, ahead_end _ _ _ _ h]
  | remark ws cs tot => rfl
theorem cont_remark (st : St) (rem : List Int) (h : rem.head? ≠ some 123) : st.cont (32 :: 35 :: rem) = st.cont [] := by
  cases st with
  | ahead ws cs tot => simp only [St.cont]; rw [ahead_nil, ahead_blank rfl, ahead_remark rfl h]
  | within w ws cs tot => simp only [St.cont]; rw [within_nil, within_blank rfl, ahead_blank rfl, ahead_remark rfl h]
  | remark ws cs tot => rfl

theorem commandsF_zero {s : ByteArray} (h : (commandsF s).2.2 = 0) : s.size ≤ 8192 ∧ ∃ cmds tot, Mach.ahead (bytesOf s) [] [] 0 = .ok cmds tot ∧ cmds.length ≤ 16 ∧ tot ≤ 64 ∧ commandsF s = (cmds, 0, 0) := by
  by_cases hs : s.size ≤ 8192
  · refine ⟨hs, ?_⟩
    cases hR : Mach.ahead (bytesOf s) [] [] 0 with
    | fail n => rw [commandsF_fail hs hR] at h; simp at h
    | ok cmds tot =>
      have h2 := commandsF_ok hs hR
      by_cases hb : cmds.length > 16 ∨ tot > 64
      · rw [if_pos hb] at h2; rw [h2] at h; simp at h
      · rw [if_neg hb] at h2
        exact ⟨cmds, tot, rfl, by omega, by omega, h2⟩
  · rw [commandsF_long hs] at h; simp at h
theorem commandsF_eq {s s' : ByteArray} (hs : s.size ≤ 8192) (hs' : s'.size ≤ 8192) (h : Mach.ahead (bytesOf s') [] [] 0 = Mach.ahead (bytesOf s) [] [] 0) {cmds : List (List ByteArray)} (h2 : commandsF s = (cmds, 0, 0)) : commandsF s' = (cmds, 0, 0) := by
  cases hR : Mach.ahead (bytesOf s) [] [] 0 with
  | fail n => rw [commandsF_fail hs hR] at h2; simp at h2
  | ok cmds' tot =>
    rw [← h2, commandsF_ok hs hR]
    rw [hR] at h
    exact commandsF_ok hs' h
theorem same_self {s : ByteArray} {l : List (List ByteArray)} (h : (commandsF s).1 = l) : Ev (fun k => mullionlaw09_same.f k l l) true := by
  have := same_commands s l
  rw [h] at this
  simpa using this

theorem blanks_at (x : Int) (h0 : 0 ≤ x) (h : x < 6) : blanky (bytesOf (rdOf ByteArray.empty ([(⟨#[]⟩ : ByteArray), (⟨#[32]⟩ : ByteArray), (⟨#[9]⟩ : ByteArray), (⟨#[32, 32]⟩ : ByteArray), (⟨#[59]⟩ : ByteArray), (⟨#[32, 59, 32, 59, 9]⟩ : ByteArray)] : List ByteArray) x)) ∧
    (rdOf ByteArray.empty ([(⟨#[]⟩ : ByteArray), (⟨#[32]⟩ : ByteArray), (⟨#[9]⟩ : ByteArray), (⟨#[32, 32]⟩ : ByteArray), (⟨#[59]⟩ : ByteArray), (⟨#[32, 59, 32, 59, 9]⟩ : ByteArray)] : List ByteArray) x).size ≤ 5 := by
  have hx : x = 0 ∨ x = 1 ∨ x = 2 ∨ x = 3 ∨ x = 4 ∨ x = 5 := by omega
  have hb : ∀ b : ByteArray, ((bytesOf b).all fun c => c == 32 || c == 9 || c == 59) = true → blanky (bytesOf b) := by
    intro b h c hc
    have := List.all_eq_true.1 h c hc
    simp only [Bool.or_eq_true, beq_iff_eq] at this
    omega
  rcases hx with rfl | rfl | rfl | rfl | rfl | rfl <;> exact ⟨hb _ (by decide), by decide⟩

section
variable (s rem : ByteArray)
theorem b5 {cmds : List (List ByteArray)} (h : commandsF s = (cmds, 0, 0)) (hs : s.size ≤ 8000) (b : Bool) (hb : b = false → rem.size ≤ 100 ∧ (bytesOf rem).head? ≠ some 123) : Ev (fun k => mullionlaw09_LexBlanks.j5 k s rem cmds b) true := by
  cases b with
  | true =>
    refine Ev.step (fun k => ?_) (Ev.bind sure_f (Ev.now true))
    simp only [mullionlaw09_LexBlanks.j5]; rw [if_pos trivial]
  | false =>
    obtain ⟨hr, hh⟩ := hb rfl
    have hsz : ((s ++ (⟨#[32, 35]⟩ : ByteArray)) ++ rem).size ≤ 8192 := by simp [z2]; omega
    have hz : (commandsF s).2.2 = 0 := by rw [h]
    obtain ⟨h8, cmds', tot, hR, h16, h64, hF⟩ := commandsF_zero hz
    have hcm : cmds' = cmds := by rw [h] at hF; exact (Prod.mk.inj hF).1.symm
    subst hcm
    obtain ⟨st, h1, h2⟩ := read_append.1 _ _ _ _ _ _ hR
    have e : Mach.ahead (bytesOf ((s ++ (⟨#[32, 35]⟩ : ByteArray)) ++ rem)) [] [] 0 = Mach.ahead (bytesOf s) [] [] 0 := by
      rw [bytesOf_app, bytesOf_app, List.append_assoc, h2 _ (by show (some (32 : Int)) ≠ some 123; simp), hR, ← h1]
      exact cont_remark st (bytesOf rem) hh
    have hF2 := commandsF_eq h8 hsz e h
    have hfin : Ev (fun k => (lex_Commands.f ((s ++ (⟨#[32, 35]⟩ : ByteArray)) ++ rem)).bind fun bt244 => ((mullionlaw09_same.f k cmds' bt244.1).bind fun t249 => (if t249 = true then (if bt244.2.1 = 0 then (if bt244.2.2 = 0 then ((mullionlaw09_sure.f k).bind fun t250 => (some t250)) else (some false)) else (some false)) else (some false)))) true := by
      unfold lex_Commands.f
      refine Ev.bind (Ev.now _) ?_
      rw [hF2]
      refine Ev.bind (same_self (s := s) (by rw [h])) ?_
      exact ev_pos rfl (ev_pos rfl (ev_pos rfl (Ev.bind sure_f (Ev.now _))))
    refine Ev.step (fun k => ?_) hfin
    simp only [mullionlaw09_LexBlanks.j5]; rw [if_neg (by simp), if_pos (by omega), if_pos (by simp [z2]; omega)]

theorem b4 {cmds : List (List ByteArray)} (h : commandsF s = (cmds, 0, 0)) (hs : s.size ≤ 8000) : Ev (fun k => mullionlaw09_LexBlanks.j4 k s rem cmds false) true := by
  by_cases h0 : rem.size = 0
  · have hb := b5 s rem h hs (decide ((rem.size : Int) > 100)) (fun hd => ⟨by simp at hd; omega, by
      have : bytesOf rem = [] := List.length_eq_zero_iff.1 (by rw [len_bytesOf]; exact h0)
      rw [this]; simp⟩)
    refine Ev.step (fun k => ?_) hb
    simp only [mullionlaw09_LexBlanks.j4]; rw [if_neg (by simp), if_neg (by omega)]
  · have hhead : (bytesOf rem).head? = some (bt rem 0) := by
      have := get_bytesOf rem 0 (by omega)
      rw [← List.head?_eq_getElem?] at this
      exact this
    by_cases h123 : bt rem 0 = 123
    · refine Ev.step (fun k => ?_) (b5 s rem h hs true (fun hd => by cases hd))
      simp only [mullionlaw09_LexBlanks.j4]; rw [if_neg (by simp), if_pos (by omega), if_pos (by omega), if_pos h123]
    · have hb := b5 s rem h hs (decide ((rem.size : Int) > 100)) (fun hd => ⟨by simp at hd; omega, by rw [hhead]; simpa using h123⟩)
      refine Ev.step (fun k => ?_) hb
      simp only [mullionlaw09_LexBlanks.j4]; rw [if_neg (by simp), if_pos (by omega), if_pos (by omega), if_neg h123]
end

theorem b3 (s rem : ByteArray) (y : List ByteArray) (x : Int) (h0 : 0 ≤ x) (hx : x < y.length) (hy : blanky (bytesOf (rdOf ByteArray.empty y x))) (hy2 : (rdOf ByteArray.empty y x).size ≤ 5) {cmds : List (List ByteArray)} (h : commandsF s = (cmds, 0, 0)) (hs : s.size ≤ 8000) :
    Ev (fun k => mullionlaw09_LexBlanks.j3 k s x rem y cmds false) true := by
  have hfin : Ev (fun k => (lex_Commands.f (s ++ (⟨#[10]⟩ : ByteArray))).bind fun bt231 => ((lex_Commands.f ((s ++ (⟨#[10]⟩ : ByteArray)) ++ (rdOf ByteArray.empty y x))).bind fun bt237 => (if bt231.2.2 = 0 then ((mullionlaw09_same.f k bt231.1 bt237.1).bind fun t242 => (if t242 = true then (mullionlaw09_LexBlanks.j4 k s rem cmds (bt237.2.2 != 0)) else (mullionlaw09_LexBlanks.j4 k s rem cmds true))) else (mullionlaw09_LexBlanks.j4 k s rem cmds false)))) true := by
    unfold lex_Commands.f
    refine Ev.bind (Ev.now _) (Ev.bind (Ev.now _) ?_)
    by_cases hz : (commandsF (s ++ (⟨#[10]⟩ : ByteArray))).2.2 = 0
    · refine ev_pos hz ?_
      obtain ⟨h8, cmds', tot, hR, h16, h64, hF⟩ := commandsF_zero hz
      obtain ⟨st, h1, h2⟩ := read_append.1 _ _ _ _ _ _ hR
      have e : Mach.ahead (bytesOf ((s ++ (⟨#[10]⟩ : ByteArray)) ++ (rdOf ByteArray.empty y x))) [] [] 0 = Mach.ahead (bytesOf (s ++ (⟨#[10]⟩ : ByteArray))) [] [] 0 := by
        have hne : (bytesOf (rdOf ByteArray.empty y x)).head? ≠ some 123 := by
          cases hb : bytesOf (rdOf ByteArray.empty y x) with
          | nil => simp
          | cons c M =>
            have := hy c (by rw [hb]; exact List.mem_cons_self)
            simp only [List.head?_cons, ne_eq, Option.some.injEq]
            omega
        rw [bytesOf_app, h2 _ hne, hR, ← h1]
        exact cont_blanky st _ hy
      have hF2 := commandsF_eq h8 (by simp [z1]; omega) e hF
      rw [hF, hF2]
      refine Ev.bind (same_self (s := s ++ (⟨#[10]⟩ : ByteArray)) (by rw [hF])) ?_
      exact ev_pos rfl (b4 s rem h hs)
    · exact ev_neg hz (b4 s rem h hs)
  refine Ev.step (fun k => ?_) hfin
  simp only [mullionlaw09_LexBlanks.j3]; rw [if_neg (by simp), if_pos (by omega)]
  congr 1
  funext bt231
  rw [if_pos h0, if_pos hx, if_pos (by simp [z1]; omega)]

theorem b1 (s rem : ByteArray) (y : List ByteArray) (x : Int) (h0 : 0 ≤ x) (hx : x < y.length) (hy : blanky (bytesOf (rdOf ByteArray.empty y x))) (hy2 : (rdOf ByteArray.empty y x).size ≤ 5) : Ev (fun k => mullionlaw09_LexBlanks.j1 k s x rem y) true := by
  have htrue : ∀ cmds, Ev (fun k => mullionlaw09_LexBlanks.j2 k s x rem y cmds true) true := by
    intro cmds
    refine Ev.step (fun k => ?_) (Ev.bind sure_f (Ev.now true))
    simp only [mullionlaw09_LexBlanks.j2]; rw [if_pos trivial]
  have hfin : Ev (fun k => (lex_Commands.f s).bind fun bt218 => (if bt218.2.2 = 0 then (mullionlaw09_LexBlanks.j2 k s x rem y bt218.1 (decide ((s.size : Int) > 8000))) else (mullionlaw09_LexBlanks.j2 k s x rem y bt218.1 true))) true := by
    unfold lex_Commands.f
    refine Ev.bind (Ev.now _) ?_
    by_cases hz : (commandsF s).2.2 = 0
    · refine ev_pos hz ?_
      obtain ⟨h8, cmds, tot, hR, h16, h64, hF⟩ := commandsF_zero hz
      by_cases hs : s.size ≤ 8000
      · rw [decide_eq_false (by omega), hF]
        have hF2 : commandsF ((rdOf ByteArray.empty y x) ++ s) = (cmds, 0, 0) := commandsF_eq h8 (by simp; omega) (by rw [bytesOf_app]; exact ahead_blanky _ _ hy) hF
        have hin : Ev (fun k => (lex_Commands.f ((rdOf ByteArray.empty y x) ++ s)).bind fun bt225 => ((mullionlaw09_same.f k cmds bt225.1).bind fun t230 => (if t230 = true then (if bt225.2.1 = 0 then (mullionlaw09_LexBlanks.j3 k s x rem y cmds (bt225.2.2 != 0)) else (mullionlaw09_LexBlanks.j3 k s x rem y cmds true)) else (mullionlaw09_LexBlanks.j3 k s x rem y cmds true)))) true := by
          unfold lex_Commands.f
          refine Ev.bind (Ev.now _) ?_
          rw [hF2]
          refine Ev.bind (same_self (s := s) (by rw [hF])) ?_
          exact ev_pos rfl (ev_pos rfl (b3 s rem y x h0 hx hy hy2 hF hs))
        refine Ev.step (fun k => ?_) hin
        simp only [mullionlaw09_LexBlanks.j2]; rw [if_neg (by simp), if_pos h0, if_pos hx, if_pos (by omega)]
      · rw [decide_eq_true (by omega)]; exact htrue _
    · exact ev_neg hz (htrue _)
  refine Ev.step (fun k => ?_) hfin
  simp only [mullionlaw09_LexBlanks.j1]

theorem LexBlanks_f (s : ByteArray) (x : Int) (rem : ByteArray) : ∃ k, mullionlaw09_LexBlanks.f k s x rem = some true := by
  refine Ev.rounds ?_
  have one := blanks_at 1 (by omega) (by omega)
  have h1 := b1 s rem ([(⟨#[]⟩ : ByteArray), (⟨#[32]⟩ : ByteArray), (⟨#[9]⟩ : ByteArray), (⟨#[32, 32]⟩ : ByteArray), (⟨#[59]⟩ : ByteArray), (⟨#[32, 59, 32, 59, 9]⟩ : ByteArray)] : List ByteArray) 1 (by omega) (by decide) one.1 one.2
  have h0 : Ev (fun k => mullionlaw09_LexBlanks.j0 k s x rem ([(⟨#[]⟩ : ByteArray), (⟨#[32]⟩ : ByteArray), (⟨#[9]⟩ : ByteArray), (⟨#[32, 32]⟩ : ByteArray), (⟨#[59]⟩ : ByteArray), (⟨#[32, 59, 32, 59, 9]⟩ : ByteArray)] : List ByteArray) true) true := by
    refine Ev.step (fun k => ?_) h1
    simp only [mullionlaw09_LexBlanks.j0]; rw [if_pos trivial]
  unfold mullionlaw09_LexBlanks.f
  refine Ev.bind (Ev.now _) ?_
  by_cases hn : x < 0
  · exact ev_pos hn h0
  · refine ev_neg hn ?_
    by_cases h6 : x ≥ 6
    · rw [decide_eq_true (by simpa using h6)]; exact h0
    · rw [decide_eq_false (by simpa using h6)]
      have at_ := blanks_at x (by omega) (by omega)
      refine Ev.step (fun k => ?_) (b1 s rem _ x (by omega) (by simp; omega) at_.1 at_.2)
      simp only [mullionlaw09_LexBlanks.j0]; rw [if_neg (by simp)]
end Go.Proofs.Ytfpbgchlemcpbaa.LexLaws
