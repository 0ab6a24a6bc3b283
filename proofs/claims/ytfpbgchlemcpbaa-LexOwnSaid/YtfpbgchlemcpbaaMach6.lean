/- The lexer's machine: a word, from wherever in it, to the next jump. No condition but lengths below a bound. -/
import Derived.Test.YtfpbgchlemcpbaaMach5
import Derived.WalkMore
namespace Go.Proofs.Ytfpbgchlemcpbaa.Mach
open Go.RowKit Go.Proofs.YtfpbgchlemcpbaaW.PrintWords Go.Proofs.YtfpbgchlemcpbaaW.PrintLast Go.Proofs.YtfpbgchlemcpbaaW.PrintMore
set_option linter.unusedVariables false
set_option linter.unusedSimpArgs false

/-- As Q; by a goto to label l: J l. -/
def jumps (J : Nat → Act → World → Prop) (Q : Exit → Act → World → Prop) : Exit → Act → World → Prop
  | .goto l, a, w => J l a w
  | e, a, w => Q e a w
theorem jumps_ret {J : Nat → Act → World → Prop} {Q : Exit → Act → World → Prop} {a : Act} {w : World} : jumps J Q .ret a w = Q .ret a w := rfl
theorem jumps_normal {J : Nat → Act → World → Prop} {Q : Exit → Act → World → Prop} {a : Act} {w : World} : jumps J Q .normal a w = Q .normal a w := rfl
theorem jumps_goto {J : Nat → Act → World → Prop} {Q : Exit → Act → World → Prop} {a : Act} {w : World} {l : Nat} : jumps J Q (.goto l) a w = J l a w := rfl

/-- A scope in which the run jumps to labels: what holds at each jump, with a number that goes down. -/
theorem wp_scope_multi {P : Program} {a : Act} {w : World} {Q : Exit → Act → World → Prop} {c : Code} (J : Nat → Nat → Act → World → Prop)
    (first : c.wp P (jumps (fun l a w => ∃ n, J n l a w) Q) a w)
    (pass : ∀ n l a w, J n l a w → ∃ rest, findLabel c l = some rest ∧ rest.wp P (jumps (fun l' a' w' => ∃ m, m < n ∧ J m l' a' w') Q) a w) : (Code.scope c).wp P Q a w := by
  intro b k cs
  have hg : ∀ l rest, findLabel c l = some rest → gotoIn l (.inScope c :: k) = some (.code rest :: .inScope c :: k) := fun l rest hf => by simp [gotoIn, hf]
  have key : ∀ n l a w rest, findLabel c l = some rest → J n l a w → ∃ e a' w', Q e a' w' ∧ Arrives P (lone (b.at a (.code rest :: .inScope c :: k)) cs w) b k cs e a' w' := by
    intro n
    induction n using Nat.strongRecOn with
    | _ n ih =>
      intro l a w rest hf hJ
      obtain ⟨rest', hf', hp⟩ := pass n l a w hJ
      rw [hf] at hf'
      obtain rfl := Option.some.inj hf'
      obtain ⟨e, a₁, w₁, hq, harr⟩ := hp b (.inScope c :: k) cs
      cases e with
      | normal => exact ⟨.normal, a₁, w₁, hq, Steps.trans harr (.one step_inScope)⟩
      | exit id => exact ⟨.exit id, a₁, w₁, hq, fun k' hk => harr k' (by simp [exitTo, hk])⟩
      | goto l' =>
        obtain ⟨m, hm, hJ'⟩ := hq
        obtain ⟨rest2, hf2, _⟩ := pass m l' a₁ w₁ hJ'
        obtain ⟨e₂, a₂, w₂, hq₂, harr₂⟩ := ih m hm l' a₁ w₁ rest2 hf2 hJ'
        exact ⟨e₂, a₂, w₂, hq₂, .of_steps (harr _ (hg l' rest2 hf2)) harr₂⟩
      | ret => exact ⟨_, a₁, w₁, hq, harr⟩
      | panic ch => exact ⟨_, a₁, w₁, hq, harr⟩
      | outgrown => exact ⟨_, a₁, w₁, hq, harr⟩
  obtain ⟨e, a₁, w₁, hq, harr⟩ := first b (.inScope c :: k) cs
  cases e with
  | normal => exact ⟨.normal, a₁, w₁, hq, .head step_scope (Steps.trans harr (.one step_inScope))⟩
  | exit id => exact ⟨.exit id, a₁, w₁, hq, fun k' hk => .head step_scope (harr k' (by simp [exitTo, hk]))⟩
  | goto l' =>
    obtain ⟨n, hJ'⟩ := hq
    obtain ⟨rest, hf, _⟩ := pass n l' a₁ w₁ hJ'
    obtain ⟨e₂, a₂, w₂, hq₂, harr₂⟩ := key n l' a₁ w₁ rest hf hJ'
    exact ⟨e₂, a₂, w₂, hq₂, .of_steps (.head step_scope (harr _ (hg l' rest hf))) harr₂⟩
  | ret => exact ⟨_, a₁, w₁, hq, .of_steps (.one step_scope) harr⟩
  | panic ch => exact ⟨_, a₁, w₁, hq, .of_steps (.one step_scope) harr⟩
  | outgrown => exact ⟨_, a₁, w₁, hq, .of_steps (.one step_scope) harr⟩

/-- The text of run, inside its scope. -/
noncomputable def runC : Code := match Try.f22.body with
  | some (.seq _ (.scope c)) => c
  | _ => .skip

/-- The frame: the machine's pointer in the first slot. -/
def Fr (g : Nat) (a : Act) : Prop := a.defers = [] ∧ a.tmps.size = 150 ∧ a.tmps[0]? = some (.pointer (some ⟨g, 0, none⟩))

/-- What run answers, and what the machine is then. -/
def RunP (w0 : World) (g : Nat) (s : ByteArray) (R : Res) (e : Ending) (w : World) : Prop :=
  match R with
  | .fail n => e = .returned (.int .i64 (s.size - n)) ∧ Below w0.heap.size w0 w
  | .ok cmds tot => e = .returned (.int .i64 (-1)) ∧ ∃ q word, MS w0 g s q word [] cmds tot w

/-- At the labels: 0 the end, 1 ahead of a word, 2 within. -/
def J (w0 : World) (g : Nat) (s : ByteArray) (R : Res) (n l : Nat) (a : Act) (w : World) : Prop :=
  Fr g a ∧ match l with
  | 0 => ∃ q word words cmds tot, MS w0 g s q word words cmds tot w ∧ R = .ok (endC words cmds) tot ∧ cmds.length ≤ 10000
  | 1 => ∃ (q : Nat) (words : List ByteArray) (cmds : List (List ByteArray)) (tot : Int), MS w0 g s q [] words cmds tot w ∧ ahead ((bytesOf s).drop q) words cmds tot = R ∧ n = 2 * (s.size - q) + 1 ∧ q ≤ s.size ∧ 0 ≤ tot ∧ tot ≤ q ∧ ((cmds.length + words.length : Nat) : Int) ≤ tot
  | 2 => ∃ (q : Nat) (word : List Int) (words : List ByteArray) (cmds : List (List ByteArray)) (tot : Int), MS w0 g s q word words cmds tot w ∧ within ((bytesOf s).drop q) word words cmds tot = R ∧ n = 2 * (s.size - q) + 2 ∧ q ≤ s.size ∧ 0 ≤ tot ∧ tot + 1 ≤ q ∧ word.length ≤ q ∧ ((cmds.length + words.length : Nat) : Int) ≤ tot
  | _ => False
theorem lit_list : ∀ (n : Nat) (f : Nat → Value) (l : List Value), l.length = n → (∀ i, i < n → l[i]? = some (f i)) → l = (List.range n).map f := by
  intro n f l hl hf
  apply List.ext_getElem?
  intro i
  by_cases hi : i < n
  · rw [hf i hi]; simp [hi]
  · rw [List.getElem?_eq_none (by omega), List.getElem?_eq_none (by simp; omega)]
set_option maxRecDepth 100000 in
theorem lit150 (t : Array Value) (h : t.size = 150) : ∃ u : Nat → Value, t = (u 0 :: u 1 :: u 2 :: u 3 :: u 4 :: u 5 :: u 6 :: u 7 :: u 8 :: u 9 :: u 10 :: u 11 :: u 12 :: u 13 :: u 14 :: u 15 :: u 16 :: u 17 :: u 18 :: u 19 :: u 20 :: u 21 :: u 22 :: u 23 :: u 24 :: u 25 :: u 26 :: u 27 :: u 28 :: u 29 :: u 30 :: u 31 :: u 32 :: u 33 :: u 34 :: u 35 :: u 36 :: u 37 :: u 38 :: u 39 :: u 40 :: u 41 :: u 42 :: u 43 :: u 44 :: u 45 :: u 46 :: u 47 :: u 48 :: u 49 :: u 50 :: u 51 :: u 52 :: u 53 :: u 54 :: u 55 :: u 56 :: u 57 :: u 58 :: u 59 :: u 60 :: u 61 :: u 62 :: u 63 :: u 64 :: u 65 :: u 66 :: u 67 :: u 68 :: u 69 :: u 70 :: u 71 :: u 72 :: u 73 :: u 74 :: u 75 :: u 76 :: u 77 :: u 78 :: u 79 :: u 80 :: u 81 :: u 82 :: u 83 :: u 84 :: u 85 :: u 86 :: u 87 :: u 88 :: u 89 :: u 90 :: u 91 :: u 92 :: u 93 :: u 94 :: u 95 :: u 96 :: u 97 :: u 98 :: u 99 :: u 100 :: u 101 :: u 102 :: u 103 :: u 104 :: u 105 :: u 106 :: u 107 :: u 108 :: u 109 :: u 110 :: u 111 :: u 112 :: u 113 :: u 114 :: u 115 :: u 116 :: u 117 :: u 118 :: u 119 :: u 120 :: u 121 :: u 122 :: u 123 :: u 124 :: u 125 :: u 126 :: u 127 :: u 128 :: u 129 :: u 130 :: u 131 :: u 132 :: u 133 :: u 134 :: u 135 :: u 136 :: u 137 :: u 138 :: u 139 :: u 140 :: u 141 :: u 142 :: u 143 :: u 144 :: u 145 :: u 146 :: u 147 :: u 148 :: u 149 :: ([] : List Value)).toArray := by
  refine ⟨fun i => t.getD i undef, ?_⟩
  have e := lit_list 150 (fun i => t.getD i undef) t.toList (by simpa using h) (fun i hi => by
    have h1 : i < t.size := by omega
    simp [Array.getD, h1])
  have e2 : t = ((List.range 150).map (fun i => t.getD i undef)).toArray := by
    rw [← e]
  exact e2.trans rfl

theorem fin32 {w0 w : World} {g : Nat} {s : ByteArray} {q : Nat} {word : List Int} {words : List ByteArray} {cmds : List (List ByteArray)} {tot : Int} (h : MS w0 g s ((q : Int) + 1) word words cmds tot w) : MS w0 g s ((q + 1 : Nat) : Int) word words cmds tot w := by
  rw [show ((q + 1 : Nat) : Int) = (q : Int) + 1 by omega]; exact h

set_option maxHeartbeats 8000000 in
set_option maxRecDepth 100000 in
theorem within_wp (w0 : World) (g : Nat) (s : ByteArray) (R : Res) (hs : s.size ≤ 10000) (n q : Nat) (word : List Int) (words : List ByteArray) (cmds : List (List ByteArray)) (tot : Int) (a : Act) (w : World)
    (hF : Fr g a) (h : MS w0 g s q word words cmds tot w) (hR : within ((bytesOf s).drop q) word words cmds tot = R) (hq : q ≤ s.size) (ht0 : 0 ≤ tot) (hw : word.length ≤ q) (hc : ((cmds.length + words.length : Nat) : Int) ≤ tot)
    (hn : (2 * (s.size - q) + 2 ≤ n ∧ tot + 1 ≤ q) ∨ (2 * (s.size - q) + 1 ≤ n ∧ tot ≤ q ∧ q < s.size ∧ isBlank (bt s q) = false ∧ bt s q ≠ 59))
    (X : Code) (hX : findLabel runC 2 = some (.seq .skip X)) :
    X.wp Try.prog (jumps (fun l' a' w' => ∃ m, m < n ∧ J w0 g s R m l' a' w') (bodyPost Try.prog Try.f22 (RunP w0 g s R))) a w := by
  obtain ⟨t, d⟩ := a
  obtain ⟨rfl, hsz, h0⟩ := hF
  obtain ⟨u, rfl⟩ := lit150 t hsz
  have hu0 : u 0 = .pointer (some ⟨g, 0, none⟩) := Option.some.inj h0
  rw [hu0]
  clear h0 hsz hu0
  delta runC at hX
  dsimp only [Try.f22] at hX
  have hX4 := Option.some.inj (show some _ = some (Code.seq .skip X) from hX)
  injection hX4 with _ hX5
  subst hX5
  clear hX
  have HM := Aside0.mk h
  have HR := Aside0.mk hR
  have HQ := Aside0.mk hq
  have HT := Aside0.mk ht0
  have HL := Aside0.mk hw
  have HC := Aside0.mk hc
  have HN := Aside0.mk hn
  clear h hR hq ht0 hw hc hn
  by_cases hlt : q < s.size
  · obtain ⟨c0, c1, f1, hglt⟩ := HM.out.cells
    have hd : Aside0 (decide ((s.size : Int) ≤ (q : Int)) = false) := ⟨decide_eq_false (by omega)⟩
    have hat : (((s[q]'hlt).toNat : Nat) : Int) = bt s q := bt_at s q hlt
    have hlt2 : (q : Int) < (s.size : Int) := by omega
    have HST : Aside0 (within (bt s q :: (bytesOf s).drop (q + 1)) word words cmds tot = R) := ⟨by rw [← HR.out, drop_cons s q hlt]⟩
    have HLT := Aside0.mk hlt
    go_wp2_with (go_at_call 26; refine (done w0 _ g s q word words cmds tot HM.out).mono ?_; rintro e w' ⟨rfl, ⟨nd, rfl⟩⟩; rw [hd.out])
    go_quiet (fail)
    have hM2 := (HM.out.drewN nd).drewN nq
    generalize (w.drewN nd).drewN nq = W at hM2 ⊢
    have HM2 := Aside0.mk hM2
    clear hM2 c0 c1 f1 hglt hd HM
    by_cases e32 : bt s q = 32 ∨ bt s q = 9
    · have hN1 : Aside0 (2 * (s.size - q) + 2 ≤ n ∧ tot + 1 ≤ q) := ⟨by
        rcases HN.out with h | h
        · exact h
        · exfalso; rcases e32 with e | e <;> simp [isBlank, e] at h⟩
      have hres : Aside0 (ahead ((bytesOf s).drop q) (words ++ [strOfNums word]) cmds (tot + 1) = R) := ⟨by
        rw [← HST.out, drop_cons s q hlt]
        exact (within_blank (by rcases e32 with e | e <;> simp [isBlank, e])).symm⟩
      rcases e32 with e | e
      · have g32 : (bt s q == 32) = true := beq_iff_eq.mpr e
        clear e
        go_wp2_with (go_at_call 28; refine (endWord w0 _ g s q word words cmds tot HM2.out (by have := HC.out; have := hN1.out; have := HQ.out; omega) HT.out (by have := hN1.out; have := HQ.out; omega)).mono ?_; rintro e w' ⟨rfl, hm⟩; have HM3 := Aside0.mk hm; clear hm)
        go_step3
        exact ⟨2 * (s.size - q) + 1, by have := hN1.out; omega, ⟨rfl, rfl, rfl⟩, q, _, cmds, _, HM3.out, hres.out, rfl, HQ.out, by have := HT.out; omega, by have := hN1.out; omega, by have := HC.out; simp; omega⟩
      · have g32 : (bt s q == 32) = false := by rw [e]; rfl
        have g9 : (bt s q == 9) = true := beq_iff_eq.mpr e
        clear e
        go_wp2_with (go_at_call 28; refine (endWord w0 _ g s q word words cmds tot HM2.out (by have := HC.out; have := hN1.out; have := HQ.out; omega) HT.out (by have := hN1.out; have := HQ.out; omega)).mono ?_; rintro e w' ⟨rfl, hm⟩; have HM3 := Aside0.mk hm; clear hm)
        go_step3
        exact ⟨2 * (s.size - q) + 1, by have := hN1.out; omega, ⟨rfl, rfl, rfl⟩, q, _, cmds, _, HM3.out, hres.out, rfl, HQ.out, by have := HT.out; omega, by have := hN1.out; omega, by have := HC.out; simp; omega⟩
    have e32' : bt s q ≠ 32 := fun h => e32 (.inl h)
    have e9' : bt s q ≠ 9 := fun h => e32 (.inr h)
    have g32 : (bt s q == 32) = false := beq_eq_false_iff_ne.mpr e32'
    have g9 : (bt s q == 9) = false := beq_eq_false_iff_ne.mpr e9'
    have n32 := Aside0.mk g32
    have n9 := Aside0.mk g9
    clear e32 e32' e9'
    by_cases e59 : bt s q = 59
    · have g59 : (bt s q == 59) = true := beq_iff_eq.mpr e59
      have hN1 : Aside0 (2 * (s.size - q) + 2 ≤ n ∧ tot + 1 ≤ q) := ⟨by
        rcases HN.out with h | h
        · exact h
        · exact absurd e59 h.2.2.2.2⟩
      have hres : Aside0 (ahead ((bytesOf s).drop q) (words ++ [strOfNums word]) cmds (tot + 1) = R) := ⟨by
        rw [← HST.out, drop_cons s q hlt]
        exact (within_semi e59).symm⟩
      clear e59
      go_wp2_with (go_at_call 28; refine (endWord w0 _ g s q word words cmds tot HM2.out (by have := HC.out; have := hN1.out; have := HQ.out; omega) HT.out (by have := hN1.out; have := HQ.out; omega)).mono ?_; rintro e w' ⟨rfl, hm⟩; have HM3 := Aside0.mk hm; clear hm)
      go_step3
      exact ⟨2 * (s.size - q) + 1, by have := hN1.out; omega, ⟨rfl, rfl, rfl⟩, q, _, cmds, _, HM3.out, hres.out, rfl, HQ.out, by have := HT.out; omega, by have := hN1.out; omega, by have := HC.out; simp; omega⟩
    · have g59 : (bt s q == 59) = false := beq_eq_false_iff_ne.mpr e59
      have n59 := Aside0.mk e59
      clear e59
      by_cases e39 : bt s q = 39
      · have g39 : (bt s q == 39) = true := beq_iff_eq.mpr e39
        obtain ⟨c0, c1, f1, hglt⟩ := HM2.out.cells
        go_upto_region 22 with (fail)
        have hM3 := HM2.out.move ((q : Int) + 1)
        generalize W.setCell ⟨g, 1, none⟩ (.int .i64 ((q : Int) + 1)) = W2 at hM3 ⊢
        rw [show ((q : Int) + 1) = ((q + 1 : Nat) : Int) by omega] at hM3
        have HM3 := Aside0.mk hM3
        clear hM3 HM2 g32 g9 g59 c0 c1 f1 hglt
        rcases hsg : sgl ((bytesOf s).drop (q + 1)) word with _ | ⟨acc, rest⟩
        · have hres : Aside0 (R = .fail (s.size - q)) := ⟨by rw [← HST.out, within_sgl_none e39 hsg, List.length_drop, len_bytesOf]; congr 1; omega⟩
          have HSG := Aside0.mk hsg
          clear hsg
          go_wp2_with (go_at_call 29; refine (single w0 _ g s (q + 1) word words cmds tot HM3.out (by have := HLT.out; omega) (by omega) (by have := HL.out; have := HQ.out; omega)).mono ?_; intro e w' hD; rw [HSG.out] at hD; obtain ⟨rfl, hB⟩ := hD; have HBB := Aside0.mk hB; clear hB)
          rw [jumps_ret]
          go_ret
          rw [hres.out]
          exact ⟨by have := HQ.out; have := HLT.out; simp; omega, HBB.out⟩
        · have hres : Aside0 (within rest acc words cmds tot = R) := ⟨by rw [← HST.out, within_sgl e39 hsg]⟩
          have hlen : Aside0 (rest.length + 1 ≤ ((bytesOf s).drop (q + 1)).length ∧ acc.length + rest.length + 1 ≤ word.length + ((bytesOf s).drop (q + 1)).length) := ⟨by have := sgl_len hsg; omega⟩
          have HSG := Aside0.mk hsg
          clear hsg
          go_wp2_with (go_at_call 29; refine (single w0 _ g s (q + 1) word words cmds tot HM3.out (by have := HLT.out; omega) (by omega) (by have := HL.out; have := HQ.out; omega)).mono ?_; intro e w' hD; rw [HSG.out] at hD; obtain ⟨rfl, q', hq', hrest, hm⟩ := hD; have HM4 := Aside0.mk hm; have HQ' := Aside0.mk hq'; have HRE := Aside0.mk hrest; clear hm hq' hrest)
          go_step3
          have hl1 := hlen.out
          rw [← HRE.out, List.length_drop, List.length_drop, len_bytesOf] at hl1
          have hq1 := HQ'.out
          have hlt1 := HLT.out
          exact ⟨2 * (s.size - q') + 2, by have := HN.out; omega, ⟨rfl, rfl, rfl⟩, q', acc, words, cmds, tot, HM4.out, by rw [HRE.out]; exact hres.out, rfl, HQ'.out, HT.out, by have := HN.out; omega, by have := HL.out; omega, HC.out⟩
      have g39 : (bt s q == 39) = false := beq_eq_false_iff_ne.mpr e39
      by_cases e34 : bt s q = 34
      · have g34 : (bt s q == 34) = true := beq_iff_eq.mpr e34
        obtain ⟨c0, c1, f1, hglt⟩ := HM2.out.cells
        go_upto_region 26 with (fail)
        have hM3 := HM2.out.move ((q : Int) + 1)
        generalize W.setCell ⟨g, 1, none⟩ (.int .i64 ((q : Int) + 1)) = W2 at hM3 ⊢
        rw [show ((q : Int) + 1) = ((q + 1 : Nat) : Int) by omega] at hM3
        have HM3 := Aside0.mk hM3
        clear hM3 HM2 g32 g9 g59 c0 c1 f1 hglt
        rcases hsg : dbl ((bytesOf s).drop (q + 1)) word with _ | ⟨acc, rest⟩
        · have hres : Aside0 (R = .fail (s.size - q)) := ⟨by rw [← HST.out, within_dbl_none e34 hsg, List.length_drop, len_bytesOf]; congr 1; omega⟩
          have HSG := Aside0.mk hsg
          clear hsg
          go_wp2_with (go_at_call 30; refine (double w0 _ g s (q + 1) word words cmds tot HM3.out (by have := HLT.out; omega) (by omega) (by have := HL.out; have := HQ.out; omega)).mono ?_; intro e w' hD; rw [HSG.out] at hD; obtain ⟨rfl, hB⟩ := hD; have HBB := Aside0.mk hB; clear hB)
          rw [jumps_ret]
          go_ret
          rw [hres.out]
          exact ⟨by have := HQ.out; have := HLT.out; simp; omega, HBB.out⟩
        · have hres : Aside0 (within rest acc words cmds tot = R) := ⟨by rw [← HST.out, within_dbl e34 hsg]⟩
          have hlen : Aside0 (rest.length + 1 ≤ ((bytesOf s).drop (q + 1)).length ∧ acc.length + rest.length + 1 ≤ word.length + ((bytesOf s).drop (q + 1)).length) := ⟨dbl_len _ (Nat.le_refl _) hsg⟩
          have HSG := Aside0.mk hsg
          clear hsg
          go_wp2_with (go_at_call 30; refine (double w0 _ g s (q + 1) word words cmds tot HM3.out (by have := HLT.out; omega) (by omega) (by have := HL.out; have := HQ.out; omega)).mono ?_; intro e w' hD; rw [HSG.out] at hD; obtain ⟨rfl, q', hq', hrest, hm⟩ := hD; have HM4 := Aside0.mk hm; have HQ' := Aside0.mk hq'; have HRE := Aside0.mk hrest; clear hm hq' hrest)
          go_step3
          have hl1 := hlen.out
          rw [← HRE.out, List.length_drop, List.length_drop, len_bytesOf] at hl1
          have hq1 := HQ'.out
          have hlt1 := HLT.out
          exact ⟨2 * (s.size - q') + 2, by have := HN.out; omega, ⟨rfl, rfl, rfl⟩, q', acc, words, cmds, tot, HM4.out, by rw [HRE.out]; exact hres.out, rfl, HQ'.out, HT.out, by have := HN.out; omega, by have := HL.out; omega, HC.out⟩
      have g34 : (bt s q == 34) = false := beq_eq_false_iff_ne.mpr e34
      by_cases e92 : bt s q = 92
      · have g92 : (bt s q == 92) = true := beq_iff_eq.mpr e92
        obtain ⟨c0, c1, f1, hglt⟩ := HM2.out.cells
        go_upto_region 30 with (fail)
        have hM3 := HM2.out.move ((q : Int) + 1)
        generalize W.setCell ⟨g, 1, none⟩ (.int .i64 ((q : Int) + 1)) = W2 at hM3 ⊢
        obtain ⟨qq, hqq⟩ : ∃ k, k = q + 1 := ⟨_, rfl⟩
        rw [show ((q : Int) + 1) = ((qq : Nat) : Int) by omega] at hM3
        have HM3 := Aside0.mk hM3
        clear hM3 HM2 g32 g9 g59 c0 c1 f1 hglt
        by_cases hl1 : qq < s.size
        · have hres : Aside0 (within ((bytesOf s).drop (qq + 1)) (word ++ [bt s (qq : Int)]) words cmds tot = R) := ⟨by
            rw [← HST.out, ← hqq, drop_cons s qq hl1, within_bs e92]⟩
          have hd : Aside0 (decide ((s.size : Int) ≤ (qq : Int)) = false) := ⟨decide_eq_false (by omega)⟩
          have hat : (((s[qq]'hl1).toNat : Nat) : Int) = bt s (qq : Int) := bt_at s (qq : Int) hl1
          have HL1 := Aside0.mk hl1
          have hl2 : (qq : Int) < (s.size : Int) := by omega
          clear e92
          go_upto_region 32 with (go_at_call 26; refine (done w0 _ g s (qq : Int) word words cmds tot HM3.out).mono ?_; rintro e w' ⟨rfl, ⟨nd2, rfl⟩⟩; rw [hd.out])
          have hM4 := HM3.out.drewN nd2
          generalize W2.drewN nd2 = W3 at hM4 ⊢
          generalize hbv : bt s (qq : Int) = bv at hat hres
          have HQQ := Aside0.mk hqq
          clear hd hqq hbv
          obtain ⟨vw, vs, vc, hb, hg, hB, hw, hs', hc⟩ := hM4
          have c0 : W3.cell? ⟨g, 0, none⟩ = some (.string s) := (blk_cell hb 0).trans rfl
          have c1 : W3.cell? ⟨g, 1, none⟩ = some (.int .i64 ((qq : Nat) : Int)) := (blk_cell hb 1).trans rfl
          have c2 : W3.cell? ⟨g, 2, none⟩ = some vw := (blk_cell hb 2).trans rfl
          have hglt : g < W3.heap.size := blk_lt hb
          have HW := Aside0.mk (Kd.R_drew hw)
          have HS := Aside0.mk (Kd.R_drew hs')
          have HCC := Aside0.mk (Kd.S_drew hc)
          have HB := Aside0.mk (below_drew hB)
          have HG := Aside0.mk hg
          have Hb := Aside0.mk (blk_drew hb)
          clear hw hs' hc hB hg hb
          have hsz : w0.heap.size ≤ W3.drew.heap.size := HB.out.size
          go_region_law (refine Kd.R_append_step (Kd.int .u8) (w0 := w0) w0.heap.size rfl (.tmp 127) (.tmp 137) 38 5 (.int .u8 0) 1 rfl Try.underlying38 info5 rfl (by decide) (by omega) vw word (bv) [.int .u8 (bv)] (fun _ => True) (fun _ => False) rfl rfl rfl (fun _ hk => hk.elim) (fun _ _ => trivial) HW.out HB.out hsz (by have := HL.out; have := HQ.out; omega) ?_; intro v1 w1 ho hb hgr hat; obtain ⟨A1, k1, hv1⟩ := Kd.R_slice ho; subst hv1; obtain ⟨f1', f2', c0', c1', c2', HB1⟩ := facts3 Hb HW hgr; have HO := Aside0.mk ho; have HB2 := Aside0.mk hb; have HGR := Aside0.mk hgr; clear ho hb hgr hat)
          all_goals go_wp2_with (fail)
          all_goals go_step3
          all_goals exact ⟨2 * (s.size - (qq + 1)) + 2, by have := HN.out; have := HQQ.out; have := HL1.out; omega, ⟨rfl, rfl, rfl⟩, qq + 1, _, words, cmds, tot, fin32 (word_ms ((qq : Int) + 1) HW HS HCC HG HB1 HO HB2 HGR (by simp)), hres.out, rfl, HL1.out, HT.out, by have := HN.out; have := HQQ.out; omega, by have := HL.out; have := HQQ.out; simp; omega, HC.out⟩
        · have hres : Aside0 (R = .fail (s.size - q)) := ⟨by
            rw [← HST.out, List.drop_of_length_le (by rw [len_bytesOf]; omega), within_bs_end e92]; congr 1; omega⟩
          have hd : Aside0 (decide ((s.size : Int) ≤ (qq : Int)) = true) := ⟨decide_eq_true (by omega)⟩
          clear e92 hqq
          go_wp2_with (go_at_call 26; refine (done w0 _ g s (qq : Int) word words cmds tot HM3.out).mono ?_; rintro e w' ⟨rfl, ⟨nd2, rfl⟩⟩; rw [hd.out])
          rw [jumps_ret]
          go_ret
          rw [hres.out]
          exact ⟨by have := HQ.out; have := HLT.out; simp; omega, (HM3.out.drewN nd2).below⟩
      · have g92 : (bt s q == 92) = false := beq_eq_false_iff_ne.mpr e92
        have hres : Aside0 (within ((bytesOf s).drop (q + 1)) (word ++ [bt s q]) words cmds tot = R) := ⟨by
          rw [← HST.out]
          exact (within_other (by simp [isBlank, n32.out, n9.out]) n59.out e39 e34 e92).symm⟩
        have HQQ : Aside0 (q = q) := ⟨rfl⟩
        have HL1 := HLT
        obtain ⟨c0, c1, f1, hglt⟩ := HM2.out.cells
        go_upto_region 32 with (fail)
        clear c0 c1 f1 hglt g32 g9 g59 g39 g34 g92 e39 e34 e92
        have hM4 := HM2.out
        generalize hbv : bt s q = bv at hat hres
        clear hbv
        obtain ⟨vw, vs, vc, hb, hg, hB, hw, hs', hc⟩ := hM4
        have c0 : W.cell? ⟨g, 0, none⟩ = some (.string s) := (blk_cell hb 0).trans rfl
        have c1 : W.cell? ⟨g, 1, none⟩ = some (.int .i64 ((q : Nat) : Int)) := (blk_cell hb 1).trans rfl
        have c2 : W.cell? ⟨g, 2, none⟩ = some vw := (blk_cell hb 2).trans rfl
        have hglt : g < W.heap.size := blk_lt hb
        have HW := Aside0.mk (Kd.R_drew hw)
        have HS := Aside0.mk (Kd.R_drew hs')
        have HCC := Aside0.mk (Kd.S_drew hc)
        have HB := Aside0.mk (below_drew hB)
        have HG := Aside0.mk hg
        have Hb := Aside0.mk (blk_drew hb)
        clear hw hs' hc hB hg hb
        have hsz : w0.heap.size ≤ W.drew.heap.size := HB.out.size
        go_region_law (refine Kd.R_append_step (Kd.int .u8) (w0 := w0) w0.heap.size rfl (.tmp 127) (.tmp 137) 38 5 (.int .u8 0) 1 rfl Try.underlying38 info5 rfl (by decide) (by omega) vw word (bv) [.int .u8 (bv)] (fun _ => True) (fun _ => False) rfl rfl rfl (fun _ hk => hk.elim) (fun _ _ => trivial) HW.out HB.out hsz (by have := HL.out; have := HQ.out; omega) ?_; intro v1 w1 ho hb hgr hat; obtain ⟨A1, k1, hv1⟩ := Kd.R_slice ho; subst hv1; obtain ⟨f1', f2', c0', c1', c2', HB1⟩ := facts3 Hb HW hgr; have HO := Aside0.mk ho; have HB2 := Aside0.mk hb; have HGR := Aside0.mk hgr; clear ho hb hgr hat)
        all_goals go_wp2_with (fail)
        all_goals go_step3
        all_goals exact ⟨2 * (s.size - (q + 1)) + 2, by have := HN.out; have := HQQ.out; have := HL1.out; omega, ⟨rfl, rfl, rfl⟩, q + 1, _, words, cmds, tot, fin32 (word_ms ((q : Int) + 1) HW HS HCC HG HB1 HO HB2 HGR (by simp)), hres.out, rfl, HL1.out, HT.out, by have := HN.out; have := HQQ.out; omega, by have := HL.out; have := HQQ.out; simp; omega, HC.out⟩
  · have hd : Aside0 (decide ((s.size : Int) ≤ (q : Int)) = true) := ⟨decide_eq_true (by omega)⟩
    have hN1 : Aside0 (2 * (s.size - q) + 2 ≤ n ∧ tot + 1 ≤ q) := ⟨by rcases HN.out with h | h; exact h; omega⟩
    have hres : Aside0 (R = .ok (endC (words ++ [strOfNums word]) cmds) (tot + 1)) := ⟨by rw [← HR.out, List.drop_of_length_le (by rw [len_bytesOf]; omega), within_nil]⟩
    go_wp2_with (first | (go_at_call 26; refine (done w0 _ g s q word words cmds tot HM.out).mono ?_; rintro e w' ⟨rfl, ⟨nd, rfl⟩⟩; rw [hd.out]) | (go_at_call 28; refine (endWord w0 _ g s q word words cmds tot (HM.out.drewN nd) (by have := HC.out; have := hN1.out; have := HQ.out; omega) HT.out (by have := hN1.out; have := HQ.out; omega)).mono ?_; rintro e w' ⟨rfl, hm⟩; have HM2 := Aside0.mk hm; clear hm))
    go_step3
    exact ⟨0, by have := hN1.out; omega, ⟨rfl, rfl, rfl⟩, q, [], _, cmds, _, HM2.out, hres.out, by have := HC.out; have := hN1.out; have := HQ.out; omega⟩
end Go.Proofs.Ytfpbgchlemcpbaa.Mach
