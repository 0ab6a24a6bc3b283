/- The law LexLists: its walk. Condition: the lists' bulk is small. Under way. -/
import Derived.Test.YtfpbgchlemcpbaaListsLaw
namespace Go.Proofs.Ytfpbgchlemcpbaa.LexLaws
open Go.RowKit Go.Proofs.Ytfpbgchlemcpbaa.PL Go.Proofs.Ytfpbgchlemcpbaa.Mach Go.Proofs.YtfpbgchlemcpbaaW.PrintWords Go.Proofs.YtfpbgchlemcpbaaW.PrintLast Go.Proofs.YtfpbgchlemcpbaaW.PrintMore
attribute [local go_sem] max2_int min2_int max_two min_two max_three min_three max_four min_four
/-- the lists that are not empty -/
def keep (l : List (List ByteArray)) : List (List ByteArray) := l.filter (fun r => !r.isEmpty)
theorem sum_listSz (l : List (List ByteArray)) : sumLen l ≤ listSz l := by
  induction l with
  | nil => simp [sumLen]
  | cons a l ih =>
    have e : listSz (a :: l) = (rowSz a + 1) + listSz l := by simp [listSz]
    have e2 : sumLen (a :: l) = a.length + sumLen l := by simp [sumLen]
    have h := len_rowSz a
    omega
theorem take_listSz (l : List (List ByteArray)) (i : Nat) : listSz (l.take i) ≤ listSz l := by
  have app : ∀ a b : List (List ByteArray), listSz (a ++ b) = listSz a + listSz b := fun a b => by simp [listSz]
  have h := app (l.take i) (l.drop i)
  rw [List.take_append_drop] at h
  omega
theorem keep_sum (l : List (List ByteArray)) (i : Nat) : sumLen (keep (l.take i)) ≤ listSz l :=
  Nat.le_trans (sum_listSz _) (Nat.le_trans (filter_listSz _ _) (take_listSz l i))
set_option maxHeartbeats 8000000 in
set_option maxRecDepth 100000 in
theorem LexLists_walk (A0 : Option Addr) (c0 : Nat) (l : List (List ByteArray)) (w : World) (hr0 : Kd.C (Kd.slice 9 Kd.string) w A0 l.length l) (hc0 : l.length ≤ c0) (hsz : listSz l ≤ 1000000000) :
    Calls Try.prog 6 #[.slice A0 l.length c0] w fun e w' => e = .returned (.bool true) ∧ Below w.heap.size w w' := by
  have HR0 := Aside0.mk hr0
  have HC0 := Aside0.mk hc0
  have HS0 := Aside0.mk hsz
  clear hr0 hc0 hsz
  have HB := Aside0.mk (Below.refl w.heap.size w)
  go_enter Try.func6, Try.ntmps6
  go_wp2
  go_loopg [3, 4, 5] l.length (fun kq v3 v4 v5 w' => ∃ (i : Nat) (c : Int), v4 = .int .i64 c ∧ v5 = .int .i64 (i : Int) ∧ Aside0 (i ≤ l.length ∧ kq = l.length - i ∧ c = (sumLen (keep (l.take i)) : Int)) ∧ Aside0 (Kd.N (Kd.slice 9 Kd.string) 30 w' w.heap.size (fun _ => True) v3 (keep (l.take i))) ∧ Aside0 (Below w.heap.size w w'))
  case atStart => exact ⟨0, 0, rfl, rfl, ⟨⟨Nat.zero_le _, rfl, by simp [keep, sumLen]⟩⟩, ⟨by (with_reducible repeat (first | apply Kd.N_alloc | apply Kd.N_drewN | apply Kd.N_drew)); exact Kd.N_nil _ _ _ _ _⟩, ⟨by repeat (first | (with_reducible first | exact HB.out | apply below_alloc | apply pw_below_drewN | apply below_drew1) | exact HB.out)⟩⟩
  case round =>
    obtain ⟨i, c, rfl, rfl, HI, HN, HB⟩ := hrel
    obtain ⟨hi, hk, hcw⟩ := HI.out
    by_cases h1 : (i : Int) < (l.length : Int)
    · have h1b : decide ((i : Int) < (l.length : Int)) = true := decide_eq_true h1
      have hlt : i < l.length := by omega
      have p : 0 ≤ (i : Int) := by omega
      obtain ⟨ad, A, cc, e, hx, hl, hri⟩ := at_L1 HR0.out (i : Int) p h1
      cases e
      have hx0 := hx
      replace hx := (HB.out.cell (World.block_lt_of_cell? w _ hx)).trans hx
      rw [Int.toNat_natCast] at hx hx0
      have hat : rd_L1 l (i : Int) = l[i] := rd_at l i hlt
      rw [hat] at hx hx0 hl hri
      have hF := Kd.C_F (d := Kd.slice 9 Kd.string) (Kd.heap_slice 9 Kd.heap_string) HR0.out
      obtain ⟨ad', ce, e', hcl, hK, hcc, _⟩ := Kd.F_get hF [] (i : Int) p h1
      cases e'
      rw [Int.toNat_natCast] at hK hcc
      have hgd : l.getD i [] = l[i] := by rw [List.getD_eq_getElem?_getD, List.getElem?_eq_getElem hlt]; rfl
      rw [hgd] at hK
      obtain ⟨ua, uc, rfl, ul, ge⟩ := Kd.FK_slice_open hK
      have hv := hcc 0 _ rfl
      rw [Nat.add_zero, show ((Kd.slice 9 Kd.string)).sz = 1 from rfl, Nat.mul_one] at hv
      replace hv := Option.some.inj (hv.symm.trans hx0)
      injection hv with hva hvn hvc
      subst hva
      subst hvc
      have HK := Aside0.mk (Kd.FK_below hK HB.out)
      have HX := Aside0.mk hx0
      clear hx0 hcc hF hK ge hcl
      have pt := eq_true p
      have ht := eq_true h1
      have e4 : l.take (i + 1) = l.take i ++ [l[i]] := List.take_succ_eq_append_getElem hlt
      clear h1
      go_upto_if 21 with (fail)
      by_cases h2 : (0 : Int) < ((l[i]).length : Int)
      · have h2b : decide ((0 : Int) < ((l[i]).length : Int)) = true := decide_eq_true h2
        (first | rw [h2b] | skip)
        have e5 : keep (l.take (i + 1)) = keep (l.take i) ++ [l[i]] := by
          unfold keep
          rw [e4, List.filter_append, List.filter_cons_of_pos (by cases hc : l[i] with | nil => rw [hc] at h2; exact absurd h2 (by simp) | cons a b => rfl), List.filter_nil]
        have hlen : (keep (l.take i)).length ≤ l.length := by
          have h3 := List.length_filter_le (fun r : List ByteArray => !r.isEmpty) (l.take i)
          rw [List.length_take] at h3
          unfold keep; omega
        have hll := len_listSz l
        have hs0 := HS0.out
        go_wp2_with ((with_reducible refine gate_builtin (b := .append) (xs := #[.tmp 22, .tmp 27]) rfl ?_); (try (refine gate_guard (by rfl) ?_; dsimp only)); at_builtin; refine Kd.N_append (Kd.slice 9 Kd.string) (w0 := w) w.heap.size rfl (.tmp 22) (.tmp 27) 25 30 (.slice none 0 0) 24 rfl Try.underlying25 PL.info30 rfl (by decide) (by omega) u3 (keep (l.take i)) (l[i]) [.slice ua (l[i]).length uc] (fun _ => True) (fun k => k < w.heap.size) rfl rfl ?aP ?aK (fun _ _ => trivial) ?aO ?aB ?aS ?aL ?_; (case aP => exact HK.out); (case aK => exact fun k hk => ⟨trivial, fun e => by have := Kd.N_base HN.out k e.symm; omega⟩); (case aO => exact (by (with_reducible repeat (first | apply Kd.N_alloc | apply Kd.N_drewN | apply Kd.N_drew)); exact HN.out)); (case aB => exact (by repeat (first | (with_reducible first | exact HB.out | apply below_alloc | apply pw_below_drewN | apply below_drew1) | exact HB.out))); (case aS => exact (below_size (by repeat (first | (with_reducible first | exact HB.out | apply below_alloc | apply pw_below_drewN | apply below_drew1) | exact HB.out)))); (case aL => omega); intro v1 w1 ho hb hg hat; rw [← e5] at ho; clear HN HB; have HN := Aside0.mk ho; have HB := Aside0.mk hb; clear hx; have hx := (hb.cell (World.block_lt_of_cell? w _ HX.out)).trans HX.out; clear ho hb hg hat)
        go_roundg (l.length - (i + 1))
        case measure => omega
        have hsum : wrap64 ((sumLen (keep (l.take i)) : Int) + ((l[i]).length : Int)) = (sumLen (keep (l.take (i + 1))) : Int) := by
          have h3 := keep_sum l i
          have h4 := len_rowSz (l[i])
          have h5 := mem_listSz (List.getElem_mem hlt)
          have h6 : sumLen [l[i]] = (l[i]).length := by simp [sumLen]
          rw [e5, sumLen_append, h6]
          unfold wrap64
          omega
        case rel => exact ⟨i + 1, _, rfl, (by first | rfl | rw [wrap1 i (by omega)]), ⟨⟨by omega, rfl, hsum⟩⟩, ⟨by (with_reducible repeat (first | apply Kd.N_alloc | apply Kd.N_drewN | apply Kd.N_drew)); exact HN.out⟩, ⟨by repeat (first | (with_reducible first | exact HB.out | apply below_alloc | apply pw_below_drewN | apply below_drew1) | exact HB.out)⟩⟩
      · have h2b : decide ((0 : Int) < ((l[i]).length : Int)) = false := decide_eq_false h2
        (first | rw [h2b] | skip)
        have e5 : keep (l.take (i + 1)) = keep (l.take i) := by
          unfold keep
          rw [e4, List.filter_append, List.filter_cons_of_neg (by cases hc : l[i] with | nil => simp | cons a b => rw [hc] at h2; exact absurd (by simp only [List.length_cons]; omega) h2), List.filter_nil, List.append_nil]
        clear HK
        have hll := len_listSz l
        have hs0 := HS0.out
        go_wp2
        go_roundg (l.length - (i + 1))
        case measure => omega
        case rel => exact ⟨i + 1, _, rfl, (by first | rfl | rw [wrap1 i (by omega)]), ⟨⟨by omega, rfl, by rw [e5]⟩⟩, ⟨by rw [e5]; (with_reducible repeat (first | apply Kd.N_alloc | apply Kd.N_drewN | apply Kd.N_drew)); exact HN.out⟩, ⟨by repeat (first | (with_reducible first | exact HB.out | apply below_alloc | apply pw_below_drewN | apply below_drew1) | exact HB.out)⟩⟩
    · have h1b : decide ((i : Int) < (l.length : Int)) = false := decide_eq_false h1
      have hil : i = l.length := by omega
      subst hil
      rw [List.take_length] at HN
      obtain ⟨kl, hkl⟩ := line_small (keep l) (Nat.le_trans (filter_listSz _ _) HS0.out)
      obtain ⟨Ao, co, eo⟩ := Kd.N_slice HN.out
      subst eo
      clear h1
      have HL := Aside0.mk (hkl kl (Nat.le_refl _))
      have hm := Kd.N_reads' HN.out
      obtain ⟨ms, at8, er, hcm⟩ : ∃ (ms : List (List ByteArray)) (at8 er : Int), commandsF (lineB true (keep l)) = (ms, at8, er) := ⟨_, _, _, rfl⟩
      have A8 := Aside0.mk (show lex_Commands.f (lineB true (keep l)) = some (ms, at8, er) from congrArg some hcm)
      go_upto_region 11 with (first | ((with_reducible refine gate_callee (f := 17) rfl ?_); refine goesL_ (some 37) rfl rfl Try.func17 (by kernel_rfl) rfl #[.slice Ao (keep l).length co] rfl (by (try simp only [List.map_toArray, List.map_cons, List.map_nil]); first | done | rfl) ?_; (with_reducible refine (mullionlaw09_line.calls kl Ao co (keep l) (lineB true (keep l)) _ hm.2.2 hm.2.1 HL.out).mono ?_); rintro e w7 ⟨rfl, hb⟩; refine ⟨_, rfl, ?_⟩; have n0_ := Aside0.mk (Kd.N_below HN.out hb); have n1_ := Aside0.mk (below_step (by repeat (first | (with_reducible first | exact HB.out | apply below_alloc | apply pw_below_drewN | apply below_drew1) | exact HB.out)) hb); clear HN HB hm; have HN := n0_; have HB := n1_; clear n0_ n1_ hb) | ((with_reducible refine gate_callee (f := 14) rfl ?_); refine goesL_ (some 40) rfl rfl Try.func14 (by kernel_rfl) rfl #[.string (lineB true (keep l))] rfl (by (try simp only [List.map_toArray, List.map_cons, List.map_nil]); first | done | rfl) ?_; (with_reducible refine (lex_Commands.calls (lineB true (keep l)) ms at8 er _ A8.out).mono ?_); rintro e w8 ⟨v8, rfl, ho0, hb⟩; refine ⟨_, rfl, ?_⟩; have n0_ := Aside0.mk (Kd.N_below HN.out hb); have n2_ := Aside0.mk (Kd.S_N (Kd.S_lower ho0 (below_size (by repeat (first | (with_reducible first | exact HB.out | apply below_alloc | apply pw_below_drewN | apply below_drew1) | exact HB.out))))); have n1_ := Aside0.mk (below_step (by repeat (first | (with_reducible first | exact HB.out | apply below_alloc | apply pw_below_drewN | apply below_drew1) | exact HB.out)) hb); clear HN HB; have HN := n0_; have HB := n1_; have HM := n2_; clear n0_ n1_ n2_ hb ho0))
      obtain ⟨ksu, hsu⟩ := sure_f
      have AS := Aside0.mk (hsu ksu (Nat.le_refl _))
      have hn : ∀ r ∈ keep l, r ≠ [] := fun r hr e => by
        have := (List.mem_filter.1 hr).2
        rw [e] at this
        exact absurd this (by decide)
      obtain ⟨Am, cm, em⟩ := Kd.N_slice HM.out
      subst em
      by_cases hs : (lineB true (keep l)).size ≤ 8192
      · have hsb : decide ((8192 : Int) < ((lineB true (keep l)).size : Int)) = false := decide_eq_false (by omega)
        rw [commands_line (keep l) hn hs] at hcm
        by_cases h16 : (16 : Int) < ((keep l).length : Int)
        · have h16b : decide ((16 : Int) < ((keep l).length : Int)) = true := decide_eq_true h16
          rw [if_pos (Or.inl (by omega))] at hcm
          injection hcm with e1 e2
          injection e2 with e2 e3
          subst e1 e2 e3
          go_wp2_with (fail)
          refine (mullionlaw09_sure.calls ksu true _ AS.out).mono ?_
          rintro e w9 ⟨rfl, hb⟩
          replace HB := Aside0.mk (below_step (by repeat (first | (with_reducible first | exact HB.out | apply below_alloc | apply pw_below_drewN | apply below_drew1) | exact HB.out)) hb)
          go_wp2
          go_ret
          exact ⟨by first | rfl | (simp [*] <;> rfl), (by repeat (first | (with_reducible first | exact HB.out | apply below_alloc | apply pw_below_drewN | apply below_drew1) | exact HB.out))⟩
        · have h16b : decide ((16 : Int) < ((keep l).length : Int)) = false := decide_eq_false h16
          by_cases h64 : (64 : Int) < (sumLen (keep l) : Int)
          · have h64b : decide ((64 : Int) < (sumLen (keep l) : Int)) = true := decide_eq_true h64
            rw [if_pos (Or.inr (by omega))] at hcm
            injection hcm with e1 e2
            injection e2 with e2 e3
            subst e1 e2 e3
            go_wp2_with (fail)
            refine (mullionlaw09_sure.calls ksu true _ AS.out).mono ?_
            rintro e w9 ⟨rfl, hb⟩
            replace HB := Aside0.mk (below_step (by repeat (first | (with_reducible first | exact HB.out | apply below_alloc | apply pw_below_drewN | apply below_drew1) | exact HB.out)) hb)
            go_wp2
            go_ret
            exact ⟨by first | rfl | (simp [*] <;> rfl), (by repeat (first | (with_reducible first | exact HB.out | apply below_alloc | apply pw_below_drewN | apply below_drew1) | exact HB.out))⟩
          · have h64b : decide ((64 : Int) < (sumLen (keep l) : Int)) = false := decide_eq_false h64
            rw [if_neg (by omega)] at hcm
            injection hcm with e1 e2
            injection e2 with e2 e3
            subst e1 e2 e3
            go_wp2_with (fail)
            have hmm := Kd.N_reads' HM.out
            have hmn := Kd.N_reads' HN.out
            have hkl := Nat.le_trans (len_listSz (keep l)) (Nat.le_trans (filter_listSz l _) HS0.out)
            obtain ⟨ke, hke⟩ := same_f (keep l) (keep l) (by omega) (fun r hr => by
              have h3 := mem_sumLen hr
              omega)
            refine (mullionlaw09_same.calls ke Am cm (keep l) Ao co (keep l) true _ hmm.2.2 hmm.2.1 hmn.2.2 hmn.2.1 (by have := hke ke (Nat.le_refl _); rw [decide_eq_true rfl] at this; exact this)).mono ?_
            rintro e w9 ⟨rfl, ⟨nd, rfl⟩⟩
            go_wp2_with (fail)
            refine (mullionlaw09_sure.calls ksu true _ AS.out).mono ?_
            rintro e w10 ⟨rfl, hb⟩
            replace HB := Aside0.mk (below_step (by repeat (first | (with_reducible first | exact HB.out | apply below_alloc | apply pw_below_drewN | apply below_drew1) | exact HB.out)) hb)
            go_wp2
            go_ret
            exact ⟨by first | rfl | (simp [*] <;> rfl), (by repeat (first | (with_reducible first | exact HB.out | apply below_alloc | apply pw_below_drewN | apply below_drew1) | exact HB.out))⟩
      · have hsb : decide ((8192 : Int) < ((lineB true (keep l)).size : Int)) = true := decide_eq_true (by omega)
        rw [commandsF_long hs] at hcm
        injection hcm with e1 e2
        injection e2 with e2 e3
        subst e1 e2 e3
        go_wp2_with (fail)
        refine (mullionlaw09_sure.calls ksu true _ AS.out).mono ?_
        rintro e w9 ⟨rfl, hb⟩
        replace HB := Aside0.mk (below_step (by repeat (first | (with_reducible first | exact HB.out | apply below_alloc | apply pw_below_drewN | apply below_drew1) | exact HB.out)) hb)
        go_wp2
        go_ret
        exact ⟨by first | rfl | (simp [*] <;> rfl), by repeat (first | (with_reducible first | exact HB.out | apply below_alloc | apply pw_below_drewN | apply below_drew1) | exact HB.out)⟩
end Go.Proofs.Ytfpbgchlemcpbaa.LexLaws
