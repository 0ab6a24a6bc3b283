/- The lexer's machine: a piece in double quotes. No condition but lengths below a bound. -/
import Derived.Test.YtfpbgchlemcpbaaMach3
namespace Go.Proofs.Ytfpbgchlemcpbaa.Mach
open Go.RowKit Go.Proofs.YtfpbgchlemcpbaaW.PrintWords Go.Proofs.YtfpbgchlemcpbaaW.PrintLast Go.Proofs.YtfpbgchlemcpbaaW.PrintMore
set_option linter.unusedVariables false
set_option linter.unusedSimpArgs false

def DblP (w0 : World) (g : Nat) (s : ByteArray) (words : List ByteArray) (cmds : List (List ByteArray)) (tot : Int) (o : Option (List Int × List Int)) (e : Ending) (w : World) : Prop :=
  match o with
  | none => e = .returned (.bool false) ∧ Below w0.heap.size w0 w
  | some (acc, rest) => e = .returned (.bool true) ∧ ∃ q : Nat, q ≤ s.size ∧ (bytesOf s).drop q = rest ∧ MS w0 g s q acc words cmds tot w

theorem len_bytesOf (s : ByteArray) : (bytesOf s).length = s.size := by simp [bytesOf]
theorem get_bytesOf (s : ByteArray) (i : Nat) (h : i < s.size) : (bytesOf s)[i]? = some (bt s i) := by
  rw [List.getElem?_eq_getElem (by rw [len_bytesOf]; exact h), ← rd_bytesOf]
  simp [rd, List.getD_eq_getElem?_getD, List.getElem?_eq_getElem (show i < (bytesOf s).length by rw [len_bytesOf]; exact h)]
theorem drop_cons (s : ByteArray) (q : Nat) (h : q < s.size) : (bytesOf s).drop q = bt s q :: (bytesOf s).drop (q + 1) := by
  have hl : q < (bytesOf s).length := by rw [len_bytesOf]; exact h
  have e := get_bytesOf s q h
  rw [List.getElem?_eq_getElem hl] at e
  rw [List.drop_eq_getElem_cons hl, Option.some.inj e]
theorem bytesOf_extract (s : ByteArray) (q : Nat) : bytesOf (s.extract q s.size) = (bytesOf s).drop q := by
  unfold bytesOf
  rw [Lib.extract_data, List.map_take, List.map_drop, List.take_of_length_le]
  simp
theorem bt_extract (s : ByteArray) (q i : Nat) (h : q + i < s.size) : bt (s.extract q s.size) i = bt s ((q + i : Nat) : Int) := by
  have h1 := get_bytesOf (s.extract q s.size) i (by simp; omega)
  rw [bytesOf_extract, List.getElem?_drop, get_bytesOf s (q + i) h] at h1
  exact (Option.some.inj h1).symm

theorem EscP_spec {w0 w : World} {g : Nat} {s : ByteArray} {q : Nat} {acc : List Int} {words : List ByteArray} {cmds : List (List ByteArray)} {tot : Int} (hq : q < s.size)
    (h : EscP w0 g s q (s.extract q s.size) acc words cmds tot (decide (3 ≤ (s.extract q s.size).size) && (okD (s.extract q s.size) 3 && decide (valD (s.extract q s.size) 3 ≤ 255))) w) :
    ∃ b n, escL ((bytesOf s).drop q) = some (b, n) ∧ MS w0 g s ((q + n : Nat) : Int) (acc ++ [b]) words cmds tot w := by
  have hsz : (s.extract q s.size).size = s.size - q := by simp
  have hlen : ((bytesOf s).drop q).length = s.size - q := by rw [List.length_drop, len_bytesOf]
  have e0 : bt (s.extract q s.size) ((0 : Nat) : Int) = bt s q := by simpa using bt_extract s q 0 (by omega)
  have e0' : bt (s.extract q s.size) 0 = bt s q := e0
  rw [drop_cons s q hq]
  rw [hsz] at h
  by_cases h3 : 3 ≤ s.size - q
  · have e1 := bt_extract s q 1 (by omega)
    have e2 : bt (s.extract q s.size) ((2 : Nat) : Int) = bt s ((q + 1 + 1 : Nat) : Int) := bt_extract s q 2 (by omega)
    rw [drop_cons s (q + 1) (by omega), drop_cons s (q + 1 + 1) (by omega)]
    have ev : valD (s.extract q s.size) 3 = oval (bt s q) (bt s ((q + 1 : Nat) : Int)) (bt s ((q + 1 + 1 : Nat) : Int)) := by
      simp only [valD, oval]
      rw [e0, e1, e2]
      omega
    have eo : okD (s.extract q s.size) 3 = (oct (bt s q) && oct (bt s ((q + 1 : Nat) : Int)) && oct (bt s ((q + 1 + 1 : Nat) : Int))) := by
      simp only [okD, oct]
      rw [e0, e1, e2]
      simp
    rw [decide_eq_true h3, Bool.true_and, eo, ev] at h
    simp only [escL]
    generalize (oct (bt s q) && oct (bt s ((q + 1 : Nat) : Int)) && oct (bt s ((q + 1 + 1 : Nat) : Int)) && decide (oval (bt s q) (bt s ((q + 1 : Nat) : Int)) (bt s ((q + 1 + 1 : Nat) : Int)) ≤ 255)) = b at h ⊢
    cases b with
    | true =>
      refine ⟨_, _, if_pos rfl, ?_⟩
      simp only [EscP, if_true, ev] at h
      exact_mod_cast h
    | false =>
      refine ⟨_, _, if_neg (by simp), ?_⟩
      simp only [EscP, Bool.false_eq_true, if_false, e0'] at h
      exact_mod_cast h
  · rw [decide_eq_false h3, Bool.false_and] at h
    simp only [EscP, Bool.false_eq_true, if_false, e0'] at h
    refine ⟨esc1 (bt s q), 1, ?_, by exact_mod_cast h⟩
    have hl : ((bytesOf s).drop (q + 1)).length ≤ 1 := by rw [List.length_drop, len_bytesOf]; omega
    match (bytesOf s).drop (q + 1), hl with
    | [], _ => rfl
    | [_], _ => rfl

/-- A byte more in the word; the place stays. -/
theorem word_ms1 {w0 w w1 : World} {g : Nat} {s : ByteArray} {p tot : Int} {vw vs vc : Value} {word : List Int} {words : List ByteArray} {cmds : List (List ByteArray)} {ys : List Int} {A1 : Option Addr} {k1 : Nat} {N : Nat}
    (HW : Aside0 (Kd.R (Kd.int .u8) 5 w w0.heap.size (fun _ => True) vw word)) (HS : Aside0 (Kd.R Kd.string 9 w w0.heap.size (fun _ => True) vs words))
    (HC : Aside0 (Kd.S (Kd.slice 9 Kd.string) 30 w w0.heap.size (fun k => some k ≠ vs.ownBlock) vc cmds)) (HG : Aside0 (w0.heap.size ≤ g))
    (HB1 : Aside0 (w1.heap[g]? = some (.cells #[.string s, .int .i64 p, vw, vs, vc, .int .i64 tot] 42 (0, 0))))
    (HO : Aside0 (Kd.R (Kd.int .u8) 5 w1 w0.heap.size (fun _ => True) (.slice A1 (word ++ ys).length k1) (word ++ ys))) (HB2 : Aside0 (Below w0.heap.size w0 w1)) (HGR : Aside0 (w.grownBy w1 vw.ownBlock)) (hN : N = (word ++ ys).length) :
    MS w0 g s p (word ++ ys) words cmds tot (w1.setCell ⟨g, 2, none⟩ (.slice A1 N k1)) := by
  subst hN
  have b1 := blk_set HB1.out 2 (.slice A1 (word ++ ys).length k1)
  have hty := Kd.R_typed HW.out
  have hS1 := Kd.R_over' HS.out hty (by decide) HGR.out
  have hC1 := Kd.S_over' HC.out hty (by decide) HGR.out
  refine ⟨.slice A1 (word ++ ys).length k1, vs, vc, by simpa using b1, HG.out, below_set HB2.out HG.out, Kd.R_set HO.out HB1.out (by decide) _ _, Kd.R_set hS1 HB1.out (by decide) _ _, Kd.S_set hC1 HB1.out (by decide) _ _⟩

set_option maxHeartbeats 4000000 in
set_option maxRecDepth 100000 in
theorem double (w0 w : World) (g : Nat) (s : ByteArray) (p : Nat) (word : List Int) (words : List ByteArray) (cmds : List (List ByteArray)) (tot : Int)
    (h : MS w0 g s p word words cmds tot w) (hp : p ≤ s.size) (hs : s.size ≤ 100000) (hl : word.length ≤ 100000) :
    Calls Try.prog 30 #[.pointer (some ⟨g, 0, none⟩)] w (DblP w0 g s words cmds tot (dbl ((bytesOf s).drop p) word)) := by
  have HM := Aside0.mk h
  clear h
  have HD0 : Aside0 (DblP w0 g s words cmds tot (dbl ((bytesOf s).drop p) word) = DblP w0 g s words cmds tot (dbl ((bytesOf s).drop p) word)) := ⟨rfl⟩
  generalize hD : dbl ((bytesOf s).drop p) word = D
  have HD := Aside0.mk hD
  clear hD HD0
  go_enter Try.func30, Try.ntmps30
  go_wp2
  go_loopg [3] (s.size - p) (fun kq v3 wr => ∃ (q : Nat) (acc : List Int), Aside0 (MS w0 g s q acc words cmds tot wr) ∧ Aside0 (dbl ((bytesOf s).drop q) acc = D) ∧ Aside0 (kq = s.size - q) ∧ Aside0 (q ≤ s.size) ∧ Aside0 (acc.length ≤ 100000 + q))
  case atStart => exact ⟨p, word, HM, HD, ⟨rfl⟩, ⟨hp⟩, ⟨by omega⟩⟩
  case round =>
    obtain ⟨q, acc, HMq, HDq, HK, HQ, HL⟩ := hrel
    clear HM HD hp hl
    by_cases hlt : q < s.size
    · obtain ⟨c0, c1, f1, hglt⟩ := HMq.out.cells
      have hdn : Aside0 (decide ((s.size : Int) ≤ (q : Int)) = false) := ⟨decide_eq_false (by omega)⟩
      have hat : (((s[q]'hlt).toNat : Nat) : Int) = bt s q := bt_at s q hlt
      have hlt2 : (q : Int) < (s.size : Int) := by omega
      have hstep : Aside0 (D = dbl (bt s q :: (bytesOf s).drop (q + 1)) acc) := ⟨by rw [← HDq.out, drop_cons s q hlt]⟩
      go_wp2_with (go_at_call 26; refine (done w0 _ g s q acc words cmds tot HMq.out).mono ?_; rintro e w' ⟨rfl, ⟨nd, rfl⟩⟩; rw [hdn.out])
      go_quiet (fail)
      go_upto_region 4 with (fail)
      have hM2 := (HMq.out.drewN (nd + nq)).move ((q : Int) + 1)
      generalize (wr.drewN (nd + nq)).setCell ⟨g, 1, none⟩ (.int .i64 ((q : Int) + 1)) = W at hM2 ⊢
      rw [show ((q : Int) + 1) = ((q + 1 : Nat) : Int) by omega] at hM2
      have HM2 := Aside0.mk hM2
      have HLT := Aside0.mk hlt
      clear hM2 c0 c1 f1 hglt hat hlt2 hlt hdn
      by_cases e34 : bt s q = 34
      · have g1 : (bt s q == 34) = true := beq_iff_eq.mpr e34
        have hD2 : Aside0 (D = some (acc, (bytesOf s).drop (q + 1))) := ⟨by rw [hstep.out, dbl, if_pos e34]⟩
        clear e34
        go_wp2
        go_ret
        rw [hD2.out]
        exact ⟨rfl, q + 1, HLT.out, rfl, HM2.out⟩
      · have g1 : (bt s q == 34) = false := beq_eq_false_iff_ne.mpr e34
        by_cases e92 : bt s q = 92
        · have g2 : (bt s q == 92) = true := beq_iff_eq.mpr e92
          by_cases hl1 : q + 1 < s.size
          · have HL1 := Aside0.mk hl1
            have hE92 := Aside0.mk e92
            have hE34 := Aside0.mk e34
            clear e34 e92 hl1
            go_wp2_with (go_at_call 34; refine (escaped_some w0 _ g s (q + 1) acc words cmds tot HM2.out HL1.out (by omega) (by have := HL.out; have := HQ.out; omega) _ rfl).mono ?_; rintro e w' ⟨rfl, hE⟩; obtain ⟨b, n, hb, hm⟩ := EscP_spec HL1.out hE; have HBN := Aside0.mk hb; have HM3 := Aside0.mk hm; clear hE hb hm)
            go_roundg (s.size - (q + 1 + n))
            case measure => have := HK.out; have := HLT.out; omega
            case rel =>
              have hlen := escL_len HBN.out
              rw [List.length_drop, len_bytesOf] at hlen
              exact ⟨q + 1 + n, acc ++ [b], HM3, ⟨by rw [hstep.out, dbl, if_neg hE34.out, if_pos hE92.out, HBN.out]; simp only [List.drop_drop]⟩, ⟨rfl⟩, ⟨by have := HLT.out; omega⟩, ⟨by have := HL.out; simp; omega⟩⟩
          · have hD2 : Aside0 (D = none) := ⟨by
              rw [hstep.out, dbl, if_neg e34, if_pos e92, List.drop_of_length_le (by rw [len_bytesOf]; omega)]; rfl⟩
            have HN : Aside0 ((s.size : Int) ≤ ((q + 1 : Nat) : Int)) := ⟨by omega⟩
            clear e34 e92 hl1
            go_wp2_with (go_at_call 34; refine (escaped_none w0 _ g s ((q + 1 : Nat) : Int) acc words cmds tot HM2.out HN.out).mono ?_; rintro e w' ⟨rfl, hE⟩; have HE := Aside0.mk hE; clear hE)
            go_ret
            rw [hD2.out]
            exact ⟨rfl, HE.out⟩
        · have g2 : (bt s q == 92) = false := beq_eq_false_iff_ne.mpr e92
          have hD2 : Aside0 (D = dbl ((bytesOf s).drop (q + 1)) (acc ++ [bt s q])) := ⟨by rw [hstep.out, dbl, if_neg e34, if_neg e92]⟩
          clear e34 e92
          have hM3 := HM2.out
          obtain ⟨vw, vs, vc, hb, hg, hB, hw, hs', hc⟩ := hM3
          have c2 : W.cell? ⟨g, 2, none⟩ = some vw := (blk_cell hb 2).trans rfl
          have hglt : g < W.heap.size := blk_lt hb
          have HW := Aside0.mk hw
          have HS := Aside0.mk hs'
          have HC := Aside0.mk hc
          have HB := Aside0.mk hB
          have HG := Aside0.mk hg
          have Hb := Aside0.mk hb
          clear hw hs' hc hB hg hb
          have hsz : w0.heap.size ≤ W.heap.size := HB.out.size
          go_wp2_with (at_builtin; refine Kd.R_append (Kd.int .u8) (w0 := w0) w0.heap.size rfl (.tmp 28) (.tmp 30) 38 5 (.int .u8 0) 1 rfl Try.underlying38 info5 rfl (by decide) (by omega) vw acc (bt s q) [.int .u8 (bt s q)] (fun _ => True) (fun _ => False) rfl rfl rfl (fun _ hk => hk.elim) (fun _ _ => trivial) HW.out HB.out hsz (by have := HL.out; have := HQ.out; omega) ?_; intro v1 w1 ho hb hgr hat; obtain ⟨A1, k1, hv1⟩ := Kd.R_slice ho; subst hv1; obtain ⟨f1', f2', c0', c1', c2', HB1⟩ := facts3 Hb HW hgr; have HO := Aside0.mk ho; have HB2 := Aside0.mk hb; have HGR := Aside0.mk hgr; clear ho hb hgr hat)
          go_roundg (s.size - (q + 1))
          case measure => have := HK.out; have := HLT.out; omega
          case rel => exact ⟨q + 1, acc ++ [bt s q], ⟨word_ms1 HW HS HC HG HB1 HO HB2 HGR (by simp)⟩, ⟨hD2.out.symm⟩, ⟨rfl⟩, HLT, ⟨by have := HL.out; simp; omega⟩⟩
    · have hD2 : Aside0 (D = none) := ⟨by rw [← HDq.out, List.drop_of_length_le (by rw [len_bytesOf]; omega), dbl]⟩
      have hdn : Aside0 (decide ((s.size : Int) ≤ (q : Int)) = true) := ⟨decide_eq_true (by omega)⟩
      go_wp2_with (go_at_call 26; refine (done w0 _ g s q acc words cmds tot HMq.out).mono ?_; rintro e w' ⟨rfl, ⟨nd, rfl⟩⟩; rw [hdn.out])
      go_ret
      rw [hD2.out]
      exact ⟨rfl, (HMq.out.drewN nd).below⟩
end Go.Proofs.Ytfpbgchlemcpbaa.Mach
