/- The walk of TailBytes. No condition but lengths below a bound. -/
import Derived.Test.YtggahoojpikecaaPieces
namespace Go.Proofs.Ytggahoojpikecaa.TailLog
open Go.RowKit Go.Proofs.YtggahoojpikecaaW.PrintWords Go.Proofs.YtggahoojpikecaaW.PrintLast Go.Proofs.YtggahoojpikecaaW.PrintMore
set_option linter.unusedVariables false
set_option linter.unusedSimpArgs false

theorem ext_ext (x : ByteArray) (f a b : Nat) (h : f + b ≤ x.size) : (x.extract f x.size).extract a b = x.extract (f + a) (f + b) := by
  apply ByteArray.ext
  apply Array.ext'
  rw [ByteArray.data_extract, ByteArray.data_extract, ByteArray.data_extract, Array.toList_extract, Array.toList_extract, Array.toList_extract, List.extract_eq_take_drop, List.extract_eq_take_drop, List.extract_eq_take_drop, List.take_of_length_le (l := List.drop f _) (by rw [List.length_drop, data_length]; omega), List.drop_drop]
  congr 1
  omega
/-- A Read within what is kept of a text. -/
theorem readF_cut (lim : Int) (x : ByteArray) (l0 : 1 ≤ lim) (a b : Int) (ha : 0 ≤ a) (hb : 0 ≤ b) (h1 : (fr lim x.size : Int) ≤ a) (h2 : a ≤ x.size) :
    readF lim (fr lim x.size) (kD lim x) a b = (x.extract a.toNat (a + min b (x.size - a)).toNat, a + min b (x.size - a), 0) := by
  have e := kD_size lim x l0
  have e2 : fr lim x.size = ((x.size : Int) - lim).toNat := rfl
  have e3 : (fr lim x.size : Int) + (kD lim x).size = x.size := by omega
  unfold readF
  rw [e3, if_neg (by omega), if_neg (by omega), if_neg (by omega)]
  have hm : min b (x.size - a) ≤ x.size - a := Int.min_le_right _ _
  have hm0 : 0 ≤ min b (x.size - a) := by omega
  refine Prod.ext ?_ rfl
  show (kD lim x).extract _ _ = _
  unfold kD
  rw [ext_ext x _ _ _ (by omega)]
  congr 1 <;> omega
theorem readF_whole (lim : Int) (x : ByteArray) (l0 : 1 ≤ lim) : readF lim (fr lim x.size) (kD lim x) (fr lim x.size) lim = (kD lim x, (x.size : Int), 0) := by
  have e2 : fr lim x.size = ((x.size : Int) - lim).toNat := rfl
  rw [readF_cut lim x l0 _ _ (by omega) (by omega) (by omega) (by omega)]
  have hm : (fr lim x.size : Int) + min lim (x.size - fr lim x.size) = x.size := by omega
  rw [hm]
  refine Prod.ext ?_ rfl
  show x.extract _ _ = kD lim x
  unfold kD
  congr 1

/-- The bytes of a script's texts. -/
def textSum (ops : List (Int × ByteArray × Int × Int)) : Nat := (ops.map (·.2.1.size)).sum
theorem textSum_step (ops : List (Int × ByteArray × Int × Int)) (i : Nat) (o : Int × ByteArray × Int × Int) (h : ops[i]? = some o) : textSum (ops.drop i) = o.2.1.size + textSum (ops.drop (i + 1)) := by
  obtain ⟨hi, rfl⟩ := List.getElem?_eq_some_iff.1 h
  rw [List.drop_eq_getElem_cons hi]
  rfl

/-- Within a round: the Log has been told a text, the round's call lies at go. -/
structure BS (w0 : World) (g go : Nat) (lim : Int) (all : ByteArray) (k : Int) (x : ByteArray) (a b : Int) (W : World) : Prop where
  t : TL W g lim (fr lim all.size) (kD lim all)
  o : W.heap[go]? = some (.cells #[.int .i64 k, .string x, .int .i64 a, .int .i64 b] 29 (0, 0))
  b : Below w0.heap.size w0 W
  hg : w0.heap.size ≤ g
theorem BS.drewN {w0 : World} {g go : Nat} {lim : Int} {all : ByteArray} {k : Int} {x : ByteArray} {a b : Int} {W : World} (h : BS w0 g go lim all k x a b W) (n : Nat) : BS w0 g go lim all k x a b (W.drewN n) := ⟨h.t.drewN n, h.o, pw_below_drewN h.b n, h.hg⟩
theorem BS.drawn {w0 : World} {g go : Nat} {lim : Int} {all : ByteArray} {k : Int} {x : ByteArray} {a b : Int} {W W' : World} (h : BS w0 g go lim all k x a b W) (hd : Drawn0 W W') : BS w0 g go lim all k x a b W' := by
  obtain ⟨n, rfl⟩ := hd
  exact h.drewN n
theorem BS.told {w0 : World} {g go : Nat} {lim : Int} {all y : ByteArray} {k : Int} {x : ByteArray} {a b : Int} {W W' : World} (h : BS w0 g go lim all k x a b W) (hK : KeepBut W W' g none) (hB : Below g W W') (hT : TL W' g lim (fr lim y.size) (kD lim y)) : BS w0 g go lim y k x a b W' :=
  ⟨hT, hK.blk h.o (Ne.symm (h.t.ne h.o (by decide))) (by simp), below_more h.b h.hg hB, h.hg⟩
theorem BS.cells {w0 : World} {g go : Nat} {lim : Int} {all : ByteArray} {k : Int} {x : ByteArray} {a b : Int} {W : World} (h : BS w0 g go lim all k x a b W) :
    W.cell? ⟨go, 0, none⟩ = some (.int .i64 k) ∧ W.cell? ⟨go, 1, none⟩ = some (.string x) ∧ W.cell? ⟨go, 2, none⟩ = some (.int .i64 a) ∧ W.cell? ⟨go, 3, none⟩ = some (.int .i64 b) :=
  ⟨(blk_cell h.o 0).trans rfl, (blk_cell h.o 1).trans rfl, (blk_cell h.o 2).trans rfl, (blk_cell h.o 3).trans rfl⟩
theorem bs_read {w0 : World} {g go : Nat} {lim : Int} {all : ByteArray} {k : Int} {x : ByteArray} {a b : Int} {W : World} (h : BS w0 g go lim all k x a b W) (l0 : 1 ≤ lim) (l1 : lim ≤ 65536) (hz : all.size ≤ 140737488351232) (from_ most : Int) (s : ByteArray) (n f : Int)
    (hr : readF lim (fr lim all.size) (kD lim all) from_ most = (s, n, f)) :
    Calls Try.prog 14 #[.pointer (some ⟨g, 0, none⟩), .int .i64 from_, .int .i64 most] W fun e W' => e = .returned (.tuple #[.string s, .int .i64 n, .int .i64 f]) ∧ BS w0 g go lim all k x a b W' := by
  have hG := good_kept lim all l0 l1 hz
  refine (read W g lim _ _ h.t hG.s0 hG.se from_ most).mono ?_
  rintro e W' ⟨rfl, hd⟩
  rw [hr]
  exact ⟨rfl, h.drawn hd⟩

set_option maxHeartbeats 8000000 in
set_option maxRecDepth 100000 in
theorem bytes_bad (w : World) (lim : Int) (A : Option Addr) (c n : Nat) (hE : lim < 1 ∨ 65536 < lim) :
    Calls Try.prog 3 #[.int .i64 lim, .slice A n c] w fun e w' => e = .returned (.bool true) ∧ Below w.heap.size w w' := by
  have hl : loadE lim 0 ⟨#[]⟩ = 1 := by rw [loadE_nil, if_pos hE]
  have HE := Aside0.mk hl
  clear hl
  by_cases h1 : lim < 1
  · have g1 : decide (lim < 1) = true := decide_eq_true h1
    go_enter Try.func3, Try.ntmps3
    go_wp2_with (first
      | (go_at_call 11; refine (new _ lim).mono ?_; rintro e W1 ⟨p, rfl, hB, hn, hs⟩; replace hn := hn (by rw [HE.out]; decide); subst hn; rw [HE.out]; have HB := Aside0.mk hB; clear hB hs)
      | (go_at_call 12; refine (works _).mono ?_; rintro e W1 ⟨rfl, hB⟩; replace HB := Aside0.mk (below_new HB.out hB); clear hB))
    go_ret
    exact ⟨rfl, HB.out⟩
  · have g1 : decide (lim < 1) = false := decide_eq_false h1
    have g2 : decide (65536 < lim) = true := decide_eq_true (by omega)
    go_enter Try.func3, Try.ntmps3
    go_wp2_with (first
      | (go_at_call 11; refine (new _ lim).mono ?_; rintro e W1 ⟨p, rfl, hB, hn, hs⟩; replace hn := hn (by rw [HE.out]; decide); subst hn; rw [HE.out]; have HB := Aside0.mk hB; clear hB hs)
      | (go_at_call 12; refine (works _).mono ?_; rintro e W1 ⟨rfl, hB⟩; replace HB := Aside0.mk (below_new HB.out hB); clear hB))
    go_ret
    exact ⟨rfl, HB.out⟩

set_option maxHeartbeats 8000000 in
set_option maxRecDepth 100000 in
theorem bytes_ok (w : World) (lim : Int) (l0 : 1 ≤ lim) (l1 : lim ≤ 65536)
    (A : Option Addr) (c : Nat) (ops : List (Int × ByteArray × Int × Int)) (hc : ops.length ≤ c) (hO : OpsAt w A ops) (hm : ops.length ≤ 9223372036854775807) (hb : ∀ k x a b, (k, x, a, b) ∈ ops → x.size ≤ 140737488351232 ∧ a ≤ 9223372036854775807) (hs : textSum ops ≤ 1000000000) :
    Calls Try.prog 3 #[.int .i64 lim, .slice A ops.length c] w fun e w' => e = .returned (.bool true) ∧ Below w.heap.size w w' := by
  have hl : loadE lim 0 ⟨#[]⟩ = 0 := by rw [loadE_nil, if_neg (by omega)]
  have HE := Aside0.mk hl
  have HKN := Aside0.mk (kept_nil lim l0)
  have HO := Aside0.mk hO
  have HO2 := Aside0.mk hb
  have HS := Aside0.mk hs
  have hu29 := Try.underlying29
  clear hl hO hb hs
  go_enter Try.func3, Try.ntmps3
  go_upto_region 6 with (first
    | (go_at_call 11; refine (new _ lim).mono ?_; rintro e W1 ⟨p, rfl, hB, hn, hs⟩; obtain ⟨g, hp, hg, hT⟩ := hs HE.out; subst hp; rw [HE.out]; have HB := Aside0.mk hB; have HT := Aside0.mk hT; have HG := Aside0.mk hg; clear hB hs hn hT hg)
    | (go_at_call 12; refine (works _).mono ?_; rintro e W2 ⟨rfl, hB⟩; replace HT := Aside0.mk (HT.out.below hB); replace HB := Aside0.mk (below_new HB.out hB); clear hB))
  have hT0 := HT.out
  rw [show TL W2 g lim 0 ⟨#[]⟩ = TL W2 g lim (fr lim (⟨#[]⟩ : ByteArray).size : Nat) (kD lim ⟨#[]⟩) by rw [HKN.out.1, HKN.out.2]] at hT0
  replace HT := Aside0.mk hT0
  clear hT0
  go_upto_region 8 with (fail)
  go_loopg [7, 8] ops.length (fun kq v7 v8 wr => ∃ (i : Nat) (all : ByteArray), v7 = .string all ∧ v8 = .int .i64 (i : Int) ∧ Aside0 (kq = ops.length - i ∧ i ≤ ops.length) ∧ Aside0 (all.size + textSum (ops.drop i) ≤ 1000000000) ∧ Aside0 (TL wr g lim (fr lim all.size) (kD lim all) ∧ Below w.heap.size w wr))
  case atStart => exact ⟨0, ⟨#[]⟩, rfl, rfl, ⟨rfl, Nat.zero_le _⟩, ⟨by have hz : (⟨#[]⟩ : ByteArray).size = 0 := rfl; have := HS.out; rw [List.drop_zero]; omega⟩, ⟨HT.out, HB.out⟩⟩
  case round =>
    obtain ⟨i, all, rfl, rfl, HI, HZ, HL⟩ := hrel
    obtain ⟨hk, hi⟩ := HI.out
    by_cases h1 : i < ops.length
    · have g1 : decide ((i : Int) < (ops.length : Int)) = true := decide_eq_true (by omega)
      have g1n : decide (i < ops.length) = true := decide_eq_true h1
      obtain ⟨ad, hA, hcell⟩ := HO.out (by omega)
      subst hA
      obtain ⟨k, x, a, b, ho⟩ : ∃ k x a b, ops[i]? = some (k, x, a, b) := ⟨_, _, _, _, List.getElem?_eq_getElem h1⟩
      obtain ⟨hx, ha⟩ := HO2.out k x a b (List.mem_of_getElem? ho)
      have hz := HZ.out
      rw [textSum_step ops i _ ho] at hz
      replace hz : all.size + (x.size + textSum (ops.drop (i + 1))) ≤ 1000000000 := hz
      replace HZ := Aside0.mk hz
      obtain ⟨q0, q1, q2, q3⟩ := hcell i k x a b ho
      have old : ∀ {a : Addr} {v : Value}, w.cell? a = some v → _ := fun {a v} hc => (HL.out.2.cell (World.block_lt_of_cell? w _ hc)).trans hc
      replace q0 := old q0
      replace q1 := old q1
      replace q2 := old q2
      replace q3 := old q3
      rw [← add_add] at q1 q2 q3
      replace q1 := spelt 1 (by decide) q1
      replace q2 := spelt 2 (by decide) q2
      replace q3 := spelt 3 (by decide) q3
      have i0 : (0 : Int) ≤ (i : Int) := by omega
      have i1 : (i : Int) < (ops.length : Int) := by omega
      clear hcell ho hz old
      go_upto_region 11 with (fail)
      have hL := HL.out
      have hB0 : BS w g wr.heap.size lim all k x a b (wr.alloc (.cells #[.int .i64 k, .string x, .int .i64 a, .int .i64 b] 29)) :=
        have hA := below_alloc (Below.refl wr.heap.size wr) (.cells #[.int .i64 k, .string x, .int .i64 a, .int .i64 b] 29)
        ⟨hL.1.below hA, heap_alloc_new wr _, below_new hL.2 hA, HG.out⟩
      generalize hgo : wr.heap.size = go at hB0 ⊢
      clear hgo
      generalize wr.alloc (.cells #[.int .i64 k, .string x, .int .i64 a, .int .i64 b] 29) = W3 at hB0 ⊢
      obtain ⟨c0, c1, c2, c3⟩ := hB0.cells
      have HB0 := Aside0.mk hB0
      clear hB0 hL q0 q1 q2 q3 HL
      by_cases hk0 : k = 0
      · subst hk0
        have g0 : decide ((0 : Int) = 0) = true := rfl
        have hz1 : all.size + x.size ≤ 140737488351232 := by have := HZ.out; omega
        go_upto_region 15 with (go_at_call 13; refine (append_kept _ g lim all x HB0.out.t l0 l1 hz1).mono ?_; rintro e W4 ⟨rfl, hK, hB, hT⟩; have hB1 := HB0.out.told hK hB hT; obtain ⟨c0, c1, c2, c3⟩ := hB1.cells; have HB := Aside0.mk hB1; clear hK hB hT hB1)
        have g2 : decide ((0 : Int) = 1) = false := rfl
        have hz2 : (all ++ x).size + textSum (ops.drop (i + 1)) ≤ 1000000000 := by have := HZ.out; rw [ByteArray.size_append]; omega
        have hB := HB.out
        clear HB HB0 HZ hz1
        generalize all ++ x = all2 at hB hz2 ⊢
        have hzz : all2.size ≤ 1000000000 := by omega
        have HB := Aside0.mk hB
        have HZ2 := Aside0.mk hz2
        clear hB hz2
        by_cases hc : lim < (all2.size : Int)
        · have g4 : decide (lim < (all2.size : Int)) = true := decide_eq_true hc
          have HF := Aside0.mk (show ((fr lim all2.size : Nat) : Int) = (all2.size : Int) - lim from by show ((((all2.size : Int) - lim).toNat : Nat) : Int) = _; omega)
          have hrw : readF lim (fr lim all2.size) (kD lim all2) ((all2.size : Int) - lim) lim = (kD lim all2, (all2.size : Int), 0) := (congrArg (fun z => readF lim (fr lim all2.size) (kD lim all2) z lim) HF.out).symm.trans (readF_whole lim all2 l0)
          have hcut : ∀ W : World, (Instr.slice 9 (.string all2) (some (.int .i64 ((all2.size : Int) - lim))) none none).run Try.prog W = .ok (.string (kD lim all2)) W := fun W => by have h := run_slice_string_l W 9 all2 Try.underlying9 .i64 ((all2.size : Int) - lim) (by omega) (by have := HF.out; omega); rw [show ((all2.size : Int) - lim).toNat = fr lim all2.size from by have := HF.out; omega] at h; exact h
          have hK : decide (kD lim all2 = kD lim all2) = true := decide_eq_true rfl
          have HRW := Aside0.mk hrw
          clear hrw
          go_upto_region 21 with (go_at_call 14; refine (bs_read HB.out l0 l1 (by have := HZ2.out; omega) _ _ _ _ _ HRW.out).mono ?_; rintro e W5 ⟨rfl, hb5⟩; obtain ⟨c0, c1, c2, c3⟩ := hb5.cells; replace HB := Aside0.mk hb5; clear hb5)
          clear hcut HRW
          go_wp2
          go_roundg (ops.length - (i + 1))
          case measure => omega
          case rel => exact ⟨i + 1, all2, rfl, by first | rfl | (congr 1; omega), ⟨rfl, by omega⟩, HZ2, ⟨HB.out.t, HB.out.b⟩⟩
        · have g4 : decide (lim < (all2.size : Int)) = false := decide_eq_false hc
          have HF := Aside0.mk (show ((fr lim all2.size : Nat) : Int) = 0 from by show ((((all2.size : Int) - lim).toNat : Nat) : Int) = _; omega)
          have hrw : readF lim (fr lim all2.size) (kD lim all2) ((0 : Int)) lim = (kD lim all2, (all2.size : Int), 0) := (congrArg (fun z => readF lim (fr lim all2.size) (kD lim all2) z lim) HF.out).symm.trans (readF_whole lim all2 l0)
          have hcut : ∀ W : World, (Instr.slice 9 (.string all2) (some (.int .i64 ((0 : Int)))) none none).run Try.prog W = .ok (.string (kD lim all2)) W := fun W => by have h := run_slice_string_l W 9 all2 Try.underlying9 .i64 ((0 : Int)) (by omega) (by have := HF.out; omega); rw [show ((0 : Int)).toNat = fr lim all2.size from by have := HF.out; omega] at h; exact h
          have hK : decide (kD lim all2 = kD lim all2) = true := decide_eq_true rfl
          have HRW := Aside0.mk hrw
          clear hrw
          go_upto_region 21 with (go_at_call 14; refine (bs_read HB.out l0 l1 (by have := HZ2.out; omega) _ _ _ _ _ HRW.out).mono ?_; rintro e W5 ⟨rfl, hb5⟩; obtain ⟨c0, c1, c2, c3⟩ := hb5.cells; replace HB := Aside0.mk hb5; clear hb5)
          clear hcut HRW
          go_wp2
          go_roundg (ops.length - (i + 1))
          case measure => omega
          case rel => exact ⟨i + 1, all2, rfl, by first | rfl | (congr 1; omega), ⟨rfl, by omega⟩, HZ2, ⟨HB.out.t, HB.out.b⟩⟩
      · have g2 : decide (k = 0) = false := decide_eq_false hk0
        have hz2 : all.size + textSum (ops.drop (i + 1)) ≤ 1000000000 := by have := HZ.out; omega
        have HZ2 := Aside0.mk hz2
        have HB := HB0
        have hzz : all.size ≤ 1000000000 := by omega
        clear hz2 HZ HB0
        go_upto_region 15 with (fail)
        by_cases hc : lim < (all.size : Int)
        · have g4 : decide (lim < (all.size : Int)) = true := decide_eq_true hc
          have HF := Aside0.mk (show ((fr lim all.size : Nat) : Int) = (all.size : Int) - lim from by show ((((all.size : Int) - lim).toNat : Nat) : Int) = _; omega)
          have hrw : readF lim (fr lim all.size) (kD lim all) ((all.size : Int) - lim) lim = (kD lim all, (all.size : Int), 0) := (congrArg (fun z => readF lim (fr lim all.size) (kD lim all) z lim) HF.out).symm.trans (readF_whole lim all l0)
          have hcut : ∀ W : World, (Instr.slice 9 (.string all) (some (.int .i64 ((all.size : Int) - lim))) none none).run Try.prog W = .ok (.string (kD lim all)) W := fun W => by have h := run_slice_string_l W 9 all Try.underlying9 .i64 ((all.size : Int) - lim) (by omega) (by have := HF.out; omega); rw [show ((all.size : Int) - lim).toNat = fr lim all.size from by have := HF.out; omega] at h; exact h
          have hK : decide (kD lim all = kD lim all) = true := decide_eq_true rfl
          have HRW := Aside0.mk hrw
          clear hrw
          go_upto_region 21 with (go_at_call 14; refine (bs_read HB.out l0 l1 (by have := HZ2.out; omega) _ _ _ _ _ HRW.out).mono ?_; rintro e W5 ⟨rfl, hb5⟩; obtain ⟨c0, c1, c2, c3⟩ := hb5.cells; replace HB := Aside0.mk hb5; clear hb5)
          clear hcut HRW
          by_cases hk1 : k = 1
          · subst hk1
            by_cases a0 : a < 0
            · have y0 : decide (a < 0) = true := decide_eq_true a0
              have HR2 := Aside0.mk (show readF lim (fr lim all.size) (kD lim all) a b = (⟨#[]⟩, 0, 1) from by unfold readF; rw [HF.out, kD_size lim all l0]; rw [if_pos (by omega)])
              go_wp2_with (go_at_call 14; refine (bs_read HB.out l0 l1 (by have := HZ2.out; omega) _ _ _ _ _ HR2.out).mono ?_; rintro e W6 ⟨rfl, hb6⟩; obtain ⟨c0, c1, c2, c3⟩ := hb6.cells; replace HB := Aside0.mk hb6; clear hb6)
              go_roundg (ops.length - (i + 1))
              case measure => omega
              case rel => exact ⟨i + 1, all, rfl, by first | rfl | (congr 1; omega), ⟨rfl, by omega⟩, HZ2, ⟨HB.out.t, HB.out.b⟩⟩
            · have y0 : decide (a < 0) = false := decide_eq_false a0
              by_cases b0 : b < 0
              · have y1 : decide (b < 0) = true := decide_eq_true b0
                have HR2 := Aside0.mk (show readF lim (fr lim all.size) (kD lim all) a b = (⟨#[]⟩, 0, 1) from by unfold readF; rw [HF.out, kD_size lim all l0]; rw [if_pos (by omega)])
                go_wp2_with (go_at_call 14; refine (bs_read HB.out l0 l1 (by have := HZ2.out; omega) _ _ _ _ _ HR2.out).mono ?_; rintro e W6 ⟨rfl, hb6⟩; obtain ⟨c0, c1, c2, c3⟩ := hb6.cells; replace HB := Aside0.mk hb6; clear hb6)
                go_roundg (ops.length - (i + 1))
                case measure => omega
                case rel => exact ⟨i + 1, all, rfl, by first | rfl | (congr 1; omega), ⟨rfl, by omega⟩, HZ2, ⟨HB.out.t, HB.out.b⟩⟩
              · have y1 : decide (b < 0) = false := decide_eq_false b0
                by_cases af : a < (all.size : Int) - lim
                · have y2 : decide (a < (all.size : Int) - lim) = true := decide_eq_true af
                  have HR2 := Aside0.mk (show readF lim (fr lim all.size) (kD lim all) a b = (⟨#[]⟩, 0, 60) from by unfold readF; rw [HF.out, kD_size lim all l0]; rw [if_neg (by omega), if_pos (by omega)])
                  go_wp2_with (go_at_call 14; refine (bs_read HB.out l0 l1 (by have := HZ2.out; omega) _ _ _ _ _ HR2.out).mono ?_; rintro e W6 ⟨rfl, hb6⟩; obtain ⟨c0, c1, c2, c3⟩ := hb6.cells; replace HB := Aside0.mk hb6; clear hb6)
                  go_roundg (ops.length - (i + 1))
                  case measure => omega
                  case rel => exact ⟨i + 1, all, rfl, by first | rfl | (congr 1; omega), ⟨rfl, by omega⟩, HZ2, ⟨HB.out.t, HB.out.b⟩⟩
                · have y2 : decide (a < (all.size : Int) - lim) = false := decide_eq_false af
                  by_cases al : (all.size : Int) < a
                  · have y3 : decide ((all.size : Int) < a) = true := decide_eq_true al
                    have e3 := kD_size lim all l0
                    have e4 := HF.out
                    have HR2 := Aside0.mk (show readF lim (fr lim all.size) (kD lim all) a b = (⟨#[]⟩, 0, 61) from by unfold readF; rw [HF.out, if_neg (by omega), if_neg (by omega), if_pos (by omega)])
                    go_wp2_with (go_at_call 14; refine (bs_read HB.out l0 l1 (by have := HZ2.out; omega) _ _ _ _ _ HR2.out).mono ?_; rintro e W6 ⟨rfl, hb6⟩; obtain ⟨c0, c1, c2, c3⟩ := hb6.cells; replace HB := Aside0.mk hb6; clear hb6)
                    go_roundg (ops.length - (i + 1))
                    case measure => omega
                    case rel => exact ⟨i + 1, all, rfl, by first | rfl | (congr 1; omega), ⟨rfl, by omega⟩, HZ2, ⟨HB.out.t, HB.out.b⟩⟩
                  · have y3 : decide ((all.size : Int) < a) = false := decide_eq_false al
                    have HR2 := Aside0.mk (readF_cut lim all l0 a b (by omega) (by omega) (by have := HF.out; omega) (by omega))
                    obtain ⟨n, hn⟩ : ∃ n : Int, min b ((all.size : Int) - a) = n := ⟨_, rfl⟩
                    rw [hn] at HR2
                    have n0 : 0 ≤ n := by omega
                    have n1 : a + n ≤ all.size := by omega
                    go_upto_region 23 with (go_at_call 14; refine (bs_read HB.out l0 l1 (by have := HZ2.out; omega) _ _ _ _ _ HR2.out).mono ?_; rintro e W6 ⟨rfl, hb6⟩; obtain ⟨c0, c1, c2, c3⟩ := hb6.cells; replace HB := Aside0.mk hb6; clear hb6)
                    go_upto_region 24 with (fail)
                    have hcut2 : ∀ W : World, (Instr.slice 9 (.string all) (some (.int .i64 a)) (some (.int .i64 (a + n))) none).run Try.prog W = .ok (.string (all.extract a.toNat (a + n).toNat)) W := fun W => run_slice_string W 9 all .i64 .i64 a (a + n) Try.underlying9 (by omega) (by omega) (by omega)
                    have hE : decide (all.extract a.toNat (a + n).toNat = all.extract a.toNat (a + n).toNat) = true := decide_eq_true rfl
                    go_wp2
                    go_roundg (ops.length - (i + 1))
                    case measure => omega
                    case rel => exact ⟨i + 1, all, rfl, by first | rfl | (congr 1; omega), ⟨rfl, by omega⟩, HZ2, ⟨HB.out.t, HB.out.b⟩⟩
          · have g3 : decide (k = 1) = false := decide_eq_false hk1
            go_wp2
            go_roundg (ops.length - (i + 1))
            case measure => omega
            case rel => exact ⟨i + 1, all, rfl, by first | rfl | (congr 1; omega), ⟨rfl, by omega⟩, HZ2, ⟨HB.out.t, HB.out.b⟩⟩
        · have g4 : decide (lim < (all.size : Int)) = false := decide_eq_false hc
          have HF := Aside0.mk (show ((fr lim all.size : Nat) : Int) = 0 from by show ((((all.size : Int) - lim).toNat : Nat) : Int) = _; omega)
          have hrw : readF lim (fr lim all.size) (kD lim all) ((0 : Int)) lim = (kD lim all, (all.size : Int), 0) := (congrArg (fun z => readF lim (fr lim all.size) (kD lim all) z lim) HF.out).symm.trans (readF_whole lim all l0)
          have hcut : ∀ W : World, (Instr.slice 9 (.string all) (some (.int .i64 ((0 : Int)))) none none).run Try.prog W = .ok (.string (kD lim all)) W := fun W => by have h := run_slice_string_l W 9 all Try.underlying9 .i64 ((0 : Int)) (by omega) (by have := HF.out; omega); rw [show ((0 : Int)).toNat = fr lim all.size from by have := HF.out; omega] at h; exact h
          have hK : decide (kD lim all = kD lim all) = true := decide_eq_true rfl
          have HRW := Aside0.mk hrw
          clear hrw
          go_upto_region 21 with (go_at_call 14; refine (bs_read HB.out l0 l1 (by have := HZ2.out; omega) _ _ _ _ _ HRW.out).mono ?_; rintro e W5 ⟨rfl, hb5⟩; obtain ⟨c0, c1, c2, c3⟩ := hb5.cells; replace HB := Aside0.mk hb5; clear hb5)
          clear hcut HRW
          by_cases hk1 : k = 1
          · subst hk1
            by_cases a0 : a < 0
            · have y0 : decide (a < 0) = true := decide_eq_true a0
              have HR2 := Aside0.mk (show readF lim (fr lim all.size) (kD lim all) a b = (⟨#[]⟩, 0, 1) from by unfold readF; rw [HF.out, kD_size lim all l0]; rw [if_pos (by omega)])
              go_wp2_with (go_at_call 14; refine (bs_read HB.out l0 l1 (by have := HZ2.out; omega) _ _ _ _ _ HR2.out).mono ?_; rintro e W6 ⟨rfl, hb6⟩; obtain ⟨c0, c1, c2, c3⟩ := hb6.cells; replace HB := Aside0.mk hb6; clear hb6)
              go_roundg (ops.length - (i + 1))
              case measure => omega
              case rel => exact ⟨i + 1, all, rfl, by first | rfl | (congr 1; omega), ⟨rfl, by omega⟩, HZ2, ⟨HB.out.t, HB.out.b⟩⟩
            · have y0 : decide (a < 0) = false := decide_eq_false a0
              by_cases b0 : b < 0
              · have y1 : decide (b < 0) = true := decide_eq_true b0
                have HR2 := Aside0.mk (show readF lim (fr lim all.size) (kD lim all) a b = (⟨#[]⟩, 0, 1) from by unfold readF; rw [HF.out, kD_size lim all l0]; rw [if_pos (by omega)])
                go_wp2_with (go_at_call 14; refine (bs_read HB.out l0 l1 (by have := HZ2.out; omega) _ _ _ _ _ HR2.out).mono ?_; rintro e W6 ⟨rfl, hb6⟩; obtain ⟨c0, c1, c2, c3⟩ := hb6.cells; replace HB := Aside0.mk hb6; clear hb6)
                go_roundg (ops.length - (i + 1))
                case measure => omega
                case rel => exact ⟨i + 1, all, rfl, by first | rfl | (congr 1; omega), ⟨rfl, by omega⟩, HZ2, ⟨HB.out.t, HB.out.b⟩⟩
              · have y1 : decide (b < 0) = false := decide_eq_false b0
                by_cases af : a < (0 : Int)
                · exact absurd af a0
                · have y2 : decide (a < (0 : Int)) = false := decide_eq_false af
                  by_cases al : (all.size : Int) < a
                  · have y3 : decide ((all.size : Int) < a) = true := decide_eq_true al
                    have e3 := kD_size lim all l0
                    have e4 := HF.out
                    have HR2 := Aside0.mk (show readF lim (fr lim all.size) (kD lim all) a b = (⟨#[]⟩, 0, 61) from by unfold readF; rw [HF.out, if_neg (by omega), if_neg (by omega), if_pos (by omega)])
                    go_wp2_with (go_at_call 14; refine (bs_read HB.out l0 l1 (by have := HZ2.out; omega) _ _ _ _ _ HR2.out).mono ?_; rintro e W6 ⟨rfl, hb6⟩; obtain ⟨c0, c1, c2, c3⟩ := hb6.cells; replace HB := Aside0.mk hb6; clear hb6)
                    go_roundg (ops.length - (i + 1))
                    case measure => omega
                    case rel => exact ⟨i + 1, all, rfl, by first | rfl | (congr 1; omega), ⟨rfl, by omega⟩, HZ2, ⟨HB.out.t, HB.out.b⟩⟩
                  · have y3 : decide ((all.size : Int) < a) = false := decide_eq_false al
                    have HR2 := Aside0.mk (readF_cut lim all l0 a b (by omega) (by omega) (by have := HF.out; omega) (by omega))
                    obtain ⟨n, hn⟩ : ∃ n : Int, min b ((all.size : Int) - a) = n := ⟨_, rfl⟩
                    rw [hn] at HR2
                    have n0 : 0 ≤ n := by omega
                    have n1 : a + n ≤ all.size := by omega
                    go_upto_region 23 with (go_at_call 14; refine (bs_read HB.out l0 l1 (by have := HZ2.out; omega) _ _ _ _ _ HR2.out).mono ?_; rintro e W6 ⟨rfl, hb6⟩; obtain ⟨c0, c1, c2, c3⟩ := hb6.cells; replace HB := Aside0.mk hb6; clear hb6)
                    go_upto_region 24 with (fail)
                    have hcut2 : ∀ W : World, (Instr.slice 9 (.string all) (some (.int .i64 a)) (some (.int .i64 (a + n))) none).run Try.prog W = .ok (.string (all.extract a.toNat (a + n).toNat)) W := fun W => run_slice_string W 9 all .i64 .i64 a (a + n) Try.underlying9 (by omega) (by omega) (by omega)
                    have hE : decide (all.extract a.toNat (a + n).toNat = all.extract a.toNat (a + n).toNat) = true := decide_eq_true rfl
                    go_wp2
                    go_roundg (ops.length - (i + 1))
                    case measure => omega
                    case rel => exact ⟨i + 1, all, rfl, by first | rfl | (congr 1; omega), ⟨rfl, by omega⟩, HZ2, ⟨HB.out.t, HB.out.b⟩⟩
          · have g3 : decide (k = 1) = false := decide_eq_false hk1
            go_wp2
            go_roundg (ops.length - (i + 1))
            case measure => omega
            case rel => exact ⟨i + 1, all, rfl, by first | rfl | (congr 1; omega), ⟨rfl, by omega⟩, HZ2, ⟨HB.out.t, HB.out.b⟩⟩
    · have g1 : decide ((i : Int) < (ops.length : Int)) = false := decide_eq_false (by omega)
      have g1n : decide (i < ops.length) = false := decide_eq_false h1
      go_wp2
      go_ret
      exact ⟨rfl, HL.out.2⟩
end Go.Proofs.Ytggahoojpikecaa.TailLog
