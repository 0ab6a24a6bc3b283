/- The lexer's machine: a piece in single quotes. No condition but lengths below a bound. -/
import Derived.Test.YtfpbgchlemcpbaaMach4
import Derived.StillTailTactics
namespace Go.Proofs.Ytfpbgchlemcpbaa.Mach
open Go.RowKit Go.Proofs.YtfpbgchlemcpbaaW.PrintWords Go.Proofs.YtfpbgchlemcpbaaW.PrintLast Go.Proofs.YtfpbgchlemcpbaaW.PrintMore
set_option linter.unusedVariables false
set_option linter.unusedSimpArgs false

/-- append of a text to bytes of the call's own, as one step of a region that draws its order. -/
theorem step_append_str {P : Program} {ops : Array Oper} {o : Oper} {a : Act} {Q : Exit → Act → World → Prop} {Kc : Act → World → Prop} {E : Prop} {w0 W : World} (base : Nat) (hw : Region.wanted o (yielded ops a.tmps) = true) (s x : Operand) (t u e : TypeId)
    (ho : o.op = .call { callee := .builtin .append, args := #[s, x], argTypes := #[t, u] })
    (ht : P.underlying t = some (.slice e)) (hu : P.underlying u = some .string) (hinfo : (P.info? e).map (fun i => (i.zero, i.size, i.bytes)) = some (some (.int .u8 0), 1, 1))
    (v : Value) (xs : List Int) (y : ByteArray) (hs : a.eval s = v) (hx : a.eval x = .string y)
    (HO : (Kd.int .u8).R e W base (fun _ => True) v xs) (HB : Below base w0 W) (hbase : base ≤ W.heap.size) (hl : xs.length + y.size ≤ 140737488355328)
    (h : ∀ v1 w1, (Kd.int .u8).R e w1 base (fun _ => True) v1 (xs ++ bytesOf y) → Below base w0 w1 → W.grownBy w1 v.ownBlock → Kc (a.put o.dst v1) w1) :
    if Region.wanted o (yielded ops a.tmps) = true then Oper.wp P o a W Kc Q else E := by
  obtain ⟨i0, hi, hzz⟩ := Option.map_eq_some_iff.1 hinfo
  simp only [Prod.mk.injEq] at hzz
  obtain ⟨hz0, hz1, hz2⟩ := hzz
  rw [if_pos hw]
  have hown := Kd.own_of_R HO
  obtain ⟨v', w', hr, h2, h3, _⟩ := Lib.run_append_own_string (P := P) W base t u o.type e i0 ht hu hi hz0 hz1 hz2 v xs.length (encs (Value.int .u8) xs) hown y (by simp only [maxLen]; omega) hl hbase
  unfold Oper.wp execOp
  simp only [ho, resolve, invoke, builtin, Sem.run_bind, Sem.run_pure, Result.andThen_ok, List.map_toArray, List.map_cons, List.map_nil, hs, hx, hr]
  have hc : encs (Value.int .u8) xs ++ Lib.strCells y = encs (Value.int .u8) (xs ++ bytesOf y) := by
    simp [encs, bytesOf, Lib.strCells]
  have hl2 : (xs ++ bytesOf y).length = xs.length + y.size := by rw [List.length_append, bytesOf_length]
  refine h v' w' (Kd.R_of_own (by rw [hl2, ← hc]; exact h2) (fun _ _ => trivial)) (HB.grown h3 hbase (own_base hown)) h3

theorem sgl_index : ∀ (l : List UInt8) (acc : List Int), sgl (l.map fun b => (b.toNat : Int)) acc =
    if Lib.indexByte l 39 < 0 then none else some (acc ++ (l.map fun b => (b.toNat : Int)).take (Lib.indexByte l 39).toNat, (l.map fun b => (b.toNat : Int)).drop ((Lib.indexByte l 39).toNat + 1)) := by
  intro l
  induction l with
  | nil => intro acc; simp [sgl, Lib.indexByte]
  | cons b l ih =>
    intro acc
    have hge := Lib.indexByte_ge l 39
    simp only [List.map_cons, sgl, Lib.indexByte]
    by_cases e : b = 39
    · subst e
      simp
    · have e1 : ¬ ((b.toNat : Int) = 39) := by
        intro h
        exact e (UInt8.toNat_inj.1 (by have : b.toNat = 39 := by omega
                                       simpa using this))
      have e2 : (b == 39) = false := by simpa using e
      rw [if_neg e1, ih]
      simp only [e2, Bool.false_eq_true, if_false]
      by_cases hn : Lib.indexByte l 39 = -1
      · simp [hn]
      · have e3 : (Lib.indexByte l 39 == -1) = false := by simpa using hn
        simp only [e3, Bool.false_eq_true, if_false]
        rw [if_neg (by omega), if_neg (by omega)]
        have e4 : (Lib.indexByte l 39 + 1).toNat = (Lib.indexByte l 39).toNat + 1 := by omega
        rw [e4]
        simp

theorem indexByte_lt (l : List UInt8) (c : UInt8) : Lib.indexByte l c < l.length := by
  induction l with
  | nil => simp [Lib.indexByte]
  | cons b l ih =>
    simp only [Lib.indexByte, List.length_cons]
    split
    · omega
    · split
      · omega
      · omega

theorem single_fin {w0 w : World} {g : Nat} {s : ByteArray} {p n : Nat} {word : List Int} {words : List ByteArray} {cmds : List (List ByteArray)} {tot : Int}
    (h : MS w0 g s ((p : Int) + ((n : Int) + 1)) (word ++ bytesOf (s.extract p (p + n))) words cmds tot w) : MS w0 g s ((p + n + 1 : Nat) : Int) (word ++ ((bytesOf s).drop p).take n) words cmds tot w := by
  have e : bytesOf (s.extract p (p + n)) = ((bytesOf s).drop p).take n := by
    unfold bytesOf
    rw [Lib.extract_data, List.map_take, List.map_drop, Nat.add_sub_cancel_left]
  rw [e] at h
  rw [show ((p + n + 1 : Nat) : Int) = (p : Int) + ((n : Int) + 1) by omega]
  exact h

set_option maxHeartbeats 4000000 in
set_option maxRecDepth 100000 in
theorem single (w0 w : World) (g : Nat) (s : ByteArray) (p : Nat) (word : List Int) (words : List ByteArray) (cmds : List (List ByteArray)) (tot : Int)
    (h : MS w0 g s p word words cmds tot w) (hp : p ≤ s.size) (hs : s.size ≤ 100000) (hl : word.length ≤ 200000) :
    Calls Try.prog 29 #[.pointer (some ⟨g, 0, none⟩)] w (DblP w0 g s words cmds tot (sgl ((bytesOf s).drop p) word)) := by
  have hS : sgl ((bytesOf s).drop p) word = if Lib.indexByte (s.extract p s.size).data.toList 39 < 0 then none else some (word ++ ((bytesOf s).drop p).take (Lib.indexByte (s.extract p s.size).data.toList 39).toNat, ((bytesOf s).drop p).drop ((Lib.indexByte (s.extract p s.size).data.toList 39).toNat + 1)) := by
    rw [← bytesOf_extract]
    exact sgl_index _ _
  have hilt : Lib.indexByte (s.extract p s.size).data.toList 39 < (s.size : Int) - p := by
    have := indexByte_lt (s.extract p s.size).data.toList 39
    rw [Lib.extract_data] at this
    simp at this
    rw [Lib.extract_data]
    simp
    omega
  have hige := Lib.indexByte_ge (s.extract p s.size).data.toList 39
  have HI : Aside0 (∃ i, i = Lib.indexByte (s.extract p s.size).data.toList 39) := ⟨_, rfl⟩
  generalize hi : Lib.indexByte (s.extract p s.size).data.toList 39 = i at hS hilt hige
  have HI2 := Aside0.mk hi
  have HS0 := Aside0.mk hS
  have HM := Aside0.mk h
  obtain ⟨c0, c1, f1, hglt⟩ := h.cells
  clear h hS hi HI
  have hp1 : decide ((p : Int) ≤ (s.size : Int)) = true := decide_eq_true (by omega)
  go_enter Try.func29, Try.ntmps29
  go_wp2
  go_quiet ((go_at_call 25; exact Calls.quiet_of_same (Try.strings_IndexByte _ _ _)))
  rw [show (Int.toNat 39).toUInt8 = 39 from rfl, HI2.out]
  have hM2 := HM.out.drewN nq
  generalize w.drewN nq = W at hM2 ⊢
  clear c0 c1 f1 hglt HM
  by_cases hneg : i < 0
  · have hd : decide (i < 0) = true := decide_eq_true hneg
    have HN : Aside0 (sgl ((bytesOf s).drop p) word = none) := ⟨by rw [HS0.out, if_pos hneg]⟩
    have HM2 := Aside0.mk hM2
    clear hM2 hneg
    go_wp2
    go_ret
    rw [HN.out]
    exact ⟨rfl, HM2.out.below⟩
  · have hd : decide (i < 0) = false := decide_eq_false hneg
    obtain ⟨n, rfl⟩ : ∃ n : Nat, i = (n : Int) := ⟨i.toNat, by omega⟩
    have HN : Aside0 (sgl ((bytesOf s).drop p) word = some (word ++ ((bytesOf s).drop p).take n, ((bytesOf s).drop p).drop (n + 1))) := ⟨by rw [HS0.out, if_neg hneg]; rfl⟩
    clear hneg HS0 HI2 hige
    have hpn : p + n + 1 ≤ s.size := by omega
    have HPN := Aside0.mk hpn
    clear hilt
    obtain ⟨vw, vs, vc, hb, hg, hB, hw, hs', hc⟩ := hM2
    have c0 : W.cell? ⟨g, 0, none⟩ = some (.string s) := (blk_cell hb 0).trans rfl
    have c1 : W.cell? ⟨g, 1, none⟩ = some (.int .i64 p) := (blk_cell hb 1).trans rfl
    have c2 : W.cell? ⟨g, 2, none⟩ = some vw := (blk_cell hb 2).trans rfl
    have hglt : g < W.heap.size := blk_lt hb
    have HW := Aside0.mk (Kd.R_drew hw)
    have HS := Aside0.mk (Kd.R_drew hs')
    have HC := Aside0.mk (Kd.S_drew hc)
    have HB := Aside0.mk (below_drew hB)
    have HG := Aside0.mk hg
    have Hb := Aside0.mk (blk_drew hb)
    clear hw hs' hc hB hg hb
    have hsz : w0.heap.size ≤ W.drew.heap.size := HB.out.size
    have hsum : (p : Int) + (n : Int) ≤ (s.size : Int) := by omega
    have hsum0 : (0 : Int) ≤ (p : Int) + (n : Int) := by omega
    have hsumP : (p : Int) ≤ (p : Int) + (n : Int) := by omega
    have hwr : IntKind.i64.wrap ((p : Int) + (n : Int)) = ((p + n : Nat) : Int) := by
      rw [IntWalk.i64_in _ (by omega)]; omega
    have hpn0 : (p : Int) ≤ ((p + n : Nat) : Int) := by omega
    have hpn1 : ((p + n : Nat) : Int) ≤ (s.size : Int) := by omega
    have hlen : (s.extract p (p + n)).size ≤ 100000 := by simp; omega
    go_wp2
    go_region_law (refine step_append_str (w0 := w0) w0.heap.size rfl (.tmp 20) (.tmp 35) 38 9 5 rfl Try.underlying38 Try.underlying9 info5 vw word (s.extract p (p + n)) rfl rfl HW.out HB.out hsz (by omega) ?_; intro v1 w1 ho hb hgr; obtain ⟨A1, k1, hv1⟩ := Kd.R_slice ho; subst hv1; obtain ⟨f1', f2', c0', c1', c2', HB1⟩ := facts3 Hb HW hgr; have HO := Aside0.mk ho; have HB2 := Aside0.mk hb; have HGR := Aside0.mk hgr; clear ho hb hgr)
    all_goals go_wp2
    all_goals go_ret
    all_goals rw [HN.out]
    all_goals exact ⟨rfl, p + n + 1, HPN.out, by rw [List.drop_drop, Nat.add_assoc], single_fin (word_ms ((p : Int) + ((n : Int) + 1)) HW HS HC HG HB1 HO HB2 HGR (by simp))⟩
end Go.Proofs.Ytfpbgchlemcpbaa.Mach
