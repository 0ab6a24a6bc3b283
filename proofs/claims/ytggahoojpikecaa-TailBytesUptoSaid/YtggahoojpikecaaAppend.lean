/- The Log of layer 6: what Append does. No condition but that its numbers are those of a Log. -/
import Derived.Test.YtggahoojpikecaaRead
import Derived.StillTailTactics
import Derived.Laws.CopyOwn
import Derived.Lib.BufferWrite
namespace Go.Proofs.Ytggahoojpikecaa.TailLog
open Go.RowKit Go.Proofs.YtggahoojpikecaaW.PrintWords Go.Proofs.YtggahoojpikecaaW.PrintLast Go.Proofs.YtggahoojpikecaaW.PrintMore
attribute [local go_sem] max2_int min2_int max_two min_two
set_option linter.unusedVariables false
set_option linter.unusedSimpArgs false

open Go.Proofs.YtggahoojpikecaaW in
theorem step_copy_string_splice {P : Program} {w : World} {ops : Array Oper} {rest : List Oper} {o : Oper} {a : Act} {Q : Exit → Act → World → Prop} (hgd : o.guard = none) (d x : Operand) (dT sT : TypeId)
    (ho : o.op = .call { callee := .builtin .copy, args := #[d, x], argTypes := #[dT, sT] }) (elem : TypeId) (hu : P.underlying dT = some (.slice elem)) (hsz : (P.info? elem).map (·.size) = some 1)
    (dp : Option Addr) (dLen dCap : Nat) (s : ByteArray) (hd : a.eval d = .slice dp dLen dCap) (hx : a.eval x = .string s) (hle : s.size ≤ dLen)
    (g off : Nat) (cur : List Value) (t : TypeId) (hg : w.heap[g]? = some (.cells cur.toArray t (0, 0))) (hpos : 0 < s.size → dp = some ⟨g, off, none⟩) (hfit : off + s.size ≤ cur.length) (B : Nat) (w0 : World) (hb : Below B w0 w) (hBg : B ≤ g)
    (h : ∀ w', Hid (w'.heap[g]? = some (.cells (splice cur off (Lib.byteCells s.data.toList)).toArray t (0, 0))) → Below B w0 w' → wpList P ops Q rest (a.put o.dst (goInt s.size)) w') :
    wpList P ops Q (o :: rest) a w := by
  have hlen : (Lib.byteCells s.data.toList).length = s.size := by rw [Lib.byteCells_length, ← Lib.size_eq]
  refine wpList_plain hgd fun K hK => ?_
  by_cases h0 : s.size = 0
  · have hrun := Lib.run_copy_empty_string (P := P) w dT sT o.type elem dp dLen dCap s hu (by rw [hsz]; rfl) h0
    have hnil : Lib.byteCells s.data.toList = [] := List.eq_nil_of_length_eq_zero (by omega)
    unfold Oper.wp
    simp [execOp, ho, resolve, invoke, builtin, hd, hx, hrun, Result.andThen]
    have := h w (show _ = _ by rw [hnil]; simpa [splice] using hg) hb
    rw [h0] at this
    exact hK _ _ this
  · obtain rfl := hpos (by omega)
    have hrun := Lib.run_copy_row_string (P := P) w dT sT o.type elem g off dLen dCap s cur.toArray t hu hsz hg hle (by simpa using hfit)
    unfold Oper.wp
    simp [execOp, ho, resolve, invoke, builtin, hd, hx, hrun, Result.andThen]
    refine hK _ _ (h _ (show _ = _ by simpa [splice, hlen] using setRow_heap w g _ _ t _ hg) (below_setRow hb hBg _))

theorem cut_at (b K N : Nat) (h : N ≤ K) : ∃ A2 : Option Addr, (∀ W : World, (Instr.slice 60 (.slice (some ⟨b, 0, none⟩) K K) (some (.int .i64 (N : Int))) none none).run Try.prog W = .ok (.slice A2 (K - N) (K - N)) W) ∧ (N < K → A2 = some ⟨b, N, none⟩) := by
  obtain ⟨i, hi, hz⟩ := Option.map_eq_some_iff.1 info5
  simp only [Prod.mk.injEq] at hz
  refine ⟨if K = N then some ⟨b, 0, none⟩ else some ((⟨b, 0, none⟩ : Addr).add N), fun W => ?_, fun h => ?_⟩
  · have hel : Try.prog.elem 60 = 5 := by simp [Program.elem, Try.underlying60]
    have hu : Try.prog.underlying 60 = some (.slice (Try.prog.elem 60)) := by rw [hel]; exact Try.underlying60
    rw [run_slice_l W 60 (some ⟨b, 0, none⟩) K K hu .i64 N (by omega) (by omega), hel]
    simp [sizeOf, typeInfo, hi, hz.2.1, sliced, Result.andThen]
  · rw [if_neg (by omega)]
    unfold Addr.add
    split <;> simp_all

theorem splice2 {α : Type} (Z X Y : List α) (n : Nat) (h1 : X.length = n) (h2 : n + Y.length = Z.length) : splice (splice Z 0 X) n Y = X ++ Y := by
  subst h1
  have e : splice Z 0 X = X ++ Z.drop X.length := by simp [splice]
  rw [e]
  unfold splice
  have h3 : (X ++ Z.drop X.length).drop (X.length + Y.length) = [] := by
    apply List.drop_eq_nil_of_le
    simp
    omega
  rw [h3, List.append_nil, List.take_left]
theorem bytesOf_append (a b : ByteArray) : bytesOf (a ++ b) = bytesOf a ++ bytesOf b := by
  unfold bytesOf
  rw [ByteArray.data_append, Array.toList_append, List.map_append]
theorem bytesOf_cut (d : ByteArray) (a b : Nat) : bytesOf (d.extract a b) = ((bytesOf d).take b).drop a := by
  unfold bytesOf
  rw [← List.map_take, ← List.map_drop]
  congr 1
  simp [ByteArray.data_extract, List.drop_take]
theorem bytesOf_end (d : ByteArray) (a : Nat) : bytesOf (d.extract a d.size) = (bytesOf d).drop a := by
  rw [bytesOf_cut, List.take_of_length_le (by rw [bytesOf_length]; exact Nat.le_refl _)]
theorem byteCells_of (t : ByteArray) : Lib.byteCells t.data.toList = (bytesOf t).map (Value.int .u8) := by
  unfold bytesOf Lib.byteCells
  rw [List.map_map]
  rfl

/-- The Log's cells with a new row and a new start. -/
theorem TL.put {w W : World} {g b : Nat} {lim st st' : Int} {d D : ByteArray} (h : TL w g lim st d) (hB : Below w.heap.size w W) (hb : W.heap[b]? = some (.cells ((bytesOf D).map (Value.int .u8)).toArray 5 (0, 0))) (hbw : w.heap.size ≤ b)
    (hD : D.size ≤ 9223372036854775807) :
    TL ((W.setCell ⟨g, 2, none⟩ (.slice (some ⟨b, 0, none⟩) D.size D.size)).setCell ⟨g, 1, none⟩ (.int .i64 st')) g lim st' D ∧
      KeepBut w ((W.setCell ⟨g, 2, none⟩ (.slice (some ⟨b, 0, none⟩) D.size D.size)).setCell ⟨g, 1, none⟩ (.int .i64 st')) g none ∧
      Below g w ((W.setCell ⟨g, 2, none⟩ (.slice (some ⟨b, 0, none⟩) D.size D.size)).setCell ⟨g, 1, none⟩ (.int .i64 st')) := by
  have hg := h.lt
  obtain ⟨A, c, h0, _, _, _⟩ := h
  have b0 := (hB.block g hg).trans h0
  have b1 := blk_set b0 2 (.slice (some ⟨b, 0, none⟩) D.size D.size)
  have b2 := blk_set b1 1 (.int .i64 st')
  have hne : b ≠ g := by omega
  have hbb : ((W.setCell ⟨g, 2, none⟩ (.slice (some ⟨b, 0, none⟩) D.size D.size)).setCell ⟨g, 1, none⟩ (.int .i64 st')).heap[b]? = some (.cells ((bytesOf D).map (Value.int .u8)).toArray 5 (0, 0)) := by
    rw [Below.heap_setCell _ _ _ _ (by exact hne), Below.heap_setCell _ _ _ _ (by exact hne)]
    exact hb
  refine ⟨⟨some ⟨b, 0, none⟩, D.size, by simpa using b2, Nat.le_refl _, ⟨bytesOf_length D, hD, fun _ => ⟨_, rfl, fun j hj => ?_⟩⟩, fun ad ha => ?_⟩, ?_, ?_⟩
  · rw [add_plain, blk_cell hbb]
    have hj' : j < (bytesOf D).length := by rw [bytesOf_length]; exact hj
    simp [List.getElem?_eq_getElem hj', List.getD_eq_getElem?_getD]
  · cases ha
    exact ⟨_, _, hbb⟩
  · exact ((KeepBut.of_below hB g none).set_ 2 _).set_ 1 _
  · have hBg : Below g w W := ⟨hB.os, hB.tape, hB.output, hB.size, fun k hk => hB.block k (by omega)⟩
    exact (hBg.setCell (p := ⟨g, 2, none⟩) (Nat.le_refl g) _).setCell (p := ⟨g, 1, none⟩) (Nat.le_refl g) _

theorem alloc_facts (w : World) (n : Nat) (o : Obj) : Below w.heap.size w ((w.drewN n).alloc o) ∧ ((w.drewN n).alloc o).heap[w.heap.size]? = some o ∧ ((w.drewN n).alloc o).heap.size = w.heap.size + 1 :=
  ⟨below_alloc (pw_below_drewN (Below.refl _ _) n) o, heap_alloc_new _ _, by simp⟩

set_option maxHeartbeats 4000000 in
theorem append_long (w : World) (g : Nat) (lim st : Int) (d x : ByteArray) (h : TL w g lim st d) (hs0 : 0 ≤ st) (hs1 : st + d.size ≤ 4611686018427387904) (hx : x.size ≤ 140737488351232) (h1 : 4611686018427387904 - x.size < st + d.size) :
    Calls Try.prog 13 #[.pointer (some ⟨g, 0, none⟩), .string x] w fun e w' => e = .returned (.int .i64 2) ∧ Drawn0 w w' := by
  have b0 : decide (4611686018427387904 - (x.size : Int) < st + (d.size : Int)) = true := decide_eq_true (by omega)
  have HT := Aside0.mk h
  clear h
  go_enter Try.func13, Try.ntmps13
  go_wp2_with (go_at_call 18; (first | refine (end_ _ g lim st d HT.out hs0 hs1).mono ?_ | refine (end_ _ g lim st d (HT.out.drewN _) hs0 hs1).mono ?_); rintro e w' ⟨rfl, ⟨nd, rfl⟩⟩)
  go_ret
  exact ⟨rfl, ⟨_, rfl⟩⟩

set_option maxHeartbeats 4000000 in
theorem append_walk (w : World) (g : Nat) (lim st : Int) (d x : ByteArray) (h : TL w g lim st d) (hs0 : 0 ≤ st) (hs1 : st + d.size ≤ 4611686018427387904) (hx : x.size ≤ 140737488351232) (hd : d.size ≤ 65536) (h1 : st + d.size ≤ 4611686018427387904 - x.size)
    (K F N : Nat) (hk : (if (d.size : Int) + x.size < lim then (d.size : Int) + x.size else lim) = (K : Int)) (hf : (if K < x.size then (x.size : Int) - K else 0) = (F : Int)) (hn : (K : Int) - ((x.size : Int) - F) = (N : Int))
    (hK : K ≤ 65536) (hN : N ≤ d.size) (hF : F ≤ x.size) :
    Calls Try.prog 13 #[.pointer (some ⟨g, 0, none⟩), .string x] w fun e w' => e = .returned (.int .i64 0) ∧ KeepBut w w' g none ∧ Below g w w' ∧
      TL w' g lim (st + d.size + x.size - K) (d.extract (d.size - N) d.size ++ x.extract F x.size) := by
  obtain ⟨A, c, c0, c1, c2, hc, hr⟩ := h.cells
  have hg := h.lt
  have b0 : decide (4611686018427387904 - (x.size : Int) < st + (d.size : Int)) = false := decide_eq_false (by omega)
  have hmk : ∀ W : World, (Instr.makeSlice 60 (.int .i64 (K : Int)) (.int .i64 (K : Int))).run Try.prog W = .ok (.slice (some ⟨W.heap.size, 0, none⟩) K K) (W.alloc (.cells (madeCells #[.int .u8 0] K) 5)) := by
    have h := print_make_int (P := Try.prog) 60 5 (.int .u8 0) 1 Try.underlying60 info5 rfl (by decide) (K : Int) (by omega) (by omega)
    simpa using h
  have HT := Aside0.mk h
  clear h
  go_enter Try.func13, Try.ntmps13
  go_upto_region 8 with (go_at_call 18; (first | refine (end_ _ g lim st d HT.out hs0 hs1).mono ?_ | refine (end_ _ g lim st d (HT.out.drewN _) hs0 hs1).mono ?_); rintro e w' ⟨rfl, ⟨nd, rfl⟩⟩)
  have w1 : IntKind.i64.wrap ((d.size : Int) + x.size) = (d.size : Int) + x.size := IntWalk.i64_in _ (by omega)
  go_quiet (fail)
  clear w1
  go_upto_region 8 with (fail)
  generalize hW : World.alloc _ _ = W1
  obtain ⟨hB1, hN1, hS1⟩ : Below w.heap.size w W1 ∧ W1.heap[w.heap.size]? = some (.cells (madeCells #[.int .u8 0] K) 5) ∧ W1.heap.size = w.heap.size + 1 := by rw [← hW]; exact alloc_facts w _ _
  clear hW
  obtain ⟨A, c, c0, c1, c2, hc, hr⟩ := (HT.out.below hB1).cells
  obtain ⟨i5, hi5, hz5⟩ := Option.map_eq_some_iff.1 info5
  simp only [Prod.mk.injEq] at hz5
  obtain ⟨A1, hcut, hcr, hcl⟩ := print_cut_int (P := Try.prog) (k := .u8) 60 5 Try.underlying60 hi5 hz5.2.1 A c (bytesOf d) ((d.size : Int) - N) (by omega) (by rw [bytesOf_length]; omega) (by rw [bytesOf_length]; omega)
  rw [bytesOf_length] at hcut
  have w2 : IntKind.i64.wrap ((d.size : Int) - N) = (d.size : Int) - N := IntWalk.i64_in _ (by omega)
  go_still_tail 13, (by kernel_rfl)
  change wpList _ _ _ _ _ W1.drew
  have hB2 : Below w.heap.size w W1.drew := below_drew hB1
  have hr2 : ReadsInt W1.drew .u8 A (bytesOf d).length (bytesOf d) := by rw [bytesOf_length]; exact hr
  have hr3 := hcr _ hr2
  have hN2 : W1.drew.heap[w.heap.size]? = some (.cells (madeCells #[.int .u8 0] K).toList.toArray 5 (0, 0)) := by rw [Array.toArray_toList]; exact hN1
  generalize W1.drew = W2 at hB2 hr2 hr3 hN2 ⊢
  clear hr2 hcr hcut hr c0 c1 c2 hB1 hN1 hS1 w2
  have hNK : N ≤ K := by omega
  have hl3 : ((bytesOf d).drop ((d.size : Int) - N).toNat).length = N := by rw [List.length_drop, bytesOf_length]; omega
  have hml : (madeCells #[Value.int .u8 0] K).toList.length = K := by rw [Array.length_toList, size_madeCells]
  generalize hys : (bytesOf d).drop ((d.size : Int) - N).toNat = ys at hr3 hl3 ⊢
  have HYS := Aside0.mk hys
  clear hys
  generalize (madeCells #[Value.int .u8 0] K).toList = zs at hN2 hml ⊢
  refine wpList_copy_splice rfl (.tmp 47) (.tmp 59) 60 60 rfl 5 Try.underlying60 (by rw [hi5]; simpa using hz5.2.1) (some ⟨w.heap.size, 0, none⟩) A1 K K ((bytesOf d).length - (d.size - N)) (c - (d.size - N)) rfl rfl w.heap.size 0 zs 5 hN2
    (ys.map (Value.int .u8)) (by rw [List.length_map, hl3, bytesOf_length, show d.size - (d.size - N) = N by omega]; exact (Nat.min_eq_left hNK).symm) ?_ (by rw [List.length_map, hl3, hml]; omega) ?_ w.heap.size w hB2 (Nat.le_refl _) ?_
  · intro hp
    rw [List.length_map] at hp
    obtain ⟨ad, ha, hc⟩ := hr3.2.2 hp
    refine ⟨rfl, ad, ha, fun j v hj => ?_⟩
    have hjl : j < ys.length := by have := (List.getElem?_eq_some_iff.1 hj).1; simpa using this
    rw [hc j hjl]
    rw [List.getElem?_map, List.getElem?_eq_getElem hjl] at hj
    simp at hj
    subst hj
    simp [List.getD_eq_getElem?_getD, List.getElem?_eq_getElem hjl]
  · intro v hv
    obtain ⟨z, _, rfl⟩ := List.mem_map.1 hv
    rfl
  intro W3 hg3 hB3
  have hg3' := Aside0.mk hg3.out
  clear hg3 hN2
  go_upto_region 9 with (fail)
  obtain ⟨A2, hcut2, ha2⟩ := cut_at w.heap.size K N hNK
  have hFx : (F : Int) ≤ (x.size : Int) := by omega
  go_still_tail 6, (by kernel_rfl)
  change wpList _ _ _ _ _ W3.drew
  have hB4 : Below w.heap.size w W3.drew := below_drew hB3
  have hN4 : W3.drew.heap[w.heap.size]? = some (.cells (splice zs 0 (ys.map (Value.int .u8))).toArray 5 (0, 0)) := hg3'.out
  generalize W3.drew = W4 at hB4 hN4 ⊢
  clear hg3' hB3 hcut2 hFx
  have hxs : (x.extract F x.size).size = x.size - F := by rw [ByteArray.size_extract]; omega
  have hKN : x.size - F = K - N := by omega
  have hl1 : (splice zs 0 (ys.map (Value.int .u8))).length = K := by rw [length_splice _ _ _ (by rw [List.length_map]; omega), hml]
  refine step_copy_string_splice rfl (.tmp 63) (.tmp 66) 60 9 rfl 5 Try.underlying60 (by rw [hi5]; simpa using hz5.2.1) A2 (K - N) (K - N) (x.extract F x.size) rfl rfl (by omega) w.heap.size N _ 5 hN4 (fun hp => ha2 (by omega)) (by rw [hl1]; omega) w.heap.size w hB4 (Nat.le_refl _) ?_
  intro W5 hg5 hB5
  have hD : splice (splice zs 0 (ys.map (Value.int .u8))) N (Lib.byteCells (x.extract F x.size).data.toList) = (bytesOf (d.extract (d.size - N) d.size ++ x.extract F x.size)).map (Value.int .u8) := by
    rw [splice2 _ _ _ _ (by rw [List.length_map]; exact hl3) (by rw [byteCells_of, List.length_map, bytesOf_length, hxs, hml]; omega), byteCells_of, bytesOf_append, List.map_append, bytesOf_end d, ← HYS.out, show ((d.size : Int) - N).toNat = d.size - N by omega]
  have hg6 : W5.heap[w.heap.size]? = some (.cells ((bytesOf (d.extract (d.size - N) d.size ++ x.extract F x.size)).map (Value.int .u8)).toArray 5 (0, 0)) := by rw [← hD]; exact hg5.out
  have hDs : (d.extract (d.size - N) d.size ++ x.extract F x.size).size = K := by rw [ByteArray.size_append, hxs, ByteArray.size_extract]; omega
  have hP := HT.out.put (st' := st + d.size + x.size - K) hB5 hg6 (Nat.le_refl _) (by omega)
  rw [hDs] at hP
  obtain ⟨A3, c3, hb3, _, _, _⟩ := HT.out
  have hb5 := (hB5.block g hg).trans hb3
  have f1 := blk_frozen hb5 1
  have f2 := blk_frozen hb5 2
  have c1 : W5.cell? ⟨g, 1, none⟩ = some (.int .i64 st) := (blk_cell hb5 1).trans rfl
  have c2 : W5.cell? ⟨g, 2, none⟩ = some (.slice A3 d.size c3) := (blk_cell hb5 2).trans rfl
  have hg7 : g < W5.heap.size := blk_lt hb5
  have HP := Aside0.mk hP
  clear hP hg6 hg5 hD hB5 hN4 hB4
  go_wp2
  go_ret
  exact ⟨rfl, HP.out.2.1, HP.out.2.2, HP.out.1⟩

/-- What Append leaves: the Log behind it and the error. -/
def appF (lim st : Int) (d x : ByteArray) : Int × ByteArray × Int :=
  if 4611686018427387904 - (x.size : Int) < st + d.size then (st, d, 2)
  else (st + (((d ++ x).size : Int) - lim).toNat, (d ++ x).extract (((d ++ x).size : Int) - lim).toNat (d ++ x).size, 0)

/-- Append. -/
theorem append (w : World) (g : Nat) (lim st : Int) (d x : ByteArray) (h : TL w g lim st d) (hs0 : 0 ≤ st) (hs1 : st + d.size ≤ 4611686018427387904) (hx : x.size ≤ 140737488351232) (hl0 : 1 ≤ lim) (hl1 : lim ≤ 65536) (hd : (d.size : Int) ≤ lim) :
    Calls Try.prog 13 #[.pointer (some ⟨g, 0, none⟩), .string x] w fun e w' => e = .returned (.int .i64 (appF lim st d x).2.2) ∧ KeepBut w w' g none ∧ Below g w w' ∧ TL w' g lim (appF lim st d x).1 (appF lim st d x).2.1 := by
  unfold appF
  by_cases h1 : 4611686018427387904 - (x.size : Int) < st + d.size
  · rw [if_pos h1]
    refine (append_long w g lim st d x h hs0 hs1 hx h1).mono ?_
    rintro e w' ⟨rfl, ⟨n, rfl⟩⟩
    exact ⟨rfl, keep_drewN (KeepBut.refl _ _ _) n, pw_below_drewN (Below.refl _ _) n, h.drewN n⟩
  · rw [if_neg h1]
    obtain ⟨K, hk⟩ : ∃ K : Nat, (K : Int) = (if (d.size : Int) + x.size < lim then (d.size : Int) + x.size else lim) := ⟨_, Int.toNat_of_nonneg (by split <;> omega)⟩
    obtain ⟨F, hf⟩ : ∃ F : Nat, (F : Int) = (if K < x.size then (x.size : Int) - K else 0) := ⟨_, Int.toNat_of_nonneg (by split <;> omega)⟩
    have hkl : (K : Int) ≤ lim := by split at hk <;> omega
    have hfx : F ≤ x.size := by split at hf <;> omega
    obtain ⟨N, hn⟩ : ∃ N : Nat, (N : Int) = (K : Int) - ((x.size : Int) - F) := ⟨_, Int.toNat_of_nonneg (by split at hf <;> omega)⟩
    have hNd : N ≤ d.size := by split at hk <;> split at hf <;> omega
    refine (append_walk w g lim st d x h hs0 hs1 hx (by omega) (by omega) K F N hk.symm hf.symm hn.symm (by omega) hNd hfx).mono ?_
    rintro e w' ⟨rfl, hK, hB, hT⟩
    have e1 : st + d.size + x.size - K = st + (((d ++ x).size : Int) - lim).toNat := by
      rw [ByteArray.size_append]
      split at hk <;> omega
    have e2 : d.extract (d.size - N) d.size ++ x.extract F x.size = (d ++ x).extract (((d ++ x).size : Int) - lim).toNat (d ++ x).size := by
      have e3 : (((d ++ x).size : Int) - lim).toNat = d.size - N + F := by
        rw [ByteArray.size_append]
        split at hk <;> split at hf <;> omega
      have e4 : F = 0 ∨ N = 0 := by split at hk <;> split at hf <;> omega
      rw [e3]
      apply ByteArray.ext
      apply Array.ext'
      have hd2 : d.data.toList.length = d.size := data_length d
      have hx2 : x.data.toList.length = x.size := data_length x
      have ex : ∀ (y : ByteArray) (a : Nat), (y.extract a y.size).data.toList = y.data.toList.drop a := by
        intro y a
        rw [ByteArray.data_extract, Array.toList_extract, List.extract_eq_take_drop]
        exact List.take_of_length_le (by rw [List.length_drop, data_length]; exact Nat.le_refl _)
      rw [ex, ByteArray.data_append, Array.toList_append, ex, ex, ByteArray.data_append, Array.toList_append, List.drop_append, hd2]
      rcases e4 with e4 | e4
      · subst e4
        rw [show d.size - N + 0 - d.size = 0 by omega, Nat.add_zero]
      · subst e4
        have z1 : d.data.toList.drop (d.size - 0 + F) = [] := List.drop_eq_nil_of_le (by omega)
        have z2 : d.data.toList.drop (d.size - 0) = [] := List.drop_eq_nil_of_le (by omega)
        rw [z1, z2, show d.size - 0 + F - d.size = F by omega]
    rw [e1, e2] at hT
    exact ⟨rfl, hK, hB, hT⟩
end Go.Proofs.Ytggahoojpikecaa.TailLog
