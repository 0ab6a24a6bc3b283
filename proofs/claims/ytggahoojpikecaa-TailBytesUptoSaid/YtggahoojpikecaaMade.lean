/- The law's own making of a Log: what it answers. No condition but a length below a bound. -/
import Derived.Test.YtggahoojpikecaaWorks
namespace Go.Proofs.Ytggahoojpikecaa.TailLog
open Go.RowKit Go.Proofs.YtggahoojpikecaaW.PrintWords Go.Proofs.YtggahoojpikecaaW.PrintLast Go.Proofs.YtggahoojpikecaaW.PrintMore
set_option linter.unusedVariables false
set_option linter.unusedSimpArgs false

/-- One other block alone has changed, and it holds no bytes. -/
theorem TL.keep' {w W : World} {g g' t : Nat} {lim st : Int} {d : ByteArray} {cs' : Array Value} {fr : Nat × Nat} (h : TL w g lim st d) (hk : KeepBut w W g' none) (hne : g ≠ g') (ho : w.heap[g']? = some (.cells cs' t fr)) (ht5 : t ≠ 5) : TL W g lim st d := by
  obtain ⟨A, c, hb, hc, hr, ht⟩ := h
  have far : ∀ ad, A = some ad → ad.block ≠ g' := by
    intro ad ha he
    obtain ⟨cs, fr', h⟩ := ht ad ha
    rw [he, ho] at h
    injection h with h
    injection h with _ h
    exact ht5 h
  refine ⟨A, c, hk.blk hb hne (by simp), hc, hr.keep hk (fun ad ha _ => far ad ha), fun ad ha => ?_⟩
  obtain ⟨cs, fr, h⟩ := ht ad ha
  exact ⟨cs, fr, hk.blk h (far ad ha) (by simp)⟩
theorem TL.ne {w : World} {g b t : Nat} {lim st : Int} {d : ByteArray} {cs : Array Value} {fr : Nat × Nat} (h : TL w g lim st d) (hb : w.heap[b]? = some (.cells cs t fr)) (ht : t ≠ 62) : g ≠ b := by
  rintro rfl
  obtain ⟨A, c, h0, _⟩ := h
  rw [h0] at hb
  injection hb with hb
  injection hb with _ hb
  exact ht hb.symm
theorem good_of_load {lim st : Int} {d : ByteArray} (h : loadE lim st d = 0) : Good lim st d := by
  unfold loadE at h
  by_cases h1 : lim < 1 ∨ 65536 < lim ∨ st < 0 ∨ lim < d.size
  · rw [if_pos h1] at h; cases h
  · rw [if_neg h1] at h
    by_cases h2 : 4611686018427387904 - d.size < st
    · rw [if_pos h2] at h; cases h
    · exact ⟨by omega, by omega, by omega, by omega, by omega⟩

/-- What made answers. -/
def MadeP (w : World) (e : Ending) (w' : World) : Prop :=
  ∃ (p : Option Addr) (lim st : Int) (d : ByteArray), e = .returned (.tuple #[.pointer p, .agg #[.int .i64 lim, .int .i64 st, .string d], .bool true]) ∧ Below w.heap.size w w' ∧
    (p = none ∨ ∃ g, p = some ⟨g, 0, none⟩ ∧ w.heap.size ≤ g ∧ TL w' g lim st d ∧ Good lim st d)

theorem results_tct {P : Program} {fn : Func} {p u v : Tmp} {ty : TypeId} (h : fn.results = #[.tmp u, .cell p ty, .tmp v]) (tmps : Array Value) (w : World) (g : Nat) (t : TypeId) (cs : Array Value) (fr : Nat × Nat) (d : TypeDesc)
    (hp : tmps.getD p undef = .pointer (some ⟨g, 0, none⟩)) (hg : w.heap[g]? = some (.cells cs t fr))
    (hu : P.underlying ty = some d) (hd : (match d with | .struct _ | .array _ _ => true | _ => false) = true) (hi : (P.info? ty).map (·.size) = some cs.size) :
    (results fn tmps).run P w = .ok (.tuple #[tmps.getD u undef, .agg cs, tmps.getD v undef]) w := by
  have hp' : tmps[p]?.getD undef = .pointer (some ⟨g, 0, none⟩) := by simpa using hp
  simp [results, h, hp', asAddr, run_loadVar_row w g t ty cs fr d hg hu hd hi]
theorem far3 {W : World} {a : Addr} {b : Nat} (hne : a.block ≠ b) (x y z : Value) : (((W.setCell ⟨b, 0, none⟩ x).setCell ⟨b, 1, none⟩ y).setCell ⟨b, 2, none⟩ z).drew.cell? a = W.cell? a := by
  show (((W.setCell ⟨b, 0, none⟩ x).setCell ⟨b, 1, none⟩ y).setCell ⟨b, 2, none⟩ z).cell? a = W.cell? a
  rw [cell_far (p := ⟨b, 2, none⟩) hne, cell_far (p := ⟨b, 1, none⟩) hne, cell_far (p := ⟨b, 0, none⟩) hne]
theorem put3_facts {w0 w : World} {g : Nat} {a b c : Value} (h : w.heap[g]? = some (.cells #[a, b, c] 43 (0, 0))) (hB : Below w0.heap.size w0 w) (hg : w0.heap.size ≤ g) (x y z : Value) :
    (((w.setCell ⟨g, 0, none⟩ x).setCell ⟨g, 1, none⟩ y).setCell ⟨g, 2, none⟩ z).heap[g]? = some (.cells #[x, y, z] 43 (0, 0)) ∧ KeepBut w (((w.setCell ⟨g, 0, none⟩ x).setCell ⟨g, 1, none⟩ y).setCell ⟨g, 2, none⟩ z) g none ∧
      Below w0.heap.size w0 (((w.setCell ⟨g, 0, none⟩ x).setCell ⟨g, 1, none⟩ y).setCell ⟨g, 2, none⟩ z) :=
  ⟨put3 h x y z, (((KeepBut.refl w g none).set_ 0 x).set_ 1 y).set_ 2 z, below_set (below_set (below_set hB hg) hg) hg⟩
theorem heap_fst (w : World) (a b : Obj) : ((w.alloc a).alloc b).heap[w.heap.size]? = some a := by
  have h1 := heap_alloc_new w a
  have h2 := (below_alloc (Below.refl (w.alloc a).heap.size (w.alloc a)) b).block w.heap.size (blk_lt h1)
  exact h2.trans h1
theorem heap_snd (w : World) (a b : Obj) : ((w.alloc a).alloc b).heap[w.heap.size + 1]? = some b := by
  have h1 := heap_alloc_new (w.alloc a) b
  have e : (w.alloc a).heap.size = w.heap.size + 1 := by simp
  rw [e] at h1
  exact h1

set_option maxHeartbeats 4000000 in
set_option maxRecDepth 100000 in
theorem made (w : World) (fresh : Bool) (lim st : Int) (d : ByteArray) (hd : d.size ≤ 140737488351232) (hst : st ≤ 9223372036854775807) :
    Calls Try.prog 19 #[.agg #[.bool fresh, .int .i64 lim, .int .i64 st, .string d]] w fun e w' => MadeP w e w' := by
  have hu43 := Try.underlying43
  have hu41 := Try.underlying41
  go_enter Try.func19, Try.ntmps19
  go_upto_region 1 with (fail)
  obtain ⟨hm, hr, hB⟩ : ((w.alloc (.cells #[.bool fresh, .int .i64 lim, .int .i64 st, .string d] 41)).alloc (.cells #[.int .i64 0, .int .i64 0, .string ⟨#[]⟩] 43)).heap[w.heap.size]? = some (.cells #[.bool fresh, .int .i64 lim, .int .i64 st, .string d] 41) ∧
      ((w.alloc (.cells #[.bool fresh, .int .i64 lim, .int .i64 st, .string d] 41)).alloc (.cells #[.int .i64 0, .int .i64 0, .string ⟨#[]⟩] 43)).heap[w.heap.size + 1]? = some (.cells #[.int .i64 0, .int .i64 0, .string ⟨#[]⟩] 43) ∧
      Below w.heap.size w ((w.alloc (.cells #[.bool fresh, .int .i64 lim, .int .i64 st, .string d] 41)).alloc (.cells #[.int .i64 0, .int .i64 0, .string ⟨#[]⟩] 43)) := ⟨heap_fst _ _ _, heap_snd _ _ _, below_alloc (below_alloc (Below.refl _ _) _) _⟩
  generalize (w.alloc (.cells #[.bool fresh, .int .i64 lim, .int .i64 st, .string d] 41)).alloc (.cells #[.int .i64 0, .int .i64 0, .string ⟨#[]⟩] 43) = W0 at hm hr hB ⊢
  go_upto_region 6 with (go_at_call 12; refine (works _).mono ?_; rintro e W1 ⟨rfl, hB1⟩; replace hm := (hB1.block _ (blk_lt hm)).trans hm; replace hr := (hB1.block _ (blk_lt hr)).trans hr; replace hB := below_new hB hB1; clear hB1)
  obtain ⟨gr, hgr⟩ : ∃ gr, gr = W1.heap.size := ⟨_, rfl⟩
  have hA := below_alloc (Below.refl W1.heap.size W1) (.cells #[.int .i64 0, .int .i64 0, .string ⟨#[]⟩] 43)
  have hc := heap_alloc_new W1 (.cells #[.int .i64 0, .int .i64 0, .string ⟨#[]⟩] 43)
  have hwr : w.heap.size + 1 < gr := by rw [hgr]; exact blk_lt hr
  replace hm := (hA.block _ (blk_lt hm)).trans hm
  replace hr := (hA.block _ (blk_lt hr)).trans hr
  replace hB := below_new hB hA
  rw [← hgr] at hc ⊢
  clear hA hgr
  generalize W1.alloc (.cells #[.int .i64 0, .int .i64 0, .string ⟨#[]⟩] 43) = W2 at hm hr hB hc ⊢
  have m0 : W2.cell? ⟨w.heap.size, 0, none⟩ = some (.bool fresh) := (blk_cell hm 0).trans rfl
  have m1 : W2.cell? ⟨w.heap.size, 1, none⟩ = some (.int .i64 lim) := (blk_cell hm 1).trans rfl
  have m2 : W2.cell? ⟨w.heap.size, 2, none⟩ = some (.int .i64 st) := (blk_cell hm 2).trans rfl
  have m3 : W2.cell? ⟨w.heap.size, 3, none⟩ = some (.string d) := (blk_cell hm 3).trans rfl
  have Hm := Aside0.mk hm
  have Hr := Aside0.mk hr
  have Hc := Aside0.mk hc
  have HB := Aside0.mk hB
  clear hm hr hc hB
  cases fresh with
  | true =>
    go_upto_region 11 with (first
      | (go_at_call 11; refine (new _ lim).mono ?_; rintro e W3 ⟨p, rfl, hB3, hn, hs⟩; have m1 : W3.cell? ⟨w.heap.size, 1, none⟩ = some (.int .i64 lim) := (blk_cell ((hB3.block _ (blk_lt Hm.out)).trans Hm.out) 1).trans rfl; have HB3 := Aside0.mk hB3; have HN := Aside0.mk hn; have HS := Aside0.mk hs; clear hB3 hn hs)
      | (go_at_call 28; refine (PS.mullionref06_New.calls lim _ _ _ _ _ (ref_new lim)).mono ?_; rintro e W4 ⟨rfl, hB4⟩; have hB34 := below_new HB3.out hB4; have hc4 := (hB34.block _ (blk_lt Hc.out)).trans Hc.out; have q0 : W4.cell? ⟨gr, 0, none⟩ = some (.int .i64 0) := (blk_cell hc4 0).trans rfl; have q1 : W4.cell? ⟨gr, 1, none⟩ = some (.int .i64 0) := (blk_cell hc4 1).trans rfl; have q2 : W4.cell? ⟨gr, 2, none⟩ = some (.string ⟨#[]⟩) := (blk_cell hc4 2).trans rfl; have f0 := blk_frozen hc4 0; have f1 := blk_frozen hc4 1; have f2 := blk_frozen hc4 2; have HB4 := Aside0.mk hB4; have HB34 := Aside0.mk hB34; have Hc4 := Aside0.mk hc4; clear hB4 hB34 hc4))
    obtain ⟨hc5, hk5, hB5⟩ := put3_facts Hc4.out (below_new HB.out HB34.out) (Nat.le_of_lt (Nat.lt_of_succ_lt hwr)) (.int .i64 (if loadE lim 0 ⟨#[]⟩ = 0 then lim else 0)) (.int .i64 0) (.string ⟨#[]⟩)
    have hr4 := (HB34.out.block _ (blk_lt Hr.out)).trans Hr.out
    have hr5 := hk5.blk hr4 (by omega) (by simp)
    have hs5 : loadE lim 0 ⟨#[]⟩ = 0 → ∃ g, p = some ⟨g, 0, none⟩ ∧ w.heap.size ≤ g ∧ TL (((W4.setCell ⟨gr, 0, none⟩ (.int .i64 (if loadE lim 0 ⟨#[]⟩ = 0 then lim else 0))).setCell ⟨gr, 1, none⟩ (.int .i64 0)).setCell ⟨gr, 2, none⟩ (.string ⟨#[]⟩)) g (if loadE lim 0 ⟨#[]⟩ = 0 then lim else 0) 0 ⟨#[]⟩ ∧ Good (if loadE lim 0 ⟨#[]⟩ = 0 then lim else 0) 0 ⟨#[]⟩ := by
      intro hE
      obtain ⟨g, hp, hg, hT⟩ := HS.out hE
      have hGG := good_of_load hE
      have hT4 := hT.below HB4.out
      have hg2 := Nat.le_trans HB.out.size hg
      have hgne : g ≠ gr := by have := blk_lt Hc.out; omega
      refine ⟨g, hp, hg2, ?_, ?_⟩
      · have := hT4.keep' hk5 hgne Hc4.out (by decide)
        rw [if_pos hE] at this ⊢
        exact this
      · rw [if_pos hE]
        exact hGG
    generalize hW5 : World.setCell _ _ _ = W5 at hc5 hr5 hB5 hs5
    have hN5 := HN.out
    clear hW5 hk5 hr4 HS HN HB4 HB34 Hc4 HB3 Hc Hr Hm HB q0 q1 q2 f0 f1 f2 m0 m1 m2 m3
    generalize (if loadE lim 0 ⟨#[]⟩ = 0 then lim else 0) = L at hc5 hs5 ⊢
    generalize loadE lim 0 ⟨#[]⟩ = E at hs5 hN5 ⊢
    have r0 : W5.cell? ⟨gr, 0, none⟩ = some (.int .i64 L) := (blk_cell hc5 0).trans rfl
    have r1 : W5.cell? ⟨gr, 1, none⟩ = some (.int .i64 0) := (blk_cell hc5 1).trans rfl
    have r2 : W5.cell? ⟨gr, 2, none⟩ = some (.string ⟨#[]⟩) := (blk_cell hc5 2).trans rfl
    have HS5 := Aside0.mk hs5
    have HR5 := Aside0.mk hr5
    have HB5 := Aside0.mk hB5
    have HN5 := Aside0.mk hN5
    clear hc5 hs5 hr5 hB5 hN5
    by_cases hE : E = 0
    · subst hE
      obtain ⟨g, hp, hg, hT, hGd⟩ := HS5.out rfl
      subst hp
      have HT := Aside0.mk hT
      have HGd := Aside0.mk hGd
      have HGw := Aside0.mk hg
      clear hT hGd hg
      have s0 : W5.cell? ⟨w.heap.size + 1, 0, none⟩ = some (.int .i64 0) := (blk_cell HR5.out 0).trans rfl
      have s1 : W5.cell? ⟨w.heap.size + 1, 1, none⟩ = some (.int .i64 0) := (blk_cell HR5.out 1).trans rfl
      have s2 : W5.cell? ⟨w.heap.size + 1, 2, none⟩ = some (.string ⟨#[]⟩) := (blk_cell HR5.out 2).trans rfl
      have f0 := blk_frozen HR5.out 0
      have f1 := blk_frozen HR5.out 1
      have f2 := blk_frozen HR5.out 2
      have hne : gr ≠ w.heap.size + 1 := by omega
      go_region_held3 (fun w' => w'.cell? ⟨gr, 0, none⟩ = some (.int .i64 L) ∧ w'.cell? ⟨gr, 1, none⟩ = some (.int .i64 0) ∧ w'.cell? ⟨gr, 2, none⟩ = some (.string ⟨#[]⟩))
        (first | exact ⟨r0, r1, r2⟩ | exact ⟨(far3 hne _ _ _).trans r0, (far3 hne _ _ _).trans r1, (far3 hne _ _ _).trans r2⟩ | go_keep) (fail)
      go_wp2
      have hfin := put3 HR5.out (.int .i64 L) (.int .i64 0) (.string ⟨#[]⟩)
      refine bodyPost_ret (results_tct rfl _ _ (w.heap.size + 1) 43 #[.int .i64 L, .int .i64 0, .string ⟨#[]⟩] (0, 0) _ rfl hfin Try.underlying43 rfl (by kernel_rfl)) rfl ?_
      have hbel := below_drew (below_set (v := .string ⟨#[]⟩) (j := 2) (below_set (v := .int .i64 0) (j := 1) (below_set (v := .int .i64 L) (j := 0) HB5.out (Nat.le_succ _)) (Nat.le_succ _)) (Nat.le_succ _))
      have hkp : KeepBut W5 _ (w.heap.size + 1) none := (((KeepBut.refl W5 (w.heap.size + 1) none).set_ 0 (.int .i64 L)).set_ 1 (.int .i64 0)).set_ 2 (.string ⟨#[]⟩)
      exact ⟨_, L, 0, ⟨#[]⟩, rfl, hbel, Or.inr ⟨g, rfl, HGw.out, (HT.out.keep' hkp (HT.out.ne HR5.out (by decide)) HR5.out (by decide)), HGd.out⟩⟩
    · have hp := HN5.out hE
      subst hp
      have e1 : (E == 0) = false := beq_eq_false_iff_ne.mpr hE
      have e2 : decide (E = 0) = false := decide_eq_false hE
      have e3 : (E != 0) = true := bne_iff_ne.mpr hE
      have s0 : W5.cell? ⟨w.heap.size + 1, 0, none⟩ = some (.int .i64 0) := (blk_cell HR5.out 0).trans rfl
      have s1 : W5.cell? ⟨w.heap.size + 1, 1, none⟩ = some (.int .i64 0) := (blk_cell HR5.out 1).trans rfl
      have s2 : W5.cell? ⟨w.heap.size + 1, 2, none⟩ = some (.string ⟨#[]⟩) := (blk_cell HR5.out 2).trans rfl
      have f0 := blk_frozen HR5.out 0
      have f1 := blk_frozen HR5.out 1
      have f2 := blk_frozen HR5.out 2
      have hne : gr ≠ w.heap.size + 1 := by omega
      go_region_held3 (fun w' => w'.cell? ⟨gr, 0, none⟩ = some (.int .i64 L) ∧ w'.cell? ⟨gr, 1, none⟩ = some (.int .i64 0) ∧ w'.cell? ⟨gr, 2, none⟩ = some (.string ⟨#[]⟩))
        (first | exact ⟨r0, r1, r2⟩ | exact ⟨(far3 hne _ _ _).trans r0, (far3 hne _ _ _).trans r1, (far3 hne _ _ _).trans r2⟩ | go_keep) (fail)
      go_wp2
      have hfin := put3 HR5.out (.int .i64 L) (.int .i64 0) (.string ⟨#[]⟩)
      refine bodyPost_ret (results_tct rfl _ _ (w.heap.size + 1) 43 #[.int .i64 L, .int .i64 0, .string ⟨#[]⟩] (0, 0) _ rfl hfin Try.underlying43 rfl (by kernel_rfl)) rfl ?_
      have hbel := below_drew (below_set (v := .string ⟨#[]⟩) (j := 2) (below_set (v := .int .i64 0) (j := 1) (below_set (v := .int .i64 L) (j := 0) HB5.out (Nat.le_succ _)) (Nat.le_succ _)) (Nat.le_succ _))
      exact ⟨_, L, 0, ⟨#[]⟩, rfl, hbel, Or.inl rfl⟩
  | false =>
    go_upto_region 11 with (first
      | (go_at_call 24; refine (load _ lim st d hd).mono ?_; rintro e W3 ⟨p, rfl, hB3, hn, hs⟩; have hm3 := (hB3.block _ (blk_lt Hm.out)).trans Hm.out; have m1 : W3.cell? ⟨w.heap.size, 1, none⟩ = some (.int .i64 lim) := (blk_cell hm3 1).trans rfl; have m2 : W3.cell? ⟨w.heap.size, 2, none⟩ = some (.int .i64 st) := (blk_cell hm3 2).trans rfl; have m3 : W3.cell? ⟨w.heap.size, 3, none⟩ = some (.string d) := (blk_cell hm3 3).trans rfl; clear hm3; have HB3 := Aside0.mk hB3; have HN := Aside0.mk hn; have HS := Aside0.mk hs; clear hB3 hn hs)
      | (go_at_call 29; refine (PS.mullionref06_Load.calls 1 lim st d _ _ _ _ _ (ref_load lim st d hd hst)).mono ?_; rintro e W4 ⟨rfl, hB4⟩; have hB34 := below_new HB3.out hB4; have hc4 := (hB34.block _ (blk_lt Hc.out)).trans Hc.out; have q0 : W4.cell? ⟨gr, 0, none⟩ = some (.int .i64 0) := (blk_cell hc4 0).trans rfl; have q1 : W4.cell? ⟨gr, 1, none⟩ = some (.int .i64 0) := (blk_cell hc4 1).trans rfl; have q2 : W4.cell? ⟨gr, 2, none⟩ = some (.string ⟨#[]⟩) := (blk_cell hc4 2).trans rfl; have f0 := blk_frozen hc4 0; have f1 := blk_frozen hc4 1; have f2 := blk_frozen hc4 2; have HB4 := Aside0.mk hB4; have HB34 := Aside0.mk hB34; have Hc4 := Aside0.mk hc4; clear hB4 hB34 hc4))
    obtain ⟨hc5, hk5, hB5⟩ := put3_facts Hc4.out (below_new HB.out HB34.out) (Nat.le_of_lt (Nat.lt_of_succ_lt hwr)) (.int .i64 (if loadE lim st d = 0 then lim else 0)) (.int .i64 (if loadE lim st d = 0 then st else 0)) (.string (if loadE lim st d = 0 then d else ⟨#[]⟩))
    have hr4 := (HB34.out.block _ (blk_lt Hr.out)).trans Hr.out
    have hr5 := hk5.blk hr4 (by omega) (by simp)
    have hs5 : loadE lim st d = 0 → ∃ g, p = some ⟨g, 0, none⟩ ∧ w.heap.size ≤ g ∧ TL (((W4.setCell ⟨gr, 0, none⟩ (.int .i64 (if loadE lim st d = 0 then lim else 0))).setCell ⟨gr, 1, none⟩ (.int .i64 (if loadE lim st d = 0 then st else 0))).setCell ⟨gr, 2, none⟩ (.string (if loadE lim st d = 0 then d else ⟨#[]⟩))) g (if loadE lim st d = 0 then lim else 0) (if loadE lim st d = 0 then st else 0) (if loadE lim st d = 0 then d else ⟨#[]⟩) ∧ Good (if loadE lim st d = 0 then lim else 0) (if loadE lim st d = 0 then st else 0) (if loadE lim st d = 0 then d else ⟨#[]⟩) := by
      intro hE
      obtain ⟨g, hp, hg, hT⟩ := HS.out hE
      have hGG := good_of_load hE
      have hT4 := hT.below HB4.out
      have hg2 := Nat.le_trans HB.out.size hg
      have hgne : g ≠ gr := by have := blk_lt Hc.out; omega
      refine ⟨g, hp, hg2, ?_, ?_⟩
      · have := hT4.keep' hk5 hgne Hc4.out (by decide)
        simp only [if_pos hE] at this ⊢
        exact this
      · simp only [if_pos hE]
        exact hGG
    generalize hW5 : World.setCell _ _ _ = W5 at hc5 hr5 hB5 hs5
    have hN5 := HN.out
    clear hW5 hk5 hr4 HS HN HB4 HB34 Hc4 HB3 Hc Hr Hm HB q0 q1 q2 f0 f1 f2 m0 m1 m2 m3
    generalize (if loadE lim st d = 0 then lim else 0) = L at hc5 hs5 ⊢
    generalize (if loadE lim st d = 0 then st else 0) = S at hc5 hs5 ⊢
    generalize (if loadE lim st d = 0 then d else ⟨#[]⟩) = D at hc5 hs5 ⊢
    generalize loadE lim st d = E at hs5 hN5 ⊢
    have r0 : W5.cell? ⟨gr, 0, none⟩ = some (.int .i64 L) := (blk_cell hc5 0).trans rfl
    have r1 : W5.cell? ⟨gr, 1, none⟩ = some (.int .i64 S) := (blk_cell hc5 1).trans rfl
    have r2 : W5.cell? ⟨gr, 2, none⟩ = some (.string D) := (blk_cell hc5 2).trans rfl
    have HS5 := Aside0.mk hs5
    have HR5 := Aside0.mk hr5
    have HB5 := Aside0.mk hB5
    have HN5 := Aside0.mk hN5
    clear hc5 hs5 hr5 hB5 hN5
    by_cases hE : E = 0
    · subst hE
      obtain ⟨g, hp, hg, hT, hGd⟩ := HS5.out rfl
      subst hp
      have HT := Aside0.mk hT
      have HGd := Aside0.mk hGd
      have HGw := Aside0.mk hg
      clear hT hGd hg
      have s0 : W5.cell? ⟨w.heap.size + 1, 0, none⟩ = some (.int .i64 0) := (blk_cell HR5.out 0).trans rfl
      have s1 : W5.cell? ⟨w.heap.size + 1, 1, none⟩ = some (.int .i64 0) := (blk_cell HR5.out 1).trans rfl
      have s2 : W5.cell? ⟨w.heap.size + 1, 2, none⟩ = some (.string ⟨#[]⟩) := (blk_cell HR5.out 2).trans rfl
      have f0 := blk_frozen HR5.out 0
      have f1 := blk_frozen HR5.out 1
      have f2 := blk_frozen HR5.out 2
      have hne : gr ≠ w.heap.size + 1 := by omega
      go_region_held3 (fun w' => w'.cell? ⟨gr, 0, none⟩ = some (.int .i64 L) ∧ w'.cell? ⟨gr, 1, none⟩ = some (.int .i64 S) ∧ w'.cell? ⟨gr, 2, none⟩ = some (.string D))
        (first | exact ⟨r0, r1, r2⟩ | exact ⟨(far3 hne _ _ _).trans r0, (far3 hne _ _ _).trans r1, (far3 hne _ _ _).trans r2⟩ | go_keep) (fail)
      go_wp2
      have hfin := put3 HR5.out (.int .i64 L) (.int .i64 S) (.string D)
      refine bodyPost_ret (results_tct rfl _ _ (w.heap.size + 1) 43 #[.int .i64 L, .int .i64 S, .string D] (0, 0) _ rfl hfin Try.underlying43 rfl (by kernel_rfl)) rfl ?_
      have hbel := below_drew (below_set (v := .string D) (j := 2) (below_set (v := .int .i64 S) (j := 1) (below_set (v := .int .i64 L) (j := 0) HB5.out (Nat.le_succ _)) (Nat.le_succ _)) (Nat.le_succ _))
      have hkp : KeepBut W5 _ (w.heap.size + 1) none := (((KeepBut.refl W5 (w.heap.size + 1) none).set_ 0 (.int .i64 L)).set_ 1 (.int .i64 S)).set_ 2 (.string D)
      exact ⟨_, L, S, D, rfl, hbel, Or.inr ⟨g, rfl, HGw.out, (HT.out.keep' hkp (HT.out.ne HR5.out (by decide)) HR5.out (by decide)), HGd.out⟩⟩
    · have hp := HN5.out hE
      subst hp
      have e1 : (E == 0) = false := beq_eq_false_iff_ne.mpr hE
      have e2 : decide (E = 0) = false := decide_eq_false hE
      have e3 : (E != 0) = true := bne_iff_ne.mpr hE
      have s0 : W5.cell? ⟨w.heap.size + 1, 0, none⟩ = some (.int .i64 0) := (blk_cell HR5.out 0).trans rfl
      have s1 : W5.cell? ⟨w.heap.size + 1, 1, none⟩ = some (.int .i64 0) := (blk_cell HR5.out 1).trans rfl
      have s2 : W5.cell? ⟨w.heap.size + 1, 2, none⟩ = some (.string ⟨#[]⟩) := (blk_cell HR5.out 2).trans rfl
      have f0 := blk_frozen HR5.out 0
      have f1 := blk_frozen HR5.out 1
      have f2 := blk_frozen HR5.out 2
      have hne : gr ≠ w.heap.size + 1 := by omega
      go_region_held3 (fun w' => w'.cell? ⟨gr, 0, none⟩ = some (.int .i64 L) ∧ w'.cell? ⟨gr, 1, none⟩ = some (.int .i64 S) ∧ w'.cell? ⟨gr, 2, none⟩ = some (.string D))
        (first | exact ⟨r0, r1, r2⟩ | exact ⟨(far3 hne _ _ _).trans r0, (far3 hne _ _ _).trans r1, (far3 hne _ _ _).trans r2⟩ | go_keep) (fail)
      go_wp2
      have hfin := put3 HR5.out (.int .i64 L) (.int .i64 S) (.string D)
      refine bodyPost_ret (results_tct rfl _ _ (w.heap.size + 1) 43 #[.int .i64 L, .int .i64 S, .string D] (0, 0) _ rfl hfin Try.underlying43 rfl (by kernel_rfl)) rfl ?_
      have hbel := below_drew (below_set (v := .string D) (j := 2) (below_set (v := .int .i64 S) (j := 1) (below_set (v := .int .i64 L) (j := 0) HB5.out (Nat.le_succ _)) (Nat.le_succ _)) (Nat.le_succ _))
      exact ⟨_, L, S, D, rfl, hbel, Or.inl rfl⟩
end Go.Proofs.Ytggahoojpikecaa.TailLog
