/- The walk of TailPieces. No condition but lengths below a bound. -/
import Derived.Test.YtggahoojpikecaaLaid
namespace Go.Proofs.Ytggahoojpikecaa.TailLog
open Go.RowKit Go.Proofs.YtggahoojpikecaaW.PrintWords Go.Proofs.YtggahoojpikecaaW.PrintLast Go.Proofs.YtggahoojpikecaaW.PrintMore
set_option linter.unusedVariables false
set_option linter.unusedSimpArgs false

/-- A Log is as it was where another one alone has changed. -/
theorem TL.keep2 {w W : World} {g g' : Nat} {lim st lim' st' : Int} {d d' : ByteArray} (h : TL w g lim st d) (h' : TL w g' lim' st' d') (hk : KeepBut w W g' none) (hne : g ≠ g') : TL W g lim st d := by
  obtain ⟨_, _, h0, _⟩ := h'
  exact h.keep hk hne h0
theorem loadE_nil (lim : Int) : loadE lim 0 ⟨#[]⟩ = if lim < 1 ∨ 65536 < lim then 1 else 0 := by
  have hz : ((⟨#[]⟩ : ByteArray).size : Int) = 0 := rfl
  unfold loadE
  rw [hz]
  by_cases h : lim < 1 ∨ 65536 < lim
  · rw [if_pos h, if_pos (by omega)]
  · rw [if_neg h, if_neg (by omega), if_neg (by omega)]
theorem quietly {P : Program} {f : FuncId} {args : Array Value} {w : World} {v : Value} (h : Calls P f args w fun e w' => e = .returned v ∧ Drawn0 w w') : Calls P f args w fun e w' => e = .returned v ∧ ∃ m, w' = w.drewN m :=
  h.mono fun _ _ ⟨he, hd⟩ => ⟨he, drawn_of hd⟩

set_option maxHeartbeats 8000000 in
set_option maxRecDepth 100000 in
theorem pieces_bad (w : World) (lim : Int) (text : ByteArray) (A : Option Addr) (c n : Nat) (B : Option Addr) (e m : Nat) (hE : lim < 1 ∨ 65536 < lim) :
    Calls Try.prog 4 #[.int .i64 lim, .string text, .agg #[.slice A n c, .slice B m e]] w fun e w' => e = .returned (.bool true) ∧ Below w.heap.size w w' := by
  have hl : loadE lim 0 ⟨#[]⟩ = 1 := by rw [loadE_nil, if_pos hE]
  have HE := Aside0.mk hl
  clear hl
  go_enter Try.func4, Try.ntmps4
  go_upto_region 1 with (fail)
  have hB0 : Below w.heap.size w (w.alloc (.cells #[.slice A n c, .slice B m e] 35)) := below_alloc (Below.refl _ _) _
  generalize w.alloc (.cells #[.slice A n c, .slice B m e] 35) = W0 at hB0 ⊢
  have HB := Aside0.mk hB0
  clear hB0
  by_cases h1 : lim < 1
  · have g1 : decide (lim < 1) = true := decide_eq_true h1
    go_wp2_with (first
      | (go_at_call 11; refine (new _ lim).mono ?_; rintro e W1 ⟨p, rfl, hB, hn, hs⟩; replace hn := hn (by rw [HE.out]; decide); subst hn; rw [HE.out]; replace HB := Aside0.mk (below_new HB.out hB); clear hB hs)
      | (go_at_call 12; refine (works _).mono ?_; rintro e W1 ⟨rfl, hB⟩; replace HB := Aside0.mk (below_new HB.out hB); clear hB))
    go_ret
    exact ⟨rfl, HB.out⟩
  · have g1 : decide (lim < 1) = false := decide_eq_false h1
    have g2 : decide (65536 < lim) = true := decide_eq_true (by omega)
    go_wp2_with (first
      | (go_at_call 11; refine (new _ lim).mono ?_; rintro e W1 ⟨p, rfl, hB, hn, hs⟩; replace hn := hn (by rw [HE.out]; decide); subst hn; rw [HE.out]; replace HB := Aside0.mk (below_new HB.out hB); clear hB hs)
      | (go_at_call 12; refine (works _).mono ?_; rintro e W1 ⟨rfl, hB⟩; replace HB := Aside0.mk (below_new HB.out hB); clear hB))
    go_ret
    exact ⟨rfl, HB.out⟩

set_option maxHeartbeats 8000000 in
set_option maxRecDepth 100000 in
theorem pieces_ok (w : World) (lim : Int) (text : ByteArray) (ht : text.size ≤ 140737488351232) (A : Option Addr) (c : Nat) (xs : List Int) (B : Option Addr) (e : Nat) (ys : List Int) (hA : ReadsInt w .i64 A xs.length xs) (hB : ReadsInt w .i64 B ys.length ys) (hca : xs.length ≤ c) (hcb : ys.length ≤ e) (l0 : 1 ≤ lim) (l1 : lim ≤ 65536) :
    Calls Try.prog 4 #[.int .i64 lim, .string text, .agg #[.slice A xs.length c, .slice B ys.length e]] w fun e w' => e = .returned (.bool true) ∧ Below w.heap.size w w' := by
  have hl : loadE lim 0 ⟨#[]⟩ = 0 := by rw [loadE_nil, if_neg (by omega)]
  have HE := Aside0.mk hl
  have hkn := kept_nil lim l0
  have HKN := Aside0.mk hkn
  have HRA := Aside0.mk hA
  have HRB := Aside0.mk hB
  clear hl hkn hA hB
  go_enter Try.func4, Try.ntmps4
  go_upto_region 1 with (fail)
  have hB0 : Below w.heap.size w (w.alloc (.cells #[.slice A xs.length c, .slice B ys.length e] 35)) := below_alloc (Below.refl _ _) _
  have hq0 := heap_alloc_new w (.cells #[.slice A xs.length c, .slice B ys.length e] 35)
  generalize w.alloc (.cells #[.slice A xs.length c, .slice B ys.length e] 35) = W0 at hB0 hq0 ⊢
  have HB0 := Aside0.mk hB0
  have HQ0 := Aside0.mk hq0
  clear hB0 hq0
  go_upto_region 2 with (go_at_call 11; refine (new _ lim).mono ?_; rintro e W1 ⟨p, rfl, hB, hn, hs⟩; obtain ⟨g, hp, hg, hT⟩ := hs HE.out; subst hp; rw [HE.out]; have HB1 := Aside0.mk hB; have HT1 := Aside0.mk hT; have HG1 := Aside0.mk hg; clear hB hs hn hT hg)
  go_upto_region 3 with (go_at_call 11; refine (new _ lim).mono ?_; rintro e W2 ⟨p, rfl, hB, hn, hs⟩; obtain ⟨g', hp, hg, hT⟩ := hs HE.out; subst hp; rw [HE.out]; have HB2 := Aside0.mk hB; have HT2 := Aside0.mk hT; have HG2 := Aside0.mk hg; clear hB hs hn hT hg)
  go_upto_region 7 with (go_at_call 12; refine (works _).mono ?_; rintro e W3 ⟨rfl, hB⟩; have HB3 := Aside0.mk hB; clear hB)
  have hB13 := below_new HB2.out HB3.out
  have hB03 := below_new HB1.out hB13
  have hBw3 := below_new HB0.out hB03
  have hT3 : TL W3 g lim (fr lim (⟨#[]⟩ : ByteArray).size : Nat) (kD lim ⟨#[]⟩) := by rw [HKN.out.1, HKN.out.2]; exact HT1.out.below hB13
  have hT3' : TL W3 g' lim (fr lim (⟨#[]⟩ : ByteArray).size : Nat) (kD lim ⟨#[]⟩) := by rw [HKN.out.1, HKN.out.2]; exact HT2.out.below HB3.out
  have hgw : w.heap.size ≤ g := Nat.le_trans HB0.out.size HG1.out
  have hgw' : w.heap.size ≤ g' := Nat.le_trans (Nat.le_trans HB0.out.size HB1.out.size) HG2.out
  have hne : g' ≠ g := by have h1 := HT1.out.lt; have h2 := HG2.out; omega
  have hq3 := (hB03.block _ (blk_lt HQ0.out)).trans HQ0.out
  have HT3 := Aside0.mk hT3
  have HT3' := Aside0.mk hT3'
  have HQ3 := Aside0.mk hq3
  have HRA3 := Aside0.mk (HRA.out.below hBw3)
  have HRB3 := Aside0.mk (HRB.out.below hBw3)
  have HFA := Aside0.mk (far_int HRA.out hgw)
  have HFB := Aside0.mk (far_int HRB.out hgw)
  have HFB' := Aside0.mk (far_int HRB.out hgw')
  have HBW3 := Aside0.mk hBw3
  have HNE := Aside0.mk hne
  have HGW := Aside0.mk (And.intro hgw hgw')
  have x0 : W3.cell? ⟨w.heap.size, 0, none⟩ = some (.slice A xs.length c) := (blk_cell hq3 0).trans rfl
  have x1 : W3.cell? ⟨w.heap.size, 1, none⟩ = some (.slice B ys.length e) := (blk_cell hq3 1).trans rfl
  clear hB13 hB03 hBw3 hT3 hT3' hgw hgw' hne hq3 HB0 HB1 HB2 HB3 HT1 HT2 HG1 HG2 HQ0 HE
  go_upto_region 9 with (first
    | (go_at_call_of 15 (Value.pointer (some ⟨g, 0, none⟩)); refine (laid _ g lim ⟨#[]⟩ text (by first | exact HT3.out | exact HT3.out.drewN _) l0 l1 (by have hz : (⟨#[]⟩ : ByteArray).size = 0 := rfl; omega) A c xs (by first | exact HRA3.out | exact HRA3.out.drewN _) hca HFA.out).mono ?_; rintro e4 W4 ⟨rfl, hK, hB, hT⟩; have HK4 := Aside0.mk (show KeepBut W3 W4 g none from hK); have HB4 := Aside0.mk (show Below g W3 W4 by first | exact hB | exact below_gg (pw_below_drewN (Below.refl _ _) _) hB); have HT4 := Aside0.mk hT; have hq4 : W4.heap[w.heap.size]? = some (.cells #[.slice A xs.length c, .slice B ys.length e] 35 (0, 0)) := hK.blk (by exact HQ3.out) (Ne.symm (HT3.out.ne HQ3.out (by decide))) (by simp); have HQ4 := Aside0.mk hq4; have x1 : W4.cell? ⟨w.heap.size, 1, none⟩ = some (.slice B ys.length e) := (blk_cell hq4 1).trans rfl; have HRB4 := Aside0.mk (ReadsInt.keep HRB3.out HK4.out HFB.out); have HT4' := Aside0.mk (HT3'.out.keep2 HT3.out HK4.out HNE.out); clear hK hB hT hq4)
    | (go_at_call_of 15 (Value.pointer (some ⟨g', 0, none⟩)); refine (laid _ g' lim ⟨#[]⟩ text (by first | exact HT4'.out | exact HT4'.out.drewN _) l0 l1 (by have hz : (⟨#[]⟩ : ByteArray).size = 0 := rfl; omega) B e ys (by first | exact HRB4.out | exact HRB4.out.drewN _) hcb HFB'.out).mono ?_; rintro e5 W5 ⟨rfl, hK, hB, hT⟩; have HK5 := Aside0.mk (show KeepBut W4 W5 g' none from hK); have HB5 := Aside0.mk (show Below g' W4 W5 by first | exact hB | exact below_gg (pw_below_drewN (Below.refl _ _) _) hB); have HT5' := Aside0.mk hT; have HT5 := Aside0.mk (HT4.out.keep2 HT4'.out HK5.out (Ne.symm HNE.out)); clear hK hB hT))
  have hBw5 : Below w.heap.size w W5 := below_more (below_more HBW3.out HGW.out.1 HB4.out) HGW.out.2 HB5.out
  have hT5 := HT5.out
  have hT5' := HT5'.out
  rw [show (⟨#[]⟩ : ByteArray) ++ text = text from ByteArray.empty_append] at hT5 hT5'
  have hfr : ((fr lim text.size : Nat) : Int) = if lim < text.size then (text.size : Int) - lim else 0 := by
    show ((((text.size : Int) - lim).toNat : Nat) : Int) = _
    split <;> omega
  have hcut : ∀ W : World, (Instr.slice 9 (.string text) (some (.int .i64 ((fr lim text.size : Nat) : Int))) none none).run Try.prog W = .ok (.string (kD lim text)) W := fun W => run_slice_string_l W 9 text Try.underlying9 .i64 _ (by omega) (by rw [hfr]; split <;> omega)
  have hsz : ((fr lim text.size : Nat) : Int) + (kD lim text).size = text.size := by rw [kD_size lim text l0, hfr]; have : (fr lim text.size : Int) = if lim < text.size then (text.size : Int) - lim else 0 := hfr; split at this <;> omega
  have hG := good_kept lim text l0 l1 ht
  generalize kD lim text = K at hT5 hT5' hcut hsz hG
  have HBW5 := Aside0.mk hBw5
  have HT5 := Aside0.mk hT5
  have HT5' := Aside0.mk hT5'
  have HG := Aside0.mk hG
  clear hBw5 hT5 hT5' hG HT4 HT4' HK4 HK5 HB4 HB5 HQ4 HQ3 HT3 HT3' HRA3 HRB3 HRB4 HFA HFB HFB' x0 x1
  by_cases hc : lim < text.size
  · rw [if_pos hc] at hfr
    rw [hfr] at hcut hsz
    have g1 : decide (lim < (text.size : Int)) = true := decide_eq_true hc
    have HF := Aside0.mk hfr
    clear hfr
    go_upto_region 12 with (fail)
    have hA1 : ∀ n : Nat, Calls Try.prog 16 #[.pointer (some ⟨g, 0, none⟩)] (W5.drewN n) fun e w' => e = .returned (.string K) ∧ ∃ m, w' = (W5.drewN n).drewN m := fun n => quietly (all' _ g lim _ K (HT5.out.drewN n))
    have hA2 : ∀ n : Nat, Calls Try.prog 16 #[.pointer (some ⟨g', 0, none⟩)] (W5.drewN n) fun e w' => e = .returned (.string K) ∧ ∃ m, w' = (W5.drewN n).drewN m := fun n => quietly (all' _ g' lim _ K (HT5'.out.drewN n))
    have hS1 : ∀ n : Nat, Calls Try.prog 17 #[.pointer (some ⟨g, 0, none⟩)] (W5.drewN n) fun e w' => e = .returned (.int .i64 ((text.size : Int) - lim)) ∧ ∃ m, w' = (W5.drewN n).drewN m := fun n => by have h := quietly (start _ g lim _ K (HT5.out.drewN n)); rw [HF.out] at h; exact h
    have hS2 : ∀ n : Nat, Calls Try.prog 17 #[.pointer (some ⟨g', 0, none⟩)] (W5.drewN n) fun e w' => e = .returned (.int .i64 ((text.size : Int) - lim)) ∧ ∃ m, w' = (W5.drewN n).drewN m := fun n => by have h := quietly (start _ g' lim _ K (HT5'.out.drewN n)); rw [HF.out] at h; exact h
    have hE1 : ∀ n : Nat, Calls Try.prog 18 #[.pointer (some ⟨g, 0, none⟩)] (W5.drewN n) fun e w' => e = .returned (.int .i64 (text.size : Int)) ∧ ∃ m, w' = (W5.drewN n).drewN m := fun n => by have h := quietly (end_ _ g lim _ K (HT5.out.drewN n) HG.out.s0 HG.out.se); rw [HF.out, hsz] at h; exact h
    have hE2 : ∀ n : Nat, Calls Try.prog 18 #[.pointer (some ⟨g', 0, none⟩)] (W5.drewN n) fun e w' => e = .returned (.int .i64 (text.size : Int)) ∧ ∃ m, w' = (W5.drewN n).drewN m := fun n => by have h := quietly (end_ _ g' lim _ K (HT5'.out.drewN n) HG.out.s0 HG.out.se); rw [HF.out, hsz] at h; exact h
    have hk : decide (K = K) = true := decide_eq_true rfl
    have hf : decide (((text.size : Int) - lim) = ((text.size : Int) - lim)) = true := decide_eq_true rfl
    have he : decide ((text.size : Int) = (text.size : Int)) = true := decide_eq_true rfl
    have HA1 := Aside0.mk hA1
    have HA2 := Aside0.mk hA2
    have HS1 := Aside0.mk hS1
    have HS2 := Aside0.mk hS2
    have HE1 := Aside0.mk hE1
    have HE2 := Aside0.mk hE2
    clear hA1 hA2 hS1 hS2 hE1 hE2 hsz
    go_quiet ((first
      | (go_at_call_of 16 (Value.pointer (some ⟨g, 0, none⟩)); first | exact Calls.quiet_of (HA1.out _) | exact quiet_add (HA1.out _))
      | (go_at_call_of 16 (Value.pointer (some ⟨g', 0, none⟩)); first | exact Calls.quiet_of (HA2.out _) | exact quiet_add (HA2.out _))
      | (go_at_call_of 17 (Value.pointer (some ⟨g, 0, none⟩)); first | exact Calls.quiet_of (HS1.out _) | exact quiet_add (HS1.out _))
      | (go_at_call_of 17 (Value.pointer (some ⟨g', 0, none⟩)); first | exact Calls.quiet_of (HS2.out _) | exact quiet_add (HS2.out _))
      | (go_at_call_of 18 (Value.pointer (some ⟨g, 0, none⟩)); first | exact Calls.quiet_of (HE1.out _) | exact quiet_add (HE1.out _))
      | (go_at_call_of 18 (Value.pointer (some ⟨g', 0, none⟩)); first | exact Calls.quiet_of (HE2.out _) | exact quiet_add (HE2.out _))))
    go_wp2
    go_ret
    exact ⟨rfl, pw_below_drewN HBW5.out _⟩
  · rw [if_neg hc] at hfr
    rw [hfr] at hcut hsz
    have g1 : decide (lim < (text.size : Int)) = false := decide_eq_false hc
    have HF := Aside0.mk hfr
    clear hfr
    go_upto_region 12 with (fail)
    have hA1 : ∀ n : Nat, Calls Try.prog 16 #[.pointer (some ⟨g, 0, none⟩)] (W5.drewN n) fun e w' => e = .returned (.string K) ∧ ∃ m, w' = (W5.drewN n).drewN m := fun n => quietly (all' _ g lim _ K (HT5.out.drewN n))
    have hA2 : ∀ n : Nat, Calls Try.prog 16 #[.pointer (some ⟨g', 0, none⟩)] (W5.drewN n) fun e w' => e = .returned (.string K) ∧ ∃ m, w' = (W5.drewN n).drewN m := fun n => quietly (all' _ g' lim _ K (HT5'.out.drewN n))
    have hS1 : ∀ n : Nat, Calls Try.prog 17 #[.pointer (some ⟨g, 0, none⟩)] (W5.drewN n) fun e w' => e = .returned (.int .i64 (0 : Int)) ∧ ∃ m, w' = (W5.drewN n).drewN m := fun n => by have h := quietly (start _ g lim _ K (HT5.out.drewN n)); rw [HF.out] at h; exact h
    have hS2 : ∀ n : Nat, Calls Try.prog 17 #[.pointer (some ⟨g', 0, none⟩)] (W5.drewN n) fun e w' => e = .returned (.int .i64 (0 : Int)) ∧ ∃ m, w' = (W5.drewN n).drewN m := fun n => by have h := quietly (start _ g' lim _ K (HT5'.out.drewN n)); rw [HF.out] at h; exact h
    have hE1 : ∀ n : Nat, Calls Try.prog 18 #[.pointer (some ⟨g, 0, none⟩)] (W5.drewN n) fun e w' => e = .returned (.int .i64 (text.size : Int)) ∧ ∃ m, w' = (W5.drewN n).drewN m := fun n => by have h := quietly (end_ _ g lim _ K (HT5.out.drewN n) HG.out.s0 HG.out.se); rw [HF.out, hsz] at h; exact h
    have hE2 : ∀ n : Nat, Calls Try.prog 18 #[.pointer (some ⟨g', 0, none⟩)] (W5.drewN n) fun e w' => e = .returned (.int .i64 (text.size : Int)) ∧ ∃ m, w' = (W5.drewN n).drewN m := fun n => by have h := quietly (end_ _ g' lim _ K (HT5'.out.drewN n) HG.out.s0 HG.out.se); rw [HF.out, hsz] at h; exact h
    have hk : decide (K = K) = true := decide_eq_true rfl
    have hf : decide ((0 : Int) = (0 : Int)) = true := decide_eq_true rfl
    have he : decide ((text.size : Int) = (text.size : Int)) = true := decide_eq_true rfl
    have HA1 := Aside0.mk hA1
    have HA2 := Aside0.mk hA2
    have HS1 := Aside0.mk hS1
    have HS2 := Aside0.mk hS2
    have HE1 := Aside0.mk hE1
    have HE2 := Aside0.mk hE2
    clear hA1 hA2 hS1 hS2 hE1 hE2 hsz
    go_quiet ((first
      | (go_at_call_of 16 (Value.pointer (some ⟨g, 0, none⟩)); first | exact Calls.quiet_of (HA1.out _) | exact quiet_add (HA1.out _))
      | (go_at_call_of 16 (Value.pointer (some ⟨g', 0, none⟩)); first | exact Calls.quiet_of (HA2.out _) | exact quiet_add (HA2.out _))
      | (go_at_call_of 17 (Value.pointer (some ⟨g, 0, none⟩)); first | exact Calls.quiet_of (HS1.out _) | exact quiet_add (HS1.out _))
      | (go_at_call_of 17 (Value.pointer (some ⟨g', 0, none⟩)); first | exact Calls.quiet_of (HS2.out _) | exact quiet_add (HS2.out _))
      | (go_at_call_of 18 (Value.pointer (some ⟨g, 0, none⟩)); first | exact Calls.quiet_of (HE1.out _) | exact quiet_add (HE1.out _))
      | (go_at_call_of 18 (Value.pointer (some ⟨g', 0, none⟩)); first | exact Calls.quiet_of (HE2.out _) | exact quiet_add (HE2.out _))))
    go_wp2
    go_ret
    exact ⟨rfl, pw_below_drewN HBW5.out _⟩
end Go.Proofs.Ytggahoojpikecaa.TailLog
