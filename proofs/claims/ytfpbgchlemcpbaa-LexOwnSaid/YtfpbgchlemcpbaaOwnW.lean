/- The law LexOwn: its walk. No condition. -/
import Derived.Test.YtfpbgchlemcpbaaOwnC
namespace Go.Proofs.Ytfpbgchlemcpbaa.LexLaws
open Go.RowKit Go.Proofs.Ytfpbgchlemcpbaa.PL Go.Proofs.Ytfpbgchlemcpbaa.Mach Go.Proofs.YtfpbgchlemcpbaaW.PrintWords Go.Proofs.YtfpbgchlemcpbaaW.PrintLast Go.Proofs.YtfpbgchlemcpbaaW.PrintMore
attribute [local go_sem] max2_int min2_int max_two min_two max_three min_three max_four min_four
set_option linter.unusedVariables false

theorem pw_len {La Xs : List Value} {n t : Nat} (h1 : La.length = n) (h2 : Xs.length = t) (hn : n ≤ 16) (ht : t < 64) : ((La ++ Xs).length + 1) * 24 ≤ 140737488355328 := by
  rw [List.length_append, h1, h2]
  omega

set_option maxHeartbeats 8000000 in
set_option maxRecDepth 100000 in
theorem LexOwn_walk (s : ByteArray) (w : World) : Calls Try.prog 11 #[.string s] w fun e w' => e = .returned (.bool true) ∧ Below w.heap.size w w' := by
  obtain ⟨r, p1, p2, hcm⟩ : ∃ (r : List (List ByteArray)) (p1 p2 : Int), commandsF s = (r, p1, p2) := ⟨_, _, _, rfl⟩
  have A0 := Aside0.mk (show lex_Commands.f s = some (r, p1, p2) from congrArg some hcm)
  have A1 := Aside0.mk (show mullionref09_Commands.f s = some (r, p1, p2) from congrArg some hcm)
  obtain ⟨ks, hks⟩ := same_commands s r
  rw [hcm] at hks
  have hks' := hks ks (Nat.le_refl _)
  rw [decide_eq_true rfl] at hks'
  have AS := Aside0.mk hks'
  have hsh := commandsF_short s
  have hrw := commandsF_rows s
  rw [hcm] at hsh hrw
  have HSH := Aside0.mk hsh
  have HRW := Aside0.mk hrw
  clear hks hks' hcm hsh hrw
  go_enter Try.func11, Try.ntmps11
  go_upto_region 2 with (go_at_call 18; refine (mullionref09_Commands.calls s r p1 p2 _ A1.out).mono ?_; rintro e W1 ⟨vw, rfl, hs, hb⟩; have HW := Aside0.mk hs; have HB := Aside0.mk hb; clear hs hb)
  go_upto_region 3 with (go_at_call 14; refine (lex_Commands.calls s r p1 p2 _ A0.out).mono ?_; rintro e W2 ⟨va, rfl, hs, hb⟩; have HA := Aside0.mk hs; have HB2 := Aside0.mk hb; clear hs hb)
  go_upto_region 4 with (go_at_call 14; refine (lex_Commands.calls s r p1 p2 _ A0.out).mono ?_; rintro e W3 ⟨vb, rfl, hs, hb⟩; have HBB := Aside0.mk hs; have HB3 := Aside0.mk hb; clear hs hb)
  obtain ⟨Aw, cw, rfl, hcw, hCw⟩ := Kd.S_reads HW.out
  obtain ⟨Aa, ca, rfl, hca, hCa⟩ := Kd.S_reads HA.out
  obtain ⟨Ab, cb, rfl, hcb, hCb⟩ := Kd.S_reads HBB.out
  have HCW := Aside0.mk hCw
  have HCA := Aside0.mk (Kd.C_below hCa HB3.out)
  have HCB := Aside0.mk hCb
  have HCW3 := Aside0.mk (Kd.C_below (Kd.C_below hCw HB2.out) HB3.out)
  clear hCw hCa hCb
  go_upto_region 6 with (first
    | (go_at_call_of 16 (Value.slice Aa r.length ca); refine (mullionlaw09_same.calls ks Aa ca r Aw cw r true _ (by first | exact HCA.out | exact Kd.C_below HCA.out (pw_below_drewN (Below.refl _ _) _)) hca (by first | exact HCW3.out | exact Kd.C_below HCW3.out (pw_below_drewN (Below.refl _ _) _)) hcw AS.out).mono ?_; rintro e w9 ⟨rfl, ⟨nd, rfl⟩⟩)
    | (go_at_call_of 16 (Value.slice Ab r.length cb); refine (mullionlaw09_same.calls ks Ab cb r Aw cw r true _ (by first | exact HCB.out | exact Kd.C_below HCB.out (pw_below_drewN (Below.refl _ _) _)) hcb (by first | exact HCW3.out | exact Kd.C_below HCW3.out (pw_below_drewN (Below.refl _ _) _)) hcw AS.out).mono ?_; rintro e w9 ⟨rfl, ⟨nd', rfl⟩⟩))
  obtain ⟨La, Lb, hla, hlb, hra, hrb, hrows, hap, hab, hone⟩ := own_start HA.out HB2.out HBB.out HB3.out (nd + nd')
  have hB4 : Below W1.heap.size W1 (W3.drewN (nd + nd')) := pw_below_drewN (below_step HB2.out HB3.out) _
  generalize W3.drewN (nd + nd') = W4 at hra hrb hrows hB4 ⊢
  clear HA HBB HCA HCB HCW3 HB2 HB3 hca hcb
  have HRA := Aside0.mk hra
  have HRB := Aside0.mk hrb
  have HROWS := Aside0.mk hrows
  have HAP := Aside0.mk hap
  have HAB := Aside0.mk hab
  have HONE := Aside0.mk hone
  have HB4 := Aside0.mk hB4
  clear hra hrb hrows hap hab hone hB4
  go_upto_region 7 with (fail)
  have hmx : maxLen = 9223372036854775807 := rfl
  have h16 : r.length ≤ 16 := HSH.out.1
  have HL0 := Aside0.mk (raw_of_own (L := []) (World.ownsRow_made (base := W4.heap.size) (e := 30) (size := 1) W4 #[] 0 (Nat.le_refl _) (by omega) rfl) (by simp))
  have HA5 := Aside0.mk (HRA.out.alloc (.cells #[] 30))
  have HB5 := Aside0.mk (HRB.out.alloc (.cells #[] 30))
  obtain ⟨Aa', ca', ea, hsa⟩ := reads_raw HA5.out (fun u hu => HONE.out u (List.mem_append_left _ hu))
  injection ea with ea1 ea2 ea3
  subst ea1; subst ea3
  rw [hla] at hsa
  have HSA := Aside0.mk hsa
  have hW5 : Below W4.heap.size W4 (W4.alloc (.cells #[] 30)) := below_alloc (Below.refl _ _) _
  generalize W4.alloc (.cells #[] 30) = W5 at HL0 HA5 HB5 HSA hW5 ⊢
  have HBW5 := Aside0.mk hW5
  have h5 : W4.heap.size ≤ W5.heap.size := hW5.size
  clear hsa ea2 hW5
  go_upto_region 8 with ((with_reducible refine gate_builtin (b := .append) (xs := #[.tmp 56, .tmp 57]) rfl ?_); (try (refine gate_guard (by rfl) ?_; dsimp only)); at_builtin; refine Kd.R_append_rows (Kd.raw 1) (Rr := (Kd.raw 1).K W5) (w0 := W4) W4.heap.size rfl (.tmp 56) (.tmp 57) 25 30 (.slice none 0 0) 24 rfl Try.underlying25 PL.info30 rfl (by decide) (by decide) (.slice (some ⟨W4.heap.size, 0, none⟩) 0 0) [] (La.map fun u => [u]) Aa r.length ca (fun _ => True) (fun _ => False) rfl rfl HL0.out HSA.out (fun _ _ h => h) (fun _ h => h.elim) (fun _ _ => trivial) HBW5.out h5 (by simp; omega) ?_; intro v1 W6 hr1 hb1 hg1 hat1; have HL1 := Aside0.mk hr1; have HB6 := Aside0.mk hb1; clear hr1 hb1 hg1 hat1)
  have HB6r := Aside0.mk (pw_own_below HRB.out HB6.out)
  obtain ⟨Ab', cb', eb, hsb⟩ := reads_raw HB6r.out (fun u hu => HONE.out u (List.mem_append_right _ hu))
  injection eb with eb1 eb2 eb3
  subst eb1; subst eb3
  rw [hlb] at hsb
  have HSB := Aside0.mk hsb
  have h6 : W4.heap.size ≤ W6.heap.size := HB6.out.size
  clear hsb eb2
  go_upto_region 9 with ((with_reducible refine gate_builtin (b := .append) (xs := #[.tmp 59, .tmp 60]) rfl ?_); (try (refine gate_guard (by rfl) ?_; dsimp only)); at_builtin; refine Kd.R_append_rows (Kd.raw 1) (Rr := (Kd.raw 1).K W6) (w0 := W4) W4.heap.size rfl (.tmp 59) (.tmp 60) 25 30 (.slice none 0 0) 24 rfl Try.underlying25 PL.info30 rfl (by decide) (by decide) v1 ([] ++ La.map fun u => [u]) (Lb.map fun u => [u]) Ab r.length cb (fun _ => True) (fun _ => False) rfl rfl HL1.out HSB.out (fun _ _ h => h) (fun _ h => h.elim) (fun _ _ => trivial) HB6.out h6 (by simp; omega) ?_; intro vl W7 hr1 hb1 hg1 hat1; have HL2 := Aside0.mk hr1; have HB7 := Aside0.mk hb1; clear hr1 hb1 hg1 hat1)
  have hl2 := HL2.out
  rw [List.nil_append, ← List.map_append] at hl2
  have hrl := own_weaken (own_of_raw hl2) HB4.out.size
  have how : OW W1 (.slice Aa r.length ca) (.slice Ab r.length cb) vl La Lb (La ++ Lb) (fun j => ((r ++ r).getD j []).map Value.string) W7 :=
    ⟨below_step HB4.out HB7.out, pw_own_below HRA.out HB7.out, pw_own_below HRB.out HB7.out, hrl, HROWS.out.below HB7.out⟩
  have hll : (La ++ Lb).length = r.length + r.length := by rw [List.length_append, hla, hlb]
  have hst : ∀ N : ByteArray, St1 W1 (.slice Aa r.length ca) (.slice Ab r.length cb) vl La Lb (La ++ Lb) N (ln r) 0 0 W7 := fun N => ⟨_, how, fun j => by simp [ln], fun j hj => absurd hj (Nat.not_lt_zero _), rfl⟩
  have hn1 : ∀ j, j < r.length + r.length → 0 < ln r j ∧ ln r j ≤ 64 := fun j hj => by
    have hm : (r ++ r).getD j [] ∈ r := by
      rw [List.getD_eq_getElem?_getD, List.getElem?_eq_getElem (by rw [List.length_append]; exact hj)]
      have := List.getElem_mem (l := r ++ r) (n := j) (by rw [List.length_append]; exact hj)
      rcases List.mem_append.1 this with h | h <;> exact h
    refine ⟨?_, HRW.out _ hm⟩
    have := HSH.out.2.1 _ hm
    exact List.length_pos_iff.2 this
  generalize La ++ Lb = L at HAP HONE hll hst hrl
  obtain ⟨Al, cl, rfl⟩ := own_slice hrl
  have HST := Aside0.mk hst
  have HN1 := Aside0.mk hn1
  have HLL := Aside0.mk hll
  clear hst hn1 hll hl2 hrl how HL2 HB7 HL1 HB6 HB6r HSB HSA HA5 HB5 HL0 HBW5 HROWS HRA HRB h5 h6
  go_upto_region 10 with (fail)
  generalize hN : (⟨#[97, 98, 99, 100, 101, 102, 103, 104, 105, 106, 107, 108, 109, 110, 111, 112, 113, 114, 115, 116, 117, 118, 119, 120, 121, 122, 65, 66, 67, 68, 69, 70, 71, 72, 73, 74, 75, 76, 77, 78, 79, 80, 81, 82, 83, 84, 85, 86, 87, 88, 89, 90]⟩ : ByteArray) = N
  have hN52 : N.size = 52 := by rw [← hN]; rfl
  clear hN
  have hst := HST.out N
  clear HST
  have HST := Aside0.mk hst
  clear hst
  go_upto_region 12 with (fail)
  clear hcw
  go_loopg [15] L.length (fun kq v15 wr => ∃ i : Nat, v15 = .int .i64 (i : Int) ∧ Aside0 (kq = L.length - i ∧ i ≤ L.length) ∧ Aside0 (St1 W1 (.slice Aa r.length ca) (.slice Ab r.length cb) (.slice Al L.length cl) La Lb L N (ln r) i 0 wr))
  case atStart => exact ⟨0, rfl, ⟨rfl, Nat.zero_le _⟩, HST⟩
  case round =>
    obtain ⟨i, rfl, HI, HST⟩ := hrel
    obtain ⟨hk, hi⟩ := HI.out
    have hi52 : i ≤ 32 := by have := HLL.out; omega
    by_cases h1 : i < L.length
    · have g1 : decide ((i : Int) < (L.length : Int)) = true := decide_eq_true (by omega)
      have g1n : decide (i < L.length) = true := decide_eq_true h1
      obtain ⟨hn0, hn64⟩ := HN1.out i (by have := HLL.out; omega)
      obtain ⟨u, hu⟩ : ∃ u, L[i]? = some u := ⟨_, List.getElem?_eq_getElem h1⟩
      obtain ⟨gl, cl', gi, ci, e1, rfl, _, _, _⟩ := HST.out.head hn0 hu
      injection e1 with e1 e2 e3
      subst e1; subst e3
      have HU := Aside0.mk hu
      clear hu e2
      go_upto_region 15 with (fail)
      go_loopg [16] (ln r i) (fun kq v16 wr => ∃ k : Nat, v16 = .int .i64 (k : Int) ∧ Aside0 (kq = ln r i - k ∧ k ≤ ln r i) ∧ Aside0 (St1 W1 (.slice Aa r.length ca) (.slice Ab r.length cb) (.slice (some ⟨gl, 0, none⟩) L.length cl) La Lb L N (ln r) i k wr))
      case atStart => exact ⟨0, rfl, ⟨rfl, Nat.zero_le _⟩, HST⟩
      case round =>
        obtain ⟨k, rfl, HK, HST⟩ := hrel
        obtain ⟨hkk, hkn⟩ := HK.out
        obtain ⟨gl', cl', gi', ci', e1, e2, c1, c2, c3⟩ := HST.out.head hn0 HU.out
        injection e1 with e1 e1n e1c; clear e1n
        injection e1 with e1
        injection e1 with e1
        subst e1; subst e1c
        injection e2 with e2 _ e3
        injection e2 with e2
        injection e2 with e2
        subst e2; subst e3
        have i0 : (0 : Int) ≤ (i : Int) := by omega
        have i1 : (i : Int) < (L.length : Int) := by omega
        by_cases h2 : k < ln r i
        · have g2 : decide ((k : Int) < (ln r i : Int)) = true := decide_eq_true (by omega)
          have g2n : decide (k < ln r i) = true := decide_eq_true h2
          have k0 : (0 : Int) ≤ (k : Int) := by omega
          have k1 : (k : Int) < (ln r i : Int) := by omega
          obtain ⟨y, hy⟩ := c2 k h2
          have hfr := c3 k
          have hcut : ∀ W : World, (Instr.slice 9 (.string N) (some (.int .i64 (i : Int))) (some (.int .i64 ((i : Int) + 1))) none).run Try.prog W = .ok (.string (N.extract i (i + 1))) W := fun W => by
            have h := run_slice_string W 9 N .i64 .i64 (i : Int) ((i : Int) + 1) Try.underlying9 (by omega) (by omega) (by omega)
            rw [Int.toNat_natCast, show ((i : Int) + 1).toNat = i + 1 by omega] at h
            exact h
          clear c2 c3
          go_upto_region 17 with (fail)
          have w1 : IntKind.i64.wrap ((i : Int) + 1) = (i : Int) + 1 := IntWalk.i64_in _ (by omega)
          go_still_tail 11, (by kernel_rfl)
          change wpList _ _ _ _ _ wr.drew
          have hst := HST.out.drew
          have hy' : wr.drew.cell? ⟨gi, k, none⟩ = some y := hy
          have hfr' : wr.drew.frozen? ⟨gi, k, none⟩ = false := hfr
          clear HST hy hfr c1
          generalize wr.drew = W8 at hst hy' hfr' ⊢
          have hst2 : St1 W1 (.slice Aa r.length ca) (.slice Ab r.length cb) (.slice (some ⟨gl, 0, none⟩) L.length cl) La Lb L N (ln r) i (k + 1) (W8.setCell ⟨gi, k, none⟩ (.string (N.extract i (i + 1)))) := hst.store HAP.out HU.out h2
          have HST2 := Aside0.mk hst2
          clear hst2
          clear hst
          go_upto_region 16 with (fail)
          go_wp2
          go_roundg (ln r i - (k + 1))
          case measure => omega
          case rel => exact ⟨k + 1, by first | rfl | (congr 1; omega), ⟨rfl, by omega⟩, HST2⟩
        · have g2 : decide ((k : Int) < (ln r i : Int)) = false := decide_eq_false (by omega)
          have g2n : decide (k < ln r i) = false := decide_eq_false h2
          have hke : k = ln r i := by omega
          subst hke
          have hst := HST.out.next
          clear HST c2 c3
          have HST := Aside0.mk hst
          clear hst
          go_wp2
          go_roundg (L.length - (i + 1))
          case measure => omega
          case rel => exact ⟨i + 1, by first | rfl | (congr 1; omega), ⟨rfl, by omega⟩, HST⟩
    · have g1 : decide ((i : Int) < (L.length : Int)) = false := decide_eq_false (by omega)
      have g1n : decide (i < L.length) = false := decide_eq_false h1
      have hie : i = L.length := by omega
      subst hie
      have hgw := GW.start HST.out
      generalize hh5 : wr.heap.size = h5 at hgw
      clear hh5 HST HI hk hi hi52 h1 g1 g1n
      have HGW := Aside0.mk hgw
      clear hgw
      go_upto_region 19 with (fail)
      go_loopg [14, 17] L.length (fun kq v14 v17 wr => ∃ (i : Nat) (GR : List Value), v17 = .int .i64 (i : Int) ∧ Aside0 (kq = L.length - i ∧ i ≤ L.length) ∧ Aside0 (GW W1 (.slice Aa r.length ca) (.slice Ab r.length cb) (.slice Al L.length cl) La Lb L N (ln r) h5 i GR v14 wr))
      case atStart => exact ⟨0, [], rfl, ⟨rfl, Nat.zero_le _⟩, HGW⟩
      case round =>
        obtain ⟨i, GR, rfl, HI, HGW⟩ := hrel
        obtain ⟨hk, hi⟩ := HI.out
        have hi52 : i ≤ 32 := by have := HLL.out; omega
        by_cases h1 : i < L.length
        · have g1 : decide ((i : Int) < (L.length : Int)) = true := decide_eq_true (by omega)
          have g1n : decide (i < L.length) = true := decide_eq_true h1
          obtain ⟨hn0, hn64⟩ := HN1.out i (by have := HLL.out; omega)
          obtain ⟨u, hu⟩ : ∃ u, L[i]? = some u := ⟨_, List.getElem?_eq_getElem h1⟩
          obtain ⟨gl, cl', e1, c1⟩ := own_cell' HGW.out.ow.rl hu
          injection e1 with e1 e2 e3
          subst e1; subst e3
          have HV := Aside0.mk (VW.start HGW.out HAP.out hu)
          have i0 : (0 : Int) ≤ (i : Int) := by omega
          have i1 : (i : Int) < (L.length : Int) := by omega
          clear hu e2 HGW
          go_upto_region 23 with (fail)
          go_loopg [18, 19] 64 (fun kq v18 v19 wr => ∃ t : Nat, v19 = .int .i64 (t : Int) ∧ Aside0 (kq = 64 - t ∧ t ≤ 64) ∧ Aside0 (VW W1 (.slice Aa r.length ca) (.slice Ab r.length cb) (.slice (some ⟨gl, 0, none⟩) L.length cl) La Lb L N (ln r) h5 i GR u14 v18 t wr))
          case atStart => exact ⟨0, rfl, ⟨rfl, Nat.zero_le _⟩, HV⟩
          case round =>
            obtain ⟨t, rfl, HT, HV⟩ := hrel
            obtain ⟨htk, ht⟩ := HT.out
            by_cases h2 : t < 64
            · have g2 : decide ((t : Int) < 64) = true := decide_eq_true (by omega)
              have g2n : decide (t < 64) = true := decide_eq_true h2
              have hcut : ∀ W : World, (Instr.slice 9 (.string N) (some (.int .i64 (i : Int))) (some (.int .i64 ((i : Int) + 1))) none).run Try.prog W = .ok (.string (N.extract i (i + 1))) W := fun W => by
                have h := run_slice_string W 9 N .i64 .i64 (i : Int) ((i : Int) + 1) Try.underlying9 (by omega) (by omega) (by omega)
                rw [Int.toNat_natCast, show ((i : Int) + 1).toNat = i + 1 by omega] at h
                exact h
              go_upto_region 24 with ((with_reducible refine gate_builtin (b := .append) (xs := #[.tmp 102, .tmp 108]) rfl ?_); (try (refine gate_guard (by rfl) ?_; dsimp only)); at_builtin; refine own_append W1.heap.size rfl (.tmp 102) (.tmp 108) 30 9 (.string ⟨#[]⟩) 16 rfl Try.underlying30 PL.info9 rfl (by decide) _ _ _ (.string (N.extract i (i + 1))) rfl rfl rfl HV.out.ot HV.out.gw.ow.b.size (by omega) ?_; intro v1 W9 ho hg ha; have HV9 := Aside0.mk (HV.out.step ho hg ha); clear ho hg ha)
              clear HV
              go_wp2
              go_roundg (64 - (t + 1))
              case measure => omega
              case rel => exact ⟨t + 1, by first | rfl | (congr 1; omega), ⟨rfl, by omega⟩, HV9⟩
            · have g2 : decide ((t : Int) < 64) = false := decide_eq_false (by omega)
              have g2n : decide (t < 64) = false := decide_eq_false h2
              have hte : t = 64 := by omega
              subst hte
              obtain ⟨At, ct, hvt⟩ := own_slice HV.out.ot
              subst hvt
              have hgl := HV.out.gw.len
              go_upto_region 20 with ((with_reducible refine gate_builtin (b := .append) (xs := #[.tmp 110, .tmp 112]) rfl ?_); (try (refine gate_guard (by rfl) ?_; dsimp only)); at_builtin; refine own_append h5 rfl (.tmp 110) (.tmp 112) 25 30 (.slice none 0 0) 24 rfl Try.underlying25 PL.info30 rfl (by decide) _ _ _ (.slice At (ln r i + 64) ct) rfl rfl rfl HV.out.gw.og HV.out.gw.hh.2 (by omega) ?_; intro v1 W9 ho hg ha; have HGW := Aside0.mk (HV.out.done ho hg); clear ho hg ha)
              clear HV
              go_wp2
              go_roundg (L.length - (i + 1))
              case measure => omega
              case rel => exact ⟨i + 1, _, by first | rfl | (congr 1; omega), ⟨rfl, by omega⟩, HGW⟩
        · have g1 : decide ((i : Int) < (L.length : Int)) = false := decide_eq_false (by omega)
          have g1n : decide (i < L.length) = false := decide_eq_false h1
          have hie : i = L.length := by omega
          subst hie
          have hgl := HGW.out.len
          obtain ⟨Ag, cg, hvg⟩ := own_slice HGW.out.og
          subst hvg
          rw [hgl] at HGW ⊢
          clear hk hi hi52 h1 g1 g1n HI hgl
          go_upto_region 28 with (fail)
          go_loopg [20] L.length (fun kq v20 wr => ∃ i : Nat, v20 = .int .i64 (i : Int) ∧ Aside0 (kq = L.length - i ∧ i ≤ L.length) ∧ Aside0 (GW W1 (.slice Aa r.length ca) (.slice Ab r.length cb) (.slice Al L.length cl) La Lb L N (ln r) h5 L.length GR (.slice Ag L.length cg) wr))
          case atStart => exact ⟨0, rfl, ⟨rfl, Nat.zero_le _⟩, HGW⟩
          case round =>
            obtain ⟨i, rfl, HI, HGW⟩ := hrel
            obtain ⟨hk, hi⟩ := HI.out
            have hi52 : i ≤ 32 := by have := HLL.out; omega
            by_cases h1 : i < L.length
            · have g1 : decide ((i : Int) < (L.length : Int)) = true := decide_eq_true (by omega)
              have g1n : decide (i < L.length) = true := decide_eq_true h1
              obtain ⟨hn0, hn64⟩ := HN1.out i (by have := HLL.out; omega)
              have hgl := HGW.out.len
              obtain ⟨u, hu⟩ : ∃ u, L[i]? = some u := ⟨_, List.getElem?_eq_getElem h1⟩
              obtain ⟨ug, hug⟩ : ∃ u, GR[i]? = some u := ⟨_, List.getElem?_eq_getElem (by omega)⟩
              obtain ⟨gl, cl', e1, _⟩ := own_cell' HGW.out.ow.rl hu
              injection e1 with e1 e2 e3
              subst e1; subst e3
              obtain ⟨gg, cg', e1, _⟩ := own_cell' HGW.out.og hug
              injection e1 with e1 e2' e3
              subst e1; subst e3
              have hr1 := HGW.out.ow.rows i u hu
              have hr2 := HGW.out.rg i ug hug
              simp only [List.length_replicate] at hr1 hr2
              obtain ⟨gu, cu, rfl, _⟩ := own_cell hr1 hn0
              obtain ⟨gw, cw', rfl, _⟩ := own_cell hr2 (by omega)
              have HU := Aside0.mk hu
              have HUG := Aside0.mk hug
              have i0 : (0 : Int) ≤ (i : Int) := by omega
              have i1 : (i : Int) < (L.length : Int) := by omega
              clear hu hug hr1 hr2 e2 e2' hgl
              go_upto_region 31 with (fail)
              go_loopg [21] (ln r i + 64) (fun kq v21 wr => ∃ k : Nat, v21 = .int .i64 (k : Int) ∧ Aside0 (kq = ln r i + 64 - k ∧ k ≤ ln r i + 64) ∧ Aside0 (GW W1 (.slice Aa r.length ca) (.slice Ab r.length cb) (.slice (some ⟨gl, 0, none⟩) L.length cl) La Lb L N (ln r) h5 L.length GR (.slice (some ⟨gg, 0, none⟩) L.length cg) wr))
              case atStart => exact ⟨0, rfl, ⟨rfl, Nat.zero_le _⟩, HGW⟩
              case round =>
                obtain ⟨k, rfl, HK, HGW⟩ := hrel
                obtain ⟨hkk, hkn⟩ := HK.out
                obtain ⟨gl', cl', e1, c1⟩ := own_cell' HGW.out.ow.rl HU.out
                injection e1 with e1 e1n e1c; clear e1n
                injection e1 with e1
                injection e1 with e1
                subst e1; subst e1c
                obtain ⟨gg', cg', e1, c2⟩ := own_cell' HGW.out.og HUG.out
                injection e1 with e1 e1n e1c; clear e1n
                injection e1 with e1
                injection e1 with e1
                subst e1; subst e1c
                have hr1 := HGW.out.ow.rows i _ HU.out
                have hr2 := HGW.out.rg i _ HUG.out
                simp only [List.length_replicate] at hr1 hr2
                obtain ⟨gu', cu', e1, c3⟩ := own_cell hr1 hn0
                injection e1 with e1 e1n e1c; clear e1n
                injection e1 with e1
                injection e1 with e1
                subst e1; subst e1c
                obtain ⟨gw', cw'', e1, c4⟩ := own_cell hr2 (by omega)
                injection e1 with e1 e1n e1c; clear e1n
                injection e1 with e1
                injection e1 with e1
                subst e1; subst e1c
                clear hr1 hr2
                by_cases h2 : k < ln r i + 64
                · have g2 : decide ((k : Int) < ((ln r i + 64 : Nat) : Int)) = true := decide_eq_true (by omega)
                  have g2' : decide ((k : Int) < (ln r i : Int) + 64) = true := decide_eq_true (by omega)
                  have g2n : decide (k < ln r i + 64) = true := decide_eq_true h2
                  have k0 : (0 : Int) ≤ (k : Int) := by omega
                  have k2 : (k : Int) < ((ln r i + 64 : Nat) : Int) := by omega
                  have k3 : (k : Int) < (ln r i : Int) + 64 := by omega
                  have d4 : wr.cell? ⟨gw, k, none⟩ = some (.string (N.extract i (i + 1))) := c4 k h2
                  have hcut : ∀ W : World, (Instr.slice 9 (.string N) (some (.int .i64 (i : Int))) (some (.int .i64 ((i : Int) + 1))) none).run Try.prog W = .ok (.string (N.extract i (i + 1))) W := fun W => by
                    have h := run_slice_string W 9 N .i64 .i64 (i : Int) ((i : Int) + 1) Try.underlying9 (by omega) (by omega) (by omega)
                    rw [Int.toNat_natCast, show ((i : Int) + 1).toNat = i + 1 by omega] at h
                    exact h
                  have w1 : IntKind.i64.wrap ((i : Int) + 1) = (i : Int) + 1 := IntWalk.i64_in _ (by omega)
                  have hE : decide (N.extract i (i + 1) = N.extract i (i + 1)) = true := decide_eq_true rfl
                  clear c4
                  by_cases h3 : k < ln r i
                  · have g3 : decide ((k : Int) < (ln r i : Int)) = true := decide_eq_true (by omega)
                    have g3n : decide (k < ln r i) = true := decide_eq_true h3
                    have k1 : (k : Int) < (ln r i : Int) := by omega
                    have d3 : wr.cell? ⟨gu, k, none⟩ = some (.string (N.extract i (i + 1))) := c3 k h3
                    clear c3
                    go_upto_region 33 with (fail)
                    go_quiet (fail)
                    go_wp2
                    go_roundg (ln r i + 64 - (k + 1))
                    case measure => omega
                    case rel => exact ⟨k + 1, by first | rfl | (congr 1; omega), ⟨rfl, by omega⟩, ⟨HGW.out.below (by first | exact Below.refl _ _ | exact pw_below_drewN (Below.refl _ _) _)⟩⟩
                  · have g3 : decide ((k : Int) < (ln r i : Int)) = false := decide_eq_false (by omega)
                    have g3n : decide (k < ln r i) = false := decide_eq_false h3
                    clear c3
                    go_upto_region 33 with (fail)
                    go_quiet (fail)
                    go_wp2
                    go_roundg (ln r i + 64 - (k + 1))
                    case measure => omega
                    case rel => exact ⟨k + 1, by first | rfl | (congr 1; omega), ⟨rfl, by omega⟩, ⟨HGW.out.below (by first | exact Below.refl _ _ | exact pw_below_drewN (Below.refl _ _) _)⟩⟩
                · have g2 : decide ((k : Int) < ((ln r i + 64 : Nat) : Int)) = false := decide_eq_false (by omega)
                  have g2' : decide ((k : Int) < (ln r i : Int) + 64) = false := decide_eq_false (by omega)
                  have g2n : decide (k < ln r i + 64) = false := decide_eq_false h2
                  clear c3 c4
                  go_wp2
                  go_roundg (L.length - (i + 1))
                  case measure => omega
                  case rel => exact ⟨i + 1, by first | rfl | (congr 1; omega), ⟨rfl, by omega⟩, HGW⟩
            · have g1 : decide ((i : Int) < (L.length : Int)) = false := decide_eq_false (by omega)
              have g1n : decide (i < L.length) = false := decide_eq_false h1
              go_upto_region 36 with (fail)
              have HPW := Aside0.mk (PW.start HGW.out HAB.out ⟨#[120]⟩ ⟨#[121]⟩)
              have hb1 := HGW.out.ow.b.size
              clear HGW HAB HI hk hi hi52 h1 g1 g1n HN1 HAP HONE
              go_loopg [6, 9, 22] 64 (fun kq v6 v9 v22 wr => ∃ (t : Nat) (Xs Ys : List Value), v22 = .int .i64 (t : Int) ∧ Aside0 (kq = 64 - t ∧ t ≤ 64) ∧ Aside0 (Xs.length = t ∧ Ys.length = t) ∧ Aside0 (PW W1 ⟨#[120]⟩ ⟨#[121]⟩ La Lb v6 v9 Xs Ys wr))
              case atStart => exact ⟨0, [], [], rfl, ⟨rfl, Nat.zero_le _⟩, ⟨rfl, rfl⟩, HPW⟩
              case round =>
                obtain ⟨t, Xs, Ys, rfl, HT, HXY, HPW⟩ := hrel
                obtain ⟨htk, ht⟩ := HT.out
                by_cases h2 : t < 64
                · have g2 : decide ((t : Int) < 64) = true := decide_eq_true (by omega)
                  have g2n : decide (t < 64) = true := decide_eq_true h2
                  have hla2 : ((La ++ Xs).length + 1) * 24 ≤ 140737488355328 := pw_len hla HXY.out.1 h16 h2
                  have hlb2 : ((Lb ++ Ys).length + 1) * 24 ≤ 140737488355328 := pw_len hlb HXY.out.2 h16 h2
                  go_upto_region 39 with ((with_reducible refine gate_builtin (b := .append) (xs := #[.tmp 170, .tmp 172]) rfl ?_); (try (refine gate_guard (by rfl) ?_; dsimp only)); at_builtin; refine own_append W1.heap.size rfl (.tmp 170) (.tmp 172) 25 30 (.slice none 0 0) 24 rfl Try.underlying25 PL.info30 rfl (by decide) _ _ _ (.slice (some ⟨wr.heap.size, 0, none⟩) 1 1) rfl (by rw [World.size_alloc]; rfl) rfl (HPW.out.below (below_alloc (Below.refl _ _) _)).ra (HPW.out.below (below_alloc (Below.refl _ _) _)).b.size hla2 ?_; intro v1 W9 ho hg ha; have HP1 := Aside0.mk (HPW.out.step ho hg ha); clear ho hg ha)
                  clear HPW
                  go_upto_region 37 with ((with_reducible refine gate_builtin (b := .append) (xs := #[.tmp 174, .tmp 176]) rfl ?_); (try (refine gate_guard (by rfl) ?_; dsimp only)); at_builtin; refine own_append W1.heap.size rfl (.tmp 174) (.tmp 176) 25 30 (.slice none 0 0) 24 rfl Try.underlying25 PL.info30 rfl (by decide) _ _ _ (.slice (some ⟨W9.heap.size, 0, none⟩) 1 1) rfl (by rw [World.size_alloc]; rfl) rfl (HP1.out.symm.below (below_alloc (Below.refl _ _) _)).ra (HP1.out.symm.below (below_alloc (Below.refl _ _) _)).b.size hlb2 ?_; intro v2 W10 ho hg ha; have HP2 := Aside0.mk (HP1.out.symm.step ho hg ha).symm; clear ho hg ha)
                  clear HP1
                  go_wp2
                  go_roundg (64 - (t + 1))
                  case measure => omega
                  case rel => exact ⟨t + 1, _, _, by first | rfl | (congr 1; omega), ⟨rfl, by omega⟩, ⟨by rw [List.length_append, HXY.out.1]; rfl, by rw [List.length_append, HXY.out.2]; rfl⟩, HP2⟩
                · have g2 : decide ((t : Int) < 64) = false := decide_eq_false (by omega)
                  have g2n : decide (t < 64) = false := decide_eq_false h2
                  have hte : t = 64 := by omega
                  subst hte
                  have e6 : (La ++ Xs).length = r.length + 64 := by rw [List.length_append, hla, HXY.out.1]
                  have e9 : (Lb ++ Ys).length = r.length + 64 := by rw [List.length_append, hlb, HXY.out.2]
                  have hlt : r.length < r.length + 64 := Nat.lt_add_of_pos_right (Nat.zero_lt_succ _)
                  obtain ⟨g6, c6, _, _, hv6, _, _⟩ := HPW.out.read (k := r.length) (Nat.le_of_eq hla) (e6.symm ▸ hlt)
                  obtain ⟨g9, c9, _, _, hv9, _, _⟩ := HPW.out.symm.read (k := r.length) (Nat.le_of_eq hlb) (e9.symm ▸ hlt)
                  rw [e6] at hv6
                  rw [e9] at hv9
                  subst hv6
                  subst hv9
                  clear hlt g2 g2n htk ht h2 HT
                  go_upto_region 41 with (fail)
                  go_loopg [23] 64 (fun kq v23 wr => ∃ k : Nat, v23 = .int .i64 (k : Int) ∧ Aside0 (kq = r.length + 64 - k ∧ r.length ≤ k ∧ k ≤ r.length + 64) ∧ Aside0 (PW W1 ⟨#[120]⟩ ⟨#[121]⟩ La Lb (.slice (some ⟨g6, 0, none⟩) (r.length + 64) c6) (.slice (some ⟨g9, 0, none⟩) (r.length + 64) c9) Xs Ys wr))
                  case atStart => exact ⟨r.length, rfl, ⟨by omega, Nat.le_refl _, by omega⟩, HPW⟩
                  case round =>
                    obtain ⟨k, rfl, HK, HPW⟩ := hrel
                    obtain ⟨hkk, hk1, hk2⟩ := HK.out
                    by_cases h3 : k < r.length + 64
                    · have g3 : decide ((k : Int) < ((r.length + 64 : Nat) : Int)) = true := decide_eq_true (by omega)
                      have g3' : decide ((k : Int) < (r.length : Int) + 64) = true := decide_eq_true (by omega)
                      have g3n : decide (k < r.length + 64) = true := decide_eq_true h3
                      have k0 : (0 : Int) ≤ (k : Int) := by omega
                      have k2 : (k : Int) < ((r.length + 64 : Nat) : Int) := by omega
                      have k3 : (k : Int) < (r.length : Int) + 64 := by omega
                      obtain ⟨g, c, gu, cu, e1, d1, d2⟩ := HPW.out.read (k := k) (by rw [hla]; exact hk1) (by rw [e6]; exact h3)
                      injection e1 with e1 e1n e1c; clear e1n e1c
                      injection e1 with e1
                      injection e1 with e1
                      subst e1
                      obtain ⟨g, c, gv, cv, e1, d3, d4⟩ := HPW.out.symm.read (k := k) (by rw [hlb]; exact hk1) (by rw [e9]; exact h3)
                      injection e1 with e1 e1n e1c; clear e1n e1c
                      injection e1 with e1
                      injection e1 with e1
                      subst e1
                      have hE : decide ((⟨#[120]⟩ : ByteArray) = ⟨#[120]⟩) = true := decide_eq_true rfl
                      have hE' : decide ((⟨#[121]⟩ : ByteArray) = ⟨#[121]⟩) = true := decide_eq_true rfl
                      go_upto_region 42 with (fail)
                      go_wp2
                      go_roundg (r.length + 64 - (k + 1))
                      case measure => omega
                      case rel => exact ⟨k + 1, by first | rfl | (congr 1; omega), ⟨rfl, by omega, by omega⟩, HPW⟩
                    · have g3 : decide ((k : Int) < ((r.length + 64 : Nat) : Int)) = false := decide_eq_false (by omega)
                      have g3' : decide ((k : Int) < (r.length : Int) + 64) = false := decide_eq_false (by omega)
                      have g3n : decide (k < r.length + 64) = false := decide_eq_false h3
                      have hB1 := Aside0.mk HPW.out.b
                      clear HPW hk1 hk2 hkk HK
                      go_upto_region 46 with (go_at_call 14; refine (lex_Commands.calls s r p1 p2 _ A0.out).mono ?_; rintro e Wc ⟨vc, rfl, hs, hb⟩; have HC := Aside0.mk hs; have HBc := Aside0.mk hb; clear hs hb)
                      obtain ⟨Ac, cc, rfl, hcc, hCc⟩ := Kd.S_reads HC.out
                      have HCC := Aside0.mk hCc
                      have hB2 := Aside0.mk (below_step hB1.out HBc.out)
                      have HCW4 := Aside0.mk (Kd.C_below HCW.out hB2.out)
                      have hB3 := Aside0.mk (below_step HB.out hB2.out)
                      obtain ⟨Aw', cw', ew, hcw, _⟩ := Kd.S_reads HW.out
                      injection ew with ew1 ew2 ew3
                      subst ew1
                      subst ew3
                      obtain ⟨ksu, hsu⟩ := sure_f
                      have HSU := Aside0.mk (hsu ksu (Nat.le_refl _))
                      clear hCc ew2 hsu
                      go_wp2_with (fail)
                      refine (mullionlaw09_same.calls ks Ac cc r Aw cw r true _ (by first | exact HCC.out | exact Kd.C_below HCC.out (pw_below_drewN (Below.refl _ _) _)) hcc (by first | exact HCW4.out | exact Kd.C_below HCW4.out (pw_below_drewN (Below.refl _ _) _)) hcw AS.out).mono ?_
                      rintro e w9 ⟨rfl, ⟨ne, rfl⟩⟩
                      go_wp2_with (fail)
                      refine (mullionlaw09_sure.calls ksu true _ HSU.out).mono ?_
                      rintro e w10 ⟨rfl, hb⟩
                      have HB9 := Aside0.mk (below_step (by repeat (first | (with_reducible first | exact hB3.out | apply below_alloc | apply pw_below_drewN | apply below_drew1) | exact hB3.out)) hb)
                      clear hb
                      go_wp2
                      go_ret
                      exact ⟨by first | rfl | (simp [*] <;> rfl), (by repeat (first | (with_reducible first | exact HB9.out | apply below_alloc | apply pw_below_drewN | apply below_drew1) | exact HB9.out))⟩
end Go.Proofs.Ytfpbgchlemcpbaa.LexLaws
