/- The Log of layer 6: what Lines answers. No condition. -/
import Derived.Test.YtggahoojpikecaaLastIx
namespace Go.Proofs.Ytggahoojpikecaa.TailLog
open Go.RowKit Go.Proofs.YtggahoojpikecaaW.PrintWords Go.Proofs.YtggahoojpikecaaW.PrintLast Go.Proofs.YtggahoojpikecaaW.PrintMore
set_option linter.unusedVariables false
set_option linter.unusedSimpArgs false

/-- The program's search: n times the last line end ahead of the place. -/
def lp (xs : List Int) : Nat → Int → Int
  | 0, a => a
  | n + 1, a => if 0 ≤ a then lp xs n (lastIdx xs 10 a.toNat) else a
/-- The reference's search. -/
def rf (xs : List Int) : Nat → Nat → Int
  | _, 0 => -1
  | n, k + 1 => if xs.getD k 0 = 10 then (if n ≤ 1 then (k : Int) else rf xs (n - 1) k) else rf xs n k
theorem lastIdx_range (xs : List Int) (b : Int) : ∀ k, -1 ≤ lastIdx xs b k ∧ lastIdx xs b k < k := by
  intro k
  induction k with
  | zero => simp [lastIdx]
  | succ k ih =>
    rw [lastIdx]
    split <;> omega
theorem lp_neg (xs : List Int) (n : Nat) (a : Int) (h : a < 0) : lp xs n a = a := by
  cases n with
  | zero => rfl
  | succ n => rw [lp, if_neg (by omega)]
theorem lp_rf (xs : List Int) : ∀ (k n : Nat), 1 ≤ n → lp xs n (k : Int) = rf xs n k := by
  intro k
  induction k with
  | zero =>
    intro n hn
    obtain ⟨m, rfl⟩ := Nat.exists_eq_succ_of_ne_zero (show n ≠ 0 by omega)
    rw [Nat.succ_eq_add_one, lp, if_pos (by omega), rf]
    exact lp_neg xs m (-1) (by decide)
  | succ k ih =>
    intro n hn
    obtain ⟨m, rfl⟩ := Nat.exists_eq_succ_of_ne_zero (show n ≠ 0 by omega)
    rw [Nat.succ_eq_add_one, lp, if_pos (by omega), rf, Int.toNat_natCast, lastIdx]
    by_cases h : xs.getD k 0 = 10
    · rw [if_pos h, if_pos h]
      by_cases h1 : m + 1 ≤ 1
      · obtain rfl : m = 0 := by omega
        rw [if_pos h1]
        rfl
      · rw [if_neg h1, show m + 1 - 1 = m by omega]
        exact ih m (by omega)
    · rw [if_neg h, if_neg h, ← ih (m + 1) (by omega), lp, if_pos (by omega), Int.toNat_natCast]
theorem lp_range (xs : List Int) : ∀ (n : Nat) (a : Int), -1 ≤ a → -1 ≤ lp xs n a ∧ (1 ≤ n → 0 ≤ a → lp xs n a < a) ∧ lp xs n a ≤ a := by
  intro n
  induction n with
  | zero => intro a h; exact ⟨h, fun h => absurd h (by omega), Int.le_refl _⟩
  | succ n ih =>
    intro a h
    rw [lp]
    by_cases h0 : 0 ≤ a
    · rw [if_pos h0]
      have h1 := lastIdx_range xs 10 a.toNat
      have h2 := ih _ h1.1
      refine ⟨h2.1, fun _ _ => ?_, ?_⟩
      · have := h2.2.2
        omega
      · have := h2.2.2
        omega
    · rw [if_neg h0]
      exact ⟨h, fun _ h => absurd h h0, Int.le_refl _⟩

theorem bytes_back (d : ByteArray) : Lib.bytesOf (bytesOf d) = d.data.toList := by
  unfold Lib.bytesOf bytesOf
  rw [List.map_map]
  have : ∀ l : List UInt8, l.map ((fun n : Int => UInt8.ofNat n.toNat) ∘ fun b : UInt8 => (b.toNat : Int)) = l := by
    intro l
    induction l with
    | nil => rfl
    | cons x l ih => simp [ih]
  exact this _
theorem getD_bytesOf (d : ByteArray) (k : Nat) (h : k < d.size) : (bytesOf d).getD k 0 = ((d[k]'h).toNat : Int) := by
  have h' : k < d.data.toList.length := by rw [data_length]; exact h
  unfold bytesOf
  rw [List.getD_eq_getElem?_getD, List.getElem?_map, List.getElem?_eq_getElem h']
  rfl
theorem suffix_one (l : List UInt8) (b : UInt8) : [b] <:+ l ↔ 0 < l.length ∧ l[l.length - 1]? = some b := by
  constructor
  · rintro ⟨t, rfl⟩
    simp
  · rintro ⟨h0, h⟩
    have hne : l ≠ [] := by intro e; simp [e] at h0
    refine ⟨l.dropLast, ?_⟩
    have e1 := List.dropLast_concat_getLast hne
    have e2 : l.getLast hne = b := by
      rw [List.getLast_eq_getElem]
      rw [List.getElem?_eq_getElem (by omega)] at h
      exact Option.some.inj h
    rw [e2] at e1
    exact e1
/-- Does the text end with a line end? -/
theorem suffix_end (d : ByteArray) : Lib.hasSuffix (Lib.bytesOf (bytesOf d)) (Lib.bytesOf [10]) = true ↔ 0 < d.size ∧ (bytesOf d).getD (d.size - 1) 0 = 10 := by
  rw [bytes_back]
  unfold Lib.hasSuffix
  rw [List.isSuffixOf_iff_suffix, show Lib.bytesOf [10] = [(10 : UInt8)] from rfl, suffix_one, data_length]
  constructor
  · rintro ⟨h0, h⟩
    refine ⟨h0, ?_⟩
    rw [getD_bytesOf d _ (by omega)]
    rw [List.getElem?_eq_getElem (by rw [data_length]; omega)] at h
    have h := Option.some.inj h
    have : d[d.size - 1]'(by omega) = 10 := h
    rw [this]
    rfl
  · rintro ⟨h0, h⟩
    refine ⟨h0, ?_⟩
    rw [getD_bytesOf d _ (by omega)] at h
    rw [List.getElem?_eq_getElem (by rw [data_length]; omega)]
    have e : d[d.size - 1]'(by omega) = 10 := by
      apply UInt8.toNat_inj.1
      have : ((10 : UInt8).toNat : Int) = 10 := rfl
      omega
    exact congrArg some e

/-- Where the program begins to look. -/
def at0 (d : ByteArray) : Nat := if Lib.hasSuffix (Lib.bytesOf (bytesOf d)) (Lib.bytesOf [10]) = true then d.size - 1 else d.size
theorem at0_rf (d : ByteArray) (n : Nat) (hn : 1 ≤ n) : lp (bytesOf d) n (at0 d) = rf (bytesOf d) n (d.size - 1) := by
  unfold at0
  by_cases h : Lib.hasSuffix (Lib.bytesOf (bytesOf d)) (Lib.bytesOf [10]) = true
  · rw [if_pos h]
    exact lp_rf _ _ n hn
  · rw [if_neg h, lp_rf _ _ n hn]
    rcases Nat.eq_zero_or_pos d.size with h0 | h0
    · rw [h0]
    · obtain ⟨k, hk⟩ := Nat.exists_eq_succ_of_ne_zero (show d.size ≠ 0 by omega)
      have h2 : ¬ (bytesOf d).getD (d.size - 1) 0 = 10 := fun e => h ((suffix_end d).2 ⟨h0, e⟩)
      rw [hk, show k.succ - 1 = k from rfl] at h2
      rw [hk, Nat.succ_eq_add_one, rf, if_neg h2]
      rfl

/-- Lines' answer. -/
def linesF (d : ByteArray) (n : Int) : ByteArray := if n < 1 then ⟨#[]⟩ else d.extract (rf (bytesOf d) n.toNat (d.size - 1) + 1).toNat d.size

theorem ReadsInt.bytesIn {w : World} {A : Option Addr} {n : Nat} {xs : List Int} (h : ReadsInt w .u8 A n xs) : Lib.BytesIn w A n xs := by
  intro hn
  obtain ⟨ad, rfl, hc⟩ := h.2.2 hn
  exact (Lib.BytesIn.of_cells hc) hn
theorem one_bytesIn (w : World) : Lib.BytesIn (w.alloc (.cells #[.int .u8 10] 5)) (some ⟨w.heap.size, 0, none⟩) 1 [10] := by
  intro _
  refine ⟨w.heap.size, 0, rfl, fun i hi => ?_⟩
  obtain rfl : i = 0 := by omega
  rw [blk_cell (heap_alloc_new w _)]
  rfl

theorem lastIdx_take (xs : List Int) (b : Int) (j : Nat) : ∀ k, k ≤ j → lastIdx (xs.take j) b k = lastIdx xs b k := by
  intro k
  induction k with
  | zero => intro _; rfl
  | succ k ih =>
    intro h
    rw [lastIdx, lastIdx, ih (by omega)]
    have e : (xs.take j).getD k 0 = xs.getD k 0 := by
      rw [List.getD_eq_getElem?_getD, List.getElem?_take, if_pos (by omega), ← List.getD_eq_getElem?_getD]
    rw [e]
/-- kept[:j] and the place of its last line end. -/
theorem look (W1 : World) (A : Option Addr) (c : Nat) (d : ByteArray) (hr : ReadsInt W1 .u8 A d.size (bytesOf d)) (hc : d.size ≤ c) (j : Nat) (hj : j ≤ d.size) :
    (∀ W : World, (Instr.slice 60 (.slice A d.size c) none (some (.int .i64 (j : Int))) none).run Try.prog W = .ok (.slice A j c) W) ∧
      ∀ m, Calls Try.prog 34 #[.slice A j c, .int .u8 10] (W1.drewN m) fun e w' => e = .returned (.int .i64 (lastIdx (bytesOf d) 10 j)) ∧ Drawn0 (W1.drewN m) w' := by
  obtain ⟨i, hi, hz⟩ := Option.map_eq_some_iff.1 info5
  simp only [Prod.mk.injEq] at hz
  have h1 := (print_take_int (P := Try.prog) (k := .u8) 60 5 Try.underlying60 hi hz.2.1 A c (bytesOf d) (j : Int) (by omega) (by rw [bytesOf_length]; omega) (by rw [bytesOf_length]; exact hc)).1
  rw [bytesOf_length, Int.toNat_natCast, List.length_take, bytesOf_length, Nat.min_eq_left hj] at h1
  refine ⟨h1, fun m => ?_⟩
  have h2 := lastIndexByte (W1.drewN m) A j c ((bytesOf d).take j) 10 ((hr.drewN m).take_ j hj) (by omega)
  rw [lastIdx_take _ _ _ _ (Nat.le_refl _)] at h2
  exact h2
/-- string(kept[a+1:]). -/
theorem tail_string (W1 : World) (A : Option Addr) (c : Nat) (d : ByteArray) (hr : ReadsInt W1 .u8 A d.size (bytesOf d)) (hc : d.size ≤ c) (a : Int) (h0 : -1 ≤ a) (ha : a < d.size) :
    ∃ A2 n2 c2, (∀ W : World, (Instr.slice 60 (.slice A d.size c) (some (.int .i64 (a + 1))) none none).run Try.prog W = .ok (.slice A2 n2 c2) W) ∧
      ∀ m, (convert 60 9 (.slice A2 n2 c2)).run Try.prog (W1.drewN m) = .ok (.string (d.extract (a + 1).toNat d.size)) (W1.drewN m) := by
  obtain ⟨i, hi, hz⟩ := Option.map_eq_some_iff.1 info5
  simp only [Prod.mk.injEq] at hz
  obtain ⟨b, hb⟩ : ∃ b : Nat, (b : Int) = a + 1 := ⟨(a + 1).toNat, by omega⟩
  obtain ⟨A2, h1, h2⟩ := print_cut (P := Try.prog) 60 5 .i64 Try.underlying60 hi hz.2.1 A d.size c b (by omega)
  refine ⟨A2, d.size - b, c - b, fun W => by rw [← hb]; exact h1 W, fun m => ?_⟩
  have h3 := string_of_reads (P := Try.prog) (src := 60) (dst := 9) (c := c - b) Try.underlying60 Try.underlying5 Try.underlying9 ((h2 W1 .u8 (bytesOf d) hc hr).drewN m)
  rw [h3, ← hb, Int.toNat_natCast, ← strOfNums_cut d b d.size (Nat.le_refl _), List.take_of_length_le (by rw [bytesOf_length]; exact Nat.le_refl _)]

set_option maxHeartbeats 4000000 in
set_option maxRecDepth 100000 in
theorem lines_walk (w : World) (g : Nat) (lim st : Int) (d : ByteArray) (h : TL w g lim st d) (hd : d.size ≤ 65536) (n : Nat) (hn : 1 ≤ n) (hn2 : n ≤ 9223372036854775807) :
    Calls Try.prog 22 #[.pointer (some ⟨g, 0, none⟩), .int .i64 n] w fun e w' => e = .returned (.string (d.extract (rf (bytesOf d) n (d.size - 1) + 1).toNat d.size)) ∧ Below w.heap.size w w' := by
  have hg := h.lt
  have HT := Aside0.mk h
  obtain ⟨A, c, c0, c1, c2, hc, hr⟩ := h.cells
  have b0 : decide ((n : Int) < 1) = false := decide_eq_false (by omega)
  clear h hr
  go_enter Try.func22, Try.ntmps22
  go_upto_region 4 with (fail)
  go_wp2_with (fail)
  obtain ⟨hB1, hS1⟩ : Below w.heap.size w (w.alloc (.cells #[.int .u8 10] 5)) ∧ (w.alloc (.cells #[.int .u8 10] 5)).heap.size = w.heap.size + 1 := ⟨below_alloc (Below.refl _ _) _, by simp⟩
  obtain ⟨A', c', hcell', hc', hr', _⟩ := (HT.out.below hB1)
  have hcA : (Value.slice A' d.size c') = .slice A d.size c := by
    have h1 := (blk_cell hcell' 2).trans rfl
    have h2 := (hB1.cell hg).trans c2
    exact Option.some.inj (h1.symm.trans h2)
  injection hcA with hA1 _ hA2
  subst hA1
  subst hA2
  have hsf := Try.bytes_HasSuffix_all A' (some ⟨w.heap.size, 0, none⟩) d.size c' 1 1 (bytesOf d) [10] (w.alloc (.cells #[.int .u8 10] 5)) (bytesOf_length d) rfl hc' (by omega) (ReadsInt.bytesIn hr') (one_bytesIn w)
  refine hsf.mono ?_
  rintro e w' ⟨rfl, rfl⟩
  clear hsf c0 c1 c2
  have HT1 := Aside0.mk (HT.out.below hB1)
  have HR1 := Aside0.mk hr'
  have HB1 := Aside0.mk hB1
  have hg1 : g < (w.alloc (.cells #[.int .u8 10] 5)).heap.size := by omega
  have c2 : (w.alloc (.cells #[.int .u8 10] 5)).cell? ⟨g, 2, none⟩ = some (.slice A' d.size c') := (blk_cell hcell' 2).trans rfl
  clear hr' hB1 hcell' hS1
  generalize w.alloc (.cells #[.int .u8 10] 5) = W1 at HT1 HR1 HB1 hg1 c2 ⊢
  have HR : Aside0 (lp (bytesOf d) n (at0 d) = rf (bytesOf d) n (d.size - 1)) := ⟨at0_rf d n hn⟩
  have HRR : Aside0 (-1 ≤ rf (bytesOf d) n (d.size - 1) ∧ rf (bytesOf d) n (d.size - 1) < d.size) := ⟨by
    rw [← HR.out]
    have h1 := lp_range (bytesOf d) n (at0 d) (by omega)
    have h2 : at0 d ≤ d.size := by unfold at0; split <;> omega
    have h3 := h1.2.1 hn (by omega)
    omega⟩
  generalize hRE : rf (bytesOf d) n (d.size - 1) = R at HR HRR
  have HRE := Aside0.mk hRE
  clear hRE
  rcases hS : Lib.hasSuffix (Lib.bytesOf (bytesOf d)) (Lib.bytesOf [10]) with _ | _
  · have HA0 : Aside0 (at0 d = d.size) := ⟨by unfold at0; rw [hS]; rfl⟩
    have HA1 : Aside0 (at0 d ≤ d.size) := ⟨by rw [HA0.out]; exact Nat.le_refl _⟩
    clear hS
    go_wp2
    go_loopg [1, 5] n (fun kq v1 v5 wr => ∃ (k m : Nat) (a : Int), v1 = .int .i64 (k : Int) ∧ v5 = .int .i64 a ∧ wr = W1.drewN m ∧ Aside0 (kq = k ∧ k ≤ n) ∧ Aside0 (-1 ≤ a ∧ a ≤ d.size) ∧ Aside0 (lp (bytesOf d) k a = R))
    case atStart => exact ⟨n, 0, (at0 d : Int), rfl, by rw [HA0.out], rfl, ⟨rfl, Nat.le_refl _⟩, ⟨by have := HA1.out; omega⟩, HR⟩
    case round =>
      obtain ⟨k, m, a, rfl, rfl, rfl, HK, HA, HL⟩ := hrel
      have hkq : gk = k := HK.out.1
      have hkn : k ≤ n := HK.out.2
      have hla := HA.out
      by_cases h1 : 0 < k
      · have g1 : decide ((0 : Int) < (k : Int)) = true := decide_eq_true (by omega)
        have g1n : decide (0 < k) = true := decide_eq_true h1
        by_cases h2 : 0 ≤ a
        · have g2 : decide ((0 : Int) ≤ a) = true := decide_eq_true h2
          obtain ⟨j, rfl⟩ := Int.eq_ofNat_of_zero_le h2
          obtain ⟨k, rfl⟩ := Nat.exists_eq_succ_of_ne_zero (show k ≠ 0 by omega)
          have hjd : (j : Int) ≤ (d.size : Int) := hla.2
          obtain ⟨hct, hli⟩ := look W1 A' c' d HR1.out hc' j (by omega)
          have HLI := Aside0.mk hli
          have hL2 := HL.out
          rw [Nat.succ_eq_add_one, lp, if_pos (by omega), Int.toNat_natCast] at hL2
          have HL2 := Aside0.mk hL2
          have hrg := lastIdx_range (bytesOf d) 10 j
          have HRG := Aside0.mk (⟨hrg, hjd⟩ : (-1 ≤ lastIdx (bytesOf d) 10 j ∧ lastIdx (bytesOf d) 10 j < j) ∧ (j : Int) ≤ d.size)
          clear hL2 hrg hli HL hla h1 h2 g1n
          generalize lastIdx (bytesOf d) 10 j = y at HLI HL2 HRG
          have hk9 : (k : Int) ≤ 9223372036854775806 := by omega
          have hkk : ((Nat.succ k : Nat) : Int) - 1 = (k : Int) := by omega
          go_wp2_with (go_at_call 34; refine (HLI.out _).mono ?_; rintro e w' ⟨rfl, ⟨m2, rfl⟩⟩)
          go_roundg k
          case measure => omega
          case rel => exact ⟨k, _, y, by first | rfl | (rw [hkk]) | (congr 1; omega), rfl, by first | rfl | (rw [World.drewN_drewN]), ⟨rfl, by omega⟩, ⟨by have := HRG.out; omega⟩, HL2⟩
        · have g2 : decide ((0 : Int) ≤ a) = false := decide_eq_false h2
          have hRa : a = R := by rw [← HL.out]; exact (lp_neg _ _ _ (by omega)).symm
          have hRR := HRR.out
          obtain ⟨A2, n2, c2', hct, hcv⟩ := tail_string W1 A' c' d HR1.out hc' a (by omega) (by omega)
          have hres : Aside0 (d.extract (rf (bytesOf d) n (d.size - 1) + 1).toNat d.size = d.extract (a + 1).toNat d.size) := ⟨by rw [hRa, HRE.out]⟩
          have hba : -1 ≤ a := by omega
          have hbb : a ≤ 65536 := by omega
          clear hRa hRR HK HA HL hla hkq hkn
          go_wp2
          go_ret
          rw [hres.out]
          exact ⟨rfl, (pw_below_drewN HB1.out _)⟩
      · have g1 : decide ((0 : Int) < (k : Int)) = false := decide_eq_false (by omega)
        obtain rfl : k = 0 := by omega
        have hRa : a = R := by rw [← HL.out]; rfl
        have hRR := HRR.out
        obtain ⟨A2, n2, c2', hct, hcv⟩ := tail_string W1 A' c' d HR1.out hc' a (by omega) (by omega)
        have hres : Aside0 (d.extract (rf (bytesOf d) n (d.size - 1) + 1).toNat d.size = d.extract (a + 1).toNat d.size) := ⟨by rw [hRa, HRE.out]⟩
        have hba : -1 ≤ a := by omega
        have hbb : a ≤ 65536 := by omega
        clear hRa hRR HK HA HL hla hkq hkn
        go_wp2
        go_ret
        rw [hres.out]
        exact ⟨rfl, (pw_below_drewN HB1.out _)⟩
  · have hd0 : 0 < d.size := ((suffix_end d).1 hS).1
    have HA0 : Aside0 (at0 d = d.size - 1) := ⟨by unfold at0; rw [hS]; rfl⟩
    have HA1 : Aside0 (at0 d ≤ d.size) := ⟨by rw [HA0.out]; omega⟩
    clear hS
    go_wp2
    go_loopg [1, 5] n (fun kq v1 v5 wr => ∃ (k m : Nat) (a : Int), v1 = .int .i64 (k : Int) ∧ v5 = .int .i64 a ∧ wr = W1.drewN m ∧ Aside0 (kq = k ∧ k ≤ n) ∧ Aside0 (-1 ≤ a ∧ a ≤ d.size) ∧ Aside0 (lp (bytesOf d) k a = R))
    case atStart => exact ⟨n, 0, (at0 d : Int), rfl, by rw [HA0.out]; congr 1; omega, rfl, ⟨rfl, Nat.le_refl _⟩, ⟨by have := HA1.out; omega⟩, HR⟩
    case round =>
      obtain ⟨k, m, a, rfl, rfl, rfl, HK, HA, HL⟩ := hrel
      have hkq : gk = k := HK.out.1
      have hkn : k ≤ n := HK.out.2
      have hla := HA.out
      by_cases h1 : 0 < k
      · have g1 : decide ((0 : Int) < (k : Int)) = true := decide_eq_true (by omega)
        have g1n : decide (0 < k) = true := decide_eq_true h1
        by_cases h2 : 0 ≤ a
        · have g2 : decide ((0 : Int) ≤ a) = true := decide_eq_true h2
          obtain ⟨j, rfl⟩ := Int.eq_ofNat_of_zero_le h2
          obtain ⟨k, rfl⟩ := Nat.exists_eq_succ_of_ne_zero (show k ≠ 0 by omega)
          have hjd : (j : Int) ≤ (d.size : Int) := hla.2
          obtain ⟨hct, hli⟩ := look W1 A' c' d HR1.out hc' j (by omega)
          have HLI := Aside0.mk hli
          have hL2 := HL.out
          rw [Nat.succ_eq_add_one, lp, if_pos (by omega), Int.toNat_natCast] at hL2
          have HL2 := Aside0.mk hL2
          have hrg := lastIdx_range (bytesOf d) 10 j
          have HRG := Aside0.mk (⟨hrg, hjd⟩ : (-1 ≤ lastIdx (bytesOf d) 10 j ∧ lastIdx (bytesOf d) 10 j < j) ∧ (j : Int) ≤ d.size)
          clear hL2 hrg hli HL hla h1 h2 g1n
          generalize lastIdx (bytesOf d) 10 j = y at HLI HL2 HRG
          have hk9 : (k : Int) ≤ 9223372036854775806 := by omega
          have hkk : ((Nat.succ k : Nat) : Int) - 1 = (k : Int) := by omega
          go_wp2_with (go_at_call 34; refine (HLI.out _).mono ?_; rintro e w' ⟨rfl, ⟨m2, rfl⟩⟩)
          go_roundg k
          case measure => omega
          case rel => exact ⟨k, _, y, by first | rfl | (rw [hkk]) | (congr 1; omega), rfl, by first | rfl | (rw [World.drewN_drewN]), ⟨rfl, by omega⟩, ⟨by have := HRG.out; omega⟩, HL2⟩
        · have g2 : decide ((0 : Int) ≤ a) = false := decide_eq_false h2
          have hRa : a = R := by rw [← HL.out]; exact (lp_neg _ _ _ (by omega)).symm
          have hRR := HRR.out
          obtain ⟨A2, n2, c2', hct, hcv⟩ := tail_string W1 A' c' d HR1.out hc' a (by omega) (by omega)
          have hres : Aside0 (d.extract (rf (bytesOf d) n (d.size - 1) + 1).toNat d.size = d.extract (a + 1).toNat d.size) := ⟨by rw [hRa, HRE.out]⟩
          have hba : -1 ≤ a := by omega
          have hbb : a ≤ 65536 := by omega
          clear hRa hRR HK HA HL hla hkq hkn
          go_wp2
          go_ret
          rw [hres.out]
          exact ⟨rfl, (pw_below_drewN HB1.out _)⟩
      · have g1 : decide ((0 : Int) < (k : Int)) = false := decide_eq_false (by omega)
        obtain rfl : k = 0 := by omega
        have hRa : a = R := by rw [← HL.out]; rfl
        have hRR := HRR.out
        obtain ⟨A2, n2, c2', hct, hcv⟩ := tail_string W1 A' c' d HR1.out hc' a (by omega) (by omega)
        have hres : Aside0 (d.extract (rf (bytesOf d) n (d.size - 1) + 1).toNat d.size = d.extract (a + 1).toNat d.size) := ⟨by rw [hRa, HRE.out]⟩
        have hba : -1 ≤ a := by omega
        have hbb : a ≤ 65536 := by omega
        clear hRa hRR HK HA HL hla hkq hkn
        go_wp2
        go_ret
        rw [hres.out]
        exact ⟨rfl, (pw_below_drewN HB1.out _)⟩

/-- Lines. -/
theorem lines (w : World) (g : Nat) (lim st : Int) (d : ByteArray) (h : TL w g lim st d) (hd : d.size ≤ 65536) (n : Int) (hn : n ≤ 9223372036854775807) :
    Calls Try.prog 22 #[.pointer (some ⟨g, 0, none⟩), .int .i64 n] w fun e w' => e = .returned (.string (linesF d n)) ∧ Below w.heap.size w w' := by
  unfold linesF
  by_cases h1 : n < 1
  · rw [if_pos h1]
    have b0 : decide (n < 1) = true := decide_eq_true h1
    clear h hd
    go_enter Try.func22, Try.ntmps22
    go_wp2
    go_ret
    exact ⟨rfl, Below.refl _ _⟩
  · rw [if_neg h1]
    obtain ⟨k, rfl⟩ := Int.eq_ofNat_of_zero_le (show 0 ≤ n by omega)
    rw [Int.toNat_natCast]
    exact lines_walk w g lim st d h hd k (by omega) (by omega)
end Go.Proofs.Ytggahoojpikecaa.TailLog
