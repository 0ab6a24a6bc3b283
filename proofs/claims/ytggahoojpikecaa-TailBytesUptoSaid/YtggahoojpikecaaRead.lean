/- The Log of layer 6: what Read answers. No condition but that its numbers are those of a Log. -/
import Derived.Test.YtggahoojpikecaaLoad
import Derived.IntWalk
namespace Go.Proofs.Ytggahoojpikecaa.TailLog
open Go.RowKit Go.Proofs.YtggahoojpikecaaW.PrintWords Go.Proofs.YtggahoojpikecaaW.PrintLast Go.Proofs.YtggahoojpikecaaW.PrintMore
attribute [local go_sem] max2_int min2_int max_two min_two
set_option linter.unusedVariables false
set_option linter.unusedSimpArgs false

theorem strOfNums_cut (d : ByteArray) (a b : Nat) (h : b ≤ d.size) : strOfNums (((bytesOf d).take b).drop a) = d.extract a b := by
  apply ByteArray.ext
  apply Array.ext'
  have e1 : ∀ l : List UInt8, (l.map fun x => (x.toNat : Int)).map (fun n : Int => UInt8.ofNat n.toNat) = l := by
    intro l
    induction l with
    | nil => rfl
    | cons x l ih => simp [ih]
  have e2 : (strOfNums (((bytesOf d).take b).drop a)).data.toList = ((d.data.toList.take b).drop a) := by
    unfold strOfNums bytesOf
    rw [← List.map_take, ← List.map_drop]
    simpa using e1 ((d.data.toList.take b).drop a)
  rw [e2]
  simp [ByteArray.data_extract, List.drop_take]
theorem strOfNums_all (d : ByteArray) : strOfNums (bytesOf d) = d := by
  have h := strOfNums_cut d 0 d.size (Nat.le_refl _)
  rw [List.drop_zero, List.take_of_length_le (by rw [bytesOf_length]; exact Nat.le_refl _)] at h
  rw [h]
  exact ByteArray.extract_zero_size

theorem quiet_add {P : Program} {f : FuncId} {args : Array Value} {w : World} {a n : Nat} {v : Value}
    (h : Calls P f args (w.drewN (a + n)) fun e w' => e = .returned v ∧ ∃ m, w' = (w.drewN (a + n)).drewN m) :
    Calls P f args (w.drewN (a + n)) fun e w'' => e = .returned v ∧ ∃ m, w'' = w.drewN (a + m) :=
  h.mono fun _ _ ⟨he, m, hm⟩ => ⟨he, n + m, by rw [hm, World.drewN_drewN, Nat.add_assoc]⟩

theorem drawn_of {w w' : World} (h : Drawn0 w w') : ∃ m, w' = w.drewN m := by
  obtain ⟨m, hm⟩ := h
  exact ⟨m, hm⟩

theorem cut3 (w : World) (A : Option Addr) (n c : Nat) (xs : List Int) (a b : Int) (h0 : 0 ≤ a) (h1 : a ≤ b) (h2 : b ≤ n) (hc : n ≤ c) (hr : ReadsInt w .u8 A n xs) :
    ∃ A' : Option Addr, (∀ W : World, (Instr.slice 60 (.slice A n c) (some (.int .i64 a)) (some (.int .i64 b)) (some (.int .i64 b))).run Try.prog W = .ok (.slice A' (b.toNat - a.toNat) (b.toNat - a.toNat)) W) ∧
      ReadsInt w .u8 A' (b.toNat - a.toNat) ((xs.take b.toNat).drop a.toNat) := by
  obtain ⟨i, hi, hz⟩ := Option.map_eq_some_iff.1 info5
  simp only [Prod.mk.injEq] at hz
  refine ⟨if b.toNat = a.toNat then A else A.map (·.add a.toNat), fun W => ?_, (hr.take_ b.toNat (by omega)).drop_ (c := b.toNat) a.toNat (by omega) (by omega)⟩
  have hel : Try.prog.elem 60 = 5 := by simp [Program.elem, Try.underlying60]
  have hu : Try.prog.underlying 60 = some (.slice (Try.prog.elem 60)) := by rw [hel]; exact Try.underlying60
  rw [run_slice_lhm W 60 A n c hu .i64 .i64 .i64 a b b h0 h1 (Int.le_refl _) (by omega), hel]
  simp [sizeOf, typeInfo, hi, hz.2.1, sliced, Result.andThen]

theorem piece (w : World) (g : Nat) (lim st : Int) (d : ByteArray) (h : TL w g lim st d) (a b : Int) (h0 : 0 ≤ a) (h1 : a ≤ b) (h2 : b ≤ d.size) :
    ∃ A', ReadsInt w .u8 A' (b.toNat - a.toNat) (((bytesOf d).take b.toNat).drop a.toNat) ∧ ∀ n, Calls Try.prog 26 #[.pointer (some ⟨g, 0, none⟩), .int .i64 a, .int .i64 b] (w.drewN n) fun e w' =>
      e = .returned (.slice A' (b.toNat - a.toNat) (b.toNat - a.toNat)) ∧ ∃ m, w' = (w.drewN n).drewN m := by
  obtain ⟨A, c, c0, c1, c2, hc, hr⟩ := h.cells
  have hg := h.lt
  clear h
  obtain ⟨A', hs, hr'⟩ := cut3 w A d.size c (bytesOf d) a b h0 h1 h2 hc hr
  refine ⟨A', hr', fun n => ?_⟩
  go_enter Try.func26, Try.ntmps26
  go_wp2
  repeat (go_quiet (fail); try go_wp2)
  go_ret
  have hd : Drawn0 (w.drewN n) (w.drewN n) := Drawn0.refl _
  exact ⟨rfl, drawn_of (by repeat (first | exact Drawn0.refl _ | apply Drawn0.step))⟩

/-- Read's answer. -/
def readF (lim st : Int) (d : ByteArray) (fr most : Int) : ByteArray × Int × Int :=
  if fr < 0 ∨ most < 0 then (⟨#[]⟩, 0, 1) else if fr < st then (⟨#[]⟩, 0, 60) else if st + d.size < fr then (⟨#[]⟩, 0, 61)
  else (d.extract (fr - st).toNat (fr - st + min most (st + d.size - fr)).toNat, fr + min most (st + d.size - fr), 0)

set_option maxHeartbeats 4000000 in
theorem read_walk (w : World) (g : Nat) (lim st : Int) (d : ByteArray) (h : TL w g lim st d) (hs0 : 0 ≤ st) (hs1 : st + d.size ≤ 4611686018427387904) (fr most n : Int) (h0 : 0 ≤ fr) (h1 : 0 ≤ most) (h2 : st ≤ fr) (h3 : fr ≤ st + d.size)
    (hn : (if st + d.size - fr < most then st + d.size - fr else most) = n) :
    Calls Try.prog 14 #[.pointer (some ⟨g, 0, none⟩), .int .i64 fr, .int .i64 most] w fun e w' =>
      e = .returned (.tuple #[.string (d.extract (fr - st).toNat (fr - st + n).toNat), .int .i64 (fr + n), .int .i64 0]) ∧ Drawn0 w w' := by
  obtain ⟨A, c, c0, c1, c2, hc, hr⟩ := h.cells
  have hg := h.lt
  have b0 : decide (fr < 0) = false := decide_eq_false (by omega)
  have b1 : decide (most < 0) = false := decide_eq_false (by omega)
  have b2 : decide (fr < st) = false := decide_eq_false (by omega)
  have b3 : decide (st + (d.size : Int) < fr) = false := decide_eq_false (by omega)
  have n0 : 0 ≤ n := by split at hn <;> omega
  have n1 : n ≤ st + d.size - fr := by split at hn <;> omega
  obtain ⟨A', hr', hp⟩ := piece w g lim st d h (fr - st) (fr - st + n) (by omega) (by omega) (by omega)
  have hcv := fun m => string_of_reads (P := Try.prog) (src := 60) (dst := 9) (c := (fr - st + n).toNat - (fr - st).toNat) Try.underlying60 Try.underlying5 Try.underlying9 (hr'.drewN m)
  rw [strOfNums_cut d _ _ (by omega)] at hcv
  have w1 : Aside0 (IntKind.i64.wrap (fr - st) = fr - st) := ⟨IntWalk.i64_in _ (by omega)⟩
  have w2 : Aside0 (IntKind.i64.wrap (fr - st + n) = fr - st + n) := ⟨IntWalk.i64_in _ (by omega)⟩
  have w3 : Aside0 (IntKind.i64.wrap (fr + n) = fr + n) := ⟨IntWalk.i64_in _ (by omega)⟩
  have HT := Aside0.mk h
  have HP := Aside0.mk hp
  clear h hp hr hr'
  go_enter Try.func14, Try.ntmps14
  go_upto_region 9 with (go_at_call 18; (first | refine (end_ _ g lim st d HT.out hs0 hs1).mono ?_ | refine (end_ _ g lim st d (HT.out.drewN _) hs0 hs1).mono ?_); rintro e w' ⟨rfl, ⟨nd, rfl⟩⟩)
  replace w1 := w1.out
  replace w2 := w2.out
  replace w3 := w3.out
  go_quiet ((go_at_call 26; exact quiet_add (HP.out _)))
  go_wp2
  go_ret3
  exact ⟨rfl, by rw [World.drewN_drewN]; exact ⟨_, rfl⟩⟩

set_option maxHeartbeats 4000000 in
theorem read_arg (w : World) (g : Nat) (fr most : Int) (h : fr < 0 ∨ most < 0) :
    Calls Try.prog 14 #[.pointer (some ⟨g, 0, none⟩), .int .i64 fr, .int .i64 most] w fun e w' => e = .returned (.tuple #[.string ⟨#[]⟩, .int .i64 0, .int .i64 1]) ∧ Drawn0 w w' := by
  by_cases h1 : fr < 0
  · have c1 : decide (fr < 0) = true := decide_eq_true h1
    clear h
    go_enter Try.func14, Try.ntmps14
    go_wp2
    go_ret3
    exact ⟨rfl, ⟨0, rfl⟩⟩
  · have c1 : decide (fr < 0) = false := decide_eq_false h1
    have c2 : decide (most < 0) = true := decide_eq_true (by omega)
    clear h
    go_enter Try.func14, Try.ntmps14
    go_wp2
    go_ret3
    exact ⟨rfl, ⟨0, rfl⟩⟩

set_option maxHeartbeats 4000000 in
theorem read_gone (w : World) (g : Nat) (lim st : Int) (d : ByteArray) (h : TL w g lim st d) (fr most : Int) (h0 : 0 ≤ fr) (h1 : 0 ≤ most) (h2 : fr < st) :
    Calls Try.prog 14 #[.pointer (some ⟨g, 0, none⟩), .int .i64 fr, .int .i64 most] w fun e w' => e = .returned (.tuple #[.string ⟨#[]⟩, .int .i64 0, .int .i64 60]) ∧ Drawn0 w w' := by
  obtain ⟨A, c, c0, c1, c2, hc, hr⟩ := h.cells
  have hg := h.lt
  have b0 : decide (fr < 0) = false := decide_eq_false (by omega)
  have b1 : decide (most < 0) = false := decide_eq_false (by omega)
  have b2 : decide (fr < st) = true := decide_eq_true (by omega)
  clear h
  go_enter Try.func14, Try.ntmps14
  go_wp2
  go_ret3
  exact ⟨rfl, ⟨0, rfl⟩⟩

set_option maxHeartbeats 4000000 in
theorem read_ahead (w : World) (g : Nat) (lim st : Int) (d : ByteArray) (h : TL w g lim st d) (hs0 : 0 ≤ st) (hs1 : st + d.size ≤ 4611686018427387904) (fr most : Int) (h0 : 0 ≤ fr) (h1 : 0 ≤ most) (h2 : st ≤ fr) (h3 : st + d.size < fr) :
    Calls Try.prog 14 #[.pointer (some ⟨g, 0, none⟩), .int .i64 fr, .int .i64 most] w fun e w' => e = .returned (.tuple #[.string ⟨#[]⟩, .int .i64 0, .int .i64 61]) ∧ Drawn0 w w' := by
  obtain ⟨A, c, c0, c1, c2, hc, hr⟩ := h.cells
  have hg := h.lt
  have b0 : decide (fr < 0) = false := decide_eq_false (by omega)
  have b1 : decide (most < 0) = false := decide_eq_false (by omega)
  have b2 : decide (fr < st) = false := decide_eq_false (by omega)
  have b3 : decide (st + (d.size : Int) < fr) = true := decide_eq_true (by omega)
  have HT := Aside0.mk h
  clear h hr
  go_enter Try.func14, Try.ntmps14
  go_wp2_with (go_at_call 18; (first | refine (end_ _ g lim st d HT.out hs0 hs1).mono ?_ | refine (end_ _ g lim st d (HT.out.drewN _) hs0 hs1).mono ?_); rintro e w' ⟨rfl, ⟨nd, rfl⟩⟩)
  go_ret3
  exact ⟨rfl, ⟨_, rfl⟩⟩

/-- Read. -/
theorem read (w : World) (g : Nat) (lim st : Int) (d : ByteArray) (h : TL w g lim st d) (hs0 : 0 ≤ st) (hs1 : st + d.size ≤ 4611686018427387904) (fr most : Int) :
    Calls Try.prog 14 #[.pointer (some ⟨g, 0, none⟩), .int .i64 fr, .int .i64 most] w fun e w' =>
      e = .returned (.tuple #[.string (readF lim st d fr most).1, .int .i64 (readF lim st d fr most).2.1, .int .i64 (readF lim st d fr most).2.2]) ∧ Drawn0 w w' := by
  unfold readF
  by_cases h1 : fr < 0 ∨ most < 0
  · rw [if_pos h1]
    exact read_arg w g fr most h1
  · rw [if_neg h1]
    by_cases h2 : fr < st
    · rw [if_pos h2]
      exact read_gone w g lim st d h fr most (by omega) (by omega) h2
    · rw [if_neg h2]
      by_cases h3 : st + d.size < fr
      · rw [if_pos h3]
        exact read_ahead w g lim st d h hs0 hs1 fr most (by omega) (by omega) (by omega) h3
      · rw [if_neg h3]
        exact read_walk w g lim st d h hs0 hs1 fr most _ (by omega) (by omega) (by omega) (by omega) (by split <;> omega)
end Go.Proofs.Ytggahoojpikecaa.TailLog
