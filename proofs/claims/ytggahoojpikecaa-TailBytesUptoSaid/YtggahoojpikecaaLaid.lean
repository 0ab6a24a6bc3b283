/- A text laid into a new Log in pieces: the Log keeps its last bytes. No condition but lengths below a bound. -/
import Derived.Test.YtggahoojpikecaaOpen2
namespace Go.Proofs.Ytggahoojpikecaa.TailLog
open Go.RowKit Go.Proofs.YtggahoojpikecaaW.PrintWords Go.Proofs.YtggahoojpikecaaW.PrintLast Go.Proofs.YtggahoojpikecaaW.PrintMore
set_option linter.unusedVariables false
set_option linter.unusedSimpArgs false

/-- Where what is kept of a text begins. -/
def fr (lim : Int) (n : Nat) : Nat := ((n : Int) - lim).toNat
/-- What is kept of a text. -/
def kD (lim : Int) (x : ByteArray) : ByteArray := x.extract (fr lim x.size) x.size
theorem kD_size (lim : Int) (x : ByteArray) (h : 1 ≤ lim) : (kD lim x).size = x.size - fr lim x.size := by
  unfold kD
  rw [ByteArray.size_extract]
  omega
theorem ex_list (y : ByteArray) (a : Nat) : (y.extract a y.size).data.toList = y.data.toList.drop a := by
  rw [ByteArray.data_extract, Array.toList_extract, List.extract_eq_take_drop]
  exact List.take_of_length_le (by rw [List.length_drop, data_length]; exact Nat.le_refl _)
theorem good_kept (lim : Int) (x : ByteArray) (h0 : 1 ≤ lim) (h1 : lim ≤ 65536) (hx : x.size ≤ 140737488351232) : Good lim (fr lim x.size) (kD lim x) := by
  have e := kD_size lim x h0
  have e2 : fr lim x.size = ((x.size : Int) - lim).toNat := rfl
  exact ⟨h0, h1, by omega, by omega, by omega⟩
theorem appF_kept (lim : Int) (x y : ByteArray) (h0 : 1 ≤ lim) (h1 : lim ≤ 65536) (hx : x.size + y.size ≤ 140737488351232) : appF lim (fr lim x.size) (kD lim x) y = ((fr lim (x ++ y).size : Int), kD lim (x ++ y), 0) := by
  have e := kD_size lim x h0
  have e2 : fr lim x.size = ((x.size : Int) - lim).toNat := rfl
  have e3 : (x ++ y).size = x.size + y.size := ByteArray.size_append
  have e4 : fr lim (x ++ y).size = (((x ++ y).size : Int) - lim).toNat := rfl
  have e5 : (kD lim x ++ y).size = (kD lim x).size + y.size := ByteArray.size_append
  unfold appF
  rw [if_neg (by omega)]
  have e6 : (fr lim x.size : Int) + (((kD lim x ++ y).size : Int) - lim).toNat = fr lim (x ++ y).size := by omega
  have e7 : (kD lim x ++ y).extract (((kD lim x ++ y).size : Int) - lim).toNat (kD lim x ++ y).size = kD lim (x ++ y) := by
    have e8 : fr lim (x ++ y).size = fr lim x.size + (((kD lim x ++ y).size : Int) - lim).toNat := by omega
    apply ByteArray.ext
    apply Array.ext'
    rw [ex_list]
    unfold kD at e8 ⊢
    rw [ex_list, ByteArray.data_append, Array.toList_append, ex_list, ByteArray.data_append, Array.toList_append, e8, ← List.drop_drop]
    congr 1
    rw [List.drop_append_of_le_length (by rw [data_length]; omega)]
  rw [e6, e7]
theorem kept_nil (lim : Int) (h : 1 ≤ lim) : ((fr lim (⟨#[]⟩ : ByteArray).size : Nat) : Int) = 0 ∧ kD lim ⟨#[]⟩ = ⟨#[]⟩ := by
  have hz : (⟨#[]⟩ : ByteArray).size = 0 := rfl
  have e : fr lim (⟨#[]⟩ : ByteArray).size = 0 := by
    show (((⟨#[]⟩ : ByteArray).size : Int) - lim).toNat = 0
    omega
  refine ⟨by rw [e]; rfl, ?_⟩
  unfold kD
  rw [e]
  rfl
/-- Append, of a Log that has been told a text. -/
theorem append_kept (w : World) (g : Nat) (lim : Int) (x y : ByteArray) (h : TL w g lim (fr lim x.size) (kD lim x)) (h0 : 1 ≤ lim) (h1 : lim ≤ 65536) (hx : x.size + y.size ≤ 140737488351232) :
    Calls Try.prog 13 #[.pointer (some ⟨g, 0, none⟩), .string y] w fun e w' => e = .returned (.int .i64 0) ∧ KeepBut w w' g none ∧ Below g w w' ∧ TL w' g lim (fr lim (x ++ y).size) (kD lim (x ++ y)) := by
  have hG := good_kept lim x h0 h1 (by omega)
  have h2 := append w g lim (fr lim x.size) (kD lim x) y h hG.s0 hG.se (by omega) h0 h1 hG.dl
  rw [appF_kept lim x y h0 h1 hx] at h2
  exact h2

/-- A number made one from 0 to n - 1. -/
theorem pos_ok (a : Int) (n : Nat) (hn : n ≤ 140737488351233) (h0 : 0 < n) : ∃ r : Nat, PR.mullionlaw06_pos.f a n = some (r : Int) ∧ r < n := by
  unfold PR.mullionlaw06_pos.f
  rw [if_neg (by omega)]
  have h1 := Int.tmod_lt_of_pos a (show (0 : Int) < n by omega)
  have h2 : -(n : Int) < Int.tmod a n := Int.lt_tmod_of_pos a (by omega)
  by_cases c : Int.tmod a n < 0
  · rw [if_pos c, wrap_in _ (by omega) (by omega)]
    exact ⟨(Int.tmod a n + n).toNat, by rw [Int.toNat_of_nonneg (by omega)], by omega⟩
  · rw [if_neg c]
    exact ⟨(Int.tmod a n).toNat, by rw [Int.toNat_of_nonneg (by omega)], by omega⟩
theorem cut_whole (x : ByteArray) (n : Nat) (h : n ≤ x.size) : x.extract 0 n ++ x.extract n x.size = x := by
  apply ByteArray.ext
  apply Array.ext'
  rw [ByteArray.data_append, Array.toList_append, ex_list, ByteArray.data_extract, Array.toList_extract, List.extract_eq_take_drop]
  simp

set_option maxHeartbeats 4000000 in
set_option maxRecDepth 100000 in
/-- laid. -/
theorem laid (w : World) (g : Nat) (lim : Int) (x text : ByteArray) (h : TL w g lim (fr lim x.size) (kD lim x)) (h0 : 1 ≤ lim) (h1 : lim ≤ 65536) (hx : x.size + text.size ≤ 140737488351232)
    (A : Option Addr) (c : Nat) (cuts : List Int) (hr : ReadsInt w .i64 A cuts.length cuts) (hc : cuts.length ≤ c) (hf : ∀ ad, A = some ad → 0 < cuts.length → ad.block ≠ g) :
    Calls Try.prog 15 #[.pointer (some ⟨g, 0, none⟩), .string text, .slice A cuts.length c] w fun e w' => e = .returned (.bool true) ∧ KeepBut w w' g none ∧ Below g w w' ∧ TL w' g lim (fr lim (x ++ text).size) (kD lim (x ++ text)) := by
  have hm : cuts.length ≤ 9223372036854775807 := hr.2.1
  have HR := Aside0.mk hr
  have HF := Aside0.mk hf
  have HT := Aside0.mk h
  have HX := Aside0.mk hx
  clear hr hf h hx
  go_enter Try.func15, Try.ntmps15
  go_wp2
  go_loopg [1, 7] cuts.length (fun kq v1 v7 wr => ∃ (i : Nat) (done rest : ByteArray), v1 = .string rest ∧ v7 = .int .i64 (i : Int) ∧ Aside0 (kq = cuts.length - i ∧ i ≤ cuts.length) ∧ Aside0 (done ++ rest = text) ∧ Aside0 (KeepBut w wr g none ∧ Below g w wr ∧ TL wr g lim (fr lim (x ++ done).size) (kD lim (x ++ done))))
  case atStart => exact ⟨0, ⟨#[]⟩, text, rfl, rfl, ⟨rfl, Nat.zero_le _⟩, ⟨ByteArray.empty_append⟩, ⟨KeepBut.refl _ _ _, Below.refl _ _, by have e : x ++ (⟨#[]⟩ : ByteArray) = x := ByteArray.append_empty; rw [e]; exact HT.out⟩⟩
  case round =>
    obtain ⟨i, done, rest, rfl, rfl, HI, HD, HW⟩ := hrel
    obtain ⟨hk, hi⟩ := HI.out
    have hsz : x.size + done.size + rest.size ≤ 140737488351232 := by have := HX.out; have e := congrArg ByteArray.size HD.out; rw [ByteArray.size_append] at e; omega
    by_cases c1 : i < cuts.length
    · have g1 : decide ((i : Int) < (cuts.length : Int)) = true := decide_eq_true (by omega)
      have g1n : decide (i < cuts.length) = true := decide_eq_true c1
      have hrr := HR.out.keep HW.out.1 HF.out
      obtain ⟨ad, hA, q0⟩ := hrr.at_ (i : Int) (by omega) (by omega)
      subst hA
      rw [Int.toNat_natCast] at q0
      generalize rd cuts (i : Int) = a at q0
      obtain ⟨n, hp, hn⟩ := pos_ok a (rest.size + 1) (by omega) (by omega)
      have hn2 : (n : Int) ≤ (rest.size : Int) := by omega
      have i0 : (0 : Int) ≤ (i : Int) := by omega
      have i1 : (i : Int) < (cuts.length : Int) := by omega
      have HP := Aside0.mk hp
      have hpc : ((rest.size + 1 : Nat) : Int) = (rest.size : Int) + 1 := by omega
      rw [hpc] at hp
      have HP2 := Aside0.mk hp
      clear hp hrr hpc
      go_upto_region 5 with (go_at_call 27; refine (PR.mullionlaw06_pos.calls a ((rest.size : Int) + 1) (n : Int) _ HP2.out).mono ?_; rintro e w3 ⟨rfl, ⟨n3, rfl⟩⟩)
      go_upto_region 7 with (go_at_call 13; refine (append_kept _ g lim (x ++ done) (rest.extract 0 n) (by first | exact HW.out.2.2 | exact HW.out.2.2.drewN _) h0 h1 (by rw [ByteArray.size_append, ByteArray.size_extract]; omega)).mono ?_; rintro e w4 ⟨rfl, hK, hB, hT⟩; have HK := Aside0.mk hK; have HB := Aside0.mk hB; have HT4 := Aside0.mk hT; clear hK hB hT)
      have hT := HT4.out
      have e1 : x ++ done ++ rest.extract 0 n = x ++ (done ++ rest.extract 0 n) := by rw [ByteArray.append_assoc]
      rw [e1] at hT
      have hKK : KeepBut w w4 g none := by first | exact HW.out.1.trans HK.out (.inl rfl) | exact (keep_drewN HW.out.1 _).trans HK.out (.inl rfl)
      have hBB : Below g w w4 := by first | exact below_gg HW.out.2.1 HB.out | exact below_gg (below_gg HW.out.2.1 (pw_below_drewN (Below.refl _ _) _)) HB.out
      have HZ := Aside0.mk (And.intro hKK (And.intro hBB hT))
      clear hT e1 hKK hBB
      go_wp2
      go_roundg (cuts.length - (i + 1))
      case measure => omega
      case rel => exact ⟨i + 1, done ++ rest.extract 0 n, rest.extract n rest.size, rfl, by first | rfl | (congr 1; omega), ⟨rfl, by omega⟩, ⟨by rw [ByteArray.append_assoc, cut_whole rest n (by omega)]; exact HD.out⟩, HZ⟩
    · have g1 : decide ((i : Int) < (cuts.length : Int)) = false := decide_eq_false (by omega)
      have g1n : decide (i < cuts.length) = false := decide_eq_false c1
      go_wp2_with (go_at_call 13; refine (append_kept _ g lim (x ++ done) rest (by first | exact HW.out.2.2 | exact HW.out.2.2.drewN _) h0 h1 (by rw [ByteArray.size_append]; omega)).mono ?_; rintro e w4 ⟨rfl, hK, hB, hT⟩; have HK := Aside0.mk hK; have HB := Aside0.mk hB; have HT4 := Aside0.mk hT; clear hK hB hT)
      go_ret
      have hT := HT4.out
      have e1 : x ++ done ++ rest = x ++ text := by rw [← HD.out, ByteArray.append_assoc]
      rw [e1] at hT
      exact ⟨rfl, HW.out.1.trans HK.out (.inl rfl), below_gg HW.out.2.1 HB.out, hT⟩
end Go.Proofs.Ytggahoojpikecaa.TailLog
