/- bytes.LastIndexByte: the place of a byte's last stand, or -1. No condition. -/
import Derived.Test.YtggahoojpikecaaAppend
namespace Go.Proofs.Ytggahoojpikecaa.TailLog
open Go.RowKit Go.Proofs.YtggahoojpikecaaW.PrintWords Go.Proofs.YtggahoojpikecaaW.PrintLast Go.Proofs.YtggahoojpikecaaW.PrintMore
set_option linter.unusedVariables false
set_option linter.unusedSimpArgs false

/-- The last place below k that holds b, or -1. -/
def lastIdx (xs : List Int) (b : Int) : Nat → Int
  | 0 => -1
  | k + 1 => if xs.getD k 0 = b then (k : Int) else lastIdx xs b k

set_option maxHeartbeats 4000000 in
theorem lastIndex36 (w : World) (A : Option Addr) (n c : Nat) (xs : List Int) (b : Int) (hr : ReadsInt w .u8 A n xs) (hc : n ≤ c) :
    Calls Try.prog 36 #[.slice A n c, .int .u8 b] w fun e w' => e = .returned (.int .i64 (lastIdx xs b n)) ∧ Drawn0 w w' := by
  have HR := Aside0.mk hr
  have hn : n ≤ 9223372036854775807 := hr.2.1
  clear hr
  go_enter Try.func36, Try.ntmps36
  go_wp2
  go_loopg [5] n (fun kq v5 wr => ∃ (k m : Nat), v5 = .int .i64 ((k : Int) - 1) ∧ wr = w.drewN m ∧ Aside0 (kq = k) ∧ Aside0 (k ≤ n) ∧ Aside0 (lastIdx xs b k = lastIdx xs b n))
  case atStart => exact ⟨n, 0, rfl, rfl, ⟨rfl⟩, ⟨Nat.le_refl _⟩, ⟨rfl⟩⟩
  case round =>
    obtain ⟨k, m, rfl, rfl, HK, HN, HL⟩ := hrel
    by_cases h0 : k = 0
    · subst h0
      have hL := HL.out
      have h1 : decide ((0 : Int) ≤ ((0 : Nat) : Int) - 1) = false := by decide
      go_wp2
      go_ret
      exact ⟨by rw [← hL]; rfl, ⟨m, rfl⟩⟩
    · obtain ⟨j, rfl⟩ := Nat.exists_eq_succ_of_ne_zero h0
      rw [show ((Nat.succ j : Nat) : Int) - 1 = (j : Int) by omega]
      have hjn : j < n := HN.out
      have hkq : gk = j + 1 := HK.out
      obtain ⟨ad, hA, hcell⟩ := HR.out.2.2 (by omega)
      subst hA
      have hx : w.cell? (ad.add j) = some (.int .u8 (xs.getD j 0)) := hcell j hjn
      have hlt : (j : Int) < (n : Int) := by omega
      have h1 : decide ((0 : Int) ≤ (j : Int)) = true := decide_eq_true (by omega)
      have hl2 : lastIdx xs b (j + 1) = lastIdx xs b n := HL.out
      rw [lastIdx] at hl2
      clear hcell h0
      by_cases e : xs.getD j 0 = b
      · rw [if_pos e] at hl2
        have HL2 := Aside0.mk hl2
        clear hl2
        have g1 : (xs.getD j 0 == b) = true := beq_iff_eq.mpr e
        generalize xs.getD j 0 = y at hx g1 e
        go_wp2
        go_ret
        exact ⟨by rw [← HL2.out]; rfl, ⟨m, rfl⟩⟩
      · rw [if_neg e] at hl2
        have HL2 := Aside0.mk hl2
        clear hl2
        have g1 : (xs.getD j 0 == b) = false := beq_eq_false_iff_ne.mpr e
        generalize xs.getD j 0 = y at hx g1 e
        go_wp2
        go_roundg j
        case measure => omega
        case rel => exact ⟨j, m, rfl, rfl, ⟨rfl⟩, ⟨by omega⟩, HL2⟩

/-- bytes.LastIndexByte. -/
theorem lastIndexByte (w : World) (A : Option Addr) (n c : Nat) (xs : List Int) (b : Int) (hr : ReadsInt w .u8 A n xs) (hc : n ≤ c) :
    Calls Try.prog 34 #[.slice A n c, .int .u8 b] w fun e w' => e = .returned (.int .i64 (lastIdx xs b n)) ∧ Drawn0 w w' := by
  have h := lastIndex36 w A n c xs b hr hc
  go_enter Try.func34, Try.ntmps34
  go_wp2_with (go_at_call 36; refine h.mono ?_; rintro e w' ⟨rfl, ⟨m, rfl⟩⟩)
  go_ret
  exact ⟨rfl, ⟨_, rfl⟩⟩
end Go.Proofs.Ytggahoojpikecaa.TailLog
