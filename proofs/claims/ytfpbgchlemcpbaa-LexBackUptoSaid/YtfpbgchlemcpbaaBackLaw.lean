/- The law LexBack, plain: a quoted word is read as that one word. Condition: the word has at most 2^40 bytes. -/
import Derived.Test.YtfpbgchlemcpbaaQuoteRead
import Derived.Test.YtfpbgchlemcpbaaCmdF
namespace Go.Proofs.Ytfpbgchlemcpbaa.LexLaws
open Go.RowKit Go.Proofs.Ytfpbgchlemcpbaa.PL Go.Proofs.Ytfpbgchlemcpbaa.Mach Go.Proofs.Ytfpbgchlemcpbaa.QuoteLaw Go.Proofs.YtfpbgchlemcpbaaW.PrintWords Go.Proofs.YtfpbgchlemcpbaaW.PrintLast
theorem LexBack_f (s : ByteArray) (hs : s.size ≤ 1099511627776) : ∃ k, mullionlaw09_LexBack.f k s = some true := by
  refine Ev.rounds ?_
  unfold mullionlaw09_LexBack.f PL.lex_Quote.f lex_Commands.f
  rw [if_pos hs]
  refine Ev.bind (Ev.now _) (Ev.bind (Ev.now _) ?_)
  by_cases hq : ((quoteB s).size : Int) > 8192
  · refine ev_pos hq ?_
    rw [commandsF_long (by omega)]
    exact ev_pos rfl (Ev.bind sure_f (Ev.now _))
  · refine ev_neg hq ?_
    have hR : Mach.ahead (bytesOf (quoteB s)) [] [] 0 = .ok [[s]] 1 := by
      have := read_quoted s [] [] [] 0
      rw [List.append_nil] at this
      rw [this, within_nil, List.nil_append, str_bytesOf]
      rfl
    have hF : commandsF (quoteB s) = ([[s]], 0, 0) := by
      rw [commandsF_ok (by omega) hR, if_neg (by simp)]
    refine Ev.bind (a := true) ?_ ?_
    · have := same_commands (quoteB s) [[s]]
      rw [hF] at this ⊢
      simpa using this
    · rw [hF]
      exact ev_pos rfl (ev_pos rfl (Ev.now _))
end Go.Proofs.Ytfpbgchlemcpbaa.LexLaws
