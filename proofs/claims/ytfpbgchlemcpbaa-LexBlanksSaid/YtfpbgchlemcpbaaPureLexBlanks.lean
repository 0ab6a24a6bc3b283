/- The law LexBlanks of layer 9 answers true: blanks ahead and behind, empty commands, and a remark behind a blank change nothing. No condition. -/
import Derived.Test.YtfpbgchlemcpbaaPLx4
import Derived.Test.YtfpbgchlemcpbaaBlanks
namespace Go.Proofs.Ytfpbgchlemcpbaa.Pure
open Go.RowKit Go.Proofs.Ytfpbgchlemcpbaa.PL
theorem LexBlanks : mullionlaw09_LexBlanks.Pure := fun a0 a1 a2 _ _ _ => LexLaws.LexBlanks_f a0 a1 a2
end Go.Proofs.Ytfpbgchlemcpbaa.Pure
