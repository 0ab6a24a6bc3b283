/- The law LexReads of layer 9 answers true: Commands reads every line as the reference does. No condition. -/
import Derived.Test.YtfpbgchlemcpbaaPLx2
import Derived.Test.YtfpbgchlemcpbaaSame
namespace Go.Proofs.Ytfpbgchlemcpbaa.Pure
open Go.RowKit Go.Proofs.Ytfpbgchlemcpbaa.PL
theorem LexReads : mullionlaw09_LexReads.Pure := fun a0 _ => LexLaws.LexReads_f a0
end Go.Proofs.Ytfpbgchlemcpbaa.Pure
