/- The law LexPlaces of layer 9 answers true: where the reading of a line fails stands a quote or a backslash, and what is ahead of it is read; else the place is 0. No condition. -/
import Derived.Test.YtfpbgchlemcpbaaPLx6
import Derived.Test.YtfpbgchlemcpbaaPlaces
namespace Go.Proofs.Ytfpbgchlemcpbaa.Pure
open Go.RowKit Go.Proofs.Ytfpbgchlemcpbaa.PL
theorem LexPlaces : mullionlaw09_LexPlaces.Pure := fun a0 _ => LexLaws.LexPlaces_f a0
end Go.Proofs.Ytfpbgchlemcpbaa.Pure
