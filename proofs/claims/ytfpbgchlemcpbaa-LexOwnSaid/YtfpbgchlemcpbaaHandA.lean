/- Small words for the printed texts: a string held against the empty one. No condition. -/
import Derived.Test.YtfpbgchlemcpbaaShelf
namespace Go.Proofs
theorem isEmpty_bne (l : List UInt8) : l.isEmpty = !(l != []) := by cases l <;> rfl
end Go.Proofs
