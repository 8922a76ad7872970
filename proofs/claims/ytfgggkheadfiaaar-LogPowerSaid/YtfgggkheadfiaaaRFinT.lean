/- What every row over this seat's program asks of it. -/
import Derived.Test.YtfgggkheadfiaaaRFin
import Derived.Test.YtfgggkheadfiaaaRRows
namespace Go.Proofs.YtfgggkheadfiaaaR
open Go Go.RowKit
theorem ownKnobs : ownKnob Try.prog.godebug = none := by kernel_rfl
theorem laidOutTry : laidOutB Try.prog = true := by kernel_rfl
end Go.Proofs.YtfgggkheadfiaaaR
