/- What every row over this seat's program asks of it. -/
import Derived.Test.YthmpmgknnibljaaGreatRows
import Derived.Test.YthmpmgknnibljaaGreatSv1
namespace Go.Proofs.YthmpmgknnibljaaGreat
open Go.Proofs.Tryz
open Go Go.RowKit
theorem MI:ownKnob prog.godebug = none:=bf
theorem Jl:laidOutB prog = true:=bf

end Go.Proofs.YthmpmgknnibljaaGreat
