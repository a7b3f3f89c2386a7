/- What the program says of the type int. -/
import Derived.Test.YtpfonniepinjnaaDoorLib
import Derived.Test.YtpfonniepinjnaaDoorProg
import Derived.WalkKit
import Derived.KernelRfl
namespace Go.Proofs.YtpfonniepinjnaaDoor
open Go.RowKit
theorem Tryd.infoI : (Tryd.prog.info? 3).map (fun i => (i.zero, i.size, i.bytes)) = some (some (.int .i64 0), 1, 8) := by kernel_rfl
end Go.Proofs.YtpfonniepinjnaaDoor
