/- Walks of bursaryref01: bits, powers, sums, products, inverses. -/
import Derived.Test.YtlkbkgghfhoggaaGreatDoorOn
import Derived.Test.YtlkbkgghfhoggaaGreatDoorLo
set_option linter.unusedVariables false
set_option linter.unusedSimpArgs false
namespace Go.Proofs.YtlkbkgghfhoggaaGreatDoor
open Go.RowKit Gm

end Go.Proofs.YtlkbkgghfhoggaaGreatDoor
