/- Towards unparseHeres_card. -/
import Derived.Test.YtjpopekmbmcggaaGreatDoorUh35
import Derived.Test.YtjpopekmbmcggaaGreatDoorUh34
set_option maxRecDepth 100000
set_option maxHeartbeats 16000000
namespace Go.Proofs.YtjpopekmbmcggaaGreatDoor
open Go.RowKit
attribute [local go_sem ↓] cN
end Go.Proofs.YtjpopekmbmcggaaGreatDoor
