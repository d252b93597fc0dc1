/- Towards unparseRight_card: UpRDefs. Merged from smaller texts by a program of the author's. -/
import Derived.Test.YtjpopekmbmcggaaGreatDoorUc40
import Derived.Test.YtjpopekmbmcggaaGreatDoorUc39
set_option maxRecDepth 100000
set_option maxHeartbeats 16000000
namespace Go.Proofs.YtjpopekmbmcggaaGreatDoor
open Go.RowKit
attribute [local go_sem ↓] cM
end Go.Proofs.YtjpopekmbmcggaaGreatDoor
