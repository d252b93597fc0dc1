/- Towards unparseRight_card: . Merged from smaller texts by a program of the author's. -/
import Derived.Test.YtjpopekmbmcggaaGreatDoorUc43
import Derived.Test.YtjpopekmbmcggaaGreatDoorUc42
set_option maxRecDepth 100000
set_option maxHeartbeats 16000000

