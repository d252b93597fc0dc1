/- Towards unparseHeres_card. -/
import Derived.Test.YtjpopekmbmcggaaGreatDoorUh37
import Derived.Test.YtjpopekmbmcggaaGreatDoorUh36
set_option maxRecDepth 100000
set_option maxHeartbeats 16000000

