/- Towards unparseShows_card: NdSum, NdCount. Merged from smaller texts by a program of the author's. -/
import Derived.Test.YtjpopekmbmcggaaGreatDoorUb23
import Derived.IntWalk
set_option maxRecDepth 100000
set_option maxHeartbeats 16000000
namespace Go.Proofs.YtjpopekmbmcggaaGreatDoor
open Go.RowKit
theorem bS {β:Type} (C:β→Nat):∀ (xs:List β) (k:Nat) (h:k<xs.length),tot C (xs.drop k)=C xs[k]+tot C (xs.drop (k+1)):=by
 intro xs k h;rw [bC xs k h,tot]
theorem Gr.box {w:World} {b:Nat} {xs:List Value} {T:TypeId} (h:w.heap[b]? = some (.cells xs.toArray T (0,0))) (x:Gr w):∀ j u,xs[j]? = some u→x.at_.cell? ⟨b,j,none⟩=some u:=
 fun j u hj=>x.cell _ _ (by simp [World.cell?,h,hj])
end Go.Proofs.YtjpopekmbmcggaaGreatDoor
