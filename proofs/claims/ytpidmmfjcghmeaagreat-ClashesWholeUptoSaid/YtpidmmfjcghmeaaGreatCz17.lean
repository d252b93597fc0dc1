/- Towards clashesWhole_upto. -/
import Derived.Test.YtpidmmfjcghmeaaGreatCz10
import Derived.Deep.AppendSrc
import Derived.Lib.AppendZeros
import Derived.Laws.AppendOwn
import Derived.Laws.IdiomCopy
import Derived.Deep.Upon
import Derived.CallsIn
import Derived.Laws.MakeOwn
import Derived.RangeFuncLeaves
import Derived.LoopNIn
import Derived.ScopeJumps
import Derived.TacticsIn
set_option maxRecDepth 100000
set_option maxHeartbeats 16000000
set_option linter.all false
namespace Go.Proofs.YtpidmmfjcghmeaaGreat.Ab
open Go.RowKit
variable {P:Program} {σ:Sg} {W:World}
def Rs (W:World) (σ:Sg) (r:AV×H) (v:Value) (w':World):Prop:=∃ σ',Sg.le σ σ'∧VR σ' r.1 v∧HR W σ' r.2 w'
theorem DT {w:World} {b:Nat} {o:Obj} (h:w.heap[b]? = some o):World.upd w b o=w:=by
 unfold World.upd;have:w.heap.setIfInBounds b o=w.heap:=by
  apply Array.ext_getElem?;intro i;rw [Array.getElem?_setIfInBounds];by_cases e:b=i
  ·subst e;have hlt:b<w.heap.size:=(gL h).1;rw [if_pos rfl,if_pos hlt,h]
  ·rw [if_neg e]
 rw [this]
theorem fA {b:Nat} {ty:TypeId}:∀ (vs:List Value) (o:Nat) (c:List Value) (w:World),w.heap[b]? = some (.cells c.toArray ty (0,0))→w.setCells b o vs=World.upd w b (.cells (dM c o vs).toArray ty (0,0))
 | [],o,c,w,h=>(DT h).symm
 | v::vs,o,c,w,h=>by
  have hlt:b<w.heap.size:=(gL h).1;rw [World.setCells,iL h,dM];have e:c.toArray.setIfInBounds o v=(c.set o v).toArray:=by simp
  rw [e,fA vs (o+1) (c.set o v) _ (mY hlt),vW]
theorem eB {h:H} {w:World} (hr:HR W σ h w) (x:AO) (k:Nat) (o:Obj) (ho:OR σ x k (some o)):
  ∃ σ',Sg.le σ σ'∧σ' (h.new x).1=some (w.heap.size,k)∧HR W σ' (h.new x).2 (w.alloc o):=by
 obtain ⟨h1,h2⟩:=hr.new x k o ho;exact ⟨_,Sg.le_put h1 _,by simp [Sg.put],h2⟩
theorem nQ {x:AV} {v:Value} (hv:VR σ x v) (ty:Nat):OR σ (.cells (cellsOf x) ty) v.cells.size (some (.cells v.cells ty (0,0))):=by
 have h:=cH hv;have hl:=h.len;exact ⟨v.cells.toList,by simp,by simp,v.cells.toList,by rw [← hl],h,by rw [hl,List.take_length]⟩
theorem JD {x:AV} {v:Value} (h:VR σ x v) (hx:oneA x=true):v.oneCell'=true:=by
 cases h <;> first | rfl | simp [oneA] at hx
theorem ID {l:List AV} {c:List Value} (h:VL σ l c) (ha:l.all oneA=true):∀ v∈c,v.oneCell'=true:=by
 induction l generalizing c with
 | nil=>cases h;simp
 | cons x l ih=>
  cases h with
  | cons _ v _ c h1 h2=>
   simp only [List.all_cons,Bool.and_eq_true] at ha;intro u hu;cases hu with
   | head=>exact JD h1 ha.1
   | tail _ hm=>exact ih h2 ha.2 u hm
def eQ (z:List Value):Nat→List Value
 | 0=>[]
 | n+1=>z++eQ z n
theorem qD {z:List AV} {zv:List Value} (h:VL σ z zv):∀ n,VL σ (rep z n) (eQ zv n)
 | 0=>.nil
 | n+1=>h.append (qD h n)
theorem jI (z:List Value):∀ n,(eQ z n).length=n*z.length
 | 0=>by simp [eQ]
 | n+1=>by rw [eQ,gI,jI z n,Nat.succ_mul];omega
theorem sF (z:List Value):∀ n i,i<n*z.length→(eQ z n)[i]? = z[i % z.length]?
 | 0,i,h=>by simp at h
 | n+1,i,h=>by
  rw [eQ];by_cases hi:i<z.length
  ·rw [List.getElem?_append_left hi,Nat.mod_eq_of_lt hi]
  ·rw [List.getElem?_append_right (by omega),sF z n _ (by rw [Nat.succ_mul] at h;omega),← Nat.mod_eq_sub_mod (by omega)]
theorem qC (z:Array Value) (n m:Nat) (hm:m=n*z.size):(Array.range m).map (fun i=>z[i % z.size]!)=(eQ z.toList n).toArray:=by
 subst hm;apply Array.ext_getElem?;intro i;have hr:(eQ z.toList n).toArray[i]? = (eQ z.toList n)[i]? := by simp
 rw [Array.getElem?_map,hr];by_cases hi:i<n*z.size
 ·have h0:0<z.size:=Nat.pos_of_ne_zero fun e=>by rw [e] at hi;simp at hi
  rw [sF _ _ _ (by rw [Array.length_toList];exact hi),Array.length_toList];have h1:i % z.size<z.size:=Nat.mod_lt _ h0;simp [hi,h1]
 ·have hl:(eQ z.toList n).length=n*z.size:=by rw [jI];simp
  rw [List.getElem?_eq_none (by omega)];simp;omega
theorem fE (z:Array Value) (n:Nat):Builtin.zeroCells z n=(eQ z.toList n).toArray:=by
 unfold Builtin.zeroCells;exact qC z n _ rfl
theorem iM (b off:Nat) {c:List Value} {ty:TypeId} {w:World} (hc:w.heap[b]? = some (.cells c.toArray ty (0,0))) (m:Nat) (hm:off+m≤c.length):
  (∀ j,j<m→(w.cell? ⟨b,off+j,none⟩).isSome=true)∧(∀ j,j<m→w.frozen? ⟨b,off+j,none⟩=false):=by
 refine ⟨fun j hj=>?_,fun j hj=>?_⟩
 ·have:off+j<c.length:=by omega
  simp [World.cell?,hc,this]
 ·simp [World.frozen?,hc]
theorem dO {b off size n len cap:Nat} {c:List Value} {ty:TypeId} {w:World} (hc:w.heap[b]? = some (.cells c.toArray ty (0,0))) (hl:off+n*size≤c.length):
  (Builtin.firstCells size n (.slice (some ⟨b,off,none⟩) len cap)).run P w=.ok ((c.drop off).take (n*size)).toArray w:=by
 rw [Builtin.firstCells];exact F8 hc _ hl
theorem rG {h:H} {w:World} (hr:HR W σ h w) {size:Nat} {x:AV} {v:Value} {n m:Nat} {l:List AV} (hx:VR σ x v) (hn:needOf x=some n) (hl:firstA h size m x=some l):
  ∃ us,VL σ l us∧(Builtin.lenOf v=Sem.pure n)∧(Builtin.firstCells size m v).run P w=.ok us.toArray w∧(Builtin.firstCells size m v).run P w.drew=.ok us.toArray w.drew:=by
 unfold firstA at hl;cases x with
 | sl id off len cap=>
  simp only [needOf] at hn hl;cases hn
  split at hl
  ·rename_i row ty hg;obtain ⟨b,k,hb,_,_,ho⟩:=hr.obj _ _ hg;obtain ⟨c,hc,hck,hcl,hcv⟩:=ho.row;cases hx with
   | sl _ _ _ _ b' k' hb'=>
    obtain ⟨rfl,rfl⟩:b=b'∧k=k':=by rw [hb] at hb';simpa using hb'
    obtain ⟨h1,h2⟩:=eS hl hcv;rw [List.length_take] at h2;rw [List.drop_take,List.take_take,Nat.min_eq_left (by omega)] at h1;have hcd:(w.drew).heap[b]? = some (.cells c.toArray ty (0,0)):=hc;exact ⟨_,h1,rfl,dO hc (by omega),dO hcd (by omega)⟩
  ·cases hl
 | so id off len s=>
  simp only [needOf] at hn hl;cases hn
  split at hl
  ·rename_i row ty hg;obtain ⟨b,k,hb,_,_,ho⟩:=hr.obj _ _ hg;obtain ⟨c,hc,hck,hcl,hcv⟩:=ho.row;cases hx with
   | so _ _ _ _ b' k' cc hb' hkk=>
    obtain ⟨rfl,rfl⟩:b=b'∧k=k':=by rw [hb] at hb';simpa using hb'
    obtain ⟨h1,h2⟩:=eS hl hcv;rw [List.length_take] at h2;rw [List.drop_take,List.take_take,Nat.min_eq_left (by omega)] at h1;have hcd:(w.drew).heap[b]? = some (.cells c.toArray ty (0,0)):=hc;exact ⟨_,h1,rfl,dO hc (by omega),dO hcd (by omega)⟩
  ·cases hl
 | ns=>
  simp only [needOf] at hn hl;cases hn;cases hl;cases hx;exact ⟨[],.nil,rfl,rfl,rfl⟩
 | _=>simp only [needOf] at hn;cases hn
theorem ZIo {h:H} {w:World} (hr:HR W σ h w) {size tx:Nat} {x:AV} {v:Value} {n:Nat} {new:List AV} (hx:VR σ x v) (ha:addsA P h size tx x=some (n,new)):∃ us,VL σ new us∧Src P size tx v n us w:=by
 unfold addsA at ha
 split at ha
 ·rename_i y hu
  split at ha
  ·rename_i hs;subst hs;cases ha;cases hx;refine ⟨byteCells y, ?_,.ofString w hu y⟩;unfold byteCells;have:∀ l:List UInt8,VL σ (l.map fun b=>AV.i .u8 b.toNat) (l.map fun b=>Value.int .u8 b.toNat):=fun l=>by
    induction l with
    | nil=>exact .nil
    | cons b l ih=>exact .cons _ _ _ _ (.i _ _) ih
   exact this _
  ·cases ha
 ·cases ha
 ·rename_i e' hu _
  split at ha
  ·rename_i m hm
   split at ha
   ·rename_i l hl
    split at ha
    ·rename_i hlen;obtain ⟨hlen,hone⟩:=hlen;cases ha;obtain ⟨us,h1,h2,h3,h4⟩:=rG (P:=P) hr hx hm hl;exact ⟨us,h1,.inl ⟨_,hu⟩,fun w'=>by rw [h2];rfl,h3,h4,by rw [← h1.len];exact hlen,ID h1 hone⟩
    ·cases ha
   ·cases ha
  ·cases ha
 ·cases ha
theorem mJ:∀ (vs c:List Value) (off:Nat),off+vs.length≤c.length→dM c off vs=c.take off++vs++c.drop (off+vs.length)
 | [],c,off,_=>by simp [dM]
 | v::vs,c,off,h=>by
  simp only [gG] at h;rw [dM,mJ vs (c.set off v) (off+1) (by simp;omega)];have h1:(c.set off v).take (off+1)=c.take off++[v]:=by
   rw [List.take_add_one,List.take_set_of_le (gO _)]
   congr 1
   rw [List.getElem?_set_self (by omega)];rfl
  have h2:(c.set off v).drop (off+1+vs.length)=c.drop (off+(v::vs).length):=by
   rw [List.drop_set_of_lt (by omega)]
   congr 1
   simp only [gG];omega
  rw [h1,h2];simp
theorem uX {h:H} {w:World} (hr:HR W σ h w) {e size len n cap:Nat} {old new:List AV} {os ns rest:List Value} (ho:VL σ old os) (hn:VL σ new ns) (hol:os.length=len*size) (hnl:ns.length=n*size) (hrl:rest.length=(cap-(len+n))*size) (hc:len+n≤cap):
  Rs W σ (growA h e size len n old new) (.slice (some ⟨w.heap.size,0,none⟩) (len+n) cap) (w.drew.alloc (.cells (os++ns++rest).toArray e)):=by
 have h1:=ho.append hn;have hlen:=h1.len;have hk:(os++ns++rest).length=cap*size:=by
  simp only [gI,hol,hnl,hrl];rw [← Nat.add_mul,← Nat.add_mul];congr 1;omega
 obtain ⟨σ',h2,h3,h4⟩:=eB (w:=w.drew) hr.drew (.cells (old++new) e) (cap*size) (.cells (os++ns++rest).toArray e (0,0))
  ⟨_,rfl,hk,os++ns,by rw [hlen],h1,by rw [hlen,List.take_append_of_le_length (gO _),List.take_length]⟩
 exact ⟨σ',h2,.so _ _ _ _ _ _ cap h3 (by omega),h4⟩
theorem kJ {h:H} {w:World} (hr:HR W σ h w) {id b k:Nat} {l l' new:List AV} {ty off:Nat} {c ns:List Value} (hg:h.get id=some (.cells l ty)) (hb:σ id=some (b,k)) (hc:w.heap[b]? = some (.cells c.toArray ty (0,0))) (hck:c.length=k)
  (hcl:l.length≤c.length) (hcv:VL σ l (c.take l.length)) (hp:putL l off new=some l') (hn:VL σ new ns):HR W σ (h.set id (some (.cells l' ty))) (w.setCells b off ns):=by
 rw [fA _ _ c w hc];exact hr.upd hg hb (OR.put hck hcl hcv hp hn)
theorem wH {h:H} {w:World} (hr:HR W σ h w) {t tx:Nat} {s x:AV} {sv xv:Value} (hs:VR σ s sv) (hx:VR σ x xv) {r:AV×H} (ha:appendA P h t tx s x=some r) (ty:TypeId):
  ∃ v w',(Builtin.append_ #[t,tx] ty #[sv,xv]).run P w=.ok v w'∧Rs W σ r v w':=by
 unfold appendA at ha
 split at ha
 rotate_left
 ·cases ha
 rename_i e ht
 split at ha
 ·cases ha
 rename_i i hi
 split at ha
 ·cases ha
 rename_i zv hz
 split at ha
 ·cases ha
 rename_i z hzv
 split at ha
 ·cases ha
 rename_i hcond;have hi0:0<i.size:=Nat.pos_of_ne_zero fun e=>hcond (.inl e);have hib:i.bytes≤1000:=Nat.le_of_not_lt fun e=>hcond (.inr (.inl e));have hzl:zv.cells.size=i.size:=Classical.byContradiction fun e=>hcond (.inr (.inr e));clear hcond;have hzr:=cH (σ:=σ) (kA hzv);have fit:∀ {need old:Nat},old<need→need≤2000000→Builtin.nextslicecap need old*i.bytes≤281474976710656:=fun {need old} h1 h2=>by
  have h3:=nextslicecap_le h1
  calc Builtin.nextslicecap need old*i.bytes≤(2*need)*1000:=Nat.mul_le_mul h3 hib
   _≤281474976710656:=by omega
 have rest:∀ m,(eQ zv.cells.toList m).length=m*i.size:=fun m=>by rw [jI,Array.length_toList,hzl]
 split at ha
 ·rename_i kk hu
  split at ha
  rotate_left
  ·cases ha
  rename_i n hn
  split at ha
  ·cases ha
  rename_i hlt;cases ha;cases hs;obtain ⟨k,rfl⟩:=iJ hn hx;have h0:0<n:=Nat.pos_of_ne_zero fun e=>hlt (.inl e);have h1:n≤1000000:=Nat.le_of_not_lt fun e=>hlt (.inr e);have hrun:=Lib.run_append_nil_zeros w t tx ty e i zv k kk ht hu hi hz n h0 hi0 (by omega) (by
   calc n*i.bytes≤1000000*1000:=Nat.mul_le_mul h1 hib
    _≤281474976710656:=by omega)
  refine ⟨_,_,hrun, ?_⟩;have hg:=uX hr (e:=e) (size:=i.size) (len:=0) (n:=n) (cap:=grownCap w n 0 e) (old:=[]) (os:=[]) (rest:=eQ zv.cells.toList (grownCap w n 0 e-n)) .nil (qD hzr n) (by simp) (rest n) (by rw [rest];simp) (by simpa using grownCap_ge w n 0 e);simp only [Nat.zero_add,List.nil_append] at hg;rw [fE zv.cells n,fE zv.cells,List.append_toArray];exact hg
 ·cases ha
 ·rename_i d s' x' hd hu
  split at ha
  ·cases ha
  rename_i n new hadd
  split at ha
  ·cases ha
  rename_i hn1;have hn1:n≤1000000:=Nat.le_of_not_lt hn1;obtain ⟨us,hus,hsrc⟩:=ZIo (P:=P) hr hx hadd
  -- a new row,in place of one of known cells
  have grows:∀ {h1:H} {σ1:Sg} {base:Option Addr} {sLen sCap:Nat} {old:List AV} {os:List Value},HR W σ1 h1 w→Sg.le σ σ1→VL σ1 old os→os.length=sLen*i.size→(Builtin.firstCells i.size sLen (.slice base sLen sCap)).run P w.drew=.ok os.toArray w.drew→
    sCap<sLen+n→sLen≤1000000→
    ∃ v w',(Builtin.append_ #[t,tx] ty #[.slice base sLen sCap,xv]).run P w=.ok v w'∧Rs W σ (growA h1 e i.size sLen n old new) v w':=by
   intro h1 σ1 base sLen sCap old os hr1 hle ho hol hold hg hl;have hrun:=run_append_grow_src w t tx ty e i zv ht hi hz base sLen sCap os hold xv n us hsrc hg (by omega) (fit hg (by omega));refine ⟨_,_,hrun, ?_⟩;have hgo:=uX hr1 (e:=e) (size:=i.size) (len:=sLen) (n:=n) (cap:=grownCap w (sLen+n) sCap e) (rest:=eQ zv.cells.toList (grownCap w (sLen+n) sCap e-(sLen+n))) ho (hus.mono hle) hol hsrc.newsLen (rest _) (grownCap_ge _ _ _ _);rw [fE zv.cells,List.append_toArray];obtain ⟨σ',h2,h3⟩:=hgo;exact ⟨σ',Sg.le_trans hle h2,h3⟩
  split at ha
  ·split at ha
   ·rename_i hn0;subst hn0;cases ha;cases hs;obtain rfl:us=[]:=List.eq_nil_of_length_eq_zero (by rw [hsrc.newsLen];simp);exact ⟨.slice none 0 0,w,run_append_nothing w t tx ty e i ht hi none 0 0 (gO _) xv hsrc,σ,Sg.le_refl _,.ns,hr⟩
   ·rename_i hn0;cases ha;cases hs;have:=grows (sLen:=0) (sCap:=0) (base:=none) (old:=[]) (os:=[]) hr (Sg.le_refl _) .nil (by simp) rfl (by omega) (by omega);exact this
  ·rename_i id off len cap
   split at ha
   ·cases ha
   rename_i hb0;have hcap:cap≤1000000:=Nat.le_of_not_lt fun e=>hb0 (.inl e);have hlen:len≤1000000:=Nat.le_of_not_lt fun e=>hb0 (.inr e)
   split at ha
   rotate_left
   ·cases ha
   rename_i l ty' hg;obtain ⟨b,k,hb,_,_,hor⟩:=hr.obj _ _ hg;obtain ⟨c,hc,hck,hcl,hcv⟩:=hor.row;cases hs with
   | sl _ _ _ _ b' k' hb'=>
    obtain ⟨rfl,rfl⟩:b=b'∧k=k':=by rw [hb] at hb';simpa using hb'
    split at ha
    ·rename_i hroom
     split at ha
     rotate_left
     ·cases ha
     rename_i l' hp;cases ha;have hm:off+len*i.size+us.length≤c.length∨us=[]:=by
      cases us with
      | nil=>exact .inr rfl
      | cons u us=>
       have:=(eP hp).2 (fun e=>by rw [e] at hus;cases hus);have hl:=hus.len;exact .inl (by omega)
     have hrm:(∀ j,j<us.length→(w.cell? ⟨b,off+len*i.size+j,none⟩).isSome=true)∧(∀ j,j<us.length→w.frozen? ⟨b,off+len*i.size+j,none⟩=false):=by
      rcases hm with hm | rfl
      ·exact iM b (off+len*i.size) hc us.length hm
      ·exact ⟨fun j hj=>by simp at hj,fun j hj=>by simp at hj⟩
     exact ⟨_,_,run_append_room_src w t tx ty e i ht hi b off len cap xv n us hsrc hroom hrm.1 hrm.2,σ,Sg.le_refl _,.sl _ _ _ _ b k hb,kJ hr hg hb hc hck hcl hcv hp hus⟩
    ·rename_i hroom
     split at ha
     rotate_left
     ·cases ha
     rename_i old hold;cases ha;obtain ⟨h1,h2⟩:=eS hold hcv;rw [List.length_take] at h2;rw [List.drop_take,List.take_take,Nat.min_eq_left (by omega)] at h1;exact grows hr (Sg.le_refl _) h1 (by rw [List.length_take,List.length_drop];omega) (dO (w:=w.drew) hc (by omega)) (by omega) hlen
  ·rename_i id off len s2
   split at ha
   ·cases ha
   rename_i hb0;have hs2:s2=i.size:=Classical.byContradiction fun e=>hb0 (.inl e);have hlen:len≤1000000:=Nat.le_of_not_lt fun e=>hb0 (.inr e);subst hs2
   split at ha
   rotate_left
   ·cases ha
   rename_i l ty' hg;obtain ⟨b,k,hb,hWb,hblt,hor⟩:=hr.obj _ _ hg;obtain ⟨c,hc,hck,hcl,hcv⟩:=hor.row;cases hs with
   | so _ _ _ _ b' k' cap hb' hkk=>
    obtain ⟨rfl,rfl⟩:b=b'∧k=k':=by rw [hb] at hb';simpa using hb'
    split at ha
    ·rename_i hroom;have hcap:len+n≤cap:=Nat.le_of_mul_le_mul_right (by omega:(len+n)*i.size≤cap*i.size) hi0
     split at ha
     rotate_left
     ·cases ha
     rename_i l' hp;cases ha;have hul:=hsrc.newsLen;have hrm:=iM b (off+len*i.size) hc us.length (by rw [hul];rw [Nat.add_mul] at hroom;omega);exact ⟨_,_,run_append_room_src w t tx ty e i ht hi b off len cap xv n us hsrc hcap hrm.1 hrm.2,σ,Sg.le_refl _,.so _ _ _ _ b k cap hb hkk,kJ hr hg hb hc hck hcl hcv hp hus⟩
    ·rename_i hroom
     split at ha
     rotate_left
     ·cases ha
     rename_i hoff;obtain ⟨rfl,rfl⟩:=hoff
     split at ha
     rotate_left
     ·cases ha
     rename_i old hold;cases ha;obtain ⟨h1,h2⟩:=eS hold hcv;rw [List.length_take] at h2;rw [List.drop_take,List.take_take,Nat.min_eq_left (by omega),List.drop_zero] at h1;by_cases hcap:len+n≤cap
     ·have hul:=hsrc.newsLen;have hfit:0+len*i.size+us.length≤c.length:=by
       have:(len+n)*i.size≤cap*i.size:=Nat.mul_le_mul_right _ hcap;rw [Nat.add_mul] at this;omega
      have hrm:=iM b (0+len*i.size) hc us.length hfit;refine ⟨_,_,run_append_room_src w t tx ty ty' i ht hi b 0 len cap xv n us hsrc hcap hrm.1 hrm.2, ?_⟩;have hw:w.setCells b (0+len*i.size) us=World.upd w b (.cells (dM c (0+len*i.size) us).toArray ty' (0,0)):=fA _ _ c w hc;have hloose:=hr.loose hg hb (.cells (dM c (0+len*i.size) us).toArray ty' (0,0));obtain ⟨σ',h3,h4,h5⟩:=hloose.place (w':=World.upd w b (.cells (dM c (0+len*i.size) us).toArray ty' (0,0))) (.cells (old++new) ty') (b:=b) (k:=k) hWb (by simpa [World.upd] using hblt) (gO _)
       (fun σ' hle=>by
        rw [mY hblt];have h6:=(h1.mono hle).append (hus.mono hle);have h7:=h6.len;refine ⟨_,rfl,by rw [jG];exact hck,c.take (len*i.size)++us,h7.symm,h6, ?_⟩;rw [mJ _ _ _ hfit,Nat.zero_add,h7,List.take_append_of_le_length (gO _),List.take_length])
       (fun j o b2 k2 hj hb2=>by
        refine ⟨fun e=>?_,rfl⟩;subst e;have hgj:(h.set id none).get j=if j=id then none else h.get j:=T.get_set _ _ _ _;have hji:j≠id:=fun e=>by rw [hgj,if_pos e] at hj;cases hj
        rw [hgj,if_neg hji] at hj;exact hji (hr.inj j id b2 k2 k (by rw [hj];simp) (by rw [hg];simp) hb2 hb))
       hloose.bel
      rw [hw];exact ⟨σ',h3,.so _ _ _ _ b k cap h4 hkk,h5⟩
     ·exact grows (hr.drop id) (Sg.le_refl _) h1 (by rw [List.length_take];omega) (dO (w:=w.drew) hc (by omega)) (by omega) hlen
  ·cases ha
 ·cases ha
end Go.Proofs.YtpidmmfjcghmeaaGreat.Ab
namespace Go.Proofs.YtpidmmfjcghmeaaGreat.Ab
open Go.RowKit
variable {P:Program} {σ:Sg} {W:World}
inductive Does (P:Program) (y:Bool) (o:Oper) (a:Act) (w:World) (R:Value→World→Prop):Prop
 | val (v w'):(execOp a.eval o).run P w=.ok (.value v) w'→R v w'→Does P y o a w R
 | skp (w'):(execOp a.eval o).run P w=.ok .skip w'→R Go.undef w'→Does P y o a w R
 | ent (k args w'):(execOp a.eval o).run P w=.ok (.enter k args) w'→Calls P k args w' (fun e w''=>∃ v,e=.returned v∧R v w'')→Does P y o a w R
 | rnd (l fn tmps aj body w'):y=true→(execOp a.eval o).run P w=.ok (.round l fn tmps aj body) w'→RoundIn Fence.wide 0 P l fn tmps aj body w' (fun e w''=>∃ v,e=.returned v∧R v w'')→Does P y o a w R
structure CallOK (P:Program) (W:World) (call:aZ):Prop where
 fn:∀ k args h r,call (.fn k) args h=some r→∀ σ w us,HR W σ h w→VL σ args us→
  (callFunc k us.toArray).run P w=.ok (.enter k us.toArray) w∧Calls P k us.toArray w (fun e w'=>∃ v,e=.returned v∧Rs W σ r v w')
 yl:∀ l args h r,call (.yl l) args h=some r→∀ σ w us b k,HR W σ h w→VL σ args us→σ l=some (b,k)→
  ∃ fn tmps aj body,(Instr.yield b us.toArray).run P w=.ok (.round b fn tmps aj body) w∧RoundIn Fence.wide 0 P b fn tmps aj body w (fun e w'=>∃ v,e=.returned v∧Rs W σ r v w')
theorem pT {h:H} {w:World} (hr:HR W σ h w) {id b k:Nat} {es:Array MapEntry} {cl:Nat} (hg:h.get id=some (.map es cl)) (hb:σ id=some (b,k)):w.heap[b]? = some (.map es cl):=by
 obtain ⟨b',k',hb',_,_,ho⟩:=hr.obj _ _ hg;obtain ⟨rfl,rfl⟩:b'=b∧k'=k:=by rw [hb] at hb';simpa using hb'.symm
 exact ho
theorem dV {w:World} {b:Nat} {o:Obj} (h:w.heap[b]? = some o) (hn:∀ c e f,o≠.cells c e f):(getObj b).run P w=.ok o w:=by
 unfold getObj;cases o <;> first | exact absurd rfl (hn _ _ _) | simp [Sem.run,h]
theorem dC {w:World} {b:Nat} {o o':Obj} (h:w.heap[b]? = some o) (hn:∀ c e f,o≠.cells c e f):(setObj b o').run P w=.ok () (World.upd w b o'):=by
 unfold setObj World.upd;cases o <;> first | exact absurd rfl (hn _ _ _) | simp [Sem.run,h]
theorem pK {kt:Nat} {es:Array MapEntry} {emp:Bool} {kv:Value} {r:Option (Nat×Value)} (h:mapFind P kt es emp kv=some r) (w:World):
  (Instr.checkKey emp 10000 kt kv).run P w=.ok () w∧(Instr.findKey kt kv es.toList).run P w=.ok r w:=by
 unfold mapFind at h
 split at h
 ·rename_i u hu;exact ⟨dU hu w,dU h w⟩
 ·cases h
theorem oF {h:H} {w:World} (hr:HR W σ h w) {t kt e id:Nat} {es:Array MapEntry} {cl:Nat} {kv:Value} {z:AV} {ok:Bool} {mv:Value} (hu:P.underlying t=some (.map kt e)) (hm:VR σ (.mp id) mv) (hg:h.get id=some (.map es cl)) (hz:zeroOf P e=some z)
  {r:Option (Nat×Value)} (hf:mapFind P kt es es.isEmpty kv=some r):
  (∀ i v x,r=some (i,v)→ofV v=some x→∃ u,VR σ (okA ok x true) u∧(Instr.lookup t mv kv ok).run P w=.ok u w)∧
  (r=none→∃ u,VR σ (okA ok z false) u∧(Instr.lookup t mv kv ok).run P w=.ok u w):=by
 cases hm with
 | mp _ b k hb=>
  have hrow:=pT hr hg hb;have hgo:=dV (P:=P) hrow (fun _ _ _ e=>by cases e);obtain ⟨h1,h2⟩:=pK hf w;constructor
  ·intro i v x hr' hv;subst hr';refine ⟨if ok then .tuple #[v,.bool true] else v, ?_, ?_⟩
   ·have:=kA (σ:=σ) hv;cases ok
    ·exact this
    ·exact .tup _ [v,.bool true] (.cons _ _ _ _ this (.cons _ _ _ _ (.b _) .nil))
   ·unfold Instr.lookup;rw [Sem.run_bind,aY hu,Result.andThen_ok];simp only [Sem.run_bind,hgo,Result.andThen_ok,cU,h1,h2]
  ·intro hr';subst hr';obtain ⟨zv,hzv,hzr⟩:=eR (σ:=σ) hz;refine ⟨if ok then .tuple #[zv,.bool false] else zv, ?_, ?_⟩
   ·cases ok
    ·exact hzv
    ·exact .tup _ [zv,.bool false] (.cons _ _ _ _ hzv (.cons _ _ _ _ (.b _) .nil))
   ·unfold Instr.lookup;rw [Sem.run_bind,aY hu,Result.andThen_ok];simp only [Sem.run_bind,hgo,Result.andThen_ok,cU,h1,h2,hzr]
theorem DS {f:F} {h:H} {a:Act} {w:World} (hf:FT σ f.n f.t a.tmps) (hr:HR W σ h w) {t:Nat} {m k v:Operand} {r:AV×H} (hx:updA P f h t m k v=some r):
  ∃ w',(Instr.mapUpdate t (a.eval m) (a.eval k) (a.eval v)).run P w=.ok () w'∧Rs W σ r Go.undef w':=by
 unfold updA at hx
 split at hx
 rotate_left
 ·cases hx
 rename_i kt e id kx vx hu hm hk hv
 split at hx
 rotate_left
 ·cases hx
 rename_i kv vv es cl hkv hvv hg;have ek:=mX hkv (aU hf hk);have ev:=mX hvv (aU hf hv);have hmv:=aU hf hm;cases hm':a.eval m <;> rw [hm'] at hmv <;> cases hmv;rename_i b kk hb;have hrow:=pT hr hg hb;have hgo:=dV (P:=P) hrow (fun _ _ _ e=>by cases e);rw [ek,ev]
 split at hx
 ·rename_i i u hfd;obtain ⟨h1,h2⟩:=pK hfd w
  split at hx
  rotate_left
  ·cases hx
  rename_i key hkey;cases hx;have h3:=dU hkey w;refine ⟨_, ?_,σ,Sg.le_refl _,.und,hr.upd (y:=.map (es.modify i fun e=>{ e with key,val:=vv }) cl) hg hb rfl⟩;unfold Instr.mapUpdate;rw [Sem.run_bind,aY hu,Result.andThen_ok];simp only [Sem.run_bind,hgo,Result.andThen_ok,h1,h2,h3];exact dC hrow (fun _ _ _ e=>by cases e)
 ·rename_i hfd;obtain ⟨h1,h2⟩:=pK hfd w;cases hx;refine ⟨_, ?_,σ,Sg.le_refl _,.und,hr.upd (y:=.map (es.push { key:=kv,val:=vv,born:=cl }) (cl+1)) hg hb rfl⟩;unfold Instr.mapUpdate;rw [Sem.run_bind,aY hu,Result.andThen_ok];simp only [Sem.run_bind,hgo,Result.andThen_ok,h1,h2];exact dC hrow (fun _ _ _ e=>by cases e)
 ·cases hx
theorem xX {e:Nat} {zv:Value} (h:∀ w,(zeroValue e).run P w=.ok zv w) (w:World):(Instr.alloc e true (.tuple #[])).run P w=.ok (.pointer (some ⟨w.heap.size,0,none⟩)) (w.alloc (.cells zv.cells e)):=by
 unfold Instr.alloc;rw [Sem.run_bind,h,Result.andThen_ok];rfl
theorem FJ (e:Nat) (v:Value) (w:World):(Instr.box e v).run P w=.ok (.pointer (some ⟨w.heap.size,0,none⟩)) (w.alloc (.cells v.cells e)):=rfl
theorem EB {h:H} {w:World} (hr:HR W σ h w) {t tx e id off dl cap n k:Nat} {l l' new:List AV} {ty:Nat} {x:AV} {xv dv:Value} (hu:P.underlying t=some (.slice e)) (hs:sz P e=some 1) (hd:VR σ (.sl id off dl cap) dv) (hx:VR σ x xv) (hn:needOf x=some n)
  (hfa:firstA h 1 (Nat.min n dl) x=some new) (hg:h.get id=some (.cells l ty)) (hlen:new.length=Nat.min n dl) (hone:new.all oneA=true) (hp:putL l off new=some l'):
  ∃ w',(Builtin.copy_ #[t,tx] k #[dv,xv]).run P w=.ok (.int .i64 (Nat.min n dl:Nat)) w'∧HR W σ (h.set id (some (.cells l' ty))) w':=by
 obtain ⟨us,h1,h2,h3,h4⟩:=rG (P:=P) hr hx hn hfa;cases hd with
 | sl _ _ _ _ b kk hb=>
  obtain ⟨b',k',hb',_,_,hor⟩:=hr.obj _ _ hg;obtain ⟨rfl,rfl⟩:b'=b∧k'=kk:=by rw [hb] at hb';simpa using hb'.symm
  obtain ⟨c,hc,hck,hcl,hcv⟩:=hor.row;have hl1:=h1.len;unfold Builtin.copy_;simp only [List.getElem?_toArray,List.getElem?_cons_zero,List.getElem?_cons_succ];have hlo:(Builtin.lenOf xv).run P w=.ok n w:=by rw [h2];rfl
  rw [Sem.run_bind,aY hu,Result.andThen_ok];simp only [Sem.run_bind,hlo,Result.andThen_ok,dW hs,h3];cases us with
  | nil=>
   have h0:new=[]:=List.eq_nil_of_length_eq_zero (by rw [hl1];rfl);subst h0;simp only [putL] at hp;cases hp;refine ⟨w, ?_,hr.same_set hg⟩;simp [storeCells,goInt]
  | cons u us=>
   have h5:=(eP hp).2 (fun e=>by rw [e] at h1;cases h1);have hst:=stores (P:=P) (off:=off) (u::us) 0 c w hc (by omega) (GB h1 hone) (by simp);refine ⟨_, ?_,hr.upd hg hb (OR.put hck hcl hcv hp h1)⟩;simp only [hst,Result.andThen_ok,cU,goInt];rfl
theorem nD {h:H} {w:World} (hr:HR W σ h w) {t e n len:Nat} {z:AV} {ps:List (Nat×AV)} {qs:List (Nat×Value)} {c:List AV} (hu:P.underlying t=some (.slice e)) (hn:sz P e=some n) (hz:zeroOf P e=some z) (hsz:len*n≤1000000) (hzl:(cellsOf z).length=n)
  (hp:PL σ ps qs) (hf:fillA (fun i=>some (i*n,n)) (rep (cellsOf z) len) ps=some c):
  ∃ v w',(Instr.buildSlice t len qs.toArray).run P w=.ok v w'∧Rs W σ (AV.sl (h.new (.cells c e)).1 0 len len,(h.new (.cells c e)).2) v w':=by
 obtain ⟨zv,hzv,hzr⟩:=eR (σ:=σ) hz;have hzc:=cH hzv;obtain ⟨c',h1,h2⟩:=kS hf hp (qD hzc len);have hzs:zv.cells.size=n:=by rw [← hzl,hzc.len,Array.length_toList]
 obtain ⟨σ',h3,h4,h5⟩:=eB hr (.cells c e) c'.length (.cells c'.toArray e (0,0)) ⟨c',rfl,rfl,c',h2.len.symm,h2,by rw [h2.len,List.take_length]⟩;refine ⟨_,_, ?_,σ',h3,.sl _ _ _ _ _ _ h4,h5⟩;unfold Instr.buildSlice;rw [Sem.run_bind,aY hu,Result.andThen_ok];simp only [];rw [Sem.run_bind,dW hn,Result.andThen_ok,if_neg (by omega)];by_cases h0:len*n=0
 ·have h6:(eQ zv.cells.toList len).length=0:=by rw [jI,Array.length_toList,hzs];exact h0
  have h7:=List.eq_nil_of_length_eq_zero h6;rw [h7] at h1;have h8:(Array.range (len*n)).map (fun x=>(#[]:Array Value)[x % (#[]:Array Value).size]!)=([]:List Value).toArray:=by rw [h0];simp
  rw [if_pos h0];simp only [aS,h8,h1];rfl
 ·have h8:(Array.range (len*n)).map (fun x=>zv.cells[x % zv.cells.size]!)=(eQ zv.cells.toList len).toArray:=qC _ _ _ (by rw [hzs]);rw [if_neg h0,Sem.run_bind,hzr,Result.andThen_ok];simp only [aS,h8,h1];rfl
theorem EZ {h:H} {w:World} (hr:HR W σ h w) {t e n m:Nat} {k1 k2:IntKind} {z:AV} {inf:TypeInfo} (hu:P.underlying t=some (.slice e)) (hz:zeroOf P e=some z) (hi:P.info? e=some inf) (hn:n≤m) (hm:m≤1000000) (hb:inf.bytes≤1000) (hzl:(cellsOf z).length=inf.size):
  ∃ v w',(Instr.makeSlice t (.int k1 (n:Int)) (.int k2 (m:Int))).run P w=.ok v w'∧Rs W σ (AV.sl (h.new (.cells (rep (cellsOf z) m) e)).1 0 n m,(h.new (.cells (rep (cellsOf z) m) e)).2) v w':=by
 have hz':=hz;unfold zeroOf at hz';rw [hi] at hz';simp only at hz'
 split at hz'
 rotate_left
 ·cases hz'
 rename_i zv hzv;have hzr:=cH (σ:=σ) (kA hz');have hzs:zv.cells.size=inf.size:=by rw [← hzl,hzr.len,Array.length_toList]
 have hrun:=run_make (P:=P) w t e inf zv hu hi hzv k1 k2 (n:Int) (m:Int) (by omega) (by omega) (by
  have:inf.bytes*m≤1000*1000000:=Nat.mul_le_mul hb hm;rw [← Int.natCast_mul];omega) (by omega)
 have hrp:=qD hzr m;have hmade:madeCells zv.cells (m*inf.size)=(eQ zv.cells.toList m).toArray:=by
  unfold madeCells;exact qC _ _ _ (by rw [hzs])
 obtain ⟨σ',h3,h4,h5⟩:=eB hr (.cells (rep (cellsOf z) m) e) (eQ zv.cells.toList m).length (.cells (eQ zv.cells.toList m).toArray e (0,0)) ⟨_,rfl,rfl,_,hrp.len.symm,hrp,by rw [hrp.len,List.take_length]⟩;refine ⟨_,_,hrun,σ',h3, ?_, ?_⟩
 ·simp only [Int.toNat_natCast];exact .sl _ _ _ _ _ _ h4
 ·simp only [Int.toNat_natCast];rw [hmade];exact h5
theorem nS (ρ:Operand→Value) (dst:Option Tmp) (g:Operand) (xs:Array Operand) (ats:Array TypeId) (ty:TypeId) (pos:String) (af:Array Edge) (gd:Option (Nat×Bool)):
  execOp ρ ⟨dst,.call ⟨.value g,xs,ats⟩,ty,pos,af,gd⟩=(do let d ← Deferred.ofValue (ρ g) (xs.map ρ);invoke d.target d.args):=rfl
theorem GN {call:aZ} (hcall:CallOK P W call) {y:Bool} (hy:y=false→∀ l args h,call (.yl l) args h=none) {f:F} {h:H} {a:Act} {w:World} (hf:FT σ f.n f.t a.tmps) (hr:HR W σ h w) {o:Oper} {r:AV×H} (hx:effA P call f h o=some r):Does P y o a w (Rs W σ r):=by
 obtain ⟨dst,op,ty,pos,af,gd⟩:=o;cases op with
 | load t p=>
  simp only [effA,loadE] at hx
  split at hx
  ·rename_i pv hp
   split at hx
   ·rename_i v hv;cases hx;obtain ⟨u,h1,h2⟩:=kU (P:=P) hr (aU hf hp) hv;exact .val u w (bH h2) ⟨σ,Sg.le_refl _,h1,hr⟩
   ·cases hx
  ·cases hx
 | alloc e=>
  simp only [effA,allocE] at hx
  split at hx
  ·rename_i z hz;cases hx;obtain ⟨zv,hzv,hzr⟩:=eR (σ:=σ) hz;obtain ⟨σ',h3,h4,h5⟩:=eB hr _ _ _ (nQ hzv e);exact .val _ _ (bH (xX hzr w)) ⟨σ',h3,.ptr _ _ _ _ h4,h5⟩
  ·cases hx
 | box e y'=>
  simp only [effA,boxE] at hx
  split at hx
  ·rename_i v hv;cases hx;obtain ⟨σ',h3,h4,h5⟩:=eB hr _ _ _ (nQ (aU hf hv) e);exact .val _ _ (bH (FJ e _ w)) ⟨σ',h3,.ptr _ _ _ _ h4,h5⟩
  ·cases hx
 | buildSlice t len parts=>
  simp only [effA,buildSliceE] at hx
  split at hx
  ·rename_i e ps hu hps
   split at hx
   ·rename_i n z hn hz
    split at hx
    ·cases hx
    ·rename_i hc
     split at hx
     ·rename_i c hfl;cases hx;have hparts:(parts.map fun (i,x)=>(i,a.eval x))=(parts.toList.map fun p=>(p.1,a.eval p.2)).toArray:=by
       apply Array.ext';simp
      obtain ⟨v,w',h1,h2⟩:=nD hr hu hn hz (Nat.le_of_not_lt fun e=>hc (.inr (.inl e))) (Classical.byContradiction fun e=>hc (.inr (.inr e))) (pI hf hps) hfl;exact .val v w' (bH (by rw [hparts];exact h1)) h2
     ·cases hx
   ·cases hx
  ·cases hx
 | store t p x=>
  simp only [effA,storeE] at hx
  split at hx
  ·rename_i pv v hp hv
   split at hx
   ·rename_i h' hs;cases hx;obtain ⟨w',h1,h2⟩:=DE (P:=P) hr (aU hf hp) (aU hf hv) hs;refine .skp w' ?_ ⟨σ,Sg.le_refl _,.und,h2⟩;simp only [execOp];rw [Sem.run_bind,h1,Result.andThen_ok];rfl
   ·cases hx
  ·cases hx
 | makeMap t rv=>
  cases rv with
  | none=>
   simp only [effA] at hx;cases hx;obtain ⟨σ',h3,h4,h5⟩:=eB hr (.map #[] 0) 0 (.map #[] 0) rfl;exact .val (.map (some w.heap.size)) (w.alloc (.map #[] 0)) (bH rfl) ⟨σ',h3,.mp _ _ _ h4,h5⟩
  | some rv=>simp only [effA] at hx;cases hx
 | makeSlice t l c=>
  simp only [effA,makeSliceE] at hx
  split at hx
  ·rename_i e lv cv hu hl hc
   split at hx
   ·rename_i n m z inf hn hm hz hi
    split at hx
    ·rename_i hcond;cases hx;obtain ⟨k1,e1⟩:=iJ hn (aU hf hl);obtain ⟨k2,e2⟩:=iJ hm (aU hf hc);obtain ⟨v,w',h1,h2⟩:=EZ (P:=P) (k1:=k1) (k2:=k2) hr hu hz hi hcond.1 hcond.2.1 hcond.2.2.2.2.1 hcond.2.2.2.2.2;exact .val v w' (bH (by rw [e1,e2];exact h1)) h2
    ·cases hx
   ·cases hx
  ·cases hx
 | lookup t m k ok=>
  simp only [effA,lookupE] at hx
  split at hx
  ·rename_i kt e id kv hu hm hk
   split at hx
   ·rename_i kvv es cl z hkv hg hz;have ek:=mX hkv (aU hf hk)
    split at hx
    ·rename_i i v hfd
     split at hx
     ·rename_i x hv;cases hx;obtain ⟨u,h1,h2⟩:=(oF (ok:=ok) hr hu (aU hf hm) hg hz hfd).1 _ _ _ rfl hv;exact .val u w (bH (by rw [ek];exact h2)) ⟨σ,Sg.le_refl _,h1,hr⟩
     ·cases hx
    ·rename_i hfd;cases hx;obtain ⟨u,h1,h2⟩:=(oF (ok:=ok) hr hu (aU hf hm) hg hz hfd).2 rfl;exact .val u w (bH (by rw [ek];exact h2)) ⟨σ,Sg.le_refl _,h1,hr⟩
    ·cases hx
   ·cases hx
  ·cases hx
 | mapUpdate t m k v=>
  obtain ⟨w',h1,h2⟩:=DS (P:=P) hf hr hx;refine .skp w' ?_ h2;simp only [execOp];rw [Sem.run_bind,h1,Result.andThen_ok];rfl
 | insert t m k v=>
  obtain ⟨w',h1,h2⟩:=DS (P:=P) hf hr hx;refine .skp w' ?_ h2;simp only [execOp];rw [Sem.run_bind,h1,Result.andThen_ok];rfl
 | call c=>
  obtain ⟨callee,args,ats⟩:=c;simp only [effA,callE] at hx
  split at hx
  ·cases hx
  rename_i aj has;obtain ⟨us,hus,hvs⟩:=lU hf has
  split at hx
  ·rename_i b;obtain ⟨cs,hcs⟩:=i4 a.eval dst b args ats ty pos af gd;unfold effB at hx
   split at hx
   ·rename_i s x t tx hats;cases hvs with
    | cons _ sv _ _ h1 h2=>cases h2 with
     | cons _ xv _ _ h3 h4=>
      cases h4;obtain ⟨v,w',h5,h6⟩:=wH (P:=P) hr h1 h3 hx ty;refine .val v w' ?_ h6;rw [hcs,hus,show ats=#[t,tx] by rw [← hats]];exact bH h5
   ·rename_i id t hats
    split at hx
    ·rename_i kt e es cl hu hg;cases hx;cases hvs with
     | cons _ mv _ _ h1 h2=>
      cases h2;cases h1 with
      | mp _ b k hb=>
       have hrow:=pT hr hg hb;have hgo:=dV (P:=P) hrow (fun _ _ _ e=>by cases e);refine .val (.int .i64 es.size) w ?_ ⟨σ,Sg.le_refl _,.i _ _,hr⟩;rw [hcs,hus,show ats=#[t] by rw [← hats]];refine bH ?_;unfold Builtin.len_;simp only [List.getElem?_toArray,List.getElem?_cons_zero];rw [Sem.run_bind,aY hu,Result.andThen_ok];simp only [];rw [Sem.run_bind,hgo,Result.andThen_ok];rfl
    ·cases hx
   ·rename_i d x t tx hats
    split at hx
    ·rename_i e id off dl cap n hu hn
     split at hx
     ·rename_i hs
      split at hx
      ·rename_i new l ty' hfa hg
       split at hx
       ·rename_i hcond
        split at hx
        ·rename_i l' hp;cases hx;cases hvs with
         | cons _ dv _ _ h1 h2=>cases h2 with
          | cons _ xv _ _ h3 h4=>
           cases h4;obtain ⟨w',h5,h6⟩:=EB (P:=P) (tx:=tx) (k:=ty) hr hu hs h1 h3 hn hfa hg hcond.1 hcond.2 hp;refine .val _ w' ?_ ⟨σ,Sg.le_refl _,.i _ _,h6⟩;rw [hcs,hus,show ats=#[t,tx] by rw [← hats]];exact bH h5
        ·cases hx
       ·cases hx
      ·cases hx
     ·cases hx
    ·cases hx
   ·cases hx
  ·rename_i g
   split at hx
   ·rename_i k first cap hg
    have hgv:=aU hf hg;cases hgv':a.eval g <;> rw [hgv'] at hgv <;> cases hgv;rename_i xs ys hxs hys;have hall:VL σ (first++aj++cap) (xs++us++ys):=(hxs.append hvs).append hys;obtain ⟨h1,h2⟩:=hcall.fn _ _ _ _ hx σ w _ hr hall;refine .ent k _ w ?_ h2;rw [nS,hgv',hus];have e1:xs.toArray++us.toArray++ys.toArray=(xs++us++ys).toArray:=by simp
    simp only [Deferred.ofValue,aS,invoke,e1];exact h1
   ·rename_i l hg;have hgv:=aU hf hg;cases hgv':a.eval g <;> rw [hgv'] at hgv <;> cases hgv;rename_i b k hb;obtain ⟨fn,tmps,as',body,h1,h2⟩:=hcall.yl _ _ _ _ hx σ w _ _ _ hr hvs hb;refine .rnd b fn tmps as' body w (by cases y with | true=>rfl | false=>rw [hy rfl] at hx;cases hx) ?_ h2;rw [nS,hgv',hus];have e1:(#[]:Array Value)++us.toArray=us.toArray:=by simp
    simp only [Deferred.ofValue,aS,invoke,e1];exact h1
   ·cases hx
  ·cases hx
 | move _ | assign _ | pick _ _ _ | build _ _ | ready _ | waits _ | nilCheck _ | binOp _ _ _ _ _ | unOp _ _ _ | convert _ _ _ | sliceToArrayPointer _ _ | makeInterface _ _ | makeFunc _ _ _ | makeChan _ _ | slice _ _ _ _ _
 | fieldAddr _ _ _ | field _ _ _ | indexAddr _ _ _ | index _ _ _ | mapEntry _ _ _ | entryStore _ _ _ _ | range _ _ | next _ _ | entry _ | typeAssert _ _ _ _ | extract _ _ | go _ | defer _ | panic _ | send _ _ | recv _ _ _ | select _ _=>
  simp only [effA] at hx;cases hx
end Go.Proofs.YtpidmmfjcghmeaaGreat.Ab
namespace Go.Proofs.YtpidmmfjcghmeaaGreat.Ab
open Go.RowKit
variable {P:Program} {σ:Sg} {W:World}
def Fr:Option Nat→Fence
 | none=>Fence.wide
 | some l=>Fence.wide.inRound l
theorem Fr.round (r:Option Nat):(Fr r).round=r:=by cases r <;> rfl
theorem Fr.fn (r:Option Nat) (k:FuncId):(Fr r).fn k:=by cases r <;> trivial
theorem Fr.depth (r:Option Nat):(Fr r).depth=none:=by cases r <;> rfl
theorem Fr.calls {r:Option Nat} {n:Nat} {f:FuncId} {args:Array Value} {w:World} {R:Ending→World→Prop} (h:Calls P f args w R):CallsIn (Fr r) n P f args w R:=by
 have:=(callsIn_wide (n:=n)).2 h;cases r with
 | none=>exact this
 | some l=>exact this
theorem Fr.rnd {r:Option Nat} {n m l:Nat} {f:FuncId} {tmps:Array Value} {aj body:Code} {w:World} {R:Ending→World→Prop} (h:RoundIn Fence.wide n P l f tmps aj body w R):RoundIn (Fr r) m P l f tmps aj body w R:=by
 have hw:RoundIn Fence.wide m P l f tmps aj body w R:=⟨trivial,fun c cs _=>h.2 c cs (room_wide _)⟩;cases r with
 | none=>exact hw
 | some l'=>exact hw
theorem Does.wpIn {y:Bool} {o:Oper} {a:Act} {w:World} {R:Value→World→Prop} (h:Does P y o a w R) (hd:∀ c,o.op≠.defer c) (r:Option Nat) (n:Nat) {K:Act→World→Prop} {Q:Exit→Act→World→Prop} (hK:∀ v w',R v w'→K (a.put o.dst v) w'):o.wpIn (Fr r) n P a w K Q:=by
 refine ⟨fun f _=>Fr.fn r f, ?_⟩;rw [Fr.round,Oper.semAt_eq _ _ _ hd];cases h with
 | val v w' h1 h2=>rw [h1];exact hK v w' h2
 | skp w' h1 h2=>rw [h1];exact hK _ w' h2
 | ent k args w' h1 h2=>
  rw [h1];refine ⟨fun e=>(by rw [Fr.depth] at e;cases e),Fr.calls (h2.mono ?_)⟩;rintro e w'' ⟨v,rfl,hv⟩;exact hK v w'' hv
 | rnd l fn tmps aj body w' _ h1 h2=>
  rw [h1];refine ⟨fun e=>(by rw [Fr.depth] at e;cases e),Fr.rnd (h2.mono ?_)⟩;rintro e w'' ⟨v,rfl,hv⟩;exact hK v w'' hv
inductive DL (σ:Sg):List (Sum Nat (Nat×List AV))→List Deferred→Prop
 | nil:DL σ [] []
 | mark (r b k l ds):σ r=some (b,k)→DL σ l ds→DL σ (.inl r::l) ({ target:=.collected b,args:=#[] }::ds)
 | call (k args us cap l ds):VL σ args (us++cap)→DL σ l ds→DL σ (.inr (k,args)::l) ({ target:=.fn (.func k) cap.toArray,args:=us.toArray }::ds)
theorem DL.mono {σ σ':Sg} (h:Sg.le σ σ'):∀ {l:List (Sum Nat (Nat×List AV))} {ds:List Deferred},DL σ l ds→DL σ' l ds
 | _,_,.nil=>.nil
 | _,_,.mark r b k l ds hr hd=>.mark r b k l ds (h _ _ hr) (hd.mono h)
 | _,_,.call k args us cap l ds hv hd=>.call k args us cap l ds (hv.mono h) (hd.mono h)
structure FR (σ:Sg) (f:F) (a:Act):Prop where
 t:FT σ f.n f.t a.tmps
 d:DL σ f.df a.defers
theorem FR.mono {σ σ':Sg} (h:Sg.le σ σ') {f:F} {a:Act} (hf:FR σ f a):FR σ' f a:=⟨hf.t.mono h,hf.d.mono h⟩
theorem FR.put {f f':F} {a:Act} (hf:FR σ f a) {d:Option Tmp} {x:AV} {v:Value} (hp:putF f d x=some f') (hv:VR σ x v):FR σ f' (a.put d v):=by
 unfold putF at hp;cases d with
 | none=>simp only at hp;cases hp;exact hf
 | some d=>
  obtain ⟨n,t,df⟩:=f;simp only at hp
  split at hp
  ·rename_i hd;cases hp;exact ⟨hf.t.set hd hv,hf.d⟩
  ·cases hp
def St (W:World) (σ:Sg) (f:F) (h:H) (a:Act) (w:World):Prop:=∃ σ',Sg.le σ σ'∧HR W σ' h w∧FR σ' f a
def XQ (W:World) (σ:Sg) (e:Ex) (f:F) (h:H):Exit→Act→World→Prop
 | .normal,a,w=>e=.nrm∧St W σ f h a w
 | .exit i,a,w=>e=.ext i∧St W σ f h a w
 | .ret,a,w=>e=.ret∧St W σ f h a w
 | .goto l,a,w=>e=.gt l∧St W σ f h a w
 | _,_,_=>False
theorem St.le {σ σ':Sg} (h:Sg.le σ σ') {f:F} {hh:H} {a:Act} {w:World} (hs:St W σ' f hh a w):St W σ f hh a w:=
 let ⟨τ,h1,h2,h3⟩:=hs;⟨τ,Sg.le_trans h h1,h2,h3⟩
theorem XQ.le {σ σ':Sg} (h:Sg.le σ σ') {e:Ex} {f:F} {hh:H}:∀ x a w,XQ W σ' e f hh x a w→XQ W σ e f hh x a w
 | .normal,_,_,hq | .exit _,_,_,hq | .ret,_,_,hq | .goto _,_,_,hq=>⟨hq.1,hq.2.le h⟩
 | .panic _,_,_,hq | .outgrown,_,_,hq=>hq.elim
theorem gQ {ops:Array Oper} {f:F} {a:Act} (hf:FT σ f.n f.t a.tmps) (o:Oper):Region.wanted o (yielded ops a.tmps)=wantedA ops f o:=by
 unfold Region.wanted wantedA
 split
 ·rename_i hg;rw [hg]
 ·rename_i g want hg;rw [hg];simp only;unfold yielded;cases ht:(ops[g]?).bind (·.dst) with
  | none=>simp
  | some t=>
   have h1:=hf.2 t;simp only [Option.bind_some,F.get];rw [Array.getD_eq_getD_getElem?] at h1;cases h2:a.tmps[t]? with
   | none=>
    rw [h2] at h1;simp only [Option.getD_none] at h1;cases h3:f.t.get t with
    | none=>simp
    | some x=>
     rw [h3] at h1;simp only [Option.getD_some] at h1;cases x <;> first | (simp;done) | cases h1
   | some v=>
    rw [h2] at h1;simp only [Option.getD_some] at h1;cases h3:f.t.get t with
    | none=>
     rw [h3] at h1;simp only [Option.getD_none] at h1;cases h1;simp
    | some x=>
     rw [h3] at h1;simp only [Option.getD_some] at h1;cases h1 <;> simp
theorem zC {call:aZ} (hcall:CallOK P W call) {y:Bool} (hy:y=false→∀ l args h,call (.yl l) args h=none) {f:F} {h:H} {a:Act} {w:World} (hf:FT σ f.n f.t a.tmps) (hr:HR W σ h w) {o:Oper} {r:AV×H} (hx:aop P call f h o=some r):Does P y o a w (Rs W σ r):=by
 unfold aop at hx
 split at hx
 ·rename_i v hv;cases hx;obtain ⟨u,h1,h2⟩:=p8 hf hr hv;exact .val u w (h2 w) ⟨σ,Sg.le_refl _,h1,hr⟩
 ·exact GN hcall hy hf hr hx
theorem AE {f f':F} {a:Act} {ro:Bool} {c:Call} (hf:FR σ f a) (hx:deferA ro f c=some f') (ty:TypeId):ro=false∧∃ d,(∀ w,(resolve a.eval c ty).run P w=.ok d w)∧FR σ f' { a with defers:=d::a.defers }:=by
 unfold deferA at hx;obtain ⟨callee,args,ats⟩:=c
 split at hx
 ·cases hx
 rename_i hro;refine ⟨by simpa using hro, ?_⟩
 split at hx
 rotate_left
 ·cases hx
 rename_i g aj hg has;simp only at hg has;subst hg
 split at hx
 rotate_left
 ·cases hx
 rename_i k first cap hgv
 cases hx;obtain ⟨us,hus,hvs⟩:=lU hf.t has;have h1:=aU hf.t hgv;cases h2:a.eval g <;> rw [h2] at h1 <;> cases h1;rename_i xs ys hxs hys;refine ⟨{ target:=.fn (.func k) ys.toArray,args:=xs.toArray++us.toArray },fun w=>?_,hf.t, ?_⟩
 ·unfold resolve;simp only [hus,h2,Deferred.ofValue];rfl
 ·have e:xs.toArray++us.toArray=(xs++us).toArray:=by simp
  rw [e];exact .call k _ (xs++us) ys _ _ ((hxs.append hvs).append hys) hf.d
theorem FN {call:aZ} (hcall:CallOK P W call) {r:Option Nat} {n:Nat} {ops:Array Oper} {f f':F} {h h':H} {a:Act} {w:World} (hf:FR σ f a) (hr:HR W σ h w) {o:Oper} (hx:stepA P call r.isSome ops f h o=some (f',h')) {K:Act→World→Prop} {Q:Exit→Act→World→Prop}
  (hK:∀ a w,St W σ f' h' a w→K a w):
  (Region.wanted o (yielded ops a.tmps)=true→o.wpIn (Fr r) n P a w K Q)∧(Region.wanted o (yielded ops a.tmps)=false→K (a.put o.dst Go.undef) w):=by
 rw [gQ hf.t];unfold stepA at hx
 split at hx
 ·rename_i hw;refine ⟨fun _=>?_,fun e=>(by rw [hw] at e;cases e)⟩
  split at hx
  ·rename_i c hop
   split at hx
   rotate_left
   ·cases hx
   rename_i f1 hd
   split at hx
   rotate_left
   ·cases hx
   rename_i f2 hp;cases hx;obtain ⟨hro,d,h1,h2⟩:=AE (P:=P) hf hd o.type;have hr0:r=none:=by cases r <;> simp at hro ⊢
   subst hr0;refine ⟨fun f _=>trivial, ?_⟩;have he:(o.semAt (Fr none).round a.eval).run P w=.ok (.defer d) w:=by
    rw [Fr.round,Oper.semAt_none];obtain ⟨dst,op,ty,pos,af,gd⟩:=o;simp only at hop;subst hop;simp only [execOp];rw [Sem.run_bind,h1,Result.andThen_ok];rfl
   rw [he];exact hK _ _ ⟨σ,Sg.le_refl _,hr,h2.put hp .und⟩
  ·rename_i hnd
   split at hx
   rotate_left
   ·cases hx
   rename_i v h1 hv
   split at hx
   rotate_left
   ·cases hx
   rename_i f2 hp;cases hx;refine (zC (y:=true) hcall (fun e=>by cases e) hf.t hr hv).wpIn (fun c=>hnd c) r n ?_;rintro u w' ⟨σ',h2,h3,h4⟩;exact hK _ _ ⟨σ',h2,h4,(hf.mono h2).put hp h3⟩
 ·rename_i hw;refine ⟨fun e=>(by rw [hw] at e;cases e),fun _=>?_⟩
  split at hx
  ·rename_i f1 hp;cases hx;exact hK _ _ ⟨σ,Sg.le_refl _,hr,hf.put hp .und⟩
  ·cases hx
theorem CE {call:aZ} (hcall:CallOK P W call) {r:Option Nat} {n:Nat} {ops:Array Oper} {σ0:Sg}:∀ {l:List Oper} {σ:Sg} {f f':F} {h h':H} {a:Act} {w:World},Sg.le σ0 σ→FR σ f a→HR W σ h w→opsA P call r.isSome ops l f h=some (f',h')→
  wpListIn (Fr r) n P ops (XQ W σ0 .nrm f' h') l a w
 | [],σ,f,f',h,h',a,w,hle,hf,hr,hx=>by simp only [opsA] at hx;cases hx;exact ⟨rfl,σ,hle,hr,hf⟩
 | o::l,σ,f,f',h,h',a,w,hle,hf,hr,hx=>by
  simp only [opsA] at hx
  split at hx
  ·rename_i f1 h1 hs;have hK:∀ a w,St W σ f1 h1 a w→wpListIn (Fr r) n P ops (XQ W σ0 .nrm f' h') l a w:=fun a w ⟨σ',h2,h3,h4⟩=>
    CE hcall (n:=n) (Sg.le_trans hle h2) h4 h3 hx
   have:=FN hcall (n:=n) (Q:=XQ W σ0 .nrm f' h') hf hr hs hK;simp only [wpListIn]
   split
   ·rename_i hw;exact this.1 hw
   ·rename_i hw;exact ⟨fun k _=>Fr.fn r k,this.2 (by simpa using hw)⟩
  ·cases hx
end Go.Proofs.YtpidmmfjcghmeaaGreat.Ab
