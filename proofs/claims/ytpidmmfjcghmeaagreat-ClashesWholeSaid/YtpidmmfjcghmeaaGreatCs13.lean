/- Towards clashesWhole_upto. -/
import Derived.Test.YtpidmmfjcghmeaaGreatCs07
import Derived.Test.YtpidmmfjcghmeaaGreatCs06
import Derived.BigRegion
import Derived.Test.YtpidmmfjcghmeaaGreatCs08
set_option maxRecDepth 100000
set_option maxHeartbeats 16000000
set_option linter.all false
namespace Go.Proofs.YtpidmmfjcghmeaaGreat
open Go.RowKit
section
attribute [local go_sem ↓] aI
theorem aH.len {β:Type} {G:Nat→Prop} {w:World} {sz:Nat} {R:List Value→β→Prop} {A:Option Addr} {n c:Nat} {xs:List β} (h:aH G w sz R (.slice A n c) xs):n=xs.length∧n≤9223372036854775807:=by
 obtain ⟨A',c',e,h2,h3,_⟩:=h
 injection e with _ e _
 unfold maxLen at h3;exact ⟨e,by omega⟩
theorem dlt (k n:Nat):decide ((k:Int)<(n:Int))=decide (k<n):=by rw [Bool.eq_iff_iff,decide_eq_true_iff,decide_eq_true_iff];omega
theorem aF.drewN {G:Nat→Prop} {w:World} {v:Value} {l:List Int} (h:aF G w v l) (q:Nat):aF G (w.drewN q) v l:=h
theorem IC (G:Nat→Prop) (w:World) (A1 A2:Option Addr) (n1 n2 c1 c2:Nat) (a b:List Int) (ha:aF G w (.slice A1 n1 c1) a) (hb:aF G w (.slice A2 n2 c2) b):
  Calls Tryz.prog 139 #[.slice A1 n1 c1,.slice A2 n2 c2] w fun e w'=>e=.returned (.bool (decide (a=b)))∧∃ m,w'=w.drewN m:=by
 have l1:=aH.len ha;have l2:=aH.len hb;have HA:=Ha ha;have HB:=Ha hb;have hm:=l1.2;have HL1:=Ha l1.1;have HL2:=Ha l2.1;clear ha hb l1 l2;go_enter Tryz.func139,Tryz.ntmps139;by_cases hl:n1=n2
 case neg=>
  have he:=Ha (yE (show ¬a=b from fun h=>hl (by rw [HL1.out,HL2.out,h])));go_wp2_with fail;go_ret;exact ⟨aJ he.out.symm,0,rfl⟩
 subst hl;go_wp2
 go_loopw [5] (fun i wr=>∃ (k q:Nat),k≤n1∧i=.int .i64 k∧(a.drop k=b.drop k↔a=b)∧wr=w.drewN q) (fun i _=>n1-(intOf i).toNat)
 case atStart=>exact ⟨0,0,by omega,rfl,Iff.rfl,rfl⟩
 case round=>
  obtain ⟨k,q,hk,rfl,hi,rfl⟩:=hrel;by_cases hlt:k<n1
  ·have hlt1:k<a.length:=by have:=HL1.out;omega
   have hlt2:k<b.length:=by have:=HL2.out;omega
   obtain ⟨b1,o1,rfl,z1⟩:=HA.out.get hlt1;obtain ⟨b2,o2,rfl,z2⟩:=HB.out.get hlt2;rw [bD a k hlt1,bD b k hlt2] at hi;have HI:=Ha hi;clear hi
   revert HI z1 z2
   generalize a[k]=x;generalize b[k]=y;intro z1 z2 HI;by_cases hxy:x=y
   ·subst hxy;have HI2:=Ha (show a.drop (k+1)=b.drop (k+1)↔a=b by have:=HI.out;rw [List.cons.injEq] at this;simpa using this);clear HI;go_wp2_with fail
    go_quiet (fail)
    go_wp2_with fail
    go_roundw
    case rel=>exact ⟨k+1,_,by omega,by go_num,HI2.out,rfl⟩
    case measure=>simp only [intOf];omega
   ·have he:=Ha (yE (show ¬a=b from fun h=>hxy (by have:=HI.out.2 h;injection this)));go_wp2_with fail
    go_quiet (fail)
    go_wp2_with fail;go_ret;exact ⟨aJ he.out.symm,q+nq,World.drewN_drewN ..⟩
  ·have he:=Ha (yD (hi.1 (by rw [List.drop_eq_nil_of_le (by have:=HL1.out;omega),List.drop_eq_nil_of_le (by have:=HL2.out;omega)])));clear hi;go_wp2_with fail;go_ret;exact ⟨aJ he.out.symm,q,rfl⟩
theorem FO (G:Nat→Prop) (w:World) (A:Option Addr) (n c:Nat) (l:List (List UInt8)) (s:List UInt8) (ha:aW G w (.slice A n c) l):
  Calls Tryz.prog 37 #[.slice A n c,bs s] w fun e w'=>e=.returned (.int .i64 (fidx (fun x=>x==s) l 0))∧w'=w:=by
 have l1:=aH.len ha;have HA:=Ha ha;have hm:=l1.2;have HL:=Ha l1.1;clear ha l1;unfold bs;obtain ⟨S,hS⟩:∃ S:ByteArray,S=⟨s.toArray⟩:=⟨_,rfl⟩;rw [← hS];have HS:=Ha (show S.toList=s by rw [hS,cJ]);clear hS;go_enter Tryz.func37,Tryz.ntmps37;go_wp2
 go_loopw [5] (fun i wr=>∃ (k:Nat),k≤n∧i=.int .i64 k∧fidx (fun x=>x==s) (l.drop k) k=fidx (fun x=>x==s) l 0∧wr=w) (fun i _=>n-(intOf i).toNat)
 case atStart=>exact ⟨0,by omega,rfl,rfl,rfl⟩
 case round=>
  obtain ⟨k,hk,rfl,hi,rfl⟩:=hrel;by_cases hlt:k<n
  ·have hlt1:k<l.length:=by have:=HL.out;omega
   obtain ⟨b1,o1,rfl,z1⟩:=HA.out.get hlt1;rw [bD l k hlt1,fidx] at hi;unfold bs at z1;obtain ⟨X,hX⟩:∃ X:ByteArray,X=⟨l[k].toArray⟩:=⟨_,rfl⟩;rw [← hX] at z1;rw [show l[k]=X.toList by rw [hX,cJ],← HS.out] at hi;have HI:=Ha hi;clear hi hX;cases hq:(X.toList==S.toList)
   ·have HI2:=Ha (show fidx (fun x=>x==s) (l.drop (k+1)) (k+1)=fidx (fun x=>x==s) l 0 by have:=HI.out;rwa [if_neg (by rw [hq];decide),HS.out] at this);clear HI;go_wp2_with fail
    go_roundw
    case rel=>exact ⟨k+1,by omega,by go_num,HI2.out,trivial⟩
    case measure=>simp only [intOf];omega
   ·have he:=Ha (show (k:Int)=fidx (fun x=>x==s) l 0 by have:=HI.out;rwa [if_pos hq,HS.out] at this);clear HI;go_wp2_with fail;go_ret;exact ⟨bG he.out,rfl⟩
  ·have he:=Ha (show fidx (fun x=>x==s) l 0=-1 by rw [← hi,List.drop_eq_nil_of_le (by have:=HL.out;omega)];rfl);clear hi;go_wp2_with fail;go_ret;exact ⟨bG he.out.symm,rfl⟩
theorem II (G:Nat→Prop) (w:World) (vs:List Value) (g:Gm) (hG:∀ k,G k→k<w.heap.size) (hg:GmV G w vs g):
  Calls Tryz.prog 23 #[ag vs] w fun e w'=>e=.returned (.bool (g.rules.any (fun r=>decide (8<r.2.length))||decide (120<g.terms.length)||decide (120<g.nons.length)||decide (300<g.rules.length)))∧Below w.heap.size w w':=by
 obtain ⟨A0,c0,A1,c1,A2,c2,W,ev,hW,⟨x0,x1,x2,x3⟩,HB,HX⟩:=GBox.go hG hg;rw [ev];have HG:=Ha hG;clear hG hg ev;have HL:=Ha HX.out.lens;go_enter Tryz.func23,Tryz.ntmps23;go_wp2
 go_loopw [3] (fun i wr=>∃ (k:Nat),k≤g.rules.length∧i=.int .i64 k∧(g.rules.drop k).any (fun r=>decide (8<r.2.length))=g.rules.any (fun r=>decide (8<r.2.length))∧wr=W) (fun i _=>g.rules.length-(intOf i).toNat)
 case atStart=>exact ⟨0,by omega,rfl,rfl,rfl⟩
 case round=>
  obtain ⟨k,hk,rfl,hi,rfl⟩:=hrel;by_cases hlt:k<g.rules.length
  ·obtain ⟨bb,off,Ar,cr,rfl,z0,z1,zi⟩:=HX.out.rule hlt;have hm:=zi.len.2;rw [bD g.rules k hlt,List.any_cons] at hi;have HI:=Ha hi;have hml:=HL.out.2.2;clear hi zi;by_cases h8:8<g.rules[k].2.length
   ·have HI2:=Ha (show g.rules.any (fun r=>decide (8<r.2.length))=true by rw [← HI.out,yD h8];rfl);clear HI;go_wp2_with fail;go_ret;exact ⟨by first | rfl | (simp [HI2.out];done) | (rw [HI2.out];rfl),HB.out⟩
   ·have HI2:=Ha (show (g.rules.drop (k+1)).any (fun r=>decide (8<r.2.length))=g.rules.any (fun r=>decide (8<r.2.length)) by rw [← HI.out,yE h8,Bool.false_or]);clear HI;go_wp2_with fail
    go_roundw
    case rel=>exact ⟨k+1,by omega,by go_num,HI2.out,by first | rfl | trivial⟩
    case measure=>simp only [intOf];omega
  ·have he:=Ha (show g.rules.any (fun r=>decide (8<r.2.length))=false by rw [← hi,List.drop_eq_nil_of_le (by omega)];rfl);clear hi;obtain ⟨e1,e2,e3⟩:=Zh3 (dlt 120 g.terms.length) (dlt 120 g.nons.length) (dlt 300 g.rules.length);by_cases h1:120<g.terms.length
   ·go_wp2_with fail;go_ret;exact ⟨by first | rfl | (simp [he.out];done),HB.out⟩
   by_cases h2:120<g.nons.length
   ·go_wp2_with fail;go_ret;exact ⟨by first | rfl | (simp [he.out];done),HB.out⟩
   go_wp2_with fail;go_ret;exact ⟨aJ (by rw [he.out,Bool.false_or,← e1.out,← e2.out,← e3.out];rfl),HB.out⟩
end
section
attribute [local go_sem ↓] aI
section
variable {β:Type} [DecidableEq β] {l:List β} {i:Nat}
omit [DecidableEq β] in
theorem dG (h:i<l.length):l.take (i+1)=l.take i++[l[i]]:=by rw [List.take_append_getElem h]
omit [DecidableEq β] in
theorem pX (h:i<l.length) (hn:(l.take i).Nodup) (hm:l[i] ∉ l.take i):(l.take (i+1)).Nodup:=by
 rw [dG h,List.nodup_append];exact ⟨hn,by simp,fun a ha b hb e=>by rw [gV] at hb;subst hb;subst e;exact hm ha⟩
omit [DecidableEq β] in
theorem pW (h:i<l.length) (hm:l[i]∈l.take i):¬l.Nodup:=fun hn=>by
 have h1:(l.take (i+1)).Nodup:=hn.sublist (List.take_sublist _ _);rw [dG h,List.nodup_append] at h1;exact h1.2.2 _ hm _ (by simp) rfl
omit [DecidableEq β] in
theorem eD {x:β} {k:Nat} (h:k<l.length) (hm:x ∉ l.take k) (hx:¬x=l[k]):x ∉ l.take (k+1):=by
 rw [dG h,List.mem_append,gV];exact fun h=>h.elim hm hx
omit [DecidableEq β] in
theorem r5 {x:β} {k i:Nat} (h:k<i) (hk:k<l.length) (hx:x=l[k]):x∈l.take i:=by
 rw [hx,List.mem_take_iff_getElem];exact ⟨k,by omega,rfl⟩
end
theorem up {W:World} {o:Obj} {k:Nat} {x:Obj} (h:W.heap[k]? = some x):(W.alloc o).heap[k]? = some x:=(Below.heap_alloc _ _ _ (gL h).1).trans h
def ofR (s:Int):List (Int×List Int)→Nat→List Int
 | [],_=>[]
 | r::l,k=>if r.1=s then (k:Int)::ofR s l (k+1) else ofR s l (k+1)
theorem p4 (s:Int):∀ (l:List (Int×List Int)) (k:Nat),ofR s l k=[]↔∀ r∈l,r.1≠s
 | [],_=>by simp [ofR]
 | r::l,k=>by
  rw [ofR];by_cases h:r.1=s
  ·rw [if_pos h];simp [h]
  ·rw [if_neg h,p4 s l];simp [h]
theorem eY (s:Int):∀ (l:List (Int×List Int)) (k:Nat),(ofR s l k).length≤l.length
 | [],_=>gO _
 | r::l,k=>by
  rw [ofR];have:=eY s l (k+1)
  split <;> simp <;> omega
theorem rF {β:Type} [BEq β] [LawfulBEq β] (l:List β) (s:β) (k:Nat):(0≤fidx (fun x=>x==s) l k)↔s∈l:=by
 have h:=fJ (fun x=>x==s) l k;rw [Bool.eq_iff_iff,decide_eq_true_iff,List.any_eq_true] at h;rw [h];simp
theorem tV (G:Nat→Prop) (w:World) (vs us:List Value) (a b:Int×List Int) (hG:∀ k,G k→k<w.heap.size) (ha:RuV G w vs a) (hb:RuV G w us b):
  Calls Tryz.prog 73 #[ag vs,ag us] w fun e w'=>e=.returned (.bool (decide (a=b)))∧Below w.heap.size w w':=by
 obtain ⟨Aa,ca,rfl,_,_⟩:=ha.shape;obtain ⟨Ab,cb,rfl,_,_⟩:=hb.shape;have hb1:Below w.heap.size w (w.alloc (.cells #[.int .i64 a.1,.slice Aa a.2.length ca] 64)):=(gR _ _).alloc (gO _) _;have hb2:Below w.heap.size w ((w.alloc (.cells #[.int .i64 a.1,.slice Aa a.2.length ca] 64)).alloc (.cells #[.int .i64 b.1,.slice Ab b.2.length cb] 64)):=hb1.alloc (by simp) _;have q0:=up (aC w (.cells #[.int .i64 a.1,.slice Aa a.2.length ca] 64)) (o:=.cells #[.int .i64 b.1,.slice Ab b.2.length cb] 64);have q1:=aC (w.alloc (.cells #[.int .i64 a.1,.slice Aa a.2.length ca] 64)) (.cells #[.int .i64 b.1,.slice Ab b.2.length cb] 64);rw [show (w.alloc (.cells #[.int .i64 a.1,.slice Aa a.2.length ca] 64)).heap.size=w.heap.size+1 by simp] at q1;unfold ag;generalize hW:(w.alloc (.cells #[.int .i64 a.1,.slice Aa a.2.length ca] 64)).alloc (.cells #[.int .i64 b.1,.slice Ab b.2.length cb] 64)=W at *;have y0:=aA q0 0 _ rfl;have y1:=aA q0 1 _ rfl;have z0:=aA q1 0 _ rfl;have z1:=aA q1 1 _ rfl;obtain ⟨va,ea,ia⟩:=ha
 injection ea with _ ea
 injection ea with ea _
 subst ea;obtain ⟨vb,eb,ib⟩:=hb
 injection eb with _ eb
 injection eb with eb _
 subst eb;obtain ⟨HI,HB,HE⟩:=Zh3 (IC G W _ _ _ _ _ _ a.2 b.2 (aF.below hG hb2 ia) (aF.below hG hb2 ib)) hb2 (show decide (a=b)=(decide (a.1=b.1)&&decide (a.2=b.2)) by rw [Bool.eq_iff_iff];simp [Prod.ext_iff]);clear hb1 hb2 q0 q1 ia ib hG;obtain ⟨a1,a2⟩:=a;obtain ⟨b1,b2⟩:=b;dsimp only at *;go_enter Tryz.func73,Tryz.ntmps73;by_cases h1:a1=b1
 ·subst h1;go_wp2_with fail;refine (HI.out).mono ?_;rintro e w1 ⟨rfl,m,rfl⟩;go_wp2_with fail;go_ret;exact ⟨aJ (by rw [HE.out];simp),lI HB.out m⟩
 ·go_wp2_with fail;go_ret;exact ⟨by first | rfl | (rw [HE.out,yE h1];rfl),HB.out⟩
theorem J8 (G:Nat→Prop) (w:World) (vs:List Value) (g:Gm) (s:Int)(hG:∀ k,G k→k<w.heap.size) (hg:GmV G w vs g) (hl:g.rules.length≤1099511627775):
  Calls Tryz.prog 29 #[ag vs,.int .i64 s] w fun e w'=>∃ v,e=.returned v∧aX w.heap.size w' v (ofR s g.rules 0)∧Below w.heap.size w w':=by
 obtain ⟨A0,c0,A1,c1,A2,c2,W,ev,hW,⟨x0,x1,x2,x3⟩,HB,HX⟩:=GBox.go hG hg;rw [ev];have HG:=Ha hG;clear hG hg ev;go_enter Tryz.func29,Tryz.ntmps29;go_wp2
 go_loopw [5,6] (fun o i wr=>∃ (k:Nat) (l:List Int),k≤g.rules.length∧i=.int .i64 k∧aX W.heap.size wr o l∧l.length≤k∧l++ofR s (g.rules.drop k) k=ofR s g.rules 0∧Below W.heap.size W wr) (fun _ i _=>g.rules.length-(intOf i).toNat)
 case atStart=>exact ⟨0,[],by omega,rfl,aG.nil _ _ _ _ _,by simp,rfl,gR _ _⟩
 case round=>
  obtain ⟨k,l,hk,rfl,ho,hll,hi,hb⟩:=hrel;obtain ⟨Ao,co,rfl⟩:=ho.shape;obtain ⟨HO,HBR,HXR⟩:=Zh3 ho hb (HX.out.on hb);clear x0 x1 x2 x3;obtain ⟨x0,x1,x2,x3⟩:=HXR.out.cells;clear ho hb;by_cases hlt:k<g.rules.length
  ·obtain ⟨bb,off,Ar,cr,rfl,z0,z1,zi⟩:=HXR.out.rule hlt;rw [bD _ k hlt,ofR] at hi;clear zi;by_cases hs:g.rules[k].1=s
   ·rw [if_pos hs] at hi;obtain ⟨v',w',hrun,ho',hb'⟩:=HO.out.push (k:Int) (by omega) HBR.out.size;obtain ⟨HO2,HB2,HI⟩:=Zh3 ho' hb' hi;clear ho' hb' hi;subst hs;go_wp2_with fail
    go_roundw
    case rel=>exact ⟨k+1,l++[(k:Int)],by omega,by go_num,HO2.out,by simp;omega,by rw [List.append_assoc];exact HI.out,HBR.out.trans HB2.out⟩
    case measure=>simp only [intOf];omega
   ·rw [if_neg hs] at hi;have HI:=Ha hi;clear hi;go_wp2_with fail
    go_roundw
    case rel=>exact ⟨k+1,l,by omega,by go_num,HO.out,by omega,HI.out,HBR.out⟩
    case measure=>simp only [intOf];omega
  ·have HE:=Ha (show ofR s g.rules 0=l by rw [← hi,List.drop_eq_nil_of_le (by omega)];simp [ofR]);clear hi;go_wp2_with fail;go_ret;exact ⟨_,rfl,by rw [HE.out];exact aG.lower HO.out HB.out.size,HB.out.trans (HBR.out.mono HB.out.size)⟩
theorem D1 (G:Nat→Prop) (w:World) (vs:List Value) (g:Gm) (hG:∀ k,G k→k<w.heap.size) (hg:GmV G w vs g):
  Calls Tryz.prog 28 #[ag vs] w fun e w'=>e=.returned (.bool (decide g.rules.Nodup))∧Below w.heap.size w w':=by
 obtain ⟨A0,c0,A1,c1,A2,c2,W,ev,hW,⟨x0,x1,x2,x3⟩,HB,HX⟩:=GBox.go hG hg;rw [ev];have HG:=Ha hG;clear hG hg ev;have HL:=Ha HX.out.lens;go_enter Tryz.func28,Tryz.ntmps28;go_wp2
 go_loopw [3] (fun i wr=>∃ (k:Nat),k≤g.rules.length∧i=.int .i64 k∧(g.rules.take k).Nodup∧Below W.heap.size W wr) (fun i _=>g.rules.length-(intOf i).toNat)
 case atStart=>exact ⟨0,by omega,rfl,by simp,gR _ _⟩
 case round=>
  obtain ⟨k,hk,rfl,hi,hb⟩:=hrel;obtain ⟨HBR,HI,HXR⟩:=Zh3 hb hi (HX.out.on hb);clear x0 x1 x2 x3;obtain ⟨x0,x1,x2,x3⟩:=HXR.out.cells;have hml:=HL.out.2.2;clear hb hi;by_cases hlt:k<g.rules.length
  ·go_wp2
   go_loopw [4] (fun i wr=>∃ (j:Nat),j≤k∧i=.int .i64 j∧g.rules[k] ∉ g.rules.take j∧Below W.heap.size W wr) (fun i _=>k-(intOf i).toNat)
   case atStart=>exact ⟨0,by omega,rfl,by simp,HBR.out⟩
   case round=>
    obtain ⟨j,hj,rfl,hi,hb⟩:=hrel;obtain ⟨HBQ,HJ,HXQ⟩:=Zh3 hb hi (HX.out.on hb);clear x0 x1 x2 x3;obtain ⟨x0,x1,x2,x3⟩:=HXQ.out.cells;clear hb hi;by_cases hjk:j<k
    ·have hjl:j<g.rules.length:=by omega
     obtain ⟨bb,off,Ak,ck,eA,z0,z1,zi⟩:=HXQ.out.rule hlt;obtain ⟨bb',off',Aj,cj,eA',y0,y1,yi⟩:=HXQ.out.rule hjl;subst eA
     injection eA' with eA'
     injection eA' with e1 e2
     subst e1 e2;have p:=fun Y:Gr wr=>Y.calls (tV G Y.at_ [.int .i64 g.rules[k].1,.slice Ak g.rules[k].2.length ck] [.int .i64 g.rules[j].1,.slice Aj g.rules[j].2.length cj] g.rules[k] g.rules[j] (bN HXQ.out.old Y.2) (RuV.below HXQ.out.old Y.2 ⟨_,rfl,zi⟩) (RuV.below HXQ.out.old Y.2 ⟨_,rfl,yi⟩));unfold ag at p;have hq0:(decide (g.rules[k]=g.rules[j])=true→¬g.rules.Nodup)∧(decide (g.rules[k]=g.rules[j])=false→g.rules[k] ∉ g.rules.take (j+1)):=
      ⟨fun h=>pW hlt (r5 hjk hjl (of_decide_eq_true h)),fun h=>eD hjl HJ.out (of_decide_eq_false h)⟩
     generalize decide (g.rules[k]=g.rules[j])=q at p hq0;have HQ:=Ha hq0;clear hq0;have f2:=fun Y:Gr wr=>Y.cell _ _ x2;have fk0:=fun Y:Gr wr=>Y.cell _ _ z0;have fk1:=fun Y:Gr wr=>Y.cell _ _ z1;have fj0:=fun Y:Gr wr=>Y.cell _ _ y0;have fj1:=fun Y:Gr wr=>Y.cell _ _ y1;have hne:Nonempty (Gr wr):=⟨⟨_,gR _ _⟩⟩;clear zi yi z0 z1 y0 y1 x0 x1 x2 x3 HJ
     revert p HQ fk0 fk1 fj0 fj1
     generalize g.rules[k]=rk;generalize g.rules[j]=rj;obtain ⟨k1,k2⟩:=rk;obtain ⟨j1,j2⟩:=rj;dsimp only;intro p HQ fk0 fk1 fj0 fj1;go_wp2_with fail;refine aN (S:=Gr wr) Gr.at_ (by kernel_rfl) (by kernel_rfl) (Gr.drew _) ?_;repeat (go_big_quiet_step (with_reducible exact p _))
     refine wpQuiet_nil ?_;rintro wy ⟨⟨wy',hY⟩,hY2⟩;obtain rfl:wy=wy':=hY2;clear p f2 fk0 fk1 fj0 fj1 hne;have HBY:=Ha (HBQ.out.trans (hY.mono HBQ.out.size));clear hY;cases q
     ·have he:=Ha (HQ.out.2 rfl);clear HQ;go_wp2_with fail
      go_roundw
      case rel=>exact ⟨j+1,by omega,by go_num,he.out,HBY.out⟩
      case measure=>simp only [intOf];omega
     ·have he:=Ha (yE (HQ.out.1 rfl));clear HQ;go_wp2_with fail;go_ret;exact ⟨by first | (rw [he.out];done) | (rw [he.out];rfl),HB.out.trans (HBY.out.mono HB.out.size)⟩
    ·have he:=Ha (show (g.rules.take (k+1)).Nodup by
      have hjk:j=k:=by omega
      have:=HJ.out;rw [hjk] at this;exact pX hlt HI.out this)
     go_wp2_with fail
     go_roundw
     case rel=>exact ⟨k+1,by omega,by go_num,he.out,HBQ.out⟩
     case measure=>simp only [intOf];omega
  ·have he:=Ha (yD (show g.rules.Nodup by have:=HI.out;rwa [List.take_of_length_le (by omega)] at this));go_wp2_with fail;go_ret;exact ⟨by first | (rw [he.out];done) | (rw [he.out];rfl),HB.out.trans (HBR.out.mono HB.out.size)⟩
end
section
attribute [local go_sem ↓] aI
theorem FF (G:Nat→Prop) (w:World) (vs:List Value) (g:Gm) (hG:∀ k,G k→k<w.heap.size) (hg:GmV G w vs g) (hl:g.top≤1099511627775):
  Calls Tryz.prog 26 #[ag vs] w fun e w'=>∃ v,e=.returned v∧cL w.heap.size w' v g.names∧Below w.heap.size w w':=by
 obtain ⟨A0,c0,A1,c1,A2,c2,W,ev,hW,⟨x0,x1,x2,x3⟩,HB,HX⟩:=GBox.go hG hg;rw [ev];have HG:=Ha hG;clear hG hg ev;unfold Gm.top at hl;have hba:Below W.heap.size W (W.drew.alloc (.cells #[] 9)):=((gR _ _).drew).alloc (by simp) _;have hn0:cL W.heap.size (W.drew.alloc (.cells #[] 9)) (.slice (some ⟨W.heap.size,0,none⟩) 0 0) []:=by
  have:=aG.fresh (T:=9) (sz:=1) W.drew (B:=W.heap.size) (by simp) iT;unfold cL
  simpa using this
 obtain ⟨v1,w1,hr1,hs1,hb1⟩:=hn0.add (aW.below HX.out.old hba HX.out.ht) (by simp;omega) hba.size;rw [List.nil_append] at hs1;obtain ⟨A3,c3,rfl⟩:=hs1.shape;have hbb:=hba.trans hb1;obtain ⟨v2,w2,hr2,hs2,hb2⟩:=hs1.add (aW.below HX.out.old hbb HX.out.hn) (by omega) hbb.size;have y1:=aD x1 hbb;have z0:=aD x0 hba;have z1:=aD x1 hba;obtain ⟨A4,c4,rfl⟩:=hs2.shape;rw [gI] at hs2 hr2;have HS2:=Ha hs2;have HB2:=Ha (hbb.trans hb2);rw [show W.drew.alloc (.cells #[] 9)=(W.alloc (.cells #[] 9)).drew from rfl] at hr1 z0 z1;clear hn0 hs1 hs2 hb1 hb2 hba hbb HX;go_enter Tryz.func26,Tryz.ntmps26;go_wp2
 go_region
 go_wp2;go_ret;exact ⟨_,rfl,aG.lower HS2.out HB.out.size,HB.out.trans (HB2.out.mono HB.out.size)⟩
theorem IN (G:Nat→Prop) (w:World) (A:Option Addr) (n c:Nat) (l:List (List UInt8)) (hG:∀ k,G k→k<w.heap.size) (ha:aW G w (.slice A n c) l):
  Calls Tryz.prog 25 #[.slice A n c] w fun e w'=>e=.returned (.bool (decide l.Nodup))∧Below w.heap.size w w':=by
 have l1:=aH.len ha;have HA:=Ha ha;have hm:=l1.2;have HL:=Ha l1.1;have HG:=Ha hG;clear ha l1 hG;go_enter Tryz.func25,Tryz.ntmps25;go_wp2
 go_loopw [3] (fun i wr=>∃ (k:Nat),k≤n∧i=.int .i64 k∧(l.take k).Nodup∧Below w.heap.size w wr) (fun i _=>n-(intOf i).toNat)
 case atStart=>exact ⟨0,by omega,rfl,by simp,gR _ _⟩
 case round=>
  obtain ⟨k,hk,rfl,hi,hb⟩:=hrel;have HBR:=Ha hb;have HAR:=Ha (aW.below HG.out hb HA.out);clear hb;have HI:=Ha hi;clear hi;by_cases hlt:k<n
  ·have hlt1:k<l.length:=by have:=HL.out;omega
   obtain ⟨b1,o1,rfl,z1⟩:=HAR.out.get hlt1;have hsub:aW G wr (.slice (some ⟨b1,o1,none⟩) k c) (l.take k):=by
    obtain ⟨A',c',e,h2,h3,h4⟩:=HAR.out
    injection e with e1 e2 e3
    subst e1 e3;refine ⟨_,_,by rw [yA];congr 1;omega,by rw [yA];omega,h3,fun hn=>?_⟩;obtain ⟨b,off,e,hg,hel⟩:=h4 (by omega);refine ⟨b,off,e,hg,fun i hi=>?_⟩;rw [yA] at hi;obtain ⟨vs,h5,h6,h7⟩:=hel i (by omega);exact ⟨vs,h5,by rw [List.getElem_take];exact h6,h7⟩
   have hq0:(decide (0≤fidx (fun x=>x==l[k]) (l.take k) 0)=true→¬l.Nodup)∧(decide (0≤fidx (fun x=>x==l[k]) (l.take k) 0)=false→(l.take (k+1)).Nodup):=
    ⟨fun h=>pW hlt1 ((rF _ _ _).1 (of_decide_eq_true h)),fun h=>pX hlt1 HI.out (fun hm=>of_decide_eq_false h ((rF _ _ _).2 hm))⟩
   have p:=fun Y:Gr wr=>Y.calls ((FO G Y.at_ _ _ _ _ l[k] (aW.below (bN HG.out HBR.out) Y.2 hsub)).mono fun _ w' h=>(⟨h.1,h.2▸gR _ _⟩:_∧Below Y.at_.heap.size Y.at_ w'));have f1:=fun Y:Gr wr=>Y.cell _ _ z1;have hne:Nonempty (Gr wr):=⟨⟨_,gR _ _⟩⟩;have HQ:=Ha hq0;clear hq0 hsub z1
   revert p HQ f1
   generalize fidx (fun x=>x==l[k]) (l.take k) 0=r;generalize l[k]=x;unfold bs;intro p f1 HQ;have hk0:(0:Int)≤(k:Int):=by omega
   have hk1:(k:Int)≤(c:Int):=by have:=HL.out;have:=HA.out;obtain ⟨_,c',e,h2,_⟩:=this;injection e with _ _ e;omega
   have hk2:k≤c:=by omega
   go_wp2_with fail;refine aN (S:=Gr wr) Gr.at_ (by kernel_rfl) (by kernel_rfl) (Gr.drew _) ?_;repeat (go_big_quiet_step (with_reducible exact p _))
   refine wpQuiet_nil ?_;rintro wy ⟨⟨wy',hY⟩,hY2⟩;obtain rfl:wy=wy':=hY2;have HBY:=Ha (HBR.out.trans (hY.mono HBR.out.size));clear p f1 hne hY;cases hr:decide (0≤r)
   ·have he:=Ha (HQ.out.2 hr);have hr2:=of_decide_eq_false hr;clear hr HQ;go_wp2_with fail
    go_roundw
    case rel=>exact ⟨k+1,by omega,by go_num,he.out,HBY.out⟩
    case measure=>simp only [intOf];omega
   ·have he:=Ha (yE (HQ.out.1 hr));have hr2:=of_decide_eq_true hr;clear hr HQ;go_wp2_with fail;go_ret;exact ⟨by first | (rw [he.out];done) | (rw [he.out];rfl),HBY.out⟩
  ·have he:=Ha (yD (show l.Nodup by have:=HI.out;rwa [List.take_of_length_le (by have:=HL.out;omega)] at this));go_wp2_with fail;go_ret;exact ⟨by first | (rw [he.out];done) | (rw [he.out];rfl),HBR.out⟩
end
def mR (g:Gm) (s:Int):Bool:=decide (g.T s)||decide (g.N s)
def iK (g:Gm) (r:Int×List Int):Bool:=decide (g.N r.1)&&r.2.all (mR g)
def dT (g:Gm):Bool:=decide (g.N g.start)&&g.rules.all (iK g)
theorem mB (g:Gm):dT g=true↔g.Known:=by
 unfold dT;rw [yF,decide_eq_true_iff,List.all_eq_true];constructor
 ·rintro ⟨h1,h2⟩;refine ⟨h1,fun r hr=>?_,fun r hr s hs=>?_⟩
  ·have:=h2 r hr;unfold iK at this;rw [yF,decide_eq_true_iff] at this;exact this.1
  ·have:=h2 r hr;unfold iK mR at this;rw [yF,List.all_eq_true] at this
   simpa using this.2 s hs
 ·rintro ⟨h1,h2,h3⟩;refine ⟨h1,fun r hr=>?_⟩;unfold iK mR;rw [yF,decide_eq_true_iff,List.all_eq_true];exact ⟨h2 r hr,fun s hs=>by simpa using h3 r hr s hs⟩
theorem E1 (G:Nat→Prop) (w:World) (vs:List Value) (g:Gm) (hG:∀ k,G k→k<w.heap.size) (hg:GmV G w vs g) (hl:g.top≤9223372036854775807):
  Calls Tryz.prog 27 #[ag vs] w fun e w'=>e=.returned (.bool (dT g))∧Below w.heap.size w w':=by
 obtain ⟨A0,c0,A1,c1,A2,c2,W,ev,hW,⟨x0,x1,x2,x3⟩,HB,HX⟩:=GBox.go hG hg;rw [ev];have HG:=Ha hG;clear hG hg ev;have HLn:=Ha HX.out.lens;have HL:=Ha hl;clear hl;have hN:=CM G;have hT:=DS G;unfold ag at hN hT;have HN:=Ha hN;have HT:=Ha hT;clear hN hT;go_enter Tryz.func27,Tryz.ntmps27;by_cases h0:g.nons.length=0
 ·have he:=Ha (show dT g=false by
   unfold dT;rw [yE (by unfold Gm.N Gm.top;omega)];rfl)
  have h0':(g.nons.length:Int)=0:=by omega
  go_wp2_with fail;go_ret;exact ⟨by first | (rw [he.out];done) | (rw [he.out];rfl),by have:=HB.out;rw [← hW,h0] at this;exact this⟩
 have h0':¬(g.nons.length:Int)=0:=by omega
 go_wp2_with fail;refine (HN.out _ _ g g.start HX.out.old HX.out.gm HL.out).mono ?_;rintro e w1 ⟨rfl,hb1⟩;have HX1:=Ha (HX.out.on hb1);have HB1:=Ha (HB.out.trans (hb1.mono HB.out.size));clear x0 x1 x2 x3 hb1;obtain ⟨x0,x1,x2,x3⟩:=HX1.out.cells;have HK:=Ha (show dT g=(decide (g.N g.start)&&g.rules.all (iK g)) from rfl);generalize decide (g.N g.start)=d at HK;cases d
 ·go_wp2_with fail;go_ret;exact ⟨by first | (rw [HK.out];done) | (rw [HK.out];rfl),HB1.out⟩
 go_wp2
 go_loopw [3] (fun i wr=>∃ (k:Nat),k≤g.rules.length∧i=.int .i64 k∧(g.rules.drop k).all (iK g)=g.rules.all (iK g)∧Below w1.heap.size w1 wr) (fun i _=>g.rules.length-(intOf i).toNat)
 case atStart=>exact ⟨0,by omega,rfl,rfl,gR _ _⟩
 case round=>
  obtain ⟨k,hk,rfl,hi,hb⟩:=hrel;have HBR:=Ha hb;have HXR:=Ha (HX1.out.on hb);clear x0 x1 x2 x3 hb;obtain ⟨x0,x1,x2,x3⟩:=HXR.out.cells;have hml:=HLn.out.2.2;by_cases hlt:k<g.rules.length
  ·rw [bD _ k hlt,List.all_cons] at hi;obtain ⟨bb,off,Ak,ck,rfl,z0,z1,zi⟩:=HXR.out.rule hlt;have hrb:iK g g.rules[k]=(decide (g.N g.rules[k].1)&&g.rules[k].2.all (mR g)):=rfl;rw [hrb] at hi;clear hrb
   revert hi z0 z1 zi
   generalize g.rules[k]=rk;obtain ⟨ra,rb⟩:=rk;dsimp only;intro hi z0 z1 zi;have p:=fun Y:Gr wr=>Y.calls (HN.out Y.at_ _ g ra (bN HXR.out.old Y.2) (GmV.below HXR.out.old Y.2 HXR.out.gm) HL.out);have f0:=fun Y:Gr wr=>Y.cell _ _ x0;have f1:=fun Y:Gr wr=>Y.cell _ _ x1;have f2:=fun Y:Gr wr=>Y.cell _ _ x2;have f3:=fun Y:Gr wr=>Y.cell _ _ x3;have fk:=fun Y:Gr wr=>Y.cell _ _ z0;have hne:Nonempty (Gr wr):=⟨⟨_,gR _ _⟩⟩;have HI:=Ha hi;have HZ:=Ha zi;clear hi zi z0
   revert p HI
   generalize decide (g.N ra)=d;intro p HI;go_wp2_with fail;refine aN (S:=Gr wr) Gr.at_ (by kernel_rfl) (by kernel_rfl) (Gr.drew _) ?_;repeat (go_big_quiet_step (with_reducible exact p _))
   refine wpQuiet_nil ?_;rintro wy ⟨⟨wy',hY⟩,hY2⟩;obtain rfl:wy=wy':=hY2;obtain ⟨HBY,HXY,HZY⟩:=Zh3 (HBR.out.trans (hY.mono HBR.out.size)) (HXR.out.on hY) (aF.below HXR.out.old hY HZ.out);have y1:=aD z1 hY;clear p f0 f1 f2 f3 fk hne hY x0 x1 x2 x3 z1 HZ;cases d
   ·have he:=Ha (show dT g=false by rw [HK.out,← HI.out];rfl);go_wp2_with fail;go_ret;exact ⟨by first | (rw [he.out];done) | (rw [he.out];rfl),HB1.out.trans (HBY.out.mono HB1.out.size)⟩
   obtain ⟨x0,x1,x2,x3⟩:=HXY.out.cells;have hmr:=(aH.len HZY.out).2;go_wp2
   go_loopw [4] (fun i wr=>∃ (j:Nat),j≤rb.length∧i=.int .i64 j∧(rb.drop j).all (mR g)=rb.all (mR g)∧Below wy.heap.size wy wr) (fun i _=>rb.length-(intOf i).toNat)
   case atStart=>exact ⟨0,by omega,rfl,rfl,gR _ _⟩
   case round=>
    obtain ⟨j,hj,rfl,hi,hb⟩:=hrel;obtain ⟨HBQ,HXQ,HZQ⟩:=Zh3 hb (HXY.out.on hb) (aF.below HXY.out.old hb HZY.out);have u1:=aD y1 hb;clear x0 x1 x2 x3 hb;obtain ⟨x0,x1,x2,x3⟩:=HXQ.out.cells;by_cases hjl:j<rb.length
    ·rw [bD _ j hjl,List.all_cons] at hi;obtain ⟨bj,oj,rfl,v0⟩:=HZQ.out.get hjl;have hsb:mR g rb[j]=(decide (g.T rb[j])||decide (g.N rb[j])):=rfl;rw [hsb] at hi;clear hsb
     revert hi v0
     generalize rb[j]=s;intro hi v0;have p:=fun Y:Gr wr=>Y.calls (HT.out Y.at_ _ g s (bN HXQ.out.old Y.2) (GmV.below HXQ.out.old Y.2 HXQ.out.gm));have q:=fun Y:Gr wr=>Y.calls (HN.out Y.at_ _ g s (bN HXQ.out.old Y.2) (GmV.below HXQ.out.old Y.2 HXQ.out.gm) HL.out);have f0:=fun Y:Gr wr=>Y.cell _ _ x0;have f1:=fun Y:Gr wr=>Y.cell _ _ x1;have f2:=fun Y:Gr wr=>Y.cell _ _ x2;have f3:=fun Y:Gr wr=>Y.cell _ _ x3;have fk:=fun Y:Gr wr=>Y.cell _ _ u1;have fj:=fun Y:Gr wr=>Y.cell _ _ v0;have hne:Nonempty (Gr wr):=⟨⟨_,gR _ _⟩⟩;have HJ:=Ha hi;clear hi v0
     revert p q HJ
     generalize decide (g.T s)=d1;generalize decide (g.N s)=d2;intro p q HJ;go_wp2_with fail;cases d1
     ·refine aN (S:=Gr wr) Gr.at_ (by kernel_rfl) (by kernel_rfl) (Gr.drew _) ?_;repeat (go_big_quiet_step (first | (with_reducible exact p _) | (with_reducible exact q _)))
      refine wpQuiet_nil ?_;rintro wz ⟨⟨wz',hY⟩,hY2⟩;obtain rfl:wz=wz':=hY2;have HBZ:=Ha (HBQ.out.trans (hY.mono HBQ.out.size));clear p q f0 f1 f2 f3 fk fj hne hY;cases d2
      ·have he:=Ha (show dT g=false by rw [HK.out,← HI.out,← HJ.out];rfl);go_wp2_with fail;go_ret;exact ⟨by first | (rw [he.out];done) | (rw [he.out];rfl),(HB1.out.trans (HBY.out.mono HB1.out.size)).trans (HBZ.out.mono (HB1.out.trans (HBY.out.mono HB1.out.size)).size)⟩
      ·go_wp2_with fail
       go_roundw
       case rel=>exact ⟨j+1,by omega,by go_num,HJ.out,HBZ.out⟩
       case measure=>simp only [intOf];omega
     ·refine aN (S:=Gr wr) Gr.at_ (by kernel_rfl) (by kernel_rfl) (Gr.drew _) ?_;repeat (go_big_quiet_step (first | (with_reducible exact p _) | (with_reducible exact q _)))
      refine wpQuiet_nil ?_;rintro wz ⟨⟨wz',hY⟩,hY2⟩;obtain rfl:wz=wz':=hY2;have HBZ:=Ha (HBQ.out.trans (hY.mono HBQ.out.size));clear p q f0 f1 f2 f3 fk fj hne hY;go_wp2_with fail
      go_roundw
      case rel=>exact ⟨j+1,by omega,by go_num,HJ.out,HBZ.out⟩
      case measure=>simp only [intOf];omega
    ·have he:=Ha (show (g.rules.drop (k+1)).all (iK g)=g.rules.all (iK g) by rw [← HI.out,← hi,List.drop_eq_nil_of_le (show rb.length≤j by omega)];rfl);go_wp2_with fail
     go_roundw
     case rel=>exact ⟨k+1,by omega,by go_num,he.out,HBY.out.trans (HBQ.out.mono HBY.out.size)⟩
     case measure=>simp only [intOf];omega
  ·have he:=Ha (show dT g=true by rw [HK.out,← hi,List.drop_eq_nil_of_le (by omega)];rfl);go_wp2_with fail;go_ret;exact ⟨by first | (rw [he.out];done) | (rw [he.out];rfl),HB1.out.trans (HBR.out.mono HB1.out.size)⟩
structure Gm.Fit (g:Gm):Prop where
 lt:g.terms.length≤140737488355328
 ln:g.nons.length≤140737488355328
 lr:g.rules.length≤140737488355328
 st:∀ s∈g.terms,s.length≤140737488355328
 sn:∀ s∈g.nons,s.length≤140737488355328
 sr:∀ r∈g.rules,r.2.length≤140737488355328
def nameB (s:List UInt8):Bool:=Chr.name s&&decide (s.length≤24)
def iD (s:List UInt8):Bool:=nameB s||quotedB s
def iC (g:Gm):Bool:=g.terms.all iD&&g.nons.all nameB
theorem dle (n k:Nat):decide ((n:Int)≤(k:Int))=decide (n≤k):=by rw [Bool.eq_iff_iff,decide_eq_true_iff,decide_eq_true_iff];omega
theorem sC (s:List UInt8) (w:World) (hm:s.length≤9223372036854775800):
  Calls Tryz.prog 71 #[bs s] w fun e w'=>e=.returned (.bool (nameB s))∧w'=w:=by
 have HC:=Ha (IK ⟨s.toArray⟩ w (by rw [aT,cJ];omega));rw [cJ] at HC;unfold bs;have HD:=Ha (show nameB s=(Chr.name s&&decide (s.length≤24)) from rfl);have hd:=Ha (dle s.length 24);generalize Chr.name s=d at HC HD;go_enter Tryz.func71,Tryz.ntmps71;go_wp2_with fail;refine (HC.out).mono ?_;rintro e w1 ⟨rfl,rfl⟩;cases d
 ·go_wp2_with fail;go_ret;exact ⟨by first | rfl | (rw [HD.out];rfl),rfl⟩
 ·go_wp2_with fail;go_ret;exact ⟨aJ (by rw [HD.out,← hd.out,Bool.true_and];rfl),rfl⟩
theorem G7 (G:Nat→Prop) (w:World) (vs:List Value) (g:Gm) (hG:∀ k,G k→k<w.heap.size) (hg:GmV G w vs g) (hf:g.Fit):
  Calls Tryz.prog 24 #[ag vs] w fun e w'=>e=.returned (.bool (iC g))∧Below w.heap.size w w':=by
 obtain ⟨A0,c0,A1,c1,A2,c2,W,ev,hW,⟨x0,x1,x2,x3⟩,HB,HX⟩:=GBox.go hG hg;rw [ev];have HG:=Ha hG;clear hG hg ev;have HF:=Ha hf;have hl1:=hf.lt;have hl2:=hf.ln;clear hf;go_enter Tryz.func24,Tryz.ntmps24;go_wp2
 go_loopw [3] (fun i wr=>∃ (k:Nat),k≤g.terms.length∧i=.int .i64 k∧(g.terms.drop k).all iD=g.terms.all iD∧Below W.heap.size W wr) (fun i _=>g.terms.length-(intOf i).toNat)
 case atStart=>exact ⟨0,by omega,rfl,rfl,gR _ _⟩
 case round=>
  obtain ⟨k,hk,rfl,hi,hb⟩:=hrel;have HBR:=Ha hb;have HXR:=Ha (HX.out.on hb);clear x0 x1 x2 x3 hb;obtain ⟨x0,x1,x2,x3⟩:=HXR.out.cells;by_cases hlt:k<g.terms.length
  ·rw [bD _ k hlt,List.all_cons] at hi;obtain ⟨bb,off,rfl,z0⟩:=HXR.out.term hlt;have hsz:=HF.out.st _ (gN hlt);have htb:iD g.terms[k]=(nameB g.terms[k]||quotedB g.terms[k]):=rfl;rw [htb] at hi;clear htb
   revert hi z0 hsz
   generalize g.terms[k]=s;intro hi z0 hsz;have HP:=Ha (fun X=>sC s X (by omega));have HQ:=Ha (fun X=>zE ⟨s.toArray⟩ X (by rw [aT,cJ];omega));rw [cJ] at HQ;unfold bs at HP z0;generalize nameB s=d1 at HP hi;generalize quotedB s=d2 at HQ hi;have HI:=Ha hi;clear hi;go_wp2_with fail;refine (HP.out _).mono ?_;rintro e w1 ⟨rfl,rfl⟩;cases d1
   ·go_wp2_with fail;refine (HQ.out _).mono ?_;rintro e w1 ⟨rfl,hb1⟩;have HB1:=Ha (HBR.out.trans (hb1.mono HBR.out.size));clear hb1 x0 x1 x2 x3 z0;cases d2
    ·have he:=Ha (show iC g=false by unfold iC;rw [← HI.out];rfl);go_wp2_with fail;go_ret;exact ⟨by first | (rw [he.out];done) | (rw [he.out];rfl),HB.out.trans (HB1.out.mono HB.out.size)⟩
    ·go_wp2_with fail
     go_roundw
     case rel=>exact ⟨k+1,by omega,by go_num,HI.out,HB1.out⟩
     case measure=>simp only [intOf];omega
   ·go_wp2_with fail
    go_roundw
    case rel=>exact ⟨k+1,by omega,by go_num,HI.out,HBR.out⟩
    case measure=>simp only [intOf];omega
  ·have HK:=Ha (show iC g=g.nons.all nameB by unfold iC;rw [← hi,List.drop_eq_nil_of_le (by omega)];rfl);clear hi;go_wp2
   go_loopw [4] (fun i wq=>∃ (j:Nat),j≤g.nons.length∧i=.int .i64 j∧(g.nons.drop j).all nameB=g.nons.all nameB∧wq=wr) (fun i _=>g.nons.length-(intOf i).toNat)
   case atStart=>exact ⟨0,by omega,rfl,rfl,rfl⟩
   case round=>
    obtain ⟨j,hj,rfl,hi,rfl⟩:=hrel;by_cases hjl:j<g.nons.length
    ·rw [bD _ j hjl,List.all_cons] at hi;obtain ⟨bb,off,rfl,z0⟩:=HXR.out.non hjl;have hsz:=HF.out.sn _ (gN hjl)
     revert hi z0 hsz
     generalize g.nons[j]=s;intro hi z0 hsz;have HP:=Ha (fun X=>sC s X (by omega));unfold bs at HP z0;generalize nameB s=d1 at HP hi;have HI:=Ha hi;clear hi;go_wp2_with fail;refine (HP.out _).mono ?_;rintro e w1 ⟨rfl,rfl⟩;cases d1
     ·have he:=Ha (show iC g=false by rw [HK.out,← HI.out];rfl);go_wp2_with fail;go_ret;exact ⟨by first | (rw [he.out];done) | (rw [he.out];rfl),HB.out.trans (HBR.out.mono HB.out.size)⟩
     ·go_wp2_with fail
      go_roundw
      case rel=>exact ⟨j+1,by omega,by go_num,HI.out,by first | rfl | trivial⟩
      case measure=>simp only [intOf];omega
    ·have he:=Ha (show iC g=true by rw [HK.out,← hi,List.drop_eq_nil_of_le (by omega)];rfl);go_wp2_with fail;go_ret;exact ⟨by first | (rw [he.out];done) | (rw [he.out];rfl),HB.out.trans (HBR.out.mono HB.out.size)⟩
abbrev GW (g:Gm):Prop:=Gm.Wf (fun s=>iD s=true) (fun s=>nameB s=true) 120 120 300 8 g
def uZ (g:Gm):Bool:=g.rules.any (fun r=>decide (8<r.2.length))||decide (120<g.terms.length)||decide (120<g.nons.length)||decide (300<g.rules.length)
theorem xH (g:Gm):uZ g=false↔g.terms.length≤120∧g.nons.length≤120∧g.rules.length≤300∧∀ r∈g.rules,r.2.length≤8:=by
 unfold uZ;simp only [Bool.or_eq_false_iff,decide_eq_false_iff_not,List.any_eq_false,decide_eq_true_eq];constructor
 ·rintro ⟨⟨⟨h1,h2⟩,h3⟩,h4⟩;exact ⟨by omega,by omega,by omega,fun r hr=>by have:=h1 r hr;omega⟩
 ·rintro ⟨h1,h2,h3,h4⟩;exact ⟨⟨⟨fun r hr=>by have:=h4 r hr;omega,by omega⟩,by omega⟩,by omega⟩
theorem yZ (g:Gm):GW g↔uZ g=false∧iC g=true∧g.names.Nodup∧dT g=true∧g.rules.Nodup∧∀ i:Nat,i<g.nons.length→ofR ((g.terms.length:Int)+1+i) g.rules 0≠[]:=by
 rw [xH,mB];unfold iC;rw [yF,List.all_eq_true,List.all_eq_true];have key:(∀ i:Nat,i<g.nons.length→ofR ((g.terms.length:Int)+1+i) g.rules 0≠[])↔∀ s,g.N s→∃ r∈g.rules,r.1=s:=by
  constructor
  ·intro h s hs;unfold Gm.N Gm.top at hs;have h1:=h (s-g.terms.length-1).toNat (by omega);rw [show (g.terms.length:Int)+1+((s-g.terms.length-1).toNat:Int)=s by omega,Ne,p4] at h1;exact Classical.byContradiction fun hn=>h1 fun r hr e=>hn ⟨r,hr,e⟩
  ·intro h i hi hn;rw [p4] at hn;obtain ⟨r,hr,e⟩:=h ((g.terms.length:Int)+1+i) (by unfold Gm.N Gm.top;omega);exact hn r hr e
 rw [key];constructor
 ·intro h;exact ⟨⟨h.lt,h.ln,h.lr,h.lx⟩,⟨h.ft,h.fn⟩,h.nd,h.kn,h.ul,h.has⟩
 ·rintro ⟨⟨h1,h2,h3,h4⟩,⟨h5,h6⟩,h7,h8,h9,h10⟩;exact ⟨h1,h2,h3,h4,h5,h6,h7,h8,h9,h10⟩
theorem pA (G:Nat→Prop) (w:World) (vs:List Value) (g:Gm) (hG:∀ k,G k→k<w.heap.size) (hg:GmV G w vs g) (hf:g.Fit):
  Calls Tryz.prog 7 #[ag vs] w fun e w'=>(∃ n:Int,e=.returned (.int .i64 n)∧(n=0↔GW g))∧Below w.heap.size w w':=by
 obtain ⟨A0,c0,A1,c1,A2,c2,W,ev,hW,⟨x0,x1,x2,x3⟩,HB,HX⟩:=GBox.go hG hg;rw [ev];have HG:=Ha hG;clear hG hg ev;have HF:=Ha hf;have hl1:=hf.lt;have hl2:=hf.ln;have hl3:=hf.lr
 clear hf;have h1:=II G;have h2:=G7 G;have h3:=FF G;have h4:=E1 G;have h5:=D1 G;have h6:=J8 G;unfold ag at h1 h2 h3 h4 h5 h6;obtain ⟨H1,H2,H3,H4,H5,H6,HW⟩:=Zh7 h1 h2 h3 h4 h5 h6 (yZ g);clear h1 h2 h3 h4 h5 h6;go_enter Tryz.func7,Tryz.ntmps7;go_wp2_with fail;refine (H1.out _ _ g HX.out.old HX.out.gm).mono ?_;rintro e w1 ⟨rfl,hb1⟩;have HX1:=Ha (HX.out.on hb1);have HB1:=Ha (HB.out.trans (hb1.mono HB.out.size));clear x0 x1 x2 x3 hb1;obtain ⟨x0,x1,x2,x3⟩:=HX1.out.cells;have HM:=Ha (show uZ g=(g.rules.any (fun r=>decide (8<r.2.length))||decide (120<g.terms.length)||decide (120<g.nons.length)||decide (300<g.rules.length)) from rfl);generalize (g.rules.any (fun r=>decide (8<r.2.length))||decide (120<g.terms.length)||decide (120<g.nons.length)||decide (300<g.rules.length))=d at HM;cases d
 case true=>
  have he:=Ha (show (7:Int)=0↔GW g from ⟨fun h=>absurd h (by decide),fun h=>by have:=(HW.out.1 h).1;rw [HM.out] at this;cases this⟩);go_wp2_with fail;go_ret;exact ⟨⟨7,rfl,he.out⟩,HB1.out⟩
 have hmq:uZ g=false:=HM.out;unfold uZ at hmq;simp only [Bool.or_eq_false_iff,decide_eq_false_iff_not] at hmq;have hl3:g.rules.length≤300:=by omega
 have HT:=Ha (show g.top≤1099511627775 from by unfold Gm.top;omega);clear hmq;go_wp2_with fail;refine (H2.out _ _ g HX1.out.old HX1.out.gm HF.out).mono ?_;rintro e w2 ⟨rfl,hb1⟩;have HX2:=Ha (HX1.out.on hb1);have HB2:=Ha (HB1.out.trans (hb1.mono HB1.out.size));clear x0 x1 x2 x3 hb1;obtain ⟨x0,x1,x2,x3⟩:=HX2.out.cells;cases hfm:iC g
 case false=>
  have he:=Ha (show (10:Int)=0↔GW g from ⟨fun h=>absurd h (by decide),fun h=>by have:=(HW.out.1 h).2.1;rw [hfm] at this;cases this⟩);go_wp2_with fail;go_ret;exact ⟨⟨10,rfl,he.out⟩,HB2.out⟩
 have HFM:=Ha hfm;clear hfm;go_wp2_with fail;refine (H3.out _ _ g HX2.out.old HX2.out.gm HT.out).mono ?_;rintro e w3 ⟨v,rfl,hs,hb1⟩;obtain ⟨A,c,rfl⟩:=hs.shape;obtain ⟨HX3,HB3,HO⟩:=Zh3 (HX2.out.on hb1) (HB2.out.trans (hb1.mono HB2.out.size)) (IN (Old w3) w3 A _ c g.names (fun _ h=>h) hs.at_);clear x0 x1 x2 x3 hb1 hs;obtain ⟨x0,x1,x2,x3⟩:=HX3.out.cells;go_wp2_with fail;refine (HO.out).mono ?_;rintro e w4 ⟨rfl,hb1⟩;have HX4:=Ha (HX3.out.on hb1);have HB4:=Ha (HB3.out.trans (hb1.mono HB3.out.size));clear x0 x1 x2 x3 hb1;obtain ⟨x0,x1,x2,x3⟩:=HX4.out.cells;cases hnd:decide g.names.Nodup
 case false=>
  have he:=Ha (show (8:Int)=0↔GW g from ⟨fun h=>absurd h (by decide),fun h=>absurd (HW.out.1 h).2.2.1 (of_decide_eq_false hnd)⟩);go_wp2_with fail;go_ret;exact ⟨⟨8,rfl,he.out⟩,HB4.out⟩
 have HND:=Ha (of_decide_eq_true hnd);clear hnd;go_wp2_with fail;refine (H4.out _ _ g HX4.out.old HX4.out.gm (by have:=HT.out;omega)).mono ?_;rintro e w5 ⟨rfl,hb1⟩;have HX5:=Ha (HX4.out.on hb1);have HB5:=Ha (HB4.out.trans (hb1.mono HB4.out.size));clear x0 x1 x2 x3 hb1;obtain ⟨x0,x1,x2,x3⟩:=HX5.out.cells;cases hkn:dT g
 case false=>
  have he:=Ha (show (1:Int)=0↔GW g from ⟨fun h=>absurd h (by decide),fun h=>by have:=(HW.out.1 h).2.2.2.1;rw [hkn] at this;cases this⟩);go_wp2_with fail;go_ret;exact ⟨⟨1,rfl,he.out⟩,HB5.out⟩
 have HKN:=Ha hkn;clear hkn;go_wp2_with fail;refine (H5.out _ _ g HX5.out.old HX5.out.gm).mono ?_;rintro e w6 ⟨rfl,hb1⟩;have HX6:=Ha (HX5.out.on hb1);have HB6:=Ha (HB5.out.trans (hb1.mono HB5.out.size));clear x0 x1 x2 x3 hb1;obtain ⟨x0,x1,x2,x3⟩:=HX6.out.cells;cases hul:decide g.rules.Nodup
 case false=>
  have he:=Ha (show (8:Int)=0↔GW g from ⟨fun h=>absurd h (by decide),fun h=>absurd (HW.out.1 h).2.2.2.2.1 (of_decide_eq_false hul)⟩);go_wp2_with fail;go_ret;exact ⟨⟨8,rfl,he.out⟩,HB6.out⟩
 have HUL:=Ha (of_decide_eq_true hul);clear hul;go_wp2
 go_loopw [3] (fun i wr=>∃ (k:Nat),k≤g.nons.length∧i=.int .i64 k∧(∀ i:Nat,i<k→ofR ((g.terms.length:Int)+1+i) g.rules 0≠[])∧Below w6.heap.size w6 wr) (fun i _=>g.nons.length-(intOf i).toNat)
 case atStart=>exact ⟨0,by omega,rfl,fun i h=>by omega,gR _ _⟩
 case round=>
  obtain ⟨k,hk,rfl,hi,hb⟩:=hrel;obtain ⟨HBR,HI,HXR⟩:=Zh3 hb hi (HX6.out.on hb);clear x0 x1 x2 x3 hb hi;obtain ⟨x0,x1,x2,x3⟩:=HXR.out.cells;by_cases hlt:k<g.nons.length
  ·have HC:=Ha (H6.out wr _ g ((g.terms.length:Int)+1+k) HXR.out.old HXR.out.gm (by omega));go_wp2_with fail;refine (HC.out).mono ?_;rintro e wa ⟨v,rfl,hs,hb1⟩;obtain ⟨A2,c2,rfl⟩:=hs.shape;have HB7:=Ha (HBR.out.trans (hb1.mono HBR.out.size));clear x0 x1 x2 x3 hb1 hs;cases hl:decide ((ofR ((g.terms.length:Int)+1+k) g.rules 0).length=0)
   ·have hne:=of_decide_eq_false hl;have hne2:¬((ofR ((g.terms.length:Int)+1+k) g.rules 0).length:Int)=0:=by omega
    have HN:=Ha (show ofR ((g.terms.length:Int)+1+k) g.rules 0≠[] from fun h=>hne (by rw [h];rfl));clear hl hne;go_wp2_with fail
    go_roundw
    case rel=>
     refine ⟨k+1,by omega,by go_num,fun i hik=>?_,HB7.out⟩;by_cases hik2:i=k
     ·rw [hik2];exact HN.out
     ·exact HI.out i (by omega)
    case measure=>simp only [intOf];omega
   ·have hez:=of_decide_eq_true hl;have HZ:=Ha (show (9:Int)=0↔GW g from ⟨fun h=>absurd h (by decide),fun h=>absurd (yM hez) ((HW.out.1 h).2.2.2.2.2 k hlt)⟩);have hez2:((ofR ((g.terms.length:Int)+1+k) g.rules 0).length:Int)=0:=by omega
    clear hl hez;go_wp2_with fail;go_ret;exact ⟨⟨9,rfl,HZ.out⟩,HB6.out.trans (HB7.out.mono HB6.out.size)⟩
  ·have he:=Ha (show GW g from HW.out.2 ⟨HM.out,HFM.out,HND.out,HKN.out,HUL.out,fun i hi=>HI.out i (by omega)⟩);go_wp2_with fail;go_ret;exact ⟨⟨0,rfl,fun _=>he.out,fun _=>rfl⟩,HB6.out.trans (HBR.out.mono HB6.out.size)⟩
theorem oJ (g:Gm):g.names.length=g.top:=by simp [Gm.names,Gm.top]
section
attribute [local go_sem ↓] aI
theorem jN (G:Nat→Prop) (w:World) (vs:List Value) (g:Gm) (hG:∀ k,G k→k<w.heap.size) (hg:GmV G w vs g) (hl:g.top≤9223372036854775807):
  Calls Tryz.prog 86 #[ag vs] w fun e w'=>e=.returned (.int .i64 g.top)∧Below w.heap.size w w':=by
 obtain ⟨A0,c0,A1,c1,A2,c2,W,ev,hW,⟨x0,x1,x2,x3⟩,HB,HX⟩:=GBox.go hG hg;rw [ev];have HG:=Ha hG;clear hG hg ev;have e1:IntKind.i64.wrap ((g.terms.length:Int)+(g.nons.length:Int))=(g.top:Int):=by
  rw [IntWalk.i64_in _ (by unfold Gm.top at hl;omega)];unfold Gm.top;omega
 clear hl HX;go_enter Tryz.func86,Tryz.ntmps86;go_wp2_with fail;go_ret;exact ⟨rfl,HB.out⟩
theorem DR (G:Nat→Prop) (w:World) (vs:List Value) (g:Gm) (s:Int)(hG:∀ k,G k→k<w.heap.size) (hg:GmV G w vs g):
  Calls Tryz.prog 92 #[ag vs,.int .i64 s] w fun e w'=>e=.returned (.bool (decide (g.T s)))∧Below w.heap.size w w':=by
 obtain ⟨A0,c0,A1,c1,A2,c2,W,ev,hW,⟨x0,x1,x2,x3⟩,HB,HX⟩:=GBox.go hG hg;rw [ev];have HG:=Ha hG;clear hG hg ev;have HT:=Ha (GH g s);clear HX;go_enter Tryz.func92,Tryz.ntmps92;by_cases h1:1≤s
 ·by_cases h2:s≤(g.terms.length:Int)
  ·go_wp2_with fail;go_ret;exact ⟨aJ (by rw [HT.out];simp;omega),HB.out⟩
  ·go_wp2_with fail;go_ret;exact ⟨aJ (by rw [HT.out];simp;omega),HB.out⟩
 ·go_wp2_with fail;go_ret;exact ⟨aJ (by rw [HT.out];simp;omega),HB.out⟩
theorem mF (G:Nat→Prop) (w:World) (vs:List Value) (g:Gm) (s:Int)(hG:∀ k,G k→k<w.heap.size) (hg:GmV G w vs g) (hl:g.top≤9223372036854775807):
  Calls Tryz.prog 81 #[ag vs,.int .i64 s] w fun e w'=>e=.returned (.bool (decide (g.N s)))∧Below w.heap.size w w':=by
 obtain ⟨A0,c0,A1,c1,A2,c2,W,ev,hW,⟨x0,x1,x2,x3⟩,HB,HX⟩:=GBox.go hG hg;rw [ev];have HG:=Ha hG;clear hG hg ev;have HT:=Ha (GG g s);have HL:=Ha hl;clear hl;go_enter Tryz.func81,Tryz.ntmps81;by_cases h1:(g.terms.length:Int)<s
 ·go_wp2_with fail;refine (jN G _ _ g HX.out.old HX.out.gm HL.out).mono ?_;rintro e w1 ⟨rfl,hb1⟩;by_cases h2:s≤(g.top:Int)
  ·go_wp2_with fail;go_ret;exact ⟨aJ (by rw [HT.out];simp;omega),HB.out.trans (hb1.mono HB.out.size)⟩
  ·go_wp2_with fail;go_ret;exact ⟨aJ (by rw [HT.out];simp;omega),HB.out.trans (hb1.mono HB.out.size)⟩
 ·go_wp2_with fail;go_ret;exact ⟨aJ (by rw [HT.out];simp;omega),HB.out⟩
theorem JN (G:Nat→Prop) (w:World) (vs:List Value) (g:Gm) (s:Int)(hG:∀ k,G k→k<w.heap.size) (hg:GmV G w vs g) (hl:g.rules.length≤1099511627775):
  Calls Tryz.prog 87 #[ag vs,.int .i64 s] w fun e w'=>∃ v,e=.returned v∧aX w.heap.size w' v (ofR s g.rules 0)∧Below w.heap.size w w':=by
 obtain ⟨A0,c0,A1,c1,A2,c2,W,ev,hW,⟨x0,x1,x2,x3⟩,HB,HX⟩:=GBox.go hG hg;rw [ev];have HG:=Ha hG;clear hG hg ev;go_enter Tryz.func87,Tryz.ntmps87;go_wp2
 go_loopw [5,11] (fun o i wr=>∃ (k:Nat) (l:List Int),k≤g.rules.length∧i=.int .i64 k∧aX W.heap.size wr o l∧l.length≤k∧l++ofR s (g.rules.drop k) k=ofR s g.rules 0∧Below W.heap.size W wr) (fun _ i _=>g.rules.length-(intOf i).toNat)
 case atStart=>exact ⟨0,[],by omega,rfl,aG.nil _ _ _ _ _,by simp,rfl,gR _ _⟩
 case round=>
  obtain ⟨k,l,hk,rfl,ho,hll,hi,hb⟩:=hrel;obtain ⟨Ao,co,rfl⟩:=ho.shape;clear x0 x1 x2 x3;by_cases hlt:k<g.rules.length
  ·have hx:=HX.out.on hb;obtain ⟨bb,off,Ar,cr,rfl,z0,z1,zi⟩:=hx.rule hlt;have hb2:Below wr.heap.size wr (wr.alloc (.cells #[.int .i64 g.rules[k].1,.slice Ar g.rules[k].2.length cr] 64)):=(gR _ _).alloc (gO _) _;have q:=aC wr (.cells #[.int .i64 g.rules[k].1,.slice Ar g.rules[k].2.length cr] 64);rw [bD _ k hlt,ofR] at hi;have HO:=Ha (aX.below ho hb2);have HBR:=Ha (hb.trans (hb2.mono hb.size));clear zi hx ho hb
   revert hi z0 z1 q hb2 HO HBR
   generalize g.rules[k]=r;obtain ⟨r1,r2⟩:=r;dsimp only;intro hi z0 z1 hb2 q HO HBR;generalize hV:wr.alloc (.cells #[.int .i64 r1,.slice Ar r2.length cr] 64)=V at *;have y0:=aA q 0 _ rfl;have y1:=aA q 1 _ rfl;clear q hb2;by_cases hs:r1=s
   ·subst hs;rw [if_pos rfl] at hi;obtain ⟨v',w',hrun,ho',hb'⟩:=HO.out.push (k:Int) (by omega) HBR.out.size;obtain ⟨HO2,HB2,HI⟩:=Zh3 ho' hb' hi;clear ho' hb' hi;go_wp2_with fail
    go_roundw
    case rel=>exact ⟨k+1,l++[(k:Int)],by omega,by go_num,HO2.out,by simp;omega,by rw [List.append_assoc];exact HI.out,HBR.out.trans HB2.out⟩
    case measure=>simp only [intOf];omega
   ·rw [if_neg hs] at hi;have HI:=Ha hi;clear hi;go_wp2_with fail
    go_roundw
    case rel=>exact ⟨k+1,l,by omega,by go_num,HO.out,by omega,HI.out,HBR.out⟩
    case measure=>simp only [intOf];omega
  ·obtain ⟨HE,HO,HBR⟩:=Zh3 (show ofR s g.rules 0=l by rw [← hi,List.drop_eq_nil_of_le (by omega)];simp [ofR]) ho hb;clear hi ho hb;go_wp2_with fail;go_ret;exact ⟨_,rfl,by rw [HE.out];exact aG.lower HO.out HB.out.size,HB.out.trans (HBR.out.mono HB.out.size)⟩
end
theorem EQ (G:Nat→Prop) (w:World) (A1 A2:Option Addr) (n1 n2 c1 c2:Nat) (a b:List Int) (ha:aF G w (.slice A1 n1 c1) a) (hb:aF G w (.slice A2 n2 c2) b):
  Calls Tryz.prog 150 #[.slice A1 n1 c1,.slice A2 n2 c2] w fun e w'=>e=.returned (.bool (decide (a=b)))∧∃ m,w'=w.drewN m:=by
 have l1:=aH.len ha;have l2:=aH.len hb;have HA:=Ha ha;have HB:=Ha hb;have hm:=l1.2;have HL1:=Ha l1.1;have HL2:=Ha l2.1;clear ha hb l1 l2;go_enter Tryz.func150,Tryz.ntmps150;by_cases hl:n1=n2
 case neg=>
  have he:=Ha (yE (show ¬a=b from fun h=>hl (by rw [HL1.out,HL2.out,h])));go_wp2_with fail;go_ret;exact ⟨aJ he.out.symm,0,rfl⟩
 subst hl;go_wp2
 go_loopw [13] (fun i wr=>∃ (k q:Nat),k≤n1∧i=.int .i64 k∧(a.drop k=b.drop k↔a=b)∧wr=w.drewN q) (fun i _=>n1-(intOf i).toNat)
 case atStart=>exact ⟨0,0,by omega,rfl,Iff.rfl,rfl⟩
 case round=>
  obtain ⟨k,q,hk,rfl,hi,rfl⟩:=hrel;by_cases hlt:k<n1
  ·have hlt1:k<a.length:=by have:=HL1.out;omega
   have hlt2:k<b.length:=by have:=HL2.out;omega
   obtain ⟨b1,o1,rfl,z1⟩:=HA.out.get hlt1;obtain ⟨b2,o2,rfl,z2⟩:=HB.out.get hlt2;rw [bD a k hlt1,bD b k hlt2] at hi;have HI:=Ha hi;clear hi
   revert HI z1 z2
   generalize a[k]=x;generalize b[k]=y;intro z1 z2 HI;by_cases hxy:x=y
   ·subst hxy;have HI2:=Ha (show a.drop (k+1)=b.drop (k+1)↔a=b by have:=HI.out;rw [List.cons.injEq] at this;simpa using this);clear HI;go_wp2_with fail
    go_quiet (fail)
    go_wp2_with fail
    go_roundw
    case rel=>exact ⟨k+1,_,by omega,by go_num,HI2.out,rfl⟩
    case measure=>simp only [intOf];omega
   ·have he:=Ha (yE (show ¬a=b from fun h=>hxy (by have:=HI.out.2 h;injection this)));go_wp2_with fail
    go_quiet (fail)
    go_wp2_with fail;go_ret;exact ⟨aJ he.out.symm,q+nq,World.drewN_drewN ..⟩
  ·have he:=Ha (yD (hi.1 (by rw [List.drop_eq_nil_of_le (by have:=HL1.out;omega),List.drop_eq_nil_of_le (by have:=HL2.out;omega)])));clear hi;go_wp2_with fail;go_ret;exact ⟨aJ he.out.symm,q,rfl⟩
theorem tU (G:Nat→Prop) (w:World) (vs us:List Value) (a b:Int×List Int) (hG:∀ k,G k→k<w.heap.size) (ha:RuV G w vs a) (hb:RuV G w us b):
  Calls Tryz.prog 85 #[ag vs,ag us] w fun e w'=>e=.returned (.bool (decide (a=b)))∧Below w.heap.size w w':=by
 obtain ⟨Aa,ca,rfl,_,_⟩:=ha.shape;obtain ⟨Ab,cb,rfl,_,_⟩:=hb.shape;have hb1:Below w.heap.size w (w.alloc (.cells #[.int .i64 a.1,.slice Aa a.2.length ca] 64)):=(gR _ _).alloc (gO _) _;have hb2:Below w.heap.size w ((w.alloc (.cells #[.int .i64 a.1,.slice Aa a.2.length ca] 64)).alloc (.cells #[.int .i64 b.1,.slice Ab b.2.length cb] 64)):=hb1.alloc (by simp) _;have q0:=up (aC w (.cells #[.int .i64 a.1,.slice Aa a.2.length ca] 64)) (o:=.cells #[.int .i64 b.1,.slice Ab b.2.length cb] 64);have q1:=aC (w.alloc (.cells #[.int .i64 a.1,.slice Aa a.2.length ca] 64)) (.cells #[.int .i64 b.1,.slice Ab b.2.length cb] 64);rw [show (w.alloc (.cells #[.int .i64 a.1,.slice Aa a.2.length ca] 64)).heap.size=w.heap.size+1 by simp] at q1;unfold ag;generalize hW:(w.alloc (.cells #[.int .i64 a.1,.slice Aa a.2.length ca] 64)).alloc (.cells #[.int .i64 b.1,.slice Ab b.2.length cb] 64)=W at *;have y0:=aA q0 0 _ rfl;have y1:=aA q0 1 _ rfl;have z0:=aA q1 0 _ rfl;have z1:=aA q1 1 _ rfl;obtain ⟨va,ea,ia⟩:=ha
 injection ea with _ ea
 injection ea with ea _
 subst ea;obtain ⟨vb,eb,ib⟩:=hb
 injection eb with _ eb
 injection eb with eb _
 subst eb;obtain ⟨HI,HB,HE⟩:=Zh3 (EQ G W _ _ _ _ _ _ a.2 b.2 (aF.below hG hb2 ia) (aF.below hG hb2 ib)) hb2 (show decide (a=b)=(decide (a.1=b.1)&&decide (a.2=b.2)) by rw [Bool.eq_iff_iff];simp [Prod.ext_iff]);clear hb1 hb2 q0 q1 ia ib hG;obtain ⟨a1,a2⟩:=a;obtain ⟨b1,b2⟩:=b;dsimp only at *;go_enter Tryz.func85,Tryz.ntmps85;by_cases h1:a1=b1
 ·subst h1;go_wp2_with fail;refine (HI.out).mono ?_;rintro e w1 ⟨rfl,m,rfl⟩;go_wp2_with fail;go_ret;exact ⟨aJ (by rw [HE.out];simp),lI HB.out m⟩
 ·go_wp2_with fail;go_ret;exact ⟨by first | rfl | (rw [HE.out,yE h1];rfl),HB.out⟩
theorem sA (s:List UInt8) (w:World) (hm:s.length≤9223372036854775800):
  Calls Tryz.prog 78 #[bs s] w fun e w'=>e=.returned (.bool (nameB s))∧Below w.heap.size w w':=by
 have HC:=Ha (CJ ⟨s.toArray⟩ w (by rw [aT,cJ];omega));rw [cJ] at HC;unfold bs;have HD:=Ha (show nameB s=(Chr.name s&&decide (s.length≤24)) from rfl);go_enter Tryz.func78,Tryz.ntmps78;by_cases hl:s.length≤24
 ·have hd:=Ha (yD hl);have hl2:(s.length:Int)≤24:=by omega
  go_wp2_with fail;refine (HC.out).mono ?_;rintro e w1 ⟨rfl,hb⟩;go_wp2_with fail;go_ret;exact ⟨aJ (by rw [HD.out,hd.out,Bool.and_true]),hb⟩
 ·have hd:=Ha (yE hl);have hl2:¬(s.length:Int)≤24:=by omega
  go_wp2_with fail;go_ret;exact ⟨aJ (by rw [HD.out,hd.out,Bool.and_false]),gR _ _⟩
theorem AT:bM 74:=fun args w=>by simp [callFunc,go_sem,Tryz.func74,Tryz.f74]
theorem AU:bM 77:=fun args w=>by simp [callFunc,go_sem,Tryz.func77,Tryz.f77]
theorem AW:bM 82:=fun args w=>by simp [callFunc,go_sem,Tryz.func82,Tryz.f82]
theorem AY:bM 78:=fun args w=>by simp [callFunc,go_sem,Tryz.func78,Tryz.f78]
theorem AZ:bM 85:=fun args w=>by simp [callFunc,go_sem,Tryz.func85,Tryz.f85]
theorem AX:bM 148:=fun args w=>by simp [callFunc,go_sem,Tryz.func148,Tryz.f148]
theorem J5 (G:Nat→Prop) (w:World) (vs:List Value) (r:Int×List Int) (hr:RuV G w vs r):
  Calls Tryz.prog 74 #[ag vs] w fun e w'=>e=.returned (.bool (decide (r.2.length≤8)))∧Below w.heap.size w w':=by
 obtain ⟨A,c,rfl,_,_⟩:=hr.shape;have hb:Below w.heap.size w (w.alloc (.cells #[.int .i64 r.1,.slice A r.2.length c] 64)):=(gR _ _).alloc (gO _) _;have q:=aC w (.cells #[.int .i64 r.1,.slice A r.2.length c] 64);unfold ag;generalize hW:w.alloc (.cells #[.int .i64 r.1,.slice A r.2.length c] 64)=W at *;have y0:=aA q 0 _ rfl;have y1:=aA q 1 _ rfl;have HB:=Ha hb;have hd:=Ha (dle r.2.length 8);clear hb q hr;go_enter Tryz.func74,Tryz.ntmps74;go_wp2_with fail;go_ret;exact ⟨aJ hd.out,HB.out⟩
theorem J6 (s:List UInt8) (w:World) (hm:s.length≤1099511627776) (ht:iD s=true):
  Calls Tryz.prog 77 #[bs s] w fun e w'=>e=.returned (.bool true)∧Below w.heap.size w w':=by
 have HP:=Ha (sA s w (by omega));have HQ:=Ha (fun X (h:quotedB s=true)=>zD ⟨s.toArray⟩ X (by rw [aT,cJ];omega) (by rw [cJ];exact h));unfold iD at ht;unfold bs at HP ⊢;go_enter Tryz.func77,Tryz.ntmps77;go_wp2_with fail;refine (HP.out).mono ?_;rintro e w1 ⟨rfl,hb⟩;cases hn:nameB s
 ·rw [hn,Bool.false_or] at ht;have HT:=Ha ht;have HB:=Ha hb;clear ht hb;go_wp2_with fail;refine (HQ.out _ HT.out).mono ?_;rintro e w2 ⟨rfl,rfl⟩;go_wp2_with fail;go_ret;exact ⟨rfl,HB.out⟩
 ·go_wp2_with fail;go_ret;exact ⟨rfl,hb⟩
theorem CA (G:Nat→Prop) (X:World) (b:Nat) (A0 c0 A1 c1 A2 c2) (g:Gm) (s:Int) (w:World) (hw:w=X) (hx:GBox G X b A0 c0 A1 c1 A2 c2 g) (hl:g.top≤9223372036854775807):
  Calls Tryz.prog 148 #[.int .i64 s,.pointer (some ⟨b,0,none⟩)] w fun e w'=>e=.returned (.bool (mR g s))∧Below w.heap.size w w':=by
 subst hw;have h3:=DR G;have h4:=mF G;unfold ag at h3 h4;obtain ⟨H3,H4,HL,HX,HS⟩:=Zh5 h3 h4 hl hx (show mR g s=(decide (g.T s)||decide (g.N s)) from rfl);obtain ⟨x0,x1,x2,x3⟩:=hx.cells;clear h3 h4 hl hx;go_enter Tryz.func148,Tryz.ntmps148;go_wp2_with fail;refine (H3.out _ _ g s HX.out.old HX.out.gm).mono ?_;rintro e w1 ⟨rfl,hb1⟩;have HX1:=Ha (HX.out.on hb1);have HB1:=Ha hb1;clear x0 x1 x2 x3 hb1;obtain ⟨x0,x1,x2,x3⟩:=HX1.out.cells;generalize decide (g.T s)=d at HS;cases d
 ·go_wp2_with fail;refine (H4.out _ _ g s HX1.out.old HX1.out.gm HL.out).mono ?_;rintro e w2 ⟨rfl,hb1⟩;have HB2:=Ha (HB1.out.trans (hb1.mono HB1.out.size));clear x0 x1 x2 x3 hb1;go_wp2_with fail;go_ret;exact ⟨aJ (by rw [HS.out];rfl),HB2.out⟩
 ·go_wp2_with fail;go_ret;exact ⟨aJ (by rw [HS.out];rfl),HB1.out⟩
def spanB (d:Nat→Nat→Nat→Bool):List Int→Nat→Nat→Bool
 | [],i,j=>i==j
 | x::r,i,j=>(List.range (j+1-i)).any fun k=>d x.toNat i (i+k)&&spanB d r (i+k) j
def begB (d:Nat→Nat→Nat→Bool) (bb:Nat→Nat→Bool) (N:Nat):List Int→Nat→Bool
 | [],i=>i==N
 | x::r,i=>i==N||bb x.toNat i||(List.range (N+1-i)).any fun k=>d x.toNat i (i+k)&&begB d bb N r (i+k)
structure Ch (w:World) (bc bd bB:Nat) (p r:Nat→Nat) (q:Nat→Nat→Nat) (m n:Nat) (d:Nat→Nat→Nat→Bool) (bb:Nat→Nat→Bool) (v0 v1 v2 v3:Value) (Al:Option Addr) (cl:Nat):Prop where
 hc:w.heap[bc]? = some (.cells #[v0,v1,v2,v3,.slice Al (n-1) cl,.slice (some ⟨bd,0,none⟩) m m,.slice (some ⟨bB,0,none⟩) m m] 79 (0,0))
 hd:w.rowIs bd 76 m (fun s=>.slice (some ⟨p s,0,none⟩) n n)
 hB:w.rowIs bB 75 m (fun s=>.slice (some ⟨r s,0,none⟩) n n)
 hp:∀ s,s<m→w.rowIs (p s) 75 n (fun i=>.slice (some ⟨q s i,0,none⟩) n n)
 hq:∀ s i,s<m→i<n→w.rowIs (q s i) 4 n (fun j=>.bool (d s i j))
 hr:∀ s,s<m→w.rowIs (r s) 4 n (fun i=>.bool (bb s i))
 qq:∀ s i s' i',s<m→i<n→s'<m→i'<n→q s i=q s' i'→s=s'∧i=i'
 rr:∀ s s',s<m→s'<m→r s=r s'→s=s'
 qr:∀ s i s',s<m→i<n→s'<m→q s i≠r s'
 n1:1≤n
section
variable {w w':World} {bc bd bB:Nat} {p r:Nat→Nat} {q:Nat→Nat→Nat} {m n:Nat} {d:Nat→Nat→Nat→Bool} {bb:Nat→Nat→Bool} {v0 v1 v2 v3:Value} {Al:Option Addr} {cl:Nat}
theorem bK {b:Nat} {T:TypeId} {k:Nat} {f:Nat→Value} (h:w.rowIs b T k f) (hb:Below w.heap.size w w'):w'.rowIs b T k f:=h.of_block (hb.block _ h.lt)
theorem Ch.below (h:Ch w bc bd bB p r q m n d bb v0 v1 v2 v3 Al cl) (hb:Below w.heap.size w w'):Ch w' bc bd bB p r q m n d bb v0 v1 v2 v3 Al cl:=
 ⟨(hb.block _ (gL h.hc).1).trans h.hc,bK h.hd hb,bK h.hB hb,fun s hs=>bK (h.hp s hs) hb,fun s i hs hi=>bK (h.hq s i hs hi) hb,fun s hs=>bK (h.hr s hs) hb,h.qq,h.rr,h.qr,h.n1⟩
theorem Ch.dcells (h:Ch w bc bd bB p r q m n d bb v0 v1 v2 v3 Al cl) {s i j:Nat} (hs:s<m) (hi:i<n) (hj:j<n):
  w.cell? ⟨bc,5,none⟩=some (.slice (some ⟨bd,0,none⟩) m m)∧w.cell? ⟨bd,s,none⟩=some (.slice (some ⟨p s,0,none⟩) n n)∧w.cell? ⟨p s,i,none⟩=some (.slice (some ⟨q s i,0,none⟩) n n)∧w.cell? ⟨q s i,j,none⟩=some (.bool (d s i j)):=
 ⟨aA h.hc 5 _ rfl,h.hd.cell hs,(h.hp s hs).cell hi,(h.hq s i hs hi).cell hj⟩
theorem Ch.bcells (h:Ch w bc bd bB p r q m n d bb v0 v1 v2 v3 Al cl) {s i:Nat} (hs:s<m) (hi:i<n):
  w.cell? ⟨bc,4,none⟩=some (.slice Al (n-1) cl)∧w.cell? ⟨bc,6,none⟩=some (.slice (some ⟨bB,0,none⟩) m m)∧w.cell? ⟨bB,s,none⟩=some (.slice (some ⟨r s,0,none⟩) n n)∧w.cell? ⟨r s,i,none⟩=some (.bool (bb s i)):=
 ⟨aA h.hc 4 _ rfl,aA h.hc 6 _ rfl,h.hB.cell hs,(h.hr s hs).cell hi⟩
end
theorem aF.tail {G:Nat→Prop} {w:World} {b off n c:Nat} {x:Int} {l:List Int} (h:aF G w (.slice (some ⟨b,off,none⟩) (n+1) c) (x::l)):aF G w (.slice (some ⟨b,off+1,none⟩) n (c-1)) l:=by
 obtain ⟨A,c',e,h1,h2,h3⟩:=h
 injection e with e1 e2 e3
 subst e1 e3;rw [gG] at e2 h1;obtain rfl:n=l.length:=by omega
 refine ⟨some ⟨b,off+1,none⟩,c-1,rfl,by omega,by omega,fun _=>?_⟩;obtain ⟨b',o',e4,h5,h6⟩:=h3 (by simp)
 injection e4 with e4
 injection e4 with e4 e5
 subst e4 e5;refine ⟨b,off+1,rfl,h5,fun i hi=>?_⟩;obtain ⟨vs,k1,k2,k3⟩:=h6 (i+1) (by simpa using hi);refine ⟨vs,k1,by simpa using k2,fun j u hj=>?_⟩;rw [show off+1+i*1+j=off+(i+1)*1+j by omega];exact k3 j u hj
theorem aF.tail' {G:Nat→Prop} {w:World} {b off n c:Nat} {x:Int} {l:List Int} (h:aF G w (.slice (some ⟨b,off,none⟩) (n+1) c) (x::l)):aF G w (.slice (if c=1 then some ⟨b,off,none⟩ else some ⟨b,off+1,none⟩) n (c-1)) l:=by
 by_cases e:c=1
 ·obtain ⟨A,c',e1,h1,h2,h3⟩:=h
  injection e1 with e1 e2 e3
  subst e3;rw [gG] at e2 h1;obtain rfl:l=[]:=yM (by omega);exact ⟨_,_,(by rw [show n=0 by simpa using e2];rfl),(by simp),(by omega),fun h=>absurd h (Nat.lt_irrefl 0)⟩
 ·rw [if_neg e];exact h.tail
theorem oW (d:Nat→Nat→Nat→Bool) (x:Int) (r:List Int) (i j:Nat):spanB d (x::r) i j=true↔∃ k,i+k≤j∧d x.toNat i (i+k)=true∧spanB d r (i+k) j=true:=by
 rw [spanB,List.any_eq_true];constructor
 ·rintro ⟨k,hk,h⟩;rw [yF] at h;exact ⟨k,by have:=List.mem_range.1 hk;omega,h.1,h.2⟩
 ·rintro ⟨k,hk,h1,h2⟩;exact ⟨k,List.mem_range.2 (by omega),by rw [h1,h2];rfl⟩
theorem IY:∀ (l:List Int) (G:Nat→Prop) (w:World) (bc bd bB:Nat) (p r:Nat→Nat) (q:Nat→Nat→Nat) (m n:Nat) (d:Nat→Nat→Nat→Bool) (bb:Nat→Nat→Bool) (v0 v1 v2 v3:Value) (Al:Option Addr) (cl:Nat) (A:Option Addr) (c i j:Nat),
  Ch w bc bd bB p r q m n d bb v0 v1 v2 v3 Al cl→(∀ k,G k→k<w.heap.size)→aF G w (.slice A l.length c) l→(∀ s∈l,0≤s∧s<m)→i<n→j<n→n≤1000000→m≤1000000→
  Calls Tryz.prog 153 #[.pointer (some ⟨bc,0,none⟩),.slice A l.length c,.int .i64 i,.int .i64 j] w fun e w'=>e=.returned (.bool (spanB d l i j))∧Below w.heap.size w w':=by
 intro l
 induction l with
 | nil=>
  intro G w bc bd bB p r q m n d bb v0 v1 v2 v3 Al cl A c i j _ _ _ _ hi hj hn hm;have he:=Ha (show ((i:Int)==(j:Int))=spanB d [] i j by rw [spanB,Bool.eq_iff_iff];simp;omega);go_enter Tryz.func153,Tryz.ntmps153;go_wp2;go_ret;exact ⟨by rw [← he.out];rfl,gR _ _⟩
 | cons x l ih=>
  intro G w bc bd bB p r q m n d bb v0 v1 v2 v3 Al cl A c i j hch hG hin hs hi hj hn hm;obtain ⟨x',hx'⟩:∃ x':Nat,x=(x':Int):=⟨x.toNat,by have:=(hs x (yH ..)).1;omega⟩;subst hx';have hxm:x'<m:=by have:=(hs _ (yH ..)).2;omega
  have hlen:((x':Int)::l).length=l.length+1:=rfl;rw [hlen] at hin ⊢;obtain ⟨b,off,rfl,z⟩:=aF.get hin (k:=0) (by simp);have htl:=hin.tail';generalize hAe:(if c=1 then some ⟨b,off,none⟩ else some ⟨b,off+1,none⟩:Option Addr)=A' at htl;have hcap:l.length+1≤c:=by obtain ⟨_,_,e,h2,_⟩:=hin.shape;injection e with _ _ e;subst e;exact h2
  have hc0:(1:Int)≤(c:Int):=by omega
  have hl1:(1:Int)≤(l.length:Int)+1:=by omega
  have hllc:(l.length:Int)+1≤(c:Int):=by omega
  rw [show ((x':Int)::l)[0]=(x':Int) from rfl,Nat.add_zero] at z;obtain ⟨HCH,HG,HTL,HS,IH,HSP⟩:=Zh6 hch hG htl (fun s h=>hs s (yI _ h)) ih (show _ from oW d (x':Int) l i j);clear hch hG hin htl hs ih hlen;go_enter Tryz.func153,Tryz.ntmps153;go_wp2
  go_loopw [9] (fun mv wr=>∃ k:Nat,mv=.int .i64 ((i+k:Nat):Int)∧i+k≤max i (j+1)∧(∀ k',k'<k→¬(d x' i (i+k')=true∧spanB d l (i+k') j=true))∧Below w.heap.size w wr) (fun mv _=>j+1-(intOf mv).toNat)
  case atStart=>exact ⟨0,rfl,by omega,fun _ h=>absurd h (yJ _),gR _ _⟩
  case round=>
   obtain ⟨k,rfl,hk,hno,hb⟩:=hrel;have HNO:=Ha hno;have HB:=Ha hb;have hchr:=HCH.out.below hb;have hzr:=aD z hb;clear hno hb;obtain ⟨mm,hmm⟩:∃ mm,mm=i+k:=⟨_,rfl⟩;rw [← hmm] at hk ⊢;have HMM:=Ha hmm;clear hmm;by_cases hle:mm≤j
   ·obtain ⟨e1,e2,e3,e4⟩:=hchr.dcells hxm hi (show mm<n by omega);have hne:Nonempty (Gr wr):=⟨⟨_,gR _ _⟩⟩;have pc:=fun Y:Gr wr=>Y.calls (IH.out G Y.at_ bc bd bB _ _ _ _ _ d bb _ _ _ _ _ _ A' (c-1) mm j (hchr.below Y.2) (bN (bN HG.out HB.out) Y.2) (HTL.out.below HG.out (HB.out.trans (Below.mono Y.2 HB.out.size))) HS.out (by omega) hj hn hm);have f0:=fun Y:Gr wr=>Y.cell _ _ e1;have f1:=fun Y:Gr wr=>Y.cell _ _ e2;have f2:=fun Y:Gr wr=>Y.cell _ _ e3;have f3:=fun Y:Gr wr=>Y.cell _ _ e4;have fz:=fun Y:Gr wr=>Y.cell _ _ hzr;clear hchr e1 e2 e3 e4 hzr z;have HYES:=Ha (show d x' i mm=true→spanB d l mm j=true→spanB d ((x':Int)::l) i j=true from fun h1 h2=>HSP.out.2 ⟨k,by rw [← HMM.out];exact hle,by rw [← HMM.out,yB];exact h1,by rw [← HMM.out];exact h2⟩);have HNEXT:=Ha (show ¬(d x' i mm=true∧spanB d l mm j=true)→∀ k',k'<k+1→¬(d x' i (i+k')=true∧spanB d l (i+k') j=true) from fun h k' hk'=>by
     by_cases e:k'=k
     ·rw [e,← HMM.out];exact h
     ·exact HNO.out k' (by omega))
    revert pc f3 HYES HNEXT
    generalize d x' i mm=d1;generalize spanB d l mm j=d2;intro pc f3 HYES HNEXT;go_wp2_with fail;cases d1
    ·refine aN (S:=Gr wr) Gr.at_ (by kernel_rfl) (by kernel_rfl) (Gr.drew _) ?_;repeat (go_big_quiet_step (with_reducible exact pc _))
     refine wpQuiet_nil ?_;rintro wz ⟨⟨wz',hY⟩,hY2⟩;obtain rfl:wz=wz':=hY2;have HBZ:=Ha (HB.out.trans (hY.mono HB.out.size));clear pc f0 f1 f2 f3 fz hne hY;go_wp2_with fail
     go_roundw
     case rel=>exact ⟨k+1,by have:=HMM.out;go_num,by have:=HMM.out;omega,HNEXT.out (by simp),HBZ.out⟩
     case measure=>simp only [intOf];omega
    ·refine aN (S:=Gr wr) Gr.at_ (by kernel_rfl) (by kernel_rfl) (Gr.drew _) ?_;repeat (go_big_quiet_step (with_reducible exact pc _))
     refine wpQuiet_nil ?_;rintro wz ⟨⟨wz',hY⟩,hY2⟩;obtain rfl:wz=wz':=hY2;have HBZ:=Ha (HB.out.trans (hY.mono HB.out.size));clear pc f0 f1 f2 f3 fz hne hY;cases d2
     ·go_wp2_with fail
      go_roundw
      case rel=>exact ⟨k+1,by have:=HMM.out;go_num,by have:=HMM.out;omega,HNEXT.out (by simp),HBZ.out⟩
      case measure=>simp only [intOf];omega
     ·have he:=Ha (HYES.out rfl rfl);go_wp2_with fail;go_ret;exact ⟨by rw [he.out];rfl,HBZ.out⟩
   ·have he:=Ha (show spanB d ((x':Int)::l) i j=false from by
     rw [Bool.eq_false_iff];intro h;obtain ⟨k',h1,h2,h3⟩:=HSP.out.1 h;rw [yB] at h2;exact HNO.out k' (by have:=HMM.out;omega) ⟨h2,h3⟩)
    go_wp2_with fail;go_ret;exact ⟨by rw [he.out];rfl,HB.out⟩
end Go.Proofs.YtpidmmfjcghmeaaGreat
