/- Towards clashesWhole_upto. -/
import Derived.Test.YtpidmmfjcghmeaaGreatCs02
import Derived.Maps.OwnSet
import Derived.Laws.Bits64b
import Derived.Laws.MakeOwn
import Derived.Laws.CopyRow
import Derived.Lib.SliceRun
import Derived.DeepKeys4
import Derived.WideKeyPair
set_option maxRecDepth 100000
set_option maxHeartbeats 16000000
set_option linter.all false
namespace Go.Proofs.YtpidmmfjcghmeaaGreat
open Go.RowKit
section
variable {β:Type} {B:Nat} {T:TypeId} {sz:Nat} {R:List Value→β→Prop} {w w':World} {v:Value} {xs ys:List β}
theorem aG.nil (B:Nat) (T:TypeId) (sz:Nat) (R:List Value→β→Prop) (w:World):aG B T sz R w (.slice none 0 0) []:=⟨[],trivial,by simp,.inl ⟨rfl,rfl⟩⟩
theorem aG.lower {B':Nat} (h:aG B T sz R w v xs) (hB:B'≤B):aG B' T sz R w v xs:=by
 obtain ⟨us,hf,hl,ho⟩:=h;refine ⟨us,hf,hl, ?_⟩;rcases ho with h0 | ⟨g,cap,cur,e1,e2,e3⟩
 ·exact .inl h0
 ·exact .inr ⟨g,cap,cur,e1,gP hB e2,e3⟩
theorem aG.add (t:TypeId) {z:Value} {bytes:Nat} (hu:Tryz.prog.underlying t=some (.slice T)) (hi:(Tryz.prog.info? T).map (fun i=>(i.zero,i.size,i.bytes))=some (some z,sz,bytes)) (hzs:z.cells.size=sz) (hsz:0<sz)
  (hone:∀ vs x,R vs x→∀ u∈vs,u.oneCell'=true) (ty:TypeId) {G:Nat→Prop} {v2:Value} (h:aG B T sz R w v xs) (hx:aH G w sz R v2 ys) (hlen:(xs.length+ys.length)*bytes≤140737488355328) (hmx:xs.length+ys.length≤maxLen) (hB:B≤w.heap.size):
  ∃ v' w',WrA Tryz.prog #[t,t] ty #[v,v2] w=.ok v' w'∧aG B T sz R w' v' (xs++ys)∧Below B w w':=by
 obtain ⟨v',w',h1,h2,h3,_⟩:=h.append t hu hi hzs hsz hone ty hx hlen hmx hB;exact ⟨v',w',h1,h2,(gR B w).grown h3 hB fun k e=>(h.lt e).1⟩
theorem aG.push (t:TypeId) {z:Value} {bytes:Nat} (hu:Tryz.prog.underlying t=some (.slice T)) (hi:(Tryz.prog.info? T).map (fun i=>(i.zero,i.size,i.bytes))=some (some z,sz,bytes)) (hzs:z.cells.size=sz) (hsz:0<sz)
  (hone:∀ vs x,R vs x→∀ u∈vs,u.oneCell'=true) (ty:TypeId) {us:List Value} {x:β} (hus:us.length=sz) (hR:R us x) (h:aG B T sz R w v xs) (hlen:(xs.length+1)*bytes≤140737488355328) (hmx:xs.length+1≤maxLen) (hB:B≤w.heap.size):
  ∃ v' w',WrA Tryz.prog #[t,t] ty #[v,.slice (some ⟨w.heap.size,0,none⟩) 1 1] (w.alloc (.cells us.toArray T))=.ok v' w'∧aG B T sz R w' v' (xs++[x])∧Below B w w':=by
 have hb:Below w.heap.size w (w.alloc (.cells us.toArray T)):=(gR _ _).alloc (gO _) _;have q:=aC w (.cells us.toArray T);have hx:aH (fun _=>True) (w.alloc (.cells us.toArray T)) sz R (.slice (some ⟨w.heap.size,0,none⟩) 1 1) [x]:=
  ⟨_,_,rfl,gO _,by unfold maxLen;omega,fun _=>⟨_,_,rfl,trivial,fun i hi=>by
   obtain rfl:i=0:=by simpa using hi
   exact ⟨us,hus,hR,fun j u hj=>by simpa using aA q j u (by simpa using hj)⟩⟩⟩
 obtain ⟨v',w',h1,h2,h3⟩:=(h.below hb).add t hu hi hzs hsz hone ty hx hlen hmx (gP hB hb.size);exact ⟨v',w',h1,h2,(hb.mono hB).trans h3⟩
end
def aX (B:Nat) (w:World) (v:Value) (l:List Int):Prop:=aG B 3 1 cF w v l
def cL (B:Nat) (w:World) (v:Value) (l:List (List UInt8)):Prop:=aG B 9 1 iT w v l
section
variable {B:Nat} {w w':World} {v v2:Value} {xs ys:List Int}
theorem aX.add {G:Nat→Prop} (h:aX B w v xs) (hx:aF G w v2 ys) (hl:xs.length+ys.length≤1099511627776) (hB:B≤w.heap.size):∃ v' w',WrA Tryz.prog #[26,26] 26 #[v,v2] w=.ok v' w'∧aX B w' v' (xs++ys)∧Below B w w':=
 aG.add 26 Tryz.underlying26 cB rfl (by decide) cF.one _ h hx (by omega) (by unfold maxLen;omega) hB
theorem aX.push (x:Int) (h:aX B w v xs) (hl:xs.length+1≤1099511627776) (hB:B≤w.heap.size):∃ v' w',WrA Tryz.prog #[26,26] 26 #[v,.slice (some ⟨w.heap.size,0,none⟩) 1 1] (w.alloc (.cells #[.int .i64 x] 3))=.ok v' w'∧aX B w' v' (xs++[x])∧Below B w w':=
 aG.push 26 Tryz.underlying26 cB rfl (by decide) cF.one _ (us:=[.int .i64 x]) rfl rfl h (by omega) (by unfold maxLen;omega) hB
theorem aX.shape (h:aX B w v xs):∃ A c,v=.slice A xs.length c:=by
 obtain ⟨A,c,e,_⟩:=aG.shape h;exact ⟨A,c,e⟩
theorem aX.at_ (h:aX B w v xs):aF (Old w) w v xs:=aG.look h fun _ hg=>(aG.lt h hg).2
theorem aX.below (h:aX B w v xs) (hb:Below w.heap.size w w'):aX B w' v xs:=aG.below h hb
end
section
variable {B:Nat} {w w':World} {v v2:Value} {xs ys:List (List UInt8)}
theorem cL.add {G:Nat→Prop} (h:cL B w v xs) (hx:aW G w v2 ys) (hl:xs.length+ys.length≤1099511627776) (hB:B≤w.heap.size):∃ v' w',WrA Tryz.prog #[22,22] 22 #[v,v2] w=.ok v' w'∧cL B w' v' (xs++ys)∧Below B w w':=
 aG.add 22 Tryz.underlying22 fT rfl (by decide) iT.one _ h hx (by omega) (by unfold maxLen;omega) hB
theorem cL.push (x:List UInt8) (h:cL B w v xs) (hl:xs.length+1≤1099511627776) (hB:B≤w.heap.size):∃ v' w',WrA Tryz.prog #[22,22] 22 #[v,.slice (some ⟨w.heap.size,0,none⟩) 1 1] (w.alloc (.cells #[bs x] 9))=.ok v' w'∧cL B w' v' (xs++[x])∧Below B w w':=
 aG.push 22 Tryz.underlying22 fT rfl (by decide) iT.one _ (us:=[bs x]) rfl rfl h (by omega) (by unfold maxLen;omega) hB
theorem cL.shape (h:cL B w v xs):∃ A c,v=.slice A xs.length c:=by
 obtain ⟨A,c,e,_⟩:=aG.shape h;exact ⟨A,c,e⟩
theorem cL.at_ (h:cL B w v xs):aW (Old w) w v xs:=aG.look h fun _ hg=>(aG.lt h hg).2
theorem cL.below (h:cL B w v xs) (hb:Below w.heap.size w w'):cL B w' v xs:=aG.below h hb
end
open Go.Maps Go.WideMaps
theorem E3:Keyed Tryz.prog 9:=string_keyed Tryz.underlying9
theorem GN (w:World):(zeroValue 3).run Tryz.prog w=.ok (.int .i64 0) w:=by kernel_rfl
def MI (w:World) (b:Nat) (f:List UInt8→Option Int) (n:Nat):Prop:=
 ∃ D:DataW Unit,w.ownsMap Tryz.prog 9 (plainElem Tryz.prog 3) b n D∧Maps.size D=n∧∀ s,Maps.has D (.string s)=(f s).isSome∧D.atKey (.string s) (.lit (.int .i64 0))=.lit (.int .i64 ((f s).getD 0))
def upd (f:List UInt8→Option Int) (s:List UInt8) (v:Int):List UInt8→Option Int:=fun t=>if t=s then some v else f t
section
variable {w w':World} {b n:Nat} {f:List UInt8→Option Int}
theorem MI.lt (h:MI w b f n):b<w.heap.size:=by
 obtain ⟨D,h1,_⟩:=h;exact World.ownsMap.lt h1
theorem MI.kept {row:Option Nat} (h:MI w b f n) (hg:w.grownBy w' row) (hne:some b≠row):MI w' b f n:=by
 obtain ⟨D,h1,h2⟩:=h;exact ⟨D,World.ownsMap.kept h1 hg hne,h2⟩
theorem MI.made (w:World):MI (w.alloc (.map #[] 0)) w.heap.size (fun _=>none) 0:=
 ⟨_,World.ownsMap_made w _ _ _,rfl,fun _=>⟨rfl,rfl⟩⟩
theorem MI.get (h:MI w b f n) (s:List UInt8) (hs:s.length≤9223372036854775807):(Instr.lookup 115 (.map (some b)) (bs s) false).run Tryz.prog w=.ok (.int .i64 ((f s).getD 0)) w:=by
 obtain ⟨D,h1,_,h3⟩:=h;obtain ⟨v,ps,hrun,hv⟩:=World.ownsMap.lookup h1 E3 Tryz.underlying115 (GN w) (plainElem_int (H:=Unit) Tryz.underlying3 (a:=0) (by decide)) (keyOf_string_mk Tryz.underlying9 (s:=⟨s.toArray⟩) (by rw [aT,cJ];exact hs));obtain ⟨c,rfl,hc,_⟩:=plainElem_int_inv Tryz.underlying3 hv;unfold bs;rw [hrun];have h1:=congrArg Prod.fst hc;simp only at h1;rw [(h3 s).2] at h1;have h2:c=(f s).getD 0:=by injection h1 with h1;injection h1 with _ h1;exact h1.symm
 rw [h2]
theorem MI.look (h:MI w b f n) (s:List UInt8) (hs:s.length≤9223372036854775807):(Instr.lookup 115 (.map (some b)) (bs s) true).run Tryz.prog w=.ok (.tuple #[.int .i64 ((f s).getD 0),.bool (f s).isSome]) w:=by
 obtain ⟨D,h1,_,h3⟩:=h;obtain ⟨v,ps,hrun,hv⟩:=World.ownsMap.look_ok h1 E3 Tryz.underlying115 (GN w) (plainElem_int (H:=Unit) Tryz.underlying3 (a:=0) (by decide)) (keyOf_string_mk Tryz.underlying9 (s:=⟨s.toArray⟩) (by rw [aT,cJ];exact hs));obtain ⟨c,rfl,hc,_⟩:=plainElem_int_inv Tryz.underlying3 hv;unfold bs;rw [hrun];have h1:=congrArg Prod.fst hc;simp only at h1;rw [(h3 s).2] at h1;have h2:c=(f s).getD 0:=by injection h1 with h1;injection h1 with _ h1;exact h1.symm
 rw [h2];exact congrArg (fun z=>Result.ok (Value.tuple #[.int .i64 ((f s).getD 0),.bool z]) w) (h3 s).1
theorem MI.len (h:MI w b f n) (ty:TypeId):(Builtin.len_ #[115] ty #[.map (some b)]).run Tryz.prog w=.ok (.int .i64 n) w:=by
 obtain ⟨D,h1,h2,_⟩:=h;have:=World.ownsMap.len h1 Tryz.underlying115 ty
 rwa [h2] at this
theorem MI.store (h:MI w b f n) (s:List UInt8) (v:Int) (hs:s.length≤9223372036854775807) (hv:(Lit.int .i64 v).wf=true) (hn:n<9223372036854775807):
  ∃ w',(Instr.mapUpdate 115 (.map (some b)) (bs s) (.int .i64 v)).run Tryz.prog w=.ok () w'∧MI w' b (upd f s v) (if (f s).isSome then n else n+1)∧w.grownBy w' (some b)∧w'.heap.size=w.heap.size:=by
 obtain ⟨D,h1,h2,h3⟩:=h;have hk:=keyOf_string_mk Tryz.underlying9 (s:=⟨s.toArray⟩) (by rw [aT,cJ];exact hs);obtain ⟨w',k1,k2,k3⟩:=World.ownsMap.store h1 E3 Tryz.underlying115 hn hk (plainElem_int (H:=Unit) Tryz.underlying3 hv);have hT:=World.ownsMap.tidy h1 E3;have hM:=World.ownsMap.isMap h1;have e0:({ data:=s.toArray }:ByteArray).data.toList=s:=rfl;rw [e0] at k2;have hsz:Maps.size (D.put (.string s) (.lit (.int .i64 v)))=if (f s).isSome then n else n+1:=by
  rw [Maps.size_put hT,(h3 s).1,h2]
 refine ⟨w',k1,⟨D.put (.string s) (.lit (.int .i64 v)), ?_,hsz,fun t=>?_⟩,k3.grown, ?_⟩
 ·rw [← hsz];obtain ⟨es,clock,hb,F,_,e⟩:=k2;exact ⟨es,clock,hb,F,by rw [e];simp [Maps.size,length_sorted],e⟩
 ·unfold upd;by_cases ht:t=s
  ·subst ht;rw [if_pos rfl];exact ⟨Maps.has_put_same hM (show WideAt.IsKeyLit (.string t) from trivial) _,Maps.atKey_put_same hM (show WideAt.IsKeyLit (.string t) from trivial) _ _⟩
  ·rw [if_neg ht,Maps.has_put_other (fun e=>ht (by injection e)),Maps.atKey_put_other (fun e=>ht (by injection e))];exact h3 t
 ·obtain ⟨es,clock,es',clock',_,rfl⟩:=k3;simp [ChangeMaps.setBlock]
end
end Go.Proofs.YtpidmmfjcghmeaaGreat
namespace Go.Proofs.YtpidmmfjcghmeaaGreat
open Go.RowKit
section
attribute [local go_sem ↓] aI
structure BSet (w:World) (b bw n X:Nat):Prop where
 n1:1≤n
 n64:n≤64
 hX:X<2 ^ n
 ne:b≠bw
 hb:w.heap[b]? = some (.cells #[.int .i64 n,.slice (some ⟨bw,0,none⟩) 1 1] 159 (0,0))
 hw:w.heap[bw]? = some (.cells #[.int .u64 X] 154 (0,0))
section
variable {w w':World} {b bw n X:Nat}
theorem BSet.c0 (h:BSet w b bw n X):w.cell? ⟨b,0,none⟩=some (.int .i64 n):=aA h.hb 0 _ rfl
theorem BSet.c1 (h:BSet w b bw n X):w.cell? ⟨b,1,none⟩=some (.slice (some ⟨bw,0,none⟩) 1 1):=aA h.hb 1 _ rfl
theorem BSet.d0 (h:BSet w b bw n X):w.cell? ⟨bw,0,none⟩=some (.int .u64 X):=aA h.hw 0 _ rfl
theorem BSet.fz (h:BSet w b bw n X):w.frozen? ⟨bw,0,none⟩=false:=by simp [World.frozen?,h.hw]
theorem BSet.lt (h:BSet w b bw n X):b<w.heap.size∧bw<w.heap.size:=⟨(gL h.hb).1,(gL h.hw).1⟩
theorem BSet.keep (h:BSet w b bw n X) (h1:w'.heap[b]? = w.heap[b]?) (h2:w'.heap[bw]? = w.heap[bw]?):BSet w' b bw n X:=⟨h.n1,h.n64,h.hX,h.ne,h1.trans h.hb,h2.trans h.hw⟩
theorem BSet.below (h:BSet w b bw n X) (hb:Below w.heap.size w w'):BSet w' b bw n X:=h.keep (hb.block _ h.lt.1) (hb.block _ h.lt.2)
theorem BSet.x64 (h:BSet w b bw n X):X<18446744073709551616:=gK h.hX (Nat.pow_le_pow_right (by decide) h.n64)
end
theorem qE (b bw n X:Nat) (w:World) (h:BSet w b bw n X):
  Calls Tryz.prog 151 #[.pointer (some ⟨b,0,none⟩)] w fun e w'=>e=.returned (.int .i64 n)∧w'=w:=by
 have c0:=h.c0;clear h;go_enter Tryz.func151,Tryz.ntmps151;go_wp2_with fail;go_ret;exact ⟨rfl,rfl⟩
theorem GT:∀ i:Fin 64,bits .and .i64 ((i.val:Nat):Int) 63=((i.val:Nat):Int):=by decide +kernel
theorem JT:∀ i:Fin 64,IntKind.u64.wrap (2 ^ min (IntKind.u64.wrap (bits .and .i64 ((i.val:Nat):Int) 63)).toNat 64)=((2 ^ i.val:Nat):Int):=by decide +kernel
theorem I8 (i:Nat) (h:i<64):bits .and .i64 (i:Int) 63=(i:Int):=GT ⟨i,h⟩
theorem KD (i:Nat) (h:i<64):IntKind.u64.wrap (2 ^ min (IntKind.u64.wrap (bits .and .i64 (i:Int) 63)).toNat 64)=((2 ^ i:Nat):Int):=JT ⟨i,h⟩
theorem mH (i:Nat) (h:i<64):2 ^ i<18446744073709551616:=Nat.pow_lt_pow_right (by decide) h
theorem uF (X i:Nat):X &&& 2 ^ i=if X.testBit i then 2 ^ i else 0:=by
 apply Nat.eq_of_testBit_eq;intro j;rw [Nat.testBit_and,Nat.testBit_two_pow];by_cases hj:i=j
 ·subst hj;cases X.testBit i <;> simp
 ·cases X.testBit i <;> simp [hj]
theorem JR {X i n:Nat} (hX:X<2 ^ n) (hi:i<n):X ||| 2 ^ i<2 ^ n:=Nat.or_lt_two_pow hX (Nat.pow_lt_pow_right (by decide) hi)
theorem FJ {X i:Nat} (h:X.testBit i=true):X ||| 2 ^ i=X:=by
 apply Nat.eq_of_testBit_eq;intro j;rw [Nat.testBit_or,Nat.testBit_two_pow];by_cases hj:i=j
 ·subst hj;simp [h]
 ·simp [hj]
theorem eJ (X i j:Nat):(X ||| 2 ^ i).testBit j=(X.testBit j||decide (i=j)):=by rw [Nat.testBit_or,Nat.testBit_two_pow]
theorem BSet.set {w:World} {b bw n X i:Nat} (h:BSet w b bw n X) (hi:i<n):BSet (w.setCell ⟨bw,0,none⟩ (.int .u64 ((X ||| 2 ^ i:Nat):Int))) b bw n (X ||| 2 ^ i):=
 ⟨h.n1,h.n64,JR h.hX hi,h.ne,by rw [gU _ _ _ _ h.ne];exact h.hb,by simp [World.setCell,Array.getElem?_modify,h.hw]⟩
def Wd1 (bw:Nat) (w w':World):Prop:=w'=w∨∃ v,w'=w.setCell ⟨bw,0,none⟩ v
theorem Wd1.below {B bw:Nat} {w w':World} (h:Wd1 bw w w') (hB:B≤bw):Below B w w':=by
 rcases h with rfl | ⟨v,rfl⟩
 ·exact gR _ _
 ·exact (gR _ _).setCell hB _
theorem Wd1.size {bw:Nat} {w w':World} (h:Wd1 bw w w'):w'.heap.size=w.heap.size:=by
 rcases h with rfl | ⟨v,rfl⟩
 ·rfl
 ·simp [World.setCell]
theorem Wd1.heap {bw k:Nat} {w w':World} (h:Wd1 bw w w') (hk:k≠bw):w'.heap[k]? = w.heap[k]? := by
 rcases h with rfl | ⟨v,rfl⟩
 ·rfl
 ·exact gU _ _ _ _ hk
theorem GE (b bw n X i p:Nat) (w:World) (h:BSet w b bw n X) (hi:i<n) (hp:p=2 ^ i):
  Calls Tryz.prog 90 #[.pointer (some ⟨b,0,none⟩),.int .i64 i] w fun e w'=>e=.returned (.tuple #[.int .i64 0,.int .u64 p,.bool true])∧w'=w:=by
 have HR:=Ha (qE b bw n X w h);have hn:=h.n64;have HP:=Ha hp;clear h hp;have h0:¬(i:Int)<0:=by omega
 have h1:¬(n:Int)≤(i:Int):=by omega
 have hsh:IntKind.u64.wrap (2 ^ min (IntKind.u64.wrap (bits .and .i64 (i:Int) 63)).toNat 64)=(p:Int):=by rw [HP.out];exact KD i (by omega)
 have hdv:(i:Int) / 64=0:=by omega
 go_enter Tryz.func90,Tryz.ntmps90;go_wp2_with fail;refine (HR.out).mono ?_;rintro e w1 ⟨rfl,rfl⟩;go_wp2_with fail;refine bodyPost_ret (v:=.tuple #[.int .i64 0,.int .u64 (p:Int),.bool true]) (by simp [results,Tryz.results90,go_sem]) rfl ?_;exact ⟨rfl,rfl⟩
theorem JF (b bw n X i:Nat) (w:World) (h:BSet w b bw n X) (hi:i<n):
  Calls Tryz.prog 32 #[.pointer (some ⟨b,0,none⟩),.int .i64 i] w fun e w'=>e=.returned (.bool (X.testBit i))∧w'=w:=by
 obtain ⟨p,hp⟩:∃ p:Nat,p=2 ^ i:=⟨_,rfl⟩;have HR:=Ha (GE b bw n X i p w h hi hp);have hn:=h.n64;have c1:=h.c1;have d0:=h.d0;have hpl:p<18446744073709551616:=by rw [hp];exact mH i (by omega)
 have hp0:¬(p:Int)=0:=by have:=Nat.two_pow_pos i;omega
 have hp1:((p:Int) != 0)=true:=bne_iff_ne.2 hp0;have hand:=bits_and_u64_nat X p h.x64 hpl;have HA:=uF X i;rw [← hp] at HA;rw [HA] at hand;clear h hp HA;go_enter Tryz.func32,Tryz.ntmps32;go_wp2_with fail;refine (HR.out).mono ?_;rintro e w1 ⟨rfl,rfl⟩;cases hb:X.testBit i
 ·rw [hb,if_neg (by decide)] at hand;go_wp2_with fail;go_ret;exact ⟨aJ hb.symm,rfl⟩
 ·rw [hb,if_pos rfl] at hand;go_wp2_with fail;go_ret;exact ⟨aJ hb.symm,rfl⟩
theorem sD (b bw n X i:Nat) (w:World) (h:BSet w b bw n X) (hi:i<n):
  Calls Tryz.prog 89 #[.pointer (some ⟨b,0,none⟩),.int .i64 i] w fun e w'=>e=.returned (.bool (!X.testBit i))∧BSet w' b bw n (X ||| 2 ^ i)∧Wd1 bw w w':=by
 obtain ⟨p,hp⟩:∃ p:Nat,p=2 ^ i:=⟨_,rfl⟩;have HR:=Ha (GE b bw n X i p w h hi hp);have hn:=h.n64;have c1:=h.c1;have d0:=h.d0;have fz:=h.fz;have hpl:p<18446744073709551616:=by rw [hp];exact mH i (by omega)
 have hp0:¬(p:Int)=0:=by have:=Nat.two_pow_pos i;omega
 have hp1:((p:Int) != 0)=true:=bne_iff_ne.2 hp0;have hand:=bits_and_u64_nat X p h.x64 hpl;have hor:=bits_or_u64_nat X p h.x64 hpl;have HA:=uF X i;rw [← hp] at HA;rw [HA] at hand;obtain ⟨HS,HH,HP⟩:=Zh3 (h.set hi) h hp;clear h hp HA;go_enter Tryz.func89,Tryz.ntmps89;go_wp2_with fail;refine (HR.out).mono ?_;rintro e w1 ⟨rfl,rfl⟩;cases hb:X.testBit i
 ·rw [hb,if_neg (by decide)] at hand;go_wp2_with fail;go_ret;have:=HS.out;rw [← HP.out] at this;exact ⟨aJ (by rw [hb];rfl),by rw [← HP.out];exact this,.inr ⟨_,rfl⟩⟩
 ·rw [hb,if_pos rfl] at hand;have HO:=Ha (FJ hb);go_wp2_with fail;go_ret;exact ⟨aJ (by rw [hb];rfl),by rw [HO.out];exact HH.out,.inl rfl⟩
end
section
attribute [local go_sem ↓] aI
theorem jY:(Tryz.prog.info? 154).map (fun i=>(i.zero,i.size,i.bytes))=some (some (.int .u64 0),1,8):=by kernel_rfl
theorem r6 (n:Nat) (w:World) (h1:1≤n) (h2:n≤64):
  Calls Tryz.prog 88 #[.int .i64 n] w fun e w'=>(∃ b bw,e=.returned (.pointer (some ⟨b,0,none⟩))∧w.heap.size≤b∧w.heap.size≤bw∧BSet w' b bw n 0)∧Below w.heap.size w w':=by
 obtain ⟨i,hi,hz0,hz1,hz2⟩:=info_parts jY;have hmk:=run_make (P:=Tryz.prog) w 157 154 i (.int .u64 0) Tryz.underlying157 hi hz0 .i64 .i64 1 1 (by decide) (by decide) (by rw [hz2];decide) (by decide);rw [hz1] at hmk;have hmc:madeCells (Value.int .u64 0).cells ((1:Int).toNat*1)=#[.int .u64 0]:=by first | kernel_rfl | (simp [madeCells,Value.cells];done)
 rw [hmc] at hmk;have hd:((n:Int)+63) / 64=1:=by omega
 have hx1:max (n:Int) 0=n:=by omega
 have hx2:min (n:Int) 4096=n:=by omega
 have hb:Below w.heap.size w ((w.alloc (.cells #[.int .u64 0] 154)).alloc (.cells #[.int .i64 n,.slice (some ⟨w.heap.size,0,none⟩) 1 1] 159)):=((gR _ _).alloc (gO _) _).alloc (by simp) _;have q0:=Below.heap_alloc (w.alloc (.cells #[.int .u64 0] 154)) (.cells #[.int .i64 n,.slice (some ⟨w.heap.size,0,none⟩) 1 1] 159) w.heap.size (by simp);rw [aC] at q0;have q1:=aC (w.alloc (.cells #[.int .u64 0] 154)) (.cells #[.int .i64 n,.slice (some ⟨w.heap.size,0,none⟩) 1 1] 159);have hs:(w.alloc (.cells #[.int .u64 0] 154)).heap.size=w.heap.size+1:=by simp
 rw [hs] at q1;have HS:=Ha (show BSet ((w.alloc (.cells #[.int .u64 0] 154)).alloc (.cells #[.int .i64 n,.slice (some ⟨w.heap.size,0,none⟩) 1 1] 159)) (w.heap.size+1) w.heap.size n 0 from ⟨h1,h2,Nat.two_pow_pos n,by omega,q1,q0⟩);have HB:=Ha hb;clear hb q0 q1 hi hz0 hz1 hz2 hmc;go_enter Tryz.func88,Tryz.ntmps88;go_wp2_with fail;go_ret;exact ⟨⟨_,_,rfl,by omega,gO _,HS.out⟩,HB.out⟩
def nxt (X:Nat):Nat→Nat→Int
 | 0,_=>-1
 | k+1,i=>if X.testBit i then (i:Int) else nxt X k (i+1)
def dK (X:Nat):Nat→Nat→List Int
 | 0,_=>[]
 | k+1,i=>if X.testBit i then (i:Int)::dK X k (i+1) else dK X k (i+1)
theorem uJ (X i:Nat):X.testBit i=decide (X / 2 ^ i % 2=1):=Nat.testBit_eq_decide_div_mod_eq
theorem r7 (X:Nat):∀ k i,X / 2 ^ i=0→nxt X k i=-1
 | 0,_,_=>rfl
 | k+1,i,h=>by
  rw [nxt,if_neg (by rw [uJ,h];decide)];exact r7 X k (i+1) (by rw [Nat.pow_succ,← Nat.div_div_eq_div_mul,h])
theorem nxt_bits (X:Nat):∀ k i,(nxt X k i=-1∧dK X k i=[])∨∃ j,i≤j∧j<i+k∧nxt X k i=(j:Int)∧dK X k i=(j:Int)::dK X (i+k-(j+1)) (j+1)
 | 0,_=>.inl ⟨rfl,rfl⟩
 | k+1,i=>by
  rw [nxt,dK];by_cases h:X.testBit i
  ·rw [if_pos h,if_pos h];exact .inr ⟨i,gO _,by omega,rfl,by rw [show i+(k+1)-(i+1)=k by omega]⟩
  ·rw [if_neg h,if_neg h];rcases nxt_bits X k (i+1) with h1 | ⟨j,h1,h2,h3,h4⟩
   ·exact .inl h1
   ·exact .inr ⟨j,by omega,by omega,h3,by rw [h4,show i+1+k-(j+1)=i+(k+1)-(j+1) by omega]⟩
theorem J0 (Y:Nat) (h:Y<18446744073709551616):bits .and .u64 (Y:Int) 1=((Y % 2:Nat):Int):=by
 have:=bits_and_u64_nat Y 1 h (by decide);rw [Nat.and_one_is_mod] at this;exact this
theorem JQ:∀ i:Fin 64,bits .or .i64 ((i.val:Nat):Int) 63=63:=by decide +kernel
theorem J9 (i:Nat) (h:i<64):bits .or .i64 (i:Int) 63=63:=JQ ⟨i,h⟩
theorem KE:∀ i:Fin 64,min (IntKind.u64.wrap (bits .and .i64 ((i.val:Nat):Int) 63)).toNat 64=i.val:=by decide +kernel
theorem JU (i:Nat) (h:i<64):min (IntKind.u64.wrap (bits .and .i64 (i:Int) 63)).toNat 64=i:=KE ⟨i,h⟩
theorem JE (Z:Nat):(Z:Int).fdiv (2 ^ min (Int.toNat 1) IntKind.u64.bits)=((Z / 2:Nat):Int):=by
 rw [show (2:Int) ^ min (Int.toNat 1) IntKind.u64.bits=2 from by decide +kernel,Int.fdiv_eq_ediv_of_nonneg _ (by decide)];omega
theorem pZ (b bw n X i:Nat) (w:World) (h:BSet w b bw n X) (hi:i≤64):
  Calls Tryz.prog 152 #[.pointer (some ⟨b,0,none⟩),.int .i64 i] w fun e w'=>e=.returned (.int .i64 (nxt X (n-i) i))∧w'=w:=by
 have HR:=Ha (qE b bw n X w h);have hn:=h.n64;have c1:=h.c1;have d0:=h.d0;have hx1:max (i:Int) 0=i:=by omega
 have hX:=h.hX;have hX64:=h.x64;clear h;go_enter Tryz.func152,Tryz.ntmps152;go_wp2
 go_loopw [5] (fun v wr=>wr=w∧(v=.int .i64 i∨(v=.int .i64 64∧nxt X (n-i) i=-1))) (fun v _=>65-(intOf v).toNat)
 case atStart=>exact ⟨rfl,.inl rfl⟩
 case round=>
  obtain ⟨rfl,rfl | ⟨rfl,hz⟩⟩:=hrel
  ·go_wp2_with fail;refine (HR.out).mono ?_;rintro e w1 ⟨rfl,rfl⟩;by_cases hlt:i<n
   ·have hd:(i:Int) / 64=0:=by omega
    have hsh:=JU i (by omega);have ho:=J9 i (by omega);obtain ⟨Y,hY⟩:∃ Y,Y=X / 2 ^ i:=⟨_,rfl⟩;have hdv:(X:Int) / 2 ^ i=(Y:Int):=by rw [hY];simp
    have HY:=Ha hY;clear hY;by_cases hz:Y=0
    ·have HZ:=Ha (r7 X (n-i) i (by rw [← HY.out];exact hz));have hz0:(Y:Int)=0:=by omega
     clear hz;go_wp2_with fail
     go_roundw
     case rel=>exact ⟨by first | rfl | trivial,.inr ⟨rfl,HZ.out⟩⟩
     case measure=>simp only [intOf];omega
    ·have hz0:((Y:Int)==0)=false:=beq_eq_false_iff_ne.2 (by omega);have HYN:=Ha hz;have hYl:Y≤X:=by rw [HY.out];exact Nat.div_le_self _ _
     clear hz;go_wp2
     go_loopw [5,6] (fun v r wr=>∃ j Z:Nat,wr=w1∧v=.int .i64 j∧r=.int .u64 Z∧i≤j∧j<n∧Z=X / 2 ^ j∧Z≠0∧nxt X (n-j) j=nxt X (n-i) i) (fun v _ _=>65-(intOf v).toNat)
     case atStart=>exact ⟨i,Y,rfl,rfl,rfl,gO _,hlt,HY.out,HYN.out,rfl⟩
     case round=>
      obtain ⟨j,Z,rfl,rfl,rfl,hij,hjn,hZ,hZ0,hnx⟩:=hrel;have hZl:Z≤X:=by rw [hZ];exact Nat.div_le_self _ _
      have hand:=J0 Z (by omega);have hbit:=uJ X j;rw [← hZ] at hbit;rw [show n-j=(n-(j+1))+1 by omega,nxt] at hnx;have hZ2:(Z:Int).fdiv (2 ^ min (Int.toNat 1) IntKind.u64.bits)=((Z / 2:Nat):Int):=JE Z;have HZ:=Ha hZ;have HZ0:=Ha hZ0;rcases Nat.mod_two_eq_zero_or_one Z with hm | hm
      ·rw [hm] at hand hbit;rw [if_neg (by rw [hbit];decide)] at hnx;have HN:=Ha hnx;have hz2:Z / 2≠0:=by omega
       have hZd:Z / 2=X / 2 ^ (j+1):=by rw [HZ.out,Nat.pow_succ,Nat.div_div_eq_div_mul]
       have hj1:j+1<n:=by
        apply Nat.lt_of_not_le;intro hle;apply hz2;rw [hZd];exact Nat.div_eq_of_lt (gK hX (Nat.pow_le_pow_right (by decide) hle))
       have HD:=Ha hZd;have HD0:=Ha hz2;clear hnx hbit hZ hZ0 hm hz2 hZd;go_wp2_with fail
       go_roundw
       case rel=>exact ⟨j+1,Z / 2,by first | rfl | trivial,by go_num,by first | rfl | (simp;done),by omega,hj1,HD.out,HD0.out,HN.out⟩
       case measure=>simp only [intOf];omega
      ·rw [hm] at hand hbit;rw [if_pos (by rw [hbit];decide)] at hnx;have HN:=Ha hnx;clear hnx hbit hZ hZ0 hm;go_wp2_with fail;go_ret;exact ⟨bG HN.out,by first | rfl | trivial⟩
   ·have HZ:=Ha (show nxt X (n-i) i=-1 by rw [show n-i=0 by omega];rfl);go_wp2_with fail;go_ret;exact ⟨bG HZ.out.symm,rfl⟩
  ·go_wp2_with fail;refine (HR.out).mono ?_;rintro e w1 ⟨rfl,rfl⟩;have HZ:=Ha hz;have hge:¬(64:Int)<(n:Int):=by omega
   clear hz;go_wp2_with fail;go_ret;exact ⟨bG HZ.out.symm,rfl⟩
theorem CD (b bw n X:Nat) (w:World) (h:BSet w b bw n X):
  Calls Tryz.prog 91 #[.pointer (some ⟨b,0,none⟩)] w fun e w'=>(∃ v,e=.returned v∧aX w.heap.size w' v (dK X n 0))∧Below w.heap.size w w':=by
 have HS:=Ha h;have hn:=h.n64;have HN:=Ha (fun (Y:World) (hY:Below w.heap.size w Y) (i:Nat) (hi:i≤64)=>pZ b bw n X i Y (h.below hY) hi);have h00:=HN.out w (gR _ _) 0 (by omega);rw [Nat.sub_zero] at h00;have H0:=Ha h00;clear h h00;go_enter Tryz.func91,Tryz.ntmps91;go_wp2_with fail;refine (H0.out).mono ?_;rintro e w1 ⟨rfl,rfl⟩;go_wp2
 go_loopw [3,4] (fun o v wr=>∃ (i:Nat) (l:List Int),i≤n∧l.length≤i∧v=.int .i64 (nxt X (n-i) i)∧aX w1.heap.size wr o l∧l++dK X (n-i) i=dK X n 0∧Below w1.heap.size w1 wr) (fun _ v _=>if intOf v<0 then 0 else 65-(intOf v).toNat)
 case atStart=>exact ⟨0,[],by omega,by simp,rfl,aG.nil _ _ _ _ _,rfl,gR _ _⟩
 case round=>
  obtain ⟨i,l,hi,hl,rfl,ho,hbt,hw⟩:=hrel;obtain ⟨Ao,co,rfl⟩:=ho.shape;rcases nxt_bits X (n-i) i with ⟨h1,h2⟩ | ⟨j,hij,hjn,h3,h4⟩
  ·rw [h2,List.append_nil] at hbt;rw [h1];obtain ⟨HO,HT,HW⟩:=Zh3 ho hbt hw;clear ho hbt hw h1 h2;go_wp2_with fail;go_ret;exact ⟨⟨_,rfl,by rw [← HT.out];exact HO.out⟩,HW.out⟩
  ·rw [h4,show i+(n-i)-(j+1)=n-(j+1) by omega] at hbt;rw [h3];obtain ⟨v',w',hrun,ho',hb'⟩:=aX.push (j:Int) ho (by omega) hw.size;obtain ⟨A2,c2,rfl⟩:=ho'.shape;have HC:=Ha (HN.out w' (hw.trans hb') (j+1) (by omega));simp only [gI,gG,gH,Nat.zero_add] at ho' hrun;obtain ⟨HO,HT,HW⟩:=Zh3 ho' hbt (hw.trans hb');have hj1:((j+1:Nat):Int)=(j:Int)+1:=by omega
   rw [hj1] at HC;clear ho ho' hbt hw hb' h3 h4;go_wp2_with fail;refine HC.out.mono ?_;rintro e w2 ⟨rfl,rfl⟩;go_wp2_with fail
   go_roundw
   case rel=>exact ⟨j+1,l++[(j:Int)],by omega,by simp;omega,rfl,HO.out,by rw [List.append_assoc];exact HT.out,HW.out⟩
   case measure=>
    have hm:∀ x:Int,(x=-1∨(j:Int)<x)→(if x<0 then 0 else 65-x.toNat)<(if (j:Int)<0 then 0 else 65-(j:Int).toNat):=fun x hx=>by
     split <;> split <;> omega
    refine hm (nxt X (n-(j+1)) (j+1)) ?_;rcases nxt_bits X (n-(j+1)) (j+1) with ⟨k1,_⟩ | ⟨j',k1,_,k3,_⟩
    ·exact .inl k1
    ·exact .inr (by rw [k3];omega)
end
structure Chg (P:Nat→Prop) (w w':World):Prop where
 os:w'.os=w.os
 tape:w'.tape=w.tape
 output:w'.output=w.output
 size:w.heap.size≤w'.heap.size
 same:∀ k,k<w.heap.size→¬P k→w'.heap[k]? = w.heap[k]?
section
variable {P Q:Nat→Prop} {w w' w'':World}
theorem Chg.refl (P:Nat→Prop) (w:World):Chg P w w:=⟨rfl,rfl,rfl,gO _,fun _ _ _=>rfl⟩
theorem Chg.trans2 (h:Chg P w w') (k:Chg Q w' w'') (hQ:∀ i,i<w.heap.size→Q i→P i):Chg P w w'':=
 ⟨k.os.trans h.os,k.tape.trans h.tape,k.output.trans h.output,gP h.size k.size,fun i hi hn=>(k.same i (gK hi h.size) fun hq=>hn (hQ i hi hq)).trans (h.same i hi hn)⟩
theorem Chg.trans (h:Chg P w w') (k:Chg P w' w''):Chg P w w'':=h.trans2 k fun _ _ h=>h
theorem Chg.mono (h:Chg P w w') (hQ:∀ i,i<w.heap.size→P i→Q i):Chg Q w w':=⟨h.os,h.tape,h.output,h.size,fun i hi hn=>h.same i hi fun hp=>hn (hQ i hi hp)⟩
theorem Chg.below {B:Nat} (h:Chg P w w') (hP:∀ i,P i→B≤i) (hB:B≤w.heap.size):Below B w w':=⟨h.os,h.tape,h.output,h.size,fun k hk=>h.same k (gK hk hB) fun hp=>absurd (hP k hp) (Nat.not_le_of_gt hk)⟩
theorem Chg.of (h:Below w.heap.size w w'):Chg P w w':=⟨h.os,h.tape,h.output,h.size,fun k hk _=>h.block k hk⟩
theorem Chg.cell (h:Chg P w w') {p:Addr} {v:Value} (hc:w.cell? p=some v) (hn:¬P p.block):w'.cell? p=some v:=(gM (h.same _ (i1 hc) hn)).trans hc
theorem Chg.alloc (h:Chg P w w') (o:Obj):Chg P w (w'.alloc o):=h.trans2 (Chg.of (P:=P) ((gR _ _).alloc (gO _) _)) fun _ _ h=>h
theorem Chg.drew (h:Chg P w w'):Chg P w w'.drew:=⟨h.os,h.tape,h.output,h.size,h.same⟩
theorem Chg.setCell (h:Chg P w w') {p:Addr} (hp:p.block<w.heap.size→P p.block) (v:Value):Chg P w (w'.setCell p v):=
 ⟨h.os,h.tape,h.output,by simpa using h.size,fun k hk hn=>(gU _ _ _ _ fun e=>hn (by rw [e];exact hp (e▸hk))).trans (h.same k hk hn)⟩
theorem Chg.grown {row:Option Nat} (h:Chg P w w') (hg:w'.grownBy w'' row) (hr:∀ k,row=some k→k<w.heap.size→P k):Chg P w w'':=
 ⟨hg.os.trans h.os,hg.tape.trans h.tape,hg.output.trans h.output,gP h.size hg.size,fun k hk hn=>(hg.block k (gK hk h.size) fun e=>hn (hr k e.symm hk)).trans (h.same k hk hn)⟩
end
section
attribute [local go_sem ↓] aI
theorem gT (a b:Nat) (ha:a<18446744073709551616) (hb:b<18446744073709551616):
  bits .andNot .u64 (a:Int) (b:Int)=((a &&& (18446744073709551615-b):Nat):Int):=by
 have hx:a &&& (18446744073709551615-b)<2 ^ 64:=Nat.and_lt_two_pow _ (by omega);have h1:(BitVec.ofInt 64 (a:Int)).toNat=a:=by
  rw [BitVec.ofInt_natCast,BitVec.toNat_ofNat];exact Nat.mod_eq_of_lt (by omega)
 have h2:(BitVec.ofInt 64 (b:Int)).toNat=b:=by
  rw [BitVec.ofInt_natCast,BitVec.toNat_ofNat];exact Nat.mod_eq_of_lt (by omega)
 show IntKind.u64.wrap ((BitVec.ofInt 64 (a:Int) &&& ~~~BitVec.ofInt 64 (b:Int)).toNat:Int)=_;rw [BitVec.toNat_and,BitVec.toNat_not,h1,h2,IntKind.wrap_u64];have e:2 ^ 64-1-b=18446744073709551615-b:=by omega
 rw [e];omega
theorem qX {Y X:Nat} (hX:X<18446744073709551616) (hY:Y<18446744073709551616):Y &&& (18446744073709551615-X)=0↔X ||| Y=X:=by
 have key:∀ i,i<64→(18446744073709551615-X).testBit i = !X.testBit i:=fun i hi=>by
  have:=Nat.testBit_two_pow_sub_succ (x:=X) (n:=64) (by omega) i;rw [show 2 ^ 64-(X+1)=18446744073709551615-X by omega] at this;rw [this];simp [hi]
 have hi64:∀ Z i,Z<18446744073709551616→64≤i→Z.testBit i=false:=fun Z i hZ hi=>Nat.testBit_lt_two_pow (gK hZ (Nat.pow_le_pow_right (n:=2) (by decide) hi));constructor
 ·intro h;apply Nat.eq_of_testBit_eq;intro i;rw [Nat.testBit_or];rcases Nat.lt_or_ge i 64 with hi | hi
  ·have h1:=congrArg (Nat.testBit · i) h;simp only [Nat.testBit_and,key i hi,Nat.zero_testBit] at h1;cases hx:X.testBit i <;> cases hy:Y.testBit i <;> simp_all
  ·rw [hi64 X i hX hi,hi64 Y i hY hi];rfl
 ·intro h;apply Nat.eq_of_testBit_eq;intro i;rw [Nat.testBit_and,Nat.zero_testBit];rcases Nat.lt_or_ge i 64 with hi | hi
  ·rw [key i hi];have h1:=congrArg (Nat.testBit · i) h;simp only [Nat.testBit_or] at h1;cases hx:X.testBit i <;> cases hy:Y.testBit i <;> simp_all
  ·rw [hi64 Y i hY hi];rfl
def wE (vs:List Value) (X:Nat):Prop:=vs=[.int .u64 X]
theorem wE.one:∀ (vs:List Value) (x:Nat),wE vs x→∀ u∈vs,u.oneCell'=true:=by
 rintro vs x rfl u hu;simp only [List.mem_cons,List.not_mem_nil,or_false] at hu;subst hu;rfl
theorem BSet.word {w:World} {b bw n X:Nat} (h:BSet w b bw n X):aH (fun _=>True) w 1 wE (.slice (some ⟨bw,0,none⟩) 1 1) [X]:=
 ⟨_,_,rfl,gO _,by unfold maxLen;omega,fun _=>⟨_,_,rfl,trivial,fun i hi=>by
  obtain rfl:i=0:=by simpa using hi
  exact ⟨_,rfl,rfl,fun j u hj=>by
   match j,hj with
   | 0,hj=>simp at hj;subst hj;exact h.d0⟩⟩⟩
def GS (B:Nat) (w:World) (v:Value) (X:Nat):Prop:=∃ g c,v=.slice (some ⟨g,0,none⟩) 1 c∧1≤c∧B≤g∧w.cell? ⟨g,0,none⟩=some (.int .u64 X)∧w.frozen? ⟨g,0,none⟩=false
theorem aG.wrow {B X:Nat} {w:World} {v:Value} (h:aG B 154 1 wE w v [X]):GS B w v X:=by
 have h2:=h.look (G:=fun _=>True) fun _ _=>trivial;obtain ⟨us,hf,hl,ho⟩:=h;rcases ho with ⟨rfl,hn⟩ | ⟨g,cap,cur,rfl,hB,hh,hc,_⟩
 ·cases hn
 ·obtain ⟨b,off,u,e,_,hu,hcl⟩:=aH.cell1 h2 (k:=0) (by simp)
  injection e with e
  injection e with e1 e2
  subst e1 e2
  injection hu with hu _
  subst hu;exact ⟨g,cap,rfl,hc,hB,hcl,by simp [World.frozen?,hh]⟩
theorem wN (b bw n X:Nat) (w:World) (h:BSet w b bw n X):
  Calls Tryz.prog 257 #[.slice (some ⟨bw,0,none⟩) 1 1] w fun e w'=>(∃ v,e=.returned v∧GS w.heap.size w' v X)∧Below w.heap.size w w':=by
 have q31:∀ (w:World) (a:Option Addr) (n c:Nat),(binOp .eql 157 (.slice a n c) (.slice none 0 0)).run Tryz.prog w=.ok (.bool a.isNone) w:=fun w a n c=>Lib.run_eql_slice_nil w _ _ a n c 0 0 Tryz.underlying157;have hb:Below w.heap.size w (w.alloc (.cells #[] 154)):=(gR _ _).alloc (gO _) _;have h0:aG w.heap.size 154 1 wE (w.alloc (.cells #[] 154)) (.slice (some ⟨w.heap.size,0,none⟩) 0 0) []:=aG.fresh w (gO _) _;obtain ⟨v',w',hr,h2,h3⟩:=h0.add 157 Tryz.underlying157 jY rfl (by decide) wE.one 157 (h.below hb).word (by simp) (by simp [maxLen]) hb.size;have H2:=Ha h2.wrow;have HB:=Ha (hb.trans h3);clear h h2 h3 h0 hb;go_enter Tryz.func257,Tryz.ntmps257;go_wp2_with fail;go_ret;exact ⟨⟨_,rfl,H2.out⟩,HB.out⟩
theorem JK:∀ i:Fin 64,IntKind.u64.wrap (IntKind.u64.wrap (2 ^ i.val)-1)=((2 ^ i.val-1:Nat):Int):=by decide +kernel
theorem JJ (i:Nat) (h:i<64):IntKind.u64.wrap (IntKind.u64.wrap (2 ^ i)-1)=((2 ^ i-1:Nat):Int):=JK ⟨i,h⟩
theorem I9:bits .and .i64 64 63=0:=by decide +kernel
theorem GC (b bw n X:Nat) (w:World) (h:BSet w b bw n X):
  Calls Tryz.prog 249 #[.pointer (some ⟨b,0,none⟩),.int .i64 n] w fun e w'=>(∃ v,e=.returned v∧GS w.heap.size w' v X)∧Below w.heap.size w w':=by
 have HC:=Ha (wN b bw n X w h);have c0:=h.c0;have c1:=h.c1;have hn:=h.n64;have hn1:=h.n1;have hx:=h.x64;have HXN:=Ha h.hX;clear h;have hd:((n:Int)+63) / 64=1:=by omega
 have hmn:min (n:Int) (n:Int)=n:=by omega
 go_enter Tryz.func249,Tryz.ntmps249;go_wp2_with fail;refine (HC.out).mono ?_;rintro e w1 ⟨⟨v,rfl,hr⟩,hb1⟩;obtain ⟨g,c,rfl,hc,hg,hcl,hfz⟩:=hr;have HB1:=Ha hb1;have HG:=Ha hg;clear hb1 hg;by_cases h64:n=64
 ·subst h64;have hand:=I9;go_wp2_with fail;go_ret;exact ⟨⟨_,rfl,g,c,rfl,hc,HG.out,hcl,hfz⟩,HB1.out⟩
 ·have hlt:n<64:=by omega
  obtain ⟨p,hp⟩:∃ p:Nat,p=2 ^ n-1:=⟨_,rfl⟩;have hm:=JJ n hlt;have hpl:p<18446744073709551616:=by rw [hp];have:=mH n hlt;omega
  have hmm:bits .and .u64 (X:Int) (p:Int)=(X:Int):=by
   rw [bits_and_u64_nat X p hx hpl,hp,Nat.and_two_pow_sub_one_eq_mod,Nat.mod_eq_of_lt HXN.out]
  rw [← hp] at hm;have hand:=I8 n hlt;have hn0:((n:Int) != 0)=true:=bne_iff_ne.2 (by omega);have hn00:¬(n:Int)=0:=by omega
  clear hp h64;go_wp2_with fail;go_ret;refine ⟨⟨_,rfl,g,c,rfl,hc,HG.out, ?_, ?_⟩,HB1.out.setCell HG.out _⟩
  ·exact World.cell?_setCell_same _ _ _ hcl
  ·simpa using hfz
theorem tZ (n:Nat) (w:World):
  Calls Tryz.prog 249 #[.pointer none,.int .i64 n] w fun e w'=>e=.returned (.slice none 0 0)∧w'=w:=by
 go_enter Tryz.func249,Tryz.ntmps249;go_wp2_with fail;go_ret;exact ⟨rfl,rfl⟩
theorem BSet.put {w:World} {b bw n X Z:Nat} (h:BSet w b bw n X) (hZ:Z<2 ^ n):BSet (w.setCell ⟨bw,0,none⟩ (.int .u64 (Z:Int))) b bw n Z:=
 ⟨h.n1,h.n64,hZ,h.ne,by rw [gU _ _ _ _ h.ne];exact h.hb,by simp [World.setCell,Array.getElem?_modify,h.hw]⟩
theorem p6 (b bw n X b2 bw2 Y:Nat) (w:World) (h:BSet w b bw n X) (h2:BSet w b2 bw2 n Y):
  Calls Tryz.prog 224 #[.pointer (some ⟨b,0,none⟩),.pointer (some ⟨b2,0,none⟩)] w fun e w'=>e=.returned (.bool (decide (X ||| Y≠X)))∧BSet w' b bw n (X ||| Y)∧Chg (· = bw) w w':=by
 obtain ⟨HR,HW,HX⟩:=Zh3 (qE b bw n X w h) (GC b2 bw2 n Y w h2) h;have hx:=h.x64;have hy:=h2.x64;have HZ:=Ha (show X ||| Y<2 ^ n from Nat.or_lt_two_pow h.hX h2.hX);have hA:=gT Y X hy hx;have hO:=bits_or_u64_nat X Y hx hy;have HE:=Ha (qX (Y:=Y) hx hy);clear h h2;go_enter Tryz.func224,Tryz.ntmps224;go_wp2_with fail;refine (HR.out).mono ?_;rintro e w0 ⟨rfl,rfl⟩;go_wp2_with fail;refine (HW.out).mono ?_;rintro e w1 ⟨⟨v,rfl,hr⟩,hb1⟩;obtain ⟨g,c,rfl,hc,hg,hcl,hfz⟩:=hr;have hx1:=HX.out.below hb1;have HB1:=Ha hb1;have HX1:=Ha hx1;have c1:=hx1.c1;have d0:=hx1.d0;have fz:=hx1.fz;clear hb1 hg hx1;go_wp2_with fail;obtain ⟨Q,hQ⟩:∃ Q:World→Prop,Q=fun wr=>BSet wr b bw n (X ||| Y)∧Chg (· = bw) w0 wr:=⟨_,rfl⟩;have HQ:=Ha hQ;clear hQ
 go_loopw [5,13] (fun ch iv wr=>(iv=.int .i64 0∧ch=.bool false∧wr=w1)∨(iv=.int .i64 1∧ch=.bool (decide (X ||| Y≠X))∧Q wr)) (fun _ iv _=>2-(intOf iv).toNat)
 case atStart=>exact .inl ⟨rfl,rfl,rfl⟩
 case round=>
  rcases hrel with ⟨rfl,rfl,rfl⟩ | ⟨rfl,rfl,hq⟩
  ·obtain ⟨Z,hZ⟩:∃ Z:Nat,Z=Y &&& (18446744073709551615-X):=⟨_,rfl⟩;rw [← hZ] at hA HE;by_cases hz:Z=0
   ·subst hz;have HN:=Ha (HE.out.1 rfl);clear hZ;go_wp2_with fail
    go_roundw
    case rel=>exact .inr ⟨by go_num,by rw [HN.out];simp,by rw [HQ.out];exact ⟨by rw [HN.out];exact HX1.out,Chg.of HB1.out⟩⟩
    case measure=>simp [intOf]
   ·have hz0:¬(Z:Int)=0:=by omega
    have hz1:((Z:Int) != 0)=true:=bne_iff_ne.2 hz0;have HN:=Ha (show ¬(X ||| Y=X) from fun h=>hz (HE.out.2 h));clear hZ hz;go_wp2_with fail
    go_roundw
    case rel=>exact .inr ⟨by go_num,by simp [HN.out],by rw [HQ.out];exact ⟨HX1.out.put HZ.out,Chg.setCell (P:=(· = bw)) (p:=⟨bw,0,none⟩) (Chg.of HB1.out) (fun _=>rfl) _⟩⟩
    case measure=>simp [intOf]
  ·have HF:=Ha hq;clear hq;go_wp2_with fail;go_ret;have:=HF.out;rw [HQ.out] at this;exact ⟨rfl,this⟩
theorem FL (b bw n X:Nat) (w:World) (h:BSet w b bw n X):
  Calls Tryz.prog 224 #[.pointer (some ⟨b,0,none⟩),.pointer none] w fun e w'=>e=.returned (.bool false)∧Below w.heap.size w w':=by
 have HR:=Ha (qE b bw n X w h);clear h;have HW:=Ha (tZ n w);go_enter Tryz.func224,Tryz.ntmps224;go_wp2_with fail;refine (HR.out).mono ?_;rintro e w0 ⟨rfl,rfl⟩;go_wp2_with fail;refine (HW.out).mono ?_;rintro e w1 ⟨rfl,rfl⟩;go_wp2_with fail
 go_loopw [5,13] (fun ch iv wr=>iv=.int .i64 0∧ch=.bool false∧wr=w1) (fun _ iv _=>2-(intOf iv).toNat)
 case atStart=>exact ⟨rfl,rfl,rfl⟩
 case round=>
  obtain ⟨rfl,rfl,rfl⟩:=hrel;go_wp2_with fail;go_ret;exact ⟨rfl,gR _ _⟩
theorem dA {w:World} {g:Nat} {cur cur':Array Value} {T:TypeId} {fr:Nat×Nat} (h:w.heap[g]? = some (.cells cur T fr)):(w.setRow g cur').heap[g]? = some (.cells cur' T fr):=by
 simp [World.setRow,Array.getElem?_modify,h]
theorem dS {w:World} {g k:Nat} {cur':Array Value} (h:k≠g):(w.setRow g cur').heap[k]? = w.heap[k]? := by
 simp [World.setRow,Array.getElem?_modify,Ne.symm h]
theorem I3 (b bw n X:Nat) (w:World) (h:BSet w b bw n X):
  Calls Tryz.prog 223 #[.pointer (some ⟨b,0,none⟩)] w fun e w'=>(∃ b' bw',e=.returned (.pointer (some ⟨b',0,none⟩))∧w.heap.size≤b'∧w.heap.size≤bw'∧BSet w' b' bw' n X)∧Below w.heap.size w w':=by
 obtain ⟨i,hi,hz0,hz1,hz2⟩:=info_parts jY;have hmk:=run_make (P:=Tryz.prog) w 157 154 i (.int .u64 0) Tryz.underlying157 hi hz0 .i64 .i64 1 1 (by decide) (by decide) (by rw [hz2];decide) (by decide);rw [hz1] at hmk;have hmc:madeCells (Value.int .u64 0).cells ((1:Int).toNat*1)=#[.int .u64 0]:=by first | kernel_rfl | (simp [madeCells,Value.cells];done)
 rw [hmc] at hmk;have hb1:Below w.heap.size w (w.alloc (.cells #[.int .u64 0] 154)):=(gR _ _).alloc (gO _) _;have q0:=aC w (.cells #[.int .u64 0] 154);generalize hW1:w.alloc (.cells #[.int .u64 0] 154)=W1 at *;have hx1:=h.below hb1;have hcp:=run_copy_row Tryz.prog W1 157 157 3 154 w.heap.size 0 1 1 ⟨bw,0,none⟩ 1 1 #[.int .u64 0] 154 [.int .u64 X] Tryz.underlying157 (by rw [hi];simp [hz1]) q0 rfl
  (fun j v hj=>by
   match j,hj with
   | 0,hj=>simp at hj;subst hj;exact hx1.d0) (by simp) (fun v hv=>by simp at hv;subst hv;rfl)
 generalize hW2:W1.setRow w.heap.size _=W2 at hcp;have q2:W2.heap[w.heap.size]? = some (.cells #[.int .u64 X] 154 (0,0)):=by rw [← hW2];exact dA q0
 have hb2:Below w.heap.size w W2:=by
  refine ⟨?_, ?_, ?_, ?_,fun k hk=>?_⟩
  ·rw [← hW2];exact hb1.os
  ·rw [← hW2];exact hb1.tape
  ·rw [← hW2];exact hb1.output
  ·rw [← hW2];have:=hb1.size;simpa [World.setRow] using this
  ·rw [← hW2,dS (by omega)];exact hb1.block k hk
 have hx2:=h.below hb2;have hs2:W2.heap.size=w.heap.size+1:=by rw [← hW2,← hW1];simp [World.setRow]
 have q3:=aC W2 (.cells #[.int .i64 n,.slice (some ⟨w.heap.size,0,none⟩) 1 1] 159);have q4:=Below.heap_alloc W2 (.cells #[.int .i64 n,.slice (some ⟨w.heap.size,0,none⟩) 1 1] 159) w.heap.size (by omega);rw [q2] at q4;rw [hs2] at q3;have HS:=Ha (show BSet (W2.alloc (.cells #[.int .i64 n,.slice (some ⟨w.heap.size,0,none⟩) 1 1] 159)) (w.heap.size+1) w.heap.size n X from ⟨h.n1,h.n64,h.hX,by omega,q3,q4⟩);have HB:=Ha (hb2.alloc (by omega) (.cells #[.int .i64 n,.slice (some ⟨w.heap.size,0,none⟩) 1 1] 159));have c1:=h.c1;have d1:=hx1.c1;have e0:=hx2.c0;clear h hb1 q0 hx1 hb2 hx2 q2 q3 q4 hW2 hi hz0 hz1 hz2 hmc;go_enter Tryz.func223,Tryz.ntmps223;go_wp2_with fail;go_ret;exact ⟨⟨_,_,rfl,by omega,gO _,HS.out⟩,HB.out⟩
end
section
attribute [local go_sem ↓] aI
def Wb (w:World) (k:Nat):Prop:=∃ X:Nat,w.heap[k]? = some (.cells #[.int .u64 X] 154 (0,0))
structure WCh (n:Nat) (K:Nat→Prop) (w w':World):Prop where
 chg:Chg (fun k=>K k∧Wb w k) w w'
 gro:∀ b bw X,BSet w b bw n X→∃ X',X≤X'∧BSet w' b bw n X'
section
variable {n:Nat} {K:Nat→Prop} {w w' w'':World}
theorem BSet.keepC {b bw X:Nat} {P:Nat→Prop} (h:BSet w b bw n X) (hc:Chg P w w') (h1:¬P b) (h2:¬P bw):BSet w' b bw n X:=h.keep (hc.same _ h.lt.1 h1) (hc.same _ h.lt.2 h2)
theorem BSet.box_ne {b bw X b2 bw2 n2 X2:Nat} (h:BSet w b bw n X) (h2:BSet w b2 bw2 n2 X2):b2≠bw:=fun e=>by
 have h3:=h2.hb;rw [e,h.hw] at h3
 injection h3 with h3
 injection h3 with h4 h5
 exact absurd h5 (by decide)
theorem BSet.same_word {b bw X b2 n2 X2:Nat} (h:BSet w b bw n X) (h2:BSet w b2 bw n2 X2):X=X2:=by
 have h3:=h.hw;rw [h2.hw] at h3
 injection h3 with h3
 injection h3 with h4
 have h5:=congrArg (fun a:Array Value=>a[0]?) h4;simp at h5;exact (Int.ofNat.inj h5).symm
theorem BSet.wb {b bw X:Nat} (h:BSet w b bw n X):Wb w bw:=⟨X,h.hw⟩
theorem BSet.other {b bw X X' b2 bw2 X2:Nat} (h:BSet w b bw n X) (h2:BSet w b2 bw2 n X2) (hc:Chg (· = bw) w w') (h':BSet w' b bw n X') (hle:X≤X'):∃ X2',X2≤X2'∧BSet w' b2 bw2 n X2':=by
 have hb2:=h.box_ne h2;by_cases e:bw2=bw
 ·subst e;have:=h.same_word h2;subst this;exact ⟨X',hle,h2.n1,h2.n64,h'.hX,h2.ne,(hc.same _ h2.lt.1 hb2).trans h2.hb,h'.hw⟩
 ·exact ⟨X2,gO _,h2.keepC hc hb2 e⟩
theorem WCh.refl (n:Nat) (K:Nat→Prop) (w:World):WCh n K w w:=⟨Chg.refl _ _,fun _ _ X h=>⟨X,gO _,h⟩⟩
theorem WCh.trans (h:WCh n K w w') (k:WCh n K w' w''):WCh n K w w'':=
 ⟨h.chg.trans2 k.chg fun i hi hq=>⟨hq.1,Classical.byContradiction fun hn=>by
  have:=h.chg.same i hi fun hp=>hn hp.2;obtain ⟨X,hX⟩:=hq.2;exact hn ⟨X,this.symm.trans hX⟩⟩,fun b bw X hb=>by
  obtain ⟨X1,h1,h2⟩:=h.gro b bw X hb;obtain ⟨X2,h3,h4⟩:=k.gro b bw X1 h2;exact ⟨X2,gP h1 h3,h4⟩⟩
theorem WCh.below (h:WCh n K w w') (hb:Below w'.heap.size w' w''):WCh n K w w'':=
 ⟨h.chg.trans2 (Chg.of (P:=fun _=>False) hb) fun _ _ h=>h.elim,fun b bw X hX=>by
  obtain ⟨X1,h1,h2⟩:=h.gro b bw X hX;exact ⟨X1,h1,h2.below hb⟩⟩
theorem WCh.drew (h:WCh n K w w'):WCh n K w w'.drew:=⟨h.chg.drew,fun b bw X hX=>by
  obtain ⟨X1,h1,h2⟩:=h.gro b bw X hX;exact ⟨X1,h1,h2.keep rfl rfl⟩⟩
theorem WCh.one {b bw X X':Nat} (h:BSet w b bw n X) (hc:Chg (· = bw) w w') (h':BSet w' b bw n X') (hle:X≤X') (hK:K bw):WCh n K w w':=
 ⟨hc.mono fun i _ e=>by subst e;exact ⟨hK,h.wb⟩,fun _ _ _ h2=>h.other h2 hc h' hle⟩
theorem WCh.mono {K':Nat→Prop} (h:WCh n K w w') (hK:∀ k,k<w.heap.size→Wb w k→K k→K' k):WCh n K' w w':=⟨h.chg.mono fun i hi hp=>⟨hK i hi hp.2 hp.1,hp.2⟩,h.gro⟩
theorem WCh.cell (h:WCh n K w w') {p:Addr} {v:Value} (hc:w.cell? p=some v) (hn:¬Wb w p.block):w'.cell? p=some v:=h.chg.cell hc fun hp=>hn hp.2
end
def TB (T:TypeId) (w:World) (k:Nat):Prop:=∃ cs,w.heap[k]? = some (.cells cs T (0,0))
theorem TB.not_wb {T:TypeId} {w:World} {k:Nat} (h:TB T w k) (hT:T≠154):¬Wb w k:=fun ⟨X,hX⟩=>by
 obtain ⟨cs,hc⟩:=h;rw [hX] at hc
 injection hc with hc
 injection hc with _ hc
 exact hT hc.symm
theorem TB.lt {T:TypeId} {w:World} {k:Nat} (h:TB T w k):k<w.heap.size:=by
 obtain ⟨cs,hc⟩:=h;exact (gL hc).1
theorem TB.of_eq {T:TypeId} {w w':World} {k:Nat} (h:TB T w k) (e:w'.heap[k]? = w.heap[k]?):TB T w' k:=by
 obtain ⟨cs,hc⟩:=h;exact ⟨cs,e.trans hc⟩
theorem TB.ne {T T':TypeId} {w:World} {k k':Nat} (h:TB T w k) (h':TB T' w k') (hT:T≠T'):k≠k':=fun e=>by
 subst e;obtain ⟨cs,hc⟩:=h;obtain ⟨cs',hc'⟩:=h';rw [hc] at hc'
 injection hc' with hc'
 injection hc' with _ hc'
 exact hT hc'
section
variable {β:Type} {B:Nat} {T:TypeId} {sz:Nat} {R:List Value→β→Prop} {w w':World} {v:Value} {xs ys:List β}
theorem aG.tb (h:aG B T sz R w v xs) {g:Nat} (hg:v.ownBlock=some g):B≤g∧TB T w g:=by
 obtain ⟨us,hf,_,ho⟩:=h;rcases ho with ⟨rfl,_⟩ | ⟨g',cap,cur,rfl,hB,hh,_⟩
 ·simp [Value.ownBlock] at hg
 ·simp [Value.ownBlock] at hg;subst hg;exact ⟨hB,cur,hh⟩
theorem aG.addC (t:TypeId) {z:Value} {bytes:Nat} (hu:Tryz.prog.underlying t=some (.slice T)) (hi:(Tryz.prog.info? T).map (fun i=>(i.zero,i.size,i.bytes))=some (some z,sz,bytes)) (hzs:z.cells.size=sz) (hsz:0<sz)
  (hone:∀ vs x,R vs x→∀ u∈vs,u.oneCell'=true) (ty:TypeId) {G:Nat→Prop} {v2:Value} (h:aG B T sz R w v xs) (hx:aH G w sz R v2 ys) (hlen:(xs.length+ys.length)*bytes≤140737488355328) (hmx:xs.length+ys.length≤maxLen) (hB:B≤w.heap.size):
  ∃ v' w',WrA Tryz.prog #[t,t] ty #[v,v2] w=.ok v' w'∧aG B T sz R w' v' (xs++ys)∧Chg (fun k=>v.ownBlock=some k) w w'∧(v'.ownBlock=v.ownBlock∨v'.ownBlock=some w.heap.size):=by
 obtain ⟨v',w',h1,h2,h3,h4⟩:=h.append t hu hi hzs hsz hone ty hx hlen hmx hB;exact ⟨v',w',h1,h2,(Chg.refl _ w).grown h3 fun k e _=>e,h4⟩
theorem aG.pushC (t:TypeId) {z:Value} {bytes:Nat} (hu:Tryz.prog.underlying t=some (.slice T)) (hi:(Tryz.prog.info? T).map (fun i=>(i.zero,i.size,i.bytes))=some (some z,sz,bytes)) (hzs:z.cells.size=sz) (hsz:0<sz)
  (hone:∀ vs x,R vs x→∀ u∈vs,u.oneCell'=true) (ty:TypeId) {us:List Value} {x:β} (hus:us.length=sz) (hR:R us x) (h:aG B T sz R w v xs) (hlen:(xs.length+1)*bytes≤140737488355328) (hmx:xs.length+1≤maxLen) (hB:B≤w.heap.size):
  ∃ v' w',WrA Tryz.prog #[t,t] ty #[v,.slice (some ⟨w.heap.size,0,none⟩) 1 1] (w.alloc (.cells us.toArray T))=.ok v' w'∧aG B T sz R w' v' (xs++[x])∧Chg (fun k=>v.ownBlock=some k) w w'∧(v'.ownBlock=v.ownBlock∨v'.ownBlock=some (w.heap.size+1)):=by
 have hb:Below w.heap.size w (w.alloc (.cells us.toArray T)):=(gR _ _).alloc (gO _) _;have q:=aC w (.cells us.toArray T);have hx:aH (fun _=>True) (w.alloc (.cells us.toArray T)) sz R (.slice (some ⟨w.heap.size,0,none⟩) 1 1) [x]:=
  ⟨_,_,rfl,gO _,by unfold maxLen;omega,fun _=>⟨_,_,rfl,trivial,fun i hi=>by
   obtain rfl:i=0:=by simpa using hi
   exact ⟨us,hus,hR,fun j u hj=>by simpa using aA q j u (by simpa using hj)⟩⟩⟩
 obtain ⟨v',w',h1,h2,h3,h4⟩:=(h.below hb).addC t hu hi hzs hsz hone ty hx hlen hmx (gP hB hb.size);exact ⟨v',w',h1,h2,(Chg.of hb).trans h3,by simpa using h4⟩
end
def PV (vs:List Value) (p:Nat×Nat):Prop:=vs=[.pointer (some ⟨p.1,0,none⟩)]
theorem PV.one:∀ (vs:List Value) (p:Nat×Nat),PV vs p→∀ u∈vs,u.oneCell'=true:=by
 rintro vs x rfl u hu;simp only [List.mem_cons,List.not_mem_nil,or_false] at hu;subst hu;rfl
theorem rN:(Tryz.prog.info? 68).map (fun i=>(i.zero,i.size,i.bytes))=some (some (.pointer none),1,8):=by kernel_rfl
def Ss (n:Nat) (w:World) (ps:List (Nat×Nat)):Prop:=∀ p∈ps,∃ X,BSet w p.1 p.2 n X
theorem Ss.wch {n:Nat} {K:Nat→Prop} {w w':World} {ps:List (Nat×Nat)} (h:Ss n w ps) (hc:WCh n K w w'):Ss n w' ps:=fun p hp=>by
 obtain ⟨X,hX⟩:=h p hp;obtain ⟨X',_,h'⟩:=hc.gro _ _ _ hX;exact ⟨X',h'⟩
def wd (w:World) (bw:Nat):Nat:=match w.cell? ⟨bw,0,none⟩ with
 | some (Value.int _ z)=>z.toNat
 | _=>0
theorem BSet.wd {w:World} {b bw n X:Nat} (h:BSet w b bw n X):wd w bw=X:=by
 unfold Proofs.YtpidmmfjcghmeaaGreat.wd;rw [h.d0];simp
def aQ (n:Nat) (w:World) (ps:List (Nat×Nat)):Nat:=(ps.map fun p=>2 ^ n-wd w p.2).sum
theorem dF {n:Nat} {K:Nat→Prop} {w w':World}:∀ {ps:List (Nat×Nat)},Ss n w ps→WCh n K w w'→aQ n w' ps≤aQ n w ps
 | [],_,_=>gO _
 | p::ps,h,hc=>by
  have:=dF (ps:=ps) (fun q hq=>h q (yI _ hq)) hc;obtain ⟨X,hX⟩:=h p (yH ..);obtain ⟨X',h1,h2⟩:=hc.gro _ _ _ hX;unfold aQ at this ⊢;rw [List.map_cons,List.map_cons,List.sum_cons,List.sum_cons,hX.wd,h2.wd];omega
theorem jJ {n:Nat} {K:Nat→Prop} {w w':World}:∀ {ps:List (Nat×Nat)},Ss n w ps→WCh n K w w'→(∃ p∈ps,wd w p.2<wd w' p.2)→aQ n w' ps<aQ n w ps
 | p::ps,h,hc,⟨q,hq,hlt⟩=>by
  have h0:Ss n w ps:=fun q hq=>h q (yI _ hq);obtain ⟨X,hX⟩:=h p (yH ..);obtain ⟨X',h1,h2⟩:=hc.gro _ _ _ hX;have h3:=h2.hX;have h4:=hX.wd;have h5:=h2.wd;rcases List.mem_cons.1 hq with rfl | hq
  ·have:=dF h0 hc;unfold aQ at this ⊢;rw [List.map_cons,List.map_cons,List.sum_cons,List.sum_cons];omega
  ·have:=jJ h0 hc ⟨q,hq,hlt⟩;unfold aQ at this ⊢;rw [List.map_cons,List.map_cons,List.sum_cons,List.sum_cons];omega
theorem uV (n r:Nat) (w:World) (h1:1≤r) (h2:r≤64) (hn:n≤1000000):
  Calls Tryz.prog 244 #[.int .i64 n,.int .i64 r] w fun e w'=>(∃ v ps,e=.returned v∧ps.length=n∧aG w.heap.size 68 1 PV w' v ps∧∀ p∈ps,w.heap.size≤p.2∧BSet w' p.1 p.2 r 0)∧Below w.heap.size w w':=by
 have HN:=Ha (fun X=>r6 r X h1 h2);go_enter Tryz.func244,Tryz.ntmps244;go_wp2
 go_loopw [5,7] (fun o iv wr=>∃ (i:Nat) (ps:List (Nat×Nat)),i≤n∧iv=.int .i64 i∧ps.length=i∧aG w.heap.size 68 1 PV wr o ps∧(∀ p∈ps,w.heap.size≤p.2∧BSet wr p.1 p.2 r 0)∧Below w.heap.size w wr) (fun _ iv _=>n-(intOf iv).toNat)
 case atStart=>exact ⟨0,[],by omega,rfl,rfl,aG.nil _ _ _ _ _,(fun p hp=>by cases hp),gR _ _⟩
 case round=>
  obtain ⟨i,ps,hi,rfl,hl,ho,hs,hw⟩:=hrel;obtain ⟨Ao,co,rfl,_⟩:=ho.shape;obtain ⟨HL,HO,HS,HW⟩:=Zh4 hl ho hs hw;clear ho hs hw hl;by_cases hlt:i<n
  ·go_wp2_with fail;refine (HN.out wr).mono ?_;rintro e w1 ⟨⟨b,bw,rfl,hb,hbw,hset⟩,hb1⟩;have hr1:=HO.out.below hb1;obtain ⟨v',w',hrun,ho',hc',_⟩:=aG.pushC 245 Tryz.underlying245 rN rfl (by decide) PV.one 245 (us:=[.pointer (some ⟨b,0,none⟩)]) (x:=(b,bw)) rfl rfl hr1 (by rw [HL.out];omega) (by rw [HL.out];unfold maxLen;omega) (gP HW.out.size hb1.size);have hk:∀ q m X,BSet w1 q m r X→BSet w' q m r X:=fun q m X hq=>hq.keepC hc' (fun e=>(hr1.tb e).2.ne ⟨_,hq.hb⟩ (by decide) rfl) (fun e=>(hr1.tb e).2.ne ⟨_,hq.hw⟩ (by decide) rfl);have HB:=Ha (HW.out.trans (hb1.mono HW.out.size) |>.trans (hc'.below (fun k e=>(hr1.tb e).1) (gP HW.out.size hb1.size)));have HS':=Ha (show ∀ p∈ps++[(b,bw)],w.heap.size≤p.2∧BSet w' p.1 p.2 r 0 from fun p hp=>by
    rcases yC hp with hp | hp
    ·exact ⟨(HS.out p hp).1,hk _ _ _ ((HS.out p hp).2.below hb1)⟩
    ·rw [gV] at hp;subst hp;exact ⟨gP HW.out.size hbw,hk _ _ _ hset⟩)
   have HO':=Ha ho';clear hb hbw hset hb1 hr1 ho' hc' hk;go_wp2_with fail
   go_roundw
   case rel=>exact ⟨i+1,ps++[(b,bw)],by omega,by go_num,by simp [HL.out],HO'.out,HS'.out,HB.out⟩
   case measure=>simp only [intOf];omega
  ·obtain rfl:i=n:=by omega
   go_wp2_with fail;go_ret;exact ⟨⟨_,_,rfl,HL.out,HO.out,HS.out⟩,HW.out⟩
end
open Go.Maps Go.WideMaps
structure Sort1 {κ β:Type} (mT kT eT:TypeId) (kv:κ→Value) (kl:κ→Lit) (okK:κ→Prop) (ev:β→Value) (el:β→Lit) (okE:β→Prop) (z0:β):Prop where
 law:Keyed Tryz.prog kT
 und:Tryz.prog.underlying mT=some (.map kT eT)
 zero:∀ w,(zeroValue eT).run Tryz.prog w=.ok (ev z0) w
 elem:∀ y,okE y→plainElem (H:=Unit) Tryz.prog eT (ev y)=some (.lit (el y),[])
 einv:∀ {v:Value} {z:DataW Unit×List MemPlace},plainElem Tryz.prog eT v=some z→∃ y,v=ev y∧z=(.lit (el y),[])
 einj:∀ {x y},el x=el y→x=y
 key:∀ x,okK x→keyOf Tryz.prog kT (kv x)=some (kl x)
 kis:∀ x,WideAt.IsKeyLit (kl x)
 kinj:∀ {x y},kl x=kl y→x=y
 z0ok:okE z0
def MG {κ β:Type} (kT eT:TypeId) (kl:κ→Lit) (el:β→Lit) (z0:β) (w:World) (b:Nat) (f:κ→Option β) (n:Nat):Prop:=
 ∃ D:DataW Unit,w.ownsMap Tryz.prog kT (plainElem Tryz.prog eT) b n D∧Maps.size D=n∧∀ x,Maps.has D (kl x)=(f x).isSome∧D.atKey (kl x) (.lit (el z0))=.lit (el ((f x).getD z0))
def eK {κ β:Type} [DecidableEq κ] (f:κ→Option β) (x:κ) (v:β):κ→Option β:=fun t=>if t=x then some v else f t
section
variable {κ β:Type} [DecidableEq κ] {mT kT eT:TypeId} {kv:κ→Value} {kl:κ→Lit} {okK:κ→Prop} {ev:β→Value} {el:β→Lit} {okE:β→Prop} {z0:β}
variable {w w':World} {b n:Nat} {f:κ→Option β}
omit [DecidableEq κ] in
theorem MG.lt (h:MG kT eT kl el z0 w b f n):b<w.heap.size:=by
 obtain ⟨D,h1,_⟩:=h;exact World.ownsMap.lt h1
omit [DecidableEq κ] in
theorem MG.isMap (h:MG kT eT kl el z0 w b f n):∃ es c,w.heap[b]? = some (.map es c):=by
 obtain ⟨D,⟨es,clock,hb,_⟩,_⟩:=h;exact ⟨es,clock,hb⟩
omit [DecidableEq κ] in
theorem MG.keep (h:MG kT eT kl el z0 w b f n) (hk:w'.heap[b]? = w.heap[b]?):MG kT eT kl el z0 w' b f n:=by
 obtain ⟨D,⟨es,clock,hb,h1⟩,h2⟩:=h;exact ⟨D,⟨es,clock,hk.trans hb,h1⟩,h2⟩
omit [DecidableEq κ] in
theorem MG.below (h:MG kT eT kl el z0 w b f n) (hb:Below w.heap.size w w'):MG kT eT kl el z0 w' b f n:=h.keep (hb.block _ h.lt)
omit [DecidableEq κ] in
theorem MG.made (w:World):MG (κ:=κ) kT eT kl el z0 (w.alloc (.map #[] 0)) w.heap.size (fun _=>none) 0:=
 ⟨_,World.ownsMap_made w _ _ _,rfl,fun _=>⟨rfl,rfl⟩⟩
omit [DecidableEq κ] in
theorem MG.conv {g:κ→Option β} (h:MG kT eT kl el z0 w b f n) (hfg:∀ x,f x=g x):MG kT eT kl el z0 w b g n:=by
 rwa [show g=f from funext fun x=>(hfg x).symm]
def CI (w:World) (b:Nat):Nat:=match w.heap[b]? with
 | some (.map es _)=>es.size
 | _=>0
omit [DecidableEq κ] in
theorem MG.count (h:MG kT eT kl el z0 w b f n):CI w b=n:=by
 obtain ⟨D,⟨es,clock,hb,F,_,e⟩,h2,_⟩:=h;unfold CI;rw [hb];rw [e] at h2
 simpa [Maps.size,length_sorted] using h2
variable (S:Sort1 mT kT eT kv kl okK ev el okE z0)
include S
omit [DecidableEq κ] in
theorem MG.get (h:MG kT eT kl el z0 w b f n) {x:κ} (hx:okK x):(Instr.lookup mT (.map (some b)) (kv x) false).run Tryz.prog w=.ok (ev ((f x).getD z0)) w:=by
 obtain ⟨D,h1,_,h3⟩:=h;obtain ⟨v,ps,hrun,hv⟩:=World.ownsMap.lookup h1 S.law S.und (S.zero w) (S.elem _ S.z0ok) (S.key _ hx);obtain ⟨c,rfl,hc⟩:=S.einv hv;rw [hrun];have h1:=congrArg Prod.fst hc;simp only at h1;rw [(h3 x).2] at h1
 injection h1 with h1
 rw [S.einj h1]
omit [DecidableEq κ] in
theorem MG.look (h:MG kT eT kl el z0 w b f n) {x:κ} (hx:okK x):(Instr.lookup mT (.map (some b)) (kv x) true).run Tryz.prog w=.ok (.tuple #[ev ((f x).getD z0),.bool (f x).isSome]) w:=by
 obtain ⟨D,h1,_,h3⟩:=h;obtain ⟨v,ps,hrun,hv⟩:=World.ownsMap.look_ok h1 S.law S.und (S.zero w) (S.elem _ S.z0ok) (S.key _ hx);obtain ⟨c,rfl,hc⟩:=S.einv hv;rw [hrun];have h1:=congrArg Prod.fst hc;simp only at h1;rw [(h3 x).2] at h1
 injection h1 with h1
 rw [S.einj h1];exact congrArg (fun z=>Result.ok (Value.tuple #[ev _,.bool z]) w) (h3 x).1
theorem MG.store (h:MG kT eT kl el z0 w b f n) {x:κ} {v:β} (hx:okK x) (hv:okE v) (hn:n<9223372036854775807):
  ∃ w',(Instr.mapUpdate mT (.map (some b)) (kv x) (ev v)).run Tryz.prog w=.ok () w'∧MG kT eT kl el z0 w' b (eK f x v) (if (f x).isSome then n else n+1)∧Chg (· = b) w w'∧w'.heap.size=w.heap.size:=by
 obtain ⟨D,h1,h2,h3⟩:=h;obtain ⟨w',k1,k2,k3⟩:=World.ownsMap.store h1 S.law S.und hn (S.key _ hx) (S.elem _ hv);have hT:=World.ownsMap.tidy h1 S.law;have hM:=World.ownsMap.isMap h1;have hsz:Maps.size (D.put (kl x) (.lit (el v)))=if (f x).isSome then n else n+1:=by
  rw [Maps.size_put hT,(h3 x).1,h2]
 refine ⟨w',k1,⟨D.put (kl x) (.lit (el v)), ?_,hsz,fun t=>?_⟩,(Chg.refl (· = b) w).grown k3.grown (fun k e _=>by injection e with e;exact e.symm), ?_⟩
 ·rw [← hsz];obtain ⟨es,clock,hb,F,_,e⟩:=k2;exact ⟨es,clock,hb,F,by rw [e];simp [Maps.size,length_sorted],e⟩
 ·unfold eK;by_cases ht:t=x
  ·subst ht;rw [if_pos rfl];exact ⟨Maps.has_put_same hM (S.kis _) _,Maps.atKey_put_same hM (S.kis _) _ _⟩
  ·rw [if_neg ht,Maps.has_put_other (fun e=>ht (S.kinj e)),Maps.atKey_put_other (fun e=>ht (S.kinj e))];exact h3 t
 ·obtain ⟨es,clock,es',clock',_,rfl⟩:=k3;simp [ChangeMaps.setBlock]
end
def inR (a:Int):Prop:=-9223372036854775808≤a∧a≤9223372036854775807
theorem iG {a:Int} (h:inR a):(Lit.int .i64 a).wf=true:=by
 unfold inR at h;simp [Lit.wf,IntKind.min,IntKind.max,IntKind.signed,IntKind.bits];omega
theorem zV {e:TypeId} (he:Tryz.prog.underlying e=some .bool) {v:Value} {z:DataW Unit×List MemPlace} (h:plainElem Tryz.prog e v=some z):∃ a,v=.bool a∧z=(.lit (.bool a),[]):=by
 unfold plainElem at h;rw [he] at h;cases v <;> simp at h;subst h;exact ⟨_,rfl,rfl⟩
theorem sIB:Sort1 253 3 4 (Value.int .i64) (Lit.int .i64) inR Value.bool Lit.bool (fun _=>True) false where
 law:=int_keyed Tryz.underlying3
 und:=Tryz.underlying253
 zero w:=by kernel_rfl
 elem y _:=plainElem_bool Tryz.underlying4 y
 einv h:=by
  exact zV Tryz.underlying4 h
 einj h:=by injection h
 key x hx:=keyOf_int_mk Tryz.underlying3 (iG hx)
 kis _:=trivial
 kinj h:=by injection h
 z0ok:=trivial
theorem sII:Sort1 306 3 3 (Value.int .i64) (Lit.int .i64) inR (Value.int .i64) (Lit.int .i64) inR 0 where
 law:=int_keyed Tryz.underlying3
 und:=Tryz.underlying306
 zero w:=by kernel_rfl
 elem y hy:=plainElem_int Tryz.underlying3 (iG hy)
 einv h:=by
  obtain ⟨a,h1,h2,_⟩:=plainElem_int_inv Tryz.underlying3 h;exact ⟨a,h1,h2⟩
 einj h:=by injection h
 key x hx:=keyOf_int_mk Tryz.underlying3 (iG hx)
 kis _:=trivial
 kinj h:=by injection h
 z0ok:=by unfold inR;omega
abbrev Pk:=Fin 65536×Fin 65536
def kvP (p:Pk):Value:=.agg #[.int .i64 (p.1.val:Int),.int .i64 (p.2.val:Int)]
theorem CB:laidOutB Tryz.prog=true:=by kernel_rfl
theorem JH:Keyed Tryz.prog 175:=Keyed.of_law (deep_law_laid CB (m:=2) (by omega) (of_decide_eq_true (by kernel_rfl)) (by kernel_rfl) (by rw [Tryz.underlying175]))
theorem J1:ArrKey Tryz.prog 175 3 2:=⟨Tryz.underlying175,by kernel_rfl,by kernel_rfl,by kernel_rfl⟩
def klP (p:Pk):Lit:=.string (keyBytes [.int .i64 (p.1.val:Int),.int .i64 (p.2.val:Int)])
theorem IE (p:Pk):keyOf Tryz.prog 175 (kvP p)=some (klP p):=by
 have hs:1≤Tryz.prog.types.size:=of_decide_eq_true (by kernel_rfl);exact keyOf_pair J1 Tryz.underlying3 ⟨Tryz.prog.types.size-1,(Nat.sub_add_cancel hs).symm⟩ (a:=(p.1.val:Int)) (b:=(p.2.val:Int)) (iG (by unfold inR;omega)) (iG (by unfold inR;omega))
theorem sPI:Sort1 168 175 3 kvP klP (fun _=>True) (Value.int .i64) (Lit.int .i64) inR 0 where
 law:=JH
 und:=Tryz.underlying168
 zero w:=by kernel_rfl
 elem y hy:=plainElem_int Tryz.underlying3 (iG hy)
 einv h:=by
  obtain ⟨a,h1,h2,_⟩:=plainElem_int_inv Tryz.underlying3 h;exact ⟨a,h1,h2⟩
 einj h:=by injection h
 key x _:=IE x
 kis _:=trivial
 kinj {x y} h:=by
  have h1:=JH.inj (IE x) (h▸IE y);unfold kvP at h1
  injection h1 with h1
  have e0:=congrArg (fun a:Array Value=>a[0]?) h1;have e1:=congrArg (fun a:Array Value=>a[1]?) h1;simp at e0 e1;exact Prod.ext (Fin.ext (Int.ofNat.inj e0)) (Fin.ext (Int.ofNat.inj e1))
 z0ok:=by unfold inR;omega
end Go.Proofs.YtpidmmfjcghmeaaGreat
