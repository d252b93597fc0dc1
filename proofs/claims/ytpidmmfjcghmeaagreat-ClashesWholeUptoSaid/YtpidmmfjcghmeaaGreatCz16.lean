/- Towards clashesWhole_upto. -/
import Derived.Test.YtpidmmfjcghmeaaGreatCz14
import Derived.DeepKeys4
import Derived.WideKeyPair
set_option maxRecDepth 100000
set_option maxHeartbeats 16000000
set_option linter.all false
namespace Go.Proofs.YtpidmmfjcghmeaaGreat
open Go.RowKit
structure Chg (P:Nat→Prop) (w w':World):Prop where
 os:w'.os=w.os
 tape:w'.tape=w.tape
 output:w'.output=w.output
 size:w.heap.size≤w'.heap.size
 same:∀ k,k<w.heap.size→¬P k→w'.heap[k]? = w.heap[k]?
section
variable {P Q:Nat→Prop} {w w' w'':World}
theorem Chg.refl (P:Nat→Prop) (w:World):Chg P w w:=⟨rfl,rfl,rfl,gO _,fun _ _ _=>rfl⟩
theorem Chg.trans2 (h:Chg P w w') (k:Chg Q w' w'') (hQ:∀ i,i<w.heap.size→Q i→P i):Chg P w w'':=
 ⟨k.os.trans h.os,k.tape.trans h.tape,k.output.trans h.output,gP h.size k.size,fun i hi hn=>(k.same i (gK hi h.size) fun hq=>hn (hQ i hi hq)).trans (h.same i hi hn)⟩
theorem Chg.trans (h:Chg P w w') (k:Chg P w' w''):Chg P w w'':=h.trans2 k fun _ _ h=>h
theorem Chg.mono (h:Chg P w w') (hQ:∀ i,i<w.heap.size→P i→Q i):Chg Q w w':=⟨h.os,h.tape,h.output,h.size,fun i hi hn=>h.same i hi fun hp=>hn (hQ i hi hp)⟩
theorem Chg.below {B:Nat} (h:Chg P w w') (hP:∀ i,P i→B≤i) (hB:B≤w.heap.size):Below B w w':=⟨h.os,h.tape,h.output,h.size,fun k hk=>h.same k (gK hk hB) fun hp=>absurd (hP k hp) (Nat.not_le_of_gt hk)⟩
theorem Chg.of (h:Below w.heap.size w w'):Chg P w w':=⟨h.os,h.tape,h.output,h.size,fun k hk _=>h.block k hk⟩
theorem Chg.cell (h:Chg P w w') {p:Addr} {v:Value} (hc:w.cell? p=some v) (hn:¬P p.block):w'.cell? p=some v:=(gM (h.same _ (i1 hc) hn)).trans hc
theorem Chg.alloc (h:Chg P w w') (o:Obj):Chg P w (w'.alloc o):=h.trans2 (Chg.of (P:=P) ((gR _ _).alloc (gO _) _)) fun _ _ h=>h
theorem Chg.drew (h:Chg P w w'):Chg P w w'.drew:=⟨h.os,h.tape,h.output,h.size,h.same⟩
theorem Chg.setCell (h:Chg P w w') {p:Addr} (hp:p.block<w.heap.size→P p.block) (v:Value):Chg P w (w'.setCell p v):=
 ⟨h.os,h.tape,h.output,by simpa using h.size,fun k hk hn=>(gU _ _ _ _ fun e=>hn (by rw [e];exact hp (e▸hk))).trans (h.same k hk hn)⟩
theorem Chg.grown {row:Option Nat} (h:Chg P w w') (hg:w'.grownBy w'' row) (hr:∀ k,row=some k→k<w.heap.size→P k):Chg P w w'':=
 ⟨hg.os.trans h.os,hg.tape.trans h.tape,hg.output.trans h.output,gP h.size hg.size,fun k hk hn=>(hg.block k (gK hk h.size) fun e=>hn (hr k e.symm hk)).trans (h.same k hk hn)⟩
end
open Go.Maps Go.WideMaps
structure Sort1 {κ β:Type} (mT kT eT:TypeId) (kv:κ→Value) (kl:κ→Lit) (okK:κ→Prop) (ev:β→Value) (el:β→Lit) (okE:β→Prop) (z0:β):Prop where
 law:Keyed Tryz.prog kT
 und:Tryz.prog.underlying mT=some (.map kT eT)
 zero:∀ w,(zeroValue eT).run Tryz.prog w=.ok (ev z0) w
 elem:∀ y,okE y→plainElem (H:=Unit) Tryz.prog eT (ev y)=some (.lit (el y),[])
 einv:∀ {v:Value} {z:DataW Unit×List MemPlace},plainElem Tryz.prog eT v=some z→∃ y,v=ev y∧z=(.lit (el y),[])
 einj:∀ {x y},el x=el y→x=y
 key:∀ x,okK x→keyOf Tryz.prog kT (kv x)=some (kl x)
 kis:∀ x,WideAt.IsKeyLit (kl x)
 kinj:∀ {x y},kl x=kl y→x=y
 z0ok:okE z0
def MG {κ β:Type} (kT eT:TypeId) (kl:κ→Lit) (el:β→Lit) (z0:β) (w:World) (b:Nat) (f:κ→Option β) (n:Nat):Prop:=
 ∃ D:DataW Unit,w.ownsMap Tryz.prog kT (plainElem Tryz.prog eT) b n D∧Maps.size D=n∧∀ x,Maps.has D (kl x)=(f x).isSome∧D.atKey (kl x) (.lit (el z0))=.lit (el ((f x).getD z0))
def eK {κ β:Type} [DecidableEq κ] (f:κ→Option β) (x:κ) (v:β):κ→Option β:=fun t=>if t=x then some v else f t
section
variable {κ β:Type} [DecidableEq κ] {mT kT eT:TypeId} {kv:κ→Value} {kl:κ→Lit} {okK:κ→Prop} {ev:β→Value} {el:β→Lit} {okE:β→Prop} {z0:β}
variable {w w':World} {b n:Nat} {f:κ→Option β}
omit [DecidableEq κ] in
theorem MG.lt (h:MG kT eT kl el z0 w b f n):b<w.heap.size:=by
 obtain ⟨D,h1,_⟩:=h;exact World.ownsMap.lt h1
omit [DecidableEq κ] in
theorem MG.isMap (h:MG kT eT kl el z0 w b f n):∃ es c,w.heap[b]? = some (.map es c):=by
 obtain ⟨D,⟨es,clock,hb,_⟩,_⟩:=h;exact ⟨es,clock,hb⟩
omit [DecidableEq κ] in
theorem MG.keep (h:MG kT eT kl el z0 w b f n) (hk:w'.heap[b]? = w.heap[b]?):MG kT eT kl el z0 w' b f n:=by
 obtain ⟨D,⟨es,clock,hb,h1⟩,h2⟩:=h;exact ⟨D,⟨es,clock,hk.trans hb,h1⟩,h2⟩
omit [DecidableEq κ] in
theorem MG.below (h:MG kT eT kl el z0 w b f n) (hb:Below w.heap.size w w'):MG kT eT kl el z0 w' b f n:=h.keep (hb.block _ h.lt)
omit [DecidableEq κ] in
theorem MG.made (w:World):MG (κ:=κ) kT eT kl el z0 (w.alloc (.map #[] 0)) w.heap.size (fun _=>none) 0:=
 ⟨_,World.ownsMap_made w _ _ _,rfl,fun _=>⟨rfl,rfl⟩⟩
omit [DecidableEq κ] in
theorem MG.conv {g:κ→Option β} (h:MG kT eT kl el z0 w b f n) (hfg:∀ x,f x=g x):MG kT eT kl el z0 w b g n:=by
 rwa [show g=f from funext fun x=>(hfg x).symm]
def B8 (w:World) (b:Nat):Nat:=match w.heap[b]? with
 | some (.map es _)=>es.size
 | _=>0
omit [DecidableEq κ] in
theorem MG.count (h:MG kT eT kl el z0 w b f n):B8 w b=n:=by
 obtain ⟨D,⟨es,clock,hb,F,_,e⟩,h2,_⟩:=h;unfold B8;rw [hb];rw [e] at h2
 simpa [Maps.size,length_sorted] using h2
variable (S:Sort1 mT kT eT kv kl okK ev el okE z0)
include S
omit [DecidableEq κ] in
theorem MG.get (h:MG kT eT kl el z0 w b f n) {x:κ} (hx:okK x):(Instr.lookup mT (.map (some b)) (kv x) false).run Tryz.prog w=.ok (ev ((f x).getD z0)) w:=by
 obtain ⟨D,h1,_,h3⟩:=h;obtain ⟨v,ps,hrun,hv⟩:=World.ownsMap.lookup h1 S.law S.und (S.zero w) (S.elem _ S.z0ok) (S.key _ hx);obtain ⟨c,rfl,hc⟩:=S.einv hv;rw [hrun];have h1:=congrArg Prod.fst hc;simp only at h1;rw [(h3 x).2] at h1
 injection h1 with h1
 rw [S.einj h1]
omit [DecidableEq κ] in
theorem MG.look (h:MG kT eT kl el z0 w b f n) {x:κ} (hx:okK x):(Instr.lookup mT (.map (some b)) (kv x) true).run Tryz.prog w=.ok (.tuple #[ev ((f x).getD z0),.bool (f x).isSome]) w:=by
 obtain ⟨D,h1,_,h3⟩:=h;obtain ⟨v,ps,hrun,hv⟩:=World.ownsMap.look_ok h1 S.law S.und (S.zero w) (S.elem _ S.z0ok) (S.key _ hx);obtain ⟨c,rfl,hc⟩:=S.einv hv;rw [hrun];have h1:=congrArg Prod.fst hc;simp only at h1;rw [(h3 x).2] at h1
 injection h1 with h1
 rw [S.einj h1];exact congrArg (fun z=>Result.ok (Value.tuple #[ev _,.bool z]) w) (h3 x).1
theorem MG.store (h:MG kT eT kl el z0 w b f n) {x:κ} {v:β} (hx:okK x) (hv:okE v) (hn:n<9223372036854775807):
  ∃ w',(Instr.mapUpdate mT (.map (some b)) (kv x) (ev v)).run Tryz.prog w=.ok () w'∧MG kT eT kl el z0 w' b (eK f x v) (if (f x).isSome then n else n+1)∧Chg (· = b) w w'∧w'.heap.size=w.heap.size:=by
 obtain ⟨D,h1,h2,h3⟩:=h;obtain ⟨w',k1,k2,k3⟩:=World.ownsMap.store h1 S.law S.und hn (S.key _ hx) (S.elem _ hv);have hT:=World.ownsMap.tidy h1 S.law;have hM:=World.ownsMap.isMap h1;have hsz:Maps.size (D.put (kl x) (.lit (el v)))=if (f x).isSome then n else n+1:=by
  rw [Maps.size_put hT,(h3 x).1,h2]
 refine ⟨w',k1,⟨D.put (kl x) (.lit (el v)), ?_,hsz,fun t=>?_⟩,(Chg.refl (· = b) w).grown k3.grown (fun k e _=>by injection e with e;exact e.symm), ?_⟩
 ·rw [← hsz];obtain ⟨es,clock,hb,F,_,e⟩:=k2;exact ⟨es,clock,hb,F,by rw [e];simp [Maps.size,length_sorted],e⟩
 ·unfold eK;by_cases ht:t=x
  ·subst ht;rw [if_pos rfl];exact ⟨Maps.has_put_same hM (S.kis _) _,Maps.atKey_put_same hM (S.kis _) _ _⟩
  ·rw [if_neg ht,Maps.has_put_other (fun e=>ht (S.kinj e)),Maps.atKey_put_other (fun e=>ht (S.kinj e))];exact h3 t
 ·obtain ⟨es,clock,es',clock',_,rfl⟩:=k3;simp [ChangeMaps.setBlock]
end
def inR (a:Int):Prop:=-9223372036854775808≤a∧a≤9223372036854775807
theorem iG {a:Int} (h:inR a):(Lit.int .i64 a).wf=true:=by
 unfold inR at h;simp [Lit.wf,IntKind.min,IntKind.max,IntKind.signed,IntKind.bits];omega
theorem zL {e:TypeId} (he:Tryz.prog.underlying e=some .bool) {v:Value} {z:DataW Unit×List MemPlace} (h:plainElem Tryz.prog e v=some z):∃ a,v=.bool a∧z=(.lit (.bool a),[]):=by
 unfold plainElem at h;rw [he] at h;cases v <;> simp at h;subst h;exact ⟨_,rfl,rfl⟩
theorem sIB:Sort1 253 3 4 (Value.int .i64) (Lit.int .i64) inR Value.bool Lit.bool (fun _=>True) false where
 law:=int_keyed Tryz.underlying3
 und:=Tryz.underlying253
 zero w:=by kernel_rfl
 elem y _:=plainElem_bool Tryz.underlying4 y
 einv h:=by
  exact zL Tryz.underlying4 h
 einj h:=by injection h
 key x hx:=keyOf_int_mk Tryz.underlying3 (iG hx)
 kis _:=trivial
 kinj h:=by injection h
 z0ok:=trivial
theorem sII:Sort1 306 3 3 (Value.int .i64) (Lit.int .i64) inR (Value.int .i64) (Lit.int .i64) inR 0 where
 law:=int_keyed Tryz.underlying3
 und:=Tryz.underlying306
 zero w:=by kernel_rfl
 elem y hy:=plainElem_int Tryz.underlying3 (iG hy)
 einv h:=by
  obtain ⟨a,h1,h2,_⟩:=plainElem_int_inv Tryz.underlying3 h;exact ⟨a,h1,h2⟩
 einj h:=by injection h
 key x hx:=keyOf_int_mk Tryz.underlying3 (iG hx)
 kis _:=trivial
 kinj h:=by injection h
 z0ok:=by unfold inR;omega
abbrev Pk:=Fin 65536×Fin 65536
def kvP (p:Pk):Value:=.agg #[.int .i64 (p.1.val:Int),.int .i64 (p.2.val:Int)]
theorem BX:laidOutB Tryz.prog=true:=by kernel_rfl
theorem I6:Keyed Tryz.prog 175:=Keyed.of_law (deep_law_laid BX (m:=2) (by omega) (of_decide_eq_true (by kernel_rfl)) (by kernel_rfl) (by rw [Tryz.underlying175]))
theorem JP:ArrKey Tryz.prog 175 3 2:=⟨Tryz.underlying175,by kernel_rfl,by kernel_rfl,by kernel_rfl⟩
def klP (p:Pk):Lit:=.string (keyBytes [.int .i64 (p.1.val:Int),.int .i64 (p.2.val:Int)])
theorem G7 (p:Pk):keyOf Tryz.prog 175 (kvP p)=some (klP p):=by
 have hs:1≤Tryz.prog.types.size:=of_decide_eq_true (by kernel_rfl);exact keyOf_pair JP Tryz.underlying3 ⟨Tryz.prog.types.size-1,(Nat.sub_add_cancel hs).symm⟩ (a:=(p.1.val:Int)) (b:=(p.2.val:Int)) (iG (by unfold inR;omega)) (iG (by unfold inR;omega))
theorem sPI:Sort1 168 175 3 kvP klP (fun _=>True) (Value.int .i64) (Lit.int .i64) inR 0 where
 law:=I6
 und:=Tryz.underlying168
 zero w:=by kernel_rfl
 elem y hy:=plainElem_int Tryz.underlying3 (iG hy)
 einv h:=by
  obtain ⟨a,h1,h2,_⟩:=plainElem_int_inv Tryz.underlying3 h;exact ⟨a,h1,h2⟩
 einj h:=by injection h
 key x _:=G7 x
 kis _:=trivial
 kinj {x y} h:=by
  have h1:=I6.inj (G7 x) (h▸G7 y);unfold kvP at h1
  injection h1 with h1
  have e0:=congrArg (fun a:Array Value=>a[0]?) h1;have e1:=congrArg (fun a:Array Value=>a[1]?) h1;simp at e0 e1;exact Prod.ext (Fin.ext (Int.ofNat.inj e0)) (Fin.ext (Int.ofNat.inj e1))
 z0ok:=by unfold inR;omega
end Go.Proofs.YtpidmmfjcghmeaaGreat
