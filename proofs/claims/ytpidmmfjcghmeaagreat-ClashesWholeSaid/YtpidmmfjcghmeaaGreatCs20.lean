/- Towards clashesWhole_upto. -/
import Derived.Test.YtpidmmfjcghmeaaGreatCs14
set_option maxRecDepth 100000
set_option maxHeartbeats 16000000
set_option linter.all false
namespace Go.Proofs.YtpidmmfjcghmeaaGreat.Ab
open Go.RowKit
variable {σ:Sg} {W:World}
noncomputable def text:AV:=.s ⟨#[37,116,111,107,101,110,32,65,32,66,32,37,37,32,115,32,58,32,65,32,115,32,124,32,66,32,59]⟩
noncomputable def vP:AV:=(.tup [(.agg [(.so 86 0 2 1),(.so 91 0 1 1),(.so 152 0 2 2),(.i .i64 3)]),.ni])
noncomputable def hPK:List Nat:=[86,91,133,150,152]
noncomputable def hPL:List (Nat×AO):=[(86,.cells [(.s ⟨#[65]⟩),(.s ⟨#[66]⟩)] 9),
 (91,.cells [(.s ⟨#[115]⟩)] 9),
 (133,.cells [(.i .i64 1),(.i .i64 3)] 3),
 (150,.cells [(.i .i64 2)] 3),
 (152,.cells [(.i .i64 3),(.so 133 0 2 1),(.i .i64 3),(.so 150 0 1 1)] 64)]
noncomputable def hPN:Nat:=153
noncomputable def vM:AV:=(.tup [(.ptr 2016 0),(.i .i64 0)])
noncomputable def hMK:List Nat:=[86,91,133,150,152,153,1774,1777,1779,1810,1829,1860,1879,1909,1925,1954,1970,2000,2005,2010,2016]
noncomputable def hML:List (Nat×AO):=[(86,.cells [(.s ⟨#[65]⟩),(.s ⟨#[66]⟩)] 9),
 (91,.cells [(.s ⟨#[115]⟩)] 9),
 (133,.cells [(.i .i64 1),(.i .i64 3)] 3),
 (150,.cells [(.i .i64 2)] 3),
 (152,.cells [(.i .i64 3),(.so 133 0 2 1),(.i .i64 3),(.so 150 0 1 1)] 64),
 (153,.cells [(.so 86 0 2 1),(.so 91 0 1 1),(.so 152 0 2 2),(.i .i64 3)] 25),
 (1774,.cells [(.i .i64 3)] 3),
 (1777,.cells [(.i .i64 3),(.so 133 0 2 1),(.i .i64 3),(.so 150 0 1 1),(.i .i64 0),(.sl 1774 0 1 1)] 64),
 (1779,.cells [(.i .i64 0),(.i .i64 0),(.i .i64 1),(.i .i64 1),(.i .i64 1),(.i .i64 2)] 48),
 (1810,.cells [(.i .i64 3)] 3),
 (1829,.cells [(.i .i64 0),(.i .i64 0),(.i .i64 1),(.i .i64 1),(.i .i64 1),(.i .i64 2)] 48),
 (1860,.cells [(.i .i64 4)] 3),
 (1879,.cells [(.i .i64 2),(.i .i64 1),(.i .i64 0),(.i .i64 0),(.i .i64 0),(.i .i64 0)] 48),
 (1909,.cells [(.i .i64 (-1))] 3),
 (1925,.cells [(.i .i64 3),(.i .i64 0),(.i .i64 0),(.i .i64 0),(.i .i64 0),(.i .i64 0)] 48),
 (1954,.cells [(.i .i64 (-1))] 3),
 (1970,.cells [(.i .i64 2),(.i .i64 0),(.i .i64 0),(.i .i64 0),(.i .i64 0),(.i .i64 0)] 48),
 (2000,.cells [(.i .i64 (-1))] 3),
 (2005,.cells [(.sl 1779 0 3 3),(.sl 1829 0 3 3),(.sl 1879 0 3 3),(.sl 1925 0 3 3),(.sl 1970 0 3 3)] 165),
 (2010,.cells [(.sl 1810 0 1 1),(.sl 1860 0 1 1),(.sl 1909 0 1 1),(.sl 1954 0 1 1),(.sl 2000 0 1 1)] 26),
 (2016,.cells [(.so 86 0 2 1),(.so 91 0 1 1),(.so 152 0 2 2),(.i .i64 3),(.so 1777 0 3 2),(.i .i64 2),(.i .i64 1),(.so 2005 0 5 1),(.so 2010 0 5 1)] 130)]
noncomputable def hMN:Nat:=2017
noncomputable def vT:AV:=(.tup [(.s ⟨#[40,115,32,65,32,40,115,32,65,32,40,115,32,66,41,41,41]⟩),(.i .i64 (-1))])
noncomputable def hTK:List Nat:=[86,91,133,150,152,153]
noncomputable def hTL:List (Nat×AO):=[(86,.cells [(.s ⟨#[65]⟩),(.s ⟨#[66]⟩)] 9),
 (91,.cells [(.s ⟨#[115]⟩)] 9),
 (133,.cells [(.i .i64 1),(.i .i64 3)] 3),
 (150,.cells [(.i .i64 2)] 3),
 (152,.cells [(.i .i64 3),(.so 133 0 2 1),(.i .i64 3),(.so 150 0 1 1)] 64),
 (153,.cells [(.so 86 0 2 1),(.so 91 0 1 1),(.so 152 0 2 2),(.i .i64 3)] 25)]
noncomputable def hTN:Nat:=2341
noncomputable def vS:AV:=(.s ⟨#[37,116,111,107,101,110,32,65,32,66,10,37,115,116,97,114,116,32,115,10,37,37,10,115,32,58,32,65,32,115,10,9,124,32,66,10,9,59,10]⟩)
noncomputable def hSN:Nat:=2452
noncomputable def mkT:List (Nat×AO)→T AO
 | []=>.nil
 | (i,o)::l=>(mkT l).set i (some o)
noncomputable def prune (h:H):List Nat→T AO
 | []=>.nil
 | i::l=>(prune h l).set i (h.get i)
noncomputable def gC:List AV:=[(.so 86 0 2 1),(.so 91 0 1 1),(.so 152 0 2 2),(.i .i64 3)]
noncomputable def h00:H:=⟨.nil,0,[],none⟩
noncomputable def rP:AV×H:=(vP,⟨mkT hPL,hPN,[],none⟩)
noncomputable def hM0:H:=⟨(mkT hPL).set hPN (some (.cells gC 25)),hPN+1,[],none⟩
noncomputable def rM:AV×H:=(vM,⟨mkT hML,hMN,[],none⟩)
noncomputable def vTabs:AV:=match vM with | .tup (v::_)=>v | _=>.np
noncomputable def hT0:H:=⟨(mkT hML).set hMN (some (.cells [.i .i64 1,.i .i64 1,.i .i64 2] 3)),hMN+1,[],none⟩
noncomputable def rT:AV×H:=(vT,⟨mkT hTL,hTN,[],none⟩)
noncomputable def rS:AV×H:=(vS,⟨.nil,hSN,[],none⟩)
noncomputable def chk (r:Option (AV×H)) (v:AV) (keep:List Nat) (t:T AO) (n:Nat):Bool:=
 match r with
 | some (u,h)=>eqA u v&&(decide (h.nx≤n)&&(decide (h.rs=[])&&(decide (h.sl=none)&&eqT eqO (prune h keep) t)))
 | none=>false
theorem GU {r:Option (AV×H)} {v:AV} {keep:List Nat} {t:T AO} {n:Nat} (h:chk r v keep t n=true):∃ h',r=some (v,h')∧h'.nx≤n∧h'.rs=[]∧h'.sl=none∧prune h' keep=t:=by
 unfold chk at h
 split at h
 ·rename_i u h';simp only [yF,decide_eq_true_eq] at h;obtain ⟨h1,h2,h3,h4,h5⟩:=h;exact ⟨h',by rw [lT h1],h2,h3,h4,jV (fun _ _ e=>tA e) h5⟩
 ·cases h
theorem oR (h:H):∀ (l:List Nat) (i:Nat) (o:AO),(prune h l).get i=some o→h.get i=some o
 | [],i,o,hi=>by simp [prune,T.get_nil] at hi
 | j::l,i,o,hi=>by
  rw [prune,T.get_set] at hi
  split at hi
  ·rename_i e;rw [e];exact hi
  ·exact oR h l i o hi
theorem HR.pruned {h:H} {w:World} (hr:HR W σ h w) {keep:List Nat} {t:T AO} {n:Nat} (hn:h.nx≤n) (hp:prune h keep=t):HR W σ ⟨t,n,[],none⟩ w:=by
 have hg:∀ i o,(H.get ⟨t,n,[],none⟩ i)=some o→h.get i=some o:=fun i o hi=>by
  have:t.get i=some o:=hi;rw [← hp] at this;exact oR h keep i o this
 have hg':∀ i,(H.get ⟨t,n,[],none⟩ i)≠none→h.get i≠none:=fun i hi=>by
  cases e:H.get ⟨t,n,[],none⟩ i with
  | none=>exact absurd e hi
  | some o=>rw [hg i o e];simp
 exact ⟨fun i o hi=>hr.obj i o (hg i o hi),fun i j b k k' h1 h2=>hr.inj i j b k k' (hg' i h1) (hg' j h2),fun i hi=>hr.fre i (gP hn hi),(fun i hi=>by cases hi),(fun i hi=>by cases hi),(fun i hi=>by cases hi),List.nodup_nil,hr.bel⟩
noncomputable def litG (args0:List AV) (h0:H) (r:AV×H) (args:List AV) (h:H):Option (AV×H):=
 match kN args args0&&(eqT eqO h.hp h0.hp&&(decide (h.nx=h0.nx)&&(decide (h.rs=h0.rs)&&decide (h.sl=h0.sl)))) with
 | true=>some r
 | false=>none
noncomputable def addHook (C:Cfg) (k:Nat) (g:List AV→H→Option (AV×H)):Cfg:=
 { hook:=fun n=>match decide (n=k) with | true=>some g | false=>C.hook n,fuel:=C.fuel,draw:=C.draw }
def Known (W:World) (k:Nat) (g:List AV→H→Option (AV×H)):Prop:=
 ∀ args h r,g args h=some r→∀ (σ:Sg) (w:World) (us:List Value),HR W σ h w→VL σ args us→
  (callFunc k us.toArray).run Tryz.prog w=.ok (.enter k us.toArray) w∧Calls Tryz.prog k us.toArray w (fun e w'=>∃ v,e=.returned v∧Rs W σ r v w')
theorem cO {C:Cfg} (hC:CfgOK Tryz.prog W C) {k:Nat} {g:List AV→H→Option (AV×H)} (hg:Known W k g):CfgOK Tryz.prog W (addHook C k g):=by
 refine ⟨hC.nam,fun n g' hn args h r hx σ w us hr hv=>?_,hC.draw⟩;have hn:(match decide (n=k) with | true=>some g | false=>C.hook n)=some g':=hn
 split at hn
 ·rename_i hd;cases hn;simp only [decide_eq_true_eq] at hd;subst hd;exact hg args h r hx σ w us hr hv
 ·exact hC.hook n g' hn args h r hx σ w us hr hv
theorem iI {C:Cfg} (hC:CfgOK Tryz.prog W C) {k:Nat} {args0:List AV} {h0:H} {v:AV} {keep:List Nat} {t:T AO} {n:Nat} (hc:chk (callA Tryz.prog C 25 (.fn k) args0 h0) v keep t n=true):Known W k (litG args0 h0 (v,⟨t,n,[],none⟩)):=by
 intro args h r hx σ w us hr hv;unfold litG at hx
 split at hx
 ·rename_i he;cases hx;simp only [yF,decide_eq_true_eq] at he;obtain ⟨e1,e2,e3,e4,e5⟩:=he;have ea:=d9 e1;have eh:h=h0:=by
   obtain ⟨hp,nx,rs,sl⟩:=h;obtain ⟨hp',nx',rs',sl'⟩:=h0;simp only at e2 e3 e4 e5;rw [jV (fun _ _ e=>tA e) e2,e3,e4,e5]
  subst ea eh;obtain ⟨h',h1,h2,h3,h4,h5⟩:=GU hc;obtain ⟨h6,h7⟩:=(o8 hC 25).fn k args h _ h1 σ w us hr hv;refine ⟨h6,h7.mono ?_⟩;rintro e w' ⟨u,rfl,σ',h8,h9,h10⟩;exact ⟨u,rfl,σ',h8,h9,h10.pruned h2 h5⟩
 ·cases hx
noncomputable def aB:List AV:=[(.agg [(.so 86 0 2 1),(.so 91 0 1 1),(.so 152 0 2 2),(.i .i64 3)])]
noncomputable def iBL:List (Nat×AO):=[(86,.cells [(.s ⟨#[65]⟩),(.s ⟨#[66]⟩)] 9),
 (91,.cells [(.s ⟨#[115]⟩)] 9),
 (133,.cells [(.i .i64 1),(.i .i64 3)] 3),
 (150,.cells [(.i .i64 2)] 3),
 (152,.cells [(.i .i64 3),(.so 133 0 2 1),(.i .i64 3),(.so 150 0 1 1)] 64),
 (153,.cells [(.so 86 0 2 1),(.so 91 0 1 1),(.so 152 0 2 2),(.i .i64 3)] 25),
 (154,.cells [(.so 86 0 2 1),(.so 91 0 1 1),(.so 152 0 2 2),(.i .i64 3)] 25),
 (155,.cells [(.so 86 0 2 1),(.so 91 0 1 1),(.so 152 0 2 2),(.i .i64 3)] 25),
 (156,.cells [.ns,(.i .i64 0),(.i .i64 0),.ns,.ns] 126),
 (157,.cells [(.so 86 0 2 1),(.so 91 0 1 1),(.so 152 0 2 2),(.i .i64 3)] 25),
 (158,.cells [(.i .i64 0),.ns,.ns] 86)]
noncomputable def iBN:Nat:=159
noncomputable def vB:AV:=(.tup [(.so 527 0 5 2),(.i .i64 0)])
noncomputable def oBK:List Nat:=[86,91,133,150,152,153,154,155,156,157,158,321,353,392,412,455,527,658,668]
noncomputable def oBL:List (Nat×AO):=[(86,.cells [(.s ⟨#[65]⟩),(.s ⟨#[66]⟩)] 9),
 (91,.cells [(.s ⟨#[115]⟩)] 9),
 (133,.cells [(.i .i64 1),(.i .i64 3)] 3),
 (150,.cells [(.i .i64 2)] 3),
 (152,.cells [(.i .i64 3),(.so 133 0 2 1),(.i .i64 3),(.so 150 0 1 1)] 64),
 (153,.cells [(.so 86 0 2 1),(.so 91 0 1 1),(.so 152 0 2 2),(.i .i64 3)] 25),
 (154,.cells [(.so 86 0 2 1),(.so 91 0 1 1),(.so 152 0 2 2),(.i .i64 3)] 25),
 (155,.cells [(.so 86 0 2 1),(.so 91 0 1 1),(.so 152 0 2 2),(.i .i64 3)] 25),
 (156,.cells [.ns,(.i .i64 0),(.i .i64 0),.ns,.ns] 126),
 (157,.cells [(.so 86 0 2 1),(.so 91 0 1 1),(.so 152 0 2 2),(.i .i64 3)] 25),
 (158,.cells [(.i .i64 0),.ns,.ns] 86),
 (321,.cells [(.i .i64 2),(.i .i64 0)] 250),
 (353,.cells [(.i .i64 2),(.i .i64 1)] 250),
 (392,.cells [(.i .i64 0),(.i .i64 1)] 250),
 (412,.cells [(.i .i64 1),(.i .i64 1)] 250),
 (455,.cells [(.i .i64 0),(.i .i64 2)] 250),
 (527,.cells [(.sl 321 0 1 1),(.so 658 0 3 2),(.so 392 0 1 2),(.so 668 0 3 2),(.so 412 0 1 2),.ns,(.so 353 0 1 2),.ns,(.so 455 0 1 2),.ns] 100),
 (658,.cells [(.i .i64 1),(.i .i64 1),(.i .i64 2),(.i .i64 2),(.i .i64 3),(.i .i64 3)] 102),
 (668,.cells [(.i .i64 1),(.i .i64 1),(.i .i64 2),(.i .i64 2),(.i .i64 3),(.i .i64 4)] 102)]
noncomputable def oBN:Nat:=682
noncomputable def aB2:List AV:=[(.agg [(.so 86 0 2 1),(.so 91 0 1 1),(.so 152 0 2 2),(.i .i64 3)])]
noncomputable def iB2L:List (Nat×AO):=[(86,.cells [(.s ⟨#[65]⟩),(.s ⟨#[66]⟩)] 9),
 (91,.cells [(.s ⟨#[115]⟩)] 9),
 (133,.cells [(.i .i64 1),(.i .i64 3)] 3),
 (150,.cells [(.i .i64 2)] 3),
 (152,.cells [(.i .i64 3),(.so 133 0 2 1),(.i .i64 3),(.so 150 0 1 1)] 64),
 (153,.cells [(.so 86 0 2 1),(.so 91 0 1 1),(.so 152 0 2 2),(.i .i64 3)] 25),
 (154,.cells [(.so 86 0 2 1),(.so 91 0 1 1),(.so 152 0 2 2),(.i .i64 3)] 25),
 (155,.cells [(.so 86 0 2 1),(.so 91 0 1 1),(.so 152 0 2 2),(.i .i64 3)] 25),
 (156,.cells [.ns,(.i .i64 0),(.i .i64 0),.ns,.ns] 126),
 (157,.cells [(.so 86 0 2 1),(.so 91 0 1 1),(.so 152 0 2 2),(.i .i64 3)] 25),
 (158,.cells [(.i .i64 0),.ns,.ns] 86),
 (321,.cells [(.i .i64 2),(.i .i64 0)] 250),
 (353,.cells [(.i .i64 2),(.i .i64 1)] 250),
 (392,.cells [(.i .i64 0),(.i .i64 1)] 250),
 (412,.cells [(.i .i64 1),(.i .i64 1)] 250),
 (455,.cells [(.i .i64 0),(.i .i64 2)] 250),
 (527,.cells [(.sl 321 0 1 1),(.so 658 0 3 2),(.so 392 0 1 2),(.so 668 0 3 2),(.so 412 0 1 2),.ns,(.so 353 0 1 2),.ns,(.so 455 0 1 2),.ns] 100),
 (658,.cells [(.i .i64 1),(.i .i64 1),(.i .i64 2),(.i .i64 2),(.i .i64 3),(.i .i64 3)] 102),
 (668,.cells [(.i .i64 1),(.i .i64 1),(.i .i64 2),(.i .i64 2),(.i .i64 3),(.i .i64 4)] 102),
 (682,.cells [(.so 86 0 2 1),(.so 91 0 1 1),(.so 152 0 2 2),(.i .i64 3)] 25)]
noncomputable def iB2N:Nat:=683
noncomputable def vB2:AV:=(.tup [(.so 1051 0 5 2),(.i .i64 0)])
noncomputable def oB2K:List Nat:=[86,91,133,150,152,153,154,155,156,157,158,321,353,392,412,455,527,658,668,682,845,877,916,936,979,1051,1182,1192]
noncomputable def oB2L:List (Nat×AO):=[(86,.cells [(.s ⟨#[65]⟩),(.s ⟨#[66]⟩)] 9),
 (91,.cells [(.s ⟨#[115]⟩)] 9),
 (133,.cells [(.i .i64 1),(.i .i64 3)] 3),
 (150,.cells [(.i .i64 2)] 3),
 (152,.cells [(.i .i64 3),(.so 133 0 2 1),(.i .i64 3),(.so 150 0 1 1)] 64),
 (153,.cells [(.so 86 0 2 1),(.so 91 0 1 1),(.so 152 0 2 2),(.i .i64 3)] 25),
 (154,.cells [(.so 86 0 2 1),(.so 91 0 1 1),(.so 152 0 2 2),(.i .i64 3)] 25),
 (155,.cells [(.so 86 0 2 1),(.so 91 0 1 1),(.so 152 0 2 2),(.i .i64 3)] 25),
 (156,.cells [.ns,(.i .i64 0),(.i .i64 0),.ns,.ns] 126),
 (157,.cells [(.so 86 0 2 1),(.so 91 0 1 1),(.so 152 0 2 2),(.i .i64 3)] 25),
 (158,.cells [(.i .i64 0),.ns,.ns] 86),
 (321,.cells [(.i .i64 2),(.i .i64 0)] 250),
 (353,.cells [(.i .i64 2),(.i .i64 1)] 250),
 (392,.cells [(.i .i64 0),(.i .i64 1)] 250),
 (412,.cells [(.i .i64 1),(.i .i64 1)] 250),
 (455,.cells [(.i .i64 0),(.i .i64 2)] 250),
 (527,.cells [(.sl 321 0 1 1),(.so 658 0 3 2),(.so 392 0 1 2),(.so 668 0 3 2),(.so 412 0 1 2),.ns,(.so 353 0 1 2),.ns,(.so 455 0 1 2),.ns] 100),
 (658,.cells [(.i .i64 1),(.i .i64 1),(.i .i64 2),(.i .i64 2),(.i .i64 3),(.i .i64 3)] 102),
 (668,.cells [(.i .i64 1),(.i .i64 1),(.i .i64 2),(.i .i64 2),(.i .i64 3),(.i .i64 4)] 102),
 (682,.cells [(.so 86 0 2 1),(.so 91 0 1 1),(.so 152 0 2 2),(.i .i64 3)] 25),
 (845,.cells [(.i .i64 2),(.i .i64 0)] 250),
 (877,.cells [(.i .i64 2),(.i .i64 1)] 250),
 (916,.cells [(.i .i64 0),(.i .i64 1)] 250),
 (936,.cells [(.i .i64 1),(.i .i64 1)] 250),
 (979,.cells [(.i .i64 0),(.i .i64 2)] 250),
 (1051,.cells [(.sl 845 0 1 1),(.so 1182 0 3 2),(.so 916 0 1 2),(.so 1192 0 3 2),(.so 936 0 1 2),.ns,(.so 877 0 1 2),.ns,(.so 979 0 1 2),.ns] 100),
 (1182,.cells [(.i .i64 1),(.i .i64 1),(.i .i64 2),(.i .i64 2),(.i .i64 3),(.i .i64 3)] 102),
 (1192,.cells [(.i .i64 1),(.i .i64 1),(.i .i64 2),(.i .i64 2),(.i .i64 3),(.i .i64 4)] 102)]
noncomputable def oB2N:Nat:=1206
noncomputable def aL:List AV:=[(.agg [(.so 86 0 2 1),(.so 91 0 1 1),(.so 152 0 2 2),(.i .i64 3)])]
noncomputable def iLL:List (Nat×AO):=[(86,.cells [(.s ⟨#[65]⟩),(.s ⟨#[66]⟩)] 9),
 (91,.cells [(.s ⟨#[115]⟩)] 9),
 (133,.cells [(.i .i64 1),(.i .i64 3)] 3),
 (150,.cells [(.i .i64 2)] 3),
 (152,.cells [(.i .i64 3),(.so 133 0 2 1),(.i .i64 3),(.so 150 0 1 1)] 64),
 (153,.cells [(.so 86 0 2 1),(.so 91 0 1 1),(.so 152 0 2 2),(.i .i64 3)] 25),
 (154,.cells [(.so 86 0 2 1),(.so 91 0 1 1),(.so 152 0 2 2),(.i .i64 3)] 25),
 (155,.cells [(.so 86 0 2 1),(.so 91 0 1 1),(.so 152 0 2 2),(.i .i64 3)] 25),
 (156,.cells [.ns,(.i .i64 0),(.i .i64 0),.ns,.ns] 126),
 (157,.cells [(.so 86 0 2 1),(.so 91 0 1 1),(.so 152 0 2 2),(.i .i64 3)] 25),
 (158,.cells [(.i .i64 0),.ns,.ns] 86),
 (321,.cells [(.i .i64 2),(.i .i64 0)] 250),
 (353,.cells [(.i .i64 2),(.i .i64 1)] 250),
 (392,.cells [(.i .i64 0),(.i .i64 1)] 250),
 (412,.cells [(.i .i64 1),(.i .i64 1)] 250),
 (455,.cells [(.i .i64 0),(.i .i64 2)] 250),
 (527,.cells [(.sl 321 0 1 1),(.so 658 0 3 2),(.so 392 0 1 2),(.so 668 0 3 2),(.so 412 0 1 2),.ns,(.so 353 0 1 2),.ns,(.so 455 0 1 2),.ns] 100),
 (658,.cells [(.i .i64 1),(.i .i64 1),(.i .i64 2),(.i .i64 2),(.i .i64 3),(.i .i64 3)] 102),
 (668,.cells [(.i .i64 1),(.i .i64 1),(.i .i64 2),(.i .i64 2),(.i .i64 3),(.i .i64 4)] 102)]
noncomputable def iLN:Nat:=682
noncomputable def vL:AV:=(.tup [(.so 1581 0 5 1),(.i .i64 0)])
noncomputable def oLK:List Nat:=[86,91,133,150,152,153,154,155,156,157,158,321,353,392,412,455,527,658,668,1561,1563,1569,1571,1577,1579,1581]
noncomputable def oLL:List (Nat×AO):=[(86,.cells [(.s ⟨#[65]⟩),(.s ⟨#[66]⟩)] 9),
 (91,.cells [(.s ⟨#[115]⟩)] 9),
 (133,.cells [(.i .i64 1),(.i .i64 3)] 3),
 (150,.cells [(.i .i64 2)] 3),
 (152,.cells [(.i .i64 3),(.so 133 0 2 1),(.i .i64 3),(.so 150 0 1 1)] 64),
 (153,.cells [(.so 86 0 2 1),(.so 91 0 1 1),(.so 152 0 2 2),(.i .i64 3)] 25),
 (154,.cells [(.so 86 0 2 1),(.so 91 0 1 1),(.so 152 0 2 2),(.i .i64 3)] 25),
 (155,.cells [(.so 86 0 2 1),(.so 91 0 1 1),(.so 152 0 2 2),(.i .i64 3)] 25),
 (156,.cells [.ns,(.i .i64 0),(.i .i64 0),.ns,.ns] 126),
 (157,.cells [(.so 86 0 2 1),(.so 91 0 1 1),(.so 152 0 2 2),(.i .i64 3)] 25),
 (158,.cells [(.i .i64 0),.ns,.ns] 86),
 (321,.cells [(.i .i64 2),(.i .i64 0)] 250),
 (353,.cells [(.i .i64 2),(.i .i64 1)] 250),
 (392,.cells [(.i .i64 0),(.i .i64 1)] 250),
 (412,.cells [(.i .i64 1),(.i .i64 1)] 250),
 (455,.cells [(.i .i64 0),(.i .i64 2)] 250),
 (527,.cells [(.sl 321 0 1 1),(.so 658 0 3 2),(.so 392 0 1 2),(.so 668 0 3 2),(.so 412 0 1 2),.ns,(.so 353 0 1 2),.ns,(.so 455 0 1 2),.ns] 100),
 (658,.cells [(.i .i64 1),(.i .i64 1),(.i .i64 2),(.i .i64 2),(.i .i64 3),(.i .i64 3)] 102),
 (668,.cells [(.i .i64 1),(.i .i64 1),(.i .i64 2),(.i .i64 2),(.i .i64 3),(.i .i64 4)] 102),
 (1561,.cells [(.i .i64 0)] 3),
 (1563,.cells [(.i .i64 1),(.so 1561 0 1 1)] 280),
 (1569,.cells [(.i .i64 0)] 3),
 (1571,.cells [(.i .i64 2),(.so 1569 0 1 1)] 280),
 (1577,.cells [(.i .i64 0)] 3),
 (1579,.cells [(.i .i64 0),(.so 1577 0 1 1)] 280),
 (1581,.cells [.ns,.ns,(.so 1563 0 1 2),(.so 1571 0 1 2),(.so 1579 0 1 2)] 213)]
noncomputable def oLN:Nat:=1582
noncomputable def sB:H:=⟨mkT iBL,iBN,[],none⟩
noncomputable def sB2:H:=⟨mkT iB2L,iB2N,[],none⟩
noncomputable def sL:H:=⟨mkT iLL,iLN,[],none⟩
noncomputable def gB:List AV→H→Option (AV×H):=litG aB sB (vB,⟨mkT oBL,oBN,[],none⟩)
noncomputable def gB2:List AV→H→Option (AV×H):=litG aB2 sB2 (vB2,⟨mkT oB2L,oB2N,[],none⟩)
noncomputable def gL:List AV→H→Option (AV×H):=litG aL sL (vL,⟨mkT oLL,oLN,[],none⟩)
noncomputable def cfgB2:Cfg:=addHook cfg 45 gB2
noncomputable def cfgM:Cfg:=addHook (addHook cfg 45 gB) 98 gL
noncomputable def cfgF:Cfg:=
 addHook (addHook (addHook (addHook cfg 19 (litG [text] h00 rP)) 20 (litG [.agg gC] hM0 rM)) 21 (litG [vTabs,.sl hMN 0 3 3] hT0 rT)) 22 (litG [.agg gC] rT.2 rS)
end Go.Proofs.YtpidmmfjcghmeaaGreat.Ab
namespace Go.Proofs.YtpidmmfjcghmeaaGreat.Ab
theorem DZ:chk (callA Tryz.prog cfg 25 (.fn 21) [vTabs,.sl hMN 0 3 3] hT0) vT hTK (mkT hTL) hTN=true:=by kernel_rfl
theorem DF:chk (callA Tryz.prog cfg 25 (.fn 22) [.agg gC] rT.2) vS [] .nil hSN=true:=by kernel_rfl
end Go.Proofs.YtpidmmfjcghmeaaGreat.Ab
namespace Go.Proofs.YtpidmmfjcghmeaaGreat.Ab
theorem wJ:chk (callA Tryz.prog cfg 25 (.fn 45) aB sB) vB oBK (mkT oBL) oBN=true:=by kernel_rfl
theorem sW:chk (callA Tryz.prog cfg 25 (.fn 45) aB2 sB2) vB2 oB2K (mkT oB2L) oB2N=true:=by kernel_rfl
end Go.Proofs.YtpidmmfjcghmeaaGreat.Ab
namespace Go.Proofs.YtpidmmfjcghmeaaGreat.Ab
theorem CH:chk (callA Tryz.prog cfgM 25 (.fn 20) [.agg gC] hM0) vM hMK (mkT hML) hMN=true:=by kernel_rfl
end Go.Proofs.YtpidmmfjcghmeaaGreat.Ab
namespace Go.Proofs.YtpidmmfjcghmeaaGreat.Ab
theorem xP:chk (callA Tryz.prog cfg 25 (.fn 19) [text] h00) vP hPK (mkT hPL) hPN=true:=by kernel_rfl
end Go.Proofs.YtpidmmfjcghmeaaGreat.Ab
namespace Go.Proofs.YtpidmmfjcghmeaaGreat.Ab
theorem CG:chk (callA Tryz.prog cfgB2 25 (.fn 98) aL sL) vL oLK (mkT oLL) oLN=true:=by kernel_rfl
end Go.Proofs.YtpidmmfjcghmeaaGreat.Ab
namespace Go.Proofs.YtpidmmfjcghmeaaGreat.Ab
open Go.RowKit
variable {W:World}
noncomputable def isTrue (r:Option (AV×H)):Bool:=match r with | some (.b true,_)=>true | _=>false
theorem xG:isTrue (callA Tryz.prog cfgF 25 (.fn 5) [] h00)=true:=by kernel_rfl
theorem AA:CfgOK Tryz.prog W cfgB2:=cO fI (iI fI sW)
theorem EH:CfgOK Tryz.prog W cfgM:=cO (cO fI (iI fI wJ)) (iI AA CG)
theorem EG:CfgOK Tryz.prog W cfgF:=
 cO (cO (cO (cO fI (iI fI xP)) (iI EH CH)) (iI fI DZ)) (iI fI DF)
theorem DM (w:World):HR w (fun _=>none) h00 w:=
 ⟨(fun i o hi=>by
  have:(T.nil:T AO).get i=some o:=hi;rw [T.get_nil] at this;cases this),(fun i j b k k' h1 h2 h3=>by cases h3),(fun _ _=>rfl),(fun i hi=>by cases hi),(fun i hi=>by cases hi),(fun i hi=>by cases hi),List.nodup_nil,gR _ w⟩
theorem lives_all (w:World):Calls Tryz.prog 5 #[] w fun e w'=>e=.returned (.bool true)∧Below w.heap.size w w':=by
 have h:=xG;unfold isTrue at h
 split at h
 ·rename_i hh hx;obtain ⟨_,h2⟩:=(o8 (W:=w) EG 25).fn _ _ _ _ hx (fun _=>none) w [] (DM w) .nil;refine h2.mono ?_;rintro e w' ⟨v,rfl,σ',_,h4,h5⟩;exact ⟨by rw [fP h4],h5.bel⟩
 ·cases h
end Go.Proofs.YtpidmmfjcghmeaaGreat.Ab
