/- Towards unparseHeres_card. -/
import Derived.Test.YtjpopekmbmcggaaGreatDoorUh05
import Derived.Test.YtjpopekmbmcggaaGreatDoorUh03
import Derived.Test.YtjpopekmbmcggaaGreatDoorUh02
set_option maxRecDepth 100000
set_option maxHeartbeats 16000000
namespace Go.Proofs.YtjpopekmbmcggaaGreatDoor
open Go.RowKit
namespace Hr
theorem oW (r:Nat) (h:128≤r) (h2:r<2048):∃ x y:UInt8,Utf8.encode (r:Int)=⟨#[x,y]⟩∧128≤y.toNat:=by
 refine ⟨UInt8.ofNat (0xC0+r / 64),UInt8.ofNat (0x80+r % 64), ?_, ?_⟩
 ·have hv:Utf8.valid (r:Int)=true:=by simp [Utf8.valid];omega
  simp only [Utf8.encode,hv,if_true,Int.toNat_natCast];rw [if_neg (by omega),if_pos (by omega)]
 ·simp;omega
theorem mM (r:Nat) (h:2048≤r):∃ x y z:UInt8,Utf8.encode (r:Int)=⟨#[x,y,z]⟩∨∃ u:UInt8,Utf8.encode (r:Int)=⟨#[x,y,z,u]⟩:=by
 unfold Utf8.encode;have hc:2048≤(if Utf8.valid (r:Int) then (r:Int).toNat else Utf8.runeError):=by
  split
  ·simpa using h
  ·decide
 generalize (if Utf8.valid (r:Int) then (r:Int).toNat else Utf8.runeError)=c at hc;simp only;rw [if_neg (by omega),if_neg (by omega)]
 split
 ·exact ⟨_,_,_,.inl rfl⟩
 ·exact ⟨_,_,_,.inr ⟨_,rfl⟩⟩
def bZN:ByteArray:=⟨#[0,10]⟩
theorem fQ (w:World):Calls Tryz.prog 223 #[.string bZN,.int .i32 65533] w fun e w'=>e=.returned (.int .i64 (-1))∧Below w.heap.size w w':=by
 have hn0:∀ ty,(Instr.next (.pointer (some ⟨w.heap.size,0,none⟩)) true ty).run Tryz.prog (w.iter bZN 0)=.ok (.tuple #[.bool true,.int .i64 0,.int .i32 0]) (w.iter bZN 1):=fun ty=>run_next_ascii w bZN 0 ty (by decide) (by decide);have hn1:∀ ty,(Instr.next (.pointer (some ⟨w.heap.size,0,none⟩)) true ty).run Tryz.prog (w.iter bZN 1)=.ok (.tuple #[.bool true,.int .i64 1,.int .i32 10]) (w.iter bZN 2):=fun ty=>run_next_ascii w bZN 1 ty (by decide) (by decide);have hn2:∀ ty,(Instr.next (.pointer (some ⟨w.heap.size,0,none⟩)) true ty).run Tryz.prog (w.iter bZN 2)=.ok (.tuple #[.bool false]) (w.iter bZN 2):=fun ty=>run_next_end w bZN 2 ty (by decide);go_enter Tryz.func223,Tryz.ntmps223;go_wp2
 go_loopw [5,6] (fun _ _ wr=>∃ k:Nat,k≤2∧wr=w.iter bZN k) (fun _ _ wr=>2-wr.iterPos w.heap.size)
 case atStart=>exact ⟨0,by omega,rfl⟩
 case round=>
  obtain ⟨k,hk,rfl⟩:=hrel;have hk3:k=0∨k=1∨k=2:=by omega
  rcases hk3 with rfl | rfl | rfl
  ·go_wp2
   go_roundw
   case rel=>exact ⟨1,by omega,rfl⟩
   case measure=>simp only [World.iterPos_iter];omega
  ·go_wp2
   go_roundw
   case rel=>exact ⟨2,by omega,rfl⟩
   case measure=>simp only [World.iterPos_iter];omega
  ·go_wp2;go_ret;exact ⟨rfl,(Below.refl _ _).alloc (Nat.le_refl _) _⟩
theorem mQ (c:Int) (w:World):Calls Tryz.prog 216 #[.string ByteArray.empty,.int .u8 c] w fun e w'=>e=.returned (.int .i64 (-1))∧w'=w:=Tryz.strings_IndexByte _ _ _
theorem fN (r:Nat) (w:World) (h:128≤r) (h31:r≤2147483647):Calls Tryz.prog 223 #[.string bZN,.int .i32 r] w fun e w'=>e=.returned (.int .i64 (-1))∧Below w.heap.size w w':=by
 have hz:¬((r:Int)<128):=by omega
 have hz':decide ((r:Int)<128)=false:=decide_eq_false hz;by_cases he:r=65533
 ·subst he;exact fQ w
 ·have hne:((r:Int)==65533)=false:=beq_eq_false_iff_ne.2 (by omega);cases hv:Lib.validRune (r:Int)
  ·have HV:=Ha hv;clear hv;go_enter Tryz.func223,Tryz.ntmps223;go_wp2_with fail;refine (Tryz.utf8_ValidRune _ _).mono ?_;rintro e w1 ⟨rfl,rfl⟩;rw [HV.out];go_wp2;go_ret;exact ⟨rfl,Below.refl _ _⟩
  ·have HV:=Ha hv;clear hv;by_cases h2:r<2048
   ·obtain ⟨x, y, hxy, hy⟩ := oW r h h2; have hy10 : (((bZN[1]'(by decide)).toNat : Int) != (((⟨#[x, y]⟩ : ByteArray)[1]'(show 1 < 2 by decide)).toNat : Int)) = true := by
     rw [bne_iff_ne];show (10:Int)≠(y.toNat:Int);omega
    have hw2:IntKind.i64.wrap 2=2:=rfl;have hbz:bZN.size=2:=rfl;have hbe:bZN.extract 2 2=⟨#[]⟩:=rfl;go_enter Tryz.func223,Tryz.ntmps223;go_wp2_with fail;refine (Tryz.utf8_ValidRune _ _).mono ?_;rintro e w1 ⟨rfl,rfl⟩;rw [HV.out];go_wp2
    go_step3
    go_wp2;clear hz hz' hne h31 hxy h h2 he HV
    go_loop [9] (fun i=>i=.int .i64 1) (fun _=>0)
    case atStart=>rfl
    case round=>
     subst hrel;go_wp2
     go_step3
     go_wp2
     go_quiet (fail)
     go_wp2;have hbb:=belowN (Below.refl w1.heap.size w1) nq;have HBB:=Ha hbb;clear hbb;revert HBB;generalize w1.drewN nq=W2;intro HBB
     go_quiet ((go_at_call 216;exact Calls.quiet_of_same (mQ _ _)))
     go_wp2;rw [Exit.noGoto_ret];go_wp2;rw [Exit.noGoto_ret];go_wp2;go_ret;exact ⟨rfl,belowN HBB.out _⟩
   ·obtain ⟨x,y,z,hxy⟩:=mM r (by omega);rcases hxy with hxy | ⟨u,hxy⟩
    ·go_enter Tryz.func223,Tryz.ntmps223;go_wp2_with fail;refine (Tryz.utf8_ValidRune _ _).mono ?_;rintro e w1 ⟨rfl,rfl⟩;rw [HV.out];go_wp2
     go_step3
     go_wp2;clear hz hz' hne h31 hxy h h2 he HV
     go_loop [9] (fun i=>i=.int .i64 2) (fun _=>0)
     case atStart=>rfl
     case round=>
      subst hrel;go_wp2;go_ret;exact ⟨rfl,Below.refl _ _⟩
    ·go_enter Tryz.func223,Tryz.ntmps223;go_wp2_with fail;refine (Tryz.utf8_ValidRune _ _).mono ?_;rintro e w1 ⟨rfl,rfl⟩;rw [HV.out];go_wp2
     go_step3
     go_wp2;clear hz hz' hne h31 hxy h h2 he HV
     go_loop [9] (fun i=>i=.int .i64 3) (fun _=>0)
     case atStart=>rfl
     case round=>
      subst hrel;go_wp2;go_ret;exact ⟨rfl,Below.refl _ _⟩
theorem gM (r:Nat) (w:World) (h31:r≤2147483647):Calls Tryz.prog 223 #[.string bZN,.int .i32 r] w fun e w'=>(∃ m:Int,e=.returned (.int .i64 m)∧decide (0≤m)=(r==0||r==10))∧Below w.heap.size w w':=by
 by_cases h:128≤r
 ·refine (fN r w h h31).mono ?_;rintro e w' ⟨rfl,hb⟩;refine ⟨⟨-1,rfl, ?_⟩,hb⟩;have h1:(r==0||r==10)=false:=by simp;omega
  rw [h1];rfl
 ·refine (Tryz.strings_IndexRune_ascii bZN r w (by omega) (by omega)).mono ?_;rintro e w' ⟨rfl,rfl⟩;refine ⟨⟨_,rfl, ?_⟩,Below.refl _ _⟩;rw [← Lib.contains_iff_indexByte,show bZN.data.toList=[0,10] from rfl];have:r<128:=by omega
  revert this
  clear h h31
  revert r
  decide
theorem gW (s : ByteArray) (p : Nat) (h : p < s.size) (ha : 128 ≤ (s[p]'h).toNat) : p + (Utf8.decode s p).2 ≤ s.size ∧ ∀ j, j < (Utf8.decode s p).2 → ∀ hj : p + j < s.size, 128 ≤ (s[p + j]'hj).toNat := by
 have g : ∀ k (hk : p + k < s.size), s.get! (p + k) = s[p + k]'hk := fun k hk => by simp [ByteArray.get!, getElem!_pos, hk]; rfl
 have one : p + 1 ≤ s.size ∧ ∀ j, j < 1 → ∀ hj : p + j < s.size, 128 ≤ (s[p + j]'hj).toNat := ⟨by omega, fun j hj hj' => by
  obtain rfl:j=0:=by omega
  exact ha⟩
 have hn:¬(s.get! (p+0)).toNat<128:=by rw [get_at s p h];omega
 unfold Utf8.decode;simp only [hn,if_false]
 split
 ·rename_i h1;simp only [Bool.and_eq_true,beq_iff_eq,decide_eq_true_eq] at h1
  split
  ·refine ⟨by simp;omega,fun j hj hj'=>?_⟩;simp at hj;have hj2:j=0∨j=1:=by omega
   rcases hj2 with rfl | rfl
   ·exact ha
   ·have:=h1.2.2;rw [g 1 hj'] at this;omega
  ·exact one
 ·split
  ·rename_i h1;simp only [Bool.and_eq_true,beq_iff_eq,decide_eq_true_eq] at h1
   split
   ·refine ⟨by simp;omega,fun j hj hj'=>?_⟩;simp at hj;have hj2:j=0∨j=1∨j=2:=by omega
    rcases hj2 with rfl | rfl | rfl
    ·exact ha
    ·have:=h1.1.2.2;rw [g 1 hj'] at this;omega
    ·have:=h1.2.2;rw [g 2 hj'] at this;omega
   ·exact one
  ·split
   ·rename_i h1;simp only [Bool.and_eq_true,beq_iff_eq,decide_eq_true_eq] at h1
    split
    ·refine ⟨by simp;omega,fun j hj hj'=>?_⟩;simp at hj;have hj2:j=0∨j=1∨j=2∨j=3:=by omega
     rcases hj2 with rfl | rfl | rfl | rfl
     ·exact ha
     ·have:=h1.1.1.2.2;rw [g 1 hj'] at this;omega
     ·have:=h1.1.2.2;rw [g 2 hj'] at this;omega
     ·have:=h1.2.2;rw [g 3 hj'] at this;omega
    ·exact one
   ·exact one
def eP (l:List UInt8) (k:Nat):Prop:=iI (l.take k)=false
theorem iT (s : ByteArray) (p n : Nat) (hp : p + n ≤ s.size) (h : eP s.toList p) (hb : ∀ j, j < n → ∀ hj : p + j < s.size, (s[p + j]'hj == 0 || s[p + j]'hj == 10) = false) : eP s.toList (p + n) := by
 unfold eP iI at *;rw [List.take_add,List.any_append,h,Bool.false_or,List.any_eq_false];intro x hx;obtain ⟨j,hj,rfl⟩:=List.getElem_of_mem hx;have hlen:s.toList.length=s.size:=(aL s).symm;simp only [List.length_take,List.length_drop] at hj;have:=hb j (by omega) (by omega);rw [List.getElem_take,List.getElem_drop,eH s (p+j) (by omega),this];simp
theorem jL (s:ByteArray) (p:Nat) (hp:s.size≤p) (h:eP s.toList p):iI s.toList=false:=by
 unfold eP at h
 rwa [List.take_of_length_le (by rw [← aL];omega)] at h
theorem pU (s : ByteArray) (p : Nat) (h : p < s.size) (hb : (s[p]'h == 0 || s[p]'h == 10) = true) : iI s.toList = true := by
 unfold iI; rw [List.any_eq_true]; exact ⟨s[p]'h, List.mem_of_getElem? (get?_list s p h), hb⟩
theorem fM (s:ByteArray) (w:World) (h8:s.size≤8):
  Calls Tryz.prog 190 #[.string s,.string bZN] w fun e w'=>(∃ n:Int,e=.returned (.int .i64 n)∧decide (0≤n)=iI s.toList)∧Below w.heap.size w w':=by
 have h8z:decide ((8:Int)<(s.size:Int))=false:=decide_eq_false (by omega);have H8:=Ha h8z;clear h8z;have hbz:bZN.size=2:=rfl;have hbl:bZN.toList.isEmpty=false:=by rw [show bZN.toList=[0,10] from aI [0,10]];rfl
 go_enter Tryz.func190,Tryz.ntmps190;go_wp2_with fail;refine (Tryz.strings_shouldUseASCIISet _ _).mono ?_;rintro e w1 ⟨rfl,rfl⟩;rw [H8.out];go_wp2
 go_loopw [9,10] (fun _ _ wr=>∃ k:Nat,k≤s.size∧(Below w1.heap.size w1 wr∧wr.heap[w1.heap.size]? = some (.stringIter s k))∧eP s.toList k) (fun _ _ wr=>s.size-wr.iterPos w1.heap.size)
 case atStart=>exact ⟨0,by omega,⟨(Below.refl _ _).alloc (Nat.le_refl _) _,World.iter_heap _ _ _⟩,rfl⟩
 case round=>
  obtain ⟨k,hk,⟨hbel,hit⟩,hno⟩:=hrel;obtain ⟨HNO,HBEL,HIT⟩:=hs3 hno hbel hit;clear hno hbel hit;by_cases hlt:k<s.size
  ·obtain ⟨r, n, hr31, hn1, hkn, hyes, hnob, hnx⟩ : ∃ r n : Nat, r ≤ 2147483647 ∧ 1 ≤ n ∧ k + n ≤ s.size ∧ ((r == 0 || r == 10) = true → (s[k] == 0 || s[k] == 10) = true) ∧ ((r == 0 || r == 10) = false → ∀ j, j < n → ∀ hj : k + j < s.size, (s[k + j]'hj == 0 || s[k + j]'hj == 10) = false) ∧
     ∀ ty,(Instr.next (.pointer (some ⟨w1.heap.size,0,none⟩)) true ty).run Tryz.prog wr=.ok (.tuple #[.bool true,.int .i64 k,.int .i32 r]) (wr.iterAt w1.heap.size s (k+n)):=by
    refine ⟨(Utf8.decode s k).1,(Utf8.decode s k).2,decode_le s k, ?_⟩;by_cases ha:(s[k]).toNat<128
    ·have hd:=decode_ascii s k hlt ha;refine ⟨by rw [hd];exact Nat.le_refl _,by rw [hd];exact hlt,fun h=>?_,fun h j hj hj'=>?_,fun ty=>Lib.run_next_any_at wr _ s k ty HIT.out hlt⟩
     ·rw [hd] at h;simp only [Bool.or_eq_true,beq_iff_eq] at h ⊢;rcases h with h | h
      ·exact .inl (UInt8.toNat_inj.1 h)
      ·exact .inr (UInt8.toNat_inj.1 h)
     ·rw [hd] at h hj;obtain rfl:j=0:=by simpa using hj
      simp only [Bool.or_eq_false_iff,gJ] at h ⊢;exact ⟨fun e=>h.1 (by show (s[k]).toNat=0;have:s[k]=0:=e;rw [this];rfl),fun e=>h.2 (by show (s[k]).toNat=10;have:s[k]=10:=e;rw [this];rfl)⟩
    ·have hd:=decode_high s k hlt (by omega);have hb:=gW s k hlt (by omega);refine ⟨hd.2,hb.1,fun h=>?_,fun _ j hj hj'=>?_,fun ty=>Lib.run_next_any_at wr _ s k ty HIT.out hlt⟩
     ·simp only [Bool.or_eq_true,beq_iff_eq] at h;omega
     ·have:=hb.2 j hj hj';simp only [Bool.or_eq_false_iff,gJ];exact ⟨fun e=>by rw [e] at this;exact absurd this (by decide),fun e=>by rw [e] at this;exact absurd this (by decide)⟩
   have hit2:=Lib.iterAt_heap wr w1.heap.size s k (k+n) HIT.out;have hbel2:Below w1.heap.size w1 (wr.iterAt w1.heap.size s (k+n)):=HBEL.out.trans ⟨rfl,rfl,rfl,by simp [World.iterAt],fun i hi=>by simp only [World.iterAt];exact Array.getElem?_setIfInBounds_ne (by omega)⟩;obtain ⟨HI2,HB2,HY,HNB⟩:=hs4 hit2 hbel2 hyes hnob;clear hit2 hbel2 hyes hnob;have hir:=fun X=>gM r X hr31;have HIR:=Ha hir;clear hir hr31;cases hhit:(r==0||r==10)
   ·have HH:=Ha hhit;clear hhit;go_wp2_with fail;refine (HIR.out _).mono ?_;rintro e w3 ⟨⟨m,rfl,hm⟩,hb3⟩;rw [HH.out] at hm;have hm':¬(0≤m):=of_decide_eq_false hm;have hblk:w3.heap[w1.heap.size]? = some (.stringIter s (k+n)):=(hb3.block _ (Array.getElem?_eq_some_iff.1 HI2.out).1).trans HI2.out;have HBK:=Ha hblk;have HB3:=Ha (HB2.out.trans (hb3.mono HB2.out.size));clear hblk hb3;clear hnx hm;go_wp2
    go_roundw
    case rel=>exact ⟨k+n,hkn,⟨HB3.out,HBK.out⟩,iT s k n hkn HNO.out (HNB.out HH.out)⟩
    case measure=>
     simp only [World.iterPos,HBK.out,HIT.out];omega
   ·have HH:=Ha hhit;clear hhit;go_wp2_with fail;refine (HIR.out _).mono ?_;rintro e w3 ⟨⟨m,rfl,hm⟩,hb3⟩;rw [HH.out] at hm;have hm':0≤m:=of_decide_eq_true hm;have HB3:=Ha (HB2.out.trans (hb3.mono HB2.out.size));clear hb3;clear hnx hm;go_wp2;go_ret;exact ⟨⟨k,rfl,by rw [pU s k hlt (HY.out HH.out)];exact decide_eq_true (by omega)⟩,HB3.out⟩
  ·have hnx:∀ ty,(Instr.next (.pointer (some ⟨w1.heap.size,0,none⟩)) true ty).run Tryz.prog wr=_:=fun ty=>Lib.run_next_end_at wr _ s k ty HIT.out hlt;go_wp2;go_ret;exact ⟨⟨-1,rfl,by rw [jL s k (by omega) HNO.out];rfl⟩,HBEL.out⟩
theorem rU:∀ l:List UInt8,Lib.containsAny l [0,10]=iI l:=by
 have key:∀ l:List UInt8,(0≤Lib.indexAny l [0,10])↔iI l=true:=by
  intro l
  induction l with
  | nil=>simp [Lib.indexAny,iI]
  | cons b l ih=>
   have hge:=Lib.indexAny_ge [0,10] l;unfold Lib.indexAny;have hc:[(0:UInt8),10].contains b=(b==0||b==10):=by simp;rfl
   rw [hc];simp only [iI,List.any_cons];cases hb:(b==0||b==10)
   ·simp only [Bool.false_or,Bool.false_eq_true,if_false];rw [← iI,← ih];by_cases h:Lib.indexAny l [0,10]=-1
    ·simp [h]
    ·simp [h];omega
   ·simp
 intro l;unfold Lib.containsAny;rw [Bool.eq_iff_iff,decide_eq_true_iff];exact key l
theorem pE:(Tryz.prog.info? 176).map (fun i=>(i.zero,i.size))=some (some (.agg (Array.replicate 256 (.bool false))),256):=by kernel_rfl
theorem gY (s:ByteArray) (w:World) (hs:s.size<4294967281):
  Calls Tryz.prog 190 #[.string s,.string bZN] w fun e w'=>(∃ n:Int,e=.returned (.int .i64 n)∧decide (0≤n)=iI s.toList)∧Below w.heap.size w w':=by
 by_cases h8:s.size≤8
 ·exact fM s w h8
 ·refine (Tryz.strings_IndexAny_long (zero_of_info pE).1 s bZN w (by decide) (by omega) hs (by decide) (fun j b hb=>?_)).mono ?_
  ·match j,hb with
   | 0,hb=>simp [bZN] at hb;subst hb;decide
   | 1,hb=>simp [bZN] at hb;subst hb;decide
   | j+2,hb=>simp [bZN] at hb
  ·rintro e w' ⟨rfl,rfl⟩;refine ⟨⟨_,rfl, ?_⟩,((Below.refl _ _).alloc (Nat.le_refl _) _).alloc (by simp) _⟩;rw [show bZN.data.toList=[0,10] from rfl,← Lib.toList_data];exact rU s.toList
theorem containsAny_two (s:ByteArray) (w:World) (hs:s.size<4294967281):
  Calls Tryz.prog 155 #[.string s,.string ⟨#[0,10]⟩] w fun e w'=>e=.returned (.bool (iI s.toList))∧Below w.heap.size w w':=by
 go_enter Tryz.func155,Tryz.ntmps155;go_wp2_with fail;refine (gY s _ hs).mono ?_;rintro e w' ⟨⟨n,rfl,hn⟩,hb⟩;have HN:=Ha hn;have HB:=Ha hb;clear hn hb;go_wp2;go_ret;exact ⟨by rw [← HN.out];rfl,HB.out⟩
end Hr
open Hr
theorem yN {l:List UInt8} (h:(10:UInt8) ∉ l):Lib.indexByte l 10=-1:=by
 induction l with
 | nil=>rfl
 | cons b l ih=>
  simp only [List.mem_cons,not_or] at h;have hb:(b==10)=false:=beq_eq_false_iff_ne.2 (fun e=>h.1 e.symm);simp [Lib.indexByte,hb,ih h.2]
theorem yO {a b:List UInt8} (h:(10:UInt8) ∉ a):Lib.indexByte (a++10::b) 10=a.length:=by
 induction a with
 | nil=>simp [Lib.indexByte]
 | cons c a ih=>
  simp only [List.mem_cons,not_or] at h;have hb:(c==10)=false:=beq_eq_false_iff_ne.2 (fun e=>h.1 e.symm);simp only [List.cons_append,Lib.indexByte,hb,ih h.2];have:¬((a.length:Int)==-1)=true:=by simp
  simp only [this];simp
theorem xZ (s:ByteArray) (w:World) (h:(10:UInt8) ∉ s.toList):
  Calls Tryz.prog 157 #[.string s,.string ⟨#[10]⟩] w fun e w'=>e=.returned (.tuple #[.string s,.string ⟨#[]⟩,.bool false])∧w=w':=by
 have hi:=yN h;rw [Lib.toList_data] at hi;have HI:=Ha hi;clear hi h;go_enter Tryz.func157,Tryz.ntmps157;go_wp2_with fail;refine (Tryz.stringslite_Index_one s 10 _).mono ?_;rintro e w' ⟨rfl,rfl⟩;rw [HI.out];go_wp2
 go_ret3
 exact ⟨rfl,rfl⟩
theorem vG (s:ByteArray) (a b:List UInt8) (hs:s.toList=a++10::b) (w:World) (h:(10:UInt8) ∉ a) (hm:s.size≤1099511627776):
  Calls Tryz.prog 157 #[.string s,.string ⟨#[10]⟩] w fun e w'=>e=.returned (.tuple #[bs a,bs b,.bool true])∧∃ n,w'=w.drewN n:=by
 have hi:=yO (b:=b) h;rw [← hs,Lib.toList_data] at hi;have hsz:s.size=a.length+1+b.length:=by rw [aL,hs];simp;omega
 have hle:(a.length:Int)≤(s.size:Int):=by omega
 have hle2:(a.length:Int)+1≤(s.size:Int):=by omega
 have hw1:IntKind.i64.wrap ((a.length:Int)+1)=(a.length:Int)+1:=IntWalk.i64_in _ (by omega);have hfa:s.extract 0 a.length=⟨a.toArray⟩:=aX (by rw [gS,hs,aI];simp);have hfb:s.extract (a.length+1) s.size=⟨b.toArray⟩:=aX (by rw [kT,hs,aI];simp);obtain ⟨HI,HA,HB⟩:=hs3 hi hfa hfb;clear hi h hfa hfb hs;go_enter Tryz.func157,Tryz.ntmps157;go_wp2_with fail;refine (Tryz.stringslite_Index_one s 10 _).mono ?_;rintro e w' ⟨rfl,rfl⟩;rw [HI.out];clear hsz;go_wp2
 go_quiet (fail)
 go_wp2
 go_ret3
 exact ⟨by rw [HA.out,HB.out];rfl,nq,rfl⟩
theorem CW (s:ByteArray) (w:World) (h:(10:UInt8) ∉ s.toList):
  Calls Tryz.prog 120 #[.string s,.string ⟨#[10]⟩] w fun e w'=>e=.returned (.tuple #[.string s,.string ⟨#[]⟩,.bool false])∧w=w':=by
 have H:=Ha h;clear h;go_enter Tryz.func120,Tryz.ntmps120;go_wp2_with fail;refine (xZ s _ H.out).mono ?_;rintro e w' ⟨rfl,rfl⟩;go_wp2
 go_ret3
 exact ⟨rfl,rfl⟩
theorem BE (s:ByteArray) (a b:List UInt8) (hs:s.toList=a++10::b) (w:World) (h:(10:UInt8) ∉ a) (hm:s.size≤1099511627776):
  Calls Tryz.prog 120 #[.string s,.string ⟨#[10]⟩] w fun e w'=>e=.returned (.tuple #[bs a,bs b,.bool true])∧∃ n,w'=w.drewN n:=by
 have H:=Ha h;have HS:=Ha hs;clear h hs;go_enter Tryz.func120,Tryz.ntmps120;go_wp2_with fail;refine (vG s a b HS.out _ H.out hm).mono ?_;rintro e w' ⟨rfl,n,rfl⟩;go_wp2
 go_ret3
 exact ⟨rfl,n,rfl⟩
theorem tD (l:List UInt8):Lib.hasPrefix l [9]=(l.head? == some 9):=by
 cases l with
 | nil=>rfl
 | cons b l=>
  show (9==b&&List.isPrefixOf [] l)=_;by_cases h:b=9
  ·subst h;rfl
  ·have h1:((9:UInt8)==b)=false:=beq_eq_false_iff_ne.2 (fun e=>h e.symm);have h2:((b::l).head? == some 9)=false:=beq_eq_false_iff_ne.2 (by simpa using h);rw [h1,h2];rfl
theorem wM (e:ByteArray) (t:Bool) (w:World) (has:e.size<4294967281):
  Calls Tryz.prog 118 #[.agg #[.string e,.bool t]] w fun r w'=>r=.returned (.bool (cZ e.toList t))∧Below w.heap.size w w':=by
 have hca:=fun w=>Hr.containsAny_two e w has;have HCA:=Ha hca;clear hca has;cases hb:iI e.toList
 ·cases t
  ·have hfin:cZ e.toList false=true:=by simp [cZ,hb]
   have HF:=Ha hfin;have HB:=Ha hb;clear hfin hb;go_enter Tryz.func118,Tryz.ntmps118;go_wp2_with fail;refine (HCA.out _).mono ?_;rintro r w1 ⟨rfl,h1⟩;rw [HB.out];obtain ⟨hc,hf⟩:=CI h1;have HB1:=Ha h1;clear h1;go_wp2;go_ret;exact ⟨by rw [HF.out];rfl,((Below.refl _ _).alloc (Nat.le_refl _) _).trans (HB1.out.mono (by simp))⟩
  ·have hfin:cZ e.toList true = !(e.toList.head? == some 9):=by simp [cZ,hb]
   have HF:=Ha hfin;have HB:=Ha hb;clear hfin hb;go_enter Tryz.func118,Tryz.ntmps118;go_wp2_with fail;refine (HCA.out _).mono ?_;rintro r w1 ⟨rfl,h1⟩;rw [HB.out];obtain ⟨hc,hf⟩:=CI h1;have HB1:=Ha h1;clear h1;go_wp2_with fail;refine (Tryz.strings_HasPrefix e ⟨#[9]⟩ _).mono ?_;rintro r w2 ⟨rfl,rfl⟩;rw [← Lib.toList_data,show (⟨#[9]⟩:ByteArray).data.toList=[9] from rfl,tD];go_wp2;go_ret;exact ⟨by rw [HF.out];rfl,((Below.refl _ _).alloc (Nat.le_refl _) _).trans (HB1.out.mono (by simp))⟩
 ·have hfin:cZ e.toList t=false:=by simp [cZ,hb]
  have HF:=Ha hfin;have HB:=Ha hb;clear hfin hb;go_enter Tryz.func118,Tryz.ntmps118;go_wp2_with fail;refine (HCA.out _).mono ?_;rintro r w1 ⟨rfl,h1⟩;rw [HB.out];have HB1:=Ha h1;clear h1;go_wp2;go_ret;exact ⟨by rw [HF.out];rfl,((Below.refl _ _).alloc (Nat.le_refl _) _).trans (HB1.out.mono (by simp))⟩
end Go.Proofs.YtjpopekmbmcggaaGreatDoor
namespace Go.Proofs.YtjpopekmbmcggaaGreatDoor
open Go.RowKit
def tM:Value→Nat
 | .string s=>s.size
 | _=>0
theorem qO (s:ByteArray):decide (0≤Lib.indexByte s.data.toList 0)=s.toList.contains 0:=by
 rw [Lib.toList_data,Lib.contains_iff_indexByte]
theorem yB {l:List UInt8} (h:(10:UInt8)∈l):∃ a b,l=a++10::b∧(10:UInt8) ∉ a:=List.eq_append_cons_of_mem h
theorem tA {s:ByteArray} {a b:List UInt8} (hs:s.toList=a++10::b) (h:(0:UInt8) ∉ s.toList):(0:UInt8) ∉ a∧(0:UInt8) ∉ b:=by
 rw [hs] at h;simp at h;exact ⟨h.1,h.2⟩
theorem nY (w:World):∀ (n m:Nat),(w.drewN n).drewN m=w.drewN (n+m)
 | n,0=>rfl
 | n,m+1=>by show ((w.drewN n).drewN m).drew=(w.drewN (n+m)).drew;rw [nY w n m]
def CM (e:List UInt8) (t:Bool) (l0:List UInt8) (n:Nat) (v:Value):Prop:=∃ s:ByteArray,v=.string s∧s.size≤n∧(0:UInt8) ∉ s.toList∧bV e t [] s.toList=bV e t [] l0
theorem uI (e s:ByteArray) (t:Bool) (w:World) (hs:s.size≤1099511627776) (has:e.size<4294967281):
  Calls Tryz.prog 46 #[.agg #[.string e,.bool t],.string s] w fun r w'=>r=.returned (.bool (jB e.toList t s.toList))∧Below w.heap.size w w':=by
 have hra:=fun w=>wM e t w has;cases hr:cZ e.toList t
 ·have hfin:jB e.toList t s.toList=false:=by unfold jB;rw [hr];rfl
  rw [hr] at hra;have HRA:=Ha hra;have HF:=Ha hfin;clear hra has hfin hr;go_enter Tryz.func46,Tryz.ntmps46;go_wp2_with fail;refine (HRA.out _).mono ?_;rintro r w1 ⟨rfl,h1⟩;have HB1:=Ha h1;clear h1;go_wp2;go_ret;exact ⟨by rw [HF.out];rfl,((Below.refl _ _).alloc (Nat.le_refl _) _).trans (HB1.out.mono (by simp))⟩
 ·rw [hr] at hra;cases hz:s.toList.contains 0
  ·have hfin:jB e.toList t s.toList=bV e.toList t [] s.toList:=by unfold jB;rw [hr];rfl
   have hz0:(0:UInt8) ∉ s.toList:=by simpa using hz
   obtain ⟨HRA,HF,HZ,HZ0⟩:=hs4 hra hfin hz hz0;clear hra has hfin hr hz hz0;go_enter Tryz.func46,Tryz.ntmps46;go_wp2_with fail;refine (HRA.out _).mono ?_;rintro r w1 ⟨rfl,h1⟩;have hs1:=h1.size;have HB1:=Ha h1;clear h1;go_wp2_with fail;refine (Tryz.strings_Contains_one _ 0 _).mono ?_;rintro r w2 ⟨rfl,rfl⟩;rw [qO,HZ.out];go_wp2;have hc0:w2.cell? ⟨w.heap.size,0,none⟩=some (.string e):=by
    rw [HB1.out.cell (p:=⟨w.heap.size,0,none⟩) (by simp)];simp
   have hc1:w2.cell? ⟨w.heap.size,1,none⟩=some (.bool t):=by
    rw [HB1.out.cell (p:=⟨w.heap.size,1,none⟩) (by simp)];simp
   have hbw:Below w.heap.size w w2:=((Below.refl _ _).alloc (Nat.le_refl _) _).trans (HB1.out.mono (by simp));have HBW:=Ha hbw;clear hbw hs1 HB1
   go_loopw [1] (fun v wr=>CM e.toList t s.toList s.size v∧∃ n,wr=w2.drewN n) (fun v _=>tM v)
   case atStart=>exact ⟨⟨s,rfl,Nat.le_refl _,HZ0.out,rfl⟩,0,rfl⟩
   case round=>
    obtain ⟨⟨x,rfl,hxs,hx0,hxe⟩,n,rfl⟩:=hrel;have HX0:=Ha hx0;have HXE:=Ha hxe;clear hx0 hxe;have hc0':(w2.drewN n).cell? ⟨w.heap.size,0,none⟩=some (.string e):=by simpa using hc0
    have hc1':(w2.drewN n).cell? ⟨w.heap.size,1,none⟩=some (.bool t):=by simpa using hc1
    by_cases hemp:x.toList=[]
    ·have h1:(x.toList).isEmpty=true:=by rw [hemp];rfl
     have hres:bV e.toList t [] s.toList=true:=by rw [← HXE.out,hemp];rfl
     have HR:=Ha hres;clear hres hemp;go_wp2;go_ret;exact ⟨by rw [HF.out,HR.out];rfl,belowN HBW.out n⟩
    ·have h1:(x.toList).isEmpty=false:=by simpa using hemp
     by_cases hnl:(10:UInt8)∈x.toList
     ·obtain ⟨a,b,hab,hna⟩:=yB hnl;obtain ⟨hza,hzb⟩:=tA hab HX0.out;have hstep:=sS e.toList t a b hza hna;rw [← hab,HXE.out] at hstep;have hlen:x.size=a.length+1+b.length:=by rw [aL,hab];simp;omega
      obtain ⟨HAB,HNA,HZB,HST⟩:=hs4 hab hna hzb hstep;have HL:x.size=a.length+1+b.length:=hlen;have hle2:b.length<x.size:=by omega
      clear hnl hemp hab hna hza hzb hstep hlen HL;go_wp2_with fail;refine (BE x a b HAB.out _ HNA.out (by omega)).mono ?_;rintro r w3 ⟨rfl,m,rfl⟩;obtain ⟨k,hk⟩:∃ k,(w2.drewN n).drewN m=w2.drewN k:=⟨n+m,nY _ _ _⟩;rw [hk];simp only [bs];have hc0'':(w2.drewN k).cell? ⟨w.heap.size,0,none⟩=some (.string e):=by simpa using hc0
      have hc1'':(w2.drewN k).cell? ⟨w.heap.size,1,none⟩=some (.bool t):=by simpa using hc1
      clear hk hc0' hc1' h1;have hxb:(⟨b.toArray⟩:ByteArray).size=b.length:=by rw [aL,aI]
      have HXB:=Ha hxb;clear hxb;by_cases hae:a=e.toList
      ·have hbad:nJ e.toList t a=true:=by unfold nJ;simp [hae]
       have hres:bV e.toList t [] s.toList=false:=by rw [HST.out,hbad];rfl
       have hbe:(⟨a.toArray⟩:ByteArray)=e:=by rw [hae,cM]
       rw [hbe];have HR:=Ha hres;clear hres hbad hae hbe;go_wp2;go_ret;exact ⟨by rw [HF.out,HR.out];rfl,belowN HBW.out k⟩
      ·have hne2:(a==e.toList)=false:=beq_eq_false_iff_ne.2 hae;have hne3:((⟨a.toArray⟩:ByteArray).toList==e.toList)=false:=by rw [aI];exact hne2
       have hbad:nJ e.toList t a=(t&&(a.head? == some 9)):=by unfold nJ;rw [hne2];rfl
       rw [hbad] at HST;clear hbad hae;cases t
       ·have hres:bV e.toList false [] b=bV e.toList false [] s.toList:=by rw [HST.out];rfl
        have HR:=Ha hres;clear hres;go_wp2
        go_roundw
        case rel=>exact ⟨⟨⟨b.toArray⟩,rfl,by rw [HXB.out];omega,by rw [aI b];exact HZB.out,by rw [aI b];exact HR.out⟩,k,rfl⟩
        case measure=>simp only [tM];rw [HXB.out];omega
       ·cases h9:(a.head? == some 9)
        ·have hres:bV e.toList true [] b=bV e.toList true [] s.toList:=by rw [HST.out,h9];rfl
         have HR:=Ha hres;have H9:=Ha h9;clear hres h9;go_wp2_with fail;refine (Tryz.strings_HasPrefix _ ⟨#[9]⟩ _).mono ?_;rintro r w4 ⟨rfl,rfl⟩;rw [show (⟨#[9]⟩:ByteArray).data.toList=[9] from rfl,tD,show (⟨a.toArray⟩:ByteArray).data.toList=a from rfl,H9.out];go_wp2
         go_roundw
         case rel=>exact ⟨⟨⟨b.toArray⟩,rfl,by rw [HXB.out];omega,by rw [aI b];exact HZB.out,by rw [aI b];exact HR.out⟩,k,rfl⟩
         case measure=>simp only [tM];rw [HXB.out];omega
        ·have hres:bV e.toList true [] s.toList=false:=by rw [HST.out,h9];rfl
         have HR:=Ha hres;have H9:=Ha h9;clear hres h9;go_wp2_with fail;refine (Tryz.strings_HasPrefix _ ⟨#[9]⟩ _).mono ?_;rintro r w4 ⟨rfl,rfl⟩;rw [show (⟨#[9]⟩:ByteArray).data.toList=[9] from rfl,tD,show (⟨a.toArray⟩:ByteArray).data.toList=a from rfl,H9.out];go_wp2;go_ret;exact ⟨by rw [HF.out,HR.out];rfl,belowN HBW.out k⟩
     ·have hres:bV e.toList t [] s.toList=false:=by rw [← HXE.out,sU e.toList t _ HX0.out hnl,h1]
      have HR:=Ha hres;have HNL:=Ha hnl;clear hres hemp hnl;go_wp2_with fail;refine (CW x _ HNL.out).mono ?_;rintro r w3 ⟨rfl,rfl⟩;go_wp2;go_ret;exact ⟨by rw [HF.out,HR.out];rfl,belowN HBW.out n⟩
  ·have hfin:jB e.toList t s.toList=false:=by unfold jB;rw [hJ _ _ _ _ (by simpa using hz)];simp
   obtain ⟨HRA,HF,HZ⟩:=hs3 hra hfin hz;clear hra has hfin hr hz;go_enter Tryz.func46,Tryz.ntmps46;go_wp2_with fail;refine (HRA.out _).mono ?_;rintro r w1 ⟨rfl,h1⟩;have HB1:=Ha h1;clear h1;go_wp2_with fail;refine (Tryz.strings_Contains_one _ 0 _).mono ?_;rintro r w2 ⟨rfl,rfl⟩;rw [qO,HZ.out];go_wp2;go_ret;exact ⟨by rw [HF.out];rfl,((Below.refl _ _).alloc (Nat.le_refl _) _).trans (HB1.out.mono (by simp))⟩
def fR:Array Value:=(Ope.texts.map bs).toArray
def cW (w:World):Prop:=∃ t fr,w.heap[2]? = some (.cells fR t fr)
theorem cW.below {w w':World} (h:cW w) (hb:Below w.heap.size w w'):cW w':=by
 obtain ⟨t,fr,hg⟩:=h;exact ⟨t,fr,(hb.block 2 (Array.getElem?_eq_some_iff.1 hg).1).trans hg⟩
theorem vC (k:Nat) (h:k<18) {w:World} (ht:cW w):w.cell? ⟨2,k,none⟩=some (bs (Ope.txt k)):=by
 obtain ⟨t,fr,hg⟩:=ht;rw [cell_of_row w 2 k fR t fr hg];have:∀ k:Fin 18,fR[k.val]? = some (bs (Ope.txt k.val)):=fun k=>by
  unfold fR Ope.txt;have hl:k.val<Ope.texts.length:=by simp [Ope.texts]
  simp [List.getD,List.getElem?_eq_getElem hl]
 exact this ⟨k,h⟩
theorem B0 (op:Int) (w:World):Calls Tryz.prog 48 #[.int .i64 op] w fun e w'=>e=.returned (.bool (Ope.redir op))∧w=w':=by
 go_enter Tryz.func48,Tryz.ntmps48;go_wp2;all_goals go_ret
 ·exact ⟨aC (by have h:9≤op:=(by assumption);simp [Ope.redir,h]),rfl⟩
 ·exact ⟨aC (by have h:op<9:=(by assumption);simp [Ope.redir];omega),rfl⟩
theorem DS (op:Int) (w:World) (ht:cW w):Calls Tryz.prog 249 #[.int .i64 op] w fun e w'=>e=.returned (bs (Ope.txtI op))∧w=w':=by
 by_cases h0:op<0
 ·go_enter Tryz.func249,Tryz.ntmps249;go_wp2;go_ret;exact ⟨by rw [Ope.txtI,if_pos h0];rfl,rfl⟩
 ·by_cases h1:18≤op
  ·go_enter Tryz.func249,Tryz.ntmps249;go_wp2;go_ret;refine ⟨?_,rfl⟩;rw [Ope.txtI,if_neg (by omega),Ope.txt,List.getD_eq_getElem?_getD,List.getElem?_eq_none (by simp [Ope.texts];omega)];rfl
  ·obtain ⟨k,rfl⟩:∃ k:Nat,op=k:=⟨op.toNat,by omega⟩;have hc:=vC k (by omega) ht;unfold bs at hc;go_enter Tryz.func249,Tryz.ntmps249;go_wp2;go_ret;refine ⟨?_,rfl⟩;rw [Ope.txtI,if_neg (by omega)];rfl
end Go.Proofs.YtjpopekmbmcggaaGreatDoor
