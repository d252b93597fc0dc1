/- Towards clashesWhole_upto. -/
import Derived.Test.YtpidmmfjcghmeaaGreatCs05
set_option maxRecDepth 100000
set_option maxHeartbeats 16000000
set_option linter.all false
namespace Go.Proofs.YtpidmmfjcghmeaaGreat.Ab
variable {P:Program} {σ:Sg}
mutual
def eqA:AV→AV→Bool
 | .b x,.b y=>x==y
 | .i k n,.i j m=>decide (k=j)&&decide (n=m)
 | .s x,.s y=>decide (x.data.toList=y.data.toList)
 | .np,.np=>true
 | .ns,.ns=>true
 | .nm,.nm=>true
 | .nf,.nf=>true
 | .ni,.ni=>true
 | .ptr a b,.ptr c d=>decide (a=c)&&decide (b=d)
 | .sl a b c d,.sl a' b' c' d'=>decide (a=a')&&(decide (b=b')&&(decide (c=c')&&decide (d=d')))
 | .so a b c d,.so a' b' c' d'=>decide (a=a')&&(decide (b=b')&&(decide (c=c')&&decide (d=d')))
 | .es,.es=>true
 | .yl a,.yl b=>decide (a=b)
 | .mp a,.mp b=>decide (a=b)
 | .fn f l m,.fn f' l' m'=>decide (f=f')&&(kN l l'&&kN m m')
 | .ifc t x,.ifc t' x'=>decide (t=t')&&eqA x x'
 | .agg l,.agg l'=>kN l l'
 | .tup l,.tup l'=>kN l l'
 | _,_=>false
def kN:List AV→List AV→Bool
 | [],[]=>true
 | x::l,y::m=>eqA x y&&kN l m
 | _,_=>false
end
mutual
theorem lT:∀ {x y:AV},eqA x y=true→x=y
 | .b x,y,h=>by cases y <;> simp [eqA] at h;rw [h]
 | .i _ _,y,h=>by cases y <;> simp [eqA] at h;rw [h.1,h.2]
 | .s x,y,h=>by
  cases y <;> simp [eqA] at h;rename_i y;have:x.data=y.data:=by apply Array.ext';simpa using h
  cases x;cases y;simp only at this;rw [this]
 | .np,y,h=>by cases y <;> simp [eqA] at h;rfl
 | .ns,y,h=>by cases y <;> simp [eqA] at h;rfl
 | .nm,y,h=>by cases y <;> simp [eqA] at h;rfl
 | .nf,y,h=>by cases y <;> simp [eqA] at h;rfl
 | .ni,y,h=>by cases y <;> simp [eqA] at h;rfl
 | .ptr _ _,y,h=>by cases y <;> simp [eqA] at h;rw [h.1,h.2]
 | .sl _ _ _ _,y,h=>by cases y <;> simp [eqA] at h;rw [h.1,h.2.1,h.2.2.1,h.2.2.2]
 | .so _ _ _ _,y,h=>by cases y <;> simp [eqA] at h;rw [h.1,h.2.1,h.2.2.1,h.2.2.2]
 | .es,y,h=>by cases y <;> simp [eqA] at h;rfl
 | .yl _,y,h=>by cases y <;> simp [eqA] at h;rw [h]
 | .mp _,y,h=>by cases y <;> simp [eqA] at h;rw [h]
 | .fn _ _ _,y,h=>by cases y <;> simp [eqA] at h;rw [h.1,d9 h.2.1,d9 h.2.2]
 | .ifc _ _,y,h=>by cases y <;> simp [eqA] at h;rw [h.1,lT h.2]
 | .agg _,y,h=>by cases y <;> simp [eqA] at h;rw [d9 h]
 | .tup _,y,h=>by cases y <;> simp [eqA] at h;rw [d9 h]
theorem d9:∀ {l m:List AV},kN l m=true→l=m
 | [],m,h=>by cases m <;> simp [kN] at h;rfl
 | x::l,m,h=>by
  cases m with
  | nil=>simp [kN] at h
  | cons y m=>simp only [kN,yF] at h;rw [lT h.1,d9 h.2]
end
mutual
def det:AV→Bool
 | .es=>false
 | .so _ _ _ s=>decide (0<s)
 | .fn _ l m=>s7 l&&s7 m
 | .ifc _ x=>det x
 | .agg l=>s7 l
 | .tup l=>s7 l
 | _=>true
def s7:List AV→Bool
 | []=>true
 | x::l=>det x&&s7 l
end
mutual
theorem s6:∀ {x:AV} {u v:Value},det x=true→VR σ x u→VR σ x v→u=v
 | .b _,_,_,_,h,h' | .i _ _,_,_,_,h,h' | .s _,_,_,_,h,h' | .np,_,_,_,h,h' | .ns,_,_,_,h,h' | .nm,_,_,_,h,h' | .nf,_,_,_,h,h' | .ni,_,_,_,h,h'=>by cases h;cases h';rfl
 | .ptr _ _,_,_,_,h,h'=>by cases h with | ptr _ _ b k hb=>cases h' with | ptr _ _ b' k' hb'=>rw [hb] at hb';cases hb';rfl
 | .sl _ _ _ _,_,_,_,h,h'=>by cases h with | sl _ _ _ _ b k hb=>cases h' with | sl _ _ _ _ b' k' hb'=>rw [hb] at hb';cases hb';rfl
 | .so _ _ _ s,_,_,hd,h,h'=>by
  cases h with
  | so _ _ _ _ b k c hb hk=>cases h' with
   | so _ _ _ _ b' k' c' hb' hk'=>
    rw [hb] at hb';cases hb';simp only [det,decide_eq_true_eq] at hd;have h1:c*s=c'*s:=by omega
    rw [Nat.eq_of_mul_eq_mul_right hd h1]
 | .es,_,_,hd,_,_=>by simp [det] at hd
 | .yl _,_,_,_,h,h'=>by cases h with | yl _ b k hb=>cases h' with | yl _ b' k' hb'=>rw [hb] at hb';cases hb';rfl
 | .mp _,_,_,_,h,h'=>by cases h with | mp _ b k hb=>cases h' with | mp _ b' k' hb'=>rw [hb] at hb';cases hb';rfl
 | .fn _ _ _,_,_,hd,h,h'=>by
  simp only [det,yF] at hd;cases h with | fn _ _ _ xs ys h1 h2=>cases h' with | fn _ _ _ xs' ys' h3 h4=>rw [i3 hd.1 h1 h3,i3 hd.2 h2 h4]
 | .ifc _ _,_,_,hd,h,h'=>by
  simp only [det] at hd;cases h with | ifc _ _ v h1=>cases h' with | ifc _ _ v' h2=>rw [s6 hd h1 h2]
 | .agg _,_,_,hd,h,h'=>by
  simp only [det] at hd;cases h with | agg _ xs h1=>cases h' with | agg _ xs' h2=>rw [i3 hd h1 h2]
 | .tup _,_,_,hd,h,h'=>by
  simp only [det] at hd;cases h with | tup _ xs h1=>cases h' with | tup _ xs' h2=>rw [i3 hd h1 h2]
theorem i3:∀ {l:List AV} {us vs:List Value},s7 l=true→VL σ l us→VL σ l vs→us=vs
 | [],_,_,_,h,h'=>by cases h;cases h';rfl
 | x::l,_,_,hd,h,h'=>by
  simp only [s7,yF] at hd;cases h with | cons _ u _ us h1 h2=>cases h' with | cons _ v _ vs h3 h4=>rw [s6 hd.1 h1 h3,i3 hd.2 h2 h4]
end
def eqT {α:Type} (e:α→α→Bool):T α→T α→Bool
 | .nil,.nil=>true
 | .node v l r,.node v' l' r'=>(match v,v' with | none,none=>true | some x,some y=>e x y | _,_=>false)&&(eqT e l l'&&eqT e r r')
 | _,_=>false
theorem jV {α:Type} {e:α→α→Bool} (he:∀ x y,e x y=true→x=y):∀ {t t':T α},eqT e t t'=true→t=t'
 | .nil,t',h=>by cases t' <;> simp [eqT] at h;rfl
 | .node v l r,t',h=>by
  cases t' with
  | nil=>simp [eqT] at h
  | node v' l' r'=>
   simp only [eqT,yF] at h;rw [jV he h.2.1,jV he h.2.2];have h1:=h.1;cases v <;> cases v' <;> simp only [Bool.false_eq_true] at h1
   ·rfl
   ·rw [he _ _ h1]
def EN:Value→Value→Bool
 | .bool x,.bool y=>x==y
 | .int k n,.int j m=>decide (k=j)&&decide (n=m)
 | .string x,.string y=>decide (x.data.toList=y.data.toList)
 | _,_=>false
theorem uR:∀ {x y:Value},EN x y=true→x=y:=by
 intro x y h;cases x <;> cases y <;> simp [EN] at h
 ·rw [h]
 ·rw [h.1,h.2]
 ·rename_i x y;have:x.data=y.data:=by apply Array.ext';simpa using h
  cases x;cases y;simp only at this;rw [this]
def wX:List Value→List Value→Bool
 | [],[]=>true
 | x::l,y::m=>EN x y&&wX l m
 | _,_=>false
theorem uS:∀ {l m:List Value},wX l m=true→l=m
 | [],m,h=>by cases m <;> simp [wX] at h;rfl
 | x::l,m,h=>by
  cases m with
  | nil=>simp [wX] at h
  | cons y m=>simp only [wX,yF] at h;rw [uR h.1,uS h.2]
def eqV:Value→Value→Bool
 | .agg c,.agg d=>wX c.toList d.toList
 | x,y=>EN x y
theorem BB {x y:Value} (h:eqV x y=true):x=y:=by
 unfold eqV at h
 split at h
 ·rename_i c d;have:=uS h;rw [show c=d from by apply Array.ext';exact this]
 ·exact uR h
def wW:List MapEntry→List MapEntry→Bool
 | [],[]=>true
 | x::l,y::m=>(eqV x.key y.key&&(eqV x.val y.val&&decide (x.born=y.born)))&&wW l m
 | _,_=>false
theorem uQ:∀ {l m:List MapEntry},wW l m=true→l=m
 | [],m,h=>by cases m <;> simp [wW] at h;rfl
 | x::l,m,h=>by
  cases m with
  | nil=>simp [wW] at h
  | cons y m=>
   simp only [wW,yF,decide_eq_true_eq] at h;obtain ⟨⟨h1,h2,h3⟩,h4⟩:=h;rw [uQ h4];cases x;cases y;simp only at h1 h2 h3;rw [BB h1,BB h2,h3]
def eqO:AO→AO→Bool
 | .cells l t,.cells l' t'=>decide (t=t')&&kN l l'
 | .map es c,.map es' c'=>decide (c=c')&&wW es.toList es'.toList
 | .dfr,.dfr=>true
 | _,_=>false
theorem tA {x y:AO} (h:eqO x y=true):x=y:=by
 unfold eqO at h
 split at h
 ·simp only [yF,decide_eq_true_eq] at h;rw [h.1,d9 h.2]
 ·rename_i es c es' c';simp only [yF,decide_eq_true_eq] at h;rw [h.1,show es=es' from by apply Array.ext';exact uQ h.2]
 ·rfl
 ·cases h
def eqD:List (Sum Nat (Nat×List AV))→List (Sum Nat (Nat×List AV))→Bool
 | [],[]=>true
 | .inl a::l,.inl b::m=>decide (a=b)&&eqD l m
 | .inr (a,x)::l,.inr (b,y)::m=>decide (a=b)&&(kN x y&&eqD l m)
 | _,_=>false
theorem s9:∀ {l m:List (Sum Nat (Nat×List AV))},eqD l m=true→l=m
 | [],m,h=>by cases m <;> simp [eqD] at h;rfl
 | .inl a::l,m,h=>by
  cases m with
  | nil=>simp [eqD] at h
  | cons y m=>
   cases y with
   | inl b=>simp only [eqD,yF,decide_eq_true_eq] at h;rw [h.1,s9 h.2]
   | inr b=>simp [eqD] at h
 | .inr (a,x)::l,m,h=>by
  cases m with
  | nil=>simp [eqD] at h
  | cons y m=>
   cases y with
   | inl b=>simp [eqD] at h
   | inr b=>obtain ⟨b,y⟩:=b;simp only [eqD,yF,decide_eq_true_eq] at h;rw [h.1,d9 h.2.1,s9 h.2.2]
def eqS (x y:F×H):Bool:=
 eqD x.1.df y.1.df&&(decide (x.1.n=y.1.n)&&(eqT eqA x.1.t y.1.t&&(decide (x.2.nx=y.2.nx)&&(decide (x.2.rs=y.2.rs)&&(decide (x.2.sl=y.2.sl)&&eqT eqO x.2.hp y.2.hp)))))
theorem G0 {x y:F×H} (h:eqS x y=true):x=y:=by
 unfold eqS at h;obtain ⟨⟨n,t,df⟩,⟨hp,nx,rs,sl⟩⟩:=x;obtain ⟨⟨n',t',df'⟩,⟨hp',nx',rs',sl'⟩⟩:=y;simp only [yF,decide_eq_true_eq] at h;obtain ⟨h1,h3,h4,h5,h6,h7,h8⟩:=h;subst h3 h5 h6 h7;rw [jV (fun _ _ e=>lT e) h4,jV (fun _ _ e=>tA e) h8,s9 h1]
end Go.Proofs.YtpidmmfjcghmeaaGreat.Ab
