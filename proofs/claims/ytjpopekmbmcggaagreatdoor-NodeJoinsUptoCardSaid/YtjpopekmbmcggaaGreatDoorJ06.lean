/- Towards nodeJoins_card: WordParam, WordAll, UqShowAt, HerePlain, NdPlain, NdMem. Merged from smaller texts by a program of the author's. -/
import Derived.Test.YtjpopekmbmcggaaGreatDoorJ05
import Derived.Laws.Concat
import Derived.Test.YtjpopekmbmcggaaGreatDoorRows
import Derived.Test.YtjpopekmbmcggaaGreatDoorJ01
import Derived.Test.YtjpopekmbmcggaaGreatDoorJ02
import Derived.Test.YtjpopekmbmcggaaGreatDoorJ04
namespace Go.Proofs.YtjpopekmbmcggaaGreatDoor
open Go.RowKit
structure Prn (G : Nat → Prop) (B b bp : Nat) (ti : TypeId) (Sk : List UInt8 → World → Prop) (acc : List UInt8) (cs : List (List UInt8)) (w : World) : Prop where
  sk : Sk acc w
  prt : Prt G B b bp ti cs w
  gd : Gd B (Xp b bp) w G
  le : B ≤ w.heap.size
theorem size_alloc (w : World) (o : Obj) : (w.alloc o).heap.size = w.heap.size + 1 := Array.size_push ..
section
variable {G : Nat → Prop} {B b bp : Nat} {ti : TypeId} {fi : FuncId} {Sk : List UInt8 → World → Prop} {acc : List UInt8} {cs : List (List UInt8)} {w w' : World}
theorem Prn.below (S : Snk B b ti fi Sk) (h : Prn G B b bp ti Sk acc cs w) (hk : Below w.heap.size w w') : Prn G B b bp ti Sk acc cs w' :=
  ⟨S.below h.sk hk, h.prt.below h.gd hk, h.gd.keep (X := Xp b bp) (.of_below hk), Nat.le_trans h.le hk.size⟩
theorem Prn.put (S : Snk B b ti fi Sk) (h : Prn G B b bp ti Sk acc cs w) (s : ByteArray) (hl : acc.length + s.size ≤ 70368744177664) :
    Calls Tryz.prog fi #[.pointer (some ⟨b, 0, none⟩), .string s] w fun e w' => e = .returned (.tuple #[]) ∧ Prn G B b bp ti Sk (acc ++ s.toList) cs w' ∧ Kp B (Xp b bp) w w' :=
  (S.put acc s w h.sk hl h.le).mono fun _ _ ⟨he, hs, hk⟩ =>
    have hk' : Kp B (Xp b bp) w _ := hk.wide fun _ e => .inl e
    ⟨he, ⟨hs, h.prt.put h.gd hk, h.gd.keep hk', Nat.le_trans h.le hk.size⟩, hk'⟩
theorem Prn.cell0 (h : Prn G B b bp ti Sk acc cs w) : w.cell? ⟨bp, 0, none⟩ = some (.iface ti (.pointer (some ⟨b, 0, none⟩))) := by
  obtain ⟨_, _, h, _⟩ := prt_cells h.prt; exact h
theorem Prn.box (S : Snk B b ti fi Sk) (h : Prn G B b bp ti Sk acc cs w) (cells : Array Value) (T : TypeId) (hT : T ≠ 5) :
    Prn G B b bp ti Sk acc cs (w.alloc (.cells cells T)) ∧ Gd B (Xp b bp) (w.alloc (.cells cells T)) (· = w.heap.size) := by
  refine ⟨h.below S ((Below.refl _ _).alloc (Nat.le_refl _) _), fun k hk => ?_⟩
  subst hk
  have h1 := S.lt _ _ h.sk
  have h2 := h.prt.lt
  refine ⟨by rw [size_alloc]; omega, .inr ⟨fun hx => by rcases hx with hx | hx <;> omega, ?_⟩⟩
  rintro ⟨c, fz, hc⟩
  rw [heap_alloc] at hc
  injection hc with hc
  injection hc with _ hc
  exact hT hc
end
end Go.Proofs.YtjpopekmbmcggaaGreatDoor
namespace Go.Proofs.YtjpopekmbmcggaaGreatDoor
open Go.RowKit
section
variable {G : Nat → Prop} {B b bp : Nat} {ti : TypeId} {fi : FuncId} {Sk : List UInt8 → World → Prop} {acc : List UInt8} {cs : List (List UInt8)} {w w' : World}
theorem Prn.drew (S : Snk B b ti fi Sk) (h : Prn G B b bp ti Sk acc cs w) : Prn G B b bp ti Sk acc cs w.drew := h.below S (Below.refl _ _).drew
end
end Go.Proofs.YtjpopekmbmcggaaGreatDoor
namespace Go.Proofs.YtjpopekmbmcggaaGreatDoor
open Go.RowKit
def Pts.plt : Pts → Option (List UInt8)
  | .cons k t _ _ _ .nil => if k = 1 then some t.toList else none
  | _ => none
set_option maxRecDepth 100000 in
set_option maxHeartbeats 1000000 in
theorem uplain_p (l : Pts) (A : Option Addr) (c : Nat) (G : Nat → Prop) (w : World) (hwt : l.wt ≤ 1073741824) (hG : ∀ k, G k → k < w.heap.size) (hp : PtsAt G w A 0 l) :
    Calls Tryz.prog 142 #[.agg #[.slice A l.len c]] w fun e w' => e = .returned (.tuple #[bs (l.plt.getD []), .bool l.plt.isSome]) ∧ Below w.heap.size w w' := by
  have hb : Below w.heap.size w (w.alloc (.cells #[.slice A l.len c] 31)) := (Below.refl _ _).alloc (Nat.le_refl _) _
  have HB := Lib.hid hb
  have hlw := Pts.len_wt l
  have HP := Lib.hid (hp.old hG hb)
  clear hb hp hG
  cases l with
  | nil =>
    go_enter Tryz.func142, Tryz.ntmps142
    rw [show Pts.len .nil = 0 from rfl]
    go_wp2_with fail
    go_ret2
    exact ⟨rfl, HB.out⟩
  | cons k t o kids cm r =>
    cases r with
    | cons k2 t2 o2 kids2 cm2 r2 =>
      have hl2 : ((Pts.cons k t o kids cm (.cons k2 t2 o2 kids2 cm2 r2)).len == 1) = false := by simp [Pts.len]
      have hlen : ((((Pts.cons k t o kids cm (.cons k2 t2 o2 kids2 cm2 r2)).len : Nat) : Int) == 1) = false := by simp [Pts.len]; omega
      generalize (Pts.cons k t o kids cm (.cons k2 t2 o2 kids2 cm2 r2)).len = n at *
      go_enter Tryz.func142, Tryz.ntmps142
      go_wp2_with fail
      go_ret2
      exact ⟨rfl, HB.out⟩
    | nil =>
      obtain ⟨bb, off, Ak, ck, rfl, hg, c0, c1, c2, c3, c4, hl, h1, h2⟩ := HP.out
      rw [show (Pts.cons k t o kids cm .nil).len = 1 from rfl] at *
      simp only [Nat.zero_mul, Nat.add_zero] at c0 c1
      obtain ⟨tl, rfl⟩ : ∃ tl : List UInt8, t = ⟨tl.toArray⟩ := ⟨t.toList, by rw [mk_list]⟩
      cases m1 : (k == 1)
      · have H1 := Lib.hid (show ¬ k = 1 from beq_eq_false_iff_ne.1 m1)
        go_enter Tryz.func142, Tryz.ntmps142
        go_wp2_with fail
        go_ret2
        exact ⟨by rw [Pts.plt, if_neg H1.out]; rfl, HB.out⟩
      · have H1 := Lib.hid (show k = 1 from by simpa using m1)
        go_enter Tryz.func142, Tryz.ntmps142
        go_wp2_with fail
        go_ret2
        exact ⟨by rw [Pts.plt, if_pos H1.out, Lib.toList_data]; rfl, HB.out⟩
end Go.Proofs.YtjpopekmbmcggaaGreatDoor
namespace Go.Proofs.YtjpopekmbmcggaaGreatDoor
def fdL (t : Bool) (c : UInt8) (l : List UInt8) : List UInt8 := if c ≠ 9 ∨ t = false ∨ l ≠ [] then l ++ [c] else l
def anyB (l : List UInt8) : Bool := l.any fun b => b == 0 || b == 10
def rightB (l : List UInt8) (t : Bool) : Bool := !anyB l && (!t || !(l.head? == some 9))
def badB (e : List UInt8) (t : Bool) (l : List UInt8) : Bool := (l == e) || (t && (l.head? == some 9))
def mayGo (e : List UInt8) (t : Bool) : List UInt8 → List UInt8 → Bool
  | cur, [] => cur.isEmpty
  | cur, c :: r => if c = 0 then false else if c = 10 then (if badB e t cur then false else mayGo e t [] r) else mayGo e t (cur ++ [c]) r
def mayB (e : List UInt8) (t : Bool) (l : List UInt8) : Bool := rightB e t && mayGo e t [] l
theorem mayGo_seg (e : List UInt8) (t : Bool) : ∀ (a cur b : List UInt8), (0 : UInt8) ∉ a → (10 : UInt8) ∉ a → mayGo e t cur (a ++ b) = mayGo e t (cur ++ a) b
  | [], cur, b, _, _ => by simp
  | c :: a, cur, b, h0, h1 => by
    simp only [List.mem_cons, not_or] at h0 h1
    rw [List.cons_append, mayGo, if_neg (fun h => h0.1 h.symm), if_neg (fun h => h1.1 h.symm), mayGo_seg e t a _ b h0.2 h1.2]
    simp
theorem mayGo_line (e : List UInt8) (t : Bool) (a b : List UInt8) (h0 : (0 : UInt8) ∉ a) (h1 : (10 : UInt8) ∉ a) : mayGo e t [] (a ++ 10 :: b) = if badB e t a then false else mayGo e t [] b := by
  rw [mayGo_seg e t a [] _ h0 h1]
  simp [mayGo]
theorem mayGo_none (e : List UInt8) (t : Bool) (a : List UInt8) (h0 : (0 : UInt8) ∉ a) (h1 : (10 : UInt8) ∉ a) : mayGo e t [] a = a.isEmpty := by
  have := mayGo_seg e t a [] [] h0 h1
  rw [List.append_nil] at this
  rw [this]; simp [mayGo]
theorem mayGo_zero (e : List UInt8) (t : Bool) : ∀ (l cur : List UInt8), (0 : UInt8) ∈ l → mayGo e t cur l = false
  | [], _, h => by cases h
  | c :: l, cur, h => by
    rw [mayGo]
    by_cases h0 : c = 0
    · rw [if_pos h0]
    · rw [if_neg h0]
      have hl : (0 : UInt8) ∈ l := by
        rcases List.mem_cons.1 h with h | h
        · exact absurd h.symm h0
        · exact h
      split
      · split
        · rfl
        · exact mayGo_zero e t l _ hl
      · exact mayGo_zero e t l _ hl
def run (e : List UInt8) (t : Bool) : List UInt8 → List UInt8 → List UInt8 → Nat × Nat × List UInt8
  | acc, _, [] => (0, 0, acc)
  | acc, cur, c :: r =>
    if c = 0 then (3, 0, acc) else if c = 10 then (if cur = e then (1, 0, acc) else ((run e t (acc ++ cur ++ [10]) [] r).1, (run e t (acc ++ cur ++ [10]) [] r).2.1 + 1, (run e t (acc ++ cur ++ [10]) [] r).2.2))
    else ((run e t acc (fdL t c cur) r).1, (run e t acc (fdL t c cur) r).2.1 + 1, (run e t acc (fdL t c cur) r).2.2)
end Go.Proofs.YtjpopekmbmcggaaGreatDoor
namespace Go.Proofs.YtjpopekmbmcggaaGreatDoor
open Go
namespace Pts
def kz : Pts → List Int
  | nil => []
  | cons k _ _ kids _ rest => k :: (kids.kz ++ rest.kz)
def allc : Pts → List Cm
  | nil => []
  | cons _ _ _ kids cm rest => cm :: (kids.allc ++ rest.allc)
def same : Pts → Pts → Bool
  | nil, nil => true
  | cons k t o kids _ rest, cons k' t' o' kids' _ rest' => ((k == k') && (t.toList == t'.toList) && (o.toList == o'.toList) && kids.same kids') && rest.same rest'
  | _, _ => false
theorem kz_len : ∀ l : Pts, l.kz.length = l.allc.length
  | nil => rfl
  | cons _ _ _ kids _ rest => by rw [kz, allc]; simp [kz_len kids, kz_len rest]
theorem same_len : ∀ l m : Pts, l.same m = true → l.len = m.len
  | nil, nil, _ => rfl
  | cons _ _ _ _ _ r, cons _ _ _ _ _ s, h => by
    rw [same, Bool.and_eq_true] at h
    rw [len, len, same_len r s h.2]
  | nil, cons .., h => by simp [same] at h
  | cons .., nil, h => by simp [same] at h
theorem same_refl : ∀ l : Pts, l.same l = true
  | nil => rfl
  | cons _ _ _ kids _ rest => by rw [same, same_refl kids, same_refl rest]; simp
end Pts
def pick {β : Type} : List Int → List β → List β
  | k :: ks, x :: xs => if k = 6 then x :: pick ks xs else pick ks xs
  | _, _ => []
theorem pick_app {β : Type} : ∀ (ks : List Int) (xs : List β) (ks' : List Int) (xs' : List β), ks.length = xs.length → pick (ks ++ ks') (xs ++ xs') = pick ks xs ++ pick ks' xs'
  | [], [], _, _, _ => rfl
  | k :: ks, x :: xs, ks', xs', h => by
    have ih := pick_app ks xs ks' xs' (by simpa using h)
    simp only [List.cons_append, pick]
    split <;> simp [ih]
  | [], _ :: _, _, _, h => by simp at h
  | _ :: _, [], _, _, h => by simp at h
theorem Pts.cmds_pick : ∀ l : Pts, l.cmds = pick l.kz l.allc
  | .nil => rfl
  | .cons k _ _ kids cm rest => by
    rw [Pts.cmds, Pts.cmds_pick kids, Pts.cmds_pick rest, Pts.kz, Pts.allc, pick, pick_app _ _ _ _ (Pts.kz_len kids)]
    split <;> simp
def All2 {α β : Type} (R : α → β → Prop) : List α → List β → Prop
  | [], [] => True
  | a :: l, b :: m => R a b ∧ All2 R l m
  | _, _ => False
namespace All2
variable {α β : Type} {R S : α → β → Prop}
theorem len : ∀ {l : List α} {m : List β}, All2 R l m → l.length = m.length
  | [], [], _ => rfl
  | _ :: _, _ :: _, h => by simp [len h.2]
  | [], _ :: _, h => h.elim
  | _ :: _, [], h => h.elim
theorem mono (hRS : ∀ a b, R a b → S a b) : ∀ {l : List α} {m : List β}, All2 R l m → All2 S l m
  | [], [], _ => trivial
  | _ :: _, _ :: _, h => ⟨hRS _ _ h.1, mono hRS h.2⟩
  | [], _ :: _, h => h.elim
  | _ :: _, [], h => h.elim
theorem get : ∀ {l : List α} {m : List β} (_ : All2 R l m) (i : Nat) (h1 : i < l.length) (h2 : i < m.length), R l[i] m[i]
  | _ :: _, _ :: _, h, 0, _, _ => h.1
  | _ :: _, _ :: _, h, i + 1, h1, h2 => get h.2 i (by simpa using h1) (by simpa using h2)
  | [], _, _, _, h1, _ => by simp at h1
  | _ :: _, [], h, _, _, _ => h.elim
theorem pick : ∀ (ks : List Int) {l : List α} {m : List β}, All2 R l m → All2 R (pick ks l) (pick ks m)
  | [], _, _, _ => trivial
  | k :: ks, [], [], _ => trivial
  | k :: ks, _ :: _, _ :: _, h => by
    simp only [YtjpopekmbmcggaaGreatDoor.pick]
    split
    · exact ⟨h.1, pick ks h.2⟩
    · exact pick ks h.2
  | _ :: _, [], _ :: _, h => h.elim
  | _ :: _, _ :: _, [], h => h.elim
end All2
structure WdF (α : Type) where
  p : Pts
  c : List (List α)
structure RdF (α : Type) where
  num : ByteArray
  op : Int
  to : WdF α
  here : ByteArray
structure ArF (α : Type) where
  pats : List (WdF α)
  body : α
structure NdF (α : Type) where
  k : Int
  name : ByteArray
  not_ : Bool
  in_ : Bool
  ops : List Int
  assigns : List (WdF α)
  words : List (WdF α)
  redirs : List (RdF α)
  arms : List (ArF α)
  kids : List α
def Nd : Nat → Type
  | 0 => Empty
  | n + 1 => NdF (Nd n)
def WdF.cmds {α : Type} (x : WdF α) : List (List α) := pick x.p.kz x.c
structure Vw (α : Type) where
  kd : α → Int
  rt : α → Bool
  on : α → Bool
def Vw.R {α : Type} (v : Vw α) (x : α) : Bool := (v.kd x == 1) && v.rt x
def rsvL : List (List UInt8) := [[105, 102], [116, 104, 101, 110], [101, 108, 115, 101], [101, 108, 105, 102], [102, 105], [100, 111], [100, 111, 110, 101], [99, 97, 115, 101], [101, 115, 97, 99], [119, 104, 105, 108, 101], [117, 110, 116, 105, 108], [102, 111, 114], [123], [125], [33], [105, 110]]
def rsvGo (s : List UInt8) : List (List UInt8) → Int → Int
  | [], _ => 0
  | x :: r, i => if x = s then i else rsvGo s r (i + 1)
def rsv (s : List UInt8) : Int := rsvGo s rsvL 23
section
variable {α : Type} (v : Vw α)
def wordB (x : WdF α) : Bool := x.p.right && x.cmds.all fun l => l.all v.R
def redirB (r : RdF α) : Bool :=
  (r.num.toList.isEmpty || Chr.digits r.num.toList) && (decide (9 ≤ r.op) && decide (r.op ≤ 17)) && wordB v r.to &&
    (if r.op = 12 ∨ r.op = 13 then (match r.to.p.utx with | none => false | some s => mayB s (r.op == 13) r.here.toList) else r.here.toList.isEmpty)
structure Has where
  nm : Bool
  op : Bool
  sa : Bool
  ws : Bool
  rs : Bool
  ar : Bool
  ks : Bool
def bareB (h : Has) (n : NdF α) : Bool :=
  (h.nm || n.name.toList.isEmpty) && (h.op || n.ops.isEmpty) && (h.sa || n.assigns.isEmpty) && (h.ws || n.words.isEmpty) && (h.rs || n.redirs.isEmpty) && (h.ar || n.arms.isEmpty) && (h.ks || n.kids.isEmpty) &&
    (!n.not_ || n.k == 3) && (!n.in_ || n.k == 7)
def onlyB (h : Has) (n : NdF α) : Bool := bareB h n && (n.redirs.all (redirB v) && n.words.all (wordB v) && n.assigns.all (wordB v))
def kidsB (least : Nat) (from_ : Int) (n : NdF α) : Bool := decide (least ≤ n.kids.length) && n.kids.all fun x => decide (from_ ≤ v.kd x) && v.rt x
def listsB (least : Nat) (n : NdF α) : Bool := decide (least ≤ n.kids.length) && n.kids.all v.R
def opsB (many : Nat) (n : NdF α) : Bool := (n.ops.length == many) && n.ops.all fun k => (k == 1) || (k == 2)
def simpleB (n : NdF α) : Bool :=
  (n.assigns.all fun x => x.p.asg.isSome) &&
    match n.words with
    | [] => decide (0 < n.assigns.length + n.redirs.length)
    | x :: _ => !x.p.asg.isSome && (decide (0 < n.assigns.length + n.redirs.length) || !x.p.plt.isSome || (rsv (x.p.plt.getD []) == 0))
def armB (a : ArF α) : Bool := !a.pats.isEmpty && a.pats.all (wordB v) && (v.R a.body || ((v.kd a.body == 1) && v.on a.body))
def funcB (n : NdF α) : Bool :=
  Chr.name n.name.toList && (rsv n.name.toList == 0) && (match n.kids with | [x] => decide (5 ≤ v.kd x) && decide (v.kd x ≤ 11) && v.rt x | _ => false)
def rightF (n : NdF α) : Bool :=
  if n.k = 1 then onlyB v ⟨false, true, false, false, false, false, true⟩ n && (kidsB v 1 2 n && opsB n.kids.length n)
  else if n.k = 2 then onlyB v ⟨false, true, false, false, false, false, true⟩ n && (kidsB v 2 3 n && opsB (n.kids.length - 1) n)
  else if n.k = 3 then onlyB v ⟨false, false, false, false, false, false, true⟩ n && (kidsB v 1 4 n && (n.not_ || !(n.kids.length == 1)))
  else if n.k = 4 then onlyB v ⟨false, false, true, true, true, false, false⟩ n && simpleB n
  else if n.k = 5 ∨ n.k = 6 then onlyB v ⟨false, false, false, false, true, false, true⟩ n && ((n.kids.length == 1) && listsB v 1 n)
  else if n.k = 7 then onlyB v ⟨true, false, false, n.in_, true, false, true⟩ n && (Chr.name n.name.toList && ((n.kids.length == 1) && listsB v 1 n))
  else if n.k = 8 then onlyB v ⟨false, false, false, true, true, true, false⟩ n && ((n.words.length == 1) && n.arms.all (armB v))
  else if n.k = 9 then onlyB v ⟨false, false, false, false, true, false, true⟩ n && listsB v 2 n
  else if n.k = 10 ∨ n.k = 11 then onlyB v ⟨false, false, false, false, true, false, true⟩ n && (listsB v 2 n && (n.kids.length == 2))
  else if n.k = 12 then onlyB v ⟨true, false, false, false, false, false, true⟩ n && funcB v n
  else false
end
def none7 : Has := ⟨false, false, false, false, false, false, false⟩
def Nd.vw : (f : Nat) → Vw (Nd f)
  | 0 => ⟨fun x => Empty.elim x, fun x => Empty.elim x, fun x => Empty.elim x⟩
  | f + 1 => ⟨fun x => NdF.k x, fun x => rightF (Nd.vw f) x, fun x => onlyB (Nd.vw f) none7 x⟩
def Nd.right (f : Nat) (x : Nd f) : Bool := (Nd.vw f).R x
def all2 {α β : Type} (p : α → β → Bool) : List α → List β → Bool
  | [], [] => true
  | a :: l, b :: m => p a b && all2 p l m
  | _, _ => false
section
variable {α : Type} (S : α → α → Bool)
def wordS (x y : WdF α) : Bool := x.p.same y.p && all2 (all2 S) x.cmds y.cmds
def redirS (x y : RdF α) : Bool := (x.num.toList == y.num.toList) && (x.op == y.op) && (x.here.toList == y.here.toList) && wordS S x.to y.to
def armS (x y : ArF α) : Bool := all2 (wordS S) x.pats y.pats && S x.body y.body
def sameF (a b : NdF α) : Bool :=
  ((a.k == b.k) && (a.name.toList == b.name.toList) && (a.not_ == b.not_) && (a.in_ == b.in_) && all2 (fun x y : Int => x == y) a.ops b.ops) &&
    (all2 (wordS S) a.assigns b.assigns && (all2 (wordS S) a.words b.words && (all2 (redirS S) a.redirs b.redirs && (all2 (armS S) a.arms b.arms && all2 S a.kids b.kids))))
end
def Nd.same : (f : Nat) → Nd f → Nd f → Bool
  | 0 => fun x => Empty.elim x
  | f + 1 => fun x y => sameF (Nd.same f) x y
def tot {α : Type} (p : α → Nat) : List α → Nat
  | [] => 0
  | a :: l => p a + tot p l
section
variable {α : Type} (C : α → Nat)
def insideN (x : WdF α) : Nat := tot (tot C) x.cmds
def countF (n : NdF α) : Nat :=
  1 + tot C n.kids + tot (insideN C) n.assigns + tot (insideN C) n.words + tot (fun r => insideN C r.to) n.redirs + tot (fun a => tot (insideN C) a.pats + C a.body) n.arms
end
def Nd.count : (f : Nat) → Nd f → Nat
  | 0 => fun x => Empty.elim x
  | f + 1 => fun x => countF (Nd.count f) x
section
variable {α : Type} (W : α → Nat)
def wtW (x : WdF α) : Nat := 1 + x.p.wt + tot (fun l => 1 + tot W l) x.c
def wtR (r : RdF α) : Nat := 1 + r.num.size + r.here.size + wtW W r.to
def wtA (a : ArF α) : Nat := 1 + tot (wtW W) a.pats + W a.body
def wtF (n : NdF α) : Nat := 1 + n.name.size + n.ops.length + tot (wtW W) n.assigns + tot (wtW W) n.words + tot (wtR W) n.redirs + tot (wtA W) n.arms + tot W n.kids
end
def Nd.wt : (f : Nat) → Nd f → Nat
  | 0 => fun x => Empty.elim x
  | f + 1 => fun x => wtF (Nd.wt f) x
def kindN (k : Int) : List UInt8 :=
  if k = 1 then [108, 105, 115, 116] else if k = 2 then [97, 110, 100, 45, 111, 114] else if k = 3 then [112, 105, 112, 101] else if k = 4 then [115, 105, 109, 112, 108, 101]
  else if k = 5 then [98, 114, 97, 99, 101] else if k = 6 then [115, 117, 98] else if k = 7 then [102, 111, 114] else if k = 8 then [99, 97, 115, 101] else if k = 9 then [105, 102]
  else if k = 10 then [119, 104, 105, 108, 101] else if k = 11 then [117, 110, 116, 105, 108] else if k = 12 then [102, 117, 110, 99] else []
end Go.Proofs.YtjpopekmbmcggaaGreatDoor
namespace Go.Proofs.YtjpopekmbmcggaaGreatDoor
open Go.RowKit
def SlAt {β : Type} (G : Nat → Prop) (w : World) (sz : Nat) (R : List Value → β → Prop) (v : Value) (xs : List β) : Prop :=
  ∃ A c, v = .slice A xs.length c ∧ xs.length ≤ c ∧ c ≤ maxLen ∧ (0 < xs.length → ∃ b off, A = some ⟨b, off, none⟩ ∧ G b ∧
    ∀ i (h : i < xs.length), ∃ vs : List Value, vs.length = sz ∧ R vs xs[i] ∧ ∀ j u, vs[j]? = some u → w.cell? ⟨b, off + i * sz + j, none⟩ = some u)
theorem SlAt.keep {β : Type} {G G' : Nat → Prop} {w w' : World} {sz : Nat} {R R' : List Value → β → Prop} {v : Value} {xs : List β} (h : SlAt G w sz R v xs) (hG : ∀ k, G k → G' k) (hk : ∀ p : Addr, G p.block → w'.cell? p = w.cell? p) (hR : ∀ vs x, R vs x → R' vs x) : SlAt G' w' sz R' v xs := by
  obtain ⟨A, c, h1, h2, h3, h4⟩ := h
  refine ⟨A, c, h1, h2, h3, fun hn => ?_⟩
  obtain ⟨b, off, h5, h6, h7⟩ := h4 hn
  refine ⟨b, off, h5, hG _ h6, fun i hi => ?_⟩
  obtain ⟨vs, h8, h9, h10⟩ := h7 i hi
  exact ⟨vs, h8, hR _ _ h9, fun j u hj => (hk _ h6).trans (h10 j u hj)⟩
def IntV (vs : List Value) (n : Int) : Prop := vs = [.int .i64 n]
section
variable {α : Type} (G : Nat → Prop) (w : World) (R : List Value → α → Prop)
def WdV (vs : List Value) (x : WdF α) : Prop :=
  ∃ A c, vs = [.slice A x.p.len c] ∧ x.p.len ≤ c ∧ c ≤ maxLen ∧ x.p.wt ≤ 1073741823 ∧ PtsAt G w A 0 x.p ∧ All2 (fun cm l => SlAt G w 10 R cm.val l) x.p.allc x.c
def RdV (vs : List Value) (r : RdF α) : Prop := ∃ vt, vs = [.string r.num, .int .i64 r.op, vt, .string r.here] ∧ r.num.size ≤ 1073741824 ∧ r.here.size ≤ 1073741824 ∧ WdV G w R [vt] r.to
def ArV (vs : List Value) (a : ArF α) : Prop := ∃ vp bs, vs = vp :: bs ∧ bs.length = 10 ∧ SlAt G w 1 (WdV G w R) vp a.pats ∧ R bs a.body
def NdVF (vs : List Value) (n : NdF α) : Prop :=
  ∃ vo va vw vr vm vk, vs = [.int .i64 n.k, .string n.name, .bool n.not_, .bool n.in_, vo, va, vw, vr, vm, vk] ∧ (n.name.size ≤ 1073741824 ∧ n.assigns.length + n.redirs.length ≤ 1073741824) ∧
    SlAt G w 1 IntV vo n.ops ∧ SlAt G w 1 (WdV G w R) va n.assigns ∧ SlAt G w 1 (WdV G w R) vw n.words ∧ SlAt G w 4 (RdV G w R) vr n.redirs ∧ SlAt G w 11 (ArV G w R) vm n.arms ∧ SlAt G w 10 R vk n.kids
end
def NdV : (f : Nat) → (Nat → Prop) → World → List Value → Nd f → Prop
  | 0, _, _, _, _ => False
  | f + 1, G, w, vs, n => NdVF G w (NdV f G w) vs n
section
variable {α : Type} {G G' : Nat → Prop} {w w' : World} {R R' : List Value → α → Prop}
theorem WdV.keep (hG : ∀ k, G k → G' k) (hk : ∀ p : Addr, G p.block → w'.cell? p = w.cell? p) (hR : ∀ vs x, R vs x → R' vs x) {vs : List Value} {x : WdF α} (h : WdV G w R vs x) : WdV G' w' R' vs x := by
  obtain ⟨A, c, h1, h2, h3, h4, h5, h6⟩ := h
  exact ⟨A, c, h1, h2, h3, h4, (h5.keep hk).more hG, h6.mono fun _ _ h => h.keep hG hk hR⟩
theorem RdV.keep (hG : ∀ k, G k → G' k) (hk : ∀ p : Addr, G p.block → w'.cell? p = w.cell? p) (hR : ∀ vs x, R vs x → R' vs x) {vs : List Value} {x : RdF α} (h : RdV G w R vs x) : RdV G' w' R' vs x := by
  obtain ⟨vt, h1, h2, h3, h4⟩ := h
  exact ⟨vt, h1, h2, h3, h4.keep hG hk hR⟩
theorem ArV.keep (hG : ∀ k, G k → G' k) (hk : ∀ p : Addr, G p.block → w'.cell? p = w.cell? p) (hR : ∀ vs x, R vs x → R' vs x) {vs : List Value} {x : ArF α} (h : ArV G w R vs x) : ArV G' w' R' vs x := by
  obtain ⟨vp, bs, h1, h2, h3, h4⟩ := h
  exact ⟨vp, bs, h1, h2, h3.keep hG hk fun _ _ h => h.keep hG hk hR, hR _ _ h4⟩
theorem NdVF.keep (hG : ∀ k, G k → G' k) (hk : ∀ p : Addr, G p.block → w'.cell? p = w.cell? p) (hR : ∀ vs x, R vs x → R' vs x) {vs : List Value} {x : NdF α} (h : NdVF G w R vs x) : NdVF G' w' R' vs x := by
  obtain ⟨vo, va, vw, vr, vm, vk, h1, h2, h3, h4, h5, h6, h7, h8⟩ := h
  exact ⟨vo, va, vw, vr, vm, vk, h1, h2, h3.keep hG hk fun _ _ h => h, h4.keep hG hk fun _ _ h => h.keep hG hk hR, h5.keep hG hk fun _ _ h => h.keep hG hk hR, h6.keep hG hk fun _ _ h => h.keep hG hk hR, h7.keep hG hk fun _ _ h => h.keep hG hk hR, h8.keep hG hk hR⟩
end
theorem NdV.keep {G G' : Nat → Prop} {w w' : World} (hG : ∀ k, G k → G' k) (hk : ∀ p : Addr, G p.block → w'.cell? p = w.cell? p) : ∀ {f : Nat} {vs : List Value} {x : Nd f}, NdV f G w vs x → NdV f G' w' vs x
  | 0, _, _, h => h.elim
  | _ + 1, _, _, h => NdVF.keep hG hk (fun _ _ h => NdV.keep hG hk h) h
def WdN (f : Nat) (G : Nat → Prop) (w : World) : List Value → WdF (Nd f) → Prop := WdV G w (NdV f G w)
def RdN (f : Nat) (G : Nat → Prop) (w : World) : List Value → RdF (Nd f) → Prop := RdV G w (NdV f G w)
def ArN (f : Nat) (G : Nat → Prop) (w : World) : List Value → ArF (Nd f) → Prop := ArV G w (NdV f G w)
section
variable {f : Nat} {G G' : Nat → Prop} {w w' : World} {vs : List Value}
theorem keep_of (hG : ∀ k, G k → k < w.heap.size) (hb : Below w.heap.size w w') : ∀ p : Addr, G p.block → w'.cell? p = w.cell? p := fun _ hp => World.cell?_of_block (hb.block _ (hG _ hp))
theorem NdV.below {x : Nd f} (h : NdV f G w vs x) (hG : ∀ k, G k → k < w.heap.size) (hb : Below w.heap.size w w') : NdV f G w' vs x := h.keep (fun _ h => h) (keep_of hG hb)
theorem WdN.below {x : WdF (Nd f)} (h : WdN f G w vs x) (hG : ∀ k, G k → k < w.heap.size) (hb : Below w.heap.size w w') : WdN f G w' vs x := WdV.keep (fun _ h => h) (keep_of hG hb) (fun _ _ h => h.below hG hb) h
theorem RdN.below {x : RdF (Nd f)} (h : RdN f G w vs x) (hG : ∀ k, G k → k < w.heap.size) (hb : Below w.heap.size w w') : RdN f G w' vs x := RdV.keep (fun _ h => h) (keep_of hG hb) (fun _ _ h => h.below hG hb) h
theorem ArN.below {x : ArF (Nd f)} (h : ArN f G w vs x) (hG : ∀ k, G k → k < w.heap.size) (hb : Below w.heap.size w w') : ArN f G w' vs x := ArV.keep (fun _ h => h) (keep_of hG hb) (fun _ _ h => h.below hG hb) h
end
end Go.Proofs.YtjpopekmbmcggaaGreatDoor
