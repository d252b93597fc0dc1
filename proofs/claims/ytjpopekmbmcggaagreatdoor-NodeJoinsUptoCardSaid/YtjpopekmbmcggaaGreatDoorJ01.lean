/- Towards nodeJoins_card: Shelf, PtsPlain, CharPlain, PartPlain, Base, PtsMem, PartCount, Wr. Merged from smaller texts by a program of the author's. -/
import Derived.Shelf.Strings.Builder1
import Derived.Shelf.Small.Utf8
import Derived.Shelf.Small.Strs
import Derived.Shelf.Strings.Search1
import Derived.Shelf.Strings.Search2
import Derived.Shelf.Strings.Search3
import Derived.Shelf.Strings.Cut
import Derived.Shelf.LaysM
import Derived.Shelf.Strings.Shaped
import Derived.Shelf.Strings.Prefix
import Derived.Shelf.Strings.Runes
import Derived.Shelf.Strings.IndexAny
import Derived.Shelf.Strings.AsciiSet
import Derived.Shelf.Strings.IndexAnyAll
import Derived.Test.YtjpopekmbmcggaaGreatDoorProg
import Derived.Test.YtjpopekmbmcggaaGreatDoorRows
import Derived.WalkKit
import Derived.WalkSpells
import Derived.WalkLawsBesides
import Derived.Lib.Hide
import Derived.Lib.Strings
import Derived.Maps.AppendAt
import Derived.Deep.AppendLies
import Derived.Deep.Draws
import Derived.LoopTactic
import Derived.Outline
namespace Go.Proofs
open Go.Shelf
def Tryz.lays119_ren : Go.Shelf.Ren := ⟨fun | 119 => 244 | n => n, fun | 21 => 21 | 4 => 4 | n => n, fun | n => n⟩
theorem Tryz.lays119 : Go.Proofs.Lays.n119 Tryz.prog Tryz.lays119_ren := {
  mixed := by kernel_rfl
  f119 := Tryz.func244.trans (congrArg some (by kernel_rfl))
  t4 := Tryz.underlying4
  a4 := Tryz.isAgg4
  z4 := Tryz.sizeOf4
  v4 := Tryz.zeroValue4
  t21 := Tryz.underlying21
  a21 := Tryz.isAgg21
  z21 := Tryz.sizeOf21
  v21 := Tryz.zeroValue21 }
theorem Tryz.utf8_ValidRune (r : Int) (w : World) :
    Calls Tryz.prog 244 #[.int .i32 r] w fun e w' => e = .returned (.bool (Lib.validRune r)) ∧ w' = w := Any.utf8_ValidRune Tryz.lays119 r w
def Tryz.lays137_ren : Go.Shelf.Ren := ⟨fun | 137 => 216 | 217 => 227 | 266 => 245 | n => n, fun | 9 => 9 | 5 => 5 | 3 => 3 | n => n, fun | n => n⟩
theorem Tryz.lays137 : Go.Proofs.Lays.n137 Tryz.prog Tryz.lays137_ren := {
  mixed := by kernel_rfl
  f137 := Tryz.func216.trans (congrArg some (by kernel_rfl))
  f217 := Tryz.func227.trans (congrArg some (by kernel_rfl))
  f266 := Tryz.func245.trans (congrArg some (by kernel_rfl))
  t3 := Tryz.underlying3
  a3 := Tryz.isAgg3
  z3 := Tryz.sizeOf3
  v3 := Tryz.zeroValue3
  t5 := Tryz.underlying5
  a5 := Tryz.isAgg5
  z5 := Tryz.sizeOf5
  v5 := Tryz.zeroValue5
  t9 := Tryz.underlying9
  a9 := Tryz.isAgg9
  z9 := Tryz.sizeOf9
  v9 := Tryz.zeroValue9 }
open Go.RowKit in
theorem Tryz.strings_IndexByte (s : ByteArray) (c : Int) (w : World) :
    Calls Tryz.prog 216 #[.string s, .int .u8 c] w fun e w' => e = .returned (.int .i64 (Lib.indexByte s.data.toList c.toNat.toUInt8)) ∧ w' = w := Any.strings_IndexByte Tryz.lays137 s c w
def Tryz.lays219_ren : Go.Shelf.Ren := ⟨fun | 219 => 191 | 217 => 227 | 225 => 228 | 224 => 229 | 267 => 230 | 266 => 245 | 314 => 246 | n => n, fun | 9 => 9 | 3 => 3 | 4 => 4 | 5 => 5 | 46 => 180 | 146 => 190 | 51 => 189 | n => n, fun | 1 => 1 | n => n⟩
theorem Tryz.lays219 : Go.Proofs.Lays.n219 Tryz.prog Tryz.lays219_ren := {
  mixed := by kernel_rfl
  f217 := Tryz.func227.trans (congrArg some (by kernel_rfl))
  f219 := Tryz.func191.trans (congrArg some (by kernel_rfl))
  f224 := Tryz.func229.trans (congrArg some (by kernel_rfl))
  f225 := Tryz.func228.trans (congrArg some (by kernel_rfl))
  f266 := Tryz.func245.trans (congrArg some (by kernel_rfl))
  f267 := Tryz.func230.trans (congrArg some (by kernel_rfl))
  f314 := Tryz.func246.trans (congrArg some (by kernel_rfl))
  t3 := Tryz.underlying3
  a3 := Tryz.isAgg3
  z3 := Tryz.sizeOf3
  v3 := Tryz.zeroValue3
  t4 := Tryz.underlying4
  a4 := Tryz.isAgg4
  z4 := Tryz.sizeOf4
  v4 := Tryz.zeroValue4
  t5 := Tryz.underlying5
  a5 := Tryz.isAgg5
  z5 := Tryz.sizeOf5
  v5 := Tryz.zeroValue5
  t9 := Tryz.underlying9
  a9 := Tryz.isAgg9
  z9 := Tryz.sizeOf9
  v9 := Tryz.zeroValue9
  t46 := Tryz.underlying180
  a46 := Tryz.isAgg180
  z46 := Tryz.sizeOf180
  v46 := Tryz.zeroValue180
  t51 := Tryz.underlying189
  a51 := Tryz.isAgg189
  z51 := Tryz.sizeOf189
  v51 := Tryz.zeroValue189
  t146 := Tryz.underlying190
  a146 := Tryz.isAgg190
  z146 := Tryz.sizeOf190
  v146 := Tryz.zeroValue190
  g1 := by kernel_rfl }
open Go.RowKit Go.Lib in
theorem Tryz.stringslite_Index_one (s : ByteArray) (c : UInt8) (w : World) :
    Calls Tryz.prog 191 #[.string s, .string ⟨#[c]⟩] w fun e w' => e = .returned (.int .i64 (Lib.indexByte s.data.toList c)) ∧ w' = w := Any.stringslite_Index_one Tryz.lays219 s c w
def Tryz.lays144_ren : Go.Shelf.Ren := ⟨fun | 144 => 119 | 143 => 156 | 219 => 191 | 217 => 227 | 225 => 228 | 224 => 229 | 267 => 230 | 266 => 245 | 314 => 246 | n => n, fun | 9 => 9 | 4 => 4 | 3 => 3 | 5 => 5 | 46 => 180 | 146 => 190 | 51 => 189 | n => n, fun | 1 => 1 | n => n⟩
theorem Tryz.lays144 : Go.Proofs.Lays.n144 Tryz.prog Tryz.lays144_ren := {
  mixed := by kernel_rfl
  f143 := Tryz.func156.trans (congrArg some (by kernel_rfl))
  f144 := Tryz.func119.trans (congrArg some (by kernel_rfl))
  f217 := Tryz.func227.trans (congrArg some (by kernel_rfl))
  f219 := Tryz.func191.trans (congrArg some (by kernel_rfl))
  f224 := Tryz.func229.trans (congrArg some (by kernel_rfl))
  f225 := Tryz.func228.trans (congrArg some (by kernel_rfl))
  f266 := Tryz.func245.trans (congrArg some (by kernel_rfl))
  f267 := Tryz.func230.trans (congrArg some (by kernel_rfl))
  f314 := Tryz.func246.trans (congrArg some (by kernel_rfl))
  t3 := Tryz.underlying3
  a3 := Tryz.isAgg3
  z3 := Tryz.sizeOf3
  v3 := Tryz.zeroValue3
  t4 := Tryz.underlying4
  a4 := Tryz.isAgg4
  z4 := Tryz.sizeOf4
  v4 := Tryz.zeroValue4
  t5 := Tryz.underlying5
  a5 := Tryz.isAgg5
  z5 := Tryz.sizeOf5
  v5 := Tryz.zeroValue5
  t9 := Tryz.underlying9
  a9 := Tryz.isAgg9
  z9 := Tryz.sizeOf9
  v9 := Tryz.zeroValue9
  t46 := Tryz.underlying180
  a46 := Tryz.isAgg180
  z46 := Tryz.sizeOf180
  v46 := Tryz.zeroValue180
  t51 := Tryz.underlying189
  a51 := Tryz.isAgg189
  z51 := Tryz.sizeOf189
  v51 := Tryz.zeroValue189
  t146 := Tryz.underlying190
  a146 := Tryz.isAgg190
  z146 := Tryz.sizeOf190
  v146 := Tryz.zeroValue190
  g1 := by kernel_rfl }
open Go.RowKit Go.Lib in
theorem Tryz.strings_Contains_one (s : ByteArray) (c : UInt8) (w : World) :
    Calls Tryz.prog 119 #[.string s, .string ⟨#[c]⟩] w fun e w' => e = .returned (.bool (decide (0 ≤ Lib.indexByte s.data.toList c))) ∧ w' = w := Any.strings_Contains_one Tryz.lays144 s c w
def Tryz.lays99_ren : Go.Shelf.Ren := ⟨fun | 99 => 121 | 206 => 158 | n => n, fun | 9 => 9 | 4 => 4 | 3 => 3 | n => n, fun | n => n⟩
theorem Tryz.lays99 : Go.Proofs.Lays.n99 Tryz.prog Tryz.lays99_ren := {
  mixed := by kernel_rfl
  f99 := Tryz.func121.trans (congrArg some (by kernel_rfl))
  f206 := Tryz.func158.trans (congrArg some (by kernel_rfl))
  t3 := Tryz.underlying3
  a3 := Tryz.isAgg3
  z3 := Tryz.sizeOf3
  v3 := Tryz.zeroValue3
  t4 := Tryz.underlying4
  a4 := Tryz.isAgg4
  z4 := Tryz.sizeOf4
  v4 := Tryz.zeroValue4
  t9 := Tryz.underlying9
  a9 := Tryz.isAgg9
  z9 := Tryz.sizeOf9
  v9 := Tryz.zeroValue9 }
open Go.RowKit Go.Lib in
theorem Tryz.strings_HasPrefix (s p : ByteArray) (w : World) :
    Calls Tryz.prog 121 #[.string s, .string p] w fun e w' => e = .returned (.bool (Lib.hasPrefix s.data.toList p.data.toList)) ∧ w' = w := Any.strings_HasPrefix Tryz.lays99 s p w
def Tryz.lays100_ren : Go.Shelf.Ren := ⟨fun | 100 => 184 | 207 => 219 | n => n, fun | 9 => 9 | 4 => 4 | 3 => 3 | n => n, fun | n => n⟩
theorem Tryz.lays100 : Go.Proofs.Lays.n100 Tryz.prog Tryz.lays100_ren := {
  mixed := by kernel_rfl
  f100 := Tryz.func184.trans (congrArg some (by kernel_rfl))
  f207 := Tryz.func219.trans (congrArg some (by kernel_rfl))
  t3 := Tryz.underlying3
  a3 := Tryz.isAgg3
  z3 := Tryz.sizeOf3
  v3 := Tryz.zeroValue3
  t4 := Tryz.underlying4
  a4 := Tryz.isAgg4
  z4 := Tryz.sizeOf4
  v4 := Tryz.zeroValue4
  t9 := Tryz.underlying9
  a9 := Tryz.isAgg9
  z9 := Tryz.sizeOf9
  v9 := Tryz.zeroValue9 }
open Go.RowKit Go.Lib in
theorem Tryz.strings_HasSuffix (s p : ByteArray) (w : World) (hs : s.size ≤ 9223372036854775807) :
    Calls Tryz.prog 184 #[.string s, .string p] w fun e w' => e = .returned (.bool (Lib.hasSuffix s.data.toList p.data.toList)) ∧ w' = w := Any.strings_HasSuffix Tryz.lays100 s p w hs
def Tryz.lays101_ren : Go.Shelf.Ren := ⟨fun | 101 => 242 | 208 => 254 | 206 => 158 | n => n, fun | 9 => 9 | 4 => 4 | 3 => 3 | n => n, fun | n => n⟩
theorem Tryz.lays101 : Go.Proofs.Lays.n101 Tryz.prog Tryz.lays101_ren := {
  mixed := by kernel_rfl
  f101 := Tryz.func242.trans (congrArg some (by kernel_rfl))
  f206 := Tryz.func158.trans (congrArg some (by kernel_rfl))
  f208 := Tryz.func254.trans (congrArg some (by kernel_rfl))
  t3 := Tryz.underlying3
  a3 := Tryz.isAgg3
  z3 := Tryz.sizeOf3
  v3 := Tryz.zeroValue3
  t4 := Tryz.underlying4
  a4 := Tryz.isAgg4
  z4 := Tryz.sizeOf4
  v4 := Tryz.zeroValue4
  t9 := Tryz.underlying9
  a9 := Tryz.isAgg9
  z9 := Tryz.sizeOf9
  v9 := Tryz.zeroValue9 }
open Go.RowKit Go.Lib in
theorem Tryz.strings_TrimPrefix (s p : ByteArray) (w : World) :
    Calls Tryz.prog 242 #[.string s, .string p] w fun e w' => e = .returned (.string ⟨(Lib.trimPrefix s.data.toList p.data.toList).toArray⟩) ∧ w' = w := Any.strings_TrimPrefix Tryz.lays101 s p w
def Tryz.lays152_ren : Go.Shelf.Ren := ⟨fun | 152 => 223 | 137 => 216 | 119 => 244 | 224 => 229 | 225 => 228 | 217 => 227 | 266 => 245 | n => n, fun | 9 => 9 | 21 => 21 | 3 => 3 | 4 => 4 | 5 => 5 | 0 => 0 | 46 => 180 | n => n, fun | n => n⟩
theorem Tryz.lays152 : Go.Proofs.Lays.n152 Tryz.prog Tryz.lays152_ren := {
  mixed := by kernel_rfl
  f119 := Tryz.func244.trans (congrArg some (by kernel_rfl))
  f137 := Tryz.func216.trans (congrArg some (by kernel_rfl))
  f152 := Tryz.func223.trans (congrArg some (by kernel_rfl))
  f217 := Tryz.func227.trans (congrArg some (by kernel_rfl))
  f224 := Tryz.func229.trans (congrArg some (by kernel_rfl))
  f225 := Tryz.func228.trans (congrArg some (by kernel_rfl))
  f266 := Tryz.func245.trans (congrArg some (by kernel_rfl))
  t0 := Tryz.underlying0
  a0 := Tryz.isAgg0
  z0 := Tryz.sizeOf0
  v0 := Tryz.zeroValue0
  t3 := Tryz.underlying3
  a3 := Tryz.isAgg3
  z3 := Tryz.sizeOf3
  v3 := Tryz.zeroValue3
  t4 := Tryz.underlying4
  a4 := Tryz.isAgg4
  z4 := Tryz.sizeOf4
  v4 := Tryz.zeroValue4
  t5 := Tryz.underlying5
  a5 := Tryz.isAgg5
  z5 := Tryz.sizeOf5
  v5 := Tryz.zeroValue5
  t9 := Tryz.underlying9
  a9 := Tryz.isAgg9
  z9 := Tryz.sizeOf9
  v9 := Tryz.zeroValue9
  t21 := Tryz.underlying21
  a21 := Tryz.isAgg21
  z21 := Tryz.sizeOf21
  v21 := Tryz.zeroValue21
  t46 := Tryz.underlying180
  a46 := Tryz.isAgg180
  z46 := Tryz.sizeOf180
  v46 := Tryz.zeroValue180 }
open Go.RowKit Go.Lib in
theorem Tryz.strings_IndexRune_ascii (s : ByteArray) (r : Int) (w : World) (h0 : 0 ≤ r) (h1 : r < 128) :
    Calls Tryz.prog 223 #[.string s, .int .i32 r] w fun e w' => e = .returned (.int .i64 (Lib.indexByte s.data.toList r.toNat.toUInt8)) ∧ w' = w := Any.strings_IndexRune_ascii Tryz.lays152 s r w h0 h1
def Tryz.lays226_ren : Go.Shelf.Ren := ⟨fun | 226 => 224 | n => n, fun | 3 => 3 | 4 => 4 | n => n, fun | n => n⟩
theorem Tryz.lays226 : Go.Proofs.Lays.n226 Tryz.prog Tryz.lays226_ren := {
  mixed := by kernel_rfl
  f226 := Tryz.func224.trans (congrArg some (by kernel_rfl))
  t3 := Tryz.underlying3
  a3 := Tryz.isAgg3
  z3 := Tryz.sizeOf3
  v3 := Tryz.zeroValue3
  t4 := Tryz.underlying4
  a4 := Tryz.isAgg4
  z4 := Tryz.sizeOf4
  v4 := Tryz.zeroValue4 }
open Go.RowKit Go.Lib in
theorem Tryz.strings_shouldUseASCIISet (n : Int) (w : World) :
    Calls Tryz.prog 224 #[.int .i64 n] w fun e w' => e = .returned (.bool (decide (8 < n))) ∧ w' = w := Any.strings_shouldUseASCIISet Tryz.lays226 n w
def Tryz.lays153_ren : Go.Shelf.Ren := ⟨fun | 153 => 190 | 152 => 223 | 226 => 224 | 227 => 225 | 228 => 226 | 137 => 216 | 119 => 244 | 224 => 229 | 225 => 228 | 217 => 227 | 266 => 245 | n => n, fun | 9 => 9 | 3 => 3 | 4 => 4 | 5 => 5 | 21 => 21 | 117 => 177 | 116 => 176 | 0 => 0 | 46 => 180 | 124 => 188 | n => n, fun | n => n⟩
theorem Tryz.lays153 : Go.Proofs.Lays.n153 Tryz.prog Tryz.lays153_ren := {
  mixed := by kernel_rfl
  f119 := Tryz.func244.trans (congrArg some (by kernel_rfl))
  f137 := Tryz.func216.trans (congrArg some (by kernel_rfl))
  f152 := Tryz.func223.trans (congrArg some (by kernel_rfl))
  f153 := Tryz.func190.trans (congrArg some (by kernel_rfl))
  f217 := Tryz.func227.trans (congrArg some (by kernel_rfl))
  f224 := Tryz.func229.trans (congrArg some (by kernel_rfl))
  f225 := Tryz.func228.trans (congrArg some (by kernel_rfl))
  f226 := Tryz.func224.trans (congrArg some (by kernel_rfl))
  f227 := Tryz.func225.trans (congrArg some (by kernel_rfl))
  f228 := Tryz.func226.trans (congrArg some (by kernel_rfl))
  f266 := Tryz.func245.trans (congrArg some (by kernel_rfl))
  t0 := Tryz.underlying0
  a0 := Tryz.isAgg0
  z0 := Tryz.sizeOf0
  v0 := Tryz.zeroValue0
  t3 := Tryz.underlying3
  a3 := Tryz.isAgg3
  z3 := Tryz.sizeOf3
  v3 := Tryz.zeroValue3
  t4 := Tryz.underlying4
  a4 := Tryz.isAgg4
  z4 := Tryz.sizeOf4
  v4 := Tryz.zeroValue4
  t5 := Tryz.underlying5
  a5 := Tryz.isAgg5
  z5 := Tryz.sizeOf5
  v5 := Tryz.zeroValue5
  t9 := Tryz.underlying9
  a9 := Tryz.isAgg9
  z9 := Tryz.sizeOf9
  v9 := Tryz.zeroValue9
  t21 := Tryz.underlying21
  a21 := Tryz.isAgg21
  z21 := Tryz.sizeOf21
  v21 := Tryz.zeroValue21
  t46 := Tryz.underlying180
  a46 := Tryz.isAgg180
  z46 := Tryz.sizeOf180
  v46 := Tryz.zeroValue180
  t116 := Tryz.underlying176
  a116 := Tryz.isAgg176
  z116 := Tryz.sizeOf176
  t117 := Tryz.underlying177
  a117 := Tryz.isAgg177
  z117 := Tryz.sizeOf177
  v117 := Tryz.zeroValue177
  t124 := Tryz.underlying188
  a124 := Tryz.isAgg188
  z124 := Tryz.sizeOf188
  v124 := Tryz.zeroValue188 }
open Go.RowKit Go.Lib in
theorem Tryz.strings_IndexAny_long (hv116 : ∀ w, (zeroValue 176).run Tryz.prog w = .ok (.agg (Array.replicate 256 (.bool false))) w) (s chars : ByteArray) (w : World) (h2 : 2 ≤ chars.size) (h8 : 8 < s.size) (hs : s.size < 4294967281) (hcs : chars.size < 4294967281) (hascii : ∀ (j : Nat) b, chars.data.toList[j]? = some b → b.toNat < 128) :
    Calls Tryz.prog 190 #[.string s, .string chars] w fun e w' => e = .returned (.int .i64 (Lib.indexAny s.data.toList chars.data.toList)) ∧ w' = ((w.alloc (.cells (Lib.setCells chars.data.toList) 176)).alloc (.cells (Lib.setCells chars.data.toList) 176)) := Any.strings_IndexAny_long Tryz.lays153 hv116 (by kernel_rfl) s chars w h2 h8 hs hcs hascii
end Go.Proofs
namespace Go.Proofs.YtjpopekmbmcggaaGreatDoor
open Go
structure Cm where
  a : Option Addr
  n : Nat
  c : Nat
def Cm.val (x : Cm) : Value := .slice x.a x.n x.c
inductive Pts where
  | nil
  | cons (k : Int) (t o : ByteArray) (kids : Pts) (cm : Cm) (rest : Pts)
namespace Pts
def len : Pts → Nat
  | nil => 0
  | cons _ _ _ _ _ r => r.len + 1
def drop : Nat → Pts → Pts
  | 0, l => l
  | _ + 1, nil => nil
  | i + 1, cons _ _ _ _ _ r => r.drop i
def app : Pts → Pts → Pts
  | nil, r => r
  | cons k t o kids cm rest, r => cons k t o kids cm (rest.app r)
def wt : Pts → Nat
  | nil => 0
  | cons _ t o kids cm rest => 1 + t.size + o.size + cm.n + kids.wt + rest.wt
def deep : Pts → Nat
  | nil => 0
  | cons _ _ _ kids _ rest => max (kids.deep + 1) rest.deep
theorem drop_zero (l : Pts) : l.drop 0 = l := by cases l <;> rfl
theorem len_drop : ∀ (i : Nat) (l : Pts), (l.drop i).len = l.len - i
  | 0, l => by rw [drop_zero]; omega
  | _ + 1, nil => by simp [drop, len]
  | i + 1, cons k t o kids cm r => by rw [drop, len_drop i r, len]; omega
theorem drop_end (i : Nat) (l : Pts) (h : l.len ≤ i) : l.drop i = nil := by
  have h1 : (l.drop i).len = 0 := by rw [len_drop]; omega
  cases hl : l.drop i with
  | nil => rfl
  | cons _ _ _ _ _ r => rw [hl] at h1; simp [len] at h1
theorem drop_succ : ∀ (i : Nat) (l : Pts) {k : Int} {t o : ByteArray} {kids : Pts} {cm : Cm} {r : Pts}, l.drop i = cons k t o kids cm r → l.drop (i + 1) = r
  | 0, l, _, _, _, _, _, _, h => by rw [drop_zero] at h; subst h; rw [drop, drop_zero]
  | _ + 1, nil, _, _, _, _, _, _, h => by simp [drop] at h
  | i + 1, cons _ _ _ _ _ r, _, _, _, _, _, _, h => by rw [drop] at h; rw [drop]; exact drop_succ i r h
theorem drop_cons (i : Nat) (l : Pts) (h : i < l.len) : ∃ k t o kids cm r, l.drop i = cons k t o kids cm r := by
  cases hl : l.drop i with
  | nil => have := len_drop i l; rw [hl] at this; simp [len] at this; omega
  | cons k t o kids cm r => exact ⟨k, t, o, kids, cm, r, rfl⟩
theorem wt_drop : ∀ (i : Nat) (l : Pts), (l.drop i).wt ≤ l.wt
  | 0, l => by rw [drop_zero]; exact Nat.le_refl _
  | _ + 1, nil => by simp [drop]
  | i + 1, cons k t o kids cm r => by have := wt_drop i r; rw [drop, wt]; omega
theorem deep_drop : ∀ (i : Nat) (l : Pts) {k : Int} {t o : ByteArray} {kids : Pts} {cm : Cm} {r : Pts}, l.drop i = cons k t o kids cm r → kids.deep < l.deep
  | 0, l, _, _, _, _, _, _, h => by rw [drop_zero] at h; subst h; rw [deep]; omega
  | _ + 1, nil, _, _, _, _, _, _, h => by simp [drop] at h
  | i + 1, cons _ _ _ _ _ r, _, _, _, _, _, _, h => by rw [drop] at h; have := deep_drop i r h; rw [deep]; omega
theorem len_wt : ∀ l : Pts, l.len ≤ l.wt
  | nil => Nat.le_refl _
  | cons _ _ _ _ _ r => by have := len_wt r; rw [len, wt]; omega
theorem len_app : ∀ l r : Pts, (l.app r).len = l.len + r.len
  | nil, r => by simp [app, len]
  | cons _ _ _ _ _ l, r => by rw [app, len, len, len_app l r]; omega
theorem app_nil : ∀ l : Pts, l.app nil = l
  | nil => rfl
  | cons _ _ _ _ _ l => by rw [app, app_nil l]
def muchLoop : Pts → Nat → Nat
  | nil, n => n
  | cons _ t o kids cm rest, n => if n ≤ 1000 then muchLoop rest (n + t.size / 10 + o.size / 10 + cm.n + muchLoop kids kids.len) else n
def much (l : Pts) : Nat := muchLoop l l.len
theorem muchLoop_le : ∀ (l : Pts) (n : Nat), muchLoop l n + l.len ≤ n + l.wt
  | nil, n => by simp [muchLoop, len, wt]
  | cons k t o kids cm rest, n => by
    unfold muchLoop
    split
    · have h1 := muchLoop_le kids kids.len
      have h2 := muchLoop_le rest (n + t.size / 10 + o.size / 10 + cm.n + muchLoop kids kids.len)
      rw [wt, len]
      omega
    · have := len_wt rest
      rw [wt, len]
      omega
theorem much_le (l : Pts) : l.much ≤ l.wt := by
  have := muchLoop_le l l.len
  unfold much
  omega
end Pts
end Go.Proofs.YtjpopekmbmcggaaGreatDoor
namespace Go.Proofs.YtjpopekmbmcggaaGreatDoor.Chr
def cls (c : Nat) : Nat :=
  if c = 0 then 0 else if c = 32 ∨ c = 9 then 1 else if c = 10 then 2 else if 48 ≤ c ∧ c ≤ 57 then 3
  else if 97 ≤ c ∧ c ≤ 122 ∨ 65 ≤ c ∧ c ≤ 90 ∨ c = 95 then 4
  else if c = 38 ∨ c = 124 ∨ c = 59 ∨ c = 60 ∨ c = 62 ∨ c = 40 ∨ c = 41 then 5
  else if c = 39 ∨ c = 34 ∨ c = 92 ∨ c = 96 then 6 else if c = 36 then 7 else 8
def Sign (c : Nat) : Prop := c = 0 ∨ c = 32 ∨ c = 9 ∨ c = 10 ∨ c = 95 ∨ c = 38 ∨ c = 124 ∨ c = 59 ∨ c = 60 ∨ c = 62 ∨ c = 40 ∨ c = 41 ∨ c = 39 ∨ c = 34 ∨ c = 92 ∨ c = 96 ∨ c = 36
def Other (c : Nat) : Prop := (¬ c = 0 ∧ ¬ c = 32 ∧ ¬ c = 9 ∧ ¬ c = 10 ∧ ¬ c = 95 ∧ ¬ c = 38 ∧ ¬ c = 124 ∧ ¬ c = 59 ∧ ¬ c = 60 ∧ ¬ c = 62 ∧ ¬ c = 40 ∧ ¬ c = 41 ∧ ¬ c = 39 ∧ ¬ c = 34 ∧ ¬ c = 92 ∧ ¬ c = 96 ∧ ¬ c = 36) ∧ ¬ (48 ≤ c ∧ c ≤ 57) ∧ ¬ (97 ≤ c ∧ c ≤ 122) ∧ ¬ (65 ≤ c ∧ c ≤ 90)
theorem cls_cases (c : Nat) : Sign c ∨ (48 ≤ c ∧ c ≤ 57 ∧ cls c = 3) ∨ (97 ≤ c ∧ c ≤ 122 ∧ cls c = 4) ∨ (65 ≤ c ∧ c ≤ 90 ∧ cls c = 4) ∨ (Other c ∧ cls c = 8) := by
  by_cases h1 : 48 ≤ c ∧ c ≤ 57
  · have : cls c = 3 := by unfold cls; rw [if_neg (by omega), if_neg (by omega), if_neg (by omega), if_pos h1]
    exact .inr (.inl ⟨h1.1, h1.2, this⟩)
  by_cases h2 : 97 ≤ c ∧ c ≤ 122
  · have : cls c = 4 := by unfold cls; rw [if_neg (by omega), if_neg (by omega), if_neg (by omega), if_neg (by omega), if_pos (by omega)]
    exact .inr (.inr (.inl ⟨h2.1, h2.2, this⟩))
  by_cases h3 : 65 ≤ c ∧ c ≤ 90
  · have : cls c = 4 := by unfold cls; rw [if_neg (by omega), if_neg (by omega), if_neg (by omega), if_neg (by omega), if_pos (by omega)]
    exact .inr (.inr (.inr (.inl ⟨h3.1, h3.2, this⟩)))
  by_cases h4 : Sign c
  · exact .inl h4
  · have ho : Other c := by
      unfold Other
      refine ⟨?_, h1, h2, h3⟩
      unfold Sign at h4
      simp only [not_or] at h4
      exact h4
    have : cls c = 8 := by
      obtain ⟨h, _⟩ := ho
      unfold cls
      rw [if_neg (by omega), if_neg (by omega), if_neg (by omega), if_neg (by omega), if_neg (by omega), if_neg (by omega), if_neg (by omega), if_neg (by omega)]
    exact .inr (.inr (.inr (.inr ⟨ho, this⟩)))
theorem cls_high (c : Nat) (h128 : 128 ≤ c) : cls c = 8 := by
  rcases cls_cases c with h | h | h | h | h
  · unfold Sign at h
    omega
  all_goals omega
def special (c : Nat) : Bool := c == 64 || c == 42 || c == 35 || c == 63 || c == 45 || c == 36 || c == 33
def allFrom (p : Nat → Nat → Bool) : Nat → List UInt8 → Bool
  | _, [] => true
  | i, c :: r => p i c.toNat && allFrom p (i + 1) r
def okName (i c : Nat) : Bool := cls c == 4 || cls c == 3 && decide (0 < i)
def okDigit (_ c : Nat) : Bool := cls c == 3
def okAscii (_ c : Nat) : Bool := decide (c < 128)
def name (l : List UInt8) : Bool := allFrom okName 0 l && !l.isEmpty
def digits (l : List UInt8) : Bool := allFrom okDigit 0 l && !l.isEmpty
def ascii (l : List UInt8) : Bool := allFrom okAscii 0 l
theorem allFrom_mono {p q : Nat → Nat → Bool} (h : ∀ i c, p i c = true → q i c = true) : ∀ (i : Nat) (l : List UInt8), allFrom p i l = true → allFrom q i l = true
  | _, [], _ => rfl
  | i, c :: r, hp => by
    simp only [allFrom, Bool.and_eq_true] at hp ⊢
    exact ⟨h _ _ hp.1, allFrom_mono h _ r hp.2⟩
theorem allFrom_at {p : Nat → Nat → Bool} : ∀ (i : Nat) (l : List UInt8), allFrom p i l = true → ∀ (k : Nat) (h : k < l.length), p (i + k) (l[k].toNat) = true
  | i, c :: r, hp, 0, _ => by simp only [allFrom, Bool.and_eq_true] at hp; exact hp.1
  | i, c :: r, hp, k + 1, h => by
    simp only [allFrom, Bool.and_eq_true] at hp
    have := allFrom_at (i + 1) r hp.2 k (by simpa using h)
    rw [show i + (k + 1) = i + 1 + k by omega]
    simpa using this
theorem allFrom_drop (p : Nat → Nat → Bool) (l : List UInt8) (k : Nat) (h : k < l.length) : allFrom p k (l.drop k) = (p k (l[k].toNat) && allFrom p (k + 1) (l.drop (k + 1))) := by
  rw [List.drop_eq_getElem_cons h]
  rfl
theorem allFrom_end (p : Nat → Nat → Bool) (l : List UInt8) (k : Nat) (h : ¬ k < l.length) : allFrom p k (l.drop k) = true := by
  rw [List.drop_of_length_le (by omega)]
  rfl
theorem name_ascii (l : List UInt8) (h : name l = true) : ascii l = true := by
  unfold name at h
  rw [Bool.and_eq_true] at h
  refine allFrom_mono ?_ 0 l h.1
  intro i c hp
  unfold okName at hp
  unfold okAscii
  rw [decide_eq_true_eq]
  have := cls_high c
  rcases Nat.lt_or_ge c 128 with h1 | h1
  · exact h1
  · rw [this h1] at hp; simp at hp
theorem digits_ascii (l : List UInt8) (h : digits l = true) : ascii l = true := by
  unfold digits at h
  rw [Bool.and_eq_true] at h
  refine allFrom_mono ?_ 0 l h.1
  intro i c hp
  unfold okDigit at hp
  unfold okAscii
  rw [decide_eq_true_eq]
  have := cls_high c
  rcases Nat.lt_or_ge c 128 with h1 | h1
  · exact h1
  · rw [this h1] at hp; simp at hp
def assignFrom (l : List UInt8) : Nat → Nat → Int
  | _, 0 => -1
  | i, n + 1 => if (l.getD i 0).toNat = 61 then (if name (l.take i) then (i : Int) else -1) else assignFrom l (i + 1) n
def assign (l : List UInt8) : Int := assignFrom l 0 l.length
end Go.Proofs.YtjpopekmbmcggaaGreatDoor.Chr
namespace Go.Proofs.YtjpopekmbmcggaaGreatDoor
open Go
def hd0 : List UInt8 → UInt8
  | [] => 0
  | c :: _ => c
def ld0 (l : List UInt8) : UInt8 := hd0 l.reverse
def special24 (c : Int) : Bool := c == 36 || c == 96 || c == 34 || c == 92
def dollarB (c : Nat) : Bool := ((Chr.cls c : Int) != 4) && ((Chr.cls c : Int) != 3) && !Chr.special c && ((c : Int) != 123) && ((c : Int) != 40)
def litAt (p : Nat) (c : Nat) (nx : Option Nat) : Bool :=
  if (Chr.cls c : Int) == 0 then false
  else if (c : Int) == 36 && (match nx with | some d => !dollarB d | none => false) then false
  else if p = 0 then ((Chr.cls c : Int) == 3 || (Chr.cls c : Int) == 4 || (Chr.cls c : Int) == 8 || (Chr.cls c : Int) == 7)
  else if p = 2 then !((c : Int) == 125 || (Chr.cls c : Int) == 6)
  else if (c : Int) == 34 || (c : Int) == 96 then false
  else !((c : Int) == 92 && (match nx with | some d => special24 d || (d : Int) == 10 | none => true))
def litGo (p : Nat) : List UInt8 → Bool
  | [] => true
  | c :: r => litAt p c.toNat (r.head?.map (·.toNat)) && litGo p r
def litB (p : Nat) (l : List UInt8) : Bool := litGo p l && !l.isEmpty
def clearB (n : Int) (l : List UInt8) : Bool := l.all fun c => !((c.toNat : Int) == 0 || (c.toNat : Int) == n)
def arithGo : Int → List UInt8 → Bool
  | n, [] => n == 0
  | n, c :: r =>
    if (c.toNat : Int) == 0 then false
    else if (c.toNat : Int) == 40 then arithGo (n + 1) r
    else if (c.toNat : Int) == 41 then (if n - 1 < 0 then false else arithGo (n - 1) r)
    else arithGo n r
def opsL : List (List UInt8) := [[58, 45], [45], [58, 61], [61], [58, 63], [63], [58, 43], [43], [37], [37, 37], [35], [35, 35]]
def opB (o : List UInt8) : Bool := opsL.any (· == o)
def namedB (t : List UInt8) : Bool := Chr.name t || Chr.digits t || (t.length == 1 && Chr.special (hd0 t).toNat)
def paramB (t o : List UInt8) (kl : Nat) (hk : Int) (ht : List UInt8) (aB : Bool) : Bool :=
  if !namedB t then false
  else if o == [] || o == [108, 101, 110] then (kl : Int) == 0
  else if !opB o || t == [35] || !aB then false
  else if !(o == [37]) && !(o == [35]) || (kl : Int) == 0 then true
  else hk != 1 || !((hd0 ht) == (hd0 o))
def plain1 (k : Int) (o : List UInt8) (kl cn : Nat) : Bool := (k != 5) && !o.isEmpty || (k != 5) && (k != 4) && decide (0 < kl) || (k != 6) && decide (0 < cn)
def oneB (p : Nat) (k : Int) (t o : List UInt8) (kl cn : Nat) (hk : Int) (ht : List UInt8) (aD aB : Bool) : Bool :=
  if plain1 k o kl cn then false
  else if k == 1 then litB p t
  else if k == 2 then (t.length == 1) && !((hd0 t) == 0) && !((hd0 t) == 10) && (p != 1 || special24 (hd0 t).toNat)
  else if k == 3 then p != 1 && clearB 39 t
  else if k == 4 then p != 1 && t.isEmpty && aD
  else if k == 5 then paramB t o kl hk ht aB
  else if k == 6 then t.isEmpty
  else if k == 7 then arithGo 0 t
  else false
def meetB (pv : Option (List UInt8)) (k : Int) : Bool :=
  match pv with
  | none => true
  | some t => !(k == 1 || (ld0 t == 36) && (k == 5 || k == 6 || k == 7))
namespace Pts
def headK : Pts → Int
  | nil => 0
  | cons k _ _ _ _ _ => k
def headT : Pts → List UInt8
  | nil => []
  | cons _ t _ _ _ _ => t.toList
def allP (p : Nat) (pv : Option (List UInt8)) : Pts → Bool
  | nil => true
  | cons k t o kids cm rest => oneB p k t.toList o.toList kids.len cm.n kids.headK kids.headT (allP 1 none kids) (allP 2 none kids) && meetB pv k && allP p (if k = 1 then some t.toList else none) rest
def right (l : Pts) : Bool := !(l.len == 0) && l.allP 0 none && (!(l.headK == 1) || !(hd0 l.headT == 35))
end Pts
theorem litGo_step (p : Nat) (s : List UInt8) (k : Nat) (c : UInt8) (r : List UInt8) (h : s.drop k = c :: r) : litGo p (s.drop k) = (litAt p c.toNat (r.head?.map (·.toNat)) && litGo p r) := by rw [h]; rfl
theorem oneB_lit {p : Nat} {t o : List UInt8} {kl cn : Nat} {hk : Int} {ht : List UInt8} {aD aB : Bool} (h : oneB p 1 t o kl cn hk ht aD aB = true) : t ≠ [] ∧ o = [] ∧ kl = 0 ∧ cn = 0 ∧ litB p t = true := by
  unfold oneB at h
  by_cases h1 : plain1 1 o kl cn
  · rw [if_pos h1] at h; cases h
  · rw [if_neg h1, if_pos (show ((1 : Int) == 1) = true from rfl)] at h
    have hl := h
    unfold litB at h
    unfold plain1 at h1
    simp at h1 h
    refine ⟨h.2, h1.1.1, ?_, ?_, hl⟩
    · have := h1.1.2; omega
    · have := h1.2; omega
end Go.Proofs.YtjpopekmbmcggaaGreatDoor
namespace Go.Proofs.YtjpopekmbmcggaaGreatDoor
open Go.RowKit
def bs (l : List UInt8) : Value := .string ⟨l.toArray⟩
theorem ret_int {k : IntKind} {a b : Int} (h : a = b) : Ending.returned (.int k a) = .returned (.int k b) := by rw [h]
theorem ret_bool {a b : Bool} (h : a = b) : Ending.returned (.bool a) = .returned (.bool b) := by rw [h]
theorem size_list (s : ByteArray) : s.size = s.toList.length := by rw [Lib.toList_data]; exact Lib.size_eq s
theorem ext_list {s t : ByteArray} (h : s.toList = t.toList) : s = t := by
  rw [Lib.toList_data, Lib.toList_data] at h
  rw [← Lib.mk_data s, ← Lib.mk_data t, h]
theorem mk_list (s : ByteArray) : (⟨s.toList.toArray⟩ : ByteArray) = s := by rw [Lib.toList_data, Lib.mk_data]
theorem list_mk (l : List UInt8) : (⟨l.toArray⟩ : ByteArray).toList = l := ByteArray.toList_mk l
theorem empty_list : ByteArray.empty.toList = [] := list_mk []
theorem empty_iff (s : ByteArray) : s = ByteArray.empty ↔ s.toList = [] := ⟨fun e => by rw [e, empty_list], fun e => ext_list (by rw [e, empty_list])⟩
theorem extract_list (s : ByteArray) (a b : Nat) : (s.extract a b).toList = (s.toList.drop a).take (b - a) := by rw [Lib.extract_toList, Lib.toList_data]
theorem take_list (s : ByteArray) (b : Nat) : (s.extract 0 b).toList = s.toList.take b := by rw [extract_list]; simp
theorem drop_list (s : ByteArray) (a : Nat) : (s.extract a s.size).toList = s.toList.drop a := by
  rw [extract_list, size_list]; exact List.take_of_length_le (by simp)
theorem get_list (s : ByteArray) (i : Nat) (h : i < s.size) : s.toList[i]'(by rw [← size_list]; exact h) = s[i] := by
  have e := Lib.toList_data s
  simp only [e]
  rfl
theorem get?_list (s : ByteArray) (i : Nat) (h : i < s.size) : s.toList[i]? = some s[i] := by
  rw [← get_list s i h]; exact List.getElem?_eq_getElem _
theorem block_add (a : Addr) (n : Nat) : (a.add n).block = a.block := by unfold Addr.add; split <;> rfl
def Row (w : World) (B size : Nat) (A : Option Addr) (n : Nat) (xs : List Value) : Prop :=
  xs.length = n * size ∧ (0 < n → ∃ ad, A = some ad ∧ ad.block < B ∧ ∀ j u, xs[j]? = some u → w.cell? (ad.add j) = some u)
section
variable {w w' : World} {B B' size n : Nat} {A : Option Addr} {xs : List Value}
theorem Row.nil : Row w B size A 0 [] := ⟨by simp, fun h => absurd h (by omega)⟩
theorem Row.keep (h : Row w B size A n xs) (hk : ∀ p : Addr, p.block < B → w'.cell? p = w.cell? p) : Row w' B size A n xs :=
  ⟨h.1, fun hn => by
    obtain ⟨ad, e, hb, hc⟩ := h.2 hn
    exact ⟨ad, e, hb, fun j u hu => (hk _ (by rw [block_add]; exact hb)).trans (hc j u hu)⟩⟩
theorem Row.more (h : Row w B size A n xs) (hB : B ≤ B') : Row w B' size A n xs :=
  ⟨h.1, fun hn => by
    obtain ⟨ad, e, hb, hc⟩ := h.2 hn
    exact ⟨ad, e, by omega, hc⟩⟩
theorem Row.below (h : Row w B size A n xs) (hb : Below B w w') : Row w' B size A n xs := h.keep fun _ hp => hb.cell hp
theorem Row.alloc (h : Row w B size A n xs) (hB : B ≤ w.heap.size) (o : Obj) : Row (w.alloc o) B size A n xs := h.keep fun p hp => World.cell?_alloc_lt w o p (by omega)
theorem Row.drew (h : Row w B size A n xs) : Row w.drew B size A n xs := h
end
theorem own_shape {w : World} {base size n : Nat} {e : TypeId} {v : Value} {xs : List Value} (h : w.ownsRow base e size v n xs) : ∃ A c, v = .slice A n c ∧ n ≤ c ∧ c ≤ maxLen := by
  rcases h.2 with ⟨rfl, rfl⟩ | ⟨g, cap, cur, rfl, _, _, h1, h2, _⟩
  · exact ⟨none, 0, rfl, Nat.le_refl _, by simp [maxLen]⟩
  · exact ⟨_, cap, rfl, h1, h2⟩
theorem bcell {W w1 : World} (hb : Below W.heap.size W w1) : (∀ b o, b < W.heap.size → w1.cell? ⟨b, o, none⟩ = W.cell? ⟨b, o, none⟩) ∧ (∀ b o, b < W.heap.size → w1.frozen? ⟨b, o, none⟩ = W.frozen? ⟨b, o, none⟩) :=
  ⟨fun b o h => hb.cell (p := ⟨b, o, none⟩) h, fun b o h => hb.frozen (p := ⟨b, o, none⟩) h⟩
theorem belowN {B : Nat} {a w : World} (h : Below B a w) (n : Nat) : Below B a (w.drewN n) := ⟨h.os, h.tape, h.output, h.size, h.block⟩
end Go.Proofs.YtjpopekmbmcggaaGreatDoor
namespace Go.Proofs.YtjpopekmbmcggaaGreatDoor
open Go.RowKit
def PtsAt (G : Nat → Prop) (w : World) : Option Addr → Nat → Pts → Prop
  | _, _, .nil => True
  | A, i, .cons k t o kids cm rest => ∃ (b off : Nat) (Ak : Option Addr) (ck : Nat), A = some ⟨b, off, none⟩ ∧ G b ∧
      w.cell? ⟨b, off + i * 5, none⟩ = some (.int .i64 k) ∧ w.cell? ⟨b, off + i * 5 + 1, none⟩ = some (.string t) ∧ w.cell? ⟨b, off + i * 5 + 2, none⟩ = some (.string o) ∧
      w.cell? ⟨b, off + i * 5 + 3, none⟩ = some (.slice Ak kids.len ck) ∧ w.cell? ⟨b, off + i * 5 + 4, none⟩ = some cm.val ∧ kids.len ≤ ck ∧ PtsAt G w Ak 0 kids ∧ PtsAt G w A (i + 1) rest
theorem PtsAt.keep {G : Nat → Prop} {w w' : World} (hk : ∀ p : Addr, G p.block → w'.cell? p = w.cell? p) : ∀ {l : Pts} {A : Option Addr} {i : Nat}, PtsAt G w A i l → PtsAt G w' A i l
  | .nil, _, _, _ => trivial
  | .cons k t o kids cm rest, A, i, h => by
    obtain ⟨b, off, Ak, ck, hA, hG, c0, c1, c2, c3, c4, hl, h1, h2⟩ := h
    exact ⟨b, off, Ak, ck, hA, hG, (hk _ hG).trans c0, (hk _ hG).trans c1, (hk _ hG).trans c2, (hk _ hG).trans c3, (hk _ hG).trans c4, hl, h1.keep hk, h2.keep hk⟩
theorem PtsAt.more {G G' : Nat → Prop} {w : World} (hG : ∀ k, G k → G' k) : ∀ {l : Pts} {A : Option Addr} {i : Nat}, PtsAt G w A i l → PtsAt G' w A i l
  | .nil, _, _, _ => trivial
  | .cons k t o kids cm rest, A, i, h => by
    obtain ⟨b, off, Ak, ck, hA, hg, c0, c1, c2, c3, c4, hl, h1, h2⟩ := h
    exact ⟨b, off, Ak, ck, hA, hG _ hg, c0, c1, c2, c3, c4, hl, h1.more hG, h2.more hG⟩
theorem PtsAt.at_ {G : Nat → Prop} {w : World} : ∀ {l : Pts} {A : Option Addr} {i : Nat} (j : Nat), PtsAt G w A i l → PtsAt G w A (i + j) (l.drop j)
  | l, A, i, 0, h => by rw [Pts.drop_zero]; exact h
  | .nil, _, _, _ + 1, _ => trivial
  | .cons k t o kids cm rest, A, i, j + 1, h => by
    obtain ⟨b, off, Ak, ck, hA, hG, c0, c1, c2, c3, c4, hl, h1, h2⟩ := h
    have := h2.at_ j
    rw [Pts.drop]
    rw [show i + (j + 1) = i + 1 + j by omega]
    exact this
theorem PtsAt.drewN {G : Nat → Prop} {w : World} {l : Pts} {A : Option Addr} {i : Nat} (h : PtsAt G w A i l) (n : Nat) : PtsAt G (w.drewN n) A i l :=
  h.keep fun p _ => by simp
end Go.Proofs.YtjpopekmbmcggaaGreatDoor
namespace Go.Proofs.YtjpopekmbmcggaaGreatDoor
open Go.RowKit
namespace Pts
def count : Pts → Nat
  | nil => 0
  | cons _ _ _ kids _ rest => 1 + kids.count + rest.count
theorem count_wt : ∀ l : Pts, l.count ≤ l.wt
  | nil => Nat.le_refl _
  | cons _ _ _ kids _ rest => by have := count_wt kids; have := count_wt rest; rw [count, wt]; omega
end Pts
end Go.Proofs.YtjpopekmbmcggaaGreatDoor
namespace Go.Proofs.YtjpopekmbmcggaaGreatDoor
open Go.RowKit
def WrA (P : Program) (ts : Array TypeId) (ty : TypeId) (vs : Array Value) (w : World) : Result Value := (Builtin.append_ ts ty vs).run P w
theorem wp_append_wr {P : Program} {d : Option Tmp} {s x : Operand} {t t' ty : TypeId} {pos : String} {af : Array Edge} {g : Option (Nat × Bool)} {a : Act} {w : World} {K : Act → World → Prop} {Q : Exit → Act → World → Prop} :
    Oper.wp P ⟨d, .call ⟨.builtin .append, #[s, x], #[t, t']⟩, ty, pos, af, g⟩ a w K Q =
      Oper.upon P ⟨d, .call ⟨.builtin .append, #[s, x], #[t, t']⟩, ty, pos, af, g⟩ a K Q ((WrA P #[t, t'] ty #[a.eval s, a.eval x] w).andThen fun v w' => .ok (.value v) w') := by
  unfold Oper.wp execOp WrA
  simp only [resolve, invoke, builtin, Sem.run_bind, Sem.run_pure, Result.andThen_ok, List.map_toArray, List.map_cons, List.map_nil]
theorem WrA.of {P : Program} {ts : Array TypeId} {ty : TypeId} {vs : Array Value} {w w' : World} {v : Value} (h : (Builtin.append_ ts ty vs).run P w = .ok v w') : WrA P ts ty vs w = .ok v w' := h
end Go.Proofs.YtjpopekmbmcggaaGreatDoor
