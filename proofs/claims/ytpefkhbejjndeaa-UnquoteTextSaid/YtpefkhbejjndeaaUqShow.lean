/- conchref25.Show of a word that has a text without quotes, no texts of commands; unquote.Plain: walked. -/
import Derived.Test.YtpefkhbejjndeaaUqText
import Derived.Test.YtpefkhbejjndeaaWordShow
namespace Go.Proofs.Ytpefkhbejjndeaa
open Go.RowKit

/-- Such a word as text. -/
def Pts.sht : Pts → List UInt8
  | .nil => []
  | .cons k t _ kids _ r => (if k = 1 then t.toList else if k = 2 then [92] ++ t.toList else if k = 3 then [39] ++ t.toList ++ [39] else [34] ++ kids.sht ++ [34]) ++ r.sht
theorem Pts.sht_len : ∀ l : Pts, l.sht.length ≤ 3 * l.wt
  | .nil => by simp [Pts.sht]
  | .cons k t o kids cm r => by
    have h1 := Pts.sht_len r
    have h2 := Pts.sht_len kids
    have ht := size_list t
    rw [Pts.sht, Pts.wt, List.length_append]
    split
    · omega
    · split
      · rw [List.length_append]; simp only [List.length_cons, List.length_nil]; omega
      · split
        · rw [List.length_append, List.length_append]; simp only [List.length_cons, List.length_nil]; omega
        · rw [List.length_append, List.length_append]; simp only [List.length_cons, List.length_nil]; omega
/-- The text without quotes is no longer. -/
theorem Pts.utx_sht : ∀ (l : Pts) (s : List UInt8), l.utx = some s → s.length ≤ l.sht.length
  | .nil, s, h => by simp [Pts.utx] at h; subst h; simp
  | .cons k t o kids cm r, s, h => by
    unfold Pts.utx at h
    rw [Pts.sht, List.length_append]
    by_cases h1 : k = 1 ∨ k = 2 ∨ k = 3
    · rw [if_pos h1] at h
      cases hr : r.utx with
      | none => rw [hr] at h; simp at h
      | some x =>
        rw [hr] at h
        simp at h
        have := Pts.utx_sht r x hr
        rw [← h, List.length_append]
        split
        · omega
        · split
          · rw [List.length_append]; omega
          · split
            · rw [List.length_append, List.length_append]; omega
            · omega
    · rw [if_neg h1] at h
      by_cases h4 : k = 4
      · rw [if_pos h4] at h
        cases hk : kids.utx with
        | none => rw [hk] at h; simp at h
        | some y =>
          rw [hk] at h
          cases hr : r.utx with
          | none => rw [hr] at h; simp at h
          | some x =>
            rw [hr] at h
            simp at h
            have := Pts.utx_sht r x hr
            have := Pts.utx_sht kids y hk
            rw [← h, List.length_append, if_neg (by omega), if_neg (by omega), if_neg (by omega), List.length_append, List.length_append]
            omega
      · rw [if_neg h4] at h; cases h
/-- What comes behind a part of a word that has a text has one, too; and so has what is within it. -/
theorem Pts.utx_cons {k : Int} {t o : ByteArray} {kids r : Pts} {cm : Cm} (h : (Pts.cons k t o kids cm r).utx.isSome = true) : r.utx.isSome = true ∧ (k = 1 ∨ k = 2 ∨ k = 3 ∨ (k = 4 ∧ kids.utx.isSome = true)) := by
  unfold Pts.utx at h
  by_cases h1 : k = 1 ∨ k = 2 ∨ k = 3
  · rw [if_pos h1] at h
    cases hr : r.utx with
    | none => rw [hr] at h; cases h
    | some x => exact ⟨rfl, by rcases h1 with h1 | h1 | h1 <;> simp [h1]⟩
  · rw [if_neg h1] at h
    by_cases h4 : k = 4
    · rw [if_pos h4] at h
      cases hk : kids.utx with
      | none => rw [hk] at h; cases h
      | some y =>
        rw [hk] at h
        cases hr : r.utx with
        | none => rw [hr] at h; cases h
        | some x => exact ⟨rfl, .inr (.inr (.inr ⟨h4, rfl⟩))⟩
    · rw [if_neg h4] at h; cases h

/-- conchref25.show, of words of depth below n. -/
def ShAt (n : Nat) : Prop := ∀ (l : Pts) (G : Nat → Prop) (A : Option Addr) (c : Nat) (w : World), l.deep < n → l.wt ≤ 1073741824 → l.utx.isSome = true → (∀ k, G k → k < w.heap.size) → PtsAt G w A 0 l →
  Calls Try.prog 71 #[.slice A l.len c, .slice none 0 0] w fun e w' => e = .returned (.tuple #[bs l.sht, .slice none 0 0]) ∧ Below w.heap.size w w'
def one25 (k : Int) (t : ByteArray) (kids : Pts) : List UInt8 := if k = 1 then t.toList else if k = 2 then [92] ++ t.toList else if k = 3 then [39] ++ t.toList ++ [39] else [34] ++ kids.sht ++ [34]
theorem adds (a b : List UInt8) (h : a.length + b.length ≤ 1099511627776) (W : World) : (Op.stringOp .add ⟨a.toArray⟩ ⟨b.toArray⟩).run Try.prog W = .ok (.string ⟨(a ++ b).toArray⟩) W := by
  have := run_string_add_sum (P := Try.prog) W ⟨a.toArray⟩ ⟨b.toArray⟩ (by rw [size_lit, size_lit]; omega)
  rw [this, ByteArray.mk_append_mk]

set_option maxRecDepth 100000 in
set_option maxHeartbeats 4000000 in
theorem one25_r (n : Nat) (IH : ShAt n) (k : Int) (t o : ByteArray) (kids : Pts) (A : Option Addr) (c : Nat) (cm : Cm) (G : Nat → Prop) (w : World) (hk : k = 1 ∨ k = 2 ∨ k = 3 ∨ (k = 4 ∧ kids.utx.isSome = true)) (hd : kids.deep < n) (hts : t.size ≤ 1073741824) (hwt : kids.wt ≤ 1073741824) (hG : ∀ k, G k → k < w.heap.size) (hp : PtsAt G w A 0 kids) :
    Calls Try.prog 92 #[.agg #[.int .i64 k, .string t, .string o, .slice A kids.len c, .slice cm.a cm.n cm.c], .slice none 0 0] w fun e w' => e = .returned (.tuple #[bs (one25 k t kids), .slice none 0 0]) ∧ Below w.heap.size w w' := by
  have hb : Below w.heap.size w (w.alloc (.cells #[.int .i64 k, .string t, .string o, .slice A kids.len c, .slice cm.a cm.n cm.c] 41)) := (Below.refl _ _).alloc (Nat.le_refl _) _
  have hpn := hp.old hG hb
  have HPN := Lib.hid hpn; have HB := Lib.hid hb
  have HGN := Lib.hid (show ∀ j, G j → j < (w.alloc (.cells #[.int .i64 k, .string t, .string o, .slice A kids.len c, .slice cm.a cm.n cm.c] 41)).heap.size from fun j hj => Nat.lt_of_lt_of_le (hG j hj) hb.size)
  have hsl := Pts.sht_len kids
  have HIH := Lib.hid IH
  clear hpn hp hb hG IH
  obtain ⟨tl, rfl⟩ : ∃ tl : List UInt8, t = ⟨tl.toArray⟩ := ⟨t.toList, by rw [mk_list]⟩
  have htl : tl.length ≤ 1073741824 := by rw [size_lit] at hts; exact hts
  have hT : (⟨tl.toArray⟩ : ByteArray).toList = tl := by rw [Lib.toList_data]
  rcases hk with rfl | rfl | rfl | ⟨rfl, hku⟩
  · go_enter Try.func92, Try.ntmps92
    go_wp2_with fail
    go_ret2
    exact ⟨by rw [show one25 1 ⟨tl.toArray⟩ kids = tl from hT]; rfl, HB.out⟩
  · have h1 := adds [92] tl (by simp; omega)
    go_enter Try.func92, Try.ntmps92
    go_wp2_with fail
    go_ret2
    exact ⟨by rw [show one25 2 ⟨tl.toArray⟩ kids = [92] ++ tl from by unfold one25; rw [hT]; rfl]; rfl, HB.out⟩
  · have h1 := adds [39] tl (by simp; omega)
    have h2 := adds ([39] ++ tl) [39] (by simp; omega)
    go_enter Try.func92, Try.ntmps92
    go_wp2_with fail
    go_ret2
    exact ⟨by rw [show one25 3 ⟨tl.toArray⟩ kids = [39] ++ tl ++ [39] from by unfold one25; rw [hT]; rfl]; rfl, HB.out⟩
  · have HKU := Lib.hid hku
    have HO := Lib.hid (show one25 4 ⟨tl.toArray⟩ kids = [34] ++ kids.sht ++ [34] from rfl)
    have h1 := adds [34] kids.sht (by simp; omega)
    have h2 := adds ([34] ++ kids.sht) [34] (by simp; omega)
    clear hku
    go_enter Try.func92, Try.ntmps92
    go_wp2_with fail
    refine (HIH.out kids G A c _ hd hwt HKU.out HGN.out HPN.out).mono ?_
    rintro e w1 ⟨rfl, hb1⟩
    have HB1 := Lib.hid (HB.out.trans (hb1.mono HB.out.size))
    clear hb1
    unfold bs
    go_wp2_with fail
    go_ret2
    exact ⟨by rw [HO.out]; rfl, HB1.out⟩
end Go.Proofs.Ytpefkhbejjndeaa
