/- How much unquote.Text writes before it gives up: little, where conchlaw24.Much lets a right word through. No program in sight. -/
import Derived.Test.YtpefkhbejjndeaaUqText
import Derived.Test.YtpefkhbejjndeaaUqShow
import Derived.Test.YtpefkhbejjndeaaMuchW
import Derived.Test.YtpefkhbejjndeaaPartPlain
import Derived.Test.YtpefkhbejjndeaaUqAssign
namespace Go.Proofs.Ytpefkhbejjndeaa
open Go Go.RowKit

theorem wrap_sameB (x : Int) (h : -9223372036854775808 ≤ x ∧ x ≤ 9223372036854775807) : wrap64 x = x := by unfold wrap64; omega
namespace Pts
/-- How many bytes are written till a part is met that has no text. -/
def wr : Pts → Nat
  | nil => 0
  | cons k t _ kids _ r => if k = 1 ∨ k = 2 ∨ k = 3 then t.size + r.wr else if k = 4 then kids.wr + (if kids.utx.isSome = true then r.wr else 0) else 0
theorem wr_wt : ∀ l : Pts, l.wr ≤ l.wt
  | nil => Nat.le_refl _
  | cons k t o kids cm r => by
    have h1 := wr_wt kids; have h2 := wr_wt r
    rw [wr, wt]
    by_cases a : k = 1 ∨ k = 2 ∨ k = 3
    · rw [if_pos a]; omega
    · rw [if_neg a]
      by_cases b : k = 4
      · rw [if_pos b]
        split <;> omega
      · rw [if_neg b]; omega
theorem utx_wr : ∀ (l : Pts) (s : List UInt8), l.utx = some s → s.length ≤ l.wr
  | .nil, s, h => by simp [Pts.utx] at h; subst h; simp
  | .cons k t o kids cm r, s, h => by
    unfold Pts.utx at h
    rw [Pts.wr]
    by_cases h1 : k = 1 ∨ k = 2 ∨ k = 3
    · rw [if_pos h1] at h ⊢
      cases hr : r.utx with
      | none => rw [hr] at h; simp at h
      | some x =>
        rw [hr] at h
        simp at h
        have := Pts.utx_wr r x hr
        rw [← h, List.length_append, ← size_list]
        omega
    · rw [if_neg h1] at h ⊢
      by_cases h4 : k = 4
      · rw [if_pos h4] at h ⊢
        cases hk : kids.utx with
        | none => rw [hk] at h; simp at h
        | some y =>
          rw [hk] at h
          cases hr : r.utx with
          | none => rw [hr] at h; simp at h
          | some x =>
            rw [hr] at h
            simp at h
            have := Pts.utx_wr r x hr
            have := Pts.utx_wr kids y hk
            rw [← h, List.length_append]
            simp only [Option.isSome_some, if_true]
            omega
      · rw [if_neg h4] at h; cases h
theorem muchLoopW_big (r : Pts) {n : Int} (h : 1000 < n) : muchLoopW r n = n := by
  cases r with
  | nil => rfl
  | cons k t o kids cm rest => rw [muchLoopW, if_neg (by omega)]
/-- What the count tells of parts within double quotes. -/
def KOk (C D : Int) (l : Pts) : Prop :=
  ((1000 < l.muchW ∧ l.muchW ≤ C) ∨ (l.wr : Int) ≤ D) ∧ (l.utx.isSome = true → 0 ≤ l.muchW ∧ l.muchW ≤ C ∧ (l.muchW ≤ 1000 → (l.wt : Int) ≤ 30 * l.muchW))
theorem one_plain {p : Nat} {k : Int} {t o : List UInt8} {kl cn : Nat} {hk : Int} {ht : List UInt8} {aD aB : Bool} (h : oneB p k t o kl cn hk ht aD aB = true) : plain1 k o kl cn = false := by
  cases hq : plain1 k o kl cn with
  | false => rfl
  | true => unfold oneB at h; rw [hq] at h; cases h
theorem loop_ok (C D : Int) (hC0 : 0 ≤ C) (hC : C ≤ 1152921504606846976) (hD : 0 ≤ D) (p : Nat) (hk : p = 1 ∨ ∀ kids : Pts, kids.allP 1 none = true → kids.mx ≤ 140737488355328 → KOk C D kids) :
    ∀ (l : Pts) (pv : Option (List UInt8)) (n : Int), l.allP p pv = true → l.mx ≤ 140737488355328 → 0 ≤ n → n ≤ 1000 →
      ((1000 < muchLoopW l n ∧ muchLoopW l n ≤ C + 562949953421312) ∨ (l.wr : Int) + 30 * n ≤ D + 30000 + 19 * (l.len : Int)) ∧
      (l.utx.isSome = true → n ≤ muchLoopW l n ∧ muchLoopW l n ≤ C + 562949953421312 ∧ (muchLoopW l n ≤ 1000 → (l.wt : Int) + 30 * n ≤ 30 * muchLoopW l n + 19 * (l.len : Int)))
  | nil, pv, n, _, _, h0, h1 => by
    rw [muchLoopW]
    exact ⟨.inr (by rw [wr, len]; omega), fun _ => ⟨Int.le_refl _, by omega, fun _ => by rw [wt, len]; omega⟩⟩
  | cons k t o kids cm r, pv, n, ha, hm, h0, h1 => by
    rw [allP] at ha
    simp only [Bool.and_eq_true] at ha
    have hone := ha.1.1
    have ha2 := ha.2
    have hmc := mx_cons k t o kids cm r
    have hpl := one_plain hone
    have IH := fun (n' : Int) (q0 : 0 ≤ n') (q1 : n' ≤ 1000) => loop_ok C D hC0 hC hD p hk r _ n' ha2 (by omega) q0 q1
    rw [muchLoopW, if_pos h1]
    have hkt : kids.mx ≤ 140737488355328 := by omega
    obtain ⟨x, hx⟩ : ∃ x : Int, (t.size : Int) / 10 = x := ⟨_, rfl⟩
    obtain ⟨y, hy⟩ : ∃ y : Int, (o.size : Int) / 10 = y := ⟨_, rfl⟩
    obtain ⟨z, hz⟩ : ∃ z : Int, (cm.n : Int) = z := ⟨_, rfl⟩
    have bx : 0 ≤ x ∧ x ≤ 140737488355328 ∧ (t.size : Int) ≤ 10 * x + 9 := by omega
    have by_ : 0 ≤ y ∧ y ≤ 140737488355328 ∧ (o.size : Int) ≤ 10 * y + 9 := by omega
    have bz : 0 ≤ z ∧ z ≤ 140737488355328 := by omega
    rw [hx, hy, hz]
    by_cases h123 : k = 1 ∨ k = 2 ∨ k = 3
    · have hkn : kids.len = 0 := by
        have h := hpl
        unfold plain1 at h
        rcases h123 with rfl | rfl | rfl <;> simp at h <;> omega
      obtain rfl : kids = nil := nil_of_len hkn
      have hw : wrap64 (n + x + y + z + muchLoopW nil ((nil : Pts).len : Int)) = n + x + y + z := by
        rw [show muchLoopW nil ((nil : Pts).len : Int) = 0 from rfl, wrap_sameB _ (by omega)]; omega
      rw [hw]
      by_cases hn : n + x + y + z ≤ 1000
      · obtain ⟨i1, i2⟩ := IH (n + x + y + z) (by omega) hn
        refine ⟨?_, fun hu => ?_⟩
        · rcases i1 with i1 | i1
          · exact .inl i1
          · right
            rw [wr, if_pos h123, len]
            omega
        · obtain ⟨j1, j2, j3⟩ := i2 (utx_cons hu).1
          refine ⟨by omega, j2, fun hR => ?_⟩
          have h := j3 hR
          rw [wt, len, show (nil : Pts).wt = 0 from rfl]
          omega
      · rw [muchLoopW_big _ (by omega)]
        exact ⟨.inl ⟨by omega, by omega⟩, fun _ => ⟨by omega, by omega, fun h => absurd h hn⟩⟩
    · by_cases h4 : k = 4
      · have hp4 : p ≠ 1 ∧ kids.allP 1 none = true := by
          unfold oneB at hone
          rw [hpl] at hone
          subst h4
          simp at hone
          exact ⟨hone.1.1, hone.2⟩
        obtain ⟨k1, k2⟩ : KOk C D kids := by
          rcases hk with hk | hk
          · exact absurd hk hp4.1
          · exact hk kids hp4.2 hkt
        have hu0 : muchLoopW kids (kids.len : Int) = kids.muchW := rfl
        rw [hu0]
        obtain ⟨u, hu⟩ : ∃ u : Int, kids.muchW = u := ⟨_, rfl⟩
        rw [hu] at k1 k2 ⊢
        have hwr : (cons k t o kids cm r).wr = kids.wr + (if kids.utx.isSome = true then r.wr else 0) := by rw [wr, if_neg h123, if_pos h4]
        by_cases hbig : 1000 < u ∧ u ≤ C
        · rw [wrap_sameB _ (by omega), muchLoopW_big _ (by omega)]
          exact ⟨.inl ⟨by omega, by omega⟩, fun _ => ⟨by omega, by omega, fun h => by omega⟩⟩
        · have b : (kids.wr : Int) ≤ D := by
            rcases k1 with k1 | k1
            · exact absurd k1 hbig
            · exact k1
          by_cases hks : kids.utx.isSome = true
          · obtain ⟨c1, c2, c3⟩ := k2 hks
            rw [if_pos hks] at hwr
            have hw : wrap64 (n + x + y + z + u) = n + x + y + z + u := wrap_sameB _ (by omega)
            rw [hw]
            have hkw := wr_wt kids
            have c4 := c3 (by omega)
            by_cases hn : n + x + y + z + u ≤ 1000
            · obtain ⟨i1, i2⟩ := IH (n + x + y + z + u) (by omega) hn
              refine ⟨?_, fun hu' => ?_⟩
              · rcases i1 with i1 | i1
                · exact .inl i1
                · right
                  rw [hwr, len]
                  omega
              · obtain ⟨j1, j2, j3⟩ := i2 (utx_cons hu').1
                refine ⟨by omega, j2, fun hR => ?_⟩
                have h := j3 hR
                rw [wt, len]
                omega
            · rw [muchLoopW_big _ (by omega)]
              exact ⟨.inl ⟨by omega, by omega⟩, fun _ => ⟨by omega, by omega, fun h => absurd h hn⟩⟩
          · rw [if_neg hks] at hwr
            refine ⟨.inr (by rw [hwr]; omega), fun hu' => ?_⟩
            rcases (utx_cons hu').2 with e | e | e | ⟨_, e⟩
            · exact absurd (.inl e) h123
            · exact absurd (.inr (.inl e)) h123
            · exact absurd (.inr (.inr e)) h123
            · exact absurd e hks
      · refine ⟨.inr (by rw [wr, if_neg h123, if_neg h4]; omega), fun hu' => ?_⟩
        rcases (utx_cons hu').2 with e | e | e | ⟨e, _⟩
        · exact absurd (.inl e) h123
        · exact absurd (.inr (.inl e)) h123
        · exact absurd (.inr (.inr e)) h123
        · exact absurd e h4
theorem kids_ok (kids : Pts) (ha : kids.allP 1 none = true) (hm : kids.mx ≤ 140737488355328) : KOk 562949953421312 30000 kids := by
  have hl := len_mx kids
  unfold KOk muchW
  by_cases h1 : (kids.len : Int) ≤ 1000
  · obtain ⟨g1, g2⟩ := loop_ok 0 0 (by omega) (by omega) (by omega) 1 (.inl rfl) kids none (kids.len : Int) ha hm (by omega) h1
    refine ⟨?_, fun hu => ?_⟩
    · rcases g1 with g1 | g1
      · exact .inl ⟨g1.1, by omega⟩
      · exact .inr (by omega)
    · obtain ⟨j1, j2, j3⟩ := g2 hu
      exact ⟨by omega, by omega, fun hR => by have := j3 hR; omega⟩
  · rw [muchLoopW_big _ (by omega)]
    exact ⟨.inl ⟨by omega, by omega⟩, fun _ => ⟨by omega, by omega, fun h => absurd h h1⟩⟩
/-- Little is written of a right word that is little by the count; one that has a text is little. -/
theorem text_little {l : Pts} (ha : l.allP 0 none = true) (hm : l.mx ≤ 140737488355328) (hM : l.muchW ≤ 300) : l.wr ≤ 100000 ∧ (l.utx.isSome = true → l.wt ≤ 100000) := by
  have hl := muchW_len (l := l) (by omega)
  obtain ⟨g1, g2⟩ := loop_ok 562949953421312 30000 (by omega) (by omega) (by omega) 0 (.inr kids_ok) l none (l.len : Int) ha hm (by omega) (by omega)
  have hu : muchLoopW l (l.len : Int) = l.muchW := rfl
  rw [hu] at g1 g2
  refine ⟨?_, fun h => ?_⟩
  · rcases g1 with g1 | g1 <;> omega
  · obtain ⟨j1, j2, j3⟩ := g2 h
    have := j3 (by omega)
    omega
end Pts
end Go.Proofs.Ytpefkhbejjndeaa
