/- A word as text, with the texts of its commands: the plain function. No program in sight. -/
import Derived.Test.YtpefkhbejjndeaaPtsPlain
import Derived.Laws.Strings
namespace Go.Proofs.Ytpefkhbejjndeaa.Pts
open Go

/-- What a parameter writes ahead of the parts within it. -/
def paramHead (t o : List UInt8) : List UInt8 := if o = [108, 101, 110] then [35] ++ t else t ++ o
/-- Commands: the next text, if there is one. -/
def cmdText : List (List UInt8) → List UInt8
  | [] => [36, 40, 32] ++ [41]
  | c :: _ => [36, 40, 32] ++ c ++ [41]

def shw : Pts → List (List UInt8) → List UInt8 × List (List UInt8)
  | nil, cs => ([], cs)
  | cons k t o kids _ rest, cs =>
    let one : List UInt8 × List (List UInt8) :=
      if k = 1 then (t.toList, cs) else if k = 2 then ([92] ++ t.toList, cs) else if k = 3 then ([39] ++ t.toList ++ [39], cs)
      else if k = 4 then ([34] ++ (kids.shw cs).1 ++ [34], (kids.shw cs).2)
      else if k = 5 then ([36, 123] ++ paramHead t.toList o.toList ++ (kids.shw cs).1 ++ [125], (kids.shw cs).2)
      else if k = 6 then (cmdText cs, cs.tail)
      else if k = 7 then ([36, 40, 40] ++ t.toList ++ [41, 41], cs)
      else ([], cs)
    (one.1 ++ (rest.shw one.2).1, (rest.shw one.2).2)

def total : List (List UInt8) → Nat
  | [] => 0
  | c :: r => c.length + total r

theorem paramHead_len (t o : List UInt8) : (paramHead t o).length ≤ t.length + o.length + 1 := by
  unfold paramHead; split <;> simp <;> omega

theorem len_list (s : ByteArray) : s.toList.length = s.size := by
  rw [ByteArray.toList_eq, Array.length_toList]; rfl

theorem shw_len : ∀ (l : Pts) (cs : List (List UInt8)), (l.shw cs).1.length + total (l.shw cs).2 ≤ 6 * l.wt + total cs
  | nil, cs => by simp [shw, wt]
  | cons k t o kids cm rest, cs => by
    have hk := shw_len kids cs
    have ht := len_list t
    have ho := len_list o
    have hp := paramHead_len t.toList o.toList
    simp only [shw, wt]
    by_cases h1 : k = 1
    · simp only [h1, if_pos]
      have := shw_len rest cs
      rw [List.length_append]; omega
    by_cases h2 : k = 2
    · simp only [h2, if_pos, if_neg (show ¬ (2 : Int) = 1 by omega)]
      have := shw_len rest cs
      simp only [List.length_append, List.length_cons, List.length_nil]; omega
    by_cases h3 : k = 3
    · simp only [h3, if_pos, if_neg (show ¬ (3 : Int) = 1 by omega), if_neg (show ¬ (3 : Int) = 2 by omega)]
      have := shw_len rest cs
      simp only [List.length_append, List.length_cons, List.length_nil]; omega
    by_cases h4 : k = 4
    · simp only [h4, if_pos, if_neg (show ¬ (4 : Int) = 1 by omega), if_neg (show ¬ (4 : Int) = 2 by omega), if_neg (show ¬ (4 : Int) = 3 by omega)]
      have := shw_len rest (kids.shw cs).2
      simp only [List.length_append, List.length_cons, List.length_nil]; omega
    by_cases h5 : k = 5
    · simp only [h5, if_pos, if_neg (show ¬ (5 : Int) = 1 by omega), if_neg (show ¬ (5 : Int) = 2 by omega), if_neg (show ¬ (5 : Int) = 3 by omega), if_neg (show ¬ (5 : Int) = 4 by omega)]
      have := shw_len rest (kids.shw cs).2
      simp only [List.length_append, List.length_cons, List.length_nil]; omega
    by_cases h6 : k = 6
    · simp only [h6, if_pos, if_neg (show ¬ (6 : Int) = 1 by omega), if_neg (show ¬ (6 : Int) = 2 by omega), if_neg (show ¬ (6 : Int) = 3 by omega), if_neg (show ¬ (6 : Int) = 4 by omega), if_neg (show ¬ (6 : Int) = 5 by omega)]
      have := shw_len rest cs.tail
      cases cs with
      | nil => simp only [List.length_append, List.length_cons, List.length_nil, cmdText, List.tail_nil] at *; omega
      | cons c cs => simp only [List.length_append, List.length_cons, List.length_nil, cmdText, List.tail_cons, total] at *; omega
    by_cases h7 : k = 7
    · simp only [h7, if_pos, if_neg (show ¬ (7 : Int) = 1 by omega), if_neg (show ¬ (7 : Int) = 2 by omega), if_neg (show ¬ (7 : Int) = 3 by omega), if_neg (show ¬ (7 : Int) = 4 by omega), if_neg (show ¬ (7 : Int) = 5 by omega), if_neg (show ¬ (7 : Int) = 6 by omega)]
      have := shw_len rest cs
      simp only [List.length_append, List.length_cons, List.length_nil]; omega
    · simp only [if_neg h1, if_neg h2, if_neg h3, if_neg h4, if_neg h5, if_neg h6, if_neg h7]
      have := shw_len rest cs
      simp only [List.length_append, List.length_nil]; omega

theorem shw_append : ∀ (l r : Pts) (cs : List (List UInt8)), (l.app r).shw cs = ((l.shw cs).1 ++ (r.shw (l.shw cs).2).1, (r.shw (l.shw cs).2).2)
  | nil, r, cs => by simp [app, shw]
  | cons k t o kids cm rest, r, cs => by
    simp only [app, shw]
    rw [shw_append rest r]
    simp only [List.append_assoc]
theorem shw_nil_cmds : ∀ (l : Pts), (l.shw []).2 = []
  | nil => rfl
  | cons k t o kids cm rest => by
    have hk := shw_nil_cmds kids
    have hr := shw_nil_cmds rest
    simp only [shw]
    repeat' split
    all_goals simp only [hk, hr, List.tail_nil]
end Go.Proofs.Ytpefkhbejjndeaa.Pts
