/-
  NARROWER THAN 'FOR EVERY INPUT', by the rows' own cells (each row's printed sentence says how): OperTells: laid · OperBegins: laid.
  DERIVED. THE GIVEN ROWS OF THIS SEAT. 2 by the template 'for every input the law returns true; each argument reads behind the call as it read before'; 0 by the template 'total and deterministic' (their statements: YtpefkhbejjndeaaDoorTotals.lean).
  GIVEN WITH THE SEED: the statements are not yours to turn. If you find one false, say at which input.
  Laid BY PROGRAM, IN A SANDBOX (cutbox-rows.mjs): the forced cells as the released guide's own fill.sh prints them over the translation c9b320de123fa4bc… (all of the seat's roots in one cut). By AI agents, Wed Nov 11 2026. No macro, syntax, notation, axiom, sorry.
-/
import Derived.Test.YtpefkhbejjndeaaDoorChecked
import GoSem.Claim
import GoSem.ClaimJoined
import GoSem.ClaimMapViews
import Derived.JoinedTies
import Derived.KernelRfl
namespace Go.Proofs.YtpefkhbejjndeaaDoor
/- THE CELL 'sum', in the pinned program and in every row, IS THE sha256 OF THE DUMP (.gsa) THAT YtpefkhbejjndeaaDoorProg.lean LOADS. Nothing in Lean hashes anything: it is a label: what it is worth is what the hold of that sum in a sandbox is worth. -/
noncomputable def Tryd.pinned : Pinned := { name := "ytpefkhbejjndeaadoor", sum := "c9b320de123fa4bc05d2c4cfbbf6aa6a0983d210d9368ddeb9c964150bed16e9", checked := Tryd.checked }
namespace Rows
def none {H : Type} : Left H := { results := [], args := [] }

/- WHAT THE LISTED PACKAGE-LEVEL VARIABLES READ AS WHEN THE CALL BEGINS. Each datum BY PROGRAM (the guide's laid-datum.mjs) off the statement by which the dump's own 'gosem.cut.vars' lays the variable. In a bare row this is a premise. The card (YtpefkhbejjndeaaDoorCards.lean) ties it to the program's text. -/
def laid_conch_oper_texts {H : Type} : DataW H := .agg [.lit (.string []), .lit (.string [38, 38]), .lit (.string [124, 124]), .lit (.string [59, 59]), .lit (.string [59]), .lit (.string [38]), .lit (.string [124]), .lit (.string [40]), .lit (.string [41]), .lit (.string [60]), .lit (.string [62]), .lit (.string [62, 62]), .lit (.string [60, 60]), .lit (.string [60, 60, 45]), .lit (.string [60, 38]), .lit (.string [62, 38]), .lit (.string [60, 62]), .lit (.string [62, 124])]

/-- 'conchlaw23.OperTells': WHATEVER THE INPUT: true; the input reads as it did. -/
def operTellsSpec : ChangeSpec := { name := "operTells", fn := fun _ => fun
  | [d1, d2] => { results := [.lit (.bool true)], args := [d1, d2] }
  | _ => none }
def operTellsRow : OpenClaim := { program := "ytpefkhbejjndeaadoor", sum := "c9b320de123fa4bc05d2c4cfbbf6aa6a0983d210d9368ddeb9c964150bed16e9", func := "conch/conchlaw23.OperTells", spec := "operTells", named := ["conch/oper.texts"], apart := false, laid := [("conch/oper.texts", laid_conch_oper_texts)] }
def OperTellsSaid : Prop := operTellsRow.holds Tryd.pinned (OpenSpec.ofChange operTellsSpec)

/-- ITS FALSE NEIGHBOUR: 'it returns false'. Refute it at one input. -/
def operTellsWrong : ChangeSpec := { name := "operTells", fn := fun _ => fun
  | [d1, d2] => { results := [.lit (.bool false)], args := [d1, d2] }
  | _ => none }
def OperTellsWrongFalsely : Prop := operTellsRow.holds Tryd.pinned (OpenSpec.ofChange operTellsWrong)

/-- 'conchlaw23.OperBegins': WHATEVER THE INPUT: true; the input reads as it did. -/
def operBeginsSpec : ChangeSpec := { name := "operBegins", fn := fun _ => fun
  | [d1, d2, d3] => { results := [.lit (.bool true)], args := [d1, d2, d3] }
  | _ => none }
def operBeginsRow : OpenClaim := { program := "ytpefkhbejjndeaadoor", sum := "c9b320de123fa4bc05d2c4cfbbf6aa6a0983d210d9368ddeb9c964150bed16e9", func := "conch/conchlaw23.OperBegins", spec := "operBegins", named := ["conch/oper.texts"], apart := false, laid := [("conch/oper.texts", laid_conch_oper_texts)] }
def OperBeginsSaid : Prop := operBeginsRow.holds Tryd.pinned (OpenSpec.ofChange operBeginsSpec)

/-- ITS FALSE NEIGHBOUR: 'it returns false'. Refute it at one input. -/
def operBeginsWrong : ChangeSpec := { name := "operBegins", fn := fun _ => fun
  | [d1, d2, d3] => { results := [.lit (.bool false)], args := [d1, d2, d3] }
  | _ => none }
def OperBeginsWrongFalsely : Prop := operBeginsRow.holds Tryd.pinned (OpenSpec.ofChange operBeginsWrong)

/- THE SECOND FORM. 'bulk': how many values and letters a reading holds, each counted each time it is reached (what is shared counts as often as it is met; a slice's spare places count too). A statement '..UptoSaid' is the law's where the arguments, and the package variables that the reading takes, are together of bulk at most 1048576: NARROWER than '..Said'. Prove '..Said' where nothing that the law and all that it calls make is longer than what came in: it says more and counts as full. Else prove '..UptoSaid'. A law counts once. -/
mutual
def uptoBulk {H : Type} : DataW H → Nat
  | .lit (.string bytes) => bytes.length + 1
  | .lit _ => 1
  | .nil => 1
  | .ptr d => uptoBulk d + 1
  | .slice elems spare => uptoBulkAll elems + uptoBulkAll spare + 1
  | .agg parts => uptoBulkAll parts + 1
  | .iface _ d => uptoBulk d + 1
  | .map entries => uptoBulkEntries entries + 1
  | .held _ => 1
def uptoBulkAll {H : Type} : List (DataW H) → Nat
  | [] => 0
  | d :: r => uptoBulk d + uptoBulkAll r
def uptoBulkEntries {H : Type} : List (Lit × DataW H) → Nat
  | [] => 0
  | x :: r => uptoBulkEntry x + uptoBulkEntries r
def uptoBulkEntry {H : Type} : Lit × DataW H → Nat
  | (.string bytes, d) => bytes.length + uptoBulk d + 1
  | (_, d) => uptoBulk d + 1
 end
def uptoSmall : (H : Type) → List (DataW H) → Bool := fun _ ds => decide (uptoBulkAll ds ≤ 1048576)
def OpenSpec.upto (s : _root_.Go.ChangeSpec) : _root_.Go.OpenSpec := { _root_.Go.OpenSpec.ofChange s with cond := some uptoSmall }

/-- 'conchlaw23.OperTells', WHERE WHAT IT READS IS OF BULK AT MOST 1048576: true; the input reads as it did. -/
def operTellsUptoRow : OpenClaim := { program := "ytpefkhbejjndeaadoor", sum := "c9b320de123fa4bc05d2c4cfbbf6aa6a0983d210d9368ddeb9c964150bed16e9", func := "conch/conchlaw23.OperTells", spec := "operTells", named := ["conch/oper.texts"], apart := false, laid := [("conch/oper.texts", laid_conch_oper_texts)], narrowed := true }
def OperTellsUptoSaid : Prop := operTellsUptoRow.holds Tryd.pinned (OpenSpec.upto operTellsSpec)

/-- 'conchlaw23.OperBegins', WHERE WHAT IT READS IS OF BULK AT MOST 1048576: true; the input reads as it did. -/
def operBeginsUptoRow : OpenClaim := { program := "ytpefkhbejjndeaadoor", sum := "c9b320de123fa4bc05d2c4cfbbf6aa6a0983d210d9368ddeb9c964150bed16e9", func := "conch/conchlaw23.OperBegins", spec := "operBegins", named := ["conch/oper.texts"], apart := false, laid := [("conch/oper.texts", laid_conch_oper_texts)], narrowed := true }
def OperBeginsUptoSaid : Prop := operBeginsUptoRow.holds Tryd.pinned (OpenSpec.upto operBeginsSpec)

end Rows
end Go.Proofs.YtpefkhbejjndeaaDoor
