/-
  NARROWER THAN 'FOR EVERY INPUT', by the rows' own cells (each row's printed sentence says how): NodeTells: loops, laid · NodeSame: loops, laid · NodeParts: loops, laid · NodeJoins: loops, laid · UnparseShows: loops, laid · UnparseRight: loops, laid · UnparseHeres: loops, laid.
  DERIVED. THE GIVEN ROWS OF THIS SEAT. 7 by the template 'for every input the law returns true; each argument reads behind the call as it read before'; 0 by the template 'total and deterministic' (their statements: YtjpopekmbmcggaaGreatDoorTotals.lean).
  GIVEN WITH THE SEED: the statements are not yours to turn. If you find one false, say at which input.
  Laid BY PROGRAM, IN A SANDBOX (cutbox-rows.mjs): the forced cells as the released guide's own fill.sh prints them over the translation 8b00df61588727a1… (all of the seat's roots in one cut). By AI agents, Wed Nov 11 2026. No macro, syntax, notation, axiom, sorry.
-/
import Derived.Test.YtjpopekmbmcggaaGreatDoorChecked
import GoSem.Claim
import GoSem.ClaimJoined
import GoSem.ClaimMapViews
import Derived.JoinedTies
import Derived.KernelRfl
namespace Go.Proofs.YtjpopekmbmcggaaGreatDoor
/- THE CELL 'sum', in the pinned program and in every row, IS THE sha256 OF THE DUMP (.gsa) THAT YtjpopekmbmcggaaGreatDoorProg.lean LOADS. Nothing in Lean hashes anything: it is a label: what it is worth is what the hold of that sum in a sandbox is worth. -/
noncomputable def Tryz.pinned : Pinned := { name := "ytjpopekmbmcggaagreatdoor", sum := "8b00df61588727a1a6145d1e94896893d9b6b18f7a9ae1c7e880987f42f601a6", checked := Tryz.checked }
namespace Rows
def none {H : Type} : Left H := { results := [], args := [] }

/- WHAT THE LISTED PACKAGE-LEVEL VARIABLES READ AS WHEN THE CALL BEGINS. Each datum BY PROGRAM (the guide's laid-datum.mjs) off the statement by which the dump's own 'gosem.cut.vars' lays the variable. In a bare row this is a premise. The card (YtjpopekmbmcggaaGreatDoorCards.lean) ties it to the program's text. -/
def laid_conch_posix_reserved {H : Type} : DataW H := .agg [.lit (.string [105, 102]), .lit (.string [116, 104, 101, 110]), .lit (.string [101, 108, 115, 101]), .lit (.string [101, 108, 105, 102]), .lit (.string [102, 105]), .lit (.string [100, 111]), .lit (.string [100, 111, 110, 101]), .lit (.string [99, 97, 115, 101]), .lit (.string [101, 115, 97, 99]), .lit (.string [119, 104, 105, 108, 101]), .lit (.string [117, 110, 116, 105, 108]), .lit (.string [102, 111, 114]), .lit (.string [123]), .lit (.string [125]), .lit (.string [33]), .lit (.string [105, 110])]
def laid_conch_oper_texts {H : Type} : DataW H := .agg [.lit (.string []), .lit (.string [38, 38]), .lit (.string [124, 124]), .lit (.string [59, 59]), .lit (.string [59]), .lit (.string [38]), .lit (.string [124]), .lit (.string [40]), .lit (.string [41]), .lit (.string [60]), .lit (.string [62]), .lit (.string [62, 62]), .lit (.string [60, 60]), .lit (.string [60, 60, 45]), .lit (.string [60, 38]), .lit (.string [62, 38]), .lit (.string [60, 62]), .lit (.string [62, 124])]

/-- 'conchlaw32.NodeTells': WHATEVER THE INPUT: true; the input reads as it did. -/
def nodeTellsSpec : ChangeSpec := { name := "nodeTells", fn := fun _ => fun
  | [d1, d2, d3, d4] => { results := [.lit (.bool true)], args := [d1, d2, d3, d4] }
  | _ => none }
def nodeTellsRow : OpenClaim := { program := "ytjpopekmbmcggaagreatdoor", sum := "8b00df61588727a1a6145d1e94896893d9b6b18f7a9ae1c7e880987f42f601a6", func := "conch/conchlaw32.NodeTells", spec := "nodeTells", inPlace := ["internal/bytealg.IndexByteString", "internal/bytealg.IndexString", "internal/abi.NoEscape", "slices.overlaps[conch/api.Part]"], unfollowed := true, recurses := true, named := ["internal/bytealg.MaxLen", "conch/posix.reserved"], loops := true, apart := false, laid := [("conch/posix.reserved", laid_conch_posix_reserved)] }
def NodeTellsSaid : Prop := nodeTellsRow.holds Tryz.pinned (OpenSpec.ofChange nodeTellsSpec)

/-- ITS FALSE NEIGHBOUR: 'it returns false'. Refute it at one input. -/
def nodeTellsWrong : ChangeSpec := { name := "nodeTells", fn := fun _ => fun
  | [d1, d2, d3, d4] => { results := [.lit (.bool false)], args := [d1, d2, d3, d4] }
  | _ => none }
def NodeTellsWrongFalsely : Prop := nodeTellsRow.holds Tryz.pinned (OpenSpec.ofChange nodeTellsWrong)

/-- 'conchlaw32.NodeSame': WHATEVER THE INPUT: true; the input reads as it did. -/
def nodeSameSpec : ChangeSpec := { name := "nodeSame", fn := fun _ => fun
  | [d1, d2] => { results := [.lit (.bool true)], args := [d1, d2] }
  | _ => none }
def nodeSameRow : OpenClaim := { program := "ytjpopekmbmcggaagreatdoor", sum := "8b00df61588727a1a6145d1e94896893d9b6b18f7a9ae1c7e880987f42f601a6", func := "conch/conchlaw32.NodeSame", spec := "nodeSame", inPlace := ["internal/bytealg.IndexByteString", "internal/bytealg.IndexString", "internal/abi.NoEscape", "slices.overlaps[conch/api.Part]"], unfollowed := true, recurses := true, named := ["internal/bytealg.MaxLen", "conch/posix.reserved"], loops := true, apart := false, laid := [("conch/posix.reserved", laid_conch_posix_reserved)] }
def NodeSameSaid : Prop := nodeSameRow.holds Tryz.pinned (OpenSpec.ofChange nodeSameSpec)

/-- ITS FALSE NEIGHBOUR: 'it returns false'. Refute it at one input. -/
def nodeSameWrong : ChangeSpec := { name := "nodeSame", fn := fun _ => fun
  | [d1, d2] => { results := [.lit (.bool false)], args := [d1, d2] }
  | _ => none }
def NodeSameWrongFalsely : Prop := nodeSameRow.holds Tryz.pinned (OpenSpec.ofChange nodeSameWrong)

/-- 'conchlaw32.NodeParts': WHATEVER THE INPUT: true; the input reads as it did. -/
def nodePartsSpec : ChangeSpec := { name := "nodeParts", fn := fun _ => fun
  | [d] => { results := [.lit (.bool true)], args := [d] }
  | _ => none }
def nodePartsRow : OpenClaim := { program := "ytjpopekmbmcggaagreatdoor", sum := "8b00df61588727a1a6145d1e94896893d9b6b18f7a9ae1c7e880987f42f601a6", func := "conch/conchlaw32.NodeParts", spec := "nodeParts", inPlace := ["internal/bytealg.IndexByteString", "internal/bytealg.IndexString", "internal/abi.NoEscape", "slices.overlaps[conch/api.Part]"], unfollowed := true, recurses := true, named := ["internal/bytealg.MaxLen", "conch/posix.reserved"], loops := true, apart := false, laid := [("conch/posix.reserved", laid_conch_posix_reserved)] }
def NodePartsSaid : Prop := nodePartsRow.holds Tryz.pinned (OpenSpec.ofChange nodePartsSpec)

/-- ITS FALSE NEIGHBOUR: 'it returns false'. Refute it at one input. -/
def nodePartsWrong : ChangeSpec := { name := "nodeParts", fn := fun _ => fun
  | [d] => { results := [.lit (.bool false)], args := [d] }
  | _ => none }
def NodePartsWrongFalsely : Prop := nodePartsRow.holds Tryz.pinned (OpenSpec.ofChange nodePartsWrong)

/-- 'conchlaw32.NodeJoins': WHATEVER THE INPUT: true; the input reads as it did. -/
def nodeJoinsSpec : ChangeSpec := { name := "nodeJoins", fn := fun _ => fun
  | [d1, d2] => { results := [.lit (.bool true)], args := [d1, d2] }
  | _ => none }
def nodeJoinsRow : OpenClaim := { program := "ytjpopekmbmcggaagreatdoor", sum := "8b00df61588727a1a6145d1e94896893d9b6b18f7a9ae1c7e880987f42f601a6", func := "conch/conchlaw32.NodeJoins", spec := "nodeJoins", inPlace := ["internal/bytealg.IndexByteString", "internal/bytealg.IndexString", "internal/abi.NoEscape", "slices.overlaps[conch/api.Part]"], unfollowed := true, recurses := true, named := ["internal/bytealg.MaxLen", "conch/posix.reserved"], loops := true, apart := false, laid := [("conch/posix.reserved", laid_conch_posix_reserved)] }
def NodeJoinsSaid : Prop := nodeJoinsRow.holds Tryz.pinned (OpenSpec.ofChange nodeJoinsSpec)

/-- ITS FALSE NEIGHBOUR: 'it returns false'. Refute it at one input. -/
def nodeJoinsWrong : ChangeSpec := { name := "nodeJoins", fn := fun _ => fun
  | [d1, d2] => { results := [.lit (.bool false)], args := [d1, d2] }
  | _ => none }
def NodeJoinsWrongFalsely : Prop := nodeJoinsRow.holds Tryz.pinned (OpenSpec.ofChange nodeJoinsWrong)

/-- 'conchlaw33.UnparseShows': WHATEVER THE INPUT: true; the input reads as it did. -/
def unparseShowsSpec : ChangeSpec := { name := "unparseShows", fn := fun _ => fun
  | [d1, d2] => { results := [.lit (.bool true)], args := [d1, d2] }
  | _ => none }
def unparseShowsRow : OpenClaim := { program := "ytjpopekmbmcggaagreatdoor", sum := "8b00df61588727a1a6145d1e94896893d9b6b18f7a9ae1c7e880987f42f601a6", func := "conch/conchlaw33.UnparseShows", spec := "unparseShows", inPlace := ["internal/bytealg.IndexByteString", "internal/bytealg.IndexString", "internal/abi.NoEscape", "slices.overlaps[conch/api.Part]"], unfollowed := true, recurses := true, named := ["internal/bytealg.MaxLen", "conch/posix.reserved", "conch/oper.texts"], loops := true, apart := false, laid := [("conch/oper.texts", laid_conch_oper_texts), ("conch/posix.reserved", laid_conch_posix_reserved)] }
def UnparseShowsSaid : Prop := unparseShowsRow.holds Tryz.pinned (OpenSpec.ofChange unparseShowsSpec)

/-- ITS FALSE NEIGHBOUR: 'it returns false'. Refute it at one input. -/
def unparseShowsWrong : ChangeSpec := { name := "unparseShows", fn := fun _ => fun
  | [d1, d2] => { results := [.lit (.bool false)], args := [d1, d2] }
  | _ => none }
def UnparseShowsWrongFalsely : Prop := unparseShowsRow.holds Tryz.pinned (OpenSpec.ofChange unparseShowsWrong)

/-- 'conchlaw33.UnparseRight': WHATEVER THE INPUT: true; the input reads as it did. -/
def unparseRightSpec : ChangeSpec := { name := "unparseRight", fn := fun _ => fun
  | [d1, d2] => { results := [.lit (.bool true)], args := [d1, d2] }
  | _ => none }
def unparseRightRow : OpenClaim := { program := "ytjpopekmbmcggaagreatdoor", sum := "8b00df61588727a1a6145d1e94896893d9b6b18f7a9ae1c7e880987f42f601a6", func := "conch/conchlaw33.UnparseRight", spec := "unparseRight", inPlace := ["internal/bytealg.IndexByteString", "internal/bytealg.IndexString", "internal/abi.NoEscape", "slices.overlaps[conch/api.Part]"], unfollowed := true, recurses := true, named := ["internal/bytealg.MaxLen", "conch/posix.reserved", "conch/oper.texts"], loops := true, apart := false, laid := [("conch/oper.texts", laid_conch_oper_texts), ("conch/posix.reserved", laid_conch_posix_reserved)] }
def UnparseRightSaid : Prop := unparseRightRow.holds Tryz.pinned (OpenSpec.ofChange unparseRightSpec)

/-- ITS FALSE NEIGHBOUR: 'it returns false'. Refute it at one input. -/
def unparseRightWrong : ChangeSpec := { name := "unparseRight", fn := fun _ => fun
  | [d1, d2] => { results := [.lit (.bool false)], args := [d1, d2] }
  | _ => none }
def UnparseRightWrongFalsely : Prop := unparseRightRow.holds Tryz.pinned (OpenSpec.ofChange unparseRightWrong)

/-- 'conchlaw33.UnparseHeres': WHATEVER THE INPUT: true; the input reads as it did. -/
def unparseHeresSpec : ChangeSpec := { name := "unparseHeres", fn := fun _ => fun
  | [d1, d2] => { results := [.lit (.bool true)], args := [d1, d2] }
  | _ => none }
def unparseHeresRow : OpenClaim := { program := "ytjpopekmbmcggaagreatdoor", sum := "8b00df61588727a1a6145d1e94896893d9b6b18f7a9ae1c7e880987f42f601a6", func := "conch/conchlaw33.UnparseHeres", spec := "unparseHeres", inPlace := ["internal/bytealg.IndexByteString", "internal/bytealg.IndexString", "internal/abi.NoEscape", "slices.overlaps[conch/api.Part]"], unfollowed := true, recurses := true, named := ["internal/bytealg.MaxLen", "conch/posix.reserved", "conch/oper.texts"], loops := true, apart := false, laid := [("conch/oper.texts", laid_conch_oper_texts), ("conch/posix.reserved", laid_conch_posix_reserved)] }
def UnparseHeresSaid : Prop := unparseHeresRow.holds Tryz.pinned (OpenSpec.ofChange unparseHeresSpec)

/-- ITS FALSE NEIGHBOUR: 'it returns false'. Refute it at one input. -/
def unparseHeresWrong : ChangeSpec := { name := "unparseHeres", fn := fun _ => fun
  | [d1, d2] => { results := [.lit (.bool false)], args := [d1, d2] }
  | _ => none }
def UnparseHeresWrongFalsely : Prop := unparseHeresRow.holds Tryz.pinned (OpenSpec.ofChange unparseHeresWrong)

/- THE SECOND FORM. 'bulk': how many values and letters a reading holds, each counted each time it is reached (what is shared counts as often as it is met; a slice's spare places count too). A statement '..UptoSaid' is the law's where the arguments, and the package variables that the reading takes, are together of bulk at most 1048576: NARROWER than '..Said'. Prove '..Said' where nothing that the law and all that it calls make is longer than what came in: it says more and counts as full. Else prove '..UptoSaid'. A law counts once. -/
mutual
def uptoBulk {H : Type} : DataW H → Nat
  | .lit (.string bytes) => bytes.length + 1
  | .lit _ => 1
  | .nil => 1
  | .ptr d => uptoBulk d + 1
  | .slice elems spare => uptoBulkAll elems + uptoBulkAll spare + 1
  | .agg parts => uptoBulkAll parts + 1
  | .iface _ d => uptoBulk d + 1
  | .map entries => uptoBulkEntries entries + 1
  | .held _ => 1
def uptoBulkAll {H : Type} : List (DataW H) → Nat
  | [] => 0
  | d :: r => uptoBulk d + uptoBulkAll r
def uptoBulkEntries {H : Type} : List (Lit × DataW H) → Nat
  | [] => 0
  | x :: r => uptoBulkEntry x + uptoBulkEntries r
def uptoBulkEntry {H : Type} : Lit × DataW H → Nat
  | (.string bytes, d) => bytes.length + uptoBulk d + 1
  | (_, d) => uptoBulk d + 1
 end
def uptoSmall : (H : Type) → List (DataW H) → Bool := fun _ ds => decide (uptoBulkAll ds ≤ 1048576)
def OpenSpec.upto (s : _root_.Go.ChangeSpec) : _root_.Go.OpenSpec := { _root_.Go.OpenSpec.ofChange s with cond := some uptoSmall }

/-- 'conchlaw32.NodeTells', WHERE WHAT IT READS IS OF BULK AT MOST 1048576: true; the input reads as it did. -/
def nodeTellsUptoRow : OpenClaim := { program := "ytjpopekmbmcggaagreatdoor", sum := "8b00df61588727a1a6145d1e94896893d9b6b18f7a9ae1c7e880987f42f601a6", func := "conch/conchlaw32.NodeTells", spec := "nodeTells", inPlace := ["internal/bytealg.IndexByteString", "internal/bytealg.IndexString", "internal/abi.NoEscape", "slices.overlaps[conch/api.Part]"], unfollowed := true, recurses := true, named := ["internal/bytealg.MaxLen", "conch/posix.reserved"], loops := true, apart := false, laid := [("conch/posix.reserved", laid_conch_posix_reserved)], narrowed := true }
def NodeTellsUptoSaid : Prop := nodeTellsUptoRow.holds Tryz.pinned (OpenSpec.upto nodeTellsSpec)

/-- 'conchlaw32.NodeSame', WHERE WHAT IT READS IS OF BULK AT MOST 1048576: true; the input reads as it did. -/
def nodeSameUptoRow : OpenClaim := { program := "ytjpopekmbmcggaagreatdoor", sum := "8b00df61588727a1a6145d1e94896893d9b6b18f7a9ae1c7e880987f42f601a6", func := "conch/conchlaw32.NodeSame", spec := "nodeSame", inPlace := ["internal/bytealg.IndexByteString", "internal/bytealg.IndexString", "internal/abi.NoEscape", "slices.overlaps[conch/api.Part]"], unfollowed := true, recurses := true, named := ["internal/bytealg.MaxLen", "conch/posix.reserved"], loops := true, apart := false, laid := [("conch/posix.reserved", laid_conch_posix_reserved)], narrowed := true }
def NodeSameUptoSaid : Prop := nodeSameUptoRow.holds Tryz.pinned (OpenSpec.upto nodeSameSpec)

/-- 'conchlaw32.NodeParts', WHERE WHAT IT READS IS OF BULK AT MOST 1048576: true; the input reads as it did. -/
def nodePartsUptoRow : OpenClaim := { program := "ytjpopekmbmcggaagreatdoor", sum := "8b00df61588727a1a6145d1e94896893d9b6b18f7a9ae1c7e880987f42f601a6", func := "conch/conchlaw32.NodeParts", spec := "nodeParts", inPlace := ["internal/bytealg.IndexByteString", "internal/bytealg.IndexString", "internal/abi.NoEscape", "slices.overlaps[conch/api.Part]"], unfollowed := true, recurses := true, named := ["internal/bytealg.MaxLen", "conch/posix.reserved"], loops := true, apart := false, laid := [("conch/posix.reserved", laid_conch_posix_reserved)], narrowed := true }
def NodePartsUptoSaid : Prop := nodePartsUptoRow.holds Tryz.pinned (OpenSpec.upto nodePartsSpec)

/-- 'conchlaw32.NodeJoins', WHERE WHAT IT READS IS OF BULK AT MOST 1048576: true; the input reads as it did. -/
def nodeJoinsUptoRow : OpenClaim := { program := "ytjpopekmbmcggaagreatdoor", sum := "8b00df61588727a1a6145d1e94896893d9b6b18f7a9ae1c7e880987f42f601a6", func := "conch/conchlaw32.NodeJoins", spec := "nodeJoins", inPlace := ["internal/bytealg.IndexByteString", "internal/bytealg.IndexString", "internal/abi.NoEscape", "slices.overlaps[conch/api.Part]"], unfollowed := true, recurses := true, named := ["internal/bytealg.MaxLen", "conch/posix.reserved"], loops := true, apart := false, laid := [("conch/posix.reserved", laid_conch_posix_reserved)], narrowed := true }
def NodeJoinsUptoSaid : Prop := nodeJoinsUptoRow.holds Tryz.pinned (OpenSpec.upto nodeJoinsSpec)

/-- 'conchlaw33.UnparseShows', WHERE WHAT IT READS IS OF BULK AT MOST 1048576: true; the input reads as it did. -/
def unparseShowsUptoRow : OpenClaim := { program := "ytjpopekmbmcggaagreatdoor", sum := "8b00df61588727a1a6145d1e94896893d9b6b18f7a9ae1c7e880987f42f601a6", func := "conch/conchlaw33.UnparseShows", spec := "unparseShows", inPlace := ["internal/bytealg.IndexByteString", "internal/bytealg.IndexString", "internal/abi.NoEscape", "slices.overlaps[conch/api.Part]"], unfollowed := true, recurses := true, named := ["internal/bytealg.MaxLen", "conch/posix.reserved", "conch/oper.texts"], loops := true, apart := false, laid := [("conch/oper.texts", laid_conch_oper_texts), ("conch/posix.reserved", laid_conch_posix_reserved)], narrowed := true }
def UnparseShowsUptoSaid : Prop := unparseShowsUptoRow.holds Tryz.pinned (OpenSpec.upto unparseShowsSpec)

/-- 'conchlaw33.UnparseRight', WHERE WHAT IT READS IS OF BULK AT MOST 1048576: true; the input reads as it did. -/
def unparseRightUptoRow : OpenClaim := { program := "ytjpopekmbmcggaagreatdoor", sum := "8b00df61588727a1a6145d1e94896893d9b6b18f7a9ae1c7e880987f42f601a6", func := "conch/conchlaw33.UnparseRight", spec := "unparseRight", inPlace := ["internal/bytealg.IndexByteString", "internal/bytealg.IndexString", "internal/abi.NoEscape", "slices.overlaps[conch/api.Part]"], unfollowed := true, recurses := true, named := ["internal/bytealg.MaxLen", "conch/posix.reserved", "conch/oper.texts"], loops := true, apart := false, laid := [("conch/oper.texts", laid_conch_oper_texts), ("conch/posix.reserved", laid_conch_posix_reserved)], narrowed := true }
def UnparseRightUptoSaid : Prop := unparseRightUptoRow.holds Tryz.pinned (OpenSpec.upto unparseRightSpec)

/-- 'conchlaw33.UnparseHeres', WHERE WHAT IT READS IS OF BULK AT MOST 1048576: true; the input reads as it did. -/
def unparseHeresUptoRow : OpenClaim := { program := "ytjpopekmbmcggaagreatdoor", sum := "8b00df61588727a1a6145d1e94896893d9b6b18f7a9ae1c7e880987f42f601a6", func := "conch/conchlaw33.UnparseHeres", spec := "unparseHeres", inPlace := ["internal/bytealg.IndexByteString", "internal/bytealg.IndexString", "internal/abi.NoEscape", "slices.overlaps[conch/api.Part]"], unfollowed := true, recurses := true, named := ["internal/bytealg.MaxLen", "conch/posix.reserved", "conch/oper.texts"], loops := true, apart := false, laid := [("conch/oper.texts", laid_conch_oper_texts), ("conch/posix.reserved", laid_conch_posix_reserved)], narrowed := true }
def UnparseHeresUptoSaid : Prop := unparseHeresUptoRow.holds Tryz.pinned (OpenSpec.upto unparseHeresSpec)

end Rows
end Go.Proofs.YtjpopekmbmcggaaGreatDoor
