/-
  No cell of these rows narrows 'for every input' (looked for: loops, veiled, ifaces, maps, wideKeys, modest, calm, conditions, laid).
  DERIVED. THE GIVEN ROWS OF THIS SEAT. 4 by the template 'for every input the law returns true; each argument reads behind the call as it read before'; 0 by the template 'total and deterministic' (their statements: YtbkmfnjjfamjjaaTotals.lean).
  GIVEN WITH THE SEED: the statements are not yours to turn. If you find one false, say at which input.
  Laid BY PROGRAM, IN A SANDBOX (cutbox-rows.mjs): the forced cells as the released guide's own fill.sh prints them over the translation 253e1326a5d2b4a9… (all of the seat's roots in one cut). By AI agents, Wed Nov 11 2026. No macro, syntax, notation, axiom, sorry.
-/
import Derived.Test.YtbkmfnjjfamjjaaChecked
import GoSem.Claim
import GoSem.ClaimJoined
import GoSem.ClaimMapViews
import Derived.JoinedTies
import Derived.KernelRfl
namespace Go.Proofs.Ytbkmfnjjfamjjaa
/- THE CELL 'sum', in the pinned program and in every row, IS THE sha256 OF THE DUMP (.gsa) THAT YtbkmfnjjfamjjaaProg.lean LOADS. Nothing in Lean hashes anything: it is a label: what it is worth is what the hold of that sum in a sandbox is worth. -/
noncomputable def Try.pinned : Pinned := { name := "ytbkmfnjjfamjjaa", sum := "253e1326a5d2b4a987c7142aaa2f4416d73ce23887d95a50fa79b005fdb64242", checked := Try.checked }
namespace Rows
def none {H : Type} : Left H := { results := [], args := [] }

/-- 'conchlaw36.AliasDoes': WHATEVER THE INPUT: true; the input reads as it did. -/
def aliasDoesSpec : ChangeSpec := { name := "aliasDoes", fn := fun _ => fun
  | [d] => { results := [.lit (.bool true)], args := [d] }
  | _ => none }
def aliasDoesRow : OpenClaim := { program := "ytbkmfnjjfamjjaa", sum := "253e1326a5d2b4a987c7142aaa2f4416d73ce23887d95a50fa79b005fdb64242", func := "conch/conchlaw36.AliasDoes", spec := "aliasDoes", inPlace := ["internal/bytealg.IndexByteString", "internal/bytealg.IndexString"], unfollowed := true, recurses := true, named := ["internal/bytealg.MaxLen"], apart := false }
def AliasDoesSaid : Prop := aliasDoesRow.holds Try.pinned (OpenSpec.ofChange aliasDoesSpec)

/-- ITS FALSE NEIGHBOUR: 'it returns false'. Refute it at one input. -/
def aliasDoesWrong : ChangeSpec := { name := "aliasDoes", fn := fun _ => fun
  | [d] => { results := [.lit (.bool false)], args := [d] }
  | _ => none }
def AliasDoesWrongFalsely : Prop := aliasDoesRow.holds Try.pinned (OpenSpec.ofChange aliasDoesWrong)

/-- 'conchlaw36.AliasMany': WHATEVER THE INPUT: true; the input reads as it did. -/
def aliasManySpec : ChangeSpec := { name := "aliasMany", fn := fun _ => fun
  | [d1, d2] => { results := [.lit (.bool true)], args := [d1, d2] }
  | _ => none }
def aliasManyRow : OpenClaim := { program := "ytbkmfnjjfamjjaa", sum := "253e1326a5d2b4a987c7142aaa2f4416d73ce23887d95a50fa79b005fdb64242", func := "conch/conchlaw36.AliasMany", spec := "aliasMany", inPlace := ["internal/bytealg.IndexByteString", "internal/bytealg.IndexString"], unfollowed := true, recurses := true, named := ["internal/bytealg.MaxLen"], apart := false }
def AliasManySaid : Prop := aliasManyRow.holds Try.pinned (OpenSpec.ofChange aliasManySpec)

/-- ITS FALSE NEIGHBOUR: 'it returns false'. Refute it at one input. -/
def aliasManyWrong : ChangeSpec := { name := "aliasMany", fn := fun _ => fun
  | [d1, d2] => { results := [.lit (.bool false)], args := [d1, d2] }
  | _ => none }
def AliasManyWrongFalsely : Prop := aliasManyRow.holds Try.pinned (OpenSpec.ofChange aliasManyWrong)

/-- 'conchlaw36.AliasTwins': WHATEVER THE INPUT: true; the input reads as it did. -/
def aliasTwinsSpec : ChangeSpec := { name := "aliasTwins", fn := fun _ => fun
  | [d1, d2] => { results := [.lit (.bool true)], args := [d1, d2] }
  | _ => none }
def aliasTwinsRow : OpenClaim := { program := "ytbkmfnjjfamjjaa", sum := "253e1326a5d2b4a987c7142aaa2f4416d73ce23887d95a50fa79b005fdb64242", func := "conch/conchlaw36.AliasTwins", spec := "aliasTwins", inPlace := ["internal/bytealg.IndexByteString", "internal/bytealg.IndexString", "maps.clone"], unfollowed := true, recurses := true, named := ["internal/bytealg.MaxLen"], apart := false }
def AliasTwinsSaid : Prop := aliasTwinsRow.holds Try.pinned (OpenSpec.ofChange aliasTwinsSpec)

/-- ITS FALSE NEIGHBOUR: 'it returns false'. Refute it at one input. -/
def aliasTwinsWrong : ChangeSpec := { name := "aliasTwins", fn := fun _ => fun
  | [d1, d2] => { results := [.lit (.bool false)], args := [d1, d2] }
  | _ => none }
def AliasTwinsWrongFalsely : Prop := aliasTwinsRow.holds Try.pinned (OpenSpec.ofChange aliasTwinsWrong)

/-- 'conchlaw36.AliasNone': WHATEVER THE INPUT: true; the input reads as it did. -/
def aliasNoneSpec : ChangeSpec := { name := "aliasNone", fn := fun _ => fun
  | [d1, d2] => { results := [.lit (.bool true)], args := [d1, d2] }
  | _ => none }
def aliasNoneRow : OpenClaim := { program := "ytbkmfnjjfamjjaa", sum := "253e1326a5d2b4a987c7142aaa2f4416d73ce23887d95a50fa79b005fdb64242", func := "conch/conchlaw36.AliasNone", spec := "aliasNone", inPlace := ["internal/bytealg.IndexByteString", "internal/bytealg.IndexString", "maps.clone"], unfollowed := true, recurses := true, named := ["internal/bytealg.MaxLen"], apart := false }
def AliasNoneSaid : Prop := aliasNoneRow.holds Try.pinned (OpenSpec.ofChange aliasNoneSpec)

/-- ITS FALSE NEIGHBOUR: 'it returns false'. Refute it at one input. -/
def aliasNoneWrong : ChangeSpec := { name := "aliasNone", fn := fun _ => fun
  | [d1, d2] => { results := [.lit (.bool false)], args := [d1, d2] }
  | _ => none }
def AliasNoneWrongFalsely : Prop := aliasNoneRow.holds Try.pinned (OpenSpec.ofChange aliasNoneWrong)

/- THE SECOND FORM. 'bulk': how many values and letters a reading holds, each counted each time it is reached (what is shared counts as often as it is met; a slice's spare places count too). A statement '..UptoSaid' is the law's where the arguments, and the package variables that the reading takes, are together of bulk at most 1048576: NARROWER than '..Said'. Prove '..Said' where nothing that the law and all that it calls make is longer than what came in: it says more and counts as full. Else prove '..UptoSaid'. A law counts once. -/
mutual
def uptoBulk {H : Type} : DataW H → Nat
  | .lit (.string bytes) => bytes.length + 1
  | .lit _ => 1
  | .nil => 1
  | .ptr d => uptoBulk d + 1
  | .slice elems spare => uptoBulkAll elems + uptoBulkAll spare + 1
  | .agg parts => uptoBulkAll parts + 1
  | .iface _ d => uptoBulk d + 1
  | .map entries => uptoBulkEntries entries + 1
  | .held _ => 1
def uptoBulkAll {H : Type} : List (DataW H) → Nat
  | [] => 0
  | d :: r => uptoBulk d + uptoBulkAll r
def uptoBulkEntries {H : Type} : List (Lit × DataW H) → Nat
  | [] => 0
  | x :: r => uptoBulkEntry x + uptoBulkEntries r
def uptoBulkEntry {H : Type} : Lit × DataW H → Nat
  | (.string bytes, d) => bytes.length + uptoBulk d + 1
  | (_, d) => uptoBulk d + 1
 end
def uptoSmall : (H : Type) → List (DataW H) → Bool := fun _ ds => decide (uptoBulkAll ds ≤ 1048576)
def OpenSpec.upto (s : _root_.Go.ChangeSpec) : _root_.Go.OpenSpec := { _root_.Go.OpenSpec.ofChange s with cond := some uptoSmall }

/-- 'conchlaw36.AliasDoes', WHERE WHAT IT READS IS OF BULK AT MOST 1048576: true; the input reads as it did. -/
def aliasDoesUptoRow : OpenClaim := { program := "ytbkmfnjjfamjjaa", sum := "253e1326a5d2b4a987c7142aaa2f4416d73ce23887d95a50fa79b005fdb64242", func := "conch/conchlaw36.AliasDoes", spec := "aliasDoes", inPlace := ["internal/bytealg.IndexByteString", "internal/bytealg.IndexString"], unfollowed := true, recurses := true, named := ["internal/bytealg.MaxLen"], apart := false, narrowed := true }
def AliasDoesUptoSaid : Prop := aliasDoesUptoRow.holds Try.pinned (OpenSpec.upto aliasDoesSpec)

/-- 'conchlaw36.AliasMany', WHERE WHAT IT READS IS OF BULK AT MOST 1048576: true; the input reads as it did. -/
def aliasManyUptoRow : OpenClaim := { program := "ytbkmfnjjfamjjaa", sum := "253e1326a5d2b4a987c7142aaa2f4416d73ce23887d95a50fa79b005fdb64242", func := "conch/conchlaw36.AliasMany", spec := "aliasMany", inPlace := ["internal/bytealg.IndexByteString", "internal/bytealg.IndexString"], unfollowed := true, recurses := true, named := ["internal/bytealg.MaxLen"], apart := false, narrowed := true }
def AliasManyUptoSaid : Prop := aliasManyUptoRow.holds Try.pinned (OpenSpec.upto aliasManySpec)

/-- 'conchlaw36.AliasTwins', WHERE WHAT IT READS IS OF BULK AT MOST 1048576: true; the input reads as it did. -/
def aliasTwinsUptoRow : OpenClaim := { program := "ytbkmfnjjfamjjaa", sum := "253e1326a5d2b4a987c7142aaa2f4416d73ce23887d95a50fa79b005fdb64242", func := "conch/conchlaw36.AliasTwins", spec := "aliasTwins", inPlace := ["internal/bytealg.IndexByteString", "internal/bytealg.IndexString", "maps.clone"], unfollowed := true, recurses := true, named := ["internal/bytealg.MaxLen"], apart := false, narrowed := true }
def AliasTwinsUptoSaid : Prop := aliasTwinsUptoRow.holds Try.pinned (OpenSpec.upto aliasTwinsSpec)

/-- 'conchlaw36.AliasNone', WHERE WHAT IT READS IS OF BULK AT MOST 1048576: true; the input reads as it did. -/
def aliasNoneUptoRow : OpenClaim := { program := "ytbkmfnjjfamjjaa", sum := "253e1326a5d2b4a987c7142aaa2f4416d73ce23887d95a50fa79b005fdb64242", func := "conch/conchlaw36.AliasNone", spec := "aliasNone", inPlace := ["internal/bytealg.IndexByteString", "internal/bytealg.IndexString", "maps.clone"], unfollowed := true, recurses := true, named := ["internal/bytealg.MaxLen"], apart := false, narrowed := true }
def AliasNoneUptoSaid : Prop := aliasNoneUptoRow.holds Try.pinned (OpenSpec.upto aliasNoneSpec)

end Rows
end Go.Proofs.Ytbkmfnjjfamjjaa
