/- What is proved: any commands and any word have the text that the document gives them (arguments of bulk at most 1048576; the tables begin as the program's text lays them, which the card ties). -/
import Derived.Test.YtjpopekmbmcggaaGreatDoorUb41
import Derived.ShutString
import Derived.ChangeOld
import Derived.Carry
import Derived.JoinedCond
set_option maxRecDepth 100000
set_option maxHeartbeats 16000000
namespace Go.Proofs.YtjpopekmbmcggaaGreatDoor
open Go.ChangeShapes Go.WideShapes Go.ChangeAt Go.RowKit
open Go.ChangeMaps (open_string shut_string)
set_option linter.unusedVariables false
set_option maxRecDepth 100000 in
theorem kD (os : Os) {H : Type} (enc : TypeId × Value → H) : ∃ places, DataW.whole enc Tryz.prog ((laidWorld2 os).forCall (fun _ _ => 0) ⟨#[], #[.slice none 0 0, .agg #[.slice none 0 0]], []⟩).memory Tryz.f7.params.toList Rows.unparseShowsSpec.vars false (#[.slice none 0 0, .agg #[.slice none 0 0]] : Array Value).toList 8 = some ([.nil, .agg [.nil]], [], places) :=
  ⟨[], by kernel_rfl⟩
set_option maxRecDepth 100000 in
theorem iT (H : Type) (enc : TypeId × Value → H) (W : World) (base : Nat) (args : Array Value) (ds gs : List (DataW H)) (before : List MemPlace)
    (hval0 : ∀ (j : Nat) t v, Tryz.f7.params[j]? = some t → args[j]? = some v → Value.okWide Tryz.prog W .any base t v)
    (hW : DataW.Whole enc Tryz.prog Tryz.f7.params.toList Rows.unparseShowsSpec.vars false W args.toList ds gs before) (hL : laidMetH Tryz.prog pN W) (hk : Rows.uptoSmall H (ds ++ gs) = true) :
    Calls Tryz.prog 7 args W fun e W' => ∃ v, e = .returned v ∧ Rows.unparseShowsSpec.post enc Tryz.prog Tryz.f7 false true false false W args v W' := by
  have hval : ∀ (j : Nat) t v, Tryz.f7.params[j]? = some t → args[j]? = some v → Value.okWide Tryz.prog W .any base t v := hval0
  have hW' := hW
  obtain ⟨p, q, hA0, hV, rfl, hfz, hnd⟩ := hW
  have hA : DataW.TrodAll enc Tryz.prog W 0 (fun _ => true) true Tryz.f7.params.toList args.toList ds p := hA0
  rw [Tryz.params7] at hA hval
  obtain ⟨v0, vs0, d0, ds0, p0, q0, hargs, rfl, rfl, h0, r0⟩ := trodAll_cons hA
  obtain ⟨v1, vs1, d1, ds1, p1, q1, rfl, rfl, rfl, h1, r1⟩ := trodAll_cons r0
  obtain ⟨rfl, rfl, rfl⟩ := trodAll_nil r1
  obtain rfl : args = #[v0, v1] := by cases args; simp_all
  obtain ⟨rfl, rfl⟩ := trodVars_none hV
  have hlt := fun x hx => hW'.lt x hx
  have hlt0 : ∀ x ∈ p0, x.block < W.heap.size := fun x hx => by simpa using hlt x (List.mem_append.2 (.inl (List.mem_append.2 (.inl hx))))
  have hlt1 : ∀ x ∈ p1, x.block < W.heap.size := fun x hx => by simpa using hlt x (List.mem_append.2 (.inl (List.mem_append.2 (.inr (List.mem_append.2 (.inl hx))))))
  obtain ⟨f, hf⟩ : ∃ f : Nat, f = 1048576 := ⟨_, rfl⟩
  have hbk : Rows.uptoBulk d0 + (Rows.uptoBulk d1) ≤ f := by
    have h : Rows.uptoBulkAll ([d0, d1] ++ []) ≤ 1048576 := of_decide_eq_true hk
    rw [hf]
    simpa only [List.cons_append, List.nil_append, Rows.uptoBulkAll, Nat.add_zero] using h
  have h0k := h0
  obtain ⟨xs, hv0, hw0, hn0⟩ := rH f (by omega) (hval 0 26 v0 rfl rfl) h0 (by omega)
  have h1k := h1
  obtain ⟨z1, x, rfl, hv1, hw1⟩ := tC f (by omega) (hval 1 31 v1 rfl rfl) h1 (by omega)
  have ht := rJ hL
  have hT := (kG hL).1
  clear hA0 hval0
  refine (kW f f W v0 z1 xs x ht hT hv0 hv1 (by omega) (by omega) (by omega)).mono fun e W' ⟨he, bel⟩ => ?_
  subst he
  exact ⟨_, rfl, _, _, _, [], _, [], hW', trodAll_mk1 (shut_bool Tryz.underlying4 _), (trodAll_cons_mk (Below.trod uA (by kernel_rfl) (of_decide_eq_true (by kernel_rfl)) h0k bel hlt0) (trodAll_cons_mk (Below.trod uA (by kernel_rfl) (of_decide_eq_true (by kernel_rfl)) h1k bel hlt1) trodAll_mk0)), rfl, bel.frame _, fun h => by cases h⟩
set_option maxRecDepth 100000 in
theorem jQ (os : Os) (started : os.Started) (H : Type) (enc : TypeId × Value → H) (F : Stop.Interp) :
    ReturnsInHanded {} Tryz.checked os 7 .any ((Rows.OpenSpec.upto Rows.unparseShowsSpec).preRow enc Tryz.prog Tryz.f7 Rows.unparseShowsUptoRow.domain false Rows.unparseShowsUptoRow.laid) (((Rows.OpenSpec.upto Rows.unparseShowsSpec).at F).post enc Tryz.prog Tryz.f7 false true false false) := by
  obtain ⟨places, hx⟩ := kD os enc
  refine returnsInHanded_of_row (C := Tryz.checked) (s := Rows.OpenSpec.upto Rows.unparseShowsSpec) own started (by kernel_rfl) Tryz.func7
    (witness_row_at (enc := enc) (C := Tryz.checked) false (laidWorld2 os) #[.slice none 0 0, .agg #[.slice none 0 0]] rfl (by kernel_rfl) (by kernel_rfl) (by kernel_rfl)
      (OpenSpec.preRow_of_cond 8 hx (by kernel_rfl) (fun k hk => by cases hk; kernel_rfl) (by kernel_rfl) (vQ os _))) ?_
  intro W base args ds gs before hval hW _ hcond _ hL _ _
  exact iT H enc W base args ds gs before hval hW hL (hcond _ rfl)
theorem kV : Rows.UnparseShowsUptoSaid :=
  OpenClaim.holds_of_cond 7 Tryz.f7 rfl rfl rfl rfl rfl rfl rfl ⟨rfl, rfl, rfl, rfl, rfl⟩ rfl rfl rfl rfl rfl (by kernel_rfl) Tryz.func7 (by kernel_rfl)
    (of_decide_eq_true (by kernel_rfl)) (by unfold Func.isWrapper; first | (rw [if_pos (by decide +kernel)]; kernel_rfl) | (rw [if_neg (by decide +kernel)]; exact ⟨rfl, rfl⟩))
    (fun os started H enc _ F => by rw [OpenClaim.pre_eq_preRow]; exact jQ os started H enc F)
theorem unparseShows_card : Rows.UnparseShowsUptoCardSaid :=
  Claim7.holds_tied_plain_at .later [] [.data, .data] true Rows.unparseShowsUptoCard.stood.harness false
    kV (fun _ h => by cases h) (by kernel_rfl) (fun _ h => by cases h) unparseShowsUpto_row_tie rfl ⟨rfl, rfl⟩ (by kernel_rfl) rfl
    (fun f fn hf hfn => by
      obtain rfl : f = 7 := Option.some.inj ((show Tryz.prog.funcNamed Rows.unparseShowsUptoRow.func = some 7 by kernel_rfl).symm.trans hf) |>.symm
      obtain rfl : fn = Tryz.f7 := (Option.some.inj (Tryz.func7.symm.trans hfn)).symm
      exact ⟨by kernel_rfl, fun j t ht => by
        rw [Tryz.params7] at ht
        have hm : t ∈ [26, 31] := by simpa using Array.mem_of_getElem? ht
        have hall : ([26, 31].all fun u => !Tryz.prog.wantsStandIn u) = true := by kernel_rfl
        exact (show Tryz.prog.wantsStandIn t = false by simpa using List.all_eq_true.1 hall t hm)⟩)
    (by kernel_rfl)
#print axioms unparseShows_card
end Go.Proofs.YtjpopekmbmcggaaGreatDoor
