/- The program's List, Twin, Blank: walked. -/
import Derived.Test.YtbkmfnjjfamjjaaAlSetR
import Derived.Test.YtbkmfnjjfamjjaaIter
namespace Go.Proofs.Ytbkmfnjjfamjjaa
open Go.RowKit Go.Maps
attribute [local go_sem ↓] wp_append_wr

theorem Al.val_at : ∀ (k : Nat) (L : Al) (p : ByteArray × ByteArray) (r : Al), L.Rising → L.drop k = p :: r → L.val p.1 = some p.2
  | 0, L, p, r, _, hd => by
    rw [List.drop_zero] at hd; subst hd
    rw [Al.val_cons, show Al.hit p.1 p = true by simp [Al.hit], if_pos rfl]
  | k + 1, [], p, r, _, hd => by simp at hd
  | k + 1, q :: L, p, r, hr, hd => by
    rw [List.drop_succ_cons] at hd
    have h1 := List.pairwise_cons.1 hr
    have hm : p ∈ L := List.mem_of_mem_drop (i := k) (by rw [hd]; exact List.mem_cons_self)
    have h2 := before_ne (h1.1 p hm)
    rw [Al.val_cons, show Al.hit p.1 q = false by unfold Al.hit; rw [beq_eq_false_iff_ne]; exact h2, if_neg (by simp)]
    exact Al.val_at k L p r h1.2 hd
theorem enc_key (s : ByteArray) : Go.Proofs.encStr s.data.toList = .string s := by
  obtain ⟨⟨s⟩⟩ := s; rfl
/-- The names' row, looked at. -/
theorem names_look {B : Nat} {w : World} {v : Value} {L : Al} (h : w.ownsRow B 9 1 v L.length ((L.map keyB).map Go.Proofs.encStr)) :
    ∃ A c, v = .slice A L.length c ∧ L.length ≤ c ∧ c ≤ maxLen ∧ ∀ k (hk : k < L.length), ∃ g, A = some ⟨g, 0, none⟩ ∧ w.cell? ⟨g, k, none⟩ = some (.string L[k].1) := by
  rcases h.2 with ⟨rfl, hn⟩ | ⟨g, cap, cur, rfl, hB, hh, hc, hm, hcs, htake⟩
  · exact ⟨none, 0, by rw [hn], by omega, Nat.zero_le _, fun k hk => by omega⟩
  · refine ⟨some ⟨g, 0, none⟩, cap, rfl, hc, hm, fun k hk => ⟨g, rfl, ?_⟩⟩
    have hj : ((L.map keyB).map Go.Proofs.encStr)[k]? = some (.string L[k].1) := by
      rw [List.getElem?_map, List.getElem?_map, List.getElem?_eq_getElem hk]
      exact congrArg some (enc_key _)
    rw [← htake, List.getElem?_take_of_lt (by omega)] at hj
    simp only [World.cell?, hh]
    simpa using hj

set_option maxRecDepth 100000 in
set_option maxHeartbeats 4000000 in
theorem list_p (g b : Nat) (L : Al) (w : World) (h : Tab w g b L) (hL : L.length ≤ 1099511627776) : Calls Try.prog 17 #[.pointer (some ⟨g, 0, none⟩)] w fun e w' => ∃ v, e = .returned v ∧ Arow w.heap.size w' v L ∧ Below w.heap.size w w' := by
  have c0 := h.cell
  have HRI := Lib.hid h.2.rising
  have hle := strKeys_le h.2 Try.underlying9
  rw [Al.keys_data] at hle
  have HLE := Lib.hid hle
  clear hle
  have H := Lib.hid h
  clear h
  go_enter Try.func17, Try.ntmps17
  go_wp2_with fail
  refine (callsIn_wide.1 (Try.maps_Keys_25 (some b) w)).mono ?_
  rintro e w1 ⟨rfl, rfl⟩
  go_wp2_with fail
  refine (callsIn_wide.1 (Try.slices_Sorted_keys_24_25 b _ _ _ w H.out.2 (by rw [Al.size_data]; unfold maxLen; omega) (by rw [Al.size_data]; omega))).mono ?_
  rintro e w2 ⟨vv, ss, rfl, hperm, hrow, hnil, hb⟩
  rw [Al.keys_data] at hperm
  rw [Al.sorted_keys HRI.out hperm, show ss.length = L.length by rw [hperm.length_eq, List.length_map]] at hrow
  clear hnil hperm
  have hb0 : Below w.heap.size w (w.alloc (.cells #[.map (some b)] 45)) := (Below.refl _ _).alloc (Nat.le_refl _) _
  have hb2 : Below w.heap.size w w2 := hb0.trans (hb.mono hb0.size)
  have ht2 := H.out.below hb2
  obtain ⟨A, c, rfl, hc, hm, hat⟩ := names_look hrow
  have HB2 := Lib.hid hb2; have HT2 := Lib.hid ht2; have HAT := Lib.hid hat
  clear hrow hb hb0 hb2 ht2 hat c0
  go_wp2_with fail
  go_loopw [15, 3] (fun i o wr => ∃ k : Nat, k ≤ L.length ∧ i = .int .i64 k ∧ Arow w2.heap.size wr o (L.take k) ∧ Below w2.heap.size w2 wr) (fun i _ _ => L.length - (intOf i).toNat)
  case atStart => exact ⟨0, by omega, rfl, Arow.nothing, Below.refl _ _⟩
  case round =>
    obtain ⟨k, hk, rfl, hr, hbr⟩ := hrel
    have HR := Lib.hid hr; have HBR := Lib.hid hbr
    by_cases hlt : k < L.length
    · obtain ⟨gn, rfl, z1⟩ := HAT.out k hlt
      have htr := HT2.out.below hbr
      have c0 := htr.cell
      have hv := Al.val_at k L L[k] _ HRI.out (List.drop_eq_getElem_cons hlt)
      have hget := htr.2.get L[k].1
      rw [hv] at hget
      have HTK := Lib.hid (show L.take (k + 1) = L.take k ++ [L[k]] from List.take_succ_eq_append_getElem hlt)
      have hz1 : (wr).cell? ⟨gn, k, none⟩ = some (.string L[k].1) := (World.cell?_of_block (hbr.block gn (block_lt_of_cell z1))).trans z1
      clear hv z1 hr hbr
      have hsz : L[k].1.size ≤ maxLen := by
        have := HLE.out (keyB L[k]) (List.mem_map.2 ⟨_, List.getElem_mem hlt, rfl⟩)
        unfold keyB at this
        rwa [Array.length_toList] at this
      · replace hget := hget hsz
        generalize L[k] = p at *
        obtain ⟨pn, pv⟩ := p
        simp only [Option.getD_some] at hget
        have hX : Below wr.heap.size wr (wr.alloc (.cells #[.string pn, .string pv] 49)) := (Below.refl _ _).alloc (Nat.le_refl _) _
        have hone := (arow_one (heap_alloc wr (.cells #[.string pn, .string pv] 49))).shape
        obtain ⟨A1, c1, e1, _, _, hat1⟩ := hone
        injection e1 with e1 e2 e3
        subst e1
        obtain ⟨v3, w3, r3, o3, g3, _⟩ := (HR.out.below hX).append hat1 (c := 1) (by simp; omega) (Nat.le_trans HBR.out.size hX.size) (Nat.le_refl _)
        rw [show ([(pn, pv)] : Al).length = 1 from rfl] at r3
        have hb3 : Below w2.heap.size w2 w3 := (HBR.out.trans (hX.mono HBR.out.size)).grown g3 (Nat.le_trans HBR.out.size hX.size) (fun j hj => ((HR.out.below hX).lt hj).1)
        have H3 := Lib.hid o3; have HB3 := Lib.hid hb3
        have hi0 : (0 : Int) ≤ (k : Int) := by omega
        have hi1 : (k : Int) < (L.length : Int) := by omega
        have n0 := World.new_ne wr ⟨g, 0, none⟩ c0
        clear hX hat1 o3 g3 hb3 e2 e3 htr hsz
        go_wp2_with fail
        go_roundw
        case rel => exact ⟨k + 1, by omega, by go_num, by rw [HTK.out]; exact H3.out, HB3.out⟩
        case measure => simp only [intOf]; omega
    · have hall : L.take k = L := List.take_of_length_le (by omega)
      rw [hall] at hr
      have HR := Lib.hid hr
      clear hr hbr hall
      go_wp2_with fail
      go_ret
      exact ⟨_, rfl, HR.out.base HB2.out.size, HB2.out.trans (HBR.out.mono HB2.out.size)⟩
end Go.Proofs.Ytbkmfnjjfamjjaa
