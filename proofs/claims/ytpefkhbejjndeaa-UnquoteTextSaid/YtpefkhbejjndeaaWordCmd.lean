/- wordfmt -/
import Derived.Test.YtpefkhbejjndeaaWordMem
import Derived.StillTailTactics
import Derived.BigQuiet
import Derived.Deep.RegionWith
namespace Go.Proofs.Ytpefkhbejjndeaa
open Go.RowKit

theorem size_lit (l : List UInt8) : (⟨l.toArray⟩ : ByteArray).size = l.length := by rw [size_list, list_mk]

theorem prt_cells {G : Nat → Prop} {B b bp : Nat} {ti : TypeId} {cs : List (List UInt8)} {w : World} (h : Prt G B b bp ti cs w) : ∃ (C : Option Addr) (c : Nat),
    w.cell? ⟨bp, 0, none⟩ = some (.iface ti (.pointer (some ⟨b, 0, none⟩))) ∧ w.cell? ⟨bp, 1, none⟩ = some (.slice C cs.length c) ∧ w.frozen? ⟨bp, 1, none⟩ = false ∧ cs.length ≤ c ∧ StrsAt G w C cs := by
  obtain ⟨_, _, C, c, hh, hc, hs⟩ := h
  exact ⟨C, c, by simp [World.cell?, hh], by simp [World.cell?, hh], by simp [World.frozen?, hh], hc, hs⟩

/-- The printer's texts are written anew. -/
theorem Prt.setCmds {G : Nat → Prop} {B b bp : Nat} {ti : TypeId} {cs cs' : List (List UInt8)} {w : World} (h : Prt G B b bp ti cs w) (hG : Gd B (Xp b bp) w G) {C : Option Addr} {c : Nat} (hc : cs'.length ≤ c) (hs : StrsAt G w C cs') :
    Prt G B b bp ti cs' (w.setCell ⟨bp, 1, none⟩ (.slice C cs'.length c)) := by
  have hl := h.lt
  obtain ⟨hB, hne, C0, c0, hh, _⟩ := h
  refine ⟨hB, hne, C, c, ?_, hc, hs.keep fun p hp => ?_⟩
  · simp [World.setCell, Array.getElem?_modify, hh]
  · exact hG.cell ((Kp.refl B (Xp b bp) w).set hB (.inr rfl) 1 _) p hp

set_option maxRecDepth 100000 in
set_option maxHeartbeats 1000000 in
theorem cmd_any {G : Nat → Prop} {B b bp : Nat} {ti : TypeId} {fi : FuncId} {Sk : List UInt8 → World → Prop} (S : Snk B b ti fi Sk) (acc : List UInt8) (cs : List (List UInt8)) (w : World)
    (hk : Sk acc w) (hp : Prt G B b bp ti cs w) (hG : Gd B (Xp b bp) w G) (hB : B ≤ w.heap.size) (hlen : acc.length + 8 + Pts.total cs ≤ 70368744177664) :
    Calls Try.prog 84 #[.pointer (some ⟨bp, 0, none⟩)] w fun e w' => e = .returned (.tuple #[]) ∧ Sk (acc ++ Pts.cmdText cs) w' ∧ Prt G B b bp ti cs.tail w' ∧ Kp B (Xp b bp) w w' := by
  have hme := S.meth
  have hen := S.enter
  obtain ⟨C, c, c0, c1, f1, hc, hs⟩ := prt_cells hp
  have hlt := hp.lt
  go_enter Try.func84, Try.ntmps84
  go_wp2_with fail
  refine (S.put acc ⟨#[36, 40, 32]⟩ _ hk (by rw [size_lit [36, 40, 32]]; simp; omega) hB).mono ?_
  rintro e w1 ⟨rfl, hk1, kp1⟩
  have hp1 := hp.put hG kp1
  clear c0 c1 f1
  obtain ⟨C1, d1, c0, c1, f1, hc1, hs1⟩ := prt_cells hp1
  have hl1 := hp1.lt
  have hacc : (acc ++ (⟨#[36, 40, 32]⟩ : ByteArray).toList) = acc ++ [36, 40, 32] := by rw [list_mk]
  rw [hacc] at hk1
  have hB1 : B ≤ w1.heap.size := Nat.le_trans hB kp1.size
  have HK := Lib.hid hk1; have HP := Lib.hid hp1; clear hk1 hp1
  cases cs with
  | nil =>
    go_wp2_with fail
    refine (S.put (acc ++ [36, 40, 32]) ⟨#[41]⟩ _ HK.out (by rw [size_lit [41]]; simp; omega) hB1).mono ?_
    rintro e w2 ⟨rfl, hk2, kp2⟩
    go_wp2_with fail
    go_end0
    refine ⟨rfl, ?_, HP.out.put (hG.keep (kp1.wide fun k e => .inl e)) kp2, (kp1.trans kp2).wide fun k e => .inl e⟩
    rw [list_mk, List.append_assoc] at hk2
    exact hk2
  | cons t cs =>
    obtain ⟨ad, rfl, hGa, hca⟩ := hs1 (by simp)
    have ha0 := hca 0 t rfl
    simp [Addr.add] at ha0
    unfold bs at ha0
    go_wp2_with fail
    go_still_tail 12, (by kernel_rfl)
    change wpList _ _ _ _ _ w1.drew
    have hbd : Below w1.heap.size w1 w1.drew := (Below.refl _ _).drew
    have hG1 := (hG.keep (kp1.wide fun k e => .inl e))
    have hpd := HP.out.below hG1 hbd
    have hGd := hG1.keep (X := Xp b bp) (.of_below hbd)
    have hkd := S.below HK.out hbd
    have HK2 := Lib.hid hkd; have HP2 := Lib.hid hpd; clear hkd hpd
    go_wp2_with fail
    refine (S.put (acc ++ [36, 40, 32]) ⟨t.toArray⟩ _ HK2.out (by rw [size_lit]; simp [Pts.total] at hlen ⊢; omega) hB1).mono ?_
    rintro e w2 ⟨rfl, hk2, kp2⟩
    have hp2 := HP2.out.put hGd kp2
    have hl2 := hp2.lt
    have hG2 := hGd.keep (X := Xp b bp) (kp2.wide fun k e => .inl e)
    clear c0 c1 f1 ha0
    obtain ⟨C2, d2, c0, c1, f1, hc2, hs2⟩ := prt_cells hp2
    rw [list_mk] at hk2
    have hB2 : B ≤ w2.heap.size := Nat.le_trans hB1 kp2.size
    have key : ∀ (C' : Option Addr) (c' : Nat), cs.length ≤ c' → StrsAt G w2 C' cs →
        Sk (acc ++ [36, 40, 32] ++ t) (w2.setCell ⟨bp, 1, none⟩ (.slice C' cs.length c')) ∧ Prt G B b bp ti cs (w2.setCell ⟨bp, 1, none⟩ (.slice C' cs.length c')) ∧ Kp B (Xp b bp) w (w2.setCell ⟨bp, 1, none⟩ (.slice C' cs.length c')) ∧
          B ≤ (w2.setCell ⟨bp, 1, none⟩ (.slice C' cs.length c')).heap.size ∧ Gd B (Xp b bp) (w2.setCell ⟨bp, 1, none⟩ (.slice C' cs.length c')) G := by
      intro C' c' h1 h2
      have hset : Kp B (Xp b bp) w2 (w2.setCell ⟨bp, 1, none⟩ (.slice C' cs.length c')) := (Kp.refl B (Xp b bp) w2).set hp2.1 (.inr rfl) 1 _
      exact ⟨S.set hk2 hp2 1 _, hp2.setCmds hG2 h1 h2, ((((kp1.wide fun k e => .inl e)).trans (.of_below hbd)).trans (kp2.wide fun k e => .inl e)).trans hset, by simpa [World.setCell] using hB2, hG2.keep hset⟩
    have KEY := Lib.hid key; clear key
    have hcut := hs2.cut d2 hc2
    have ha : d2 = 1 → StrsAt G w2 C2 cs := fun h => by rw [if_pos h] at hcut; exact hcut
    have hb : ¬ d2 = 1 → StrsAt G w2 (C2.map (fun x => x.add 1)) cs := fun h => by rw [if_neg h] at hcut; exact hcut
    have HA := Lib.hid ha; have HB := Lib.hid hb; clear hcut ha hb hk2 hp2
    have hlen2 : (t :: cs).length = cs.length + 1 := rfl
    rw [hlen2] at c1 hc2
    clear hlen2
    have HL := Lib.hid hlen; clear hlen
    have hfin : ∀ w' : World, Sk (acc ++ [36, 40, 32] ++ t) w' → Prt G B b bp ti cs w' → Kp B (Xp b bp) w w' → B ≤ w'.heap.size → Gd B (Xp b bp) w' G →
        Calls Try.prog fi #[.pointer (some ⟨b, 0, none⟩), .string ⟨#[41]⟩] w' fun e w3 => e = .returned (.tuple #[]) ∧ Sk (acc ++ Pts.cmdText (t :: cs)) w3 ∧ Prt G B b bp ti cs w3 ∧ Kp B (Xp b bp) w w3 := fun w' k1 k2 k3 k4 k5 => by
      refine (S.put (acc ++ [36, 40, 32] ++ t) ⟨#[41]⟩ _ k1 (by rw [size_lit [41]]; have := HL.out; simp [Pts.total] at this ⊢; omega) k4).mono ?_
      rintro e w3 ⟨rfl, hk3, kp3⟩
      refine ⟨rfl, ?_, k2.put k5 kp3, k3.trans (kp3.wide fun k e => .inl e)⟩
      rw [list_mk] at hk3
      simpa [Pts.cmdText] using hk3
    have HF := Lib.hid hfin; clear hfin
    go_wp2_with fail
    · obtain ⟨k1, k2, k3, k4, k5⟩ := KEY.out C2 0 (by omega) (HA.out ‹_›)
      refine (HF.out _ k1 k2 k3 k4 k5).mono ?_
      rintro e w3 ⟨rfl, h3⟩
      go_wp2_with fail
      go_end0
      exact ⟨rfl, h3⟩
    · obtain ⟨k1, k2, k3, k4, k5⟩ := KEY.out (C2.map fun x => x.add 1) (d2 - 1) (by omega) (HB.out ‹_›)
      refine (HF.out _ k1 k2 k3 k4 k5).mono ?_
      rintro e w3 ⟨rfl, h3⟩
      go_wp2_with fail
      go_end0
      exact ⟨rfl, h3⟩
end Go.Proofs.Ytpefkhbejjndeaa
