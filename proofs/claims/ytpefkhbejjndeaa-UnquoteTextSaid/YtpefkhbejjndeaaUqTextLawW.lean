/- conchlaw27.UnquoteText, walked: true, whatever the word. -/
import Derived.Test.YtpefkhbejjndeaaUqPlain
import Derived.Test.YtpefkhbejjndeaaUqNames
import Derived.Test.YtpefkhbejjndeaaUqQuoted
import Derived.Test.YtpefkhbejjndeaaRefRight
import Derived.Test.YtpefkhbejjndeaaUqTextW
namespace Go.Proofs.Ytpefkhbejjndeaa
open Go.RowKit

theorem Pts.no_names : ∀ (l : Pts) (p : Nat) (pv : Option (List UInt8)), l.allP p pv = true → l.utx.isSome = true → l.nms = []
  | .nil, _, _, _, _ => rfl
  | .cons k t o kids cm r, p, pv, ha, hu => by
    obtain ⟨h1, h2⟩ := Pts.utx_cons hu
    rw [Pts.allP] at ha
    simp only [Bool.and_eq_true] at ha
    have hr := Pts.no_names r _ _ ha.2 h1
    have hone := ha.1.1
    have hpl : plain1 k o.toList kids.len cm.n = false := by
      unfold oneB at hone
      cases hq : plain1 k o.toList kids.len cm.n with
      | false => rfl
      | true => rw [hq] at hone; cases hone
    have hkids : kids.nms = [] := by
      rcases h2 with h2 | h2 | h2 | ⟨h2, h3⟩
      · have : kids.len = 0 := by unfold plain1 at hpl; subst h2; simp at hpl; omega
        rw [Pts.nil_of_len this]; rfl
      · have : kids.len = 0 := by unfold plain1 at hpl; subst h2; simp at hpl; omega
        rw [Pts.nil_of_len this]; rfl
      · have : kids.len = 0 := by unfold plain1 at hpl; subst h2; simp at hpl; omega
        rw [Pts.nil_of_len this]; rfl
      · refine Pts.no_names kids 1 none ?_ h3
        unfold oneB at hone
        rw [hpl] at hone
        subst h2
        simp at hone
        exact hone.2
    rw [Pts.nms, hkids, hr, if_neg]
    · rfl
    · intro h; omega
theorem Pts.plt_some {l : Pts} {s : List UInt8} (h : l.plt = some s) : l.utx = some s ∧ l.sht = s ∧ l.quoted = false := by
  match l, h with
  | .nil, h => cases h
  | .cons k t o kids cm (.cons ..), h => cases h
  | .cons k t o kids cm .nil, h =>
    have h : (if k = 1 then some t.toList else none) = some s := h
    by_cases hk : k = 1
    · rw [if_pos hk] at h
      cases h
      subst hk
      refine ⟨?_, ?_, rfl⟩
      · simp [Pts.utx]
      · simp [Pts.sht]
    · rw [if_neg hk] at h; cases h
theorem bs_size (s : List UInt8) : (⟨s.toArray⟩ : ByteArray).size = s.length := size_lit s

set_option maxRecDepth 100000 in
set_option maxHeartbeats 8000000 in
theorem unquoteText_w (l : Pts) (A : Option Addr) (c : Nat) (w : World) (hp : PtsAt (Old w) w A 0 l) (hmx : l.mx ≤ 140737488355328) :
    Calls Try.prog 9 #[.agg #[.slice A l.len c]] w fun e w' => e = .returned (.bool true) ∧ Below w.heap.size w w' := by
  have hlw := Pts.len_mx l
  obtain ⟨ma, hma⟩ : ∃ ma, l.muchW = ma := ⟨_, rfl⟩
  have HMA := Lib.hid hma
  clear hma
  go_enter Try.func9, Try.ntmps9
  go_wp2_with fail
  generalize hW : World.alloc _ _ = W
  have hbW : Below w.heap.size w W := by rw [← hW]; exact (Below.refl _ _).alloc (Nat.le_refl _) _
  have hsz : W.heap.size = w.heap.size + 1 := by rw [← hW]; simp
  have q0 : W.cell? ⟨w.heap.size, 0, none⟩ = some (.slice A l.len c) := by rw [← hW]; simp
  have hpW := hp.old (fun _ h => h) hbW
  clear hW
  refine (much_w l _ A c W (by omega) hpW).mono ?_
  rintro e w2 ⟨rfl, m, rfl⟩
  rw [HMA.out]
  have hb2 := belowN hbW m
  have q2 : (W.drewN m).cell? ⟨w.heap.size, 0, none⟩ = some (.slice A l.len c) := by simpa using q0
  have hs2 : (W.drewN m).heap.size = w.heap.size + 1 := by simpa using hsz
  clear hbW hsz q0 hpW
  revert hb2 q2 hs2
  generalize W.drewN m = W2
  intro hb2 q2 hs2
  have HB2 := Lib.hid hb2; have HP := Lib.hid hp; have HS2 := Lib.hid hs2
  clear hb2 hp hs2
  by_cases h1 : ma ≤ 300
  · go_wp2_with fail
    refine (right_r l A c (Old w) W2 (by omega) (fun k (hk : k < w.heap.size) => by have := HS2.out; omega) (HP.out.old (fun _ h => h) HB2.out)).mono ?_
    rintro e w3 ⟨rfl, hb3⟩
    have hbw := HB2.out.trans (hb3.mono HB2.out.size)
    have d0 := (World.cell?_of_block (hb3.block w.heap.size (by have := HS2.out; omega))).trans q2
    have hs3 : w.heap.size + 1 ≤ w3.heap.size := by have := hb3.size; have := HS2.out; omega
    clear hb3 q2
    cases hr : l.right with
    | false =>
      go_wp2_with fail
      refine (awake27 _).mono ?_
      rintro e w4 ⟨rfl, hb4⟩
      go_wp2_with fail
      go_ret
      exact ⟨rfl, hbw.trans (hb4.mono hbw.size)⟩
    | true =>
      have HR := Lib.hid hr
      obtain ⟨hwr, hwt⟩ := Pts.text_little (l := l) (by have := hr; unfold Pts.right at this; simp only [Bool.and_eq_true] at this; exact this.1.2) hmx (by have := HMA.out; omega)
      have HWT := Lib.hid hwt
      clear hwt
      have HBW := Lib.hid hbw
      have HPW := Lib.hid (HP.out.old (fun _ h => h) hbw)
      clear hr hbw
      go_wp2_with fail
      refine (utext_w l A c (Old w) w3 hmx (by omega) (fun k (hk : k < w.heap.size) => by omega) HPW.out).mono ?_
      rintro e w4 ⟨rfl, hb4⟩
      have hbw4 := HBW.out.trans (hb4.mono HBW.out.size)
      have d4 := (World.cell?_of_block (hb4.block w.heap.size (by omega))).trans d0
      have hs4 : w.heap.size + 1 ≤ w4.heap.size := by have := hb4.size; omega
      have HP4 := Lib.hid (HP.out.old (fun _ h => h) hbw4)
      have HBW4 := Lib.hid hbw4
      clear hb4 d0 hs3 HBW HPW hbw4
      unfold bs
      go_wp2_with fail
      refine (uplain_p l A c (Old w) w4 (by omega) (fun k (hk : k < w.heap.size) => by omega) HP4.out).mono ?_
      rintro e w5 ⟨rfl, hb5⟩
      have hbw5 := HBW4.out.trans (hb5.mono HBW4.out.size)
      have d5 := (World.cell?_of_block (hb5.block w.heap.size (by omega))).trans d4
      have hs5 : w.heap.size + 1 ≤ w5.heap.size := by have := hb5.size; omega
      have HP5 := Lib.hid (HP.out.old (fun _ h => h) hbw5)
      have HBW5 := Lib.hid hbw5
      clear hb5 d4 hs4 HBW4 HP4 hbw5
      unfold bs
      cases hpl : l.plt with
      | some t =>
        obtain ⟨hux, hsh, hqu⟩ := Pts.plt_some hpl
        have hwt := HWT.out (by rw [hux]; rfl)
        have HU := Lib.hid hux; have HSH := Lib.hid hsh; have HQ := Lib.hid hqu
        rw [hux]
        clear hux hpl hsh hqu
        simp only [Option.getD_some, Option.isSome_some]
        go_wp2_with fail
        refine (quoted_p l A c (Old w) w5 (by omega) (fun k (hk : k < w.heap.size) => by omega) HP5.out).mono ?_
        rintro e w6 ⟨rfl, hb6⟩
        rw [HQ.out]
        have hbw6 := HBW5.out.trans (hb6.mono HBW5.out.size)
        have d6 := (World.cell?_of_block (hb6.block w.heap.size (by omega))).trans d5
        have hs6 : w.heap.size + 1 ≤ w6.heap.size := by have := hb6.size; omega
        have HP6 := Lib.hid (HP.out.old (fun _ h => h) hbw6)
        have HBW6 := Lib.hid hbw6
        clear hb6 d5 hs5 HBW5 HP5 hbw6
        go_wp2_with fail
        refine (show25_p l A c (Old w) w6 (by omega) (by rw [HU.out]; rfl) (fun k (hk : k < w.heap.size) => by omega) HP6.out).mono ?_
        rintro e w7 ⟨rfl, hb7⟩
        rw [HSH.out]
        have hbw7 := HBW6.out.trans (hb7.mono HBW6.out.size)
        have d7 := (World.cell?_of_block (hb7.block w.heap.size (by omega))).trans d6
        have hs7 : w.heap.size + 1 ≤ w7.heap.size := by have := hb7.size; omega
        have HP7 := Lib.hid (HP.out.old (fun _ h => h) hbw7)
        have HBW7 := Lib.hid hbw7
        clear hb7 d6 hs6 HBW6 HP6 hbw7
        unfold bs
        go_wp2_with fail
        refine (show25_p l A c (Old w) w7 (by omega) (by rw [HU.out]; rfl) (fun k (hk : k < w.heap.size) => by omega) HP7.out).mono ?_
        rintro e w8 ⟨rfl, hb8⟩
        rw [HSH.out]
        have hbw8 := HBW7.out.trans (hb8.mono HBW7.out.size)
        have d8 := (World.cell?_of_block (hb8.block w.heap.size (by omega))).trans d7
        have hs8 : w.heap.size + 1 ≤ w8.heap.size := by have := hb8.size; omega
        have HP8 := Lib.hid (HP.out.old (fun _ h => h) hbw8)
        have HBW8 := Lib.hid hbw8
        clear hb8 d7 hs7 HBW7 HP7 hbw8
        unfold bs
        have hlt := bs_size t
        go_wp2_with fail
        refine (names_p l A c (Old w) w8 (by omega) (fun k (hk : k < w.heap.size) => by omega) HP8.out).mono ?_
        rintro e w9 ⟨v, rfl, _, hv, hb9⟩
        have hnn := Pts.no_names l 0 none (by have := HR.out; unfold Pts.right at this; simp only [Bool.and_eq_true] at this; exact this.1.2) (by rw [HU.out]; rfl)
        obtain rfl := hv.2 hnn
        have HBW9 := Lib.hid (HBW8.out.trans (hb9.mono HBW8.out.size))
        clear hb9 hv hnn d8
        go_wp2_with fail
        refine (awake27 _).mono ?_
        rintro e w10 ⟨rfl, hb10⟩
        go_wp2_with fail
        go_ret
        exact ⟨rfl, HBW9.out.trans (hb10.mono HBW9.out.size)⟩
      | none =>
        simp only [Option.getD_none, Option.isSome_none]
        cases hux : l.utx with
        | none =>
          simp only [Option.getD_none, Option.isSome_none]
          go_wp2_with fail
          refine (awake27 _).mono ?_
          rintro e w10 ⟨rfl, hb10⟩
          go_wp2_with fail
          go_ret
          exact ⟨rfl, HBW5.out.trans (hb10.mono HBW5.out.size)⟩
        | some s =>
          simp only [Option.getD_some, Option.isSome_some]
          have hwt := HWT.out (by rw [hux]; rfl)
          have HU := Lib.hid hux
          have hss := Pts.utx_sht l s hux
          have hs1 := Pts.utx_len l s hux
          have hs2 := Pts.sht_len l
          clear hux hpl
          have e1 := bs_size s
          have e2 := bs_size l.sht
          go_wp2_with fail
          refine (show25_p l A c (Old w) w5 (by omega) (by rw [HU.out]; rfl) (fun k (hk : k < w.heap.size) => by omega) HP5.out).mono ?_
          rintro e w8 ⟨rfl, hb8⟩
          have hbw8 := HBW5.out.trans (hb8.mono HBW5.out.size)
          have d8 := (World.cell?_of_block (hb8.block w.heap.size (by omega))).trans d5
          have hs8 : w.heap.size + 1 ≤ w8.heap.size := by have := hb8.size; omega
          have HP8 := Lib.hid (HP.out.old (fun _ h => h) hbw8)
          have HBW8 := Lib.hid hbw8
          clear hb8 d5 hs5 HBW5 HP5 hbw8
          unfold bs
          have hle : (s.length : Int) ≤ (l.sht.length : Int) := by omega
          go_wp2_with fail
          refine (names_p l A c (Old w) w8 (by omega) (fun k (hk : k < w.heap.size) => by omega) HP8.out).mono ?_
          rintro e w9 ⟨v, rfl, _, hv, hb9⟩
          have hnn := Pts.no_names l 0 none (by have := HR.out; unfold Pts.right at this; simp only [Bool.and_eq_true] at this; exact this.1.2) (by rw [HU.out]; rfl)
          obtain rfl := hv.2 hnn
          have HBW9 := Lib.hid (HBW8.out.trans (hb9.mono HBW8.out.size))
          clear hb9 hv hnn d8
          go_wp2_with fail
          refine (awake27 _).mono ?_
          rintro e w10 ⟨rfl, hb10⟩
          go_wp2_with fail
          go_ret
          exact ⟨rfl, HBW9.out.trans (hb10.mono HBW9.out.size)⟩
  · go_wp2_with fail
    refine (awake27 _).mono ?_
    rintro e w3 ⟨rfl, hb3⟩
    go_wp2_with fail
    go_ret
    exact ⟨rfl, HB2.out.trans (hb3.mono HB2.out.size)⟩
end Go.Proofs.Ytpefkhbejjndeaa
