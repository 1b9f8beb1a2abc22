import Derived.Test.YtekbbkbknldnaaaRDec
namespace Go.Proofs.Ytekbbkbknldnaaa
open Go Go.RowKit Hd Go.Mem

theorem own_rdp {w : World} {b b0 : Nat} {e : TypeId} {n c : Nat} {A : Option Addr} {xs : List Value} (h : w.ownsRow b e 1 (.slice A n c) n xs) (hb : b0 ≤ b) : RdP (b0 ≤ ·) w A xs := by
  obtain ⟨A', c', e1, _, _, _, hR⟩ := own_form h
  cases e1
  rcases hR with hR | ⟨k, off, rfl, hc⟩
  · exact .inl hR
  · rcases h.2 with ⟨h1, _⟩ | ⟨g, cap, cur, h1, h2, _⟩
    · cases h1
    · cases h1
      exact .inr ⟨_, _, rfl, Nat.le_trans hb h2, hc⟩
theorem flagAt_none {l : List UInt8} {k : Nat} (h : idxFlag (l.drop k) = none) : flagAt l k = l.length := by unfold flagAt; rw [h]
theorem flagAt_some {l : List UInt8} {k n : Nat} (h : idxFlag (l.drop k) = some n) : flagAt l k = k + n := by unfold flagAt; rw [h]
theorem flagAt_le {l : List UInt8} {k : Nat} (h : k ≤ l.length) : flagAt l k ≤ l.length := by
  unfold flagAt
  cases hx : idxFlag (l.drop k) with
  | none => exact Nat.le_refl _
  | some n => have := idxFlag_some hx; simp at this ⊢; omega
theorem fcs_add (x y : UInt8) : IntKind.u16.wrap (IntKind.u16.wrap (x.toNat : Int) + IntKind.u16.wrap (256 * IntKind.u16.wrap (y.toNat : Int))) = ((x.toUInt16 ||| (y.toUInt16 <<< 8)).toNat : Int) := by
  rw [← fcs_or]
  have hx := x.toNat_lt
  have hy := y.toNat_lt
  have hw : ∀ n : Int, IntKind.u16.wrap n = n % 65536 := fun n => by simp [IntKind.wrap, IntKind.bits, IntKind.signed]
  rw [fcs_or, hw, hw, hw, hw]
  have hs : (x.toUInt16 ||| (y.toUInt16 <<< 8)).toNat = x.toNat + 256 * y.toNat := by
    simp only [UInt16.toNat_or, UInt8.toNat_toUInt16, UInt16.toNat_shiftLeft]
    have e : y.toNat <<< ((8 : UInt16).toNat % 16) % 2 ^ 16 = y.toNat <<< 8 := by
      simp [Nat.shiftLeft_eq]
      omega
    rw [e, Nat.or_comm, ← Nat.shiftLeft_add_eq_or_of_lt (by omega : x.toNat < 2 ^ 8), Nat.shiftLeft_eq]
    omega
  rw [hs]
  omega
set_option maxRecDepth 100000 in
set_option maxHeartbeats 800000 in
theorem rdec_in (A : Option Addr) (c : Nat) (l : List UInt8) (k : Nat) (w : World) (hl : l.length ≤ 140737488351232) (h : k < l.length) (hr : Rd w A l) (hc : l.length ≤ c) :
    Calls Try.prog 31 #[.slice A l.length c, .int .i64 (k : Int)] w (DecPost l k w) := by
  obtain ⟨b, off, rfl, hcell⟩ := hr.at k h
  have hd1 : decide ((k : Int) < 0) = false := by simp
  have hd2 : decide ((l.length : Int) ≤ (k : Int)) = false := by simp; omega
  by_cases hx : l[k] = 0x7e
  · have hx1 := x7e_yes l[k] hx
    have Hde := Lib.hid (decE_flag h hx)
    clear hx
    generalize l[k] = x at *
    have hlt := h
    have hr1 := hr.drop (k + 1) c hc
    have Hc := Lib.hid (fun w (h1 : Rd w (some ⟨b, off, none⟩) l) => (show ((k + 1 : Nat) : Int) = (k : Int) + 1 by omega) ▸ rflag_any (some ⟨b, off, none⟩) c l (k + 1) w hl (by omega) h1)
    have Hr := Lib.hid hr
    cases hidx : idxFlag (l.drop (k + 1)) with
    | none =>
      rw [hidx] at Hde
      have Hp := Lib.hid (fun w' (hb : Below w.heap.size w w') => DecPost.err (w := w) (w' := w') hb Hde.out)
      rw [flagAt_none hidx] at Hc
      clear hidx Hde hr hr1
      go_enter Try.func31, Try.ntmps31
      go_wp2_with (go_at_call 30; refine (Hc.out _ Hr.out).mono ?_; rintro e w1 ⟨rfl, hb1⟩)
      go_ret3
      exact Hp.out _ hb1
    | some n =>
      rw [hidx] at Hde
      have hn := idxFlag_some hidx
      rw [flagAt_some hidx] at Hc
      have hnl : k + 1 + n < l.length := by simp at hn; omega
      have Hk2 := Lib.hid (show k + n + 2 = k + 1 + n + 1 by omega)
      have Hkn := Lib.hid (show k + 1 + n + 1 ≤ l.length by omega)
      have s2 := slc_lh 22 5 Try.underlying22 u8_sz (some ⟨b, off, none⟩) l.length c ((k : Int) + 1) ((k : Int) + 1 + (n : Int)) (k + 1) (k + 1 + n) (by omega) (by omega) (by omega) (by omega)
      rw [show ((k + 1 + n : Nat) : Int) = (k : Int) + 1 + (n : Int) by omega] at Hc
      have e2 : k + 1 + n - (k + 1) = ((l.drop (k + 1)).take n).length := by simp; omega
      rw [e2] at s2
      have hr2 := hr1.take n
      have hn2 : ((l.drop (k + 1)).take n).length ≤ 140737488351232 := by simp; omega
      have hn3 : ((l.drop (k + 1)).take n).length ≤ l.length := by simp; omega
      have hz : ((k : Int) + 1 + (n : Int) == (l.length : Int)) = false := by rw [beq_eq_false_iff_ne]; omega
      clear e2
      generalize adv (some ⟨b, off, none⟩) c (k + 1) = A1 at *
      simp only at Hde
      generalize hl2 : (l.drop (k + 1)).take n = l2 at *
      clear hl2 hidx
      have Hr2 := Lib.hid hr2
      clear hr hr1 hr2
      have HU := Lib.hid (fun w (h1 : Rd w A1 l2) => runstuff_any A1 (c - (k + 1)) l2 w hn2 h1)
      go_enter Try.func31, Try.ntmps31
      go_wp2_with (first | (go_at_call 30; refine (Hc.out _ Hr.out).mono ?_; rintro e w1 ⟨rfl, hb1⟩))
      refine (HU.out _ (Hr2.out.below hb1)).mono ?_
      rintro e w2 ⟨hb2, hp⟩
      have hB2 : Below w.heap.size w w2 := fw_trans hb1 hb2
      cases hu : uacc [] false l2 with
      | none =>
        rw [hu] at hp
        subst hp
        rw [opened_none hu] at Hde
        go_wp2_with fail
        go_ret3
        exact DecPost.err hB2 Hde.out
      | some s =>
        obtain ⟨acc, esc⟩ := s
        rw [hu] at hp
        obtain ⟨A2, c2, rfl, hA2, hc1, hm2, hR, hal⟩ := hp
        cases esc with
        | true =>
          rw [opened_esc hu] at Hde
          clear hA2 hu
          go_wp2_with fail
          go_ret3
          exact DecPost.err hB2 Hde.out
        | false =>
          rw [opened_acc hu] at Hde
          clear hu
          by_cases h2 : acc.length < 2
          · have hd3 : decide ((acc.length : Int) < 2) = true := by simp; omega
            have Hch := Lib.hid (show check2 acc = .error 20 by unfold check2; rw [if_pos (.inl h2)])
            rw [Hch.out] at Hde
            clear hA2
            go_wp2_with fail
            go_ret3
            exact DecPost.err hB2 Hde.out
          · have hd3 : decide ((acc.length : Int) < 2) = false := by simp; omega
            by_cases h3 : 4098 < acc.length
            · have hd4 : decide ((4098 : Int) < (acc.length : Int)) = true := by simp; omega
              have Hch := Lib.hid (show check2 acc = .error 20 by unfold check2; rw [if_pos (.inr h3)])
              rw [Hch.out] at Hde
              clear hA2
              go_wp2_with fail
              go_ret3
              exact DecPost.err hB2 Hde.out
            · obtain ⟨p, x', y, hacc⟩ := split2 acc h2
              have hN : acc.length = p.length + 2 := by rw [hacc]; simp
              obtain ⟨b', off', rfl, hcx0⟩ := RdC.at hR p.length (by simp; omega)
              obtain ⟨b2, off2, e2, hcy0⟩ := RdC.at hR (p.length + 1) (by simp; omega)
              simp only [Option.some.injEq, Addr.mk.injEq, and_true] at e2
              obtain ⟨rfl, rfl⟩ := e2
              have hcx : w2.cell? ⟨b', off' + p.length, none⟩ = some (B x') := by rw [hcx0]; simp [hacc]
              have hcy : w2.cell? ⟨b', off' + (p.length + 1), none⟩ = some (B y) := by rw [hcy0]; simp [hacc]
              clear hcx0 hcy0
              have hRp : Rd w2 (some ⟨b', off', none⟩) p := by have := Rd.take (l := acc) hR p.length; rw [hacc] at this; simpa using this
              rw [hacc, check2_pxy, if_neg (by omega)] at Hde
              have hpl : p.length ≤ 4096 := by omega
              clear hd3 hR hA2 hacc h2 h3
              obtain ⟨N, hNN⟩ : ∃ N, acc.length = N := ⟨_, rfl⟩
              rw [hNN] at hc1 hal hN ⊢
              have hd3 : decide ((N : Int) < 2) = false := by simp; omega
              have hd4 : decide ((4098 : Int) < (N : Int)) = false := by simp; omega
              have hN5 : N ≤ 5000 := by omega
              have hcm : p.length ≤ c2 := by omega
              have HRp := Lib.hid (fun w' (h1 : Rd w' (some ⟨b', off', none⟩) p) => rfcs_any (some ⟨b', off', none⟩) c2 p w' (by omega) h1)
              have HF := Lib.hid (show ∀ w', Rd w' (some ⟨b', off', none⟩) p → Rd w' (some ⟨b', off', none⟩) p from fun _ h => h)
              have Hpl := Lib.hid (show p.length ≤ l.length by omega)
              have Hcc := Lib.hid (fun w (h1 : Rd w (some ⟨b', off', none⟩) p) => copy_any (some ⟨b', off', none⟩) c2 p w (by omega) h1 (fun e => by cases e))
              obtain ⟨m, hm⟩ : ∃ m, p.length = m := ⟨_, rfl⟩
              obtain ⟨m1, hm1⟩ : ∃ m1, m + 1 = m1 := ⟨_, rfl⟩
              rw [hm] at hcx hcy HRp Hpl hcm hN Hcc hpl
              rw [hm1] at hcy
              have Hm := Lib.hid hm
              have w1e : IntKind.i64.wrap ((N : Int) - 2) = (m : Int) := by rw [IntKind.wrap_i64]; omega
              have w2e : IntKind.i64.wrap ((N : Int) - 1) = (m1 : Int) := by rw [IntKind.wrap_i64]; omega
              have w3e : (N : Int) - 2 = (m : Int) := by omega
              have w4e : (N : Int) - 1 = (m1 : Int) := by omega
              have w5e : IntKind.i64.wrap (m : Int) = (m : Int) := by rw [IntKind.wrap_i64]; omega
              have w6e : IntKind.i64.wrap (m1 : Int) = (m1 : Int) := by rw [IntKind.wrap_i64]; omega
              have sh := slc_h 22 5 Try.underlying22 u8_sz (some ⟨b', off', none⟩) N c2 (m : Int) m rfl hcm
              have g0 : (0 : Int) ≤ (m : Int) := by omega
              have g1 : (m : Int) ≤ (c2 : Int) := by omega
              have g2 : (m : Int) < (N : Int) := by omega
              have g3 : (0 : Int) ≤ (m1 : Int) := by omega
              have g4 : (m1 : Int) < (N : Int) := by omega
              clear hN hm hm1 hNN
              go_wp2_with fail
              have hH : Held w w2 b' (some ⟨b', off', none⟩) p w2 := ⟨hB2, rfl, hRp, World.block_lt_of_cell? _ _ hcx⟩
              clear hRp
              go_region_held3 (fun w' => Held w w2 b' (some ⟨b', off', none⟩) p w' ∧ w'.cell? ⟨b', off' + m, none⟩ = some (B x') ∧ w'.cell? ⟨b', off' + m1, none⟩ = some (B y)) (first | exact ⟨hH.drew, hcx, hcy⟩ | exact ⟨Held.step hS.1 hb, cell_step hb hS.2.1, cell_step hb hS.2.2⟩)
                (first | (go_at_call 41; have hS := ‹Held w w2 b' (some ⟨b', off', none⟩) p _ ∧ _ ∧ _›; refine (HRp.out _ hS.1.rd).mono ?_; rintro e w' ⟨rfl, hb⟩))
              have hw' := (‹Held w w2 b' (some ⟨b', off', none⟩) p w' ∧ _ ∧ _›).1
              have e67 := fcs_add x' y
              generalize x'.toUInt16 ||| (y.toUInt16 <<< 8) = Z at *
              by_cases hz : fcs p = Z
              · have hz1 : ((Z.toNat : Int) != ((fcs p).toNat : Int)) = false := by rw [hz]; simp
                rw [if_pos hz] at Hde
                clear hz
                go_wp2_with (go_at_call 19; refine (Hcc.out _ hw'.rd).mono ?_; rintro e w4 ⟨v4, rfl, hO4, hb4⟩; obtain ⟨A4, c4, rfl, hA4, hc4, hm4, hR4⟩ := own_form hO4; have HA4 := Lib.hid hA4; clear hA4)
                go_ret3
                exact DecPost.ok (fw_trans hw'.below hb4) (Hk2.out ▸ Hde.out) hc4 hm4 HA4.out (own_rdp hO4 (hw'.below.size)) (by rw [Hm.out]; exact Hpl.out) Hkn.out
              · have hz1 : ((Z.toNat : Int) != ((fcs p).toNat : Int)) = true := by
                  rw [bne_iff_ne]
                  intro e
                  exact hz (UInt16.toNat_inj.1 (Int.ofNat.inj e.symm))
                rw [if_neg hz] at Hde
                clear hz
                go_wp2_with fail
                go_ret3
                exact DecPost.err hw'.below Hde.out
  · have hx1 := x7e_no l[k] hx
    have Hp := Lib.hid (DecPost.err (w := w) (w' := w) (Below.refl _ _) (decE_noflag h hx))
    clear hx
    generalize l[k] = x at *
    go_enter Try.func31, Try.ntmps31
    go_wp2_with fail
    go_ret3
    exact Hp.out
end Go.Proofs.Ytekbbkbknldnaaa
