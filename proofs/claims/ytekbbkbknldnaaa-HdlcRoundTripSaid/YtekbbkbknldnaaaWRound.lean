import Derived.Test.YtekbbkbknldnaaaWArg
namespace Go.Proofs.Ytekbbkbknldnaaa
open Go Go.RowKit Hd Go.Mem

theorem e126_yes (x : UInt8) (h : x = 0x7e) : ((x.toNat : Int) == 126) = true := by subst h; rfl
theorem e126_no (x : UInt8) (h : ¬ x = 0x7e) : ((x.toNat : Int) == 126) = false := by
  rw [beq_eq_false_iff_ne]
  intro e
  exact h (UInt8.toNat_inj.1 (by simpa using Int.ofNat.inj e))
set_option maxRecDepth 100000 in
set_option maxHeartbeats 1000000 in
theorem round_walk (A : Option Addr) (c : Nat) (l : List UInt8) (w : World) (hb : InB w A c l) :
    Calls Try.prog 4 #[.slice A l.length c] w fun e w' => e = .returned (.bool true) ∧ Below w.heap.size w w' := by
  have hmx : l.length ≤ 9223372036854775807 := Nat.le_trans hb.le hb.cap
  by_cases h3 : 6000 < l.length
  · have hd : decide ((6000 : Int) < (l.length : Int)) = true := by simp; omega
    go_enter Try.func4, Try.ntmps4
    go_wp2_with (go_at_call 11; refine (sane_any _).mono ?_; rintro e w1 ⟨rfl, hb1⟩)
    go_ret
    exact ⟨rfl, hb1⟩
  · have hd : decide ((6000 : Int) < (l.length : Int)) = false := by simp; omega
    have hlen : l.length ≤ 140737488351232 := by omega
    have Hb := Lib.hid hb
    clear hb
    by_cases h4 : 4096 < l.length
    · have hd4 : decide ((4096 : Int) < (l.length : Int)) = true := by simp; omega
      go_enter Try.func4, Try.ntmps4
      go_wp2_with (first | (go_at_call 11; refine (sane_any _).mono ?_; rintro e w1 ⟨rfl, hb1⟩) | (go_at_call 15; refine (enc_long A c l _ hlen h4).mono ?_; rintro e w2 ⟨rfl, rfl⟩))
      go_ret
      exact ⟨rfl, hb1⟩
    · have hl4 : l.length ≤ 4096 := by omega
      have Hfl := Lib.hid (flags_only_at_ends l)
      have Hfs := Lib.hid (sealed_length l (fcs l))
      have Hdf := Lib.hid (decode_frame l hl4)
      go_enter Try.func4, Try.ntmps4
      go_wp2_with fail
      refine (sane_any _).mono ?_
      rintro e w1 ⟨rfl, hb1⟩
      have Hb1 := Lib.hid (Hb.out.below hb1)
      go_wp2_with fail
      refine (enc_any A c l w1 hl4 Hb1.out.rd Hb1.out.nil).mono ?_
      rintro e w2 ⟨v, rfl, hO, hb2⟩
      obtain ⟨A2, c2, rfl, hA2, hc2, hm2, hR2⟩ := own_form hO
      clear hO
      have HR2 := Lib.hid hR2
      have Hb2 := Lib.hid (Hb1.out.below hb2)
      clear hR2
      have hfl4 : 4 ≤ (frame l).length := Hfs.out.1
      have hflm : (frame l).length ≤ 9000 := by have := Hfs.out.2; unfold frame; omega
      go_wp2_with fail
      generalize hf : frame l = f at *
      refine (dec_in A2 c2 f 0 w2 (by omega) (by omega) HR2.out hc2).mono ?_
      rintro e w3 ⟨hb3, hp⟩
      have hde : decE f ((0 : Nat) : Int) = .ok (l, f.length) := by
        have := Hdf.out
        unfold decE
        rw [if_neg (by decide)]
        exact this
      rw [hde] at hp
      obtain ⟨A3, c3, rfl, hc3, hm3, hA3, hR3, _, _⟩ := hp
      have Hb3 := Lib.hid (Hb2.out.below hb3)
      have HR3 := Lib.hid hR3
      have HR2b := Lib.hid (RdC.below HR2.out hb3)
      clear hR3 hde
      go_wp2_with (first | (go_at_call 17; refine (same_any A3 A c3 c l l _ HR3.out.c Hb3.out.rd).mono ?_; rintro e w4 ⟨rfl, rfl⟩))
      go_loop [60] (fun i => ∃ k : Nat, k ≤ f.length ∧ i = .int .i64 k) (fun i => f.length - (intOf i).toNat)
      case atStart => exact ⟨0, by omega, rfl⟩
      case round =>
        obtain ⟨k, hk, rfl⟩ := hrel
        by_cases hlt : k < f.length
        · obtain ⟨b, off, rfl, hcell⟩ := Rd.at HR2b.out k hlt
          have hff := Hfl.out k hlt
          have hgd : f.getD k 0 = f[k] := by simp [hlt]
          rw [hgd] at hff
          clear hgd
          generalize f[k] = x at *
          by_cases hx : x = 0x7e
          · have h7 := e126_yes x hx
            have h01 := hff.1 hx
            clear hff hx
            by_cases h0 : k = 0
            · subst h0
              simp only [Nat.add_zero] at hcell
              go_wp2_with fail
              go_round
              case rel => exact ⟨0 + 1, by omega, by go_num⟩
              case measure => simp [intOf]; omega
            · have h0b : ((k : Int) == 0) = false := by simp; omega
              have h1b : ((k : Int) == (f.length : Int) - 1) = true := by rw [beq_iff_eq]; omega
              clear h0 h01
              go_wp2_with fail
              go_round
              case rel => exact ⟨k + 1, by omega, by go_num⟩
              case measure => simp [intOf]; omega
          · have h7 := e126_no x hx
            have h01 : ¬ (k = 0 ∨ k = f.length - 1) := fun e => hx (hff.2 e)
            clear hff hx
            have h0b : ((k : Int) == 0) = false := by simp; omega
            have h1b : ((k : Int) == (f.length : Int) - 1) = false := by rw [beq_eq_false_iff_ne]; omega
            clear h01
            go_wp2_with fail
            go_round
            case rel => exact ⟨k + 1, by omega, by go_num⟩
            case measure => simp [intOf]; omega
        · have : k = f.length := by omega
          subst this
          go_wp2_with fail
          go_ret
          exact ⟨rfl, fw_trans (fw_trans hb1 hb2) hb3⟩
end Go.Proofs.Ytekbbkbknldnaaa
