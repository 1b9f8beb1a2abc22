import Derived.Test.YtekbbkbknldnaaaRScan
import Derived.Test.YtekbbkbknldnaaaWPieces
namespace Go.Proofs.Ytekbbkbknldnaaa
open Go Go.RowKit Hd Go.Mem

set_option maxRecDepth 100000 in
set_option maxHeartbeats 1000000 in
theorem spec_walk (A : Option Addr) (c : Nat) (l : List UInt8) (w : World) (hb : InB w A c l) :
    Calls Try.prog 3 #[.slice A l.length c] w fun e w' => e = .returned (.bool true) ∧ Below w.heap.size w w' := by
  have hmx : l.length ≤ 9223372036854775807 := Nat.le_trans hb.le hb.cap
  by_cases h3 : 3000 < l.length
  · have hd : decide ((3000 : Int) < (l.length : Int)) = true := by simp; omega
    go_enter Try.func3, Try.ntmps3
    go_wp2_with (go_at_call 11; refine (sane_any _).mono ?_; rintro e w1 ⟨rfl, hb1⟩)
    go_ret
    exact ⟨rfl, hb1⟩
  · have hd : decide ((3000 : Int) < (l.length : Int)) = false := by simp; omega
    have Hb := Lib.hid hb
    have hcle := hb.le
    have HS1 := Lib.hid (fun W (hW : InB W A c l) => scan_any A c l W (by omega) hW.le hW.rd hW.empty)
    have HS2 := Lib.hid (fun W (hW : InB W A c l) => rscan_any A c l W (by omega) hW.le hW.rd)
    have hl1 : (scan l).1.length ≤ 140737488351232 := Nat.le_trans (scan_len l) (by omega)
    have Hl1 := Lib.hid hl1
    clear hb hl1
    generalize scan l = S at *
    obtain ⟨q, u⟩ := S
    have hu : ((u : Int) == (u : Int)) = true := by simp
    go_enter Try.func3, Try.ntmps3
    go_wp2_with fail
    refine (sane_any _).mono ?_
    rintro e w1 ⟨rfl, hb1⟩
    have Hb1 := Lib.hid (Hb.out.below hb1)
    go_wp2_with fail
    refine (HS1.out w1 Hb1.out).mono ?_
    rintro e w2 ⟨v1, rfl, hR1, hb2⟩
    have Hb2 := Lib.hid (Hb1.out.below hb2)
    obtain ⟨A1, c1, rfl, hA1, hc1, hm1, hL1⟩ := RowB.form hR1
    have HL1 := Lib.hid hL1
    clear hR1 hL1 hA1
    go_wp2_with fail
    refine (HS2.out w2 Hb2.out).mono ?_
    rintro e w3 ⟨v2, rfl, hR2, hb3⟩
    obtain ⟨A2, c2, rfl, hA2, hc2, hm2, hL2⟩ := RowB.form hR2
    have HL2 := Lib.hid hL2
    clear hR2 hL2 hA2
    go_wp2_with fail
    refine (sameall_any A1 A2 c1 c2 q q w3 Hl1.out Hl1.out (HL1.out.below hb3) HL2.out rfl).mono ?_
    rintro e w4 ⟨rfl, hb4⟩
    go_wp2_with fail
    go_ret
    exact ⟨rfl, fw_trans (fw_trans (fw_trans hb1 hb2) hb3) hb4⟩
end Go.Proofs.Ytekbbkbknldnaaa
