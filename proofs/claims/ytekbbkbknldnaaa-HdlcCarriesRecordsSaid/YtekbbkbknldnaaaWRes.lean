import Derived.Test.YtekbbkbknldnaaaWArg
namespace Go.Proofs.Ytekbbkbknldnaaa
open Go Go.RowKit Hd Go.Mem

theorem tail2_cells (n : UInt16) : (#[Value.int IntKind.u8 ((n.toNat : Int) % 256), Value.int IntKind.u8 ((n.toNat : Int) / 256 % 256)] : Array Value).toList = (tail2 n).map B := by
  simp [tail2, lo, Hd.hi, Nat.shiftRight_eq_div_pow]
set_option maxRecDepth 100000 in
set_option maxHeartbeats 400000 in
theorem residue_walk (A : Option Addr) (c : Nat) (l : List UInt8) (w : World) (hb : InB w A c l) :
    Calls Try.prog 5 #[.slice A l.length c] w fun e w' => e = .returned (.bool true) ∧ Below w.heap.size w w' := by
  have hmx : l.length ≤ 9223372036854775807 := Nat.le_trans hb.le hb.cap
  by_cases h3 : 3000 < l.length
  · have hd : decide ((3000 : Int) < (l.length : Int)) = true := by simp; omega
    go_enter Try.func5, Try.ntmps5
    go_wp2_with (go_at_call 11; refine (sane_any _).mono ?_; rintro e w1 ⟨rfl, hb1⟩)
    go_ret
    exact ⟨rfl, hb1⟩
  · have hd : decide ((3000 : Int) < (l.length : Int)) = false := by simp; omega
    have hlen : l.length ≤ 140737488351232 := by omega
    have Hb := Lib.hid hb
    have Hres := Lib.hid (residue l)
    clear hb
    go_enter Try.func5, Try.ntmps5
    go_wp2_with fail
    refine (sane_any _).mono ?_
    rintro e w1 ⟨rfl, hb1⟩
    have Hb1 := Lib.hid (Hb.out.below hb1)
    go_wp2_with fail
    refine (fcs_any A c l w1 hlen Hb1.out.rd).mono ?_
    rintro e w2 ⟨rfl, hb2⟩
    have Hb2 := Lib.hid (Hb1.out.below hb2)
    go_wp2_with fail
    refine (copy_any A c l w2 hlen Hb2.out.rd Hb2.out.nil).mono ?_
    rintro e w3 ⟨v, rfl, hO, hb3⟩
    have HO := Lib.hid hO
    clear hO
    generalize hn : fcs l = n at *
    have Hn := Lib.hid hn
    clear hn
    go_wp2_with (at_builtin; refine app_bytes _ rfl _ _ 22 rfl w2 w2.heap.size 5 Try.underlying22 info_u8 v l rfl (HO.out.alloc _) (some ⟨w3.heap.size, 0, none⟩) 2 (tail2 n) rfl (fun e => by cases e) (rd_new _ _ _ _ (tail2_cells n)) (by simp [tail2]; omega) (fw_al hb3 _) (by have := hb3.size; simp; omega) ?_; intro v' w4 hO4 hB4 hg4 hat4 hsz4)
    obtain ⟨A5, c5, rfl, hA5, hc5, hm5, hR5⟩ := own_form hO4
    refine (fcs_any A5 c5 (l ++ tail2 n) w4 (by simp [tail2]; omega) hR5).mono ?_
    rintro e w5 ⟨rfl, hb5⟩
    have hfin : fcs (l ++ tail2 n) = 3911 := Hres.out
    rw [hfin]
    go_wp2_with fail
    go_ret
    exact ⟨rfl, fw_trans (fw_trans (fw_trans hb1 hb2) hB4) hb5⟩
end Go.Proofs.Ytekbbkbknldnaaa
