import Derived.Test.YtaoiklfkkipcaaaWTab
namespace Go.Proofs.Ytaoiklfkkipcaaa
open Go Go.RowKit Hd Go.Mem

theorem u8x (a b : UInt8) : bits .xor .u8 (a.toNat : Int) (b.toNat : Int) = ((a ^^^ b).toNat : Int) := by
  rw [u8_xor_nat _ _ a.toNat_lt b.toNat_lt]; simp
theorem u16x (a b : UInt16) : bits .xor .u16 (a.toNat : Int) (b.toNat : Int) = ((a ^^^ b).toNat : Int) := by
  rw [u16_xor_nat _ _ a.toNat_lt b.toNat_lt]; simp
theorem lo_int (m : UInt16) : (m.toNat : Int) % 256 = ((lo m).toNat : Int) := by simp [lo]
theorem hi_int (m : UInt16) : (m.toNat : Int) / (256 : Int) = ((m >>> 8).toNat : Int) := by simp [Nat.shiftRight_eq_div_pow]
theorem ofNat_u8 (x : UInt8) : UInt16.ofNat x.toNat = x.toUInt16 := by
  apply UInt16.toNat_inj.1
  simp
theorem not16 (m : UInt16) : bits .xor .u16 IntKind.u16.max (m.toNat : Int) = ((m ^^^ 0xffff).toNat : Int) := by
  have := u16x 0xffff m
  rw [UInt16.xor_comm] at this
  exact this
theorem ret_int {k : IntKind} {a b : Int} (h : a = b) : Ending.returned (.int k a) = .returned (.int k b) := by rw [h]
theorem fcs_step1 (m : UInt16) (x : UInt8) : bits .xor .u8 ((m.toNat : Int) % 256) (x.toNat : Int) = ((lo m ^^^ x).toNat : Int) := by rw [lo_int, u8x]
theorem fcs_step2 (m : UInt16) (x : UInt8) : bits .xor .u16 ((sh8 (lo m ^^^ x).toUInt16).toNat : Int) ((m.toNat : Int) / (256 : Int)) = ((crc1 m x).toNat : Int) := by
  rw [hi_int, u16x, crc1_table]

set_option maxRecDepth 100000 in
set_option maxHeartbeats 400000 in
theorem fcs_any (A : Option Addr) (c : Nat) (l : List UInt8) (w : World) (hl : l.length ≤ 140737488351232) (hr : Rd w A l) :
    Calls Try.prog 58 #[.slice A l.length c] w fun e w' => e = .returned (.int .u16 (fcs l).toNat) ∧ Below w.heap.size w w' := by
  
  go_enter Try.func58, Try.ntmps58
  go_wp2_with (first | (go_at_call 73; refine (table_any _).mono ?_; rintro e w1 ⟨rfl, hb⟩) | (refine wpList_store_row rfl 105 _ _ rfl w1.heap.size (tabArr 256) rfl rfl 105 Try.zeroCells105 (heap_alloc_new _ _) (by rw [tabArr_size]; kernel_rfl) (by rw [tabArr_size]; kernel_rfl) (tabArr_cells _) ?_))
  have hr1 : Rd ((w1.alloc (Obj.cells Try.zeroCells105 105)).setRow w1.heap.size (tabArr 256)) A l := (hr.below hb).below (below_setRow ((Below.refl _ _).alloc (Nat.le_refl _) _) (Nat.le_refl _) _)
  have hb1 : Below w.heap.size w ((w1.alloc (Obj.cells Try.zeroCells105 105)).setRow w1.heap.size (tabArr 256)) := below_setRow (hb.alloc hb.size _) hb.size _
  have ht : ∀ j : Nat, j < 256 → ((w1.alloc (Obj.cells Try.zeroCells105 105)).setRow w1.heap.size (tabArr 256)).cell? ⟨w1.heap.size, j, none⟩ = some (.int .u16 (sh8 (UInt16.ofNat j)).toNat) := fun j hj => by
    rw [cell_setRow_same _ _ _ _ _ _ _ (heap_alloc_new _ _)]
    exact tabArr_get j hj
  generalize (w1.alloc (Obj.cells Try.zeroCells105 105)).setRow w1.heap.size (tabArr 256) = W at *
  generalize w1.heap.size = T at *
  have Ht := Lib.hid ht
  clear ht
  go_loop [4, 10] (fun n i => ∃ (k : Nat) (m : UInt16), k ≤ l.length ∧ i = .int .i64 k ∧ n = .int .u16 m.toNat ∧ crc m (l.drop k) = crc 0xffff l) (fun _ i => l.length - (intOf i).toNat)
  case atStart => exact ⟨0, 0xffff, by omega, rfl, rfl, rfl⟩
  case round =>
    obtain ⟨k, m, hk, rfl, rfl, hm⟩ := hrel
    have Hm := Lib.hid hm
    clear hm
    by_cases hlt : k < l.length
    · obtain ⟨b, off, rfl, hc⟩ := hr1.at k hlt
      have e1 := fcs_step1 m l[k]
      have e2 := fcs_step2 m l[k]
      have hj := (lo m ^^^ l[k]).toNat_lt
      have hc2 := Ht.out _ hj
      rw [ofNat_u8] at hc2
      generalize (lo m ^^^ l[k]) = J at *
      go_wp2
      go_round
      case rel => exact ⟨k + 1, crc1 m l[k], by omega, by go_num, rfl, by rw [← Hm.out, List.drop_eq_getElem_cons hlt]; unfold crc; rw [List.foldl_cons]⟩
      case measure => simp [intOf]; omega
    · have : k = l.length := by omega
      subst this
      go_wp2
      go_ret
      have h := Hm.out
      simp only [List.drop_length, crc, List.foldl_nil] at h
      exact ⟨ret_int (by unfold fcs crc; rw [← h]; exact not16 m), hb1⟩
end Go.Proofs.Ytaoiklfkkipcaaa
