import Derived.Test.YtaoiklfkkipcaaaProg
import Derived.Test.YtaoiklfkkipcaaaMem
import Derived.Test.YtaoiklfkkipcaaaHdlc
namespace Go.Proofs.Ytaoiklfkkipcaaa
open Go Go.RowKit Hd

def shN : Nat → UInt16 → UInt16
  | 0, n => n
  | k + 1, n => sh (shN k n)
@[irreducible] def tabArr (k : Nat) : Array Value := (Array.range 256).map fun i => if i < k then .int .u16 (sh8 (UInt16.ofNat i)).toNat else .int .u16 0
theorem tabArr_at (k : Nat) (h : k < 256) : (tabArr k)[k]? = some (.int .u16 0) := by
  unfold tabArr
  simp [h]
theorem tabArr_get (k : Nat) (h : k < 256) : (tabArr 256)[k]? = some (.int .u16 (sh8 (UInt16.ofNat k)).toNat) := by
  unfold tabArr
  simp [h]
theorem tabArr_set (k : Nat) (_h : k < 256) : (tabArr k).setIfInBounds k (.int .u16 (sh8 (UInt16.ofNat k)).toNat) = tabArr (k + 1) := by
  unfold tabArr
  apply Array.ext
  · simp
  · intro i h1 h2
    have hi : i < 256 := by simpa using h2
    rw [Array.getElem_setIfInBounds (by simpa using hi)]
    simp only [Array.getElem_map, Array.getElem_range]
    by_cases e : k = i
    · subst e; simp
    · have : (i < k + 1) ↔ i < k := by omega
      simp [this, e]
theorem tabArr_size (k : Nat) : (tabArr k).size = 256 := by unfold tabArr; simp
theorem tabArr_cells (k : Nat) : (tabArr k).all (·.oneCell') = true := by
  unfold tabArr
  simp only [Array.all_eq_true, Array.getElem_map, Array.getElem_range]
  intro i _
  split <;> rfl
theorem tabArr_zero : Try.zeroCells105 = tabArr 0 := by
  first | rfl | (unfold tabArr; kernel_rfl)
theorem zvTab (w : World) : (zeroValue 105).run Try.prog w = .ok (.agg (tabArr 0)) w := by
  unfold tabArr
  kernel_rfl
theorem sh_bits (n : UInt16) : bits .xor .u16 ((n.toNat : Int) / 2) (bits .and .u16 33800 (IntKind.u16.wrap (-bits .and .u16 (n.toNat : Int) 1))) = ((sh n).toNat : Int) := by
  have hn := n.toNat_lt
  have e1 : bits .and .u16 (n.toNat : Int) 1 = ((n.toNat % 2 : Nat) : Int) := by
    have := (bits_nat .u16 16 (by decide) (fun n h1 h2 => by simp [IntKind.wrap, IntKind.bits, IntKind.signed]; omega) n.toNat 1 (by omega) (by decide)).1
    rw [show (1 : Int) = ((1 : Nat) : Int) from rfl, this, Nat.and_one_is_mod]
  rw [e1]
  have hw : IntKind.u16.wrap (-((n.toNat % 2 : Nat) : Int)) = if n.toNat % 2 = 1 then 65535 else 0 := by
    simp [IntKind.wrap, IntKind.bits, IntKind.signed]
    split <;> omega
  rw [hw]
  have e2 : ((n.toNat : Int) / 2) = ((n.toNat / 2 : Nat) : Int) := by omega
  rw [e2]
  unfold sh
  by_cases h : n.toNat % 2 = 1
  · have hc : n % 2 = 1 := by apply UInt16.toNat_inj.1; simpa using h
    rw [if_pos h, if_pos hc]
    have e3 : bits .and .u16 33800 65535 = ((33800 : Nat) : Int) := by decide
    rw [e3, u16_xor_nat _ _ (by omega) (by omega)]
    simp
  · have hc : ¬ n % 2 = 1 := fun e => h (by have := congrArg UInt16.toNat e; simpa using this)
    rw [if_neg h, if_neg hc]
    have e3 : bits .and .u16 33800 0 = ((0 : Nat) : Int) := by decide
    rw [e3, u16_xor_nat _ _ (by omega) (by omega)]
    simp
set_option maxRecDepth 100000 in
set_option maxHeartbeats 400000 in
theorem table_any (w : World) :
    Calls Try.prog 73 #[] w fun e w' => e = .returned (.agg (tabArr 256)) ∧ Below w.heap.size w w' := by
  
  go_enter Try.func73, Try.ntmps73
  go_wp2
  go_loopw [4] (fun i wr => ∃ k : Nat, k ≤ 256 ∧ i = .int .i64 k ∧ wr = (w.alloc (Obj.cells Try.zeroCells105 105)).alloc (Obj.cells (tabArr k) 105)) (fun i _ => 256 - (intOf i).toNat)
  case atStart => exact ⟨0, by omega, rfl, by rw [← tabArr_zero]⟩
  case round =>
    obtain ⟨k, hk, rfl, rfl⟩ := hrel
    by_cases hlt : k < 256
    · have hc := tabArr_at k hlt
      go_wp2
      go_loop [3, 9] (fun n j => ∃ m : Nat, m ≤ 8 ∧ j = .int .i64 m ∧ n = .int .u16 (shN m (UInt16.ofNat k)).toNat) (fun _ j => 8 - (intOf j).toNat)
      case atStart => exact ⟨0, by omega, rfl, by unfold shN; simp; omega⟩
      case round =>
        obtain ⟨m, hm, rfl, rfl⟩ := hrel
        by_cases hlm : m < 8
        · go_wp2
          go_round
          case rel => exact ⟨m + 1, by omega, by go_num, by rw [sh_bits]; rfl⟩
          case measure => simp [intOf]; omega
        · go_wp2
          go_roundw
          case rel =>
            have : m = 8 := by omega
            subst this
            exact ⟨k + 1, by omega, by go_num, by rw [← tabArr_set k hlt]; rfl⟩
          case measure => simp [intOf]; omega
    · have : k = 256 := by omega
      subst this
      go_wp2_with (first | (refine wpList_load_row rfl 105 _ rfl (w.heap.size + 1) rfl 105 (tabArr 256) (0, 0) _ (heap_alloc2_new _ _ _) Try.underlying105 rfl (by rw [tabArr_size]; kernel_rfl) ?_) | (refine wpList_store_row rfl 105 _ _ rfl w.heap.size (tabArr 256) rfl rfl 105 Try.zeroCells105 (heap_alloc2_old _ _ _) (by rw [tabArr_size]; kernel_rfl) (by rw [tabArr_size]; kernel_rfl) (tabArr_cells _) ?_))
      exact bodyPost_ret (v := .agg (tabArr 256)) (results_cell_row rfl _ _ w.heap.size 105 (tabArr 256) (0, 0) _ rfl (setRow_heap _ _ _ _ _ _ (heap_alloc2_old _ _ _)) Try.underlying105 rfl (by rw [tabArr_size]; kernel_rfl)) rfl ⟨rfl, below_setRow (((Below.refl _ _).alloc (Nat.le_refl _) _).alloc (by simp) _) (Nat.le_refl _) _⟩
end Go.Proofs.Ytaoiklfkkipcaaa
