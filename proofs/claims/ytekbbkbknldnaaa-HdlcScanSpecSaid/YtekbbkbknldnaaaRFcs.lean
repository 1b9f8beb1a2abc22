import Derived.Test.YtekbbkbknldnaaaWAll
namespace Go.Proofs.Ytekbbkbknldnaaa
open Go Go.RowKit Hd Go.Mem

/-! the reference's own check sequence and its search for a flag -/
theorem shN_succ (k : Nat) : ∀ n, shN (k + 1) n = sh (shN k n) := fun _ => rfl
theorem shN_8 (n : UInt16) : shN 8 n = sh8 n := rfl
theorem sh_even (m : UInt16) (h : ((m.toNat : Int) % 2 == 1) = false) : IntKind.u16.wrap ((m.toNat : Int) / 2) = ((sh m).toNat : Int) := by
  have hw : IntKind.u16.wrap ((m.toNat : Int) / 2) = (m.toNat : Int) / 2 := by
    have := m.toNat_lt
    simp [IntKind.wrap, IntKind.bits, IntKind.signed]
    omega
  rw [hw]
  have hc : ¬ m % 2 = 1 := fun e => by
    have := congrArg UInt16.toNat e
    simp at this
    rw [beq_eq_false_iff_ne] at h
    omega
  unfold sh
  rw [if_neg hc]
  simp
theorem sh_odd (m : UInt16) (h : ((m.toNat : Int) % 2 == 1) = true) : bits .xor .u16 (IntKind.u16.wrap ((m.toNat : Int) / 2)) 33800 = ((sh m).toNat : Int) := by
  have hw : IntKind.u16.wrap ((m.toNat : Int) / 2) = (m.toNat : Int) / 2 := by
    have := m.toNat_lt
    simp [IntKind.wrap, IntKind.bits, IntKind.signed]
    omega
  rw [hw]
  have hn := m.toNat_lt
  have hc : m % 2 = 1 := by
    rw [beq_iff_eq] at h
    apply UInt16.toNat_inj.1
    simp
    omega
  have e2 : ((m.toNat : Int) / 2) = ((m.toNat / 2 : Nat) : Int) := by omega
  unfold sh
  rw [if_pos hc, e2, show (33800 : Int) = ((33800 : Nat) : Int) from rfl, u16_xor_nat _ _ (by omega) (by omega)]
  simp
theorem crc_x16 (m : UInt16) (x : UInt8) : bits .xor .u16 (m.toNat : Int) (x.toNat : Int) = ((m ^^^ x.toUInt16).toNat : Int) := by
  have := u16x m x.toUInt16
  rw [← this]
  simp
theorem wrap16_u8 (x : UInt8) : IntKind.u16.wrap (x.toNat : Int) = (x.toNat : Int) := by
  have := x.toNat_lt
  simp [IntKind.wrap, IntKind.bits, IntKind.signed]
  omega
set_option maxRecDepth 100000 in
set_option maxHeartbeats 400000 in
theorem rfcs_any (A : Option Addr) (c : Nat) (l : List UInt8) (w : World) (hl : l.length ≤ 140737488351232) (hr : Rd w A l) :
    Calls Try.prog 41 #[.slice A l.length c] w fun e w' => e = .returned (.int .u16 (fcs l).toNat) ∧ Below w.heap.size w w' := by
  go_enter Try.func41, Try.ntmps41
  go_wp2
  go_loop [3, 8] (fun n i => ∃ (k : Nat) (m : UInt16), k ≤ l.length ∧ i = .int .i64 k ∧ n = .int .u16 m.toNat ∧ Hid (crc m (l.drop k) = crc 0xffff l)) (fun _ i => l.length - (intOf i).toNat)
  case atStart => exact ⟨0, 0xffff, by omega, rfl, rfl, Lib.hid rfl⟩
  case round =>
    obtain ⟨k, m, hk, rfl, rfl, Hm⟩ := hrel
    by_cases hlt : k < l.length
    · obtain ⟨b, off, rfl, hc⟩ := hr.at k hlt
      have Hd := Lib.hid (List.drop_eq_getElem_cons hlt)
      generalize l[k] = x at *
      have e1 := crc_x16 m x
      have e0 := wrap16_u8 x
      obtain ⟨M, hM⟩ : ∃ M, m ^^^ x.toUInt16 = M := ⟨_, rfl⟩
      rw [hM] at e1
      have HM := Lib.hid hM
      clear hM
      go_wp2
      go_loop [3, 16] (fun n j => ∃ i : Nat, i ≤ 8 ∧ j = .int .i64 i ∧ n = .int .u16 (shN i M).toNat) (fun _ j => 8 - (intOf j).toNat)
      case atStart => exact ⟨0, by omega, rfl, rfl⟩
      case round =>
        obtain ⟨i, hi, rfl, rfl⟩ := hrel
        by_cases hlm : i < 8
        · obtain ⟨S, hS⟩ : ∃ S, shN i M = S := ⟨_, rfl⟩
          rw [hS]
          have HS := Lib.hid hS
          clear hS
          by_cases hpar : ((S.toNat : Int) % 2 == 1) = true
          · have e3 := sh_odd S hpar
            go_wp2
            go_round
            case rel => exact ⟨i + 1, by omega, by go_num, by rw [shN_succ, HS.out]⟩
            case measure => simp [intOf]; omega
          · have hpar : ((S.toNat : Int) % 2 == 1) = false := Bool.eq_false_iff.2 hpar
            have e3 := sh_even S hpar
            go_wp2
            go_round
            case rel => exact ⟨i + 1, by omega, by go_num, by rw [shN_succ, HS.out]⟩
            case measure => simp [intOf]; omega
        · have : i = 8 := by omega
          subst this
          go_wp2
          go_round
          case rel => exact ⟨k + 1, sh8 M, by omega, by go_num, rfl, Lib.hid (by rw [← Hm.out, Hd.out]; unfold crc; rw [List.foldl_cons]; unfold crc1; rw [HM.out])⟩
          case measure => simp [intOf]; omega
    · have : k = l.length := by omega
      subst this
      have h := Hm.out
      simp only [List.drop_length, crc, List.foldl_nil] at h
      have Hh := Lib.hid h
      have e9 : bits .xor .u16 (m.toNat : Int) 65535 = ((m ^^^ 0xffff).toNat : Int) := u16x m 0xffff
      clear h Hm
      go_wp2
      go_ret
      exact ⟨ret_int (by unfold fcs crc; rw [← Hh.out]; simp), Below.refl _ _⟩
/-- the offset of the first flag at or behind k -/
def flagAt (l : List UInt8) (k : Nat) : Nat := match idxFlag (l.drop k) with
  | none => l.length
  | some n => k + n
theorem flagAt_hit (l : List UInt8) (k : Nat) (h : k < l.length) (hx : l[k] = 0x7e) : flagAt l k = k := by
  unfold flagAt
  rw [List.drop_eq_getElem_cons h, hx]
  rfl
theorem flagAt_step (l : List UInt8) (k : Nat) (h : k < l.length) (hx : ¬ l[k] = 0x7e) : flagAt l (k + 1) = flagAt l k := by
  unfold flagAt
  rw [List.drop_eq_getElem_cons h]
  unfold idxFlag
  rw [List.findIdx?_cons, if_neg (by simpa using hx)]
  cases (l.drop (k + 1)).findIdx? (· == 0x7e) with
  | none => rfl
  | some n => simp; omega
theorem flagAt_end (l : List UInt8) (k : Nat) (h : l.length ≤ k) : flagAt l k = l.length := by
  unfold flagAt
  rw [List.drop_of_length_le h]
  rfl
set_option maxRecDepth 100000 in
set_option maxHeartbeats 400000 in
theorem rflag_any (A : Option Addr) (c : Nat) (l : List UInt8) (k0 : Nat) (w : World) (hl : l.length ≤ 140737488351232) (h0 : k0 ≤ l.length) (hr : Rd w A l) :
    Calls Try.prog 30 #[.slice A l.length c, .int .i64 (k0 : Int)] w fun e w' => e = .returned (.int .i64 (flagAt l k0 : Int)) ∧ Below w.heap.size w w' := by
  go_enter Try.func30, Try.ntmps30
  go_wp2
  go_loop [1] (fun i => ∃ k : Nat, k ≤ l.length ∧ i = .int .i64 k ∧ Hid (flagAt l k = flagAt l k0)) (fun i => l.length - (intOf i).toNat)
  case atStart => exact ⟨k0, h0, rfl, Lib.hid rfl⟩
  case round =>
    obtain ⟨k, hk, rfl, Hk⟩ := hrel
    by_cases hlt : k < l.length
    · obtain ⟨b, off, rfl, hc⟩ := hr.at k hlt
      by_cases hx : l[k] = 0x7e
      · have Hh := Lib.hid (flagAt_hit l k hlt hx)
        have hx1 := x7e_yes l[k] hx
        clear hx
        generalize l[k] = x at *
        go_wp2
        go_ret
        exact ⟨by rw [← Hk.out, Hh.out]; rfl, Below.refl _ _⟩
      · have Hh := Lib.hid (flagAt_step l k hlt hx)
        have hx1 := x7e_no l[k] hx
        clear hx
        generalize l[k] = x at *
        go_wp2
        go_round
        case rel => exact ⟨k + 1, by omega, by go_num, Lib.hid (by rw [← Hk.out, Hh.out])⟩
        case measure => simp [intOf]; omega
    · have : k = l.length := by omega
      subst this
      have Hh := Lib.hid (flagAt_end l l.length (Nat.le_refl _))
      have hd : decide ((l.length : Int) < (l.length : Int)) = false := by simp
      go_wp2
      go_ret
      exact ⟨by rw [← Hk.out, Hh.out]; rfl, Below.refl _ _⟩
end Go.Proofs.Ytekbbkbknldnaaa
