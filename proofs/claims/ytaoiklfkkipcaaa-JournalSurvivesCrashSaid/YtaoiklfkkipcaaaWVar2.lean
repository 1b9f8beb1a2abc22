import Derived.Test.YtaoiklfkkipcaaaWVar
namespace Go.Proofs.Ytaoiklfkkipcaaa
open Go Go.RowKit Hd Go.Mem

theorem vOr_lt {acc k : Nat} {c : UInt8} (h : acc < 2 ^ 64) : vOr acc k c < 2 ^ 64 := by
  unfold vOr
  exact Nat.or_lt_two_pow h (Nat.mod_lt _ (by decide))
theorem u8_andNot (x : UInt8) : bits .andNot .u8 (x.toNat : Int) 128 = ((x.toNat % 128 : Nat) : Int) := by
  revert x
  intro x
  have := all_u8 (fun x => decide (bits .andNot .u8 (x.toNat : Int) 128 = ((x.toNat % 128 : Nat) : Int))) (by decide +kernel) x
  simpa using this
theorem u8_and_hi (x : UInt8) (h : 128 ≤ x.toNat) : (bits .and .u8 (x.toNat : Int) 128 != 0) = true := by
  have := all_u8 (fun x => !decide (128 ≤ x.toNat) || (bits .and .u8 (x.toNat : Int) 128 != 0)) (by decide +kernel) x
  simpa [h] using this
theorem u8_and_lo (x : UInt8) (h : ¬ 128 ≤ x.toNat) : (bits .and .u8 (x.toNat : Int) 128 != 0) = false := by
  have := all_u8 (fun x => decide (128 ≤ x.toNat) || !(bits .and .u8 (x.toNat : Int) 128 != 0)) (by decide +kernel) x
  simp only [h, decide_false, Bool.false_or, Bool.not_eq_true'] at this
  exact this
theorem u64_wrap (n : Nat) : IntKind.u64.wrap (n : Int) = ((n % 2 ^ 64 : Nat) : Int) := by
  simp [IntKind.wrap, IntKind.bits, IntKind.signed]
theorem vOr_bits (acc k : Nat) (x : UInt8) (h : acc < 2 ^ 64) : bits .or .u64 (acc : Int) (IntKind.u64.wrap (((x.toNat % 128 : Nat) : Int) * 2 ^ (7 * k))) = ((vOr acc k x : Nat) : Int) := by
  have e : (((x.toNat % 128 : Nat) : Int) * 2 ^ (7 * k)) = (((x.toNat % 128) * 2 ^ (7 * k) : Nat) : Int) := by
    rw [Int.natCast_mul, Int.natCast_pow]
    rfl
  rw [e, u64_wrap]
  have h1 := (bits_nat .u64 64 (by decide) (fun n h1 h2 => by simp [IntKind.wrap, IntKind.bits, IntKind.signed]; omega) acc ((x.toNat % 128) * 2 ^ (7 * k) % 2 ^ 64) h (Nat.mod_lt _ (by decide))).2
  rw [h1]
  rfl
/-- what Uint comes to -/
def UPost (l : List UInt8) (at_ : Int) (w : World) (e : Ending) (w' : World) : Prop :=
  w = w' ∧ match uintE l at_ with
    | .ok (v, n) => e = .returned (.tuple #[.int .u64 (v : Int), .int .i64 (n : Int), .int .i64 0]) ∧ v < 2 ^ 64 ∧ n ≤ l.length
    | .error k => e = .returned (.tuple #[.int .u64 0, .int .i64 0, .int .i64 (k : Int)])
theorem UPost.err {l : List UInt8} {at_ : Int} {w : World} {k : Nat} (h : uintE l at_ = .error k) : UPost l at_ w (.returned (.tuple #[.int .u64 0, .int .i64 0, .int .i64 (k : Int)])) w := by
  refine ⟨rfl, ?_⟩
  rw [h]
theorem UPost.ok {l : List UInt8} {at_ : Int} {w : World} {v n : Nat} {i : Int} (h : uintE l at_ = .ok (v, n)) (h1 : v < 2 ^ 64) (h2 : n ≤ l.length) (hi : i = (n : Int)) : UPost l at_ w (.returned (.tuple #[.int .u64 (v : Int), .int .i64 i, .int .i64 0])) w := by
  subst hi
  refine ⟨rfl, ?_⟩
  rw [h]
  exact ⟨rfl, h1, h2⟩
theorem uintGo_ten (l : List UInt8) (acc : Nat) : uintGo l 10 acc = .error 11 := by cases l <;> simp [uintGo]
theorem uintE_in {l : List UInt8} {a : Nat} (h : a ≤ l.length) : uintE l a = match uintGo (l.drop a) 0 0 with
    | .ok (v, n) => .ok (v, a + n)
    | .error e => .error e := by
  unfold uintE
  rw [if_neg (by omega)]
  rfl
theorem uintE_err {l : List UInt8} {a e : Nat} (h : a ≤ l.length) (h1 : uintGo (l.drop a) 0 0 = .error e) : uintE l a = .error e := by rw [uintE_in h, h1]
theorem uintE_ok {l : List UInt8} {a v n : Nat} (h : a ≤ l.length) (h1 : uintGo (l.drop a) 0 0 = .ok (v, n)) : uintE l a = .ok (v, a + n) := by rw [uintE_in h, h1]
set_option maxRecDepth 100000 in
set_option maxHeartbeats 800000 in
theorem uint_in (A : Option Addr) (c : Nat) (l : List UInt8) (at_ : Nat) (w : World) (hl : l.length ≤ 140737488351232) (ha : at_ ≤ l.length) (hr : Rd w A l) :
    Calls Try.prog 74 #[.slice A l.length c, .int .i64 (at_ : Int)] w (UPost l at_ w) := by
  have Hr := Lib.hid hr
  clear hr
  have hd1 : decide ((at_ : Int) < 0) = false := by simp
  have hd2 : decide ((l.length : Int) < (at_ : Int)) = false := by simp; omega
  have HE := Lib.hid (fun e => uintE_err (e := e) ha)
  have HO := Lib.hid (fun v n => uintE_ok (v := v) (n := n) ha)
  go_enter Try.func74, Try.ntmps74
  go_wp2_with fail
  go_loop [4, 17] (fun v j => ∃ (k : Nat) (acc : Nat), k ≤ 10 ∧ j = .int .i64 k ∧ v = .int .u64 (acc : Int) ∧ acc < 2 ^ 64 ∧ at_ + k ≤ l.length ∧ Hid (uintGo (l.drop (at_ + k)) k acc = uintGo (l.drop at_) 0 0)) (fun _ j => 10 - (intOf j).toNat)
  case atStart => exact ⟨0, 0, by omega, rfl, rfl, by decide, by omega, Lib.hid rfl⟩
  case round =>
    obtain ⟨k, acc, hk, rfl, rfl, hacc, hak, Hk⟩ := hrel
    by_cases hk10 : k < 10
    · by_cases hlt : at_ + k < l.length
      · obtain ⟨b, off, rfl, hc⟩ := Hr.out.at (at_ + k) hlt
        have hst := Hk.out
        rw [List.drop_eq_getElem_cons hlt, uintGo, if_neg (by omega)] at hst
        generalize l[at_ + k] = x at *
        have hn : ((at_ : Int) + (k : Int) == (l.length : Int)) = false := by rw [beq_eq_false_iff_ne]; omega
        have e1 := u8_andNot x
        have e3 := vOr_bits acc k x hacc
        have hacc2 := vOr_lt (k := k) (c := x) hacc
        have e2 : IntKind.u64.wrap ((x.toNat % 128 : Nat) : Int) = ((x.toNat % 128 : Nat) : Int) := by rw [u64_wrap]; congr 1; omega
        obtain ⟨d, hd⟩ : ∃ d, x.toNat % 128 = d := ⟨_, rfl⟩
        rw [hd] at e1 e2 e3
        generalize vOr acc k x = acc2 at *
        clear hd Hk
        by_cases hhi : 128 ≤ x.toNat
        · have hbig := u8_and_hi x hhi
          rw [if_pos hhi] at hst
          have Hst := Lib.hid hst
          clear hst
          go_wp2_with fail
          go_round
          case rel => exact ⟨k + 1, acc2, by omega, by go_num, rfl, hacc2, by omega, Hst⟩
          case measure => simp [intOf]; omega
        · have hbig := u8_and_lo x hhi
          rw [if_neg hhi] at hst
          by_cases h9 : k = 9 ∧ 1 < x.toNat
          · rw [if_pos h9] at hst
            have Hst := Lib.hid hst
            obtain ⟨rfl, h1⟩ := h9
            have hd3 : decide ((1 : Int) < (x.toNat : Int)) = true := by simp; omega
            clear hst
            go_wp2_with fail
            go_ret3
            exact UPost.err (HE.out _ Hst.out.symm)
          · rw [if_neg h9] at hst
            by_cases h0 : 0 < k ∧ x.toNat = 0
            · rw [if_pos h0] at hst
              have Hst := Lib.hid hst
              obtain ⟨h00, hx0⟩ := h0
              have hd3 : (0 < k) = True := eq_true h00
              have hd4 : ((x.toNat : Int) == 0) = true := by simp [hx0]
              have hd5 : decide ((1 : Int) < (x.toNat : Int)) = false := by simp; omega
              clear hst
              by_cases hk9 : k = 9
              · subst hk9
                clear hd3
                go_wp2_with fail
                go_ret3
                exact UPost.err (HE.out _ Hst.out.symm)
              · have hd6 : ((k : Int) == 9) = false := by simp; omega
                go_wp2_with fail
                go_ret3
                exact UPost.err (HE.out _ Hst.out.symm)
            · rw [if_neg h0] at hst
              have Hst := Lib.hid hst
              clear hst
              have Hfin := Lib.hid (show uintE l at_ = .ok (acc2, at_ + (k + 1)) from HO.out _ _ Hst.out.symm)
              have Hle := Lib.hid (show at_ + (k + 1) ≤ l.length by omega)
              have hA : (k = 9 ∧ decide ((1 : Int) < (x.toNat : Int)) = false ∧ ((x.toNat : Int) == 0) = false) ∨ ((k : Int) == 9) = false := by
                by_cases hk9 : k = 9
                · exact .inl ⟨hk9, by simp; omega, by simp; omega⟩
                · exact .inr (by simp; omega)
              have hB : ((0 < k) = True ∧ ((x.toNat : Int) == 0) = false) ∨ (0 < k) = False := by
                by_cases hk0 : 0 < k
                · exact .inl ⟨eq_true hk0, by simp; omega⟩
                · exact .inr (eq_false hk0)
              clear h9 h0 hhi
              rcases hA with ⟨rfl, ha1, ha2⟩ | ha1
              · rw [show ((2 : Int) ^ (7 * 9)) = 9223372036854775808 from by decide] at e3
                clear hB
                go_wp2_with fail
                go_ret3
                exact UPost.ok Hfin.out hacc2 Hle.out (by omega)
              · rcases hB with ⟨hb1, hb2⟩ | hb1
                · go_wp2_with fail
                  go_ret3
                  exact UPost.ok Hfin.out hacc2 Hle.out (by omega)
                · go_wp2_with fail
                  go_ret3
                  exact UPost.ok Hfin.out hacc2 Hle.out (by omega)
      · have hn : ((at_ : Int) + (k : Int) == (l.length : Int)) = true := by rw [beq_iff_eq]; omega
        have hst := Hk.out
        rw [List.drop_of_length_le (by omega), uintGo, if_neg (by omega)] at hst
        have Hst := Lib.hid hst
        clear hst
        go_wp2_with fail
        go_ret3
        exact UPost.err (HE.out _ Hst.out.symm)
    · have : k = 10 := by omega
      subst this
      have hst := Hk.out
      rw [uintGo_ten] at hst
      have Hst := Lib.hid hst
      clear hst
      go_wp2_with fail
      go_ret3
      exact UPost.err (HE.out _ Hst.out.symm)
end Go.Proofs.Ytaoiklfkkipcaaa
