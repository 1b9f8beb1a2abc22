import Derived.Test.YtaoiklfkkipcaaaVar
import Derived.Test.YtaoiklfkkipcaaaWArg
import Derived.Lib.SliceRun
namespace Go.Proofs.Ytaoiklfkkipcaaa
open Go Go.RowKit Hd Go.Mem

theorem clone_any (A : Option Addr) (c : Nat) (l : List UInt8) (w : World) (hl : l.length ≤ 140737488351232) (hr : Rd w A l) (hA : A = none → c = 0) (hc : l.length ≤ c) :
    Calls Try.prog 46 #[.slice A l.length c] w fun e w' => ∃ v, e = .returned v ∧ OwnB w' w.heap.size 5 v l ∧ Below w.heap.size w w' := by
  have qT : ∀ (w : World) (a : Option Addr) (n c n' c' : Nat), (binOp .eql 25 (.slice a n c) (.slice none n' c')).run Try.prog w = .ok (.bool a.isNone) w := fun w a n c n' c' => Lib.run_eql_slice_nil w _ _ a n c n' c' Try.underlying25
  cases A with
  | none =>
    have : c = 0 := hA rfl
    subst this
    have : l = [] := List.eq_nil_of_length_eq_zero (by omega)
    subst this
    simp only [List.length_nil]
    go_enter Try.func46, Try.ntmps46
    go_wp2_with fail
    go_ret
    exact ⟨_, rfl, World.ownsRow_nil _ _ _ _, Below.refl _ _⟩
  | some ad =>
    go_enter Try.func46, Try.ntmps46
    go_wp2_with (at_builtin; refine app_bytes _ rfl (.tmp 5) (.tmp 6) 25 rfl w w.heap.size 5 Try.underlying25 info_u8 (.slice (some ⟨w.heap.size, 0, none⟩) 0 0) [] rfl (own_fresh w _ #[] _ (Nat.le_refl _) (by decide)) (some ad) c l rfl (fun e => by cases e) (RdC.below hr (fw_new _ _)) (by simp; omega) (fw_new _ _) (by simp) ?_; intro v' w' hO3 hB3 hg3 hat3 hsz3)
    go_ret
    exact ⟨_, rfl, hO3, hB3⟩
theorem u8_or128 (v : Nat) : bits .or .u8 ((v : Int) % 256) 128 = ((UInt8.ofNat (v % 128 + 128)).toNat : Int) := by
  have h1 := (bits_nat .u8 8 (by decide) (fun n h1 h2 => by simp [IntKind.wrap, IntKind.bits, IntKind.signed]; omega) (v % 256) 128 (by omega) (by decide)).2
  have e1 : ((v : Int) % 256) = ((v % 256 : Nat) : Int) := by omega
  rw [e1, show (128 : Int) = ((128 : Nat) : Int) from rfl, h1]
  have h2 : v % 256 ||| 128 = v % 128 + 128 := by
    by_cases h : v % 256 < 128
    · have := Nat.two_pow_add_eq_or_of_lt (i := 7) (b := v % 256) (by omega) 1
      simp at this
      rw [Nat.or_comm, ← this]
      omega
    · obtain ⟨d, hd, hlt⟩ : ∃ d, v % 256 = 128 + d ∧ d < 128 := ⟨v % 256 - 128, by omega, by omega⟩
      have := Nat.two_pow_add_eq_or_of_lt (i := 7) (b := d) (by omega) 1
      simp at this
      rw [hd, this, Nat.or_comm, ← Nat.or_assoc, Nat.or_self, ← this]
      omega
  rw [h2]
  simp
  omega
theorem u8_low (u : Nat) : (u : Int) % 256 = ((UInt8.ofNat u).toNat : Int) := by simp
set_option maxRecDepth 100000 in
set_option maxHeartbeats 400000 in
theorem auint_any (A : Option Addr) (c : Nat) (l : List UInt8) (v : Nat) (w : World) (hl : l.length ≤ 100000000000) (hv : v < 2 ^ 64) (hr : Rd w A l) (hA : A = none → c = 0) (hc : l.length ≤ c) :
    Calls Try.prog 63 #[.slice A l.length c, .int .u64 (v : Int)] w fun e w' => ∃ v', e = .returned v' ∧ OwnB w' w.heap.size 5 v' (l ++ enc v) ∧ Below w.heap.size w w' := by
  have Hcl := Lib.hid (clone_any A c l w (by omega) hr hA hc)
  clear hr hA hc
  go_enter Try.func63, Try.ntmps63
  go_wp2_with fail
  refine Hcl.out.mono ?_
  rintro e w1 ⟨v1, rfl, hO1, hB1⟩
  go_wp2_with fail
  go_loopw [5, 1] (fun b x wr => ∃ (q : List UInt8) (u : Nat), x = .int .u64 u ∧ u < 2 ^ 64 ∧ OwnB wr w.heap.size 5 b q ∧ Below w.heap.size w wr ∧ q.length + (enc u).length ≤ l.length + 10 ∧ Hid (q ++ enc u = l ++ enc v)) (fun _ x _ => (intOf x).toNat)
  case atStart => exact ⟨l, v, rfl, hv, hO1, hB1, by have := enc_len64 hv; omega, Lib.hid rfl⟩
  case round =>
    obtain ⟨q, u, rfl, hu, hO, hB, hq, Hq⟩ := hrel
    have hbd : q.length + 1 ≤ 140737488355328 := by have := enc_len_pos u; omega
    by_cases h : u < 128
    · obtain ⟨x, rfl⟩ : ∃ x : UInt8, u = x.toNat := ⟨UInt8.ofNat u, by simp; omega⟩
      have hd : decide ((128 : Int) ≤ (x.toNat : Int)) = false := by simp; omega
      have Hs := Lib.hid (show enc x.toNat = [x] by rw [enc_small h]; simp)
      go_wp2_with (at_builtin; refine app_bytes _ rfl (.tmp 18) (.tmp 21) 25 rfl w w.heap.size 5 Try.underlying25 info_u8 u5 _ rfl (hO.alloc _) (some ⟨wr.heap.size, 0, none⟩) 1 [x] rfl (fun e => by cases e) (rd_new _ _ _ _ rfl) hbd (fw_al hB _) (by have := hB.size; simp; omega) ?_; intro v' w' hO3 hB3 hg3 hat3 hsz3)
      go_ret
      exact ⟨_, rfl, by rw [← Hq.out, Hs.out]; exact hO3, hB3⟩
    · have hd : decide ((128 : Int) ≤ (u : Int)) = true := by simp; omega
      have e1 := u8_or128 u
      have Hs := Lib.hid (enc_big h)
      generalize UInt8.ofNat (u % 128 + 128) = x at *
      obtain ⟨d, hdv⟩ : ∃ d, u / 128 = d := ⟨_, rfl⟩
      have e3 : (u : Int) / 128 = (d : Int) := by omega
      have hdu : d < u := by omega
      rw [hdv] at Hs
      have hlen : (q ++ [x]).length + (enc d).length ≤ l.length + 10 := by have := hq; rw [Hs.out] at this; simp at this ⊢; omega
      have Hl := Lib.hid hlen
      clear hdv hlen
      go_wp2_with (at_builtin; refine app_bytes _ rfl (.tmp 10) (.tmp 14) 25 rfl w w.heap.size 5 Try.underlying25 info_u8 u5 _ rfl (hO.alloc _) (some ⟨wr.heap.size, 0, none⟩) 1 [x] rfl (fun e => by cases e) (rd_new _ _ _ _ rfl) hbd (fw_al hB _) (by have := hB.size; simp; omega) ?_; intro v' w' hO3 hB3 hg3 hat3 hsz3)
      go_roundw
      case rel => exact ⟨q ++ [x], d, by go_num, by omega, hO3, hB3, Hl.out, Lib.hid (by rw [← Hq.out, Hs.out]; simp)⟩
      case measure => simp [intOf]; omega
end Go.Proofs.Ytaoiklfkkipcaaa
