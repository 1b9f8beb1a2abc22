import Derived.Test.YtpeahilkmlffkaaWArg
import Derived.Test.YtpeahilkmlffkaaWVar3
set_option linter.unusedSimpArgs false
set_option linter.unusedVariables false
namespace Go.Proofs.Ytpeahilkmlffkaa
open Go Go.RowKit Hd Go.Mem

def okSeq (x : Int) : Bool := decide (0 ≤ x) && decide (x < 16)
theorem vseq_any (x : Int) (w : World) : Calls Try.prog 53 #[.int .i64 x] w fun e w' => e = .returned (.bool (okSeq x)) ∧ w = w' := by
  unfold okSeq
  by_cases h : 0 ≤ x
  · go_enter Try.func53, Try.ntmps53
    go_wp2
    go_ret
    exact ⟨by simp <;> omega, rfl⟩
  · go_enter Try.func53, Try.ntmps53
    go_wp2
    go_ret
    exact ⟨by simp <;> omega, rfl⟩
theorem short_any (A : Option Addr) (n c : Nat) (w : World) : Calls Try.prog 44 #[.slice A n c] w fun e w' => e = .returned (.bool (decide ((n : Int) ≤ 256))) ∧ w = w' := by
  go_enter Try.func44, Try.ntmps44
  go_wp2
  go_ret
  exact ⟨by simp, rfl⟩
theorem intime_any (x : Int) (w : World) : Calls Try.prog 48 #[.int .i64 x] w fun e w' => e = .returned (.bool (decide (0 ≤ x) && decide (x ≤ 1099511627776))) ∧ w = w' := by
  by_cases h : 0 ≤ x
  · go_enter Try.func48, Try.ntmps48
    go_wp2
    go_ret
    exact ⟨by simp <;> omega, rfl⟩
  · go_enter Try.func48, Try.ntmps48
    go_wp2
    go_ret
    exact ⟨by simp <;> omega, rfl⟩
theorem plus_any (x y : Int) (w : World) (hx : -1000 ≤ x ∧ x ≤ 1000) (hy : -1000 ≤ y ∧ y ≤ 1000) : Calls Try.prog 50 #[.int .i64 x, .int .i64 y] w fun e w' => e = .returned (.int .i64 (Int.tmod (x + y + 16) 16)) ∧ w = w' := by
  go_enter Try.func50, Try.ntmps50
  go_wp2
  go_ret
  exact ⟨rfl, rfl⟩
set_option maxRecDepth 100000 in
set_option maxHeartbeats 400000 in
theorem allseq_any (A : Option Addr) (c : Nat) (zs : List Int) (w : World) (hz : zs.length ≤ 1000) (hr : RdC w A (zs.map (.int .i64))) :
    Calls Try.prog 52 #[.func (.func 53) #[] #[], .slice A zs.length c] w fun e w' => e = .returned (.bool (zs.all okSeq)) ∧ w = w' := by
  go_enter Try.func52, Try.ntmps52
  go_wp2
  go_loop [9] (fun i => ∃ k : Nat, k ≤ zs.length ∧ i = .int .i64 k ∧ Hid ((zs.drop k).all okSeq = zs.all okSeq)) (fun i => zs.length - (intOf i).toNat)
  case atStart => exact ⟨0, by omega, rfl, Lib.hid rfl⟩
  case round =>
    obtain ⟨k, hk, rfl, Hk⟩ := hrel
    by_cases hlt : k < zs.length
    · obtain ⟨b, off, rfl, hc⟩ := hr.at k (by simpa using hlt)
      rw [List.getElem_map] at hc
      have h1 := Hk.out
      rw [List.drop_eq_getElem_cons hlt, List.all_cons] at h1
      generalize zs[k] = z at *
      have H1 := Lib.hid h1
      clear h1 Hk
      cases hz1 : okSeq z with
      | true =>
        rw [hz1, Bool.true_and] at H1
        go_wp2_with (go_at_call 53; refine (vseq_any z w).mono ?_; rw [hz1]; rintro e w' ⟨rfl, rfl⟩)
        go_round
        case rel => exact ⟨k + 1, by omega, by go_num, H1⟩
        case measure => simp [intOf]; omega
      | false =>
        rw [hz1, Bool.false_and] at H1
        go_wp2_with (go_at_call 53; refine (vseq_any z w).mono ?_; rw [hz1]; rintro e w' ⟨rfl, rfl⟩)
        go_ret
        exact ⟨by rw [← H1.out]; rfl, rfl⟩
    · have : k = zs.length := by omega
      subst this
      have h1 := Hk.out
      rw [List.drop_length, List.all_nil] at h1
      have H1 := Lib.hid h1
      clear h1 Hk
      go_wp2
      go_ret
      exact ⟨by rw [← H1.out]; rfl, rfl⟩
end Go.Proofs.Ytpeahilkmlffkaa
