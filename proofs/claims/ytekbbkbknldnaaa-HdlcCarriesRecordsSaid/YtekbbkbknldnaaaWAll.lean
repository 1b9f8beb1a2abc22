import Derived.Test.YtekbbkbknldnaaaWSeal
import Derived.Deep.QuietTactic
import Derived.BigQuiet
namespace Go.Proofs.Ytekbbkbknldnaaa
open Go Go.RowKit Hd Go.Mem

/-- a list of byte strings that can be read -/
def RdL (w : World) (A : Option Addr) (ps : List (List UInt8)) : Prop := ∃ vs, RdC w A vs ∧ Els (fun _ => True) w vs ps
theorem RdL.below {w w' : World} {A : Option Addr} {ps : List (List UInt8)} (h : RdL w A ps) (hb : Below w.heap.size w w') : RdL w' A ps := by
  obtain ⟨vs, h1, h2⟩ := h
  exact ⟨vs, h1.below hb, h2.move (fun b _ hl => hb.block b hl) (fun _ h _ => h)⟩
theorem RdL.at {w : World} {A : Option Addr} {ps : List (List UInt8)} (h : RdL w A ps) (i : Nat) (hi : i < ps.length) :
    ∃ b off A' c', A = some ⟨b, off, none⟩ ∧ w.cell? ⟨b, off + i, none⟩ = some (.slice A' ps[i].length c') ∧ ps[i].length ≤ c' ∧ c' ≤ maxLen ∧ (A' = none → c' = 0) ∧ Rd w A' ps[i] := by
  obtain ⟨vs, h1, h2⟩ := h
  have hl := h2.length
  obtain ⟨v, hv, A', c', rfl, k1, k2, k3, k4⟩ := h2.at i hi
  obtain ⟨b, off, e, hc⟩ := h1.at i (by omega)
  refine ⟨b, off, A', c', e, ?_, k1, k2, k3, k4.c⟩
  rw [hc]
  have := List.getElem?_eq_some_iff.1 hv
  obtain ⟨_, h⟩ := this
  rw [h]
theorem RowB.form {w : World} {base : Nat} {e : TypeId} {v : Value} {ps : List (List UInt8)} (h : RowB w base e v ps) : ∃ A c, v = .slice A ps.length c ∧ (A = none → c = 0) ∧ ps.length ≤ c ∧ c ≤ maxLen ∧ RdL w A ps := by
  obtain ⟨vs, h1, h2⟩ := h
  obtain ⟨A, c, k1, k2, k3, k4, k5⟩ := own_form h1
  exact ⟨A, c, k1, k2, k3, k4, vs, k5, h2.move (fun _ _ _ => rfl) (fun _ _ _ => trivial)⟩
theorem pw_below_drewN {w : World} (n : Nat) : Below w.heap.size w (w.drewN n) := ⟨rfl, rfl, rfl, Nat.le_refl _, fun _ _ => rfl⟩
set_option maxRecDepth 100000 in
set_option maxHeartbeats 400000 in
theorem sameall_any (A A' : Option Addr) (c c' : Nat) (ps qs : List (List UInt8)) (w : World) (hp : ps.length ≤ 140737488351232) (hq : qs.length ≤ 140737488351232) (h1 : RdL w A ps) (h2 : RdL w A' qs) (hpq : ps = qs) :
    Calls Try.prog 14 #[.slice A ps.length c, .slice A' qs.length c'] w fun e w' => e = .returned (.bool true) ∧ Below w.heap.size w w' := by
  subst hpq
  have H1 := Lib.hid h1
  have H2 := Lib.hid h2
  clear h1 h2
  go_enter Try.func14, Try.ntmps14
  go_wp2_with fail
  go_loopw [13] (fun i wr => ∃ k : Nat, k ≤ ps.length ∧ i = .int .i64 k ∧ Below w.heap.size w wr) (fun i _ => ps.length - (intOf i).toNat)
  case atStart => exact ⟨0, by omega, rfl, Below.refl _ _⟩
  case round =>
    obtain ⟨k, hk, rfl, hB⟩ := hrel
    by_cases hlt : k < ps.length
    · obtain ⟨b1, off1, A1, c1, rfl, hc1, _, _, _, hr1⟩ := (H1.out.below hB).at k hlt
      obtain ⟨b2, off2, A2, c2, rfl, hc2, _, _, _, hr2⟩ := (H2.out.below hB).at k hlt
      have HS := Lib.hid (fun (n : Nat) => (same_any A1 A2 c1 c2 ps[k] ps[k] (wr.drewN n) (hr1.below (pw_below_drewN n)) (hr2.below (pw_below_drewN n))).mono (fun e w' ⟨he, hw⟩ => (⟨he, hw.symm⟩ : e = _ ∧ w' = _)))
      clear hr1 hr2
      have g0 : (0 : Int) ≤ (k : Int) := by omega
      have g1 : (k : Int) < (ps.length : Int) := by omega
      have hpp : (ps[k] == ps[k]) = true := by simp
      rw [hpp] at HS
      clear hpp
      generalize ps[k] = p at *
      go_wp2_with fail
      go_quiet ((go_at_call 17; exact Calls.quiet_of_same (HS.out _)))
      go_wp2_with fail
      go_roundw
      case rel => exact ⟨k + 1, by omega, by go_num, hB.trans ((pw_below_drewN _).mono hB.size)⟩
      case measure => simp [intOf]; omega
    · have : k = ps.length := by omega
      subst this
      go_wp2_with fail
      go_ret
      exact ⟨rfl, hB⟩
end Go.Proofs.Ytekbbkbknldnaaa
