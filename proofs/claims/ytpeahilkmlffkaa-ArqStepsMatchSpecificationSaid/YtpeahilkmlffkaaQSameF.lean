import Derived.Test.YtpeahilkmlffkaaQSaneL
import Derived.Deep.QuietTactic
import Derived.BigQuiet
set_option linter.unusedSimpArgs false
set_option linter.unusedVariables false
namespace Go.Proofs.Ytpeahilkmlffkaa
open Go Go.RowKit Hd Go.Mem

set_option maxRecDepth 100000 in
set_option maxHeartbeats 4000000 in
theorem sameF_any (A A' : Option Addr) (c c' : Nat) (fs : List Fr) (w : World) (hl : fs.length ≤ 1000) (h : InF w A c fs) (h' : InF w A' c' fs) :
    Calls Try.prog 15 #[.slice A fs.length c, .slice A' fs.length c'] w fun e w' => e = .returned (.bool true) ∧ Below w.heap.size w w' := by
  have H := Lib.hid h
  have H' := Lib.hid h'
  clear h h'
  go_enter Try.func15, Try.ntmps15
  go_wp2
  go_loopw [5] (fun v wr => ∃ k : Nat, k ≤ fs.length ∧ v = .int .i64 (k : Int) ∧ Below w.heap.size w wr) (fun v _ => fs.length - (intOf v).toNat)
  case atStart => exact ⟨0, by omega, rfl, Below.refl _ _⟩
  case round =>
    obtain ⟨k, hk, rfl, hB⟩ := hrel
    by_cases hlt : k < fs.length
    · obtain ⟨b, off, A1, c1, rfl, hr, hn, _, _, hp⟩ := (H.out.below hB).at k hlt
      obtain ⟨b', off', A2, c2, rfl, hr', hn', _, _, hp'⟩ := (H'.out.below hB).at k hlt
      rw [show off + 4 * k = off + k * 4 from by omega] at hr
      rw [show off' + 4 * k = off' + k * 4 from by omega] at hr'
      have q0 : wr.cell? ⟨b, off + k * 4, none⟩ = some (.bool fs[k].d) := hr 0 _ rfl
      have q1 : wr.cell? ⟨b, off + k * 4 + 1, none⟩ = some (.int .i64 fs[k].s) := hr 1 _ rfl
      have q2 : wr.cell? ⟨b, off + k * 4 + 2, none⟩ = some (.int .i64 fs[k].a) := hr 2 _ rfl
      have q3 : wr.cell? ⟨b, off + k * 4 + 3, none⟩ = some (.slice A1 fs[k].p.length c1) := hr 3 _ rfl
      have p0 : wr.cell? ⟨b', off' + k * 4, none⟩ = some (.bool fs[k].d) := hr' 0 _ rfl
      have p1 : wr.cell? ⟨b', off' + k * 4 + 1, none⟩ = some (.int .i64 fs[k].s) := hr' 1 _ rfl
      have p2 : wr.cell? ⟨b', off' + k * 4 + 2, none⟩ = some (.int .i64 fs[k].a) := hr' 2 _ rfl
      have p3 : wr.cell? ⟨b', off' + k * 4 + 3, none⟩ = some (.slice A2 fs[k].p.length c2) := hr' 3 _ rfl
      have k1 := fun n => conv_str A1 c1 fs[k].p (wr.drewN n) hp
      have k2 := fun n => conv_str A2 c2 fs[k].p (wr.drewN n) hp'
      have k3 := conv_str A1 c1 fs[k].p wr hp
      have k4 := conv_str A2 c2 fs[k].p wr hp'
      have g0 : (0 : Int) ≤ (k : Int) := by omega
      have g1 : (k : Int) < (fs.length : Int) := by omega
      generalize fs[k] = f at *
      obtain ⟨d, s, a, p⟩ := f
      clear hr hr' hp hp' hn hn'
      go_wp2
      go_quiet (fail)
      go_wp2
      go_roundw
      case rel => exact ⟨k + 1, by omega, by go_num, hB.trans ⟨rfl, rfl, rfl, Nat.le_refl _, fun _ _ => rfl⟩⟩
      case measure => simp [intOf]; omega
    · have : k = fs.length := by omega
      subst this
      go_wp2
      go_ret
      exact ⟨rfl, hB⟩
end Go.Proofs.Ytpeahilkmlffkaa
