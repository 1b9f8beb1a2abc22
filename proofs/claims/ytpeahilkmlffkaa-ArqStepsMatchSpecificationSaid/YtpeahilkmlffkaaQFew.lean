import Derived.Test.YtpeahilkmlffkaaQSaneL
import Derived.Deep.QuietTactic
import Derived.BigQuiet
set_option linter.unusedSimpArgs false
set_option linter.unusedVariables false
namespace Go.Proofs.Ytpeahilkmlffkaa
open Go Go.RowKit Hd Go.Mem

def FewPost (l : LE) (w : World) (e : Ending) (w' : World) : Prop := ∃ b : Bool, e = .returned (.bool b) ∧ (b = true → l.q.length ≤ 80) ∧ Below w.heap.size w w'
set_option maxRecDepth 100000 in
set_option maxHeartbeats 2000000 in
theorem few_any (A : Option Addr) (c : Nat) (l : LE) (w : World) (hr : RdL w A l.q) :
    Calls Try.prog 16 #[.agg (leCells A c l)] w (FewPost l w) := by
  have Hr := Lib.hid hr
  have h0 := heap_alloc_new w (.cells (leCells A c l) 39)
  have hB0 := fw_new w (.cells (leCells A c l) 39)
  obtain ⟨W, hW⟩ : ∃ W, w.alloc (.cells (leCells A c l) 39) = W := ⟨_, rfl⟩
  rw [hW] at h0 hB0
  have c0 : W.cell? ⟨w.heap.size, 0, none⟩ = some (.slice A l.q.length c) := cellOf h0 rfl
  have HrW := Lib.hid (Hr.out.below hB0)
  have HW := Lib.hid hW
  clear hr h0 hW
  go_enter Try.func16, Try.ntmps16
  go_wp2_with fail
  rw [HW.out]
  go_loop [3, 4] (fun v i => ∃ (z : Int) (k : Nat), v = .int .i64 z ∧ i = .int .i64 (k : Int) ∧ k ≤ 80 ∧ k ≤ l.q.length) (fun _ i => 80 - (intOf i).toNat)
  case atStart => exact ⟨0, 0, rfl, rfl, by omega, by omega⟩
  case round =>
    obtain ⟨z, k, rfl, rfl, hk, hkl⟩ := hrel
    by_cases hlt : k < l.q.length ∧ k < 80
    · obtain ⟨h1, h2⟩ := hlt
      obtain ⟨b, off, A1, c1, rfl, hc1, _, _, _, _⟩ := HrW.out.at k h1
      have g1 : ((k : Int) < (l.q.length : Int)) = True := eq_true (by omega)
      have g2 : ((k : Int) < 80) = True := eq_true (by omega)
      go_wp2_with fail
      go_round
      case rel => exact ⟨_, k + 1, rfl, by go_num, by omega, by omega⟩
      case measure => simp [intOf]; omega
    · skip
      by_cases h80 : l.q.length ≤ 80
      · have g0 : ((l.q.length : Int) ≤ 80) = True := eq_true (by omega)
        by_cases h1 : k < l.q.length
        · exfalso; omega
        · have g1 : ((k : Int) < (l.q.length : Int)) = False := eq_false (by omega)
          clear hlt
          go_wp2_with fail
          go_ret
          exact ⟨_, rfl, fun _ => h80, hB0⟩
      · have g0 : ((l.q.length : Int) ≤ 80) = False := eq_false (by omega)
        have g1 : ((k : Int) < (l.q.length : Int)) = True := eq_true (by omega)
        have g2 : ((k : Int) < 80) = False := eq_false (by omega)
        clear hlt
        go_wp2_with fail
        go_ret
        exact ⟨false, rfl, fun e => (by cases e), hB0⟩
set_option maxRecDepth 100000 in
set_option maxHeartbeats 2000000 in
theorem sameP_eq (A A' : Option Addr) (c c' : Nat) (ps : List (List UInt8)) (w : World) (hz : ps.length ≤ 140737488351232) (h : RdL w A ps) (h' : RdL w A' ps) :
    Calls Try.prog 24 #[.slice A ps.length c, .slice A' ps.length c'] w fun e w' => e = .returned (.bool true) ∧ Below w.heap.size w w' := by
  have H := Lib.hid h
  have H' := Lib.hid h'
  clear h h'
  go_enter Try.func24, Try.ntmps24
  go_wp2
  go_loopw [5] (fun v wr => ∃ k : Nat, k ≤ ps.length ∧ v = .int .i64 (k : Int) ∧ Below w.heap.size w wr) (fun v _ => ps.length - (intOf v).toNat)
  case atStart => exact ⟨0, by omega, rfl, Below.refl _ _⟩
  case round =>
    obtain ⟨k, hk, rfl, hB⟩ := hrel
    by_cases hlt : k < ps.length
    · obtain ⟨b, off, A1, c1, rfl, hc1, _, _, _, hp⟩ := (H.out.below hB).at k hlt
      obtain ⟨b', off', A2, c2, rfl, hc2, _, _, _, hp'⟩ := (H'.out.below hB).at k hlt
      have k1 := fun n => conv_str A1 c1 ps[k] (wr.drewN n) hp
      have k2 := fun n => conv_str A2 c2 ps[k] (wr.drewN n) hp'
      have k3 := conv_str A1 c1 ps[k] wr hp
      have k4 := conv_str A2 c2 ps[k] wr hp'
      have g0 : (0 : Int) ≤ (k : Int) := by omega
      have g1 : (k : Int) < (ps.length : Int) := by omega
      generalize ps[k] = p at *
      clear hp hp'
      go_wp2
      go_quiet (fail)
      go_wp2
      go_roundw
      case rel => exact ⟨k + 1, by omega, by go_num, hB.trans ⟨rfl, rfl, rfl, Nat.le_refl _, fun _ _ => rfl⟩⟩
      case measure => simp [intOf]; omega
    · have : k = ps.length := by omega
      subst this
      go_wp2
      go_ret
      exact ⟨rfl, hB⟩
set_option maxRecDepth 100000 in
set_option maxHeartbeats 2000000 in
/-- an end is the same as itself, wherever it lies -/
theorem same_eq (A A' : Option Addr) (c c' : Nat) (l : LE) (w : World) (hz : l.q.length ≤ 140737488351232) (h : RdL w A l.q) (h' : RdL w A' l.q) :
    Calls Try.prog 23 #[.agg (leCells A c l), .agg (leCells A' c' l)] w fun e w' => e = .returned (.bool true) ∧ Below w.heap.size w w' := by
  have H := Lib.hid h
  have H' := Lib.hid h'
  have hB0 : Below w.heap.size w ((w.alloc (.cells (leCells A c l) 39)).alloc (.cells (leCells A' c' l) 39)) := fw_al (fw_new _ _) _
  have HB0 := Lib.hid hB0
  have HS := Lib.hid (sameP_eq A A' c c' l.q _ hz (H.out.below hB0) (H'.out.below hB0))
  clear h h' hB0
  unfold leCells at HB0 HS ⊢
  go_enter Try.func23, Try.ntmps23
  go_wp2_with fail
  refine HS.out.mono ?_
  rintro e W2 ⟨rfl, hb2⟩
  have hB2 := fw_trans HB0.out hb2
  have k0 := blk_below (blk_second w (.cells #[.slice A l.q.length c, .int .i64 l.b, .int .i64 l.s, .int .i64 l.x, .bool l.o, .int .i64 l.d] 39) (.cells #[.slice A' l.q.length c', .int .i64 l.b, .int .i64 l.s, .int .i64 l.x, .bool l.o, .int .i64 l.d] 39)) hb2
  have k1 := blk_below (heap_alloc2_new w (.cells #[.slice A l.q.length c, .int .i64 l.b, .int .i64 l.s, .int .i64 l.x, .bool l.o, .int .i64 l.d] 39) (.cells #[.slice A' l.q.length c', .int .i64 l.b, .int .i64 l.s, .int .i64 l.x, .bool l.o, .int .i64 l.d] 39)) hb2
  have a1 : W2.cell? ⟨w.heap.size, 1, none⟩ = some (.int .i64 l.b) := cellOf k0 rfl
  have a2 : W2.cell? ⟨w.heap.size, 2, none⟩ = some (.int .i64 l.s) := cellOf k0 rfl
  have a3 : W2.cell? ⟨w.heap.size, 3, none⟩ = some (.int .i64 l.x) := cellOf k0 rfl
  have a4 : W2.cell? ⟨w.heap.size, 4, none⟩ = some (.bool l.o) := cellOf k0 rfl
  have a5 : W2.cell? ⟨w.heap.size, 5, none⟩ = some (.int .i64 l.d) := cellOf k0 rfl
  have b1 : W2.cell? ⟨w.heap.size + 1, 1, none⟩ = some (.int .i64 l.b) := cellOf k1 rfl
  have b2 : W2.cell? ⟨w.heap.size + 1, 2, none⟩ = some (.int .i64 l.s) := cellOf k1 rfl
  have b3 : W2.cell? ⟨w.heap.size + 1, 3, none⟩ = some (.int .i64 l.x) := cellOf k1 rfl
  have b4 : W2.cell? ⟨w.heap.size + 1, 4, none⟩ = some (.bool l.o) := cellOf k1 rfl
  have b5 : W2.cell? ⟨w.heap.size + 1, 5, none⟩ = some (.int .i64 l.d) := cellOf k1 rfl
  clear k0 k1 hb2
  go_wp2_with fail
  go_ret
  exact ⟨rfl, hB2⟩
end Go.Proofs.Ytpeahilkmlffkaa
