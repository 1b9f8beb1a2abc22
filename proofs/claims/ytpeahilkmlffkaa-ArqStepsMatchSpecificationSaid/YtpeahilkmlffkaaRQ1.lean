import Derived.Test.YtpeahilkmlffkaaQSend
set_option linter.unusedSimpArgs false
set_option linter.unusedVariables false
namespace Go.Proofs.Ytpeahilkmlffkaa
open Go Go.RowKit Hd Go.Mem

theorem rnew_any (w : World) : Calls Try.prog 26 #[] w fun e w' => e = .returned (.agg (leCells none 0 newE)) ∧ Below w.heap.size w w' := by
  go_enter Try.func26, Try.ntmps26
  go_wp2
  exact bodyPost_ret (results_cell_row rfl _ _ _ _ _ _ _ rfl (heap_alloc_new _ _) Try.underlying39 rfl le_size) rfl ⟨rfl, fw_new _ _⟩
set_option maxRecDepth 100000 in
set_option maxHeartbeats 2000000 in
theorem rvalid_any (A : Option Addr) (c : Nat) (f : Fr) (w : World) :
    Calls Try.prog 51 #[.agg (frCells A c f)] w fun e w' => e = .returned (.bool (okF f)) ∧ Below w.heap.size w w' := by
  obtain ⟨d, s, a, p⟩ := f
  have hB := fw_new w (.cells (frCells A c ⟨d, s, a, p⟩) 24)
  have HB := Lib.hid hB
  clear hB
  unfold frCells at HB ⊢
  by_cases h0 : s < 0
  · have g0 : (s < 0) = True := eq_true h0
    have HK := Lib.hid (show okF ⟨d, s, a, p⟩ = false by unfold okF okSeq shortB; simp; omega)
    go_enter Try.func51, Try.ntmps51
    go_wp2
    go_ret
    exact ⟨by rw [HK.out]; rfl, HB.out⟩
  · have g0 : (s < 0) = False := eq_false h0
    by_cases h1 : 15 < s
    · have g1 : ((15 : Int) < s) = True := eq_true h1
      have HK := Lib.hid (show okF ⟨d, s, a, p⟩ = false by unfold okF okSeq shortB; simp; omega)
      go_enter Try.func51, Try.ntmps51
      go_wp2
      go_ret
      exact ⟨by rw [HK.out]; rfl, HB.out⟩
    · have g1 : ((15 : Int) < s) = False := eq_false h1
      by_cases h2 : a < 0
      · have g2 : (a < 0) = True := eq_true h2
        have HK := Lib.hid (show okF ⟨d, s, a, p⟩ = false by unfold okF okSeq shortB; simp; omega)
        go_enter Try.func51, Try.ntmps51
        go_wp2
        go_ret
        exact ⟨by rw [HK.out]; rfl, HB.out⟩
      · have g2 : (a < 0) = False := eq_false h2
        by_cases h3 : 15 < a
        · have g3 : ((15 : Int) < a) = True := eq_true h3
          have HK := Lib.hid (show okF ⟨d, s, a, p⟩ = false by unfold okF okSeq shortB; simp; omega)
          go_enter Try.func51, Try.ntmps51
          go_wp2
          go_ret
          exact ⟨by rw [HK.out]; rfl, HB.out⟩
        · have g3 : ((15 : Int) < a) = False := eq_false h3
          by_cases h4 : 256 < (p.length : Int)
          · have g4 : ((256 : Int) < (p.length : Int)) = True := eq_true h4
            have HK := Lib.hid (show okF ⟨d, s, a, p⟩ = false by unfold okF okSeq shortB; simp; omega)
            go_enter Try.func51, Try.ntmps51
            go_wp2
            go_ret
            exact ⟨by rw [HK.out]; rfl, HB.out⟩
          · have g4 : ((256 : Int) < (p.length : Int)) = False := eq_false h4
            cases d with
            | true =>
              have HK := Lib.hid (show okF ⟨true, s, a, p⟩ = true by unfold okF okSeq shortB; simp; omega)
              go_enter Try.func51, Try.ntmps51
              go_wp2
              go_ret
              exact ⟨by rw [HK.out]; rfl, HB.out⟩
            | false =>
              by_cases hz : s = 0
              · subst hz
                by_cases hp : (p.length : Int) = 0
                · obtain rfl : p = [] := List.eq_nil_of_length_eq_zero (by omega)
                  have HK := Lib.hid (show okF ⟨false, 0, a, []⟩ = true by unfold okF okSeq shortB; simp; omega)
                  go_enter Try.func51, Try.ntmps51
                  go_wp2
                  go_ret
                  exact ⟨by rw [HK.out]; rfl, HB.out⟩
                · have hp2 : ((p.length : Int) == 0) = false := beq_eq_false_iff_ne.2 hp
                  have hne : p ≠ [] := fun e => hp (by rw [e]; rfl)
                  have HK := Lib.hid (show okF ⟨false, 0, a, p⟩ = false by unfold okF okSeq shortB; simp [hne])
                  clear hne
                  go_enter Try.func51, Try.ntmps51
                  go_wp2
                  go_ret
                  exact ⟨by rw [HK.out]; rfl, HB.out⟩
              · have hz2 : (s == 0) = false := by simpa using hz
                have HK := Lib.hid (show okF ⟨false, s, a, p⟩ = false by unfold okF okSeq shortB; simp; omega)
                go_enter Try.func51, Try.ntmps51
                go_wp2
                go_ret
                exact ⟨by rw [HK.out]; rfl, HB.out⟩
end Go.Proofs.Ytpeahilkmlffkaa
