import Derived.Test.YtpeahilkmlffkaaQDupL
import Derived.Test.YtpeahilkmlffkaaQFew
import Derived.Test.YtpeahilkmlffkaaQSane
set_option linter.unusedSimpArgs false
set_option linter.unusedVariables false
namespace Go.Proofs.Ytpeahilkmlffkaa
open Go Go.RowKit Hd Go.Mem

theorem recv_len {l x : LE} {f : Fr} {now : Int} {ps : List (List UInt8)} {k : Nat} (h : recvE l f now = (x, ps, k)) : x.q.length ≤ l.q.length := by
  have hx : x = (recvE l f now).1 := by rw [h]
  rw [hx]
  unfold recvE
  split
  · exact Nat.zero_le _
  · split
    · exact Nat.zero_le _
    · split
      · exact Nat.zero_le _
      · split
        · simp [ackE]
        · split <;> simp [ackE]
set_option maxRecDepth 100000 in
set_option maxHeartbeats 8000000 in
theorem dup_walk (A : Option Addr) (c : Nat) (l : LE) (A' : Option Addr) (c' : Nat) (f : Fr) (now later : Int) (w : World) (hl : InL w A c l.q) (hf : InB w A' c' f.p) :
    Calls Try.prog 8 #[.agg (leCells A c l), .agg (frCells A' c' f), .int .i64 now, .int .i64 later] w fun e w' => e = .returned (.bool true) ∧ Below w.heap.size w w' := by
  have Hl := Lib.hid hl
  have Hf := Lib.hid hf
  have h0 := blk_second w (.cells (leCells A c l) 39) (.cells (frCells A' c' f) 24)
  have h1 := heap_alloc2_new w (.cells (leCells A c l) 39) (.cells (frCells A' c' f) 24)
  have hB0 : Below w.heap.size w ((w.alloc (.cells (leCells A c l) 39)).alloc (.cells (frCells A' c' f) 24)) := fw_al (fw_new _ _) _
  clear hl hf
  go_enter Try.func8, Try.ntmps8
  go_wp2_with fail
  refine (sane_any _).mono ?_
  rintro e W1 ⟨rfl, hb1⟩
  have hP1 := blk_below h0 hb1
  have hF1 := blk_below h1 hb1
  have hB1 := fw_trans hB0 hb1
  clear h0 h1 hB0 hb1
  go_wp2_with (first | (refine wpList_load_row rfl 39 (.tmp 4) rfl (w.heap.size) rfl 39 (leCells A c l) (0, 0) _ hP1 Try.underlying39 rfl le_size ?_))
  refine (few_any A c l W1 (Hl.out.rd.below hB1)).mono ?_
  intro e W2 hh
  unfold FewPost at hh
  obtain ⟨b, rfl, hbd, hb2⟩ := hh
  have hP2 := blk_below hP1 hb2
  have hF2 := blk_below hF1 hb2
  have hB2 := fw_trans hB1 hb2
  clear hP1 hF1 hB1 hb2
  cases b with
  | false =>
    clear hbd
    go_wp2_with fail
    go_ret
    exact ⟨rfl, hB2⟩
  | true =>
    have hq80 := hbd rfl
    have q3 : W2.cell? ⟨w.heap.size + 1, 3, none⟩ = some (.slice A' f.p.length c') := cellOf hF2 rfl
    clear hbd
    by_cases h400 : 400 < f.p.length
    · have h4 : ((400 : Int) < (f.p.length : Int)) = True := eq_true (by omega)
      go_wp2_with fail
      go_ret
      exact ⟨rfl, hB2⟩
    · have h4 : ((400 : Int) < (f.p.length : Int)) = False := eq_false (by omega)
      obtain ⟨x, got, k, hx⟩ : ∃ x got k, recvE l f now = (x, got, k) := ⟨_, _, _, rfl⟩
      have HX := Lib.hid hx
      have hxl := recv_len hx
      clear hx
      go_wp2_with (first | (refine wpList_load_row rfl 39 (.tmp 4) rfl (w.heap.size) rfl 39 (leCells A c l) (0, 0) _ hP2 Try.underlying39 rfl le_size ?_) | (refine wpList_load_row rfl 24 (.tmp 5) rfl (w.heap.size + 1) rfl 24 (frCells A' c' f) (0, 0) _ hF2 Try.underlying24 rfl fr_size ?_))
      refine (recv_as HX.out A A' c c' W2 (by omega) (by omega) (Hl.out.rd.below hB2) Hl.out.le (RdC.below Hf.out.rd hB2) Hf.out.nil).mono ?_
      rintro e W3 ⟨A1, c1, A2, c2, rfl, hq3, hp3, hb3⟩
      have hF3 := blk_below hF2 hb3
      have hB3 := fw_trans hB2 hb3
      clear hP2 hF2 hB2 hb3 q3
      by_cases hk : k = 0
      · subst hk
        obtain ⟨y, more, k2, hy⟩ : ∃ y more k2, recvE x f later = (y, more, k2) := ⟨_, _, _, rfl⟩
        have HY := Lib.hid hy
        have HD := Lib.hid (dup_law HX.out hy)
        clear hy
        go_wp2_with (first | (refine wpList_store_new rfl 39 (.tmp 10) (.tmp 33) rfl (leCells A1 c1 x) rfl rfl 39 _ le_size rfl (le_one _ _ _ _) ?_; intro W4 hb4 hv4; have hF4 := blk_below hF3 hb4; have hq4 := hq3.below hb4; have hB4 := fw_trans hB3 hb4) | (refine wpList_load_row rfl 39 (.tmp 10) rfl (W3.heap.size) rfl 39 (leCells A1 c1 x) (0, 0) _ hv4 Try.underlying39 rfl le_size ?_) | (refine wpList_load_row rfl 24 (.tmp 5) rfl (w.heap.size + 1) rfl 24 (frCells A' c' f) (0, 0) _ hF4 Try.underlying24 rfl fr_size ?_))
        refine (recv_as HY.out A1 A' c1 c' W4 (by omega) (by omega) hq4.rd hq4.le (RdC.below Hf.out.rd hB4) Hf.out.nil).mono ?_
        rintro e W5 ⟨A3, c3, A4, c4, rfl, hq5, hp5, hb5⟩
        have hF5 := blk_below hF4 hb5
        have hv5 := blk_below hv4 hb5
        have hqx := hq4.below hb5
        have hB5 := fw_trans hB4 hb5
        clear hF3 hF4 hv4 hq3 hq4 hB3 hb4 hB4 hb5 hp3 hp5
        by_cases hk2 : k2 = 0
        · obtain ⟨d1, d2, rfl, rfl, hcz⟩ := HD.out.2 hk2
          subst hk2
          cases hfd : f.d with
          | true =>
            have hg01 : got.length = 0 ∨ got.length = 1 := by omega
            rcases hg01 with hg01 | hg01
            · rw [hg01]
              go_wp2_with (first | (refine wpList_store_new rfl 39 (.tmp 13) (.tmp 52) rfl (leCells A3 c3 y) rfl rfl 39 _ le_size rfl (le_one _ _ _ _) ?_; intro W6 hb6 hv6; have x0 : W6.cell? ⟨W3.heap.size, 0, none⟩ = some (.slice A1 y.q.length c1) := cellOf (blk_below hv5 hb6) rfl; have x1 : W6.cell? ⟨W3.heap.size, 1, none⟩ = some (.int .i64 y.b) := cellOf (blk_below hv5 hb6) rfl; have x2 : W6.cell? ⟨W3.heap.size, 2, none⟩ = some (.int .i64 y.s) := cellOf (blk_below hv5 hb6) rfl; have x3 : W6.cell? ⟨W3.heap.size, 3, none⟩ = some (.int .i64 y.x) := cellOf (blk_below hv5 hb6) rfl; have x4 : W6.cell? ⟨W3.heap.size, 4, none⟩ = some (.bool y.o) := cellOf (blk_below hv5 hb6) rfl; have x5 : W6.cell? ⟨W3.heap.size, 5, none⟩ = some (.int .i64 y.d) := cellOf (blk_below hv5 hb6) rfl; have f0 : W6.cell? ⟨w.heap.size + 1, 0, none⟩ = some (.bool true) := hfd ▸ cellOf (blk_below hF5 hb6) rfl; have y0W6 : W6.cell? ⟨W5.heap.size, 0, none⟩ = some (.slice A3 y.q.length c3) := cellOf hv6 rfl; have y1W6 : W6.cell? ⟨W5.heap.size, 1, none⟩ = some (.int .i64 y.b) := cellOf hv6 rfl; have y2W6 : W6.cell? ⟨W5.heap.size, 2, none⟩ = some (.int .i64 y.s) := cellOf hv6 rfl; have y3W6 : W6.cell? ⟨W5.heap.size, 3, none⟩ = some (.int .i64 y.x) := cellOf hv6 rfl; have y4W6 : W6.cell? ⟨W5.heap.size, 4, none⟩ = some (.bool y.o) := cellOf hv6 rfl; have y5W6 : W6.cell? ⟨W5.heap.size, 5, none⟩ = some (.int .i64 y.d) := cellOf hv6 rfl; have hB6 := fw_trans hB5 hb6) | (go_at_call 23; refine (same_eq A1 A3 c1 c3 y W6 (by omega) (hqx.below hb6).rd (hq5.below hb6).rd).mono ?_; rintro e W7 ⟨rfl, hb7⟩; have y0W7 : W7.cell? ⟨W5.heap.size, 0, none⟩ = some (.slice A3 y.q.length c3) := cellOf (blk_below hv6 hb7) rfl; have y1W7 : W7.cell? ⟨W5.heap.size, 1, none⟩ = some (.int .i64 y.b) := cellOf (blk_below hv6 hb7) rfl; have y2W7 : W7.cell? ⟨W5.heap.size, 2, none⟩ = some (.int .i64 y.s) := cellOf (blk_below hv6 hb7) rfl; have y3W7 : W7.cell? ⟨W5.heap.size, 3, none⟩ = some (.int .i64 y.x) := cellOf (blk_below hv6 hb7) rfl; have y4W7 : W7.cell? ⟨W5.heap.size, 4, none⟩ = some (.bool y.o) := cellOf (blk_below hv6 hb7) rfl; have y5W7 : W7.cell? ⟨W5.heap.size, 5, none⟩ = some (.int .i64 y.d) := cellOf (blk_below hv6 hb7) rfl; have hB7 := fw_trans hB6 hb7; have hq7 := (hq5.below hb6).below hb7) | (go_at_call 27; refine (check_any A3 c3 y W7 (by omega) hq7.rd).mono ?_; rw [hcz]; rintro e W8 ⟨rfl, hb8⟩))
              go_ret
              exact ⟨rfl, fw_trans hB7 hb8⟩
            · rw [hg01]
              go_wp2_with (first | (refine wpList_store_new rfl 39 (.tmp 13) (.tmp 52) rfl (leCells A3 c3 y) rfl rfl 39 _ le_size rfl (le_one _ _ _ _) ?_; intro W6 hb6 hv6; have x0 : W6.cell? ⟨W3.heap.size, 0, none⟩ = some (.slice A1 y.q.length c1) := cellOf (blk_below hv5 hb6) rfl; have x1 : W6.cell? ⟨W3.heap.size, 1, none⟩ = some (.int .i64 y.b) := cellOf (blk_below hv5 hb6) rfl; have x2 : W6.cell? ⟨W3.heap.size, 2, none⟩ = some (.int .i64 y.s) := cellOf (blk_below hv5 hb6) rfl; have x3 : W6.cell? ⟨W3.heap.size, 3, none⟩ = some (.int .i64 y.x) := cellOf (blk_below hv5 hb6) rfl; have x4 : W6.cell? ⟨W3.heap.size, 4, none⟩ = some (.bool y.o) := cellOf (blk_below hv5 hb6) rfl; have x5 : W6.cell? ⟨W3.heap.size, 5, none⟩ = some (.int .i64 y.d) := cellOf (blk_below hv5 hb6) rfl; have f0 : W6.cell? ⟨w.heap.size + 1, 0, none⟩ = some (.bool true) := hfd ▸ cellOf (blk_below hF5 hb6) rfl; have y0W6 : W6.cell? ⟨W5.heap.size, 0, none⟩ = some (.slice A3 y.q.length c3) := cellOf hv6 rfl; have y1W6 : W6.cell? ⟨W5.heap.size, 1, none⟩ = some (.int .i64 y.b) := cellOf hv6 rfl; have y2W6 : W6.cell? ⟨W5.heap.size, 2, none⟩ = some (.int .i64 y.s) := cellOf hv6 rfl; have y3W6 : W6.cell? ⟨W5.heap.size, 3, none⟩ = some (.int .i64 y.x) := cellOf hv6 rfl; have y4W6 : W6.cell? ⟨W5.heap.size, 4, none⟩ = some (.bool y.o) := cellOf hv6 rfl; have y5W6 : W6.cell? ⟨W5.heap.size, 5, none⟩ = some (.int .i64 y.d) := cellOf hv6 rfl; have hB6 := fw_trans hB5 hb6) | (go_at_call 23; refine (same_eq A1 A3 c1 c3 y W6 (by omega) (hqx.below hb6).rd (hq5.below hb6).rd).mono ?_; rintro e W7 ⟨rfl, hb7⟩; have y0W7 : W7.cell? ⟨W5.heap.size, 0, none⟩ = some (.slice A3 y.q.length c3) := cellOf (blk_below hv6 hb7) rfl; have y1W7 : W7.cell? ⟨W5.heap.size, 1, none⟩ = some (.int .i64 y.b) := cellOf (blk_below hv6 hb7) rfl; have y2W7 : W7.cell? ⟨W5.heap.size, 2, none⟩ = some (.int .i64 y.s) := cellOf (blk_below hv6 hb7) rfl; have y3W7 : W7.cell? ⟨W5.heap.size, 3, none⟩ = some (.int .i64 y.x) := cellOf (blk_below hv6 hb7) rfl; have y4W7 : W7.cell? ⟨W5.heap.size, 4, none⟩ = some (.bool y.o) := cellOf (blk_below hv6 hb7) rfl; have y5W7 : W7.cell? ⟨W5.heap.size, 5, none⟩ = some (.int .i64 y.d) := cellOf (blk_below hv6 hb7) rfl; have hB7 := fw_trans hB6 hb7; have hq7 := (hq5.below hb6).below hb7) | (go_at_call 27; refine (check_any A3 c3 y W7 (by omega) hq7.rd).mono ?_; rw [hcz]; rintro e W8 ⟨rfl, hb8⟩))
              go_ret
              exact ⟨rfl, fw_trans hB7 hb8⟩
          | false =>
            have hg01 : got.length = 0 := by rcases d2 with d2 | d2; rw [hfd] at d2; cases d2; exact d2
            rw [hg01]
            go_wp2_with (first | (refine wpList_store_new rfl 39 (.tmp 13) (.tmp 52) rfl (leCells A3 c3 y) rfl rfl 39 _ le_size rfl (le_one _ _ _ _) ?_; intro W6 hb6 hv6; have x0 : W6.cell? ⟨W3.heap.size, 0, none⟩ = some (.slice A1 y.q.length c1) := cellOf (blk_below hv5 hb6) rfl; have x1 : W6.cell? ⟨W3.heap.size, 1, none⟩ = some (.int .i64 y.b) := cellOf (blk_below hv5 hb6) rfl; have x2 : W6.cell? ⟨W3.heap.size, 2, none⟩ = some (.int .i64 y.s) := cellOf (blk_below hv5 hb6) rfl; have x3 : W6.cell? ⟨W3.heap.size, 3, none⟩ = some (.int .i64 y.x) := cellOf (blk_below hv5 hb6) rfl; have x4 : W6.cell? ⟨W3.heap.size, 4, none⟩ = some (.bool y.o) := cellOf (blk_below hv5 hb6) rfl; have x5 : W6.cell? ⟨W3.heap.size, 5, none⟩ = some (.int .i64 y.d) := cellOf (blk_below hv5 hb6) rfl; have f0 : W6.cell? ⟨w.heap.size + 1, 0, none⟩ = some (.bool false) := hfd ▸ cellOf (blk_below hF5 hb6) rfl; have y0W6 : W6.cell? ⟨W5.heap.size, 0, none⟩ = some (.slice A3 y.q.length c3) := cellOf hv6 rfl; have y1W6 : W6.cell? ⟨W5.heap.size, 1, none⟩ = some (.int .i64 y.b) := cellOf hv6 rfl; have y2W6 : W6.cell? ⟨W5.heap.size, 2, none⟩ = some (.int .i64 y.s) := cellOf hv6 rfl; have y3W6 : W6.cell? ⟨W5.heap.size, 3, none⟩ = some (.int .i64 y.x) := cellOf hv6 rfl; have y4W6 : W6.cell? ⟨W5.heap.size, 4, none⟩ = some (.bool y.o) := cellOf hv6 rfl; have y5W6 : W6.cell? ⟨W5.heap.size, 5, none⟩ = some (.int .i64 y.d) := cellOf hv6 rfl; have hB6 := fw_trans hB5 hb6) | (go_at_call 23; refine (same_eq A1 A3 c1 c3 y W6 (by omega) (hqx.below hb6).rd (hq5.below hb6).rd).mono ?_; rintro e W7 ⟨rfl, hb7⟩; have y0W7 : W7.cell? ⟨W5.heap.size, 0, none⟩ = some (.slice A3 y.q.length c3) := cellOf (blk_below hv6 hb7) rfl; have y1W7 : W7.cell? ⟨W5.heap.size, 1, none⟩ = some (.int .i64 y.b) := cellOf (blk_below hv6 hb7) rfl; have y2W7 : W7.cell? ⟨W5.heap.size, 2, none⟩ = some (.int .i64 y.s) := cellOf (blk_below hv6 hb7) rfl; have y3W7 : W7.cell? ⟨W5.heap.size, 3, none⟩ = some (.int .i64 y.x) := cellOf (blk_below hv6 hb7) rfl; have y4W7 : W7.cell? ⟨W5.heap.size, 4, none⟩ = some (.bool y.o) := cellOf (blk_below hv6 hb7) rfl; have y5W7 : W7.cell? ⟨W5.heap.size, 5, none⟩ = some (.int .i64 y.d) := cellOf (blk_below hv6 hb7) rfl; have hB7 := fw_trans hB6 hb7; have hq7 := (hq5.below hb6).below hb7) | (go_at_call 27; refine (check_any A3 c3 y W7 (by omega) hq7.rd).mono ?_; rw [hcz]; rintro e W8 ⟨rfl, hb8⟩))
            go_ret
            exact ⟨rfl, fw_trans hB7 hb8⟩
        · obtain ⟨rfl, hlt⟩ := HD.out.1 hk2
          clear hk2
          by_cases hneg : later < 0
          · have g1 : (later < 0) = True := eq_true hneg
            go_wp2_with (first | (refine wpList_store_new rfl 39 (.tmp 13) (.tmp 52) rfl (leCells A3 c3 y) rfl rfl 39 _ le_size rfl (le_one _ _ _ _) ?_; intro W6 hb6 _; have hB6 := fw_trans hB5 hb6))
            go_ret
            exact ⟨rfl, hB6⟩
          · have g1 : (later < 0) = False := eq_false hneg
            have g2 : ((1099511627776 : Int) < later) = True := eq_true (by omega)
            go_wp2_with (first | (refine wpList_store_new rfl 39 (.tmp 13) (.tmp 52) rfl (leCells A3 c3 y) rfl rfl 39 _ le_size rfl (le_one _ _ _ _) ?_; intro W6 hb6 _; have hB6 := fw_trans hB5 hb6))
            go_ret
            exact ⟨rfl, hB6⟩
      · obtain ⟨rfl, rfl⟩ := recv_err HX.out hk
        have hkn : ((k : Int) != 0) = true := by simpa using hk
        clear hk
        go_wp2_with (first | (refine wpList_store_new rfl 39 (.tmp 10) (.tmp 33) rfl (leCells A1 c1 leZ) rfl rfl 39 _ le_size rfl (le_one _ _ _ _) ?_; intro W4 hb4 hv4; have hB4 := fw_trans hB3 hb4; have x0 : W4.cell? ⟨W3.heap.size, 0, none⟩ = some (.slice A1 0 c1) := cellOf hv4 rfl))
        go_ret
        exact ⟨rfl, hB4⟩
end Go.Proofs.Ytpeahilkmlffkaa
