import Derived.Test.YtpeahilkmlffkaaRQ4
import Derived.Test.YtpeahilkmlffkaaRQ5
import Derived.Test.YtpeahilkmlffkaaRQ6
import Derived.Test.YtpeahilkmlffkaaQFew
import Derived.Test.YtpeahilkmlffkaaQSameF
import Derived.Test.YtpeahilkmlffkaaQSane
set_option linter.unusedSimpArgs false
set_option linter.unusedVariables false
namespace Go.Proofs.Ytpeahilkmlffkaa
open Go Go.RowKit Hd Go.Mem

theorem steps_send_len {l x : LE} {p : List UInt8} {k : Nat} (h : sendE l p = (x, k)) : x.q.length ≤ l.q.length + 1 := by
  unfold sendE at h
  split at h
  · simp only [Prod.mk.injEq] at h; rw [← h.1]; simp [leZ]
  · split at h
    · simp only [Prod.mk.injEq] at h; rw [← h.1]; simp [leZ]
    · simp only [Prod.mk.injEq] at h; rw [← h.1]; simp
theorem steps_poll_len {l x : LE} {now : Int} {fs : List Fr} {k : Nat} (h : pollE l now = (x, fs, k)) : x.q.length ≤ l.q.length ∧ fs.length ≤ 1000 := by
  unfold pollE at h
  split at h
  · simp only [Prod.mk.injEq] at h; obtain ⟨rfl, rfl, _⟩ := h; simp [leZ]
  · split at h
    · simp only [Prod.mk.injEq] at h; obtain ⟨rfl, rfl, _⟩ := h; simp [leZ]
    · split at h
      · simp only [Prod.mk.injEq] at h; obtain ⟨rfl, rfl, _⟩ := h; simp [framesE, unsGo_len]; omega
      · split at h
        · simp only [Prod.mk.injEq] at h; obtain ⟨rfl, rfl, _⟩ := h; simp
        · simp only [Prod.mk.injEq] at h; obtain ⟨rfl, rfl, _⟩ := h; simp
theorem steps_recv_len {l x : LE} {f : Fr} {now : Int} {ps : List (List UInt8)} {k : Nat} (h : recvE l f now = (x, ps, k)) : x.q.length ≤ l.q.length ∧ ps.length ≤ 1 := by
  unfold recvE at h
  split at h
  · simp only [Prod.mk.injEq] at h; obtain ⟨rfl, rfl, _⟩ := h; simp [leZ]
  · split at h
    · simp only [Prod.mk.injEq] at h; obtain ⟨rfl, rfl, _⟩ := h; simp [leZ]
    · split at h
      · simp only [Prod.mk.injEq] at h; obtain ⟨rfl, rfl, _⟩ := h; simp [leZ]
      · split at h
        · simp only [Prod.mk.injEq] at h; obtain ⟨rfl, rfl, _⟩ := h; simp [ackE]
        · split at h
          · simp only [Prod.mk.injEq] at h; obtain ⟨rfl, rfl, _⟩ := h; simp [ackE]
          · simp only [Prod.mk.injEq] at h; obtain ⟨rfl, rfl, _⟩ := h; simp [ackE]
theorem rsend_as {l l' : LE} {p : List UInt8} {k : Nat} (h : sendE l p = (l', k)) (A A' : Option Addr) (c c' : Nat) (w : World) (hq : l.q.length ≤ 140737488351232) (hp : p.length ≤ 140737488351232) (hr : RdL w A l.q) (hr' : Rd w A' p) (hA' : A' = none → c' = 0) :
    Calls Try.prog 18 #[.agg (leCells A c l), .slice A' p.length c'] w fun e w' => ∃ A'' c'', e = .returned (.tuple #[.agg (leCells A'' c'' l'), .int .i64 (k : Int)]) ∧ InL w' A'' c'' l'.q ∧ Below w.heap.size w w' := by
  refine (rsend_any A A' c c' l p w hq hp hr hr' hA').mono ?_
  intro e w' hh
  unfold SendPost at hh
  rw [h] at hh
  exact hh
theorem rpoll_as {l l' : LE} {now : Int} {fs : List Fr} {k : Nat} (h : pollE l now = (l', fs, k)) (A : Option Addr) (c : Nat) (w : World) (hq : l.q.length ≤ 140737488351232) (hr : RdL w A l.q) :
    Calls Try.prog 20 #[.agg (leCells A c l), .int .i64 now] w fun e w' => ∃ A1 c1 A2 c2, e = .returned (.tuple #[.agg (leCells A1 c1 l'), .slice A2 fs.length c2, .int .i64 (k : Int)]) ∧ InL w' A1 c1 l'.q ∧ InF w' A2 c2 fs ∧ Below w.heap.size w w' := by
  refine (rpoll_any A c l now w hq hr).mono ?_
  intro e w' hh
  unfold PollPost at hh
  rw [h] at hh
  exact hh
theorem rrecv_as {l l' : LE} {f : Fr} {now : Int} {ps : List (List UInt8)} {k : Nat} (h : recvE l f now = (l', ps, k)) (A A' : Option Addr) (c c' : Nat) (w : World) (hq : l.q.length ≤ 140737488351232) (hp : f.p.length ≤ 140737488351232) (hr : RdL w A l.q) (hc : l.q.length ≤ c) (hr' : Rd w A' f.p) (hA' : A' = none → c' = 0) :
    Calls Try.prog 22 #[.agg (leCells A c l), .agg (frCells A' c' f), .int .i64 now] w fun e w' => ∃ A1 c1 A2 c2, e = .returned (.tuple #[.agg (leCells A1 c1 l'), .slice A2 ps.length c2, .int .i64 (k : Int)]) ∧ InL w' A1 c1 l'.q ∧ InL w' A2 c2 ps ∧ Below w.heap.size w w' := by
  refine (rrecv_any A A' c c' l f now w hq hp hr hc hr' hA').mono ?_
  intro e w' hh
  unfold RecvPost at hh
  rw [h] at hh
  exact hh
set_option maxRecDepth 100000 in
set_option maxHeartbeats 8000000 in
theorem steps_walk (A : Option Addr) (c : Nat) (l : LE) (Ap : Option Addr) (cp : Nat) (p : List UInt8) (A' : Option Addr) (c' : Nat) (f : Fr) (now : Int) (w : World) (hl : InL w A c l.q) (hp : InB w Ap cp p) (hf : InB w A' c' f.p) :
    Calls Try.prog 4 #[.agg (leCells A c l), .slice Ap p.length cp, .agg (frCells A' c' f), .int .i64 now] w fun e w' => e = .returned (.bool true) ∧ Below w.heap.size w w' := by
  have Hl := Lib.hid hl
  have Hp := Lib.hid hp
  have Hf := Lib.hid hf
  have h0 := blk_second w (.cells (leCells A c l) 39) (.cells (frCells A' c' f) 24)
  have h1 := heap_alloc2_new w (.cells (leCells A c l) 39) (.cells (frCells A' c' f) 24)
  have hB0 := fw_al (fw_new w (.cells (leCells A c l) 39)) (.cells (frCells A' c' f) 24)
  clear hl hp hf
  go_enter Try.func4, Try.ntmps4
  go_wp2_with fail
  refine (sane_any _).mono ?_
  rintro e W1 ⟨rfl, hb1⟩
  have hP1 := blk_below h0 hb1
  have hF1 := blk_below h1 hb1
  have hB1 := fw_trans hB0 hb1
  clear h0 h1 hB0 hb1
  go_wp2_with (first | (refine wpList_load_row rfl 39 (.tmp 4) rfl (w.heap.size) rfl 39 (leCells A c l) (0, 0) _ hP1 Try.underlying39 rfl le_size ?_))
  refine (few_any A c l W1 (Hl.out.rd.below hB1)).mono ?_
  intro e W2 hh
  unfold FewPost at hh
  obtain ⟨b, rfl, hbd, hb2⟩ := hh
  have hP2 := blk_below hP1 hb2
  have hF2 := blk_below hF1 hb2
  have hB2 := fw_trans hB1 hb2
  clear hP1 hF1 hB1 hb2
  cases b with
  | false =>
    clear hbd
    go_wp2_with fail
    go_ret
    exact ⟨rfl, hB2⟩
  | true =>
    have hq80 := hbd rfl
    have q3 : W2.cell? ⟨w.heap.size + 1, 3, none⟩ = some (.slice A' f.p.length c') := cellOf hF2 rfl
    clear hbd
    by_cases h400p : 400 < p.length
    · have h4p : ((400 : Int) < (p.length : Int)) = True := eq_true (by omega)
      go_wp2_with fail
      go_ret
      exact ⟨rfl, hB2⟩
    have h4p : ((400 : Int) < (p.length : Int)) = False := eq_false (by omega)
    by_cases h400 : 400 < f.p.length
    · have h4 : ((400 : Int) < (f.p.length : Int)) = True := eq_true (by omega)
      go_wp2_with fail
      go_ret
      exact ⟨rfl, hB2⟩
    have h4 : ((400 : Int) < (f.p.length : Int)) = False := eq_false (by omega)
    obtain ⟨xs, ks, hs⟩ : ∃ x k, sendE l p = (x, k) := ⟨_, _, rfl⟩
    obtain ⟨xp, fp, kp, hpo⟩ : ∃ x fs k, pollE l now = (x, fs, k) := ⟨_, _, _, rfl⟩
    obtain ⟨xr, gr, kr, hre⟩ : ∃ x got k, recvE l f now = (x, got, k) := ⟨_, _, _, rfl⟩
    have ns := steps_send_len hs
    have np := steps_poll_len hpo
    have nr := steps_recv_len hre
    have HS := Lib.hid hs
    have HP := Lib.hid hpo
    have HR := Lib.hid hre
    clear hs hpo hre
    go_wp2_with (first | (refine wpList_load_row rfl 39 (.tmp 4) rfl (w.heap.size) rfl 39 (leCells A c l) (0, 0) _ hP2 Try.underlying39 rfl le_size ?_) | (refine wpList_load_row rfl 24 (.tmp 6) rfl (w.heap.size + 1) rfl 24 (frCells A' c' f) (0, 0) _ hF2 Try.underlying24 rfl fr_size ?_))
    refine (send_as HS.out A Ap c cp W2 (by omega) (by omega) (Hl.out.rd.below hB2) (RdC.below Hp.out.rd hB2) Hp.out.nil).mono ?_
    rintro e W3 ⟨As, cs, rfl, is, hb3⟩
    have hP3 := blk_below hP2 hb3
    have hF3 := blk_below hF2 hb3
    have hB3 := fw_trans hB2 hb3
    clear hb3
    go_wp2_with (first | (refine wpList_store_new rfl 39 (.tmp 10) (.tmp 49) rfl (leCells As cs xs) rfl rfl 39 _ le_size rfl (le_one _ _ _ _) ?_; intro W4 hb4 hv4; have hP4 := blk_below hP3 hb4; have hF4 := blk_below hF3 hb4; have hB4 := fw_trans hB3 hb4; have is4 := is.below hb4; clear is hb4 hP3 hF3 hB3) | (refine wpList_load_row rfl 39 (.tmp 4) rfl (w.heap.size) rfl 39 (leCells A c l) (0, 0) _ hP4 Try.underlying39 rfl le_size ?_) | (refine wpList_load_row rfl 24 (.tmp 6) rfl (w.heap.size + 1) rfl 24 (frCells A' c' f) (0, 0) _ hF4 Try.underlying24 rfl fr_size ?_))
    refine (rsend_as HS.out A Ap c cp W4 (by omega) (by omega) (Hl.out.rd.below hB4) (RdC.below Hp.out.rd hB4) Hp.out.nil).mono ?_
    rintro e W5 ⟨At, ct, rfl, it, hb5⟩
    have hP5 := blk_below hP4 hb5
    have hF5 := blk_below hF4 hb5
    have hB5 := fw_trans hB4 hb5
    have is5 := is4.below hb5
    have hv45 := blk_below hv4 hb5
    clear is4 hv4 hb5
    go_wp2_with (first | (refine wpList_store_new rfl 39 (.tmp 12) (.tmp 55) rfl (leCells At ct xs) rfl rfl 39 _ le_size rfl (le_one _ _ _ _) ?_; intro W6 hb6 hv6; have hP6 := blk_below hP5 hb6; have hF6 := blk_below hF5 hb6; have hB6 := fw_trans hB5 hb6; have is6 := is5.below hb6; have hv46 := blk_below hv45 hb6; have it6 := it.below hb6; clear is5 hv45 it hb6 hP5 hF5 hB5) | (refine wpList_load_row rfl 39 (.tmp 4) rfl (w.heap.size) rfl 39 (leCells A c l) (0, 0) _ hP6 Try.underlying39 rfl le_size ?_) | (refine wpList_load_row rfl 24 (.tmp 6) rfl (w.heap.size + 1) rfl 24 (frCells A' c' f) (0, 0) _ hF6 Try.underlying24 rfl fr_size ?_))
    refine (poll_as HP.out A c W6 (by omega) (Hl.out.rd.below hB6)).mono ?_
    rintro e W7 ⟨Ac, cc, Ax, cx, rfl, ic, ix, hb7⟩
    have hP7 := blk_below hP6 hb7
    have hF7 := blk_below hF6 hb7
    have hB7 := fw_trans hB6 hb7
    have is7 := is6.below hb7
    have hv47 := blk_below hv46 hb7
    have it7 := it6.below hb7
    have hv67 := blk_below hv6 hb7
    clear is6 hv46 it6 hv6 hb7
    go_wp2_with (first | (refine wpList_store_new rfl 39 (.tmp 14) (.tmp 61) rfl (leCells Ac cc xp) rfl rfl 39 _ le_size rfl (le_one _ _ _ _) ?_; intro W8 hb8 hv8; have hP8 := blk_below hP7 hb8; have hF8 := blk_below hF7 hb8; have hB8 := fw_trans hB7 hb8; have is8 := is7.below hb8; have hv48 := blk_below hv47 hb8; have it8 := it7.below hb8; have hv68 := blk_below hv67 hb8; have ic8 := ic.below hb8; have ix8 := ix.below hb8; clear is7 hv47 it7 hv67 ic ix hb8 hP7 hF7 hB7) | (refine wpList_load_row rfl 39 (.tmp 4) rfl (w.heap.size) rfl 39 (leCells A c l) (0, 0) _ hP8 Try.underlying39 rfl le_size ?_) | (refine wpList_load_row rfl 24 (.tmp 6) rfl (w.heap.size + 1) rfl 24 (frCells A' c' f) (0, 0) _ hF8 Try.underlying24 rfl fr_size ?_))
    refine (rpoll_as HP.out A c W8 (by omega) (Hl.out.rd.below hB8)).mono ?_
    rintro e W9 ⟨Ad, cd, Ay, cy, rfl, id, iy, hb9⟩
    have hP9 := blk_below hP8 hb9
    have hF9 := blk_below hF8 hb9
    have hB9 := fw_trans hB8 hb9
    have is9 := is8.below hb9
    have hv49 := blk_below hv48 hb9
    have it9 := it8.below hb9
    have hv69 := blk_below hv68 hb9
    have ic9 := ic8.below hb9
    have ix9 := ix8.below hb9
    have hv89 := blk_below hv8 hb9
    clear is8 hv48 it8 hv68 ic8 ix8 hv8 hb9
    go_wp2_with (first | (refine wpList_store_new rfl 39 (.tmp 17) (.tmp 68) rfl (leCells Ad cd xp) rfl rfl 39 _ le_size rfl (le_one _ _ _ _) ?_; intro W10 hb10 hv10; have hP10 := blk_below hP9 hb10; have hF10 := blk_below hF9 hb10; have hB10 := fw_trans hB9 hb10; have is10 := is9.below hb10; have hv410 := blk_below hv49 hb10; have it10 := it9.below hb10; have hv610 := blk_below hv69 hb10; have ic10 := ic9.below hb10; have ix10 := ix9.below hb10; have hv810 := blk_below hv89 hb10; have id10 := id.below hb10; have iy10 := iy.below hb10; clear is9 hv49 it9 hv69 ic9 ix9 hv89 id iy hb10 hP9 hF9 hB9) | (refine wpList_load_row rfl 39 (.tmp 4) rfl (w.heap.size) rfl 39 (leCells A c l) (0, 0) _ hP10 Try.underlying39 rfl le_size ?_) | (refine wpList_load_row rfl 24 (.tmp 6) rfl (w.heap.size + 1) rfl 24 (frCells A' c' f) (0, 0) _ hF10 Try.underlying24 rfl fr_size ?_))
    refine (recv_as HR.out A A' c c' W10 (by omega) (by omega) (Hl.out.rd.below hB10) Hl.out.le (RdC.below Hf.out.rd hB10) Hf.out.nil).mono ?_
    rintro e W11 ⟨Am, cm, Au, cu, rfl, im, iu, hb11⟩
    have hP11 := blk_below hP10 hb11
    have hF11 := blk_below hF10 hb11
    have hB11 := fw_trans hB10 hb11
    have is11 := is10.below hb11
    have hv411 := blk_below hv410 hb11
    have it11 := it10.below hb11
    have hv611 := blk_below hv610 hb11
    have ic11 := ic10.below hb11
    have ix11 := ix10.below hb11
    have hv811 := blk_below hv810 hb11
    have id11 := id10.below hb11
    have iy11 := iy10.below hb11
    have hv1011 := blk_below hv10 hb11
    clear is10 hv410 it10 hv610 ic10 ix10 hv810 id10 iy10 hv10 hb11
    go_wp2_with (first | (refine wpList_store_new rfl 39 (.tmp 20) (.tmp 76) rfl (leCells Am cm xr) rfl rfl 39 _ le_size rfl (le_one _ _ _ _) ?_; intro W12 hb12 hv12; have hP12 := blk_below hP11 hb12; have hF12 := blk_below hF11 hb12; have hB12 := fw_trans hB11 hb12; have is12 := is11.below hb12; have hv412 := blk_below hv411 hb12; have it12 := it11.below hb12; have hv612 := blk_below hv611 hb12; have ic12 := ic11.below hb12; have ix12 := ix11.below hb12; have hv812 := blk_below hv811 hb12; have id12 := id11.below hb12; have iy12 := iy11.below hb12; have hv1012 := blk_below hv1011 hb12; have im12 := im.below hb12; have iu12 := iu.below hb12; clear is11 hv411 it11 hv611 ic11 ix11 hv811 id11 iy11 hv1011 im iu hb12 hP11 hF11 hB11) | (refine wpList_load_row rfl 39 (.tmp 4) rfl (w.heap.size) rfl 39 (leCells A c l) (0, 0) _ hP12 Try.underlying39 rfl le_size ?_) | (refine wpList_load_row rfl 24 (.tmp 6) rfl (w.heap.size + 1) rfl 24 (frCells A' c' f) (0, 0) _ hF12 Try.underlying24 rfl fr_size ?_))
    refine (rrecv_as HR.out A A' c c' W12 (by omega) (by omega) (Hl.out.rd.below hB12) Hl.out.le (RdC.below Hf.out.rd hB12) Hf.out.nil).mono ?_
    rintro e W13 ⟨An, cn, Av, cv, rfl, in_, iv, hb13⟩
    have hP13 := blk_below hP12 hb13
    have hF13 := blk_below hF12 hb13
    have hB13 := fw_trans hB12 hb13
    have is13 := is12.below hb13
    have hv413 := blk_below hv412 hb13
    have it13 := it12.below hb13
    have hv613 := blk_below hv612 hb13
    have ic13 := ic12.below hb13
    have ix13 := ix12.below hb13
    have hv813 := blk_below hv812 hb13
    have id13 := id12.below hb13
    have iy13 := iy12.below hb13
    have hv1013 := blk_below hv1012 hb13
    have im13 := im12.below hb13
    have iu13 := iu12.below hb13
    have hv1213 := blk_below hv12 hb13
    clear is12 hv412 it12 hv612 ic12 ix12 hv812 id12 iy12 hv1012 im12 iu12 hv12 hb13
    go_wp2_with (first | (refine wpList_store_new rfl 39 (.tmp 23) (.tmp 84) rfl (leCells An cn xr) rfl rfl 39 _ le_size rfl (le_one _ _ _ _) ?_; intro W14 hb14 hv14; have hP14 := blk_below hP13 hb14; have hF14 := blk_below hF13 hb14; have hB14 := fw_trans hB13 hb14; have is14 := is13.below hb14; have hv414 := blk_below hv413 hb14; have it14 := it13.below hb14; have hv614 := blk_below hv613 hb14; have ic14 := ic13.below hb14; have ix14 := ix13.below hb14; have hv814 := blk_below hv813 hb14; have id14 := id13.below hb14; have iy14 := iy13.below hb14; have hv1014 := blk_below hv1013 hb14; have im14 := im13.below hb14; have iu14 := iu13.below hb14; have hv1214 := blk_below hv1213 hb14; have in_14 := in_.below hb14; have iv14 := iv.below hb14; clear is13 hv413 it13 hv613 ic13 ix13 hv813 id13 iy13 hv1013 im13 iu13 hv1213 in_ iv hb14 hP13 hF13 hB13) | (refine wpList_load_row rfl 39 (.tmp 10) rfl (W3.heap.size) rfl 39 (leCells As cs xs) (0, 0) _ hv414 Try.underlying39 rfl le_size ?_) | (refine wpList_load_row rfl 39 (.tmp 12) rfl (W5.heap.size) rfl 39 (leCells At ct xs) (0, 0) _ hv614 Try.underlying39 rfl le_size ?_) | (refine wpList_load_row rfl 39 (.tmp 14) rfl (W7.heap.size) rfl 39 (leCells Ac cc xp) (0, 0) _ hv814 Try.underlying39 rfl le_size ?_) | (refine wpList_load_row rfl 39 (.tmp 17) rfl (W9.heap.size) rfl 39 (leCells Ad cd xp) (0, 0) _ hv1014 Try.underlying39 rfl le_size ?_) | (refine wpList_load_row rfl 39 (.tmp 20) rfl (W11.heap.size) rfl 39 (leCells Am cm xr) (0, 0) _ hv1214 Try.underlying39 rfl le_size ?_) | (refine wpList_load_row rfl 39 (.tmp 23) rfl (W13.heap.size) rfl 39 (leCells An cn xr) (0, 0) _ hv14 Try.underlying39 rfl le_size ?_))
    refine (same_eq As At cs ct xs W14 (by omega) is14.rd it14.rd).mono ?_
    rintro e W15 ⟨rfl, hb15⟩
    have hP15 := blk_below hP14 hb15
    have hF15 := blk_below hF14 hb15
    have hB15 := fw_trans hB14 hb15
    have is15 := is14.below hb15
    have hv415 := blk_below hv414 hb15
    have it15 := it14.below hb15
    have hv615 := blk_below hv614 hb15
    have ic15 := ic14.below hb15
    have ix15 := ix14.below hb15
    have hv815 := blk_below hv814 hb15
    have id15 := id14.below hb15
    have iy15 := iy14.below hb15
    have hv1015 := blk_below hv1014 hb15
    have im15 := im14.below hb15
    have iu15 := iu14.below hb15
    have hv1215 := blk_below hv1214 hb15
    have in_15 := in_14.below hb15
    have iv15 := iv14.below hb15
    have hv1415 := blk_below hv14 hb15
    clear is14 hv414 it14 hv614 ic14 ix14 hv814 id14 iy14 hv1014 im14 iu14 hv1214 in_14 iv14 hv14 hb15
    have z14_0 : W15.cell? ⟨W7.heap.size, 0, none⟩ = some (.slice Ac xp.q.length cc) := cellOf hv815 rfl
    have z14_1 : W15.cell? ⟨W7.heap.size, 1, none⟩ = some (.int .i64 xp.b) := cellOf hv815 rfl
    have z14_2 : W15.cell? ⟨W7.heap.size, 2, none⟩ = some (.int .i64 xp.s) := cellOf hv815 rfl
    have z14_3 : W15.cell? ⟨W7.heap.size, 3, none⟩ = some (.int .i64 xp.x) := cellOf hv815 rfl
    have z14_4 : W15.cell? ⟨W7.heap.size, 4, none⟩ = some (.bool xp.o) := cellOf hv815 rfl
    have z14_5 : W15.cell? ⟨W7.heap.size, 5, none⟩ = some (.int .i64 xp.d) := cellOf hv815 rfl
    have z17_0 : W15.cell? ⟨W9.heap.size, 0, none⟩ = some (.slice Ad xp.q.length cd) := cellOf hv1015 rfl
    have z17_1 : W15.cell? ⟨W9.heap.size, 1, none⟩ = some (.int .i64 xp.b) := cellOf hv1015 rfl
    have z17_2 : W15.cell? ⟨W9.heap.size, 2, none⟩ = some (.int .i64 xp.s) := cellOf hv1015 rfl
    have z17_3 : W15.cell? ⟨W9.heap.size, 3, none⟩ = some (.int .i64 xp.x) := cellOf hv1015 rfl
    have z17_4 : W15.cell? ⟨W9.heap.size, 4, none⟩ = some (.bool xp.o) := cellOf hv1015 rfl
    have z17_5 : W15.cell? ⟨W9.heap.size, 5, none⟩ = some (.int .i64 xp.d) := cellOf hv1015 rfl
    go_wp2_with fail
    clear z14_0 z14_1 z14_2 z14_3 z14_4 z14_5 z17_0 z17_1 z17_2 z17_3 z17_4 z17_5
    refine (same_eq Ac Ad cc cd xp W15 (by omega) ic15.rd id15.rd).mono ?_
    rintro e W16 ⟨rfl, hb16⟩
    have hP16 := blk_below hP15 hb16
    have hF16 := blk_below hF15 hb16
    have hB16 := fw_trans hB15 hb16
    have is16 := is15.below hb16
    have hv416 := blk_below hv415 hb16
    have it16 := it15.below hb16
    have hv616 := blk_below hv615 hb16
    have ic16 := ic15.below hb16
    have ix16 := ix15.below hb16
    have hv816 := blk_below hv815 hb16
    have id16 := id15.below hb16
    have iy16 := iy15.below hb16
    have hv1016 := blk_below hv1015 hb16
    have im16 := im15.below hb16
    have iu16 := iu15.below hb16
    have hv1216 := blk_below hv1215 hb16
    have in_16 := in_15.below hb16
    have iv16 := iv15.below hb16
    have hv1416 := blk_below hv1415 hb16
    clear is15 hv415 it15 hv615 ic15 ix15 hv815 id15 iy15 hv1015 im15 iu15 hv1215 in_15 iv15 hv1415 hb16
    have z20_0 : W16.cell? ⟨W11.heap.size, 0, none⟩ = some (.slice Am xr.q.length cm) := cellOf hv1216 rfl
    have z20_1 : W16.cell? ⟨W11.heap.size, 1, none⟩ = some (.int .i64 xr.b) := cellOf hv1216 rfl
    have z20_2 : W16.cell? ⟨W11.heap.size, 2, none⟩ = some (.int .i64 xr.s) := cellOf hv1216 rfl
    have z20_3 : W16.cell? ⟨W11.heap.size, 3, none⟩ = some (.int .i64 xr.x) := cellOf hv1216 rfl
    have z20_4 : W16.cell? ⟨W11.heap.size, 4, none⟩ = some (.bool xr.o) := cellOf hv1216 rfl
    have z20_5 : W16.cell? ⟨W11.heap.size, 5, none⟩ = some (.int .i64 xr.d) := cellOf hv1216 rfl
    have z23_0 : W16.cell? ⟨W13.heap.size, 0, none⟩ = some (.slice An xr.q.length cn) := cellOf hv1416 rfl
    have z23_1 : W16.cell? ⟨W13.heap.size, 1, none⟩ = some (.int .i64 xr.b) := cellOf hv1416 rfl
    have z23_2 : W16.cell? ⟨W13.heap.size, 2, none⟩ = some (.int .i64 xr.s) := cellOf hv1416 rfl
    have z23_3 : W16.cell? ⟨W13.heap.size, 3, none⟩ = some (.int .i64 xr.x) := cellOf hv1416 rfl
    have z23_4 : W16.cell? ⟨W13.heap.size, 4, none⟩ = some (.bool xr.o) := cellOf hv1416 rfl
    have z23_5 : W16.cell? ⟨W13.heap.size, 5, none⟩ = some (.int .i64 xr.d) := cellOf hv1416 rfl
    go_wp2_with fail
    clear z20_0 z20_1 z20_2 z20_3 z20_4 z20_5 z23_0 z23_1 z23_2 z23_3 z23_4 z23_5
    refine (same_eq Am An cm cn xr W16 (by omega) im16.rd in_16.rd).mono ?_
    rintro e W17 ⟨rfl, hb17⟩
    have hP17 := blk_below hP16 hb17
    have hF17 := blk_below hF16 hb17
    have hB17 := fw_trans hB16 hb17
    have is17 := is16.below hb17
    have hv417 := blk_below hv416 hb17
    have it17 := it16.below hb17
    have hv617 := blk_below hv616 hb17
    have ic17 := ic16.below hb17
    have ix17 := ix16.below hb17
    have hv817 := blk_below hv816 hb17
    have id17 := id16.below hb17
    have iy17 := iy16.below hb17
    have hv1017 := blk_below hv1016 hb17
    have im17 := im16.below hb17
    have iu17 := iu16.below hb17
    have hv1217 := blk_below hv1216 hb17
    have in_17 := in_16.below hb17
    have iv17 := iv16.below hb17
    have hv1417 := blk_below hv1416 hb17
    clear is16 hv416 it16 hv616 ic16 ix16 hv816 id16 iy16 hv1016 im16 iu16 hv1216 in_16 iv16 hv1416 hb17
    go_wp2_with fail
    refine (sameF_any Ax Ay cx cy fp W17 np.2 ix17 iy17).mono ?_
    rintro e W18 ⟨rfl, hb18⟩
    have hP18 := blk_below hP17 hb18
    have hF18 := blk_below hF17 hb18
    have hB18 := fw_trans hB17 hb18
    have is18 := is17.below hb18
    have hv418 := blk_below hv417 hb18
    have it18 := it17.below hb18
    have hv618 := blk_below hv617 hb18
    have ic18 := ic17.below hb18
    have ix18 := ix17.below hb18
    have hv818 := blk_below hv817 hb18
    have id18 := id17.below hb18
    have iy18 := iy17.below hb18
    have hv1018 := blk_below hv1017 hb18
    have im18 := im17.below hb18
    have iu18 := iu17.below hb18
    have hv1218 := blk_below hv1217 hb18
    have in_18 := in_17.below hb18
    have iv18 := iv17.below hb18
    have hv1418 := blk_below hv1417 hb18
    clear is17 hv417 it17 hv617 ic17 ix17 hv817 id17 iy17 hv1017 im17 iu17 hv1217 in_17 iv17 hv1417 hb18
    go_wp2_with fail
    refine (sameP_eq Au Av cu cv gr W18 (by omega) iu18.rd iv18.rd).mono ?_
    rintro e W19 ⟨rfl, hb19⟩
    have hP19 := blk_below hP18 hb19
    have hF19 := blk_below hF18 hb19
    have hB19 := fw_trans hB18 hb19
    have is19 := is18.below hb19
    have hv419 := blk_below hv418 hb19
    have it19 := it18.below hb19
    have hv619 := blk_below hv618 hb19
    have ic19 := ic18.below hb19
    have ix19 := ix18.below hb19
    have hv819 := blk_below hv818 hb19
    have id19 := id18.below hb19
    have iy19 := iy18.below hb19
    have hv1019 := blk_below hv1018 hb19
    have im19 := im18.below hb19
    have iu19 := iu18.below hb19
    have hv1219 := blk_below hv1218 hb19
    have in_19 := in_18.below hb19
    have iv19 := iv18.below hb19
    have hv1419 := blk_below hv1418 hb19
    clear is18 hv418 it18 hv618 ic18 ix18 hv818 id18 iy18 hv1018 im18 iu18 hv1218 in_18 iv18 hv1418 hb19
    go_wp2_with fail
    refine (new_any W19).mono ?_
    rintro e W20 ⟨rfl, hb20⟩
    have hP20 := blk_below hP19 hb20
    have hF20 := blk_below hF19 hb20
    have hB20 := fw_trans hB19 hb20
    have is20 := is19.below hb20
    have hv420 := blk_below hv419 hb20
    have it20 := it19.below hb20
    have hv620 := blk_below hv619 hb20
    have ic20 := ic19.below hb20
    have ix20 := ix19.below hb20
    have hv820 := blk_below hv819 hb20
    have id20 := id19.below hb20
    have iy20 := iy19.below hb20
    have hv1020 := blk_below hv1019 hb20
    have im20 := im19.below hb20
    have iu20 := iu19.below hb20
    have hv1220 := blk_below hv1219 hb20
    have in_20 := in_19.below hb20
    have iv20 := iv19.below hb20
    have hv1420 := blk_below hv1419 hb20
    clear is19 hv419 it19 hv619 ic19 ix19 hv819 id19 iy19 hv1019 im19 iu19 hv1219 in_19 iv19 hv1419 hb20
    go_wp2_with fail
    refine (rnew_any W20).mono ?_
    rintro e W21 ⟨rfl, hb21⟩
    have hP21 := blk_below hP20 hb21
    have hF21 := blk_below hF20 hb21
    have hB21 := fw_trans hB20 hb21
    have is21 := is20.below hb21
    have hv421 := blk_below hv420 hb21
    have it21 := it20.below hb21
    have hv621 := blk_below hv620 hb21
    have ic21 := ic20.below hb21
    have ix21 := ix20.below hb21
    have hv821 := blk_below hv820 hb21
    have id21 := id20.below hb21
    have iy21 := iy20.below hb21
    have hv1021 := blk_below hv1020 hb21
    have im21 := im20.below hb21
    have iu21 := iu20.below hb21
    have hv1221 := blk_below hv1220 hb21
    have in_21 := in_20.below hb21
    have iv21 := iv20.below hb21
    have hv1421 := blk_below hv1420 hb21
    clear is20 hv420 it20 hv620 ic20 ix20 hv820 id20 iy20 hv1020 im20 iu20 hv1220 in_20 iv20 hv1420 hb21
    go_wp2_with fail
    refine (same_eq none none 0 0 newE W21 (by decide) (InL.none _).rd (InL.none _).rd).mono ?_
    rintro e W22 ⟨rfl, hb22⟩
    have hP22 := blk_below hP21 hb22
    have hF22 := blk_below hF21 hb22
    have hB22 := fw_trans hB21 hb22
    have is22 := is21.below hb22
    have hv422 := blk_below hv421 hb22
    have it22 := it21.below hb22
    have hv622 := blk_below hv621 hb22
    have ic22 := ic21.below hb22
    have ix22 := ix21.below hb22
    have hv822 := blk_below hv821 hb22
    have id22 := id21.below hb22
    have iy22 := iy21.below hb22
    have hv1022 := blk_below hv1021 hb22
    have im22 := im21.below hb22
    have iu22 := iu21.below hb22
    have hv1222 := blk_below hv1221 hb22
    have in_22 := in_21.below hb22
    have iv22 := iv21.below hb22
    have hv1422 := blk_below hv1421 hb22
    clear is21 hv421 it21 hv621 ic21 ix21 hv821 id21 iy21 hv1021 im21 iu21 hv1221 in_21 iv21 hv1421 hb22
    clear is22 hv422 it22 hv622 ic22 ix22 hv822 id22 iy22 hv1022 im22 iu22 hv1222 in_22 iv22 hv1422
    have hl0 := Hl.out.rd.below hB22
    go_wp2_with fail
    refine wp_region_noPanic ?_
    have hS0 : (fun W' => Below w.heap.size w W' ∧ W'.heap[w.heap.size]? = some (.cells (leCells A c l) 39 (0, 0))) W22.drew := ⟨⟨hB22.os, hB22.tape, hB22.output, hB22.size, hB22.block⟩, hP22⟩
    refine wp_region_held_drew (S := fun W' => Below w.heap.size w W' ∧ W'.heap[w.heap.size]? = some (.cells (leCells A c l) 39 (0, 0))) (by kernel_rfl) hS0 (fun h0 => ?_)
    refine wpAnyH_take (i := 0) (v := .bool true) rfl (by kernel_rfl) (by kernel_rfl) (by kernel_rfl) (fun _ _ _ h => h) (Or.inl ⟨by rfl, fun W hW => by go_simp⟩) h0 ?_
    try simp only [Act.put, List.getElem?_toArray, List.getElem_toArray, List.getElem_cons_zero, List.getElem_cons_succ, List.setIfInBounds_toArray, List.set_cons_zero, List.set_cons_succ]
    refine wpAnyH_take (i := 1) (v := .bool true) rfl (by kernel_rfl) (by kernel_rfl) (by kernel_rfl) (fun _ _ _ h => h) (Or.inl ⟨by rfl, fun W hW => by go_simp⟩) h0 ?_
    try simp only [Act.put, List.getElem?_toArray, List.getElem_toArray, List.getElem_cons_zero, List.getElem_cons_succ, List.setIfInBounds_toArray, List.set_cons_zero, List.set_cons_succ]
    refine wpAnyH_take (i := 2) (v := .bool true) rfl (by kernel_rfl) (by kernel_rfl) (by kernel_rfl) (fun _ _ _ h => h) (Or.inl ⟨by rfl, fun W hW => by go_simp⟩) h0 ?_
    try simp only [Act.put, List.getElem?_toArray, List.getElem_toArray, List.getElem_cons_zero, List.getElem_cons_succ, List.setIfInBounds_toArray, List.set_cons_zero, List.set_cons_succ]
    refine wpAnyH_take (i := 3) (v := .bool true) rfl (by kernel_rfl) (by kernel_rfl) (by kernel_rfl) (fun _ _ _ h => h) (Or.inl ⟨by rfl, fun W hW => by go_simp⟩) h0 ?_
    try simp only [Act.put, List.getElem?_toArray, List.getElem_toArray, List.getElem_cons_zero, List.getElem_cons_succ, List.setIfInBounds_toArray, List.set_cons_zero, List.set_cons_succ]
    refine wpAnyH_take (i := 4) (v := .bool true) rfl (by kernel_rfl) (by kernel_rfl) (by kernel_rfl) (fun _ _ _ h => h) (Or.inl ⟨by rfl, fun W hW => by go_simp⟩) h0 ?_
    try simp only [Act.put, List.getElem?_toArray, List.getElem_toArray, List.getElem_cons_zero, List.getElem_cons_succ, List.setIfInBounds_toArray, List.set_cons_zero, List.set_cons_succ]
    refine wpAnyH_take (i := 5) (v := .int .i64 (ks : Int)) rfl (by kernel_rfl) (by kernel_rfl) (by kernel_rfl) (fun _ _ _ h => h) (Or.inl ⟨by rfl, fun W hW => by go_simp⟩) h0 ?_
    try simp only [Act.put, List.getElem?_toArray, List.getElem_toArray, List.getElem_cons_zero, List.getElem_cons_succ, List.setIfInBounds_toArray, List.set_cons_zero, List.set_cons_succ]
    refine wpAnyH_take (i := 6) (v := .int .i64 (ks : Int)) rfl (by kernel_rfl) (by kernel_rfl) (by kernel_rfl) (fun _ _ _ h => h) (Or.inl ⟨by rfl, fun W hW => by go_simp⟩) h0 ?_
    try simp only [Act.put, List.getElem?_toArray, List.getElem_toArray, List.getElem_cons_zero, List.getElem_cons_succ, List.setIfInBounds_toArray, List.set_cons_zero, List.set_cons_succ]
    refine wpAnyH_take (i := 7) (v := .bool true) rfl (by kernel_rfl) (by kernel_rfl) (by kernel_rfl) (fun _ _ _ h => h) (Or.inl ⟨by rfl, fun W hW => by go_simp⟩) h0 ?_
    try simp only [Act.put, List.getElem?_toArray, List.getElem_toArray, List.getElem_cons_zero, List.getElem_cons_succ, List.setIfInBounds_toArray, List.set_cons_zero, List.set_cons_succ]
    refine wpAnyH_take (i := 8) (v := .bool true) rfl (by kernel_rfl) (by kernel_rfl) (by kernel_rfl) (fun _ _ _ h => h) (Or.inl ⟨by rfl, fun W hW => by go_simp⟩) h0 ?_
    try simp only [Act.put, List.getElem?_toArray, List.getElem_toArray, List.getElem_cons_zero, List.getElem_cons_succ, List.setIfInBounds_toArray, List.set_cons_zero, List.set_cons_succ]
    refine wpAnyH_take (i := 9) (v := .bool true) rfl (by kernel_rfl) (by kernel_rfl) (by kernel_rfl) (fun _ _ _ h => h) (Or.inl ⟨by rfl, fun W hW => by go_simp⟩) h0 ?_
    try simp only [Act.put, List.getElem?_toArray, List.getElem_toArray, List.getElem_cons_zero, List.getElem_cons_succ, List.setIfInBounds_toArray, List.set_cons_zero, List.set_cons_succ]
    refine wpAnyH_take (i := 10) (v := .int .i64 (kp : Int)) rfl (by kernel_rfl) (by kernel_rfl) (by kernel_rfl) (fun _ _ _ h => h) (Or.inl ⟨by rfl, fun W hW => by go_simp⟩) h0 ?_
    try simp only [Act.put, List.getElem?_toArray, List.getElem_toArray, List.getElem_cons_zero, List.getElem_cons_succ, List.setIfInBounds_toArray, List.set_cons_zero, List.set_cons_succ]
    refine wpAnyH_take (i := 11) (v := .int .i64 (kp : Int)) rfl (by kernel_rfl) (by kernel_rfl) (by kernel_rfl) (fun _ _ _ h => h) (Or.inl ⟨by rfl, fun W hW => by go_simp⟩) h0 ?_
    try simp only [Act.put, List.getElem?_toArray, List.getElem_toArray, List.getElem_cons_zero, List.getElem_cons_succ, List.setIfInBounds_toArray, List.set_cons_zero, List.set_cons_succ]
    refine wpAnyH_take (i := 12) (v := .bool true) rfl (by kernel_rfl) (by kernel_rfl) (by kernel_rfl) (fun _ _ _ h => h) (Or.inl ⟨by rfl, fun W hW => by go_simp⟩) h0 ?_
    try simp only [Act.put, List.getElem?_toArray, List.getElem_toArray, List.getElem_cons_zero, List.getElem_cons_succ, List.setIfInBounds_toArray, List.set_cons_zero, List.set_cons_succ]
    refine wpAnyH_take (i := 13) (v := .bool true) rfl (by kernel_rfl) (by kernel_rfl) (by kernel_rfl) (fun _ _ _ h => h) (Or.inl ⟨by rfl, fun W hW => by go_simp⟩) h0 ?_
    try simp only [Act.put, List.getElem?_toArray, List.getElem_toArray, List.getElem_cons_zero, List.getElem_cons_succ, List.setIfInBounds_toArray, List.set_cons_zero, List.set_cons_succ]
    refine wpAnyH_take (i := 14) (v := .bool true) rfl (by kernel_rfl) (by kernel_rfl) (by kernel_rfl) (fun _ _ _ h => h) (Or.inl ⟨by rfl, fun W hW => by go_simp⟩) h0 ?_
    try simp only [Act.put, List.getElem?_toArray, List.getElem_toArray, List.getElem_cons_zero, List.getElem_cons_succ, List.setIfInBounds_toArray, List.set_cons_zero, List.set_cons_succ]
    refine wpAnyH_take (i := 15) (v := .int .i64 (kr : Int)) rfl (by kernel_rfl) (by kernel_rfl) (by kernel_rfl) (fun _ _ _ h => h) (Or.inl ⟨by rfl, fun W hW => by go_simp⟩) h0 ?_
    try simp only [Act.put, List.getElem?_toArray, List.getElem_toArray, List.getElem_cons_zero, List.getElem_cons_succ, List.setIfInBounds_toArray, List.set_cons_zero, List.set_cons_succ]
    refine wpAnyH_take (i := 16) (v := .int .i64 (kr : Int)) rfl (by kernel_rfl) (by kernel_rfl) (by kernel_rfl) (fun _ _ _ h => h) (Or.inl ⟨by rfl, fun W hW => by go_simp⟩) h0 ?_
    try simp only [Act.put, List.getElem?_toArray, List.getElem_toArray, List.getElem_cons_zero, List.getElem_cons_succ, List.setIfInBounds_toArray, List.set_cons_zero, List.set_cons_succ]
    refine wpAnyH_take (i := 17) (v := .bool true) rfl (by kernel_rfl) (by kernel_rfl) (by kernel_rfl) (fun _ _ _ h => h) (Or.inl ⟨by rfl, fun W hW => by go_simp⟩) h0 ?_
    try simp only [Act.put, List.getElem?_toArray, List.getElem_toArray, List.getElem_cons_zero, List.getElem_cons_succ, List.setIfInBounds_toArray, List.set_cons_zero, List.set_cons_succ]
    refine wpAnyH_take (i := 18) (v := .bool true) rfl (by kernel_rfl) (by kernel_rfl) (by kernel_rfl) (fun _ _ _ h => h) (Or.inl ⟨by rfl, fun W hW => by go_simp⟩) h0 ?_
    try simp only [Act.put, List.getElem?_toArray, List.getElem_toArray, List.getElem_cons_zero, List.getElem_cons_succ, List.setIfInBounds_toArray, List.set_cons_zero, List.set_cons_succ]
    refine wpAnyH_take (i := 19) (v := .bool true) rfl (by kernel_rfl) (by kernel_rfl) (by kernel_rfl) (fun _ _ _ h => h) (Or.inl ⟨by rfl, fun W hW => by go_simp⟩) h0 ?_
    try simp only [Act.put, List.getElem?_toArray, List.getElem_toArray, List.getElem_cons_zero, List.getElem_cons_succ, List.setIfInBounds_toArray, List.set_cons_zero, List.set_cons_succ]
    refine wpAnyH_take (i := 20) (v := .agg (leCells A c l)) rfl (by kernel_rfl) (by kernel_rfl) (by kernel_rfl) (fun _ _ _ h => h) (yieldsIf_load_blk (by rfl) 39 (.tmp 4) rfl w.heap.size rfl 39 _ (0, 0) _ (fun W h => h.2) Try.underlying39 rfl le_size) h0 ?_
    try simp only [Act.put, List.getElem?_toArray, List.getElem_toArray, List.getElem_cons_zero, List.getElem_cons_succ, List.setIfInBounds_toArray, List.set_cons_zero, List.set_cons_succ]
    refine wpAnyH_take (i := 22) (v := .agg (leCells A c l)) rfl (by kernel_rfl) (by kernel_rfl) (by kernel_rfl) (fun _ _ _ h => h) (yieldsIf_load_blk (by rfl) 39 (.tmp 4) rfl w.heap.size rfl 39 _ (0, 0) _ (fun W h => h.2) Try.underlying39 rfl le_size) h0 ?_
    try simp only [Act.put, List.getElem?_toArray, List.getElem_toArray, List.getElem_cons_zero, List.getElem_cons_succ, List.setIfInBounds_toArray, List.set_cons_zero, List.set_cons_succ]
    refine wpAnyH_ready (rs := [21]) (by kernel_rfl) (by simp) ?_
    refine AllReadyH.cons rfl (fun K hK => ?_) AllReadyH.nil
    go_simp
    go_at_call 27
    refine (check_any A c l _ (by omega) (Hl.out.rd.below h0.1)).mono ?_
    rintro e Wk ⟨rfl, hbk⟩
    refine hK.out _ _ ⟨fw_trans h0.1 hbk, blk_below h0.2 hbk⟩ (fun h1 => ?_)
    clear hK hbk
    try simp only [Act.put, List.getElem?_toArray, List.getElem_toArray, List.getElem_cons_zero, List.getElem_cons_succ, List.setIfInBounds_toArray, List.set_cons_zero, List.set_cons_succ]
    refine wpAnyH_ready (rs := [23]) (by kernel_rfl) (by simp) ?_
    refine AllReadyH.cons rfl (fun K hK => ?_) AllReadyH.nil
    go_simp
    go_at_call 28
    refine (rcheck_any A c l _ (by omega) (Hl.out.rd.below h1.1)).mono ?_
    rintro e Wk ⟨rfl, hbk⟩
    refine hK.out _ _ ⟨fw_trans h1.1 hbk, blk_below h1.2 hbk⟩ (fun h2 => ?_)
    clear hK hbk
    try simp only [Act.put, List.getElem?_toArray, List.getElem_toArray, List.getElem_cons_zero, List.getElem_cons_succ, List.setIfInBounds_toArray, List.set_cons_zero, List.set_cons_succ]
    refine wpAnyH_take (i := 24) (v := .bool true) rfl (by kernel_rfl) (by kernel_rfl) (by kernel_rfl) (fun _ _ _ h => h) (Or.inl ⟨by rfl, fun W hW => by go_simp⟩) h2 ?_
    try simp only [Act.put, List.getElem?_toArray, List.getElem_toArray, List.getElem_cons_zero, List.getElem_cons_succ, List.setIfInBounds_toArray, List.set_cons_zero, List.set_cons_succ]
    refine wpAnyH_take (i := 25) (v := .bool true) rfl (by kernel_rfl) (by kernel_rfl) (by kernel_rfl) (fun _ _ _ h => h) (Or.inl ⟨by rfl, fun W hW => by go_simp⟩) h2 ?_
    try simp only [Act.put, List.getElem?_toArray, List.getElem_toArray, List.getElem_cons_zero, List.getElem_cons_succ, List.setIfInBounds_toArray, List.set_cons_zero, List.set_cons_succ]
    refine wpAnyH_take (i := 26) (v := .bool true) rfl (by kernel_rfl) (by kernel_rfl) (by kernel_rfl) (fun _ _ _ h => h) (Or.inl ⟨by rfl, fun W hW => by go_simp⟩) h2 ?_
    try simp only [Act.put, List.getElem?_toArray, List.getElem_toArray, List.getElem_cons_zero, List.getElem_cons_succ, List.setIfInBounds_toArray, List.set_cons_zero, List.set_cons_succ]
    refine wpAnyH_done (by kernel_rfl) ?_ _
    refine NoPanic.normal ?_
    go_wp2_with fail
    go_ret
    exact ⟨rfl, h2.1⟩
end Go.Proofs.Ytpeahilkmlffkaa
