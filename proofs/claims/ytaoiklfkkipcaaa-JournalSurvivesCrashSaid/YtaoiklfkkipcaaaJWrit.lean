import Derived.Test.YtaoiklfkkipcaaaJFew
set_option linter.unusedSimpArgs false
set_option linter.unusedVariables false
namespace Go.Proofs.Ytaoiklfkkipcaaa
open Go Go.RowKit Hd Go.Mem

theorem but_rows {g N : Nat} {W W' : World} {A : Option Addr} {xs : List Value} (h : But g W W') (hr : RdP (· < N) W A xs) (hN : N ≤ g) : RdP (· < N) W' A xs :=
  hr.move (fun b hb hl => h.blk b hl (by have : b < N := hb; omega)) (fun _ h _ => h)
theorem wdisk_zero (rs : List Rc) (safe : Int) : wdisk rs safe 0 = dkZ := by
  unfold wdisk
  rw [if_neg (by omega)]
  rfl
theorem wdisk_len {rs : List Rc} {safe : Int} {k : Nat} (h : goodR rs) (hn : rs.length ≤ 10) : (wdisk rs safe k).dur.length ≤ 1000000 ∧ (wdisk rs safe k).vol.length ≤ 1000000 := by
  have hb : ∀ a : List Rc, goodR a → a.length ≤ 10 → (framesR a).length ≤ 1000000 := fun a ha h1 => by
    have := framesR_len a ha
    omega
  unfold wdisk
  split
  · exact ⟨hb _ (h.take _) (by simp; omega), hb _ ((h.take _).drop _) (by simp; omega)⟩
  · exact ⟨by simp, hb _ (h.take _) (by simp; omega)⟩
set_option maxRecDepth 100000 in
set_option maxHeartbeats 8000000 in
theorem written_any (A : Option Addr) (c : Nat) (rs : List Rc) (safe : Int) (w : World) (hn : rs.length ≤ 10) (hg : goodR rs) (h : InR w A c rs) :
    Calls Try.prog 13 #[.slice A rs.length c, .int .i64 safe] w fun e w' => ∃ B1 B2 e1 e2, e = .returned (.tuple #[.agg (dkCells B1 B2 e1 e2 (wdisk rs safe rs.length)), .bool true]) ∧ InD w' B1 B2 e1 e2 (wdisk rs safe rs.length) ∧ Below w.heap.size w w' := by
  have Hg := Lib.hid hg
  have HP := Lib.hid (RdC.p h.rd)
  have Hnil := Lib.hid h.nil
  have Hle := Lib.hid h.le
  have Hcap := Lib.hid h.cap
  clear h hg
  go_enter Try.func13, Try.ntmps13
  have z2 := heap_alloc2_new w (.cells #[.slice none 0 0, .slice none 0 0] 27) (.cells #[.slice none 0 0, .slice none 0 0] 27)
  have z1 := blk_second w (.cells #[.slice none 0 0, .slice none 0 0] 27) (.cells #[.slice none 0 0, .slice none 0 0] 27)
  have hBz : Below w.heap.size w ((w.alloc (.cells #[.slice none 0 0, .slice none 0 0] 27)).alloc (.cells #[.slice none 0 0, .slice none 0 0] 27)) := fw_al (fw_new _ _) _
  go_wp2_with (first | (refine wpList_store_row rfl 27 (.tmp 6) (.tmp 13) rfl (w.heap.size + 1) (dkCells none none 0 0 dkZ) rfl rfl 27 _ z2 dk_size rfl (dk_one _ _ _ _ _) ?_; have hv0 := setRow_heap _ _ _ (dkCells none none 0 0 dkZ) _ _ z2; have hz0 := (setRow_other _ (w.heap.size + 1) w.heap.size (dkCells none none 0 0 dkZ) (by omega)).trans z1; have hB0 := below_setRow hBz (Nat.le_succ _) (dkCells none none 0 0 dkZ); generalize (((w.alloc (.cells #[.slice none 0 0, .slice none 0 0] 27)).alloc (.cells #[.slice none 0 0, .slice none 0 0] 27)).setRow (w.heap.size + 1) (dkCells none none 0 0 dkZ)) = W0 at *))
  clear z1 z2 hBz
  have HP0 := Lib.hid (HP.out.move (fun b hb _ => hB0.block b hb) (fun _ h _ => h))
  replace hz0 : W0.heap[w.heap.size]? = some (.cells (dkCells none none 0 0 dkZ) 27 (0, 0)) := hz0
  have hg0 : w.heap.size + 1 < W0.heap.size := blk_lt hv0
  clear HP
  go_loopw [16] (fun j wr => ∃ (k : Nat) (B1 B2 : Option Addr) (e1 e2 : Nat), j = .int .i64 (k : Int) ∧ k ≤ rs.length ∧ wr.heap[w.heap.size + 1]? = some (.cells (dkCells B1 B2 e1 e2 (wdisk rs safe k)) 27 (0, 0)) ∧ wr.heap[w.heap.size]? = some (.cells (dkCells none none 0 0 dkZ) 27 (0, 0)) ∧ Hid (InD wr B1 B2 e1 e2 (wdisk rs safe k)) ∧ Hid (RdP (· < w.heap.size) wr A (flatR rs)) ∧ Below w.heap.size w wr) (fun j _ => rs.length - (intOf j).toNat)
  case atStart => exact ⟨0, none, none, 0, 0, rfl, by omega, by rw [wdisk_zero]; exact hv0, hz0, by rw [wdisk_zero]; exact Lib.hid (InD.zero _), HP0, hB0⟩
  case round =>
    clear hv0 hz0 HP0 hB0
    obtain ⟨k, B1, B2, e1, e2, rfl, hk, hv, hz, HD, HP, hB⟩ := hrel
    by_cases hlt : k < rs.length
    · have hkl : ((k : Int) < (rs.length : Int)) = True := eq_true (by omega)
      obtain ⟨x, hx1, hx2, hx3, hx4⟩ := wdisk_round (safe := safe) Hg.out hlt hn
      have hgk := Hg.out rs[k] (List.getElem_mem hlt)
      obtain ⟨b, off, rfl, hr⟩ := (show InR wr A c rs from ⟨HP.out.c, Hnil.out, Hle.out, Hcap.out⟩).at k hlt
      have HX1 := Lib.hid hx1
      have HX2 := Lib.hid hx2
      have Hgk := Lib.hid hgk
      obtain ⟨D, hD⟩ : ∃ D, wdisk rs safe k = D := ⟨_, rfl⟩
      have hDl : D.dur.length ≤ 1000000 ∧ D.vol.length ≤ 1000000 := by rw [← hD]; exact wdisk_len Hg.out hn
      rw [hD] at HX1 hv HD
      generalize rs[k] = r at *
      obtain ⟨rf, rl, rp, ry, rm, rt, ra, ru⟩ := r
      have hry : ry.length ≤ 15 := Hgk.out.2
      clear hx1 hx2 hgk hD
      have q0 : wr.cell? ⟨b, off + k * 8, none⟩ = some (.int .i64 rf) := hr 0 _ (by decide) rfl
      have q1 : wr.cell? ⟨b, off + k * 8 + 1, none⟩ = some (.int .i64 rl) := hr 1 _ (by decide) rfl
      have q2 : wr.cell? ⟨b, off + k * 8 + 2, none⟩ = some (.int .i64 rp) := hr 2 _ (by decide) rfl
      have q3 : wr.cell? ⟨b, off + k * 8 + 3, none⟩ = some (.string ⟨ry.toArray⟩) := hr 3 _ (by decide) rfl
      have q4 : wr.cell? ⟨b, off + k * 8 + 4, none⟩ = some (.int .i64 rm) := hr 4 _ (by decide) rfl
      have q5 : wr.cell? ⟨b, off + k * 8 + 5, none⟩ = some (.int .i64 rt) := hr 5 _ (by decide) rfl
      have q6 : wr.cell? ⟨b, off + k * 8 + 6, none⟩ = some (.int .i64 ra) := hr 6 _ (by decide) rfl
      have q7 : wr.cell? ⟨b, off + k * 8 + 7, none⟩ = some (.int .i64 ru) := hr 7 _ (by decide) rfl
      have g0 : (0 : Int) ≤ (k : Int) := by omega
      clear hr
      go_wp2_with (first | (refine wpList_store_new rfl 38 (.tmp 8) (.tmp 20) rfl (rcCells (⟨rf, rl, rp, ry, rm, rt, ra, ru⟩ : Rc)) rfl rfl 38 _ rc_size rfl (rc_one _) ?_; intro W1 hb1 hr1; have hv1 := blk_below hv hb1; have hz1 := blk_below hz hb1; have hB1 := hB.trans (hb1.mono hB.size); have HD1 := Lib.hid (HD.out.below hb1); have HP1 := Lib.hid (HP.out.below hb1); clear hv hz hB HD HP hb1 q0 q1 q2 q3 q4 q5 q6 q7) | (refine wpList_load_row rfl 27 (.tmp 6) rfl (w.heap.size + 1) rfl 27 (dkCells B1 B2 e1 e2 D) (0, 0) _ hv1 Try.underlying27 rfl dk_size ?_) | (refine wpList_load_row rfl 38 (.tmp 8) rfl wr.heap.size rfl 38 (rcCells (⟨rf, rl, rp, ry, rm, rt, ra, ru⟩ : Rc)) (0, 0) _ hr1 Try.underlying38 rfl rc_size ?_))
      refine (append_any B1 B2 e1 e2 D (⟨rf, rl, rp, ry, rm, rt, ra, ru⟩ : Rc) W1 (by omega) (by omega) (by show ry.length ≤ _; omega) Hgk.out.1 HD1.out).mono ?_
      intro e W2 hh
      rw [HX1.out] at hh
      obtain ⟨C1, C2, k1, k2, rfl, hD2, hb2⟩ := hh
      have hv2 := blk_below hv1 hb2
      have hz2 := blk_below hz1 hb2
      have hB2 := hB1.trans (hb2.mono hB1.size)
      have HD2 := Lib.hid hD2
      have HP2 := Lib.hid (HP1.out.below hb2)
      have hwr : w.heap.size + 1 < W2.heap.size := blk_lt hv2
      clear hv1 hz1 hB1 HD1 HP1 hr1 hb2 hD2 HX1 Hgk
      by_cases hsf : (k : Int) + 1 = safe
      · have gs : (((k : Int) + 1) == safe) = true := by simpa using hsf
        have hsy : syncE x = (wdisk rs safe (k + 1), 0) := by rcases HX2.out with h9 | h9; exact h9.2; exact absurd hsf h9.1
        have HSY := Lib.hid hsy
        clear hsy HX2
        go_wp2_with (first | (refine wpList_store_new rfl 27 (.tmp 9) (.tmp 25) rfl (dkCells C1 C2 k1 k2 x) rfl rfl 27 _ dk_size rfl (dk_one _ _ _ _ _) ?_; intro W3 hb3 hx3'; have hv3 := blk_below hv2 hb3; have hz3 := blk_below hz2 hb3; have hB3 := hB2.trans (hb3.mono hB2.size); have HD3 := Lib.hid (HD2.out.below hb3); have HP3 := Lib.hid (HP2.out.below hb3); have hne3 : W2.heap.size ≠ w.heap.size + 1 := (by omega)) | (refine wpList_load_row rfl 27 (.tmp 9) rfl (W2.heap.size) rfl 27 (dkCells C1 C2 k1 k2 x) (0, 0) _ hx3' Try.underlying27 rfl dk_size ?_) | (refine wpList_store_row rfl 27 (.tmp 6) (.tmp 30) rfl (w.heap.size + 1) (dkCells C1 C2 k1 k2 x) rfl rfl 27 _ hv3 dk_size rfl (dk_one _ _ _ _ _) ?_; have hv4 := setRow_heap _ _ _ (dkCells C1 C2 k1 k2 x) _ _ hv3; have u4 := (⟨rfl, rfl, rfl, by simp [World.setRow], fun j hj => setRow_other _ _ _ _ hj⟩ : Upd (w.heap.size + 1) W3 (W3.setRow (w.heap.size + 1) (dkCells C1 C2 k1 k2 x))); have HD4 := Lib.hid (HD3.out.setRow (dkCells C1 C2 k1 k2 x) hv3); have hz4 := (u4.other w.heap.size (by omega)).trans hz3; have hB4 := u4.below hB3 (Nat.le_succ _); have HP4 := Lib.hid (but_rows (But.of_upd u4) HP3.out (Nat.le_succ _)); generalize W3.setRow (w.heap.size + 1) (dkCells C1 C2 k1 k2 x) = W4 at *) | (refine wpList_load_row rfl 27 (.tmp 6) rfl (w.heap.size + 1) rfl 27 (dkCells C1 C2 k1 k2 x) (0, 0) _ hv4 Try.underlying27 rfl dk_size ?_))
        refine (sync_any C1 C2 k1 k2 x W4 (by omega) (by omega) HD4.out).mono ?_
        intro e W5 hh
        rw [HSY.out] at hh
        obtain ⟨E1, E2, m1, m2, rfl, hD5, hb5⟩ := hh
        obtain ⟨Y, hY⟩ : ∃ Y, wdisk rs safe (k + 1) = Y := ⟨_, rfl⟩
        rw [hY] at hD5
        have HY := Lib.hid hY
        rw [hY]
        have hv5 := blk_below hv4 hb5
        have hz5 := blk_below hz4 hb5
        have hB5 := hB4.trans (hb5.mono hB4.size)
        have HD5 := Lib.hid hD5
        have HP5 := Lib.hid (HP4.out.below hb5)
        have hw5 : w.heap.size + 1 < W5.heap.size := blk_lt hv5
        clear hv2 hz2 hB2 HD2 HP2 hv3 hz3 hB3 HD3 HP3 hv4 hz4 hB4 HD4 HP4 hx3' u4 hb5 hD5 hY hb3 HSY
        go_wp2_with (first | (refine wpList_store_new rfl 27 (.tmp 11) (.tmp 38) rfl (dkCells E1 E2 m1 m2 Y) rfl rfl 27 _ dk_size rfl (dk_one _ _ _ _ _) ?_; intro W6 hb6 hx6; have hv6 := blk_below hv5 hb6; have hz6 := blk_below hz5 hb6; have hB6 := hB5.trans (hb6.mono hB5.size); have HD6 := Lib.hid (HD5.out.below hb6); have HP6 := Lib.hid (HP5.out.below hb6)) | (refine wpList_load_row rfl 27 (.tmp 11) rfl (W5.heap.size) rfl 27 (dkCells E1 E2 m1 m2 Y) (0, 0) _ hx6 Try.underlying27 rfl dk_size ?_) | (refine wpList_store_row rfl 27 (.tmp 6) (.tmp 43) rfl (w.heap.size + 1) (dkCells E1 E2 m1 m2 Y) rfl rfl 27 _ hv6 dk_size rfl (dk_one _ _ _ _ _) ?_; have hv7 := setRow_heap _ _ _ (dkCells E1 E2 m1 m2 Y) _ _ hv6; have u7 := (⟨rfl, rfl, rfl, by simp [World.setRow], fun j hj => setRow_other _ _ _ _ hj⟩ : Upd (w.heap.size + 1) W6 (W6.setRow (w.heap.size + 1) (dkCells E1 E2 m1 m2 Y))); have HD7 := Lib.hid (HD6.out.setRow (dkCells E1 E2 m1 m2 Y) hv6); have hz7 := (u7.other w.heap.size (by omega)).trans hz6; have hB7 := u7.below hB6 (Nat.le_succ _); have HP7 := Lib.hid (but_rows (But.of_upd u7) HP6.out (Nat.le_succ _)); generalize W6.setRow (w.heap.size + 1) (dkCells E1 E2 m1 m2 Y) = W7 at *))
        go_roundw
        case rel => exact ⟨k + 1, E1, E2, m1, m2, by go_num, by omega, by rw [HY.out]; exact hv7, hz7, by rw [HY.out]; exact HD7, HP7, hB7⟩
        case measure => simp [intOf]; omega
      · have gs : (((k : Int) + 1) == safe) = false := by simpa using hsf
        have hY : x = wdisk rs safe (k + 1) := by rcases HX2.out with h9 | h9; exact absurd h9.1 hsf; exact h9.2
        have HY := Lib.hid hY
        clear hY HX2
        go_wp2_with (first | (refine wpList_store_new rfl 27 (.tmp 9) (.tmp 25) rfl (dkCells C1 C2 k1 k2 x) rfl rfl 27 _ dk_size rfl (dk_one _ _ _ _ _) ?_; intro W3 hb3 hx3'; have hv3 := blk_below hv2 hb3; have hz3 := blk_below hz2 hb3; have hB3 := hB2.trans (hb3.mono hB2.size); have HD3 := Lib.hid (HD2.out.below hb3); have HP3 := Lib.hid (HP2.out.below hb3); have hne3 : W2.heap.size ≠ w.heap.size + 1 := (by omega)) | (refine wpList_load_row rfl 27 (.tmp 9) rfl (W2.heap.size) rfl 27 (dkCells C1 C2 k1 k2 x) (0, 0) _ hx3' Try.underlying27 rfl dk_size ?_) | (refine wpList_store_row rfl 27 (.tmp 6) (.tmp 30) rfl (w.heap.size + 1) (dkCells C1 C2 k1 k2 x) rfl rfl 27 _ hv3 dk_size rfl (dk_one _ _ _ _ _) ?_; have hv4 := setRow_heap _ _ _ (dkCells C1 C2 k1 k2 x) _ _ hv3; have u4 := (⟨rfl, rfl, rfl, by simp [World.setRow], fun j hj => setRow_other _ _ _ _ hj⟩ : Upd (w.heap.size + 1) W3 (W3.setRow (w.heap.size + 1) (dkCells C1 C2 k1 k2 x))); have HD4 := Lib.hid (HD3.out.setRow (dkCells C1 C2 k1 k2 x) hv3); have hz4 := (u4.other w.heap.size (by omega)).trans hz3; have hB4 := u4.below hB3 (Nat.le_succ _); have HP4 := Lib.hid (but_rows (But.of_upd u4) HP3.out (Nat.le_succ _)); generalize W3.setRow (w.heap.size + 1) (dkCells C1 C2 k1 k2 x) = W4 at *))
        go_roundw
        case rel => exact ⟨k + 1, C1, C2, k1, k2, by go_num, by omega, by rw [← HY.out]; exact hv4, hz4, by rw [← HY.out]; exact HD4, HP4, hB4⟩
        case measure => simp [intOf]; omega
    · have hkl : ((k : Int) < (rs.length : Int)) = False := eq_false (by omega)
      obtain rfl : k = rs.length := by omega
      obtain ⟨Y, hY⟩ : ∃ Y, wdisk rs safe rs.length = Y := ⟨_, rfl⟩
      rw [hY] at hv HD
      have HY := Lib.hid hY
      clear hY
      go_wp2_with (first | (refine wpList_load_row rfl 27 (.tmp 6) rfl (w.heap.size + 1) rfl 27 (dkCells B1 B2 e1 e2 Y) (0, 0) _ hv Try.underlying27 rfl dk_size ?_) | (refine wpList_store_row rfl 27 (.tmp 4) (.tmp 45) rfl w.heap.size (dkCells B1 B2 e1 e2 Y) rfl rfl 27 _ hz dk_size rfl (dk_one _ _ _ _ _) ?_))
      (try simp only [Exit.inBlock, Exit.then])
      refine bodyPost_ret (res_ct rfl _ _ w.heap.size _ (dkCells B1 B2 e1 e2 Y) _ _ rfl (setRow_heap _ _ _ _ _ _ hz) Try.underlying27 rfl dk_size) rfl ?_
      rw [HY.out]
      exact ⟨B1, B2, e1, e2, rfl, HD.out.setRow _ hz, below_setRow hB (Nat.le_refl _) _⟩
end Go.Proofs.Ytaoiklfkkipcaaa
