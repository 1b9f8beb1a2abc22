import Derived.Test.YtpeahilkmlffkaaQPwL
import Derived.Test.YtpeahilkmlffkaaQFew
import Derived.Test.YtpeahilkmlffkaaQSane
set_option linter.unusedSimpArgs false
set_option linter.unusedVariables false
namespace Go.Proofs.Ytpeahilkmlffkaa
open Go Go.RowKit Hd Go.Mem

set_option maxRecDepth 100000 in
set_option maxHeartbeats 8000000 in
theorem pw_walk (A : Option Addr) (c : Nat) (l : LE) (now : Int) (w : World) (hl : InL w A c l.q) :
    Calls Try.prog 7 #[.agg (leCells A c l), .int .i64 now] w fun e w' => e = .returned (.bool true) ∧ Below w.heap.size w w' := by
  have Hl := Lib.hid hl
  have h0 := heap_alloc_new w (.cells (leCells A c l) 39)
  have hB0 := fw_new w (.cells (leCells A c l) 39)
  clear hl
  go_enter Try.func7, Try.ntmps7
  go_wp2_with fail
  refine (sane_any _).mono ?_
  rintro e W1 ⟨rfl, hb1⟩
  have hP1 := blk_below h0 hb1
  have hB1 := fw_trans hB0 hb1
  clear h0 hB0 hb1
  go_wp2_with (first | (refine wpList_load_row rfl 39 (.tmp 2) rfl (w.heap.size) rfl 39 (leCells A c l) (0, 0) _ hP1 Try.underlying39 rfl le_size ?_))
  refine (few_any A c l W1 (Hl.out.rd.below hB1)).mono ?_
  intro e W2 hh
  unfold FewPost at hh
  obtain ⟨b, rfl, hbd, hb2⟩ := hh
  have hP2 := blk_below hP1 hb2
  have hB2 := fw_trans hB1 hb2
  clear hP1 hB1 hb2
  cases b with
  | false =>
    clear hbd
    go_wp2_with fail
    go_ret
    exact ⟨rfl, hB2⟩
  | true =>
    have hq80 := hbd rfl
    clear hbd
    obtain ⟨x, fs, k, hx⟩ : ∃ x fs k, pollE l now = (x, fs, k) := ⟨_, _, _, rfl⟩
    have HX := Lib.hid hx
    clear hx
    go_wp2_with (first | (refine wpList_load_row rfl 39 (.tmp 2) rfl (w.heap.size) rfl 39 (leCells A c l) (0, 0) _ hP2 Try.underlying39 rfl le_size ?_))
    refine (poll_as HX.out A c W2 (by omega) (Hl.out.rd.below hB2)).mono ?_
    rintro e W3 ⟨A1, c1, A2, c2, rfl, hq3, hf3, hb3⟩
    have hP3 := blk_below hP2 hb3
    have hB3 := fw_trans hB2 hb3
    clear hP2 hB2 hb3
    by_cases hk : k = 0
    · subst hk
      have HL := Lib.hid (poll_law HX.out)
      have hlen := HL.out.len
      obtain ⟨xx, xd, rfl⟩ : ∃ xx xd, x = ⟨l.q, l.b, ((min l.q.length 7 : Nat) : Int), xx, false, xd⟩ := ⟨x.x, x.d, by have h1 := HL.out.queue; have h2 := HL.out.base; have h3 := HL.out.sent; have h4 := HL.out.owed; obtain ⟨q, b, s, x, o, d⟩ := x; simp only at h1 h2 h3 h4; subst h1 h2 h3 h4; rfl⟩
      obtain ⟨X, hX⟩ : ∃ X : LE, (⟨l.q, l.b, ((min l.q.length 7 : Nat) : Int), xx, false, xd⟩ : LE) = X := ⟨_, rfl⟩
      have hXq : X.q = l.q := by rw [← hX]
      have hcx : (leCells A1 c1 X) = #[.slice A1 l.q.length c1, .int .i64 l.b, .int .i64 ((min l.q.length 7 : Nat) : Int), .int .i64 xx, .bool false, .int .i64 xd] := by rw [← hX]; rfl
      rw [hX] at HL hq3 ⊢
      have HCX := Lib.hid hcx
      have HXq := Lib.hid hXq
      clear hX hcx hXq
      go_wp2_with (first | (refine wpList_store_new rfl 39 (.tmp 6) (.tmp 24) rfl (leCells A1 c1 X) rfl rfl 39 _ le_size rfl (le_one _ _ _ _) ?_; intro W4 hb4 hv4; have hP4 := blk_below hP3 hb4; have hf4 := hf3.below hb4; have hB4 := fw_trans hB3 hb4; have hq4 := hq3.below hb4))
      clear hP3 hf3 hB3 hq3 hb4
      go_loopw [9] (fun v wr => ∃ k : Nat, v = .int .i64 (k : Int) ∧ k ≤ fs.length ∧ Below W4.heap.size W4 wr) (fun v _ => fs.length - (intOf v).toNat)
      case atStart => exact ⟨0, rfl, by omega, Below.refl _ _⟩
      case round =>
        obtain ⟨k, rfl, hk, hbr⟩ := hrel
        have hPr := blk_below hP4 hbr
        by_cases hlt : k < fs.length
        · obtain ⟨b, off, A5, c5, rfl, hr, _, _, _, _⟩ := (hf4.below hbr).at k hlt
          obtain ⟨he1, he2⟩ := HL.out.each k hlt
          have hx3 : wr.cell? ⟨w.heap.size, 3, none⟩ = some (.int .i64 l.x) := cellOf hPr rfl
          have r2 : wr.cell? ⟨b, off + k * 4 + 2, none⟩ = some (.int .i64 l.x) := by have := hr 2 _ rfl; rw [he1] at this; rw [← this]; congr 2; omega
          have r0 : wr.cell? ⟨b, off + k * 4, none⟩ = some (.bool fs[k].d) := by have := hr 0 _ rfl; rw [← this]; congr 2; omega
          have r1 : wr.cell? ⟨b, off + k * 4 + 1, none⟩ = some (.int .i64 fs[k].s) := by have := hr 1 _ rfl; rw [← this]; congr 2; omega
          have g0 : (0 : Int) ≤ (k : Int) := by omega
          have g1 : (k : Int) < (fs.length : Int) := by omega
          by_cases hk0 : k = 0
          · subst hk0
            rw [show off + 0 * 4 = off from by omega] at r0 r1 r2
            have g2 : (0 : Int) < (fs.length : Int) := by omega
            have g3 : 0 < fs.length := hlt
            cases hd : fs[0].d with
            | true =>
              rw [hd] at r0
              clear hr he1 he2 hP4 hPr hf4 hq4 hv4 hd
              go_wp2
              go_quiet (fail)
              go_wp2
              go_roundw
              case rel => exact ⟨0 + 1, by go_num, by omega, hbr.trans ⟨rfl, rfl, rfl, Nat.le_refl _, fun _ _ => rfl⟩⟩
              case measure => simp [intOf]; omega
            | false =>
              have hl1 : fs.length = 1 := by rcases he2 with h | h; rw [hd] at h; cases h; exact h
              have hl2 : ((1 : Int) < (fs.length : Int)) = False := eq_false (by omega)
              rw [hd] at r0
              clear hr he1 he2 hP4 hPr hf4 hq4 hv4 hd
              go_wp2
              go_quiet (fail)
              go_wp2
              go_roundw
              case rel => exact ⟨0 + 1, by go_num, by omega, hbr.trans ⟨rfl, rfl, rfl, Nat.le_refl _, fun _ _ => rfl⟩⟩
              case measure => simp [intOf]; omega
          · obtain ⟨j, rfl⟩ : ∃ j, k = j + 1 := ⟨k - 1, by omega⟩
            obtain ⟨n1, n2, n3⟩ := HL.out.next j hlt
            obtain ⟨b', off', A6, c6, e6, hr', _, _, _, _⟩ := (hf4.below hbr).at j (by omega)
            simp only [Option.some.injEq, Addr.mk.injEq] at e6
            obtain ⟨rfl, rfl, _⟩ := e6
            have p1 : wr.cell? ⟨b, off + j * 4 + 1, none⟩ = some (.int .i64 fs[j].s) := by have := hr' 1 _ rfl; rw [← this]; congr 2; omega
            generalize hs1 : fs[j].s = s1 at *
            generalize hs2 : fs[j + 1].s = s2 at *
            have m1 : (s2 != Int.tmod (s1 + 1) 16) = false := by rw [Int.tmod_eq_emod_of_nonneg (by omega), n1]; simp
            have m2 : (s2 != (s1 + 1) % 16) = false := by rw [n1]; simp
            clear hr' n1 hs1 hs2 hk0
            cases hd : fs[(j + 1)].d with
            | true =>
              rw [hd] at r0
              clear hr he1 he2 hP4 hPr hf4 hq4 hv4 hd
              go_wp2
              go_quiet (fail)
              go_wp2
              go_roundw
              case rel => exact ⟨(j + 1) + 1, by go_num, by omega, hbr.trans ⟨rfl, rfl, rfl, Nat.le_refl _, fun _ _ => rfl⟩⟩
              case measure => simp [intOf]; omega
            | false =>
              have hl1 : fs.length = 1 := by rcases he2 with h | h; rw [hd] at h; cases h; exact h
              exfalso; omega
        · have hke : k = fs.length := by omega
          subst hke
          have hvr := blk_below hv4 hbr
          have hqr := hq4.below hbr
          have hBr := fw_trans hB4 hbr
          have hqX : X.q.length ≤ 80 := by rw [HXq.out]; exact hq80
          have HA := Lib.hid HL.out.again
          have HC := Lib.hid HL.out.chk
          clear hP4 hv4 hq4 hf4 hbr hlt hk
          go_wp2_with (first | (refine wpList_load_row rfl 39 (.tmp 6) rfl (W3.heap.size) rfl 39 (leCells A1 c1 X) (0, 0) _ hvr Try.underlying39 rfl le_size ?_))
          refine (poll_as HA.out A1 c1 wr (by omega) hqr.rd).mono ?_
          rintro e W5 ⟨A3, c3, A4, c4, rfl, hq5, _, hb5⟩
          have hP5 := blk_below hPr hb5
          have hv5 := blk_below hvr hb5
          have hqx5 := hqr.below hb5
          have hB5 := fw_trans hBr hb5
          have hcy : (leCells A3 c3 X) = #[.slice A3 l.q.length c3, .int .i64 l.b, .int .i64 ((min l.q.length 7 : Nat) : Int), .int .i64 xx, .bool false, .int .i64 xd] := by have h := HCX.out; unfold leCells at h ⊢; simp only [List.toArray_inj, Array.mk.injEq, List.cons.injEq, Value.slice.injEq, true_and, and_true] at h ⊢; exact h
          have HCY := Lib.hid hcy
          clear hPr hvr hqr hBr hb5 hcy
          by_cases h7 : 7 < l.q.length
          · have hm7 : ((min l.q.length 7 : Nat) : Int) = 7 := by omega
            rw [hm7] at HCX HCY
            have hf7 : (fs.length : Int) ≤ 7 := by omega
            go_wp2_with (first | (refine wpList_store_new rfl 39 (.tmp 10) (.tmp 89) rfl (leCells A3 c3 X) rfl rfl 39 _ le_size rfl (le_one _ _ _ _) ?_; intro W6 hb6 hv6; have hx6 := blk_below hv5 hb6; rw [HCX.out] at hx6; have hy6 := hv6; rw [HCY.out] at hy6; have x0 : W6.cell? ⟨W3.heap.size, 0, none⟩ = some (.slice A1 l.q.length c1) := cellOf hx6 rfl; have x1 : W6.cell? ⟨W3.heap.size, 1, none⟩ = some (.int .i64 l.b) := cellOf hx6 rfl; have x2 : W6.cell? ⟨W3.heap.size, 2, none⟩ = some (.int .i64 7) := cellOf hx6 rfl; have x3 : W6.cell? ⟨W3.heap.size, 3, none⟩ = some (.int .i64 xx) := cellOf hx6 rfl; have x4 : W6.cell? ⟨W3.heap.size, 4, none⟩ = some (.bool false) := cellOf hx6 rfl; have x5 : W6.cell? ⟨W3.heap.size, 5, none⟩ = some (.int .i64 xd) := cellOf hx6 rfl; have y0 : W6.cell? ⟨W5.heap.size, 0, none⟩ = some (.slice A3 l.q.length c3) := cellOf hy6 rfl; have y1 : W6.cell? ⟨W5.heap.size, 1, none⟩ = some (.int .i64 l.b) := cellOf hy6 rfl; have y2 : W6.cell? ⟨W5.heap.size, 2, none⟩ = some (.int .i64 7) := cellOf hy6 rfl; have y3 : W6.cell? ⟨W5.heap.size, 3, none⟩ = some (.int .i64 xx) := cellOf hy6 rfl; have y4 : W6.cell? ⟨W5.heap.size, 4, none⟩ = some (.bool false) := cellOf hy6 rfl; have y5 : W6.cell? ⟨W5.heap.size, 5, none⟩ = some (.int .i64 xd) := cellOf hy6 rfl; have hB6 := fw_trans hB5 hb6) | (go_at_call 23; rw [← HCX.out, ← HCY.out]; refine (same_eq A1 A3 c1 c3 X W6 (by omega) (hqx5.below hb6).rd (hq5.below hb6).rd).mono ?_; rintro e W7 ⟨rfl, hb7⟩; have hx7 := blk_below hx6 hb7; have hl7 := blk_below (blk_below hP5 hb6) hb7; have z0 : W7.cell? ⟨W3.heap.size, 0, none⟩ = some (.slice A1 l.q.length c1) := cellOf hx7 rfl; have z1 : W7.cell? ⟨W3.heap.size, 1, none⟩ = some (.int .i64 l.b) := cellOf hx7 rfl; have z2 : W7.cell? ⟨W3.heap.size, 2, none⟩ = some (.int .i64 7) := cellOf hx7 rfl; have z3 : W7.cell? ⟨W3.heap.size, 3, none⟩ = some (.int .i64 xx) := cellOf hx7 rfl; have z4 : W7.cell? ⟨W3.heap.size, 4, none⟩ = some (.bool false) := cellOf hx7 rfl; have z5 : W7.cell? ⟨W3.heap.size, 5, none⟩ = some (.int .i64 xd) := cellOf hx7 rfl; have v0 : W7.cell? ⟨w.heap.size, 0, none⟩ = some (.slice A l.q.length c) := cellOf hl7 rfl; have v1 : W7.cell? ⟨w.heap.size, 1, none⟩ = some (.int .i64 l.b) := cellOf hl7 rfl; have hB7 := fw_trans hB6 hb7; have hq7 := (hqx5.below hb6).below hb7) | (go_at_call 27; rw [← HCX.out]; refine (check_any A1 c1 X W7 (by omega) hq7.rd).mono ?_; rw [HC.out]; rintro e W8 ⟨rfl, hb8⟩))
            go_ret
            exact ⟨rfl, fw_trans hB7 hb8⟩
          · have hm7 : ((min l.q.length 7 : Nat) : Int) = (l.q.length : Int) := by omega
            rw [hm7] at HCX HCY
            have hf7 : (fs.length : Int) ≤ 7 := by omega
            go_wp2_with (first | (refine wpList_store_new rfl 39 (.tmp 10) (.tmp 89) rfl (leCells A3 c3 X) rfl rfl 39 _ le_size rfl (le_one _ _ _ _) ?_; intro W6 hb6 hv6; have hx6 := blk_below hv5 hb6; rw [HCX.out] at hx6; have hy6 := hv6; rw [HCY.out] at hy6; have x0 : W6.cell? ⟨W3.heap.size, 0, none⟩ = some (.slice A1 l.q.length c1) := cellOf hx6 rfl; have x1 : W6.cell? ⟨W3.heap.size, 1, none⟩ = some (.int .i64 l.b) := cellOf hx6 rfl; have x2 : W6.cell? ⟨W3.heap.size, 2, none⟩ = some (.int .i64 (l.q.length : Int)) := cellOf hx6 rfl; have x3 : W6.cell? ⟨W3.heap.size, 3, none⟩ = some (.int .i64 xx) := cellOf hx6 rfl; have x4 : W6.cell? ⟨W3.heap.size, 4, none⟩ = some (.bool false) := cellOf hx6 rfl; have x5 : W6.cell? ⟨W3.heap.size, 5, none⟩ = some (.int .i64 xd) := cellOf hx6 rfl; have y0 : W6.cell? ⟨W5.heap.size, 0, none⟩ = some (.slice A3 l.q.length c3) := cellOf hy6 rfl; have y1 : W6.cell? ⟨W5.heap.size, 1, none⟩ = some (.int .i64 l.b) := cellOf hy6 rfl; have y2 : W6.cell? ⟨W5.heap.size, 2, none⟩ = some (.int .i64 (l.q.length : Int)) := cellOf hy6 rfl; have y3 : W6.cell? ⟨W5.heap.size, 3, none⟩ = some (.int .i64 xx) := cellOf hy6 rfl; have y4 : W6.cell? ⟨W5.heap.size, 4, none⟩ = some (.bool false) := cellOf hy6 rfl; have y5 : W6.cell? ⟨W5.heap.size, 5, none⟩ = some (.int .i64 xd) := cellOf hy6 rfl; have hB6 := fw_trans hB5 hb6) | (go_at_call 23; rw [← HCX.out, ← HCY.out]; refine (same_eq A1 A3 c1 c3 X W6 (by omega) (hqx5.below hb6).rd (hq5.below hb6).rd).mono ?_; rintro e W7 ⟨rfl, hb7⟩; have hx7 := blk_below hx6 hb7; have hl7 := blk_below (blk_below hP5 hb6) hb7; have z0 : W7.cell? ⟨W3.heap.size, 0, none⟩ = some (.slice A1 l.q.length c1) := cellOf hx7 rfl; have z1 : W7.cell? ⟨W3.heap.size, 1, none⟩ = some (.int .i64 l.b) := cellOf hx7 rfl; have z2 : W7.cell? ⟨W3.heap.size, 2, none⟩ = some (.int .i64 (l.q.length : Int)) := cellOf hx7 rfl; have z3 : W7.cell? ⟨W3.heap.size, 3, none⟩ = some (.int .i64 xx) := cellOf hx7 rfl; have z4 : W7.cell? ⟨W3.heap.size, 4, none⟩ = some (.bool false) := cellOf hx7 rfl; have z5 : W7.cell? ⟨W3.heap.size, 5, none⟩ = some (.int .i64 xd) := cellOf hx7 rfl; have v0 : W7.cell? ⟨w.heap.size, 0, none⟩ = some (.slice A l.q.length c) := cellOf hl7 rfl; have v1 : W7.cell? ⟨w.heap.size, 1, none⟩ = some (.int .i64 l.b) := cellOf hl7 rfl; have hB7 := fw_trans hB6 hb7; have hq7 := (hqx5.below hb6).below hb7) | (go_at_call 27; rw [← HCX.out]; refine (check_any A1 c1 X W7 (by omega) hq7.rd).mono ?_; rw [HC.out]; rintro e W8 ⟨rfl, hb8⟩))
            go_ret
            exact ⟨rfl, fw_trans hB7 hb8⟩
    · obtain ⟨rfl, rfl⟩ := poll_err HX.out hk
      have hkn : ((k : Int) != 0) = true := by simpa using hk
      clear hk
      go_wp2_with (first | (refine wpList_store_new rfl 39 (.tmp 6) (.tmp 24) rfl (leCells A1 c1 leZ) rfl rfl 39 _ le_size rfl (le_one _ _ _ _) ?_; intro W4 hb4 hv4; have hB4 := fw_trans hB3 hb4; have x0 : W4.cell? ⟨W3.heap.size, 0, none⟩ = some (.slice A1 0 c1) := cellOf hv4 rfl))
      go_ret
      exact ⟨rfl, hB4⟩
end Go.Proofs.Ytpeahilkmlffkaa
