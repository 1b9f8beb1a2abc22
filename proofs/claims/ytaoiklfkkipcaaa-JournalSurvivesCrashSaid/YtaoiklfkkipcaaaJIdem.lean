import Derived.Test.YtaoiklfkkipcaaaJSane
import Derived.Test.YtaoiklfkkipcaaaJLaw2
set_option linter.unusedSimpArgs false
set_option linter.unusedVariables false
namespace Go.Proofs.Ytaoiklfkkipcaaa
open Go Go.RowKit Hd Go.Mem

theorem same2_any (A A' : Option Addr) (c c' : Nat) (l : List UInt8) (w : World) (h : Rd w A l) (h' : Rd w A' l) :
    Calls Try.prog 52 #[.slice A l.length c, .slice A' l.length c'] w fun e w' => e = .returned (.bool true) ∧ w' = w := by
  have hz1 := conv_str A c l w h
  have hz2 := conv_str A' c' l w h'
  go_enter Try.func52, Try.ntmps52
  go_wp2_with fail
  go_ret
  exact ⟨rfl, rfl⟩
set_option maxRecDepth 100000 in
theorem same_any (A1 A2 B1 B2 : Option Addr) (c1 c2 e1 e2 : Nat) (d : Dk) (w : World) (h : InD w A1 A2 c1 c2 d) (h' : InD w B1 B2 e1 e2 d) :
    Calls Try.prog 29 #[.agg (dkCells A1 A2 c1 c2 d), .agg (dkCells B1 B2 e1 e2 d)] w fun e w' => e = .returned (.bool true) ∧ Below w.heap.size w w' := by
  have Hh := Lib.hid h
  have Hh' := Lib.hid h'
  have b0 := blk_second w (.cells (dkCells A1 A2 c1 c2 d) 27) (.cells (dkCells B1 B2 e1 e2 d) 27)
  have b1 := heap_alloc2_new w (.cells (dkCells A1 A2 c1 c2 d) 27) (.cells (dkCells B1 B2 e1 e2 d) 27)
  have hB0 : Below w.heap.size w ((w.alloc (.cells (dkCells A1 A2 c1 c2 d) 27)).alloc (.cells (dkCells B1 B2 e1 e2 d) 27)) := fw_al (fw_new _ _) _
  obtain ⟨W0, hW0⟩ : ∃ W0, (w.alloc (.cells (dkCells A1 A2 c1 c2 d) 27)).alloc (.cells (dkCells B1 B2 e1 e2 d) 27) = W0 := ⟨_, rfl⟩
  rw [hW0] at b0 b1 hB0
  have x0 : W0.cell? ⟨w.heap.size, 0, none⟩ = some (.slice A1 d.dur.length c1) := cellOf b0 rfl
  have x1 : W0.cell? ⟨w.heap.size, 1, none⟩ = some (.slice A2 d.vol.length c2) := cellOf b0 rfl
  have y0 : W0.cell? ⟨w.heap.size + 1, 0, none⟩ = some (.slice B1 d.dur.length e1) := cellOf b1 rfl
  have y1 : W0.cell? ⟨w.heap.size + 1, 1, none⟩ = some (.slice B2 d.vol.length e2) := cellOf b1 rfl
  clear h h'
  go_enter Try.func29, Try.ntmps29
  go_wp2_with fail
  refine (same2_any A1 B1 c1 e1 d.dur W0 (Hh.out.dur.below hB0) (Hh'.out.dur.below hB0)).mono ?_
  rintro e w' ⟨rfl, rfl⟩
  go_wp2_with fail
  refine (same2_any A2 B2 c2 e2 d.vol _ (Hh.out.vol.below hB0) (Hh'.out.vol.below hB0)).mono ?_
  rintro e w' ⟨rfl, rfl⟩
  go_wp2_with fail
  go_ret
  exact ⟨rfl, hB0⟩
theorem few_any (A A' : Option Addr) (c c' : Nat) (d : Dk) (w : World) :
    Calls Try.prog 20 #[.agg (dkCells A A' c c' d)] w fun e w' => ∃ b, e = .returned (.bool b) ∧ (b = true → d.dur.length ≤ 4000 ∧ d.vol.length ≤ 4000) ∧ Below w.heap.size w w' := by
  have b0 := heap_alloc_new w (.cells (dkCells A A' c c' d) 27)
  have hB0 := fw_new w (.cells (dkCells A A' c c' d) 27)
  obtain ⟨W0, hW0⟩ : ∃ W0, w.alloc (.cells (dkCells A A' c c' d) 27) = W0 := ⟨_, rfl⟩
  rw [hW0] at b0 hB0
  have x0 : W0.cell? ⟨w.heap.size, 0, none⟩ = some (.slice A d.dur.length c) := cellOf b0 rfl
  have x1 : W0.cell? ⟨w.heap.size, 1, none⟩ = some (.slice A' d.vol.length c') := cellOf b0 rfl
  by_cases h1 : d.dur.length ≤ 4000
  · have g1 : ((d.dur.length : Int) ≤ 4000) = True := eq_true (by omega)
    by_cases h2 : d.vol.length ≤ 4000
    · have g2 : ((d.vol.length : Int) ≤ 4000) = True := eq_true (by omega)
      go_enter Try.func20, Try.ntmps20
      go_wp2_with fail
      go_ret
      exact ⟨_, rfl, fun _ => ⟨h1, h2⟩, hB0⟩
    · have g2 : ((d.vol.length : Int) ≤ 4000) = False := eq_false (by omega)
      go_enter Try.func20, Try.ntmps20
      go_wp2_with fail
      go_ret
      exact ⟨_, rfl, (fun e => by cases e), hB0⟩
  · have g1 : ((d.dur.length : Int) ≤ 4000) = False := eq_false (by omega)
    go_enter Try.func20, Try.ntmps20
    go_wp2_with fail
    go_ret
    exact ⟨_, rfl, (fun e => by cases e), hB0⟩
set_option maxRecDepth 100000 in
set_option maxHeartbeats 1000000 in
theorem begins_any {A A' : Option Addr} {c c' : Nat} {b p : List UInt8} {w : World} (hb : InB w A c b) (hp : InB w A' c' p) (h : p <+: b) :
    Calls Try.prog 30 #[.slice A b.length c, .slice A' p.length c'] w fun e w' => e = .returned (.bool true) ∧ Below w.heap.size w w' := by
  have hle := h.length_le
  have hbc := hb.le
  have htk : b.take p.length = p := (List.prefix_iff_eq_take.1 h).symm
  have g1 : ((p.length : Int) ≤ (b.length : Int)) = True := eq_true (by omega)
  have hsl := slc_h 25 5 Try.underlying25 (by kernel_rfl) A b.length c (p.length : Int) p.length rfl (by omega)
  have hz1 : Rd w A p := by have := hb.rd.take p.length; rwa [htk] at this
  have Hz1 := Lib.hid hz1
  have Hz2 := Lib.hid hp.rd
  clear hb hp hz1
  go_enter Try.func30, Try.ntmps30
  go_wp2_with fail
  refine wp_region_noPanic ?_
  refine wp_region_held_drew (S := fun W => W = w.drew) (by kernel_rfl) rfl (fun h0 => ?_)
  refine wpAnyH_take (i := 0) (v := .slice A' p.length c') rfl (by kernel_rfl) (by kernel_rfl) (by kernel_rfl) (fun _ _ _ h => h) (Or.inl ⟨by rfl, fun W hW => by rfl⟩) h0 ?_
  try simp only [Act.put, List.getElem?_toArray, List.getElem_toArray, List.getElem_cons_zero, List.getElem_cons_succ, List.setIfInBounds_toArray, List.set_cons_zero, List.set_cons_succ]
  refine wpAnyH_take (i := 1) (v := .int .i64 (p.length : Int)) rfl (by kernel_rfl) (by kernel_rfl) (by kernel_rfl) (fun _ _ _ h => h) (Or.inl ⟨by rfl, fun W hW => by go_simp⟩) h0 ?_
  try simp only [Act.put, List.getElem?_toArray, List.getElem_toArray, List.getElem_cons_zero, List.getElem_cons_succ, List.setIfInBounds_toArray, List.set_cons_zero, List.set_cons_succ]
  refine wpAnyH_take (i := 2) (v := .slice A b.length c) rfl (by kernel_rfl) (by kernel_rfl) (by kernel_rfl) (fun _ _ _ h => h) (Or.inl ⟨by rfl, fun W hW => by rfl⟩) h0 ?_
  try simp only [Act.put, List.getElem?_toArray, List.getElem_toArray, List.getElem_cons_zero, List.getElem_cons_succ, List.setIfInBounds_toArray, List.set_cons_zero, List.set_cons_succ]
  refine wpAnyH_take (i := 3) (v := .int .i64 (b.length : Int)) rfl (by kernel_rfl) (by kernel_rfl) (by kernel_rfl) (fun _ _ _ h => h) (Or.inl ⟨by rfl, fun W hW => by go_simp⟩) h0 ?_
  try simp only [Act.put, List.getElem?_toArray, List.getElem_toArray, List.getElem_cons_zero, List.getElem_cons_succ, List.setIfInBounds_toArray, List.set_cons_zero, List.set_cons_succ]
  refine wpAnyH_take (i := 4) (v := .bool true) rfl (by kernel_rfl) (by kernel_rfl) (by kernel_rfl) (fun _ _ _ h => h) (Or.inl ⟨by rfl, fun W hW => by go_simp⟩) h0 ?_
  try simp only [Act.put, List.getElem?_toArray, List.getElem_toArray, List.getElem_cons_zero, List.getElem_cons_succ, List.setIfInBounds_toArray, List.set_cons_zero, List.set_cons_succ]
  refine wpAnyH_take (i := 5) (v := .bool true) rfl (by kernel_rfl) (by kernel_rfl) (by kernel_rfl) (fun _ _ _ h => h) (Or.inl ⟨by rfl, fun W hW => by rfl⟩) h0 ?_
  try simp only [Act.put, List.getElem?_toArray, List.getElem_toArray, List.getElem_cons_zero, List.getElem_cons_succ, List.setIfInBounds_toArray, List.set_cons_zero, List.set_cons_succ]
  refine wpAnyH_take (i := 6) (v := .slice A b.length c) rfl (by kernel_rfl) (by kernel_rfl) (by kernel_rfl) (fun _ _ _ h => h) (Or.inl ⟨by rfl, fun W hW => by rfl⟩) h0 ?_
  try simp only [Act.put, List.getElem?_toArray, List.getElem_toArray, List.getElem_cons_zero, List.getElem_cons_succ, List.setIfInBounds_toArray, List.set_cons_zero, List.set_cons_succ]
  refine wpAnyH_take (i := 7) (v := .slice A' p.length c') rfl (by kernel_rfl) (by kernel_rfl) (by kernel_rfl) (fun _ _ _ h => h) (Or.inl ⟨by rfl, fun W hW => by rfl⟩) h0 ?_
  try simp only [Act.put, List.getElem?_toArray, List.getElem_toArray, List.getElem_cons_zero, List.getElem_cons_succ, List.setIfInBounds_toArray, List.set_cons_zero, List.set_cons_succ]
  refine wpAnyH_take (i := 8) (v := .int .i64 (p.length : Int)) rfl (by kernel_rfl) (by kernel_rfl) (by kernel_rfl) (fun _ _ _ h => h) (Or.inl ⟨by rfl, fun W hW => by go_simp⟩) h0 ?_
  try simp only [Act.put, List.getElem?_toArray, List.getElem_toArray, List.getElem_cons_zero, List.getElem_cons_succ, List.setIfInBounds_toArray, List.set_cons_zero, List.set_cons_succ]
  refine wpAnyH_take (i := 9) (v := .slice A p.length c) rfl (by kernel_rfl) (by kernel_rfl) (by kernel_rfl) (fun _ _ _ h => h) (Or.inl ⟨by rfl, fun W hW => by go_simp⟩) h0 ?_
  try simp only [Act.put, List.getElem?_toArray, List.getElem_toArray, List.getElem_cons_zero, List.getElem_cons_succ, List.setIfInBounds_toArray, List.set_cons_zero, List.set_cons_succ]
  refine wpAnyH_take (i := 10) (v := .string ⟨p.toArray⟩) rfl (by kernel_rfl) (by kernel_rfl) (by kernel_rfl) (fun _ _ _ h => h) (Or.inl ⟨by rfl, fun W hW => by subst hW; have hz := conv_str A c p w.drew Hz1.out; go_simp⟩) h0 ?_
  try simp only [Act.put, List.getElem?_toArray, List.getElem_toArray, List.getElem_cons_zero, List.getElem_cons_succ, List.setIfInBounds_toArray, List.set_cons_zero, List.set_cons_succ]
  refine wpAnyH_take (i := 11) (v := .slice A' p.length c') rfl (by kernel_rfl) (by kernel_rfl) (by kernel_rfl) (fun _ _ _ h => h) (Or.inl ⟨by rfl, fun W hW => by rfl⟩) h0 ?_
  try simp only [Act.put, List.getElem?_toArray, List.getElem_toArray, List.getElem_cons_zero, List.getElem_cons_succ, List.setIfInBounds_toArray, List.set_cons_zero, List.set_cons_succ]
  refine wpAnyH_take (i := 12) (v := .string ⟨p.toArray⟩) rfl (by kernel_rfl) (by kernel_rfl) (by kernel_rfl) (fun _ _ _ h => h) (Or.inl ⟨by rfl, fun W hW => by subst hW; have hz := conv_str A' c' p w.drew Hz2.out; go_simp⟩) h0 ?_
  try simp only [Act.put, List.getElem?_toArray, List.getElem_toArray, List.getElem_cons_zero, List.getElem_cons_succ, List.setIfInBounds_toArray, List.set_cons_zero, List.set_cons_succ]
  refine wpAnyH_take (i := 13) (v := .bool true) rfl (by kernel_rfl) (by kernel_rfl) (by kernel_rfl) (fun _ _ _ h => h) (Or.inl ⟨by rfl, fun W hW => by go_simp⟩) h0 ?_
  try simp only [Act.put, List.getElem?_toArray, List.getElem_toArray, List.getElem_cons_zero, List.getElem_cons_succ, List.setIfInBounds_toArray, List.set_cons_zero, List.set_cons_succ]
  refine wpAnyH_take (i := 14) (v := .bool true) rfl (by kernel_rfl) (by kernel_rfl) (by kernel_rfl) (fun _ _ _ h => h) (Or.inl ⟨by rfl, fun W hW => by go_simp⟩) h0 ?_
  try simp only [Act.put, List.getElem?_toArray, List.getElem_toArray, List.getElem_cons_zero, List.getElem_cons_succ, List.setIfInBounds_toArray, List.set_cons_zero, List.set_cons_succ]
  refine wpAnyH_take (i := 15) (v := .bool true) rfl (by kernel_rfl) (by kernel_rfl) (by kernel_rfl) (fun _ _ _ h => h) (Or.inl ⟨by rfl, fun W hW => by go_simp⟩) h0 ?_
  try simp only [Act.put, List.getElem?_toArray, List.getElem_toArray, List.getElem_cons_zero, List.getElem_cons_succ, List.setIfInBounds_toArray, List.set_cons_zero, List.set_cons_succ]
  refine wpAnyH_done (by kernel_rfl) ?_ _
  refine NoPanic.normal ?_
  go_wp2_with fail
  go_ret
  exact ⟨rfl, ⟨rfl, rfl, rfl, Nat.le_refl _, fun _ _ => rfl⟩⟩
set_option maxRecDepth 100000 in
set_option maxHeartbeats 8000000 in
theorem idem_walk (A A' : Option Addr) (c c' : Nat) (d : Dk) (keep more : Int) (w : World) (hi : InD w A A' c c' d) :
    Calls Try.prog 9 #[.agg (dkCells A A' c c' d), .int .i64 keep, .int .i64 more] w fun e w' => e = .returned (.bool true) ∧ Below w.heap.size w w' := by
  have Hi := Lib.hid hi
  have b0 := heap_alloc_new w (.cells (dkCells A A' c c' d) 27)
  have hB0 := fw_new w (.cells (dkCells A A' c c' d) 27)
  clear hi
  go_enter Try.func9, Try.ntmps9
  go_wp2_with fail
  refine (sane_any _).mono ?_
  rintro e W1 ⟨rfl, hb1⟩
  have hP1 := blk_below b0 hb1
  have hB1 := fw_trans hB0 hb1
  clear b0 hB0 hb1
  go_wp2_with (first | (refine wpList_load_row rfl 27 (.tmp 3) rfl (w.heap.size) rfl 27 (dkCells A A' c c' d) (0, 0) _ hP1 Try.underlying27 rfl dk_size ?_))
  refine (few_any A A' c c' d W1).mono ?_
  rintro e W2 ⟨fw, rfl, hfw, hb2⟩
  have hP2 := blk_below hP1 hb2
  have hB2 := fw_trans hB1 hb2
  clear hP1 hB1 hb2
  cases fw with
  | false =>
    clear hfw
    go_wp2_with fail
    go_ret
    exact ⟨rfl, hB2⟩
  | true =>
    obtain ⟨hd4, hv4⟩ := hfw rfl
    clear hfw
    by_cases g1 : keep < 0
    · have g1' : (keep < 0) = True := eq_true g1
      go_wp2_with fail
      go_ret
      exact ⟨rfl, hB2⟩
    have g1' : (keep < 0) = False := eq_false g1
    by_cases g2 : more < 0
    · have g2' : (more < 0) = True := eq_true g2
      go_wp2_with fail
      go_ret
      exact ⟨rfl, hB2⟩
    have g2' : (more < 0) = False := eq_false g2
    by_cases g3 : (100000 : Int) < more
    · have g3' : ((100000 : Int) < more) = True := eq_true g3
      go_wp2_with fail
      go_ret
      exact ⟨rfl, hB2⟩
    have g3' : ((100000 : Int) < more) = False := eq_false g3
    by_cases g4 : (100000 : Int) < keep
    · have g4' : ((100000 : Int) < keep) = True := eq_true g4
      go_wp2_with fail
      go_ret
      exact ⟨rfl, hB2⟩
    have g4' : ((100000 : Int) < keep) = False := eq_false g4
    cases hrd : readE d with
    | error k =>
      have hk := readE_err hrd
      have hk' : ((k : Int) != 0) = true := by simpa using hk
      have hce : crashE d keep = (dkZ, k) := by unfold crashE; rw [hrd]
      go_wp2_with (first | (refine wpList_load_row rfl 27 (.tmp 3) rfl (w.heap.size) rfl 27 (dkCells A A' c c' d) (0, 0) _ hP2 Try.underlying27 rfl dk_size ?_))
      refine (crash_any A A' c c' d keep W2 (by omega) (by omega) (Hi.out.below hB2)).mono ?_
      intro e W3 hh
      rw [hce] at hh
      obtain ⟨A1, A2, c1, c2, rfl, hD3, hb3⟩ := hh
      have hB3 := fw_trans hB2 hb3
      have HD3 := Lib.hid hD3
      clear hD3 hb3 hrd hce hk
      go_wp2_with (first | (refine wpList_store_new rfl 27 (.tmp 7) (.tmp 40) rfl (dkCells A1 A2 c1 c2 dkZ) rfl rfl 27 _ dk_size rfl (dk_one _ _ _ _ _) ?_; intro W4 hb4 hv4; have hB4 := fw_trans hB3 hb4; have HD4 := Lib.hid (HD3.out.below hb4)) | (refine wpList_load_row rfl 27 (.tmp 7) rfl (W3.heap.size) rfl 27 (dkCells A1 A2 c1 c2 dkZ) (0, 0) _ hv4 Try.underlying27 rfl dk_size ?_))
      refine (same_any A1 A2 none none c1 c2 0 0 dkZ W4 HD4.out (InD.zero _)).mono ?_
      rintro e W5 ⟨rfl, hb5⟩
      go_wp2_with fail
      go_ret
      exact ⟨rfl, fw_trans hB4 hb5⟩
    | ok ab =>
      obtain ⟨a, b⟩ := ab
      obtain ⟨X, Z, S, hc1, hc2, hc3, hc4, hdx, hxz, hzs, hsl⟩ := crash_law2 hrd (show 0 ≤ keep by omega) (show 0 ≤ more by omega)
      have hzl := hzs.length_le
      have hxl := hxz.length_le
      have HC1 := Lib.hid hc1
      have HC2 := Lib.hid hc2
      have HC3 := Lib.hid hc3
      have HC4 := Lib.hid hc4
      have HDX := Lib.hid hdx
      have HXZ := Lib.hid hxz
      have HZS := Lib.hid hzs
      have hsl8 : S.length ≤ 8000 := by omega
      clear hrd hc1 hc2 hc3 hc4 hdx hxz hzs hsl
      go_wp2_with (first | (refine wpList_load_row rfl 27 (.tmp 3) rfl (w.heap.size) rfl 27 (dkCells A A' c c' d) (0, 0) _ hP2 Try.underlying27 rfl dk_size ?_))
      refine (crash_any A A' c c' d keep W2 (by omega) (by omega) (Hi.out.below hB2)).mono ?_
      intro e W3 hh
      rw [HC1.out] at hh
      obtain ⟨A1, A2, c1, c2, rfl, hD3, hb3⟩ := hh
      have hP_w3 := blk_below hP2 hb3
      have hB_w3 := fw_trans hB2 hb3
      have HD_w3 := Lib.hid hD3
      clear hD3 hb3
      go_wp2_with (first | (refine wpList_store_new rfl 27 (.tmp 7) (.tmp 40) rfl (dkCells A1 A2 c1 c2 ⟨X, []⟩) rfl rfl 27 _ dk_size rfl (dk_one _ _ _ _ _) ?_; intro V3 hbv3 hv3; have hP_v3 := blk_below hP_w3 hbv3; have HD3_v3 := Lib.hid (HD_w3.out.below hbv3); have hB_v3 := fw_trans hB_w3 hbv3) | (refine wpList_load_row rfl 27 (.tmp 7) rfl (W3.heap.size) rfl 27 (dkCells A1 A2 c1 c2 ⟨X, []⟩) (0, 0) _ hv3 Try.underlying27 rfl dk_size ?_))
      refine (crash_any A1 A2 c1 c2 ⟨X, []⟩ more V3 (by simp only; omega) (by simp) HD3_v3.out).mono ?_
      intro e W4 hh
      rw [HC2.out] at hh
      obtain ⟨B1, B2, e1, e2, rfl, hD4, hb4⟩ := hh
      have hP_w4 := blk_below hP_v3 hb4
      have HD3_w4 := Lib.hid (HD3_v3.out.below hb4)
      have hV3_w4 := blk_below hv3 hb4
      have hB_w4 := fw_trans hB_v3 hb4
      have HD_w4 := Lib.hid hD4
      clear hD4 hb4
      go_wp2_with (first | (refine wpList_store_new rfl 27 (.tmp 9) (.tmp 51) rfl (dkCells B1 B2 e1 e2 ⟨X, []⟩) rfl rfl 27 _ dk_size rfl (dk_one _ _ _ _ _) ?_; intro V4 hbv4 hv4; have hP_v4 := blk_below hP_w4 hbv4; have HD3_v4 := Lib.hid (HD3_w4.out.below hbv4); have hV3_v4 := blk_below hV3_w4 hbv4; have HD4_v4 := Lib.hid (HD_w4.out.below hbv4); have hB_v4 := fw_trans hB_w4 hbv4) | (refine wpList_load_row rfl 27 (.tmp 3) rfl (w.heap.size) rfl 27 (dkCells A A' c c' d) (0, 0) _ hP_v4 Try.underlying27 rfl dk_size ?_))
      refine (crash_any A A' c c' d (keep + more) V4 (by omega) (by omega) (Hi.out.below hB_v4)).mono ?_
      intro e W5 hh
      rw [HC3.out] at hh
      obtain ⟨C1, C2, k1, k2, rfl, hD5, hb5⟩ := hh
      have hP_w5 := blk_below hP_v4 hb5
      have HD3_w5 := Lib.hid (HD3_v4.out.below hb5)
      have hV3_w5 := blk_below hV3_v4 hb5
      have HD4_w5 := Lib.hid (HD4_v4.out.below hb5)
      have hV4_w5 := blk_below hv4 hb5
      have hB_w5 := fw_trans hB_v4 hb5
      have HD_w5 := Lib.hid hD5
      clear hD5 hb5
      go_wp2_with (first | (refine wpList_store_new rfl 27 (.tmp 11) (.tmp 59) rfl (dkCells C1 C2 k1 k2 ⟨Z, []⟩) rfl rfl 27 _ dk_size rfl (dk_one _ _ _ _ _) ?_; intro V5 hbv5 hv5; have hP_v5 := blk_below hP_w5 hbv5; have HD3_v5 := Lib.hid (HD3_w5.out.below hbv5); have hV3_v5 := blk_below hV3_w5 hbv5; have HD4_v5 := Lib.hid (HD4_w5.out.below hbv5); have hV4_v5 := blk_below hV4_w5 hbv5; have HD5_v5 := Lib.hid (HD_w5.out.below hbv5); have hB_v5 := fw_trans hB_w5 hbv5) | (refine wpList_load_row rfl 27 (.tmp 3) rfl (w.heap.size) rfl 27 (dkCells A A' c c' d) (0, 0) _ hP_v5 Try.underlying27 rfl dk_size ?_))
      refine (sync_any A A' c c' d V5 (by omega) (by omega) (Hi.out.below hB_v5)).mono ?_
      intro e W6 hh
      rw [HC4.out] at hh
      obtain ⟨S1, S2, t1, t2, rfl, hD6, hb6⟩ := hh
      have hP_w6 := blk_below hP_v5 hb6
      have HD3_w6 := Lib.hid (HD3_v5.out.below hb6)
      have hV3_w6 := blk_below hV3_v5 hb6
      have HD4_w6 := Lib.hid (HD4_v5.out.below hb6)
      have hV4_w6 := blk_below hV4_v5 hb6
      have HD5_w6 := Lib.hid (HD5_v5.out.below hb6)
      have hV5_w6 := blk_below hv5 hb6
      have hB_w6 := fw_trans hB_v5 hb6
      have HD_w6 := Lib.hid hD6
      clear hD6 hb6
      go_wp2_with (first | (refine wpList_store_new rfl 27 (.tmp 13) (.tmp 64) rfl (dkCells S1 S2 t1 t2 ⟨S, []⟩) rfl rfl 27 _ dk_size rfl (dk_one _ _ _ _ _) ?_; intro V6 hbv6 hv6; have hP_v6 := blk_below hP_w6 hbv6; have HD3_v6 := Lib.hid (HD3_w6.out.below hbv6); have hV3_v6 := blk_below hV3_w6 hbv6; have HD4_v6 := Lib.hid (HD4_w6.out.below hbv6); have hV4_v6 := blk_below hV4_w6 hbv6; have HD5_v6 := Lib.hid (HD5_w6.out.below hbv6); have hV5_v6 := blk_below hV5_w6 hbv6; have HD6_v6 := Lib.hid (HD_w6.out.below hbv6); have hB_v6 := fw_trans hB_w6 hbv6; have s70 : V6.cell? ⟨W3.heap.size, 0, none⟩ = some (.slice A1 X.length c1) := cellOf hV3_v6 rfl; have s71 : V6.cell? ⟨W3.heap.size, 1, none⟩ = some (.slice A2 0 c2) := cellOf hV3_v6 rfl; have s90 : V6.cell? ⟨W4.heap.size, 0, none⟩ = some (.slice B1 X.length e1) := cellOf hV4_v6 rfl; have s91 : V6.cell? ⟨W4.heap.size, 1, none⟩ = some (.slice B2 0 e2) := cellOf hV4_v6 rfl))
      refine (same_any A1 A2 B1 B2 c1 c2 e1 e2 ⟨X, []⟩ V6 HD3_v6.out HD4_v6.out).mono ?_
      rintro e W7 ⟨rfl, hb7⟩
      have hP_w7 := blk_below hP_v6 hb7
      have HD3_w7 := Lib.hid (HD3_v6.out.below hb7)
      have hV3_w7 := blk_below hV3_v6 hb7
      have HD4_w7 := Lib.hid (HD4_v6.out.below hb7)
      have hV4_w7 := blk_below hV4_v6 hb7
      have HD5_w7 := Lib.hid (HD5_v6.out.below hb7)
      have hV5_w7 := blk_below hV5_v6 hb7
      have HD6_w7 := Lib.hid (HD6_v6.out.below hb7)
      have hV6_w7 := blk_below hv6 hb7
      have hB_w7 := fw_trans hB_v6 hb7
      have u70 : W7.cell? ⟨W3.heap.size, 0, none⟩ = some (.slice A1 X.length c1) := cellOf hV3_w7 rfl
      have u30 : W7.cell? ⟨w.heap.size, 0, none⟩ = some (.slice A d.dur.length c) := cellOf hP_w7 rfl
      clear s70 s71 s90 s91
      go_wp2_with fail
      refine (begins_any HD3_w7.out.b1 (Hi.out.below hB_w7).b1 HDX.out).mono ?_
      rintro e W8 ⟨rfl, hb8⟩
      have hP_w8 := blk_below hP_w7 hb8
      have HD3_w8 := Lib.hid (HD3_w7.out.below hb8)
      have hV3_w8 := blk_below hV3_w7 hb8
      have HD4_w8 := Lib.hid (HD4_w7.out.below hb8)
      have hV4_w8 := blk_below hV4_w7 hb8
      have HD5_w8 := Lib.hid (HD5_w7.out.below hb8)
      have hV5_w8 := blk_below hV5_w7 hb8
      have HD6_w8 := Lib.hid (HD6_w7.out.below hb8)
      have hV6_w8 := blk_below hV6_w7 hb8
      have hB_w8 := fw_trans hB_w7 hb8
      have r70 : W8.cell? ⟨W3.heap.size, 0, none⟩ = some (.slice A1 X.length c1) := cellOf hV3_w8 rfl
      have r11 : W8.cell? ⟨W5.heap.size, 0, none⟩ = some (.slice C1 Z.length k1) := cellOf hV5_w8 rfl
      clear u70 u30
      go_wp2_with fail
      refine (begins_any HD5_w8.out.b1 HD3_w8.out.b1 HXZ.out).mono ?_
      rintro e W9 ⟨rfl, hb9⟩
      have hP_w9 := blk_below hP_w8 hb9
      have HD3_w9 := Lib.hid (HD3_w8.out.below hb9)
      have hV3_w9 := blk_below hV3_w8 hb9
      have HD4_w9 := Lib.hid (HD4_w8.out.below hb9)
      have hV4_w9 := blk_below hV4_w8 hb9
      have HD5_w9 := Lib.hid (HD5_w8.out.below hb9)
      have hV5_w9 := blk_below hV5_w8 hb9
      have HD6_w9 := Lib.hid (HD6_w8.out.below hb9)
      have hV6_w9 := blk_below hV6_w8 hb9
      have hB_w9 := fw_trans hB_w8 hb9
      have q13 : W9.cell? ⟨W6.heap.size, 0, none⟩ = some (.slice S1 S.length t1) := cellOf hV6_w9 rfl
      have q11 : W9.cell? ⟨W5.heap.size, 0, none⟩ = some (.slice C1 Z.length k1) := cellOf hV5_w9 rfl
      clear r70 r11
      go_wp2_with fail
      refine (begins_any HD6_w9.out.b1 HD5_w9.out.b1 HZS.out).mono ?_
      rintro e W10 ⟨rfl, hb10⟩
      have hBf := fw_trans hB_w9 hb10
      clear q13 q11 HC1 HC2 HC3 HC4 HDX HXZ HZS hsl8 hzl hxl hd4 hv4 hb10 hB2 hP2 hB_w9 hP_w9 HD3_w9 hV3_w9 HD4_w9 hV4_w9 HD5_w9 hV5_w9 HD6_w9 hV6_w9
      go_wp2_with fail
      go_ret
      exact ⟨rfl, hBf⟩
end Go.Proofs.Ytaoiklfkkipcaaa
