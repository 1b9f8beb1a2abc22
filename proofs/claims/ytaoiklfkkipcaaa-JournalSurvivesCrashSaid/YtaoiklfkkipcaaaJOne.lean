import Derived.Test.YtaoiklfkkipcaaaJRound
import Derived.Test.YtaoiklfkkipcaaaJRows
import Derived.Test.YtaoiklfkkipcaaaJIdem
set_option linter.unusedSimpArgs false
set_option linter.unusedVariables false
namespace Go.Proofs.Ytaoiklfkkipcaaa
open Go Go.RowKit Hd Go.Mem

theorem flatR_one (rs : List Rc) : ∀ u ∈ flatR rs, u.oneCell' = true := by
  intro u hu
  simp only [flatR, List.mem_flatMap] at hu
  obtain ⟨r, _, h⟩ := hu
  have := rc_one r
  rw [Array.all_eq_true'] at this
  exact this u (by simpa using h)
/-- what Append does to a disk with room -/
theorem app_law {d : Dk} {r : Rc} {a b : List Rc} (h : readE d = .ok (a, b)) (hr : r.ok) (hn : a.length + b.length < 1024) (hp : r.payer.length ≤ 15) :
    ∃ X S, appE d r = (X, 0) ∧ readE X = .ok (a, b ++ [r]) ∧ syncE X = (S, 0) ∧ readE S = .ok (a ++ (b ++ [r]), []) ∧ X.dur.length + X.vol.length ≤ d.dur.length + d.vol.length + 10000 ∧ S.dur.length + S.vol.length ≤ d.dur.length + d.vol.length + 10000 := by
  obtain ⟨_, rfl, rfl, hd, hv⟩ := readE_ok h
  have h1 := recsR_push hv hr hp
  have h2 := recs_join hd h1.2
  have hfl : (frame (encRec r)).length ≤ 10000 := by
    have h3 := (sealed_length (encRec r) (fcs (encRec r))).2
    have h4 := encRec_len r hr (by omega)
    unfold frame
    omega
  have hX : readE ⟨d.dur, d.vol ++ frame (encRec r)⟩ = .ok (recsR d.dur, recsR d.vol ++ [r]) := by
    unfold readE
    simp only
    rw [h1.1, if_neg (by rw [h1.2, hd]; simp), if_neg (by simp; omega)]
  refine ⟨⟨d.dur, d.vol ++ frame (encRec r)⟩, ⟨d.dur ++ (d.vol ++ frame (encRec r)), []⟩, ?_, hX, ?_, ?_, by simp; omega, by simp; omega⟩
  · unfold appE
    rw [h]
    simp only
    rw [if_neg (by omega), if_neg (by omega)]
  · unfold syncE
    rw [hX]
  · unfold readE
    simp only
    rw [h2.1, h1.1, h2.2, recsR_nil, if_neg (by simp [recsN_nil]), if_neg (by simp; omega)]
theorem app_bad {d : Dk} {r : Rc} (h : (∃ k, readE d = .error k) ∨ (∃ a b, readE d = .ok (a, b) ∧ 1024 ≤ a.length + b.length)) : ∃ k, appE d r = (dkZ, k) ∧ k ≠ 0 := by
  rcases h with ⟨k, h⟩ | ⟨a, b, h, hn⟩
  · exact ⟨k, by unfold appE; rw [h], readE_err h⟩
  · have := (readE_ok h).1
    unfold appE
    rw [h]
    simp only
    by_cases h15 : 15 < r.payer.length
    · exact ⟨1, by rw [if_pos h15], by simp⟩
    · exact ⟨2, by rw [if_neg h15, if_pos (by omega)], by simp⟩
theorem app_pay {d : Dk} {r : Rc} {a b : List Rc} (h : readE d = .ok (a, b)) (h15 : 15 < r.payer.length) : appE d r = (dkZ, 1) := by
  unfold appE
  rw [h]
  simp only
  rw [if_pos h15]
set_option maxRecDepth 100000 in
set_option maxHeartbeats 8000000 in
theorem one_walk (A A' : Option Addr) (c c' : Nat) (d : Dk) (r : Rc) (w : World) (hi : InD w A A' c c' d) (hr : r.ok ∧ r.payer.length ≤ maxLen) :
    Calls Try.prog 6 #[.agg (dkCells A A' c c' d), .agg (rcCells r)] w fun e w' => e = .returned (.bool true) ∧ Below w.heap.size w w' := by
  have Hi := Lib.hid hi
  obtain ⟨hok, hpm⟩ := hr
  have Hok := Lib.hid hok
  unfold maxLen at hpm
  have b0 := blk_second w (.cells (dkCells A A' c c' d) 27) (.cells (rcCells r) 38)
  have b1 := heap_alloc2_new w (.cells (dkCells A A' c c' d) 27) (.cells (rcCells r) 38)
  have hB0 : Below w.heap.size w ((w.alloc (.cells (dkCells A A' c c' d) 27)).alloc (.cells (rcCells r) 38)) := fw_al (fw_new _ _) _
  clear hi hok
  go_enter Try.func6, Try.ntmps6
  go_wp2_with fail
  refine (sane_any _).mono ?_
  rintro e W1 ⟨rfl, hb1⟩
  have hP1 := blk_below b0 hb1
  have hF1 := blk_below b1 hb1
  have hB1 := fw_trans hB0 hb1
  clear b0 b1 hB0 hb1
  go_wp2_with (first | (refine wpList_load_row rfl 27 (.tmp 2) rfl (w.heap.size) rfl 27 (dkCells A A' c c' d) (0, 0) _ hP1 Try.underlying27 rfl dk_size ?_))
  refine (few_any A A' c c' d W1).mono ?_
  rintro e W2 ⟨fw, rfl, hfw, hb2⟩
  have hP2 := blk_below hP1 hb2
  have hF2 := blk_below hF1 hb2
  have hB2 := fw_trans hB1 hb2
  have r3 : W2.cell? ⟨w.heap.size + 1, 3, none⟩ = some (.string ⟨r.payer.toArray⟩) := cellOf hF2 rfl
  clear hP1 hF1 hB1 hb2
  cases fw with
  | false =>
    clear hfw
    go_wp2_with fail
    go_ret
    exact ⟨rfl, hB2⟩
  | true =>
    obtain ⟨hd4, hv4⟩ := hfw rfl
    clear hfw
    by_cases h300 : 300 < r.payer.length
    · have g3 : ((300 : Int) < (r.payer.length : Int)) = True := eq_true (by omega)
      go_wp2_with fail
      go_ret
      exact ⟨rfl, hB2⟩
    have g3 : ((300 : Int) < (r.payer.length : Int)) = False := eq_false (by omega)
    cases hrd : readE d with
    | error k =>
      have hk' : ((k : Int) != 0) = true := by have := readE_err hrd; simpa using this
      obtain ⟨q, hq, hq0⟩ := app_bad (r := r) (.inl ⟨k, hrd⟩)
      have hq' : ((q : Int) != 0) = true := by simpa using hq0
      have HQ := Lib.hid hq
      have HR := Lib.hid (fun W h => read_er hrd A A' c c' W (by omega) (by omega) h)
      clear hrd hq hq0
      go_wp2_with (first | (refine wpList_load_row rfl 27 (.tmp 2) rfl (w.heap.size) rfl 27 (dkCells A A' c c' d) (0, 0) _ hP2 Try.underlying27 rfl dk_size ?_))
      refine (HR.out _ (Hi.out.below hB2)).mono ?_
      rintro e W3 ⟨rfl, hb3⟩
      have hP3 := blk_below hP2 hb3
      have hF3 := blk_below hF2 hb3
      have hB3 := fw_trans hB2 hb3
      clear hP2 hF2 hB2 hb3 r3
      go_wp2_with (first | (refine wpList_load_row rfl 27 (.tmp 2) rfl (w.heap.size) rfl 27 (dkCells A A' c c' d) (0, 0) _ hP3 Try.underlying27 rfl dk_size ?_) | (refine wpList_load_row rfl 38 (.tmp 3) rfl (w.heap.size + 1) rfl 38 (rcCells r) (0, 0) _ hF3 Try.underlying38 rfl rc_size ?_))
      refine (append_any A A' c c' d r W3 (by omega) (by omega) (by omega) Hok.out (Hi.out.below hB3)).mono ?_
      intro e W4 hh
      rw [HQ.out] at hh
      obtain ⟨B1, B2, e1, e2, rfl, _, hb4⟩ := hh
      have hB4 := fw_trans hB3 hb4
      clear HQ HR hb4 hB3 hP3 hF3
      go_wp2_with (first | (refine wpList_store_new rfl 27 (.tmp 8) (.tmp 40) rfl (dkCells B1 B2 e1 e2 dkZ) rfl rfl 27 _ dk_size rfl (dk_one _ _ _ _ _) ?_; intro W5 hb5 hv5; have hB5 := fw_trans hB4 hb5))
      go_ret
      exact ⟨rfl, hB5⟩
    | ok ab =>
      obtain ⟨a, b⟩ := ab
      have hab := (readE_ok hrd).1
      by_cases hn : 1024 ≤ a.length + b.length
      · have gn : ((1024 : Int) ≤ (a.length : Int) + (b.length : Int)) = True := eq_true (by omega)
        obtain ⟨q, hq, hq0⟩ := app_bad (r := r) (.inr ⟨a, b, hrd, hn⟩)
        have hq' : ((q : Int) != 0) = true := by simpa using hq0
        have HQ := Lib.hid hq
        clear hq hq0
        have HR := Lib.hid (fun W h => read_ok hrd A A' c c' W (by omega) (by omega) h)
        clear hrd
        go_wp2_with (first | (refine wpList_load_row rfl 27 (.tmp 2) rfl (w.heap.size) rfl 27 (dkCells A A' c c' d) (0, 0) _ hP2 Try.underlying27 rfl dk_size ?_))
        refine (HR.out _ (Hi.out.below hB2)).mono ?_
        rintro e W3 ⟨A1, c1, A2, c2, rfl, hra, hrb, hb3⟩
        have HIa := Lib.hid (RowR.inR hra)
        have HIb := Lib.hid (RowR.inR hrb)
        have hP3 := blk_below hP2 hb3
        have hF3 := blk_below hF2 hb3
        have hB3 := fw_trans hB2 hb3
        clear hP2 hF2 hB2 hb3 r3 hra hrb HR
        go_wp2_with (first | (refine wpList_load_row rfl 27 (.tmp 2) rfl (w.heap.size) rfl 27 (dkCells A A' c c' d) (0, 0) _ hP3 Try.underlying27 rfl dk_size ?_) | (refine wpList_load_row rfl 38 (.tmp 3) rfl (w.heap.size + 1) rfl 38 (rcCells r) (0, 0) _ hF3 Try.underlying38 rfl rc_size ?_))
        refine (append_any A A' c c' d r W3 (by omega) (by omega) (by omega) Hok.out (Hi.out.below hB3)).mono ?_
        intro e W4 hh
        rw [HQ.out] at hh
        obtain ⟨B1, B2, e1, e2, rfl, _, hb4⟩ := hh
        have hF4 := blk_below hF3 hb4
        have hB4 := fw_trans hB3 hb4
        clear HQ hb4 hB3 hP3 hF3
        go_wp2_with (first | (refine wpList_store_new rfl 27 (.tmp 8) (.tmp 40) rfl (dkCells B1 B2 e1 e2 dkZ) rfl rfl 27 _ dk_size rfl (dk_one _ _ _ _ _) ?_; intro W5 hb5 hv5; have hB5 := fw_trans hB4 hb5; have z3 : W5.cell? ⟨w.heap.size + 1, 3, none⟩ = some (.string ⟨r.payer.toArray⟩) := cellOf (blk_below hF4 hb5) rfl))
        go_ret
        exact ⟨rfl, hB5⟩
      have gn : ((1024 : Int) ≤ (a.length : Int) + (b.length : Int)) = False := eq_false (by omega)
      by_cases h15 : 15 < r.payer.length
      · have g15 : ((15 : Int) < (r.payer.length : Int)) = True := eq_true (by omega)
        have HQ := Lib.hid (app_pay hrd h15)
        have HR := Lib.hid (fun W h => read_ok hrd A A' c c' W (by omega) (by omega) h)
        clear hrd
        go_wp2_with (first | (refine wpList_load_row rfl 27 (.tmp 2) rfl (w.heap.size) rfl 27 (dkCells A A' c c' d) (0, 0) _ hP2 Try.underlying27 rfl dk_size ?_))
        refine (HR.out _ (Hi.out.below hB2)).mono ?_
        rintro e W3 ⟨A1, c1, A2, c2, rfl, hra, hrb, hb3⟩
        have HIa := Lib.hid (RowR.inR hra)
        have HIb := Lib.hid (RowR.inR hrb)
        have hP3 := blk_below hP2 hb3
        have hF3 := blk_below hF2 hb3
        have hB3 := fw_trans hB2 hb3
        clear hP2 hF2 hB2 hb3 r3 hra hrb HR
        go_wp2_with (first | (refine wpList_load_row rfl 27 (.tmp 2) rfl (w.heap.size) rfl 27 (dkCells A A' c c' d) (0, 0) _ hP3 Try.underlying27 rfl dk_size ?_) | (refine wpList_load_row rfl 38 (.tmp 3) rfl (w.heap.size + 1) rfl 38 (rcCells r) (0, 0) _ hF3 Try.underlying38 rfl rc_size ?_))
        refine (append_any A A' c c' d r W3 (by omega) (by omega) (by omega) Hok.out (Hi.out.below hB3)).mono ?_
        intro e W4 hh
        rw [HQ.out] at hh
        obtain ⟨B1, B2, e1, e2, rfl, _, hb4⟩ := hh
        have hF4 := blk_below hF3 hb4
        have hB4 := fw_trans hB3 hb4
        clear HQ hb4 hB3 hP3 hF3
        go_wp2_with (first | (refine wpList_store_new rfl 27 (.tmp 8) (.tmp 40) rfl (dkCells B1 B2 e1 e2 dkZ) rfl rfl 27 _ dk_size rfl (dk_one _ _ _ _ _) ?_; intro W5 hb5 hv5; have hB5 := fw_trans hB4 hb5; have z3 : W5.cell? ⟨w.heap.size + 1, 3, none⟩ = some (.string ⟨r.payer.toArray⟩) := cellOf (blk_below hF4 hb5) rfl))
        go_ret
        exact ⟨rfl, hB5⟩
      obtain ⟨X, S, hX, hrX, hS, hrS, hXl, hSl⟩ := app_law hrd Hok.out (by omega) (by omega)
      have HQ := Lib.hid hX
      have HS := Lib.hid hS
      have hal : (a ++ (b ++ [r])).length ≤ 2000 := by simp; omega
      have hbl : (b ++ [r]).length ≤ 2000 := by simp; omega
      have hfb : flatR (b ++ [r]) = flatR b ++ (rcCells r).toList := flatR_snoc b r
      have hfa : flatR (a ++ (b ++ [r])) = flatR a ++ flatR (b ++ [r]) := by simp [flatR]
      have hlb : (b ++ [r]).length = b.length + 1 := by simp
      have hla : (a ++ (b ++ [r])).length = a.length + (b ++ [r]).length := by simp
      have HRX := Lib.hid (fun (A1 A2 : Option Addr) (c1 c2 : Nat) W h => read_ok hrX A1 A2 c1 c2 W (by omega) (by omega) h)
      have HRS := Lib.hid (fun (A1 A2 : Option Addr) (c1 c2 : Nat) W h => read_ok hrS A1 A2 c1 c2 W (by omega) (by omega) h)
      generalize b ++ [r] = br at *
      generalize a ++ br = al at *
      have HFB := Lib.hid hfb
      have HFA := Lib.hid hfa
      have HLB := Lib.hid hlb
      have HLA := Lib.hid hla
      clear hX hS hrX hrS hfb hfa hlb hla
      have HR := Lib.hid (fun W h => read_ok hrd A A' c c' W (by omega) (by omega) h)
      clear hrd
      go_wp2_with (first | (refine wpList_load_row rfl 27 (.tmp 2) rfl (w.heap.size) rfl 27 (dkCells A A' c c' d) (0, 0) _ hP2 Try.underlying27 rfl dk_size ?_))
      refine (HR.out _ (Hi.out.below hB2)).mono ?_
      rintro e W3 ⟨A1, c1, A2, c2, rfl, hra, hrb, hb3⟩
      have HIa := Lib.hid (RowR.inR hra)
      have HIb := Lib.hid (RowR.inR hrb)
      have hP3 := blk_below hP2 hb3
      have hF3 := blk_below hF2 hb3
      have hB3 := fw_trans hB2 hb3
      clear hP2 hF2 hB2 hb3 r3 hra hrb HR
      go_wp2_with (first | (refine wpList_load_row rfl 27 (.tmp 2) rfl (w.heap.size) rfl 27 (dkCells A A' c c' d) (0, 0) _ hP3 Try.underlying27 rfl dk_size ?_) | (refine wpList_load_row rfl 38 (.tmp 3) rfl (w.heap.size + 1) rfl 38 (rcCells r) (0, 0) _ hF3 Try.underlying38 rfl rc_size ?_))
      refine (append_any A A' c c' d r W3 (by omega) (by omega) (by omega) Hok.out (Hi.out.below hB3)).mono ?_
      intro e W4 hh
      rw [HQ.out] at hh
      obtain ⟨B1, B2, e1, e2, rfl, hD4, hb4⟩ := hh
      have hP_w4 := blk_below hP3 hb4
      have hF_w4 := blk_below hF3 hb4
      have HIa_w4 := Lib.hid (HIa.out.below hb4)
      have HIb_w4 := Lib.hid (HIb.out.below hb4)
      have hB_w4 := fw_trans hB3 hb4
      clear hP3 hF3 HIa HIb hB3
      have HDX_w4 := Lib.hid hD4
      clear HQ hb4 hD4
      go_wp2_with (first | (refine wpList_store_new rfl 27 (.tmp 8) (.tmp 40) rfl (dkCells B1 B2 e1 e2 X) rfl rfl 27 _ dk_size rfl (dk_one _ _ _ _ _) ?_; intro W5 hb5 hv5; have hP_w5 := blk_below hP_w4 hb5; have hF_w5 := blk_below hF_w4 hb5; have HIa_w5 := Lib.hid (HIa_w4.out.below hb5); have HIb_w5 := Lib.hid (HIb_w4.out.below hb5); have HDX_w5 := Lib.hid (HDX_w4.out.below hb5); have hB_w5 := fw_trans hB_w4 hb5; clear hP_w4 hF_w4 HIa_w4 HIb_w4 HDX_w4 hB_w4) | (refine wpList_load_row rfl 27 (.tmp 8) rfl (W4.heap.size) rfl 27 (dkCells B1 B2 e1 e2 X) (0, 0) _ hv5 Try.underlying27 rfl dk_size ?_))
      refine (HRX.out B1 B2 e1 e2 W5 HDX_w5.out).mono ?_
      rintro e W6 ⟨A3, c3, A4, c4, rfl, hrc, hro, hb6⟩
      have hP_w6 := blk_below hP_w5 hb6
      have hF_w6 := blk_below hF_w5 hb6
      have HIa_w6 := Lib.hid (HIa_w5.out.below hb6)
      have HIb_w6 := Lib.hid (HIb_w5.out.below hb6)
      have HDX_w6 := Lib.hid (HDX_w5.out.below hb6)
      have hVX_w6 := blk_below hv5 hb6
      have hB_w6 := fw_trans hB_w5 hb6
      clear hP_w5 hF_w5 HIa_w5 HIb_w5 HDX_w5 hv5 hB_w5
      have HIc_w6 := Lib.hid (RowR.inR hrc)
      have HIo_w6 := Lib.hid (RowR.inR hro)
      clear hrc hro hb6
      go_wp2_with (first | (refine wpList_load_row rfl 27 (.tmp 8) rfl (W4.heap.size) rfl 27 (dkCells B1 B2 e1 e2 X) (0, 0) _ hVX_w6 Try.underlying27 rfl dk_size ?_))
      refine (sync_any B1 B2 e1 e2 X W6 (by omega) (by omega) HDX_w6.out).mono ?_
      intro e W7 hh
      rw [HS.out] at hh
      obtain ⟨C1, C2, k1, k2, rfl, hD7, hb7⟩ := hh
      have hP_w7 := blk_below hP_w6 hb7
      have hF_w7 := blk_below hF_w6 hb7
      have HIa_w7 := Lib.hid (HIa_w6.out.below hb7)
      have HIb_w7 := Lib.hid (HIb_w6.out.below hb7)
      have HDX_w7 := Lib.hid (HDX_w6.out.below hb7)
      have hVX_w7 := blk_below hVX_w6 hb7
      have HIc_w7 := Lib.hid (HIc_w6.out.below hb7)
      have HIo_w7 := Lib.hid (HIo_w6.out.below hb7)
      have hB_w7 := fw_trans hB_w6 hb7
      clear hP_w6 hF_w6 HIa_w6 HIb_w6 HDX_w6 hVX_w6 HIc_w6 HIo_w6 hB_w6
      have HDS_w7 := Lib.hid hD7
      clear hD7 hb7 HS
      go_wp2_with (first | (refine wpList_store_new rfl 27 (.tmp 13) (.tmp 73) rfl (dkCells C1 C2 k1 k2 S) rfl rfl 27 _ dk_size rfl (dk_one _ _ _ _ _) ?_; intro W8 hb8 hv8; have hP_w8 := blk_below hP_w7 hb8; have hF_w8 := blk_below hF_w7 hb8; have HIa_w8 := Lib.hid (HIa_w7.out.below hb8); have HIb_w8 := Lib.hid (HIb_w7.out.below hb8); have HDX_w8 := Lib.hid (HDX_w7.out.below hb8); have hVX_w8 := blk_below hVX_w7 hb8; have HIc_w8 := Lib.hid (HIc_w7.out.below hb8); have HIo_w8 := Lib.hid (HIo_w7.out.below hb8); have HDS_w8 := Lib.hid (HDS_w7.out.below hb8); have hB_w8 := fw_trans hB_w7 hb8; clear hP_w7 hF_w7 HIa_w7 HIb_w7 HDX_w7 hVX_w7 HIc_w7 HIo_w7 HDS_w7 hB_w7) | (refine wpList_load_row rfl 27 (.tmp 13) rfl (W7.heap.size) rfl 27 (dkCells C1 C2 k1 k2 S) (0, 0) _ hv8 Try.underlying27 rfl dk_size ?_))
      refine (HRS.out C1 C2 k1 k2 W8 HDS_w8.out).mono ?_
      rintro e W9 ⟨A5, c5, A6, c6, rfl, hrl, _, hb9⟩
      have hP_w9 := blk_below hP_w8 hb9
      have hF_w9 := blk_below hF_w8 hb9
      have HIa_w9 := Lib.hid (HIa_w8.out.below hb9)
      have HIb_w9 := Lib.hid (HIb_w8.out.below hb9)
      have HDX_w9 := Lib.hid (HDX_w8.out.below hb9)
      have hVX_w9 := blk_below hVX_w8 hb9
      have HIc_w9 := Lib.hid (HIc_w8.out.below hb9)
      have HIo_w9 := Lib.hid (HIo_w8.out.below hb9)
      have HDS_w9 := Lib.hid (HDS_w8.out.below hb9)
      have hVS_w9 := blk_below hv8 hb9
      have hB_w9 := fw_trans hB_w8 hb9
      clear hP_w8 hF_w8 HIa_w8 HIb_w8 HDX_w8 hVX_w8 HIc_w8 HIo_w8 HDS_w8 hv8 hB_w8
      have HIl_w9 := Lib.hid (RowR.inR hrl)
      clear hrl hb9 HRX HRS
      go_wp2_with fail
      refine wp_region_noPanic ?_
      have hd : Below W9.heap.size W9 W9.drew := ⟨rfl, rfl, rfl, Nat.le_refl _, fun _ _ => rfl⟩
      refine wp_region_held_drew (S := fun W => Below W9.heap.size W9 W) (by kernel_rfl) hd (fun h0 => ?_)
      refine wpAnyH_take (i := 0) (v := .slice A2 b.length c2) rfl (by kernel_rfl) (by kernel_rfl) (by kernel_rfl) (fun _ _ _ h => h) (Or.inl ⟨by rfl, fun W hW => by rfl⟩) h0 ?_
      try simp only [Act.put, List.getElem?_toArray, List.getElem_toArray, List.getElem_cons_zero, List.getElem_cons_succ, List.setIfInBounds_toArray, List.set_cons_zero, List.set_cons_succ]
      obtain ⟨rf, rl, rp, ry, rm, rt, ra, ru⟩ := r
      have hFr : W9.heap[w.heap.size + 1]? = some (.cells #[.int .i64 rf, .int .i64 rl, .int .i64 rp, .string ⟨ry.toArray⟩, .int .i64 rm, .int .i64 rt, .int .i64 ra, .int .i64 ru] 38 (0, 0)) := hF_w9
      refine wpAnyH_take (i := 2) (v := .agg #[.int .i64 rf, .int .i64 rl, .int .i64 rp, .string ⟨ry.toArray⟩, .int .i64 rm, .int .i64 rt, .int .i64 ra, .int .i64 ru]) rfl (by kernel_rfl) (by kernel_rfl) (by kernel_rfl) (fun _ _ _ h => h) (yieldsIf_load_blk (by rfl) 38 (.tmp 3) rfl (w.heap.size + 1) rfl 38 _ (0, 0) _ (fun W h => blk_below hFr h) Try.underlying38 rfl rc_size) h0 ?_
      try simp only [Act.put, List.getElem?_toArray, List.getElem_toArray, List.getElem_cons_zero, List.getElem_cons_succ, List.setIfInBounds_toArray, List.set_cons_zero, List.set_cons_succ]
      refine wpAnyH_ready (rs := [1, 3]) (by kernel_rfl) (by simp) ?_
      refine AllReadyH.cons rfl (fun K hK => ?_) (AllReadyH.cons rfl (fun K hK => ?_) AllReadyH.nil)
      · rw [if_pos (by rfl)]
        refine wp_app _ (.const (.slice none 0 0)) (.tmp 81) 22 rfl W9.heap.size 38 (.agg #[.int .i64 0, .int .i64 0, .int .i64 0, .string ⟨#[]⟩, .int .i64 0, .int .i64 0, .int .i64 0, .int .i64 0]) 8 72 Try.underlying22 info_rc rfl (by decide) (by decide) (.slice none 0 0) 0 [] rfl (World.ownsRow_nil _ _ _ _) A2 b.length c2 (flatR b) rfl (flatR_len b) HIb_w9.out.nil (HIb_w9.out.below h0).rd (flatR_one b) (by omega) h0.size ?_
        intro v2 W2' ho2 hg2 hat2
        have hb2 : Below W9.heap.size W9 W2' := h0.grown hg2 h0.size (fun k hk => by cases hk)
        refine hK.out _ _ hb2 (fun h2 => ?_)
        clear hK
        try simp only [Act.put, List.getElem?_toArray, List.getElem_toArray, List.getElem_cons_zero, List.getElem_cons_succ, List.setIfInBounds_toArray, List.set_cons_zero, List.set_cons_succ]
        refine wpAnyH_ready (rs := [3]) (by kernel_rfl) (by simp) ?_
        refine AllReadyH.cons rfl (fun K hK => ?_) AllReadyH.nil
        go_simp
        have h4' : Below W9.heap.size W9 (W2'.alloc (.cells #[.int .i64 rf, .int .i64 rl, .int .i64 rp, .string ⟨ry.toArray⟩, .int .i64 rm, .int .i64 rt, .int .i64 ra, .int .i64 ru] 38)) := fw_al h2 _
        have hown := own_below ho2 (fw_new W2' (.cells #[.int .i64 rf, .int .i64 rl, .int .i64 rp, .string ⟨ry.toArray⟩, .int .i64 rm, .int .i64 rt, .int .i64 ra, .int .i64 ru] 38))
        have hel := RdC.new W2' #[.int .i64 rf, .int .i64 rl, .int .i64 rp, .string ⟨ry.toArray⟩, .int .i64 rm, .int .i64 rt, .int .i64 ra, .int .i64 ru] 38 (0, 0)
        refine hK.out _ _ h4' (fun h4 => ?_)
        clear hK
        try simp only [Act.put, List.getElem?_toArray, List.getElem_toArray, List.getElem_cons_zero, List.getElem_cons_succ, List.setIfInBounds_toArray, List.set_cons_zero, List.set_cons_succ]
        refine wpAnyH_ready (rs := [4]) (by kernel_rfl) (by simp) ?_
        refine AllReadyH.cons rfl (fun K hK => ?_) AllReadyH.nil
        rw [if_pos (by rfl)]
        refine wp_app _ (.tmp 82) (.tmp 84) 22 rfl W9.heap.size 38 (.agg #[.int .i64 0, .int .i64 0, .int .i64 0, .string ⟨#[]⟩, .int .i64 0, .int .i64 0, .int .i64 0, .int .i64 0]) 8 72 Try.underlying22 info_rc rfl (by decide) (by decide) v2 (0 + b.length) ([] ++ flatR b) rfl hown (some ⟨W2'.heap.size, 0, none⟩) 1 1 [.int .i64 rf, .int .i64 rl, .int .i64 rp, .string ⟨ry.toArray⟩, .int .i64 rm, .int .i64 rt, .int .i64 ra, .int .i64 ru] rfl rfl (fun e => by cases e) hel (by simp [Value.oneCell']) (by omega) h4.size ?_
        intro v3 W3' ho3 hg3 hat3
        have hb3' : Below W9.heap.size W9 W3' := h4.grown hg3 h4.size (own_base hown)
        refine hK.out _ _ hb3' (fun h5 => ?_)
        clear hK
        try simp only [Act.put, List.getElem?_toArray, List.getElem_toArray, List.getElem_cons_zero, List.getElem_cons_succ, List.setIfInBounds_toArray, List.set_cons_zero, List.set_cons_succ]
        have hw3 : W3'.ownsRow W9.heap.size 38 8 v3 br.length (flatR br) := by rw [HFB.out, HLB.out]; simpa [rcCells, Str] using ho3
        obtain ⟨A7, c7, rfl, _⟩ := own_form8 hw3
        have HIw := Lib.hid (RowR.inR hw3)
        refine wpAnyH_take (i := 5) (v := .slice A7 br.length c7) rfl (by kernel_rfl) (by kernel_rfl) (by kernel_rfl) (fun _ _ _ h => h) (Or.inl ⟨by rfl, fun W hW => by rfl⟩) h5 ?_
        try simp only [Act.put, List.getElem?_toArray, List.getElem_toArray, List.getElem_cons_zero, List.getElem_cons_succ, List.setIfInBounds_toArray, List.set_cons_zero, List.set_cons_succ]
        refine wpAnyH_done (by kernel_rfl) ?_ _
        refine NoPanic.normal ?_
        have HJa := Lib.hid (HIa_w9.out.below h5)
        have HJc := Lib.hid (HIc_w9.out.below h5)
        have HJo := Lib.hid (HIo_w9.out.below h5)
        have HJl := Lib.hid (HIl_w9.out.below h5)
        have hBf := fw_trans hB_w9 h5
        clear ho2 hg2 hat2 ho3 hg3 hat3 hw3 hown hel hb2 hb3' h5 h4
        go_wp2_with fail
        refine (refrecs_any A3 A1 c3 c1 a W3' (by omega) HJc.out HJa.out).mono ?_
        rintro e Wx ⟨rfl, hbx⟩
        go_wp2_with fail
        refine (refrecs_any A4 A7 c4 c7 br Wx (by omega) (HJo.out.below hbx) (HIw.out.below hbx)).mono ?_
        rintro e Wy ⟨rfl, hby⟩
        have hbxy := fw_trans hbx hby
        have HKa := Lib.hid (HJa.out.below hbxy)
        have HKw := Lib.hid (HIw.out.below hbxy)
        go_wp2_with (first | (refine BigFrame.wpList_want (by rfl) (fun K hK => ?_); refine wp_app _ (.const (.slice none 0 0)) (.tmp 113) 22 rfl Wy.heap.size 38 (.agg #[.int .i64 0, .int .i64 0, .int .i64 0, .string ⟨#[]⟩, .int .i64 0, .int .i64 0, .int .i64 0, .int .i64 0]) 8 72 Try.underlying22 info_rc rfl (by decide) (by decide) (.slice none 0 0) 0 [] rfl (World.ownsRow_nil _ _ _ _) A1 a.length c1 (flatR a) rfl (flatR_len a) HKa.out.nil HKa.out.rd (flatR_one a) (by omega) (Nat.le_refl _) ?_; intro v8 Wz ho8 hg8 hat8; have hbz : Below Wy.heap.size Wy Wz := (Below.refl _ _).grown hg8 (Nat.le_refl _) (fun k hk => by cases hk); refine hK _ _ ?_) | (refine BigFrame.wpList_want (by rfl) (fun K hK => ?_); refine wp_app _ (.tmp 114) (.tmp 115) 22 rfl Wy.heap.size 38 (.agg #[.int .i64 0, .int .i64 0, .int .i64 0, .string ⟨#[]⟩, .int .i64 0, .int .i64 0, .int .i64 0, .int .i64 0]) 8 72 Try.underlying22 info_rc rfl (by decide) (by decide) v8 (0 + a.length) ([] ++ flatR a) rfl ho8 A7 br.length c7 (flatR br) rfl (flatR_len br) (HKw.out.below hbz).nil (HKw.out.below hbz).rd (flatR_one br) (by omega) hbz.size ?_; intro v9 Wq ho9 hg9 hat9; have hbq : Below Wy.heap.size Wy Wq := hbz.grown hg9 hbz.size (own_base ho8); have hw9 : Wq.ownsRow Wy.heap.size 38 8 v9 al.length (flatR al) := (by rw [HFA.out, HLA.out]; simpa using ho9); obtain ⟨A9, c9, rfl, _⟩ := own_form8 hw9; have HI9 := Lib.hid (RowR.inR hw9); clear ho9 hg9 hat9 hw9 ho8 hg8 hat8; refine hK _ _ ?_))
        refine (refrecs_any A5 A9 c5 c9 al Wq (by omega) ((HJl.out.below hbxy).below hbq) HI9.out).mono ?_
        rintro e Wr ⟨rfl, hbr⟩
        go_wp2_with fail
        go_ret
        exact ⟨rfl, fw_trans (fw_trans (fw_trans hBf hbxy) hbq) hbr⟩
      · go_simp
        have h3' : Below W9.heap.size W9 (W9.drew.alloc (.cells #[.int .i64 rf, .int .i64 rl, .int .i64 rp, .string ⟨ry.toArray⟩, .int .i64 rm, .int .i64 rt, .int .i64 ra, .int .i64 ru] 38)) := fw_al h0 _
        have hel0 := RdC.new W9.drew #[.int .i64 rf, .int .i64 rl, .int .i64 rp, .string ⟨ry.toArray⟩, .int .i64 rm, .int .i64 rt, .int .i64 ra, .int .i64 ru] 38 (0, 0)
        refine hK.out _ _ h3' (fun h3 => ?_)
        clear hK
        try simp only [Act.put, List.getElem?_toArray, List.getElem_toArray, List.getElem_cons_zero, List.getElem_cons_succ, List.setIfInBounds_toArray, List.set_cons_zero, List.set_cons_succ]
        refine wpAnyH_ready (rs := [1]) (by kernel_rfl) (by simp) ?_
        refine AllReadyH.cons rfl (fun K hK => ?_) AllReadyH.nil
        rw [if_pos (by rfl)]
        refine wp_app _ (.const (.slice none 0 0)) (.tmp 81) 22 rfl W9.heap.size 38 (.agg #[.int .i64 0, .int .i64 0, .int .i64 0, .string ⟨#[]⟩, .int .i64 0, .int .i64 0, .int .i64 0, .int .i64 0]) 8 72 Try.underlying22 info_rc rfl (by decide) (by decide) (.slice none 0 0) 0 [] rfl (World.ownsRow_nil _ _ _ _) A2 b.length c2 (flatR b) rfl (flatR_len b) HIb_w9.out.nil (HIb_w9.out.below h3).rd (flatR_one b) (by omega) h3.size ?_
        intro v2 W2' ho2 hg2 hat2
        have hb2 : Below W9.heap.size W9 W2' := h3.grown hg2 h3.size (fun k hk => by cases hk)
        refine hK.out _ _ hb2 (fun h2 => ?_)
        clear hK
        try simp only [Act.put, List.getElem?_toArray, List.getElem_toArray, List.getElem_cons_zero, List.getElem_cons_succ, List.setIfInBounds_toArray, List.set_cons_zero, List.set_cons_succ]
        have h4 := h2
        have hown := ho2
        have hel := RdC.below hel0 ((Below.refl _ _).grown hg2 (Nat.le_refl _) (fun k hk => by cases hk))
        refine wpAnyH_ready (rs := [4]) (by kernel_rfl) (by simp) ?_
        refine AllReadyH.cons rfl (fun K hK => ?_) AllReadyH.nil
        rw [if_pos (by rfl)]
        refine wp_app _ (.tmp 82) (.tmp 84) 22 rfl W9.heap.size 38 (.agg #[.int .i64 0, .int .i64 0, .int .i64 0, .string ⟨#[]⟩, .int .i64 0, .int .i64 0, .int .i64 0, .int .i64 0]) 8 72 Try.underlying22 info_rc rfl (by decide) (by decide) v2 (0 + b.length) ([] ++ flatR b) rfl hown (some ⟨W9.drew.heap.size, 0, none⟩) 1 1 [.int .i64 rf, .int .i64 rl, .int .i64 rp, .string ⟨ry.toArray⟩, .int .i64 rm, .int .i64 rt, .int .i64 ra, .int .i64 ru] rfl rfl (fun e => by cases e) hel (by simp [Value.oneCell']) (by omega) h4.size ?_
        intro v3 W3' ho3 hg3 hat3
        have hb3' : Below W9.heap.size W9 W3' := h4.grown hg3 h4.size (own_base hown)
        refine hK.out _ _ hb3' (fun h5 => ?_)
        clear hK
        try simp only [Act.put, List.getElem?_toArray, List.getElem_toArray, List.getElem_cons_zero, List.getElem_cons_succ, List.setIfInBounds_toArray, List.set_cons_zero, List.set_cons_succ]
        have hw3 : W3'.ownsRow W9.heap.size 38 8 v3 br.length (flatR br) := by rw [HFB.out, HLB.out]; simpa [rcCells, Str] using ho3
        obtain ⟨A7, c7, rfl, _⟩ := own_form8 hw3
        have HIw := Lib.hid (RowR.inR hw3)
        refine wpAnyH_take (i := 5) (v := .slice A7 br.length c7) rfl (by kernel_rfl) (by kernel_rfl) (by kernel_rfl) (fun _ _ _ h => h) (Or.inl ⟨by rfl, fun W hW => by rfl⟩) h5 ?_
        try simp only [Act.put, List.getElem?_toArray, List.getElem_toArray, List.getElem_cons_zero, List.getElem_cons_succ, List.setIfInBounds_toArray, List.set_cons_zero, List.set_cons_succ]
        refine wpAnyH_done (by kernel_rfl) ?_ _
        refine NoPanic.normal ?_
        have HJa := Lib.hid (HIa_w9.out.below h5)
        have HJc := Lib.hid (HIc_w9.out.below h5)
        have HJo := Lib.hid (HIo_w9.out.below h5)
        have HJl := Lib.hid (HIl_w9.out.below h5)
        have hBf := fw_trans hB_w9 h5
        clear ho2 hg2 hat2 ho3 hg3 hat3 hw3 hown hel hb2 hb3' h5 h4
        go_wp2_with fail
        refine (refrecs_any A3 A1 c3 c1 a W3' (by omega) HJc.out HJa.out).mono ?_
        rintro e Wx ⟨rfl, hbx⟩
        go_wp2_with fail
        refine (refrecs_any A4 A7 c4 c7 br Wx (by omega) (HJo.out.below hbx) (HIw.out.below hbx)).mono ?_
        rintro e Wy ⟨rfl, hby⟩
        have hbxy := fw_trans hbx hby
        have HKa := Lib.hid (HJa.out.below hbxy)
        have HKw := Lib.hid (HIw.out.below hbxy)
        go_wp2_with (first | (refine BigFrame.wpList_want (by rfl) (fun K hK => ?_); refine wp_app _ (.const (.slice none 0 0)) (.tmp 113) 22 rfl Wy.heap.size 38 (.agg #[.int .i64 0, .int .i64 0, .int .i64 0, .string ⟨#[]⟩, .int .i64 0, .int .i64 0, .int .i64 0, .int .i64 0]) 8 72 Try.underlying22 info_rc rfl (by decide) (by decide) (.slice none 0 0) 0 [] rfl (World.ownsRow_nil _ _ _ _) A1 a.length c1 (flatR a) rfl (flatR_len a) HKa.out.nil HKa.out.rd (flatR_one a) (by omega) (Nat.le_refl _) ?_; intro v8 Wz ho8 hg8 hat8; have hbz : Below Wy.heap.size Wy Wz := (Below.refl _ _).grown hg8 (Nat.le_refl _) (fun k hk => by cases hk); refine hK _ _ ?_) | (refine BigFrame.wpList_want (by rfl) (fun K hK => ?_); refine wp_app _ (.tmp 114) (.tmp 115) 22 rfl Wy.heap.size 38 (.agg #[.int .i64 0, .int .i64 0, .int .i64 0, .string ⟨#[]⟩, .int .i64 0, .int .i64 0, .int .i64 0, .int .i64 0]) 8 72 Try.underlying22 info_rc rfl (by decide) (by decide) v8 (0 + a.length) ([] ++ flatR a) rfl ho8 A7 br.length c7 (flatR br) rfl (flatR_len br) (HKw.out.below hbz).nil (HKw.out.below hbz).rd (flatR_one br) (by omega) hbz.size ?_; intro v9 Wq ho9 hg9 hat9; have hbq : Below Wy.heap.size Wy Wq := hbz.grown hg9 hbz.size (own_base ho8); have hw9 : Wq.ownsRow Wy.heap.size 38 8 v9 al.length (flatR al) := (by rw [HFA.out, HLA.out]; simpa using ho9); obtain ⟨A9, c9, rfl, _⟩ := own_form8 hw9; have HI9 := Lib.hid (RowR.inR hw9); clear ho9 hg9 hat9 hw9 ho8 hg8 hat8; refine hK _ _ ?_))
        refine (refrecs_any A5 A9 c5 c9 al Wq (by omega) ((HJl.out.below hbxy).below hbq) HI9.out).mono ?_
        rintro e Wr ⟨rfl, hbr⟩
        go_wp2_with fail
        go_ret
        exact ⟨rfl, fw_trans (fw_trans (fw_trans hBf hbxy) hbq) hbr⟩
end Go.Proofs.Ytaoiklfkkipcaaa
