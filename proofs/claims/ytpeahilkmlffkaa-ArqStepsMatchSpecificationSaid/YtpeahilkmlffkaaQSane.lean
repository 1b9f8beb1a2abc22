import Derived.Test.YtpeahilkmlffkaaQSaneL
set_option linter.unusedSimpArgs false
set_option linter.unusedVariables false
namespace Go.Proofs.Ytpeahilkmlffkaa
open Go Go.RowKit Hd Go.Mem

theorem InL.none (w : World) : InL w none 0 [] := ⟨⟨[], .inl rfl, trivial⟩, fun _ => rfl, Nat.le_refl _, Nat.zero_le _⟩
theorem rd_one (w : World) (x : UInt8) : Rd (w.alloc (.cells #[.int .u8 (x.toNat : Int)] 5 (1, 2))) (some ⟨w.heap.size, 0, none⟩) [x] := rd_new' w 5 [x] _ _ rfl
set_option maxRecDepth 100000 in
set_option maxHeartbeats 8000000 in
theorem sane_any (w : World) : Calls Try.prog 10 #[] w fun e w' => e = .returned (.bool true) ∧ Below w.heap.size w w' := by
  go_enter Try.func10, Try.ntmps10
  go_wp2_with fail
  refine (new_any w).mono ?_
  rintro e W1 ⟨rfl, hb1⟩
  have hcv := fun (W : World) (C : Array Value) (n c : Nat) => Lib.run_convert_bytes_const (P := Try.prog) W 22 5 C n c Try.underlying22 Try.underlying5
  go_wp2_with fail
  refine (send_as s_e1 none _ 0 _ _ (by decide) (by decide) (InL.none _).rd (rd_one W1 97) (fun e => by cases e)).mono ?_
  rintro e W2 ⟨A1, c1, rfl, hq1, hb2⟩
  have hB2 := fw_trans (fw_al hb1 _) hb2
  clear hb1 hb2
  go_wp2_with (first | (refine wpList_store_new rfl 39 (.tmp 1) (.tmp 31) rfl (leCells A1 c1 sL1) rfl rfl 39 _ le_size rfl (le_one _ _ _ _) ?_; intro W3 hbW3 hvW3; ) | (refine wpList_load_row rfl 39 (.tmp 1) rfl W2.heap.size rfl 39 (leCells A1 c1 sL1) (0, 0) _ hvW3 Try.underlying39 rfl le_size ?_))
  refine (send_as s_e2 A1 _ c1 _ _ (by decide) (by decide) (hq1.below (fw_al hbW3 _)).rd (rd_one W3 98) (fun e => by cases e)).mono ?_
  rintro e W4 ⟨A2, c2, rfl, hq2, hb4⟩
  have hb34 := fw_trans (fw_new W3 _) hb4
  have hv4 := blk_below hvW3 hb34
  have hB4 := fw_trans (fw_trans hB2 hbW3) hb34
  have hW24 : w.heap.size ≤ W2.heap.size := hB2.size
  clear hB2 hbW3 hvW3 hb34 hb4 hq1
  go_wp2_with (first | (refine wpList_store_upd rfl 39 (.tmp 1) (.tmp 38) rfl W2.heap.size (leCells A2 c2 sL2) rfl rfl 39 _ hv4 le_size rfl (le_one _ _ _ _) ?_; intro W5 hvW5 u5) | (refine wpList_load_row rfl 39 (.tmp 1) rfl W2.heap.size rfl 39 (leCells A2 c2 sL2) (0, 0) _ hvW5 Try.underlying39 rfl le_size ?_))
  have hq5 : InL W5 A2 c2 sL2.q := hq2.other hv4 u5 (by intro i x; rcases i with _ | _ | _ | _ | _ | _ | i <;> simp [leCells]) (by intro _ i h; have h0 := h 0 (by decide); have h1 := h 1 (by decide); rcases i with _ | _ | _ | _ | _ | _ | i <;> simp [leCells] at h0 h1)
  have hB5 := u5.below hB4 hW24
  clear hB4 hv4 hq2 u5 hW24 hvW5
  refine (poll_as s_e3 A2 c2 W5 (by decide) hq5.rd).mono ?_
  rintro e W6 ⟨A3, c3, A4, c4, rfl, hq6, hf6, hb6⟩
  have hB6 := fw_trans hB5 hb6
  clear hB5 hb6 hq5 hcv
  go_wp2_with (first | (refine wpList_store_new rfl 39 (.tmp 4) (.tmp 43) rfl (leCells A3 c3 sX) rfl rfl 39 _ le_size rfl (le_one _ _ _ _) ?_; intro W7 hbW7 hvW7; ) | (refine wpList_load_row rfl 39 (.tmp 4) rfl W6.heap.size rfl 39 (leCells A3 c3 sX) (0, 0) _ hvW7 Try.underlying39 rfl le_size ?_))
  refine (poll_as s_e4 A3 c3 W7 (by decide) (hq6.below hbW7).rd).mono ?_
  rintro e W8 ⟨A5, c5, A6, c6, rfl, hq8, hf8, hb8⟩
  have hb68 := fw_trans hbW7 hb8
  have hB8 := fw_trans hB6 hb68
  have hv8 := blk_below hvW7 hb8
  have hf8s := hf6.below hb68
  clear hB6 hbW7 hb8 hb68 hq6 hf6 hf8 hvW7
  go_wp2_with (first | (refine wpList_store_new rfl 39 (.tmp 7) (.tmp 49) rfl (leCells A5 c5 sX) rfl rfl 39 _ le_size rfl (le_one _ _ _ _) ?_; intro W9 hbW9 hvW9; ) | (refine wpList_load_row rfl 39 (.tmp 7) rfl W8.heap.size rfl 39 (leCells A5 c5 sX) (0, 0) _ hvW9 Try.underlying39 rfl le_size ?_))
  refine (poll_as s_e5 A5 c5 W9 (by decide) (hq8.below hbW9).rd).mono ?_
  rintro e W10 ⟨A7, c7, A8, c8, rfl, hq10, hf10, hb10⟩
  have hb810 := fw_trans hbW9 hb10
  have hB10 := fw_trans hB8 hb810
  have hv10 := blk_below hv8 hb810
  have hv107 := blk_below hvW9 hb10
  have hf10s := hf8s.below hb810
  have hq107 := hq8.below hb810
  clear hB8 hbW9 hb10 hb810 hv8 hvW9 hf8s hq8 hq10 hf10
  go_wp2_with (first | (refine wpList_store_new rfl 39 (.tmp 10) (.tmp 55) rfl (leCells A7 c7 sW) rfl rfl 39 _ le_size rfl (le_one _ _ _ _) ?_; intro W11 hbW11 hvW11; ))
  have hf11 := hf10s.below hbW11
  have hv11 := blk_below hv10 hbW11
  have hv117 := blk_below hv107 hbW11
  have hq117 := hq107.below hbW11
  have hB11 := fw_trans hB10 hbW11
  obtain ⟨b4, o4, A9, c9, rfl, hr9, hn9, hl9, hm9, hp9⟩ := hf11.at 0 (by decide)
  have hr0 : W11.rangeAt b4 o4 [.bool true, .int .i64 0, .int .i64 0, .slice A9 1 c9] := hr9
  have hp0 : Rd W11 A9 [97] := hp9
  obtain ⟨b4', o4', A9', c9', e4, hr9', _, _, _, _⟩ := hf11.at 1 (by decide)
  simp only [Option.some.injEq, Addr.mk.injEq] at e4
  obtain ⟨rfl, rfl, _⟩ := e4
  have hr1 : W11.rangeAt b4 (o4 + 4) [.bool true, .int .i64 1, .int .i64 0, .slice A9' 1 c9'] := hr9'
  have hsl : sF.length = 2 := rfl
  clear hr9' hr9 hl9 hm9 hp9 hf10s hv10 hv107 hq107 hB10 hbW11 hvW11
  refine' region_cut (fun g A c A2 c2 W' => Below W11.heap.size W11 W' ∧ W'.heap[g]? = some (.cells (leCells A c sP) 39 (0, 0)) ∧ W11.heap.size ≤ g ∧ InL W' A c sP.q ∧ InL W' A2 c2 [[97]]) _ ?reg8 ?rest8
  case reg8 =>
    refine wp_region_noPanic ?_
    refine wp_region_held_drew (S := Below W11.heap.size W11) (by kernel_rfl) ⟨rfl, rfl, rfl, Nat.le_refl _, fun _ _ => rfl⟩ (fun hc => ?_)
    refine wpAnyH_take (i := 1) (v := .slice (some ⟨b4, o4, none⟩) sF.length c4) rfl (by kernel_rfl) (by kernel_rfl) (by kernel_rfl) (fun _ _ _ h => h) (Or.inl ⟨by rfl, fun W hW => by rfl⟩) hc ?_
    try simp only [Act.put, List.getElem?_toArray, List.getElem_toArray, List.getElem_cons_zero, List.getElem_cons_succ, List.setIfInBounds_toArray, List.set_cons_zero, List.set_cons_succ]
    refine wpAnyH_take (i := 2) (v := .pointer (some ⟨b4, o4, none⟩)) rfl (by kernel_rfl) (by kernel_rfl) (by kernel_rfl) (fun _ _ _ h => h) (Or.inl ⟨by rfl, fun W hW => by go_simp⟩) hc ?_
    try simp only [Act.put, List.getElem?_toArray, List.getElem_toArray, List.getElem_cons_zero, List.getElem_cons_succ, List.setIfInBounds_toArray, List.set_cons_zero, List.set_cons_succ]
    refine wpAnyH_take (i := 3) (v := .agg #[.bool true, .int .i64 0, .int .i64 0, .slice A9 1 c9]) rfl (by kernel_rfl) (by kernel_rfl) (by kernel_rfl) (fun _ _ _ h => h) (yieldsIf_load_mid (by rfl) 24 (.tmp 94) rfl b4 o4 rfl [.bool true, .int .i64 0, .int .i64 0, .slice A9 1 c9] _ (fun W hW => fun j v hv => (hW.cell (World.block_lt_of_cell? W11 _ (hr0 j v hv))).trans (hr0 j v hv)) Try.underlying24 rfl fr_size) hc ?_
    try simp only [Act.put, List.getElem?_toArray, List.getElem_toArray, List.getElem_cons_zero, List.getElem_cons_succ, List.setIfInBounds_toArray, List.set_cons_zero, List.set_cons_succ]
    refine wpAnyH_ready (rs := [0, 9]) (by kernel_rfl) (by simp) ?_
    refine AllReadyH.cons rfl (fun K hK => ?_) (AllReadyH.cons rfl (fun K hK => ?_) AllReadyH.nil)
    · skip
      go_simp
      go_at_call 25
      refine (new_any _).mono ?_
      rintro e V1 ⟨rfl, hbn⟩
      refine hK.out _ _ (fw_trans hc hbn) (fun hc2 => ?_)
      clear hK
      try simp only [Act.put, List.getElem?_toArray, List.getElem_toArray, List.getElem_cons_zero, List.getElem_cons_succ, List.setIfInBounds_toArray, List.set_cons_zero, List.set_cons_succ]
      clear hc
      have hc := hc2
      clear hc2 hbn
      refine wpAnyH_ready (rs := [4, 9]) (by kernel_rfl) (by simp) ?_
      refine AllReadyH.cons rfl (fun K hK => ?_) (AllReadyH.cons rfl (fun K hK => ?_) AllReadyH.nil)
      · skip
        go_simp
        go_at_call 21
        refine (recv_as s_e6 none A9 0 c9 _ (by decide) (by decide) (InL.none _).rd (by decide) (RdC.below hp0 hc) hn9).mono ?_
        rintro e V2 ⟨A11, c11, A12, c12, rfl, hqa, hqb, hbr⟩
        refine hK.out _ _ (fw_trans hc hbr) (fun hc2 => ?_)
        clear hK
        try simp only [Act.put, List.getElem?_toArray, List.getElem_toArray, List.getElem_cons_zero, List.getElem_cons_succ, List.setIfInBounds_toArray, List.set_cons_zero, List.set_cons_succ]
        clear hc
        have hc := hc2
        clear hc2 hbr
        refine wpAnyH_take (i := 5) (v := .tuple #[.agg (leCells A11 c11 sP), .slice A12 1 c12, .int .i64 0]) rfl (by kernel_rfl) (by kernel_rfl) (by kernel_rfl) (fun _ _ _ h => h) (Or.inl ⟨by rfl, fun W hW => by rfl⟩) hc ?_
        try simp only [Act.put, List.getElem?_toArray, List.getElem_toArray, List.getElem_cons_zero, List.getElem_cons_succ, List.setIfInBounds_toArray, List.set_cons_zero, List.set_cons_succ]
        refine wpAnyH_take (i := 6) (v := .agg (leCells A11 c11 sP)) rfl (by kernel_rfl) (by kernel_rfl) (by kernel_rfl) (fun _ _ _ h => h) (Or.inl ⟨by rfl, fun W hW => by go_simp⟩) hc ?_
        try simp only [Act.put, List.getElem?_toArray, List.getElem_toArray, List.getElem_cons_zero, List.getElem_cons_succ, List.setIfInBounds_toArray, List.set_cons_zero, List.set_cons_succ]
        refine wpAnyH_take (i := 7) (v := .slice A12 1 c12) rfl (by kernel_rfl) (by kernel_rfl) (by kernel_rfl) (fun _ _ _ h => h) (Or.inl ⟨by rfl, fun W hW => by go_simp⟩) hc ?_
        try simp only [Act.put, List.getElem?_toArray, List.getElem_toArray, List.getElem_cons_zero, List.getElem_cons_succ, List.setIfInBounds_toArray, List.set_cons_zero, List.set_cons_succ]
        refine wpAnyH_take (i := 8) (v := .int .i64 0) rfl (by kernel_rfl) (by kernel_rfl) (by kernel_rfl) (fun _ _ _ h => h) (Or.inl ⟨by rfl, fun W hW => by go_simp⟩) hc ?_
        try simp only [Act.put, List.getElem?_toArray, List.getElem_toArray, List.getElem_cons_zero, List.getElem_cons_succ, List.setIfInBounds_toArray, List.set_cons_zero, List.set_cons_succ]
        refine wpAnyH_ready (rs := [9]) (by kernel_rfl) (by simp) ?_
        refine AllReadyH.cons rfl (fun K hK => ?_) AllReadyH.nil
        obtain ⟨g, hg⟩ : ∃ g, V2.heap.size = g := ⟨_, rfl⟩
        have Hnew := Lib.hid (fun o => (show (V2.alloc o).heap[g]? = some o by rw [← hg]; exact heap_alloc_new V2 o))
        have hge : W11.heap.size ≤ g := by rw [← hg]; exact hc.size
        go_simp
        refine hK.out _ _ (fw_al hc _) (fun hc2 => ?_)
        clear hK
        try simp only [Act.put, List.getElem?_toArray, List.getElem_toArray, List.getElem_cons_zero, List.getElem_cons_succ, List.setIfInBounds_toArray, List.set_cons_zero, List.set_cons_succ]
        have hgB := Hnew.out (.cells (leCells none 0 leZ) 39)
        have hqa := hqa.below (fw_new _ (.cells (leCells none 0 leZ) 39))
        have hqb := hqb.below (fw_new _ (.cells (leCells none 0 leZ) 39))
        clear hc hg Hnew
        have hc := hc2
        clear hc2
        refine wpAnyH_ready (rs := [10]) (by kernel_rfl) (by simp) ?_
        refine AllReadyH.cons rfl (fun K hK => ?_) AllReadyH.nil
        rw [if_pos (by rfl)]
        refine wp_store_row 39 (.tmp 13) (.tmp 97) rfl g (leCells A11 c11 sP) rfl rfl 39 _ hgB le_size rfl (le_one _ _ _ _) ?_
        refine hK.out _ _ (below_setRow hc hge _) (fun hc2 => ?_)
        clear hK
        try simp only [Act.put, List.getElem?_toArray, List.getElem_toArray, List.getElem_cons_zero, List.getElem_cons_succ, List.setIfInBounds_toArray, List.set_cons_zero, List.set_cons_succ]
        have hgE := setRow_heap _ _ _ (leCells A11 c11 sP) _ _ hgB
        have hqa2 := hqa.other hgB (upd_row' _ g (leCells A11 c11 sP)) (by intro i x; rcases i with _ | _ | _ | _ | _ | _ | i <;> simp [leCells]) (by intro hne i h; first | exact absurd rfl hne | (have h0 := h 0 (by decide); rcases i with _ | _ | _ | _ | _ | _ | i <;> simp [leCells, leZ, sZ] at h0))
        have hqb2 := hqb.other hgB (upd_row' _ g (leCells A11 c11 sP)) (by intro i x; rcases i with _ | _ | _ | _ | _ | _ | i <;> simp [leCells]) (by intro hne i h; first | exact absurd rfl hne | (have h0 := h 0 (by decide); rcases i with _ | _ | _ | _ | _ | _ | i <;> simp [leCells, leZ] at h0))
        clear hc
        have hc := hc2
        refine wpAnyH_take (i := 11) (v := .slice A12 1 c12) rfl (by kernel_rfl) (by kernel_rfl) (by kernel_rfl) (fun _ _ _ h => h) (Or.inl ⟨by rfl, fun W hW => by rfl⟩) hc ?_
        try simp only [Act.put, List.getElem?_toArray, List.getElem_toArray, List.getElem_cons_zero, List.getElem_cons_succ, List.setIfInBounds_toArray, List.set_cons_zero, List.set_cons_succ]
        refine wpAnyH_take (i := 12) (v := .int .i64 0) rfl (by kernel_rfl) (by kernel_rfl) (by kernel_rfl) (fun _ _ _ h => h) (Or.inl ⟨by rfl, fun W hW => by rfl⟩) hc ?_
        try simp only [Act.put, List.getElem?_toArray, List.getElem_toArray, List.getElem_cons_zero, List.getElem_cons_succ, List.setIfInBounds_toArray, List.set_cons_zero, List.set_cons_succ]
        refine wpAnyH_done (by kernel_rfl) ?_ _
        refine NoPanic.normal ?_
        refine ⟨rfl, g, A11, c11, A12, c12, ⟨hc, hgE, hge, hqa2, hqb2⟩, ?_⟩
        with_unfolding_all exact Eq.refl _
      · skip
        obtain ⟨g, hg⟩ : ∃ g, V1.heap.size = g := ⟨_, rfl⟩
        have Hnew := Lib.hid (fun o => (show (V1.alloc o).heap[g]? = some o by rw [← hg]; exact heap_alloc_new V1 o))
        have hge : W11.heap.size ≤ g := by rw [← hg]; exact hc.size
        go_simp
        refine hK.out _ _ (fw_al hc _) (fun hc2 => ?_)
        clear hK
        try simp only [Act.put, List.getElem?_toArray, List.getElem_toArray, List.getElem_cons_zero, List.getElem_cons_succ, List.setIfInBounds_toArray, List.set_cons_zero, List.set_cons_succ]
        have hgB := Hnew.out (.cells (leCells none 0 leZ) 39)
        clear hc hg Hnew
        have hc := hc2
        clear hc2
        refine wpAnyH_ready (rs := [4]) (by kernel_rfl) (by simp) ?_
        refine AllReadyH.cons rfl (fun K hK => ?_) AllReadyH.nil
        go_simp
        go_at_call 21
        refine (recv_as s_e6 none A9 0 c9 _ (by decide) (by decide) (InL.none _).rd (by decide) (RdC.below hp0 hc) hn9).mono ?_
        rintro e V2 ⟨A11, c11, A12, c12, rfl, hqa, hqb, hbr⟩
        refine hK.out _ _ (fw_trans hc hbr) (fun hc2 => ?_)
        clear hK
        try simp only [Act.put, List.getElem?_toArray, List.getElem_toArray, List.getElem_cons_zero, List.getElem_cons_succ, List.setIfInBounds_toArray, List.set_cons_zero, List.set_cons_succ]
        have hgB := blk_below hgB hbr
        clear hc
        have hc := hc2
        clear hc2 hbr
        refine wpAnyH_take (i := 5) (v := .tuple #[.agg (leCells A11 c11 sP), .slice A12 1 c12, .int .i64 0]) rfl (by kernel_rfl) (by kernel_rfl) (by kernel_rfl) (fun _ _ _ h => h) (Or.inl ⟨by rfl, fun W hW => by rfl⟩) hc ?_
        try simp only [Act.put, List.getElem?_toArray, List.getElem_toArray, List.getElem_cons_zero, List.getElem_cons_succ, List.setIfInBounds_toArray, List.set_cons_zero, List.set_cons_succ]
        refine wpAnyH_take (i := 6) (v := .agg (leCells A11 c11 sP)) rfl (by kernel_rfl) (by kernel_rfl) (by kernel_rfl) (fun _ _ _ h => h) (Or.inl ⟨by rfl, fun W hW => by go_simp⟩) hc ?_
        try simp only [Act.put, List.getElem?_toArray, List.getElem_toArray, List.getElem_cons_zero, List.getElem_cons_succ, List.setIfInBounds_toArray, List.set_cons_zero, List.set_cons_succ]
        refine wpAnyH_take (i := 7) (v := .slice A12 1 c12) rfl (by kernel_rfl) (by kernel_rfl) (by kernel_rfl) (fun _ _ _ h => h) (Or.inl ⟨by rfl, fun W hW => by go_simp⟩) hc ?_
        try simp only [Act.put, List.getElem?_toArray, List.getElem_toArray, List.getElem_cons_zero, List.getElem_cons_succ, List.setIfInBounds_toArray, List.set_cons_zero, List.set_cons_succ]
        refine wpAnyH_take (i := 8) (v := .int .i64 0) rfl (by kernel_rfl) (by kernel_rfl) (by kernel_rfl) (fun _ _ _ h => h) (Or.inl ⟨by rfl, fun W hW => by go_simp⟩) hc ?_
        try simp only [Act.put, List.getElem?_toArray, List.getElem_toArray, List.getElem_cons_zero, List.getElem_cons_succ, List.setIfInBounds_toArray, List.set_cons_zero, List.set_cons_succ]
        refine wpAnyH_ready (rs := [10]) (by kernel_rfl) (by simp) ?_
        refine AllReadyH.cons rfl (fun K hK => ?_) AllReadyH.nil
        rw [if_pos (by rfl)]
        refine wp_store_row 39 (.tmp 13) (.tmp 97) rfl g (leCells A11 c11 sP) rfl rfl 39 _ hgB le_size rfl (le_one _ _ _ _) ?_
        refine hK.out _ _ (below_setRow hc hge _) (fun hc2 => ?_)
        clear hK
        try simp only [Act.put, List.getElem?_toArray, List.getElem_toArray, List.getElem_cons_zero, List.getElem_cons_succ, List.setIfInBounds_toArray, List.set_cons_zero, List.set_cons_succ]
        have hgE := setRow_heap _ _ _ (leCells A11 c11 sP) _ _ hgB
        have hqa2 := hqa.other hgB (upd_row' _ g (leCells A11 c11 sP)) (by intro i x; rcases i with _ | _ | _ | _ | _ | _ | i <;> simp [leCells]) (by intro hne i h; first | exact absurd rfl hne | (have h0 := h 0 (by decide); rcases i with _ | _ | _ | _ | _ | _ | i <;> simp [leCells, leZ, sZ] at h0))
        have hqb2 := hqb.other hgB (upd_row' _ g (leCells A11 c11 sP)) (by intro i x; rcases i with _ | _ | _ | _ | _ | _ | i <;> simp [leCells]) (by intro hne i h; first | exact absurd rfl hne | (have h0 := h 0 (by decide); rcases i with _ | _ | _ | _ | _ | _ | i <;> simp [leCells, leZ] at h0))
        clear hc
        have hc := hc2
        refine wpAnyH_take (i := 11) (v := .slice A12 1 c12) rfl (by kernel_rfl) (by kernel_rfl) (by kernel_rfl) (fun _ _ _ h => h) (Or.inl ⟨by rfl, fun W hW => by rfl⟩) hc ?_
        try simp only [Act.put, List.getElem?_toArray, List.getElem_toArray, List.getElem_cons_zero, List.getElem_cons_succ, List.setIfInBounds_toArray, List.set_cons_zero, List.set_cons_succ]
        refine wpAnyH_take (i := 12) (v := .int .i64 0) rfl (by kernel_rfl) (by kernel_rfl) (by kernel_rfl) (fun _ _ _ h => h) (Or.inl ⟨by rfl, fun W hW => by rfl⟩) hc ?_
        try simp only [Act.put, List.getElem?_toArray, List.getElem_toArray, List.getElem_cons_zero, List.getElem_cons_succ, List.setIfInBounds_toArray, List.set_cons_zero, List.set_cons_succ]
        refine wpAnyH_done (by kernel_rfl) ?_ _
        refine NoPanic.normal ?_
        refine ⟨rfl, g, A11, c11, A12, c12, ⟨hc, hgE, hge, hqa2, hqb2⟩, ?_⟩
        with_unfolding_all exact Eq.refl _
    · skip
      obtain ⟨g, hg⟩ : ∃ g, W11.heap.size = g := ⟨_, rfl⟩
      have Hnew := Lib.hid (fun o => (show (W11.drew.alloc o).heap[g]? = some o by rw [← hg]; exact heap_alloc_new W11.drew o))
      have hge : W11.heap.size ≤ g := by rw [← hg]; exact hc.size
      go_simp
      refine hK.out _ _ (fw_al hc _) (fun hc2 => ?_)
      clear hK
      try simp only [Act.put, List.getElem?_toArray, List.getElem_toArray, List.getElem_cons_zero, List.getElem_cons_succ, List.setIfInBounds_toArray, List.set_cons_zero, List.set_cons_succ]
      have hgB := Hnew.out (.cells (leCells none 0 leZ) 39)
      clear hc hg Hnew
      have hc := hc2
      clear hc2
      refine wpAnyH_ready (rs := [0]) (by kernel_rfl) (by simp) ?_
      refine AllReadyH.cons rfl (fun K hK => ?_) AllReadyH.nil
      go_simp
      go_at_call 25
      refine (new_any _).mono ?_
      rintro e V1 ⟨rfl, hbn⟩
      refine hK.out _ _ (fw_trans hc hbn) (fun hc2 => ?_)
      clear hK
      try simp only [Act.put, List.getElem?_toArray, List.getElem_toArray, List.getElem_cons_zero, List.getElem_cons_succ, List.setIfInBounds_toArray, List.set_cons_zero, List.set_cons_succ]
      have hgB := blk_below hgB hbn
      clear hc
      have hc := hc2
      clear hc2 hbn
      refine wpAnyH_ready (rs := [4]) (by kernel_rfl) (by simp) ?_
      refine AllReadyH.cons rfl (fun K hK => ?_) AllReadyH.nil
      go_simp
      go_at_call 21
      refine (recv_as s_e6 none A9 0 c9 _ (by decide) (by decide) (InL.none _).rd (by decide) (RdC.below hp0 hc) hn9).mono ?_
      rintro e V2 ⟨A11, c11, A12, c12, rfl, hqa, hqb, hbr⟩
      refine hK.out _ _ (fw_trans hc hbr) (fun hc2 => ?_)
      clear hK
      try simp only [Act.put, List.getElem?_toArray, List.getElem_toArray, List.getElem_cons_zero, List.getElem_cons_succ, List.setIfInBounds_toArray, List.set_cons_zero, List.set_cons_succ]
      have hgB := blk_below hgB hbr
      clear hc
      have hc := hc2
      clear hc2 hbr
      refine wpAnyH_take (i := 5) (v := .tuple #[.agg (leCells A11 c11 sP), .slice A12 1 c12, .int .i64 0]) rfl (by kernel_rfl) (by kernel_rfl) (by kernel_rfl) (fun _ _ _ h => h) (Or.inl ⟨by rfl, fun W hW => by rfl⟩) hc ?_
      try simp only [Act.put, List.getElem?_toArray, List.getElem_toArray, List.getElem_cons_zero, List.getElem_cons_succ, List.setIfInBounds_toArray, List.set_cons_zero, List.set_cons_succ]
      refine wpAnyH_take (i := 6) (v := .agg (leCells A11 c11 sP)) rfl (by kernel_rfl) (by kernel_rfl) (by kernel_rfl) (fun _ _ _ h => h) (Or.inl ⟨by rfl, fun W hW => by go_simp⟩) hc ?_
      try simp only [Act.put, List.getElem?_toArray, List.getElem_toArray, List.getElem_cons_zero, List.getElem_cons_succ, List.setIfInBounds_toArray, List.set_cons_zero, List.set_cons_succ]
      refine wpAnyH_take (i := 7) (v := .slice A12 1 c12) rfl (by kernel_rfl) (by kernel_rfl) (by kernel_rfl) (fun _ _ _ h => h) (Or.inl ⟨by rfl, fun W hW => by go_simp⟩) hc ?_
      try simp only [Act.put, List.getElem?_toArray, List.getElem_toArray, List.getElem_cons_zero, List.getElem_cons_succ, List.setIfInBounds_toArray, List.set_cons_zero, List.set_cons_succ]
      refine wpAnyH_take (i := 8) (v := .int .i64 0) rfl (by kernel_rfl) (by kernel_rfl) (by kernel_rfl) (fun _ _ _ h => h) (Or.inl ⟨by rfl, fun W hW => by go_simp⟩) hc ?_
      try simp only [Act.put, List.getElem?_toArray, List.getElem_toArray, List.getElem_cons_zero, List.getElem_cons_succ, List.setIfInBounds_toArray, List.set_cons_zero, List.set_cons_succ]
      refine wpAnyH_ready (rs := [10]) (by kernel_rfl) (by simp) ?_
      refine AllReadyH.cons rfl (fun K hK => ?_) AllReadyH.nil
      rw [if_pos (by rfl)]
      refine wp_store_row 39 (.tmp 13) (.tmp 97) rfl g (leCells A11 c11 sP) rfl rfl 39 _ hgB le_size rfl (le_one _ _ _ _) ?_
      refine hK.out _ _ (below_setRow hc hge _) (fun hc2 => ?_)
      clear hK
      try simp only [Act.put, List.getElem?_toArray, List.getElem_toArray, List.getElem_cons_zero, List.getElem_cons_succ, List.setIfInBounds_toArray, List.set_cons_zero, List.set_cons_succ]
      have hgE := setRow_heap _ _ _ (leCells A11 c11 sP) _ _ hgB
      have hqa2 := hqa.other hgB (upd_row' _ g (leCells A11 c11 sP)) (by intro i x; rcases i with _ | _ | _ | _ | _ | _ | i <;> simp [leCells]) (by intro hne i h; first | exact absurd rfl hne | (have h0 := h 0 (by decide); rcases i with _ | _ | _ | _ | _ | _ | i <;> simp [leCells, leZ, sZ] at h0))
      have hqb2 := hqb.other hgB (upd_row' _ g (leCells A11 c11 sP)) (by intro i x; rcases i with _ | _ | _ | _ | _ | _ | i <;> simp [leCells]) (by intro hne i h; first | exact absurd rfl hne | (have h0 := h 0 (by decide); rcases i with _ | _ | _ | _ | _ | _ | i <;> simp [leCells, leZ] at h0))
      clear hc
      have hc := hc2
      refine wpAnyH_take (i := 11) (v := .slice A12 1 c12) rfl (by kernel_rfl) (by kernel_rfl) (by kernel_rfl) (fun _ _ _ h => h) (Or.inl ⟨by rfl, fun W hW => by rfl⟩) hc ?_
      try simp only [Act.put, List.getElem?_toArray, List.getElem_toArray, List.getElem_cons_zero, List.getElem_cons_succ, List.setIfInBounds_toArray, List.set_cons_zero, List.set_cons_succ]
      refine wpAnyH_take (i := 12) (v := .int .i64 0) rfl (by kernel_rfl) (by kernel_rfl) (by kernel_rfl) (fun _ _ _ h => h) (Or.inl ⟨by rfl, fun W hW => by rfl⟩) hc ?_
      try simp only [Act.put, List.getElem?_toArray, List.getElem_toArray, List.getElem_cons_zero, List.getElem_cons_succ, List.setIfInBounds_toArray, List.set_cons_zero, List.set_cons_succ]
      refine wpAnyH_done (by kernel_rfl) ?_ _
      refine NoPanic.normal ?_
      refine ⟨rfl, g, A11, c11, A12, c12, ⟨hc, hgE, hge, hqa2, hqb2⟩, ?_⟩
      with_unfolding_all exact Eq.refl _
  case rest8 =>
    intro g13 A11 c11 A12 c12 V ⟨hbV, hg13, hge13, hqa, hqb⟩
    have k4 := blk_below hv11 hbV
    have k7 := blk_below hv117 hbV
    have q7 := hq117.below hbV
    have hBV := fw_trans hB11 hbV
    clear hv11 hv117 hq117 hB11 hge13
    go_wp2_with (first | (refine wpList_load_row rfl 39 (.tmp 13) rfl g13 rfl 39 (leCells A11 c11 sP) (0, 0) _ hg13 Try.underlying39 rfl le_size ?_))
    refine (poll_as s_e7 A11 c11 V (by decide) hqa.rd).mono ?_
    rintro e V2 ⟨A13, c13, A14, c14, rfl, hq2, hf2, hb2⟩
    have k4' := blk_below k4 hb2
    have k7' := blk_below k7 hb2
    have q7' := q7.below hb2
    have qb' := hqb.below hb2
    have hB2 := fw_trans hBV hb2
    have hbW2 := fw_trans hbV hb2
    have hsl2 : sA.length = 1 := rfl
    clear k4 k7 q7 hBV hb2 hbV hqa hqb hq2 hg13
    go_wp2_with (first | (refine wpList_store_new rfl 39 (.tmp 16) (.tmp 103) rfl (leCells A13 c13 sP2) rfl rfl 39 _ le_size rfl (le_one _ _ _ _) ?_; intro V3 hbV3 hvV3; ))
    have k4 := blk_below k4' hbV3
    have k7 := blk_below k7' hbV3
    have q7 := q7'.below hbV3
    have qb := qb'.below hbV3
    have hB3 := fw_trans hB2 hbV3
    have hbW3 := fw_trans hbW2 hbV3
    have hf3 := hf2.below hbV3
    obtain ⟨b5, o5, A15, c15, rfl, hr9, hn5, hl9, hm9, hp5⟩ := hf3.at 0 (by decide)
    have hr5 : V3.rangeAt b5 o5 [.bool false, .int .i64 0, .int .i64 1, .slice A15 0 c15] := hr9
    have hp50 : Rd V3 A15 [] := hp5
    clear k4' k7' q7' qb' hB2 hbW2 hf2 hf3 hr9 hl9 hm9 hp5 hbV3 hvV3
    refine' region_cut (fun g A c A2 c2 W' => Below V3.heap.size V3 W' ∧ W'.heap[g]? = some (.cells (leCells A c sZ) 39 (0, 0)) ∧ V3.heap.size ≤ g ∧ InL W' A c sZ.q ∧ InL W' A2 c2 []) _ ?reg12 ?rest12
    case reg12 =>
      refine wp_region_noPanic ?_
      refine wp_region_held_drew (S := Below V3.heap.size V3) (by kernel_rfl) ⟨rfl, rfl, rfl, Nat.le_refl _, fun _ _ => rfl⟩ (fun hc => ?_)
      refine wpAnyH_take (i := 0) (v := .agg (leCells A5 c5 sX)) rfl (by kernel_rfl) (by kernel_rfl) (by kernel_rfl) (fun _ _ _ h => h) (yieldsIf_load_blk (by rfl) 39 (.tmp 7) rfl W8.heap.size rfl 39 _ (0, 0) _ (fun W h => (h.block _ (blk_lt k7)).trans k7) Try.underlying39 rfl le_size) hc ?_
      try simp only [Act.put, List.getElem?_toArray, List.getElem_toArray, List.getElem_cons_zero, List.getElem_cons_succ, List.setIfInBounds_toArray, List.set_cons_zero, List.set_cons_succ]
      refine wpAnyH_take (i := 1) (v := .slice (some ⟨b5, o5, none⟩) sA.length c14) rfl (by kernel_rfl) (by kernel_rfl) (by kernel_rfl) (fun _ _ _ h => h) (Or.inl ⟨by rfl, fun W hW => by rfl⟩) hc ?_
      try simp only [Act.put, List.getElem?_toArray, List.getElem_toArray, List.getElem_cons_zero, List.getElem_cons_succ, List.setIfInBounds_toArray, List.set_cons_zero, List.set_cons_succ]
      refine wpAnyH_take (i := 2) (v := .pointer (some ⟨b5, o5, none⟩)) rfl (by kernel_rfl) (by kernel_rfl) (by kernel_rfl) (fun _ _ _ h => h) (Or.inl ⟨by rfl, fun W hW => by go_simp⟩) hc ?_
      try simp only [Act.put, List.getElem?_toArray, List.getElem_toArray, List.getElem_cons_zero, List.getElem_cons_succ, List.setIfInBounds_toArray, List.set_cons_zero, List.set_cons_succ]
      refine wpAnyH_take (i := 3) (v := .agg #[.bool false, .int .i64 0, .int .i64 1, .slice A15 0 c15]) rfl (by kernel_rfl) (by kernel_rfl) (by kernel_rfl) (fun _ _ _ h => h) (yieldsIf_load_mid (by rfl) 24 (.tmp 125) rfl b5 o5 rfl [.bool false, .int .i64 0, .int .i64 1, .slice A15 0 c15] _ (fun W hW => fun j v hv => (hW.cell (World.block_lt_of_cell? V3 _ (hr5 j v hv))).trans (hr5 j v hv)) Try.underlying24 rfl fr_size) hc ?_
      try simp only [Act.put, List.getElem?_toArray, List.getElem_toArray, List.getElem_cons_zero, List.getElem_cons_succ, List.setIfInBounds_toArray, List.set_cons_zero, List.set_cons_succ]
      refine wpAnyH_ready (rs := [4, 9]) (by kernel_rfl) (by simp) ?_
      refine AllReadyH.cons rfl (fun K hK => ?_) (AllReadyH.cons rfl (fun K hK => ?_) AllReadyH.nil)
      · skip
        go_simp
        go_at_call 21
        refine (recv_as s_e8 A5 A15 c5 c15 _ (by decide) (by decide) (q7.below hc).rd q7.le (RdC.below hp50 hc) hn5).mono ?_
        rintro e V2 ⟨A11, c11, A12, c12, rfl, hqa, hqb, hbr⟩
        refine hK.out _ _ (fw_trans hc hbr) (fun hc2 => ?_)
        clear hK
        try simp only [Act.put, List.getElem?_toArray, List.getElem_toArray, List.getElem_cons_zero, List.getElem_cons_succ, List.setIfInBounds_toArray, List.set_cons_zero, List.set_cons_succ]
        clear hc
        have hc := hc2
        clear hc2 hbr
        refine wpAnyH_take (i := 5) (v := .tuple #[.agg (leCells A11 c11 sZ), .slice A12 0 c12, .int .i64 0]) rfl (by kernel_rfl) (by kernel_rfl) (by kernel_rfl) (fun _ _ _ h => h) (Or.inl ⟨by rfl, fun W hW => by rfl⟩) hc ?_
        try simp only [Act.put, List.getElem?_toArray, List.getElem_toArray, List.getElem_cons_zero, List.getElem_cons_succ, List.setIfInBounds_toArray, List.set_cons_zero, List.set_cons_succ]
        refine wpAnyH_take (i := 6) (v := .agg (leCells A11 c11 sZ)) rfl (by kernel_rfl) (by kernel_rfl) (by kernel_rfl) (fun _ _ _ h => h) (Or.inl ⟨by rfl, fun W hW => by go_simp⟩) hc ?_
        try simp only [Act.put, List.getElem?_toArray, List.getElem_toArray, List.getElem_cons_zero, List.getElem_cons_succ, List.setIfInBounds_toArray, List.set_cons_zero, List.set_cons_succ]
        refine wpAnyH_take (i := 7) (v := .slice A12 0 c12) rfl (by kernel_rfl) (by kernel_rfl) (by kernel_rfl) (fun _ _ _ h => h) (Or.inl ⟨by rfl, fun W hW => by go_simp⟩) hc ?_
        try simp only [Act.put, List.getElem?_toArray, List.getElem_toArray, List.getElem_cons_zero, List.getElem_cons_succ, List.setIfInBounds_toArray, List.set_cons_zero, List.set_cons_succ]
        refine wpAnyH_take (i := 8) (v := .int .i64 0) rfl (by kernel_rfl) (by kernel_rfl) (by kernel_rfl) (fun _ _ _ h => h) (Or.inl ⟨by rfl, fun W hW => by go_simp⟩) hc ?_
        try simp only [Act.put, List.getElem?_toArray, List.getElem_toArray, List.getElem_cons_zero, List.getElem_cons_succ, List.setIfInBounds_toArray, List.set_cons_zero, List.set_cons_succ]
        refine wpAnyH_ready (rs := [9]) (by kernel_rfl) (by simp) ?_
        refine AllReadyH.cons rfl (fun K hK => ?_) AllReadyH.nil
        obtain ⟨g, hg⟩ : ∃ g, V2.heap.size = g := ⟨_, rfl⟩
        have Hnew := Lib.hid (fun o => (show (V2.alloc o).heap[g]? = some o by rw [← hg]; exact heap_alloc_new V2 o))
        have hge : V3.heap.size ≤ g := by rw [← hg]; exact hc.size
        go_simp
        refine hK.out _ _ (fw_al hc _) (fun hc2 => ?_)
        clear hK
        try simp only [Act.put, List.getElem?_toArray, List.getElem_toArray, List.getElem_cons_zero, List.getElem_cons_succ, List.setIfInBounds_toArray, List.set_cons_zero, List.set_cons_succ]
        have hgB := Hnew.out (.cells (leCells none 0 leZ) 39)
        have hqa := hqa.below (fw_new _ (.cells (leCells none 0 leZ) 39))
        have hqb := hqb.below (fw_new _ (.cells (leCells none 0 leZ) 39))
        clear hc hg Hnew
        have hc := hc2
        clear hc2
        refine wpAnyH_ready (rs := [10]) (by kernel_rfl) (by simp) ?_
        refine AllReadyH.cons rfl (fun K hK => ?_) AllReadyH.nil
        rw [if_pos (by rfl)]
        refine wp_store_row 39 (.tmp 19) (.tmp 128) rfl g (leCells A11 c11 sZ) rfl rfl 39 _ hgB le_size rfl (le_one _ _ _ _) ?_
        refine hK.out _ _ (below_setRow hc hge _) (fun hc2 => ?_)
        clear hK
        try simp only [Act.put, List.getElem?_toArray, List.getElem_toArray, List.getElem_cons_zero, List.getElem_cons_succ, List.setIfInBounds_toArray, List.set_cons_zero, List.set_cons_succ]
        have hgE := setRow_heap _ _ _ (leCells A11 c11 sZ) _ _ hgB
        have hqa2 := hqa.other hgB (upd_row' _ g (leCells A11 c11 sZ)) (by intro i x; rcases i with _ | _ | _ | _ | _ | _ | i <;> simp [leCells]) (by intro hne i h; first | exact absurd rfl hne | (have h0 := h 0 (by decide); rcases i with _ | _ | _ | _ | _ | _ | i <;> simp [leCells, leZ, sZ] at h0))
        have hqb2 := hqb.other hgB (upd_row' _ g (leCells A11 c11 sZ)) (by intro i x; rcases i with _ | _ | _ | _ | _ | _ | i <;> simp [leCells]) (by intro hne i h; first | exact absurd rfl hne | (have h0 := h 0 (by decide); rcases i with _ | _ | _ | _ | _ | _ | i <;> simp [leCells, leZ] at h0))
        clear hc
        have hc := hc2
        refine wpAnyH_take (i := 11) (v := .slice A12 0 c12) rfl (by kernel_rfl) (by kernel_rfl) (by kernel_rfl) (fun _ _ _ h => h) (Or.inl ⟨by rfl, fun W hW => by rfl⟩) hc ?_
        try simp only [Act.put, List.getElem?_toArray, List.getElem_toArray, List.getElem_cons_zero, List.getElem_cons_succ, List.setIfInBounds_toArray, List.set_cons_zero, List.set_cons_succ]
        refine wpAnyH_take (i := 12) (v := .int .i64 0) rfl (by kernel_rfl) (by kernel_rfl) (by kernel_rfl) (fun _ _ _ h => h) (Or.inl ⟨by rfl, fun W hW => by rfl⟩) hc ?_
        try simp only [Act.put, List.getElem?_toArray, List.getElem_toArray, List.getElem_cons_zero, List.getElem_cons_succ, List.setIfInBounds_toArray, List.set_cons_zero, List.set_cons_succ]
        refine wpAnyH_done (by kernel_rfl) ?_ _
        refine NoPanic.normal ?_
        refine ⟨rfl, g, A11, c11, A12, c12, ⟨hc, hgE, hge, hqa2, hqb2⟩, ?_⟩
        with_unfolding_all exact Eq.refl _
      · skip
        obtain ⟨g, hg⟩ : ∃ g, V3.heap.size = g := ⟨_, rfl⟩
        have Hnew := Lib.hid (fun o => (show (V3.drew.alloc o).heap[g]? = some o by rw [← hg]; exact heap_alloc_new V3.drew o))
        have hge : V3.heap.size ≤ g := by rw [← hg]; exact hc.size
        go_simp
        refine hK.out _ _ (fw_al hc _) (fun hc2 => ?_)
        clear hK
        try simp only [Act.put, List.getElem?_toArray, List.getElem_toArray, List.getElem_cons_zero, List.getElem_cons_succ, List.setIfInBounds_toArray, List.set_cons_zero, List.set_cons_succ]
        have hgB := Hnew.out (.cells (leCells none 0 leZ) 39)
        clear hc hg Hnew
        have hc := hc2
        clear hc2
        refine wpAnyH_ready (rs := [4]) (by kernel_rfl) (by simp) ?_
        refine AllReadyH.cons rfl (fun K hK => ?_) AllReadyH.nil
        go_simp
        go_at_call 21
        refine (recv_as s_e8 A5 A15 c5 c15 _ (by decide) (by decide) (q7.below hc).rd q7.le (RdC.below hp50 hc) hn5).mono ?_
        rintro e V2 ⟨A11, c11, A12, c12, rfl, hqa, hqb, hbr⟩
        refine hK.out _ _ (fw_trans hc hbr) (fun hc2 => ?_)
        clear hK
        try simp only [Act.put, List.getElem?_toArray, List.getElem_toArray, List.getElem_cons_zero, List.getElem_cons_succ, List.setIfInBounds_toArray, List.set_cons_zero, List.set_cons_succ]
        have hgB := blk_below hgB hbr
        clear hc
        have hc := hc2
        clear hc2 hbr
        refine wpAnyH_take (i := 5) (v := .tuple #[.agg (leCells A11 c11 sZ), .slice A12 0 c12, .int .i64 0]) rfl (by kernel_rfl) (by kernel_rfl) (by kernel_rfl) (fun _ _ _ h => h) (Or.inl ⟨by rfl, fun W hW => by rfl⟩) hc ?_
        try simp only [Act.put, List.getElem?_toArray, List.getElem_toArray, List.getElem_cons_zero, List.getElem_cons_succ, List.setIfInBounds_toArray, List.set_cons_zero, List.set_cons_succ]
        refine wpAnyH_take (i := 6) (v := .agg (leCells A11 c11 sZ)) rfl (by kernel_rfl) (by kernel_rfl) (by kernel_rfl) (fun _ _ _ h => h) (Or.inl ⟨by rfl, fun W hW => by go_simp⟩) hc ?_
        try simp only [Act.put, List.getElem?_toArray, List.getElem_toArray, List.getElem_cons_zero, List.getElem_cons_succ, List.setIfInBounds_toArray, List.set_cons_zero, List.set_cons_succ]
        refine wpAnyH_take (i := 7) (v := .slice A12 0 c12) rfl (by kernel_rfl) (by kernel_rfl) (by kernel_rfl) (fun _ _ _ h => h) (Or.inl ⟨by rfl, fun W hW => by go_simp⟩) hc ?_
        try simp only [Act.put, List.getElem?_toArray, List.getElem_toArray, List.getElem_cons_zero, List.getElem_cons_succ, List.setIfInBounds_toArray, List.set_cons_zero, List.set_cons_succ]
        refine wpAnyH_take (i := 8) (v := .int .i64 0) rfl (by kernel_rfl) (by kernel_rfl) (by kernel_rfl) (fun _ _ _ h => h) (Or.inl ⟨by rfl, fun W hW => by go_simp⟩) hc ?_
        try simp only [Act.put, List.getElem?_toArray, List.getElem_toArray, List.getElem_cons_zero, List.getElem_cons_succ, List.setIfInBounds_toArray, List.set_cons_zero, List.set_cons_succ]
        refine wpAnyH_ready (rs := [10]) (by kernel_rfl) (by simp) ?_
        refine AllReadyH.cons rfl (fun K hK => ?_) AllReadyH.nil
        rw [if_pos (by rfl)]
        refine wp_store_row 39 (.tmp 19) (.tmp 128) rfl g (leCells A11 c11 sZ) rfl rfl 39 _ hgB le_size rfl (le_one _ _ _ _) ?_
        refine hK.out _ _ (below_setRow hc hge _) (fun hc2 => ?_)
        clear hK
        try simp only [Act.put, List.getElem?_toArray, List.getElem_toArray, List.getElem_cons_zero, List.getElem_cons_succ, List.setIfInBounds_toArray, List.set_cons_zero, List.set_cons_succ]
        have hgE := setRow_heap _ _ _ (leCells A11 c11 sZ) _ _ hgB
        have hqa2 := hqa.other hgB (upd_row' _ g (leCells A11 c11 sZ)) (by intro i x; rcases i with _ | _ | _ | _ | _ | _ | i <;> simp [leCells]) (by intro hne i h; first | exact absurd rfl hne | (have h0 := h 0 (by decide); rcases i with _ | _ | _ | _ | _ | _ | i <;> simp [leCells, leZ, sZ] at h0))
        have hqb2 := hqb.other hgB (upd_row' _ g (leCells A11 c11 sZ)) (by intro i x; rcases i with _ | _ | _ | _ | _ | _ | i <;> simp [leCells]) (by intro hne i h; first | exact absurd rfl hne | (have h0 := h 0 (by decide); rcases i with _ | _ | _ | _ | _ | _ | i <;> simp [leCells, leZ] at h0))
        clear hc
        have hc := hc2
        refine wpAnyH_take (i := 11) (v := .slice A12 0 c12) rfl (by kernel_rfl) (by kernel_rfl) (by kernel_rfl) (fun _ _ _ h => h) (Or.inl ⟨by rfl, fun W hW => by rfl⟩) hc ?_
        try simp only [Act.put, List.getElem?_toArray, List.getElem_toArray, List.getElem_cons_zero, List.getElem_cons_succ, List.setIfInBounds_toArray, List.set_cons_zero, List.set_cons_succ]
        refine wpAnyH_take (i := 12) (v := .int .i64 0) rfl (by kernel_rfl) (by kernel_rfl) (by kernel_rfl) (fun _ _ _ h => h) (Or.inl ⟨by rfl, fun W hW => by rfl⟩) hc ?_
        try simp only [Act.put, List.getElem?_toArray, List.getElem_toArray, List.getElem_cons_zero, List.getElem_cons_succ, List.setIfInBounds_toArray, List.set_cons_zero, List.set_cons_succ]
        refine wpAnyH_done (by kernel_rfl) ?_ _
        refine NoPanic.normal ?_
        refine ⟨rfl, g, A11, c11, A12, c12, ⟨hc, hgE, hge, hqa2, hqb2⟩, ?_⟩
        with_unfolding_all exact Eq.refl _
    case rest12 =>
      intro g19 A16 c16 A17 c17 U ⟨hbU, hg19, hge19, hqz, _⟩
      have hWU := fw_trans hbW3 hbU
      have hBU := fw_trans hB3 hbU
      have k4' := blk_below k4 hbU
      have k7' := blk_below k7 hbU
      have q7' := q7.below hbU
      have qb' := qb.below hbU
      have d0 : U.cell? ⟨b4, o4, none⟩ = some (.bool true) := (hWU.cell (World.block_lt_of_cell? W11 _ (hr0 0 _ rfl))).trans (hr0 0 _ rfl)
      have d1 : U.cell? ⟨b4, o4 + 1, none⟩ = some (.int .i64 0) := (hWU.cell (World.block_lt_of_cell? W11 _ (hr0 1 _ rfl))).trans (hr0 1 _ rfl)
      have d2 : U.cell? ⟨b4, o4 + 4 + 1, none⟩ = some (.int .i64 1) := (hWU.cell (World.block_lt_of_cell? W11 _ (hr1 1 _ rfl))).trans (hr1 1 _ rfl)
      have d3 : U.cell? ⟨b4, o4 + 4 + 2, none⟩ = some (.int .i64 0) := (hWU.cell (World.block_lt_of_cell? W11 _ (hr1 2 _ rfl))).trans (hr1 2 _ rfl)
      have d4 : U.cell? ⟨b5, o5, none⟩ = some (.bool false) := (hbU.cell (World.block_lt_of_cell? V3 _ (hr5 0 _ rfl))).trans (hr5 0 _ rfl)
      have d5 : U.cell? ⟨b5, o5 + 2, none⟩ = some (.int .i64 1) := (hbU.cell (World.block_lt_of_cell? V3 _ (hr5 2 _ rfl))).trans (hr5 2 _ rfl)
      clear hr0 hr1 hr5 hbW3 hB3 k4 k7 q7 qb hge19
      go_wp2_with (first | (refine wpList_load_row rfl 39 (.tmp 7) rfl W8.heap.size rfl 39 (leCells A5 c5 sX) (0, 0) _ k7' Try.underlying39 rfl le_size ?_))
      refine (recv_as s_e9 A5 none c5 0 U (by decide) (by decide) q7'.rd q7'.le (Rd.nil _ _) (fun _ => rfl)).mono ?_
      rintro e U2 ⟨A18, c18, A19, c19, rfl, _, _, hb2⟩
      have hB2 := fw_trans hBU hb2
      have k4 := blk_below k4' hb2
      have k19 := blk_below hg19 hb2
      have qb := qb'.below hb2
      have qz := hqz.below hb2
      clear d0 d1 d2 d3 d4 d5 k4' k7' q7' qb' hg19 hqz hb2 hBU hbU hWU
      go_wp2_with (first | (refine wpList_store_new rfl 39 (.tmp 23) (.tmp 174) rfl (leCells A18 c18 leZ) rfl rfl 39 _ le_size rfl (le_one _ _ _ _) ?_; intro U3 hbU3 _; have k4u := blk_below k4 hbU3; have k19u := blk_below k19 hbU3; obtain ⟨b6, o6, A20, c20, rfl, hc6, _, _, _, hr6⟩ := (qb.below hbU3).rd.at 0 (by decide); have e1 : (convert 22 9 (.slice A20 1 c20)).run Try.prog U3 = .ok (.string ⟨#[97]⟩) U3 := conv_str A20 c20 [97] U3 hr6; have hc6' : U3.cell? ⟨b6, o6, none⟩ = some (.slice A20 1 c20) := hc6; have e2 : U3.cell? ⟨W6.heap.size, 5, none⟩ = some (.int .i64 13) := cellOf k4u rfl; have z0 : U3.cell? ⟨g19, 0, none⟩ = some (.slice A16 1 c16) := cellOf k19u rfl; have z1 : U3.cell? ⟨g19, 1, none⟩ = some (.int .i64 1) := cellOf k19u rfl; have z2 : U3.cell? ⟨g19, 2, none⟩ = some (.int .i64 1) := cellOf k19u rfl; have z3 : U3.cell? ⟨g19, 3, none⟩ = some (.int .i64 0) := cellOf k19u rfl; have z4 : U3.cell? ⟨g19, 4, none⟩ = some (.bool false) := cellOf k19u rfl; have z5 : U3.cell? ⟨g19, 5, none⟩ = some (.int .i64 15) := cellOf k19u rfl; have hBU3 := fw_trans hB2 hbU3; have qz3 := qz.below hbU3; clear hc6 k4u k19u) | (go_at_call 27; refine (check_any A16 c16 sZ U3 (by decide) qz3.rd).mono ?_; rw [s_e10]; rintro e U4 ⟨rfl, hb4⟩))
      go_ret
      exact ⟨rfl, fw_trans hBU3 hb4⟩
end Go.Proofs.Ytpeahilkmlffkaa
