import Derived.Test.YtaoiklfkkipcaaaJAct
set_option linter.unusedSimpArgs false
set_option linter.unusedVariables false
namespace Hd
theorem recsL_mem : ∀ (fuel : Nat) (l : List UInt8) (k : Nat), ∀ x ∈ recsL fuel l k, x.2 ≤ l.length
  | 0, _, _ => by intro x hx; cases hx
  | fuel + 1, l, k => by
    intro x hx
    unfold recsL at hx
    split at hx
    · cases hx
    · cases hd : decN l k with
      | error e => rw [hd] at hx; cases hx
      | ok y =>
        obtain ⟨p, n⟩ := y
        rw [hd] at hx
        simp only at hx
        cases hr : recE p 0 with
        | error e => rw [hr] at hx; cases hx
        | ok z =>
          obtain ⟨r, e⟩ := z
          rw [hr] at hx
          simp only at hx
          split at hx
          · rcases List.mem_cons.1 hx with rfl | hx
            · exact (decN_next hd).2
            · exact recsL_mem fuel l n x hx
          · cases hx
theorem recsN_le (l : List UInt8) : recsN l ≤ l.length := by
  unfold recsN endOf
  cases h : (recsP l).getLast? with
  | none => simp
  | some x => exact recsL_mem _ _ _ x (List.mem_of_getLast? h)
end Hd
namespace Go.Proofs.Ytaoiklfkkipcaaa
open Go Go.RowKit Hd Go.Mem

theorem inB_take {W : World} {A : Option Addr} {c : Nat} {l : List UInt8} (h : InB W A c l) (n : Nat) (hn : n ≤ l.length) : InB W A c (l.take n) := ⟨h.rd.take n, h.nil, by have := h.le; simp; omega, h.cap⟩
theorem dk_nil (A : Option Addr) (c : Nat) (l : List UInt8) : dkCells A none c 0 ⟨l, []⟩ = #[.slice A l.length c, .slice none 0 0] := rfl
theorem InB.zero (w : World) : InB w none 0 [] := ⟨.inl rfl, fun _ => rfl, Nat.le_refl _, Nat.zero_le _⟩
def firstR : Rc := ⟨3, 1, 0, [49, 50], 5, 7, 2, 4⟩
set_option maxRecDepth 100000 in
theorem first_any (w : World) : Calls Try.prog 32 #[] w fun e w' => e = .returned (.agg (rcCells firstR)) ∧ Below w.heap.size w w' := by
  go_enter Try.func32, Try.ntmps32
  go_wp2_with (refine wpList_store_new rfl 38 (.tmp 0) (.tmp 1) rfl (rcCells firstR) rfl rfl 38 _ rc_size rfl (rc_one _) ?_; intro V hbV hvV)
  (try simp only [Exit.inBlock, Exit.then])
  exact bodyPost_ret (results_cell_row rfl _ _ _ _ _ _ _ rfl hvV Try.underlying38 rfl rc_size) rfl ⟨rfl, hbV⟩
set_option maxRecDepth 100000 in
set_option maxHeartbeats 4000000 in
theorem sync_any (A A' : Option Addr) (c c' : Nat) (d : Dk) (w : World) (hd : d.dur.length ≤ 1000000000) (hv : d.vol.length ≤ 1000000000) (hi : InD w A A' c c' d) :
    Calls Try.prog 22 #[.agg (dkCells A A' c c' d)] w (DkPost (syncE d).1 (syncE d).2 w) := by
  have Hi := Lib.hid hi
  have b0 := blk_second w (.cells (dkCells A A' c c' d) 27) (.cells #[.slice none 0 0, .slice none 0 0] 27)
  have b1 := heap_alloc2_new w (.cells (dkCells A A' c c' d) 27) (.cells #[.slice none 0 0, .slice none 0 0] 27)
  have hB0 : Below w.heap.size w ((w.alloc (.cells (dkCells A A' c c' d) 27)).alloc (.cells #[.slice none 0 0, .slice none 0 0] 27)) := fw_al (fw_new _ _) _
  obtain ⟨W0, hW0⟩ : ∃ W0, (w.alloc (.cells (dkCells A A' c c' d) 27)).alloc (.cells #[.slice none 0 0, .slice none 0 0] 27) = W0 := ⟨_, rfl⟩
  rw [hW0] at b0 b1 hB0
  replace b1 : W0.heap[w.heap.size + 1]? = some (.cells (dkCells none none 0 0 dkZ) 27 (0, 0)) := b1
  clear hi
  cases hrd : readE d with
  | error k =>
    have hk : ((k : Int) != 0) = true := by have := readE_err hrd; simpa using this
    have HA := Lib.hid (show syncE d = (dkZ, k) by unfold syncE; rw [hrd])
    have HR := Lib.hid (fun W h => read_er hrd A A' c c' W hd hv h)
    clear hrd
    go_enter Try.func22, Try.ntmps22
    go_wp2_with (first | (refine wpList_load_row rfl 27 (.tmp 1) rfl (w.heap.size) rfl 27 (dkCells A A' c c' d) (0, 0) _ b0 Try.underlying27 rfl dk_size ?_))
    refine (HR.out _ (Hi.out.below hB0)).mono ?_
    rintro e W1 ⟨rfl, hb1⟩
    have hR1 := blk_below b1 hb1
    have hB1 := fw_trans hB0 hb1
    clear b0 b1 hB0 hW0 hb1
    go_wp2_with (first | (refine wpList_store_row rfl 27 (.tmp 2) (.tmp 15) rfl (w.heap.size + 1) (dkCells none none 0 0 dkZ) rfl rfl 27 _ hR1 dk_size rfl (dk_one _ _ _ _ _) ?_))
    (try simp only [Exit.inBlock, Exit.then])
    refine bodyPost_ret (res_ct rfl _ _ (w.heap.size + 1) _ (dkCells none none 0 0 dkZ) _ _ rfl (setRow_heap _ _ _ _ _ _ hR1) Try.underlying27 rfl dk_size) rfl ?_
    exact DkPost.no (d := d) HA.out (below_setRow hB1 (by omega) _)
  | ok ab =>
    obtain ⟨a, b⟩ := ab
    have HA := Lib.hid (show syncE d = (⟨d.dur ++ d.vol, []⟩, 0) by unfold syncE; rw [hrd])
    have HR := Lib.hid (fun W h => read_ok hrd A A' c c' W hd hv h)
    clear hrd
    go_enter Try.func22, Try.ntmps22
    go_wp2_with (first | (refine wpList_load_row rfl 27 (.tmp 1) rfl (w.heap.size) rfl 27 (dkCells A A' c c' d) (0, 0) _ b0 Try.underlying27 rfl dk_size ?_))
    refine (HR.out _ (Hi.out.below hB0)).mono ?_
    rintro e W1 ⟨A1, c1, A2, c2, rfl, _, _, hb1⟩
    have hP1 := blk_below b0 hb1
    have hR1 := blk_below b1 hb1
    have hB1 := fw_trans hB0 hb1
    clear b0 b1 hB0 hW0 hb1
    have c0 : W1.cell? ⟨w.heap.size, 0, none⟩ = some (.slice A d.dur.length c) := cellOf hP1 rfl
    have c1' : W1.cell? ⟨w.heap.size, 1, none⟩ = some (.slice A' d.vol.length c') := cellOf hP1 rfl
    have Hi1 := Lib.hid (Hi.out.below hB1)
    have hg : w.heap.size + 1 < W1.heap.size := blk_lt hR1
    go_wp2_with fail
    refine (cat2_any (cat2_rd Hi1.out.b1 Hi1.out.b2) (by omega)).mono ?_
    rintro e W5 ⟨v5, rfl, hO5, hb5⟩
    obtain ⟨dv, hdv⟩ : ∃ dv, d.dur ++ d.vol = dv := ⟨_, rfl⟩
    rw [hdv] at hO5 HA
    obtain ⟨A5, c5, rfl, _⟩ := inB_own hO5
    have hb9 := fw_trans (fw_new W1 _) hb5
    have hR5 := blk_below hR1 hb9
    have hB5 := fw_trans hB1 hb9
    have HO5 := Lib.hid (own_lower hO5 (show W1.heap.size ≤ _ from (fw_new W1 _).size))
    clear hO5 hb5 c0 c1' hP1
    go_wp2_with (first | (refine wpList_store_row rfl 27 (.tmp 2) (.tmp 23) rfl (w.heap.size + 1) (dkCells A5 none c5 0 ⟨dv, []⟩) rfl rfl 27 _ hR5 dk_size rfl (dk_one _ _ _ _ _) ?_))
    (try simp only [Exit.inBlock, Exit.then])
    refine bodyPost_ret (res_ct rfl _ _ (w.heap.size + 1) _ (dkCells A5 none c5 0 ⟨dv, []⟩) _ _ rfl (setRow_heap _ _ _ _ _ _ hR5) Try.underlying27 rfl dk_size) rfl ?_
    exact DkPost.yes HA.out (below_setRow hB5 (by omega) _) (inB_setRow HO5.out hg) (InB.zero _)
set_option maxRecDepth 100000 in
set_option maxHeartbeats 4000000 in
theorem crash_any (A A' : Option Addr) (c c' : Nat) (d : Dk) (keep : Int) (w : World) (hd : d.dur.length ≤ 1000000000) (hv : d.vol.length ≤ 1000000000) (hi : InD w A A' c c' d) :
    Calls Try.prog 26 #[.agg (dkCells A A' c c' d), .int .i64 keep] w (DkPost (crashE d keep).1 (crashE d keep).2 w) := by
  have Hi := Lib.hid hi
  have b0 := blk_second w (.cells (dkCells A A' c c' d) 27) (.cells #[.slice none 0 0, .slice none 0 0] 27)
  have b1 := heap_alloc2_new w (.cells (dkCells A A' c c' d) 27) (.cells #[.slice none 0 0, .slice none 0 0] 27)
  have hB0 : Below w.heap.size w ((w.alloc (.cells (dkCells A A' c c' d) 27)).alloc (.cells #[.slice none 0 0, .slice none 0 0] 27)) := fw_al (fw_new _ _) _
  obtain ⟨W0, hW0⟩ : ∃ W0, (w.alloc (.cells (dkCells A A' c c' d) 27)).alloc (.cells #[.slice none 0 0, .slice none 0 0] 27) = W0 := ⟨_, rfl⟩
  rw [hW0] at b0 b1 hB0
  replace b1 : W0.heap[w.heap.size + 1]? = some (.cells (dkCells none none 0 0 dkZ) 27 (0, 0)) := b1
  clear hi
  cases hrd : readE d with
  | error k =>
    have hk : ((k : Int) != 0) = true := by have := readE_err hrd; simpa using this
    have HA := Lib.hid (show crashE d keep = (dkZ, k) by unfold crashE; rw [hrd])
    have HR := Lib.hid (fun W h => read_er hrd A A' c c' W hd hv h)
    clear hrd
    go_enter Try.func26, Try.ntmps26
    go_wp2_with (first | (refine wpList_load_row rfl 27 (.tmp 2) rfl (w.heap.size) rfl 27 (dkCells A A' c c' d) (0, 0) _ b0 Try.underlying27 rfl dk_size ?_))
    refine (HR.out _ (Hi.out.below hB0)).mono ?_
    rintro e W1 ⟨rfl, hb1⟩
    have hR1 := blk_below b1 hb1
    have hB1 := fw_trans hB0 hb1
    clear b0 b1 hB0 hW0 hb1
    go_wp2_with (first | (refine wpList_store_row rfl 27 (.tmp 4) (.tmp 20) rfl (w.heap.size + 1) (dkCells none none 0 0 dkZ) rfl rfl 27 _ hR1 dk_size rfl (dk_one _ _ _ _ _) ?_))
    (try simp only [Exit.inBlock, Exit.then])
    refine bodyPost_ret (res_ct rfl _ _ (w.heap.size + 1) _ (dkCells none none 0 0 dkZ) _ _ rfl (setRow_heap _ _ _ _ _ _ hR1) Try.underlying27 rfl dk_size) rfl ?_
    exact DkPost.no (d := d) HA.out (below_setRow hB1 (by omega) _)
  | ok ab =>
    obtain ⟨a, b⟩ := ab
    have hAE : crashE d keep = if keep < 0 then (dkZ, 1) else (⟨d.dur ++ (keptL d keep).take (recsN (keptL d keep)), []⟩, 0) := by unfold crashE; rw [hrd]
    have HAE := Lib.hid hAE
    have HR := Lib.hid (fun W h => read_ok hrd A A' c c' W hd hv h)
    clear hrd hAE
    by_cases h0k : keep < 0
    · have gk : (keep < 0) = True := eq_true h0k
      have HA := Lib.hid (show crashE d keep = (dkZ, 1) by rw [HAE.out, if_pos h0k])
      go_enter Try.func26, Try.ntmps26
      go_wp2_with (first | (refine wpList_load_row rfl 27 (.tmp 2) rfl (w.heap.size) rfl 27 (dkCells A A' c c' d) (0, 0) _ b0 Try.underlying27 rfl dk_size ?_))
      refine (HR.out _ (Hi.out.below hB0)).mono ?_
      rintro e W1 ⟨A1, c1, A2, c2, rfl, _, _, hb1⟩
      have hP1 := blk_below b0 hb1
      have hR1 := blk_below b1 hb1
      have hB1 := fw_trans hB0 hb1
      clear b0 b1 hB0 hW0 hb1
      go_wp2_with (first | (refine wpList_store_row rfl 27 (.tmp 4) (.tmp 24) rfl (w.heap.size + 1) (dkCells none none 0 0 dkZ) rfl rfl 27 _ hR1 dk_size rfl (dk_one _ _ _ _ _) ?_))
      (try simp only [Exit.inBlock, Exit.then])
      refine bodyPost_ret (res_ct rfl _ _ (w.heap.size + 1) _ (dkCells none none 0 0 dkZ) _ _ rfl (setRow_heap _ _ _ _ _ _ hR1) Try.underlying27 rfl dk_size) rfl ?_
      exact DkPost.no (d := d) HA.out (below_setRow hB1 (by omega) _)
    have gk : (keep < 0) = False := eq_false h0k
    have HA := Lib.hid (show crashE d keep = (⟨d.dur ++ (keptL d keep).take (recsN (keptL d keep)), []⟩, 0) by rw [HAE.out, if_neg h0k])
    have hml : min keep.toNat d.vol.length ≤ d.vol.length := Nat.min_le_right _ _
    have hmin : (if (d.vol.length : Int) < keep then (d.vol.length : Int) else keep) = ((min keep.toNat d.vol.length : Nat) : Int) := by split <;> omega
    have hkl : (keptL d keep).length = min keep.toNat d.vol.length := by unfold keptL; simp
    have Hkp := Lib.hid (fun (W : World) (h : InB W A' c' d.vol) => (show InB W A' c' (keptL d keep) from inB_take h _ hml))
    have hc' := Hi.out.le'
    generalize min keep.toNat d.vol.length = m at *
    generalize keptL d keep = kp at *
    subst hkl
    have hnl := recsN_le kp
    have hsl := slc_h 25 5 Try.underlying25 (by kernel_rfl) A' d.vol.length c' (kp.length : Int) kp.length rfl (by omega)
    have hsl2 := slc_h 25 5 Try.underlying25 (by kernel_rfl) A' kp.length c' (recsN kp : Int) (recsN kp) rfl (by omega)
    clear HAE h0k
    go_enter Try.func26, Try.ntmps26
    go_wp2_with (first | (refine wpList_load_row rfl 27 (.tmp 2) rfl (w.heap.size) rfl 27 (dkCells A A' c c' d) (0, 0) _ b0 Try.underlying27 rfl dk_size ?_))
    refine (HR.out _ (Hi.out.below hB0)).mono ?_
    rintro e W1 ⟨A1, c1, A2, c2, rfl, _, _, hb1⟩
    have hP1 := blk_below b0 hb1
    have hR1 := blk_below b1 hb1
    have hB1 := fw_trans hB0 hb1
    clear b0 b1 hB0 hW0 hb1
    have c1' : W1.cell? ⟨w.heap.size, 1, none⟩ = some (.slice A' d.vol.length c') := cellOf hP1 rfl
    have Hi1 := Lib.hid (Hi.out.below hB1)
    have Hk1 := Lib.hid (Hkp.out W1 Hi1.out.b2)
    go_wp2_with fail
    refine (jscan_any A' c' kp W1 (by omega) (by omega) Hk1.out.rd).mono ?_
    rintro e W2 ⟨v2, rfl, _, hn2, hb2⟩
    have hP2 := blk_below hP1 hb2
    have hR2 := blk_below hR1 hb2
    have hB2 := fw_trans hB1 hb2
    have Hi2 := Lib.hid (Hi1.out.below hb2)
    have Hk2 := Lib.hid (Hk1.out.below hb2)
    have hw1g : w.heap.size + 1 < W1.heap.size := blk_lt hR1
    have hg2 : w.heap.size + 1 < W2.heap.size := blk_lt hR2
    have HU := Lib.hid (fun W h => used_any (W1.heap.size + 1) (recsN kp : Int) W h)
    clear hP1 hR1 hB1 c1' Hk1 hb2 Hi1
    go_wp2_with fail
    refine wp_region_noPanic ?_
    have hd2 : Below W2.heap.size W2 W2.drew := ⟨rfl, rfl, rfl, Nat.le_refl _, fun _ _ => rfl⟩
    refine wp_region_held_drew (S := fun W => But (w.heap.size + 1) W2 W) (by kernel_rfl) (But.of_below hd2) (fun h0 => ?_)
    refine wpAnyH_take (i := 0) (v := .pointer (some ⟨w.heap.size, 0, none⟩)) rfl (by kernel_rfl) (by kernel_rfl) (by kernel_rfl) (fun _ _ _ h => h) (Or.inl ⟨by rfl, fun W hW => by go_simp⟩) h0 ?_
    try simp only [Act.put, List.getElem?_toArray, List.getElem_toArray, List.getElem_cons_zero, List.getElem_cons_succ, List.setIfInBounds_toArray, List.set_cons_zero, List.set_cons_succ]
    refine wpAnyH_take (i := 1) (v := .slice A d.dur.length c) rfl (by kernel_rfl) (by kernel_rfl) (by kernel_rfl) (fun _ _ _ h => h) (Or.inl ⟨by rfl, fun W hW => by have hz : W.cell? ⟨w.heap.size, 0, none⟩ = some (.slice A d.dur.length c) := cellOf (hW.blkOf hP2 (by omega)) rfl; go_simp⟩) h0 ?_
    try simp only [Act.put, List.getElem?_toArray, List.getElem_toArray, List.getElem_cons_zero, List.getElem_cons_succ, List.setIfInBounds_toArray, List.set_cons_zero, List.set_cons_succ]
    refine wpAnyH_take (i := 2) (v := .slice A' kp.length c') rfl (by kernel_rfl) (by kernel_rfl) (by kernel_rfl) (fun _ _ _ h => h) (Or.inl ⟨by rfl, fun W hW => by rfl⟩) h0 ?_
    try simp only [Act.put, List.getElem?_toArray, List.getElem_toArray, List.getElem_cons_zero, List.getElem_cons_succ, List.setIfInBounds_toArray, List.set_cons_zero, List.set_cons_succ]
    refine wpAnyH_take (i := 3) (v := .func (.func 54) #[] #[.pointer (some ⟨W1.heap.size + 1, 0, none⟩)]) rfl (by kernel_rfl) (by kernel_rfl) (by kernel_rfl) (fun _ _ _ h => h) (Or.inl ⟨by rfl, fun W hW => by rfl⟩) h0 ?_
    try simp only [Act.put, List.getElem?_toArray, List.getElem_toArray, List.getElem_cons_zero, List.getElem_cons_succ, List.setIfInBounds_toArray, List.set_cons_zero, List.set_cons_succ]
    refine wpAnyH_ready (rs := [4]) (by kernel_rfl) (by simp) ?_
    refine AllReadyH.cons rfl (fun K hK => ?_) AllReadyH.nil
    go_simp
    go_at_call 54
    refine (HU.out W2.drew hn2).mono ?_
    rintro e w' ⟨rfl, rfl⟩
    refine hK.out _ _ h0 (fun h1 => ?_)
    clear hK h1
    try simp only [Act.put, List.getElem?_toArray, List.getElem_toArray, List.getElem_cons_zero, List.getElem_cons_succ, List.setIfInBounds_toArray, List.set_cons_zero, List.set_cons_succ]
    refine wpAnyH_take (i := 5) (v := .slice A' (recsN kp) c') rfl (by kernel_rfl) (by kernel_rfl) (by kernel_rfl) (fun _ _ _ h => h) (Or.inl ⟨by rfl, fun W hW => by go_simp⟩) h0 ?_
    try simp only [Act.put, List.getElem?_toArray, List.getElem_toArray, List.getElem_cons_zero, List.getElem_cons_succ, List.setIfInBounds_toArray, List.set_cons_zero, List.set_cons_succ]
    refine wpAnyH_ready (rs := [6]) (by kernel_rfl) (by simp) ?_
    refine AllReadyH.cons rfl (fun K hK => ?_) AllReadyH.nil
    go_simp
    refine hK.out _ _ (h0.trans (But.of_below (fw_new _ _))) (fun h1 => ?_)
    clear hK h0
    try simp only [Act.put, List.getElem?_toArray, List.getElem_toArray, List.getElem_cons_zero, List.getElem_cons_succ, List.setIfInBounds_toArray, List.set_cons_zero, List.set_cons_succ]
    refine wpAnyH_ready (rs := [7]) (by kernel_rfl) (by simp) ?_
    refine AllReadyH.cons rfl (fun K hK => ?_) AllReadyH.nil
    go_simp
    go_at_call 47
    have htk : (kp.take (recsN kp)).length = recsN kp := by simp; omega
    have hrd2 := cat2_rd (Hi2.out.b1.below hd2) (inB_take (Hk2.out.below hd2) (recsN kp) hnl)
    rw [htk] at hrd2
    refine (cat2_any hrd2 (by rw [htk]; omega)).mono ?_
    rintro e W5 ⟨v5, rfl, hO5, hb5⟩
    obtain ⟨A5, c5, rfl, _⟩ := inB_own hO5
    have hb9 := fw_trans (fw_al hd2 _) hb5
    have HO5 := Lib.hid (own_lower hO5 (show W2.heap.size ≤ _ from (fw_al hd2 _).size))
    refine hK.out _ _ (h1.trans (But.of_below hb5)) (fun h9 => ?_)
    clear hK h1 hO5 hb5 hrd2
    try simp only [Act.put, List.getElem?_toArray, List.getElem_toArray, List.getElem_cons_zero, List.getElem_cons_succ, List.setIfInBounds_toArray, List.set_cons_zero, List.set_cons_succ]
    refine wpAnyH_take (i := 8) (v := .agg #[.slice A5 (d.dur ++ kp.take (recsN kp)).length c5, .slice none 0 0]) rfl (by kernel_rfl) (by kernel_rfl) (by kernel_rfl) (fun _ _ _ h => h) (Or.inl ⟨by rfl, fun W hW => by go_simp⟩) h9 ?_
    try simp only [Act.put, List.getElem?_toArray, List.getElem_toArray, List.getElem_cons_zero, List.getElem_cons_succ, List.setIfInBounds_toArray, List.set_cons_zero, List.set_cons_succ]
    refine wpAnyH_ready (rs := [9]) (by kernel_rfl) (by simp) ?_
    refine AllReadyH.cons rfl (fun K hK => ?_) AllReadyH.nil
    rw [if_pos (by rfl)]
    refine wp_store_row 27 (.tmp 4) (.tmp 46) rfl (w.heap.size + 1) (dkCells A5 none c5 0 ⟨d.dur ++ kp.take (recsN kp), []⟩) rfl rfl 27 _ (hb9.block _ hg2 |>.trans hR2) dk_size rfl (dk_one _ _ _ _ _) ?_
    have hf := setRow_heap W5 (w.heap.size + 1) _ (dkCells A5 none c5 0 ⟨d.dur ++ kp.take (recsN kp), []⟩) _ _ (hb9.block _ hg2 |>.trans hR2)
    refine hK.out _ _ (h9.trans ⟨rfl, rfl, rfl, by simp [World.setRow], fun k _ hk => setRow_other _ _ _ _ hk⟩) (fun h10 => ?_)
    clear hK
    try simp only [Act.put, List.getElem?_toArray, List.getElem_toArray, List.getElem_cons_zero, List.getElem_cons_succ, List.setIfInBounds_toArray, List.set_cons_zero, List.set_cons_succ]
    refine wpAnyH_take (i := 10) (v := .int .i64 0) rfl (by kernel_rfl) (by kernel_rfl) (by kernel_rfl) (fun _ _ _ h => h) (Or.inl ⟨by rfl, fun W hW => by rfl⟩) h10 ?_
    try simp only [Act.put, List.getElem?_toArray, List.getElem_toArray, List.getElem_cons_zero, List.getElem_cons_succ, List.setIfInBounds_toArray, List.set_cons_zero, List.set_cons_succ]
    refine wpAnyH_done (by kernel_rfl) ?_ _
    refine NoPanic.normal ?_
    go_wp2_with fail
    (try simp only [Exit.inBlock, Exit.then])
    refine bodyPost_ret (res_ct rfl _ _ (w.heap.size + 1) _ (dkCells A5 none c5 0 ⟨d.dur ++ kp.take (recsN kp), []⟩) _ _ rfl hf Try.underlying27 rfl dk_size) rfl ?_
    exact DkPost.yes HA.out (below_setRow (fw_trans hB2 hb9) (by omega) _) (inB_setRow HO5.out hg2) (InB.zero _)
end Go.Proofs.Ytaoiklfkkipcaaa
