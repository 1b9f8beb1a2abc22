import Derived.Test.YtaoiklfkkipcaaaJRead
set_option linter.unusedSimpArgs false
set_option linter.unusedVariables false
namespace Go.Proofs.Ytaoiklfkkipcaaa
open Go Go.RowKit Hd Go.Mem

theorem integer_as {A : Option Addr} {c : Nat} {l : List UInt8} {g N : Nat} {s s' : Int × Nat} {v : Int} {w : World} (h : rdInt l s = (v, s')) (hl : l.length ≤ 140737488351232) (hg : w.heap[g]? = some (.cells (rdCells A c l.length s) 70 (0, 0))) (hr : RdP (· < N) w A (l.map B)) (hN : N ≤ g) (hA : A = none → c = 0) (hc : l.length ≤ c) :
    Calls Try.prog 37 #[.pointer (some ⟨g, 0, none⟩)] w fun e w' => e = .returned (.int .i64 v) ∧ w'.heap[g]? = some (.cells (rdCells A c l.length s') 70 (0, 0)) ∧ But g w w' ∧ RdP (· < N) w' A (l.map B) := by
  refine (integer_any A c l g s w hl hg hr.c hA hc).mono ?_
  rintro e w' ⟨h1, h2, h3⟩
  rw [h] at h1 h2
  exact ⟨h1, h2, h3, hr.move (fun b hb hl => h3.blk b hl (by have : b < N := hb; omega)) (fun _ h _ => h)⟩
theorem text_as {A : Option Addr} {c : Nat} {l : List UInt8} {g N : Nat} {s s' : Int × Nat} {v : List UInt8} {w : World} (h : rdStr l s = (v, s')) (hl : l.length ≤ 140737488351232) (hg : w.heap[g]? = some (.cells (rdCells A c l.length s) 70 (0, 0))) (hr : RdP (· < N) w A (l.map B)) (hN : N ≤ g) (hA : A = none → c = 0) (hc : l.length ≤ c) :
    Calls Try.prog 38 #[.pointer (some ⟨g, 0, none⟩)] w fun e w' => e = .returned (.string ⟨v.toArray⟩) ∧ w'.heap[g]? = some (.cells (rdCells A c l.length s') 70 (0, 0)) ∧ But g w w' ∧ RdP (· < N) w' A (l.map B) := by
  refine (text_any A c l g s w hl hg hr.c hA hc).mono ?_
  rintro e w' ⟨h1, h2, h3⟩
  rw [h] at h1 h2
  exact ⟨h1, h2, h3, hr.move (fun b hb hl => h3.blk b hl (by have : b < N := hb; omega)) (fun _ h _ => h)⟩
/-- what Record comes to -/
def RecPost (l : List UInt8) (at_ : Int) (w : World) (e : Ending) (w' : World) : Prop :=
  Below w.heap.size w w' ∧ match recE l at_ with
    | .ok (r, n) => e = .returned (.tuple #[.agg (rcCells r), .int .i64 n, .int .i64 0])
    | .error k => e = .returned (.tuple #[.agg (rcCells rcZ), .int .i64 0, .int .i64 (k : Int)])
theorem RecPost.err {l : List UInt8} {at_ : Int} {w w' : World} {k : Nat} (hb : Below w.heap.size w w') (h : recE l at_ = .error k) : RecPost l at_ w (.returned (.tuple #[.agg (rcCells rcZ), .int .i64 0, .int .i64 (k : Int)])) w' := by
  refine ⟨hb, ?_⟩
  rw [h]
theorem RecPost.ok {l : List UInt8} {at_ : Int} {w w' : World} {r : Rc} {n : Int} (hb : Below w.heap.size w w') (h : recE l at_ = .ok (r, n)) : RecPost l at_ w (.returned (.tuple #[.agg (rcCells r), .int .i64 n, .int .i64 0])) w' := by
  refine ⟨hb, ?_⟩
  rw [h]
/-- what the record comes to, kept shut -/
@[irreducible] def RecIs (l : List UInt8) (at_ : Int) (r : Rc) (k : Int) (e : Nat) : Prop := recE l at_ = if e ≠ 0 then .error e else .ok (r, k)
theorem RecIs.mk {l : List UInt8} {at_ : Int} {r : Rc} {k : Int} {e : Nat} (h : rdAll l (at_, 0) = (r, (k, e))) : RecIs l at_ r k e := by
  unfold RecIs recE
  rw [h]
theorem RecIs.ok {l : List UInt8} {at_ : Int} {r : Rc} {k : Int} (h : RecIs l at_ r k 0) : recE l at_ = .ok (r, k) := by
  unfold RecIs at h
  rw [h, if_neg (by simp)]
theorem RecIs.err {l : List UInt8} {at_ : Int} {r : Rc} {k : Int} {e : Nat} (h : RecIs l at_ r k e) (he : e ≠ 0) : recE l at_ = .error e := by
  unfold RecIs at h
  rw [h, if_pos he]
set_option maxRecDepth 100000 in
set_option maxHeartbeats 8000000 in
theorem record_any (A : Option Addr) (c : Nat) (l : List UInt8) (at_ : Int) (w : World) (hl : l.length ≤ 140737488351232) (hr : Rd w A l) (hA : A = none → c = 0) (hc : l.length ≤ c) :
    Calls Try.prog 16 #[.slice A l.length c, .int .i64 at_] w (RecPost l at_ w) := by
  obtain ⟨v1, s1, h1⟩ : ∃ v s, rdInt l (at_, 0) = (v, s) := ⟨_, _, rfl⟩
  obtain ⟨v2, s2, h2⟩ : ∃ v s, rdInt l s1 = (v, s) := ⟨_, _, rfl⟩
  obtain ⟨v3, s3, h3⟩ : ∃ v s, rdInt l s2 = (v, s) := ⟨_, _, rfl⟩
  obtain ⟨v4, s4, h4⟩ : ∃ v s, rdStr l s3 = (v, s) := ⟨_, _, rfl⟩
  obtain ⟨v5, s5, h5⟩ : ∃ v s, rdInt l s4 = (v, s) := ⟨_, _, rfl⟩
  obtain ⟨v6, s6, h6⟩ : ∃ v s, rdInt l s5 = (v, s) := ⟨_, _, rfl⟩
  obtain ⟨v7, s7, h7⟩ : ∃ v s, rdInt l s6 = (v, s) := ⟨_, _, rfl⟩
  obtain ⟨v8, s8, h8⟩ : ∃ v s, rdInt l s7 = (v, s) := ⟨_, _, rfl⟩
  have hall : rdAll l (at_, 0) = (⟨v1, v2, v3, v4, v5, v6, v7, v8⟩, s8) := by
    unfold rdAll
    simp only [h1, h2, h3, h4, h5, h6, h7, h8]
  obtain ⟨k8, e8⟩ := s8
  have HE := RecIs.mk hall
  have HA := Lib.hid hA
  have hp : RdP (· < w.heap.size) w A (l.map B) := RdC.p hr
  have hB0 : Below w.heap.size w ((w.alloc (.cells (rcCells rcZ) 38)).alloc (.cells (rdCells A c l.length (at_, 0)) 70)) := fw_al (fw_new _ _) _
  have hz0 := blk_second w (.cells (rcCells rcZ) 38) (.cells (rdCells A c l.length (at_, 0)) 70)
  have hg0 := heap_alloc2_new w (.cells (rcCells rcZ) 38) (.cells (rdCells A c l.length (at_, 0)) 70)
  have hp0 : RdP (· < w.heap.size) ((w.alloc (.cells (rcCells rcZ) 38)).alloc (.cells (rdCells A c l.length (at_, 0)) 70)) A (l.map B) := hp.move (fun b hb _ => hB0.block b hb) (fun _ h _ => h)
  clear hall hp hr hA
  go_enter Try.func16, Try.ntmps16
  go_wp2_with fail
  refine (integer_as h1 hl hg0 hp0 (Nat.le_succ _) HA.out hc).mono ?_
  rintro e W1 ⟨rfl, hg1, hb1, hp1⟩
  have hB1 := hb1.below hB0 (Nat.le_succ _) hB0.size
  have hz1 := hb1.blkOf hz0 (by omega)
  clear hg0 hp0 hB0 hz0
  clear hb1
  go_wp2_with fail
  refine (integer_as h2 hl hg1 hp1 (Nat.le_succ _) HA.out hc).mono ?_
  rintro e W2 ⟨rfl, hg2, hb2, hp2⟩
  have hB2 := hb2.below hB1 (Nat.le_succ _) hB1.size
  have hz2 := hb2.blkOf hz1 (by omega)
  clear hg1 hp1 hB1 hz1
  clear hb2
  go_wp2_with fail
  refine (integer_as h3 hl hg2 hp2 (Nat.le_succ _) HA.out hc).mono ?_
  rintro e W3 ⟨rfl, hg3, hb3, hp3⟩
  have hB3 := hb3.below hB2 (Nat.le_succ _) hB2.size
  have hz3 := hb3.blkOf hz2 (by omega)
  clear hg2 hp2 hB2 hz2
  clear hb3
  go_wp2_with fail
  refine (text_as h4 hl hg3 hp3 (Nat.le_succ _) HA.out hc).mono ?_
  rintro e W4 ⟨rfl, hg4, hb4, hp4⟩
  have hB4 := hb4.below hB3 (Nat.le_succ _) hB3.size
  have hz4 := hb4.blkOf hz3 (by omega)
  clear hg3 hp3 hB3 hz3
  clear hb4
  have hs4 : w.heap.size + 1 < W4.heap.size := blk_lt hg4
  go_wp2_with (first | (refine wpList_store_new rfl 38 (.tmp 8) (.tmp 21) rfl (rcCells ⟨v1, v2, v3, v4, 0, 0, 0, 0⟩) rfl rfl 38 _ rc_size rfl (rc_one _) ?_; intro X hbX hvX; have hgX := blk_below hg4 hbX; have hzX := blk_below hz4 hbX; have hBX := hB4.trans (hbX.mono hB4.size); have hpX := RdP.below hp4 hbX))
  clear hg4 hz4 hB4 hp4 hbX
  refine (integer_as h5 hl hgX hpX (Nat.le_succ _) HA.out hc).mono ?_
  rintro e W5 ⟨rfl, hg5, hb5, hp5⟩
  have hB5 := hb5.below hBX (Nat.le_succ _) hBX.size
  have hz5 := hb5.blkOf hzX (by omega)
  have hv5 := hb5.blkOf hvX (by omega)
  clear hgX hpX hBX hzX hvX hb5
  go_wp2_with fail
  refine (integer_as h6 hl hg5 hp5 (Nat.le_succ _) HA.out hc).mono ?_
  rintro e W6 ⟨rfl, hg6, hb6, hp6⟩
  have hB6 := hb6.below hB5 (Nat.le_succ _) hB5.size
  have hz6 := hb6.blkOf hz5 (by omega)
  have hv6 := hb6.blkOf hv5 (by omega)
  clear hg5 hp5 hB5 hz5 hv5 hb6
  go_wp2_with (first | (refine wpList_store_field rfl 3 (.tmp 26) (.tmp 23) rfl W4.heap.size 4 (.int .i64 v5) rfl rfl rfl 38 _ hv6 (by simp [rcCells]) (by kernel_rfl) ?_; intro Y1 hvY1 u1; have hVY1 := (show Y1.heap[W4.heap.size]? = some (.cells (rcCells ⟨v1, v2, v3, v4, v5, 0, 0, 0⟩) 38 (0, 0)) from hvY1); clear hvY1) | (refine wpList_store_field rfl 3 (.tmp 27) (.tmp 25) rfl W4.heap.size 5 (.int .i64 v6) rfl rfl rfl 38 _ hVY1 (by simp [rcCells]) (by kernel_rfl) ?_; intro Y2 hvY2 u2; have hVY2 := (show Y2.heap[W4.heap.size]? = some (.cells (rcCells ⟨v1, v2, v3, v4, v5, v6, 0, 0⟩) 38 (0, 0)) from hvY2); clear hvY2; have hgY2 := ((u2.other (w.heap.size + 1) (by omega)).trans ((u1.other (w.heap.size + 1) (by omega)).trans hg6)); have hzY2 := ((u2.other w.heap.size (by omega)).trans ((u1.other w.heap.size (by omega)).trans hz6)); have hBY2 := (u2.below (u1.below hB6 (by omega)) (by omega)); have hpY2 : RdP (· < w.heap.size) Y2 A (l.map B) := hp6.move (fun b hb _ => by have : b < w.heap.size := hb; rw [u2.other b (by omega), u1.other b (by omega)]) (fun _ h _ => h)))
  clear hg6 hz6 hB6 hp6 hv6 hVY1 u1 u2
  refine (integer_as h7 hl hgY2 hpY2 (Nat.le_succ _) HA.out hc).mono ?_
  rintro e W7 ⟨rfl, hg7, hb7, hp7⟩
  have hB7 := hb7.below hBY2 (Nat.le_succ _) hBY2.size
  have hz7 := hb7.blkOf hzY2 (by omega)
  have hv7 := hb7.blkOf hVY2 (by omega)
  clear hgY2 hpY2 hBY2 hzY2 hVY2 hb7
  go_wp2_with fail
  refine (integer_as h8 hl hg7 hp7 (Nat.le_succ _) HA.out hc).mono ?_
  rintro e W8 ⟨rfl, hg8, hb8, hp8⟩
  have hB8 := hb8.below hB7 (Nat.le_succ _) hB7.size
  have hz8 := hb8.blkOf hz7 (by omega)
  have hv8 := hb8.blkOf hv7 (by omega)
  clear hg7 hp7 hB7 hz7 hv7 hb8
  by_cases he : e8 = 0
  · subst he
    go_wp2_with (first | (refine wpList_store_field rfl 3 (.tmp 32) (.tmp 29) rfl W4.heap.size 6 (.int .i64 v7) rfl rfl rfl 38 _ hv8 (by simp [rcCells]) (by kernel_rfl) ?_; intro Z1 hvZ1 u3; have hVZ1 := (show Z1.heap[W4.heap.size]? = some (.cells (rcCells ⟨v1, v2, v3, v4, v5, v6, v7, 0⟩) 38 (0, 0)) from hvZ1); clear hvZ1) | (refine wpList_store_field rfl 3 (.tmp 33) (.tmp 31) rfl W4.heap.size 7 (.int .i64 v8) rfl rfl rfl 38 _ hVZ1 (by simp [rcCells]) (by kernel_rfl) ?_; intro Z2 hvZ2 u4; have hVZ2 := (show Z2.heap[W4.heap.size]? = some (.cells (rcCells ⟨v1, v2, v3, v4, v5, v6, v7, v8⟩) 38 (0, 0)) from hvZ2); clear hvZ2; have hgZ2 := ((u4.other (w.heap.size + 1) (by omega)).trans ((u3.other (w.heap.size + 1) (by omega)).trans hg8)); have hzZ2 := ((u4.other w.heap.size (by omega)).trans ((u3.other w.heap.size (by omega)).trans hz8)); have hBZ2 := (u4.below (u3.below hB8 (by omega)) (by omega)); have hpZ2 : RdP (· < w.heap.size) Z2 A (l.map B) := hp8.move (fun b hb _ => by have : b < w.heap.size := hb; rw [u4.other b (by omega), u3.other b (by omega)]) (fun _ h _ => h); have d0 : Z2.cell? ⟨w.heap.size + 1, 2, none⟩ = some (.int .i64 0) := cellOf hgZ2 rfl))
    clear hg8 hz8 hB8 hp8 hv8 hVZ1 u3 u4 hpZ2
    refine wp_region_noPanic ?_
    refine wp_region_held_drew (S := fun W => W.heap[w.heap.size + 1]? = some (.cells (rdCells A c l.length (k8, 0)) 70 (0, 0)) ∧ W.heap[W4.heap.size]? = some (.cells (rcCells ⟨v1, v2, v3, v4, v5, v6, v7, v8⟩) 38 (0, 0))) (by kernel_rfl) ⟨hgZ2, hVZ2⟩ (fun h0 => ?_)
    refine wpAnyH_take (i := 0) (v := .agg (rcCells ⟨v1, v2, v3, v4, v5, v6, v7, v8⟩)) rfl (by kernel_rfl) (by kernel_rfl) (by kernel_rfl) (fun _ _ _ h => h) (yieldsIf_load_blk (by rfl) 38 (.tmp 8) rfl (W4.heap.size) rfl 38 _ (0, 0) _ (fun W h => h.2) Try.underlying38 rfl rc_size) h0 ?_
    try simp only [Act.put, List.getElem?_toArray, List.getElem_toArray, List.getElem_cons_zero, List.getElem_cons_succ, List.setIfInBounds_toArray, List.set_cons_zero, List.set_cons_succ]
    refine wpAnyH_take (i := 1) (v := .pointer (some ⟨w.heap.size + 1, 0, none⟩)) rfl (by kernel_rfl) (by kernel_rfl) (by kernel_rfl) (fun _ _ _ h => h) (Or.inl ⟨by rfl, fun W hW => by rfl⟩) h0 ?_
    try simp only [Act.put, List.getElem?_toArray, List.getElem_toArray, List.getElem_cons_zero, List.getElem_cons_succ, List.setIfInBounds_toArray, List.set_cons_zero, List.set_cons_succ]
    refine wpAnyH_take (i := 2) (v := .pointer (some ⟨w.heap.size + 1, 0, none⟩)) rfl (by kernel_rfl) (by kernel_rfl) (by kernel_rfl) (fun _ _ _ h => h) (Or.inl ⟨by rfl, fun W hW => by go_simp⟩) h0 ?_
    try simp only [Act.put, List.getElem?_toArray, List.getElem_toArray, List.getElem_cons_zero, List.getElem_cons_succ, List.setIfInBounds_toArray, List.set_cons_zero, List.set_cons_succ]
    refine wpAnyH_take (i := 3) (v := .pointer (some ⟨w.heap.size + 1, 1, none⟩)) rfl (by kernel_rfl) (by kernel_rfl) (by kernel_rfl) (fun _ _ _ h => h) (Or.inl ⟨by rfl, fun W hW => by go_simp⟩) h0 ?_
    try simp only [Act.put, List.getElem?_toArray, List.getElem_toArray, List.getElem_cons_zero, List.getElem_cons_succ, List.setIfInBounds_toArray, List.set_cons_zero, List.set_cons_succ]
    refine wpAnyH_take (i := 4) (v := .int .i64 k8) rfl (by kernel_rfl) (by kernel_rfl) (by kernel_rfl) (fun _ _ _ h => h) (Or.inl ⟨by rfl, fun W hW => by have hz : W.cell? ⟨w.heap.size + 1, 1, none⟩ = some (.int .i64 k8) := cellOf hW.1 rfl; go_simp⟩) h0 ?_
    try simp only [Act.put, List.getElem?_toArray, List.getElem_toArray, List.getElem_cons_zero, List.getElem_cons_succ, List.setIfInBounds_toArray, List.set_cons_zero, List.set_cons_succ]
    refine wpAnyH_take (i := 5) (v := .pointer (some ⟨w.heap.size + 1, 0, none⟩)) rfl (by kernel_rfl) (by kernel_rfl) (by kernel_rfl) (fun _ _ _ h => h) (Or.inl ⟨by rfl, fun W hW => by rfl⟩) h0 ?_
    try simp only [Act.put, List.getElem?_toArray, List.getElem_toArray, List.getElem_cons_zero, List.getElem_cons_succ, List.setIfInBounds_toArray, List.set_cons_zero, List.set_cons_succ]
    refine wpAnyH_take (i := 6) (v := .pointer (some ⟨w.heap.size + 1, 0, none⟩)) rfl (by kernel_rfl) (by kernel_rfl) (by kernel_rfl) (fun _ _ _ h => h) (Or.inl ⟨by rfl, fun W hW => by go_simp⟩) h0 ?_
    try simp only [Act.put, List.getElem?_toArray, List.getElem_toArray, List.getElem_cons_zero, List.getElem_cons_succ, List.setIfInBounds_toArray, List.set_cons_zero, List.set_cons_succ]
    refine wpAnyH_take (i := 7) (v := .pointer (some ⟨w.heap.size + 1, 2, none⟩)) rfl (by kernel_rfl) (by kernel_rfl) (by kernel_rfl) (fun _ _ _ h => h) (Or.inl ⟨by rfl, fun W hW => by go_simp⟩) h0 ?_
    try simp only [Act.put, List.getElem?_toArray, List.getElem_toArray, List.getElem_cons_zero, List.getElem_cons_succ, List.setIfInBounds_toArray, List.set_cons_zero, List.set_cons_succ]
    refine wpAnyH_take (i := 8) (v := .int .i64 0) rfl (by kernel_rfl) (by kernel_rfl) (by kernel_rfl) (fun _ _ _ h => h) (Or.inl ⟨by rfl, fun W hW => by have hz : W.cell? ⟨w.heap.size + 1, 2, none⟩ = some (.int .i64 0) := cellOf hW.1 rfl; go_simp⟩) h0 ?_
    try simp only [Act.put, List.getElem?_toArray, List.getElem_toArray, List.getElem_cons_zero, List.getElem_cons_succ, List.setIfInBounds_toArray, List.set_cons_zero, List.set_cons_succ]
    refine wpAnyH_ready (rs := [9]) (by kernel_rfl) (by simp) ?_
    refine AllReadyH.cons rfl (fun K hK => ?_) AllReadyH.nil
    rw [if_pos (by rfl)]
    refine wp_store_row 38 (.tmp 4) (.tmp 44) rfl w.heap.size (rcCells ⟨v1, v2, v3, v4, v5, v6, v7, v8⟩) rfl rfl 38 _ (show Z2.drew.heap[w.heap.size]? = _ from hzZ2) rc_size rfl (rc_one _) ?_
    have hzf := setRow_heap Z2.drew w.heap.size _ (rcCells ⟨v1, v2, v3, v4, v5, v6, v7, v8⟩) _ _ hzZ2
    have hBf := below_setRow (show Below w.heap.size w Z2.drew from ⟨hBZ2.os, hBZ2.tape, hBZ2.output, hBZ2.size, hBZ2.block⟩) (Nat.le_refl _) (rcCells ⟨v1, v2, v3, v4, v5, v6, v7, v8⟩)
    refine hK.out _ _ ⟨(setRow_other _ _ _ _ (by omega)).trans h0.1, (setRow_other _ _ _ _ (by omega)).trans h0.2⟩ (fun h9 => ?_)
    clear hK h0
    try simp only [Act.put, List.getElem?_toArray, List.getElem_toArray, List.getElem_cons_zero, List.getElem_cons_succ, List.setIfInBounds_toArray, List.set_cons_zero, List.set_cons_succ]
    refine wpAnyH_take (i := 10) (v := .int .i64 k8) rfl (by kernel_rfl) (by kernel_rfl) (by kernel_rfl) (fun _ _ _ h => h) (Or.inl ⟨by rfl, fun W hW => by rfl⟩) h9 ?_
    try simp only [Act.put, List.getElem?_toArray, List.getElem_toArray, List.getElem_cons_zero, List.getElem_cons_succ, List.setIfInBounds_toArray, List.set_cons_zero, List.set_cons_succ]
    refine wpAnyH_take (i := 11) (v := .int .i64 0) rfl (by kernel_rfl) (by kernel_rfl) (by kernel_rfl) (fun _ _ _ h => h) (Or.inl ⟨by rfl, fun W hW => by rfl⟩) h9 ?_
    try simp only [Act.put, List.getElem?_toArray, List.getElem_toArray, List.getElem_cons_zero, List.getElem_cons_succ, List.setIfInBounds_toArray, List.set_cons_zero, List.set_cons_succ]
    refine wpAnyH_done (by kernel_rfl) ?_ _
    refine NoPanic.normal ?_
    go_wp2_with fail
    (try simp only [Exit.inBlock, Exit.then])
    refine bodyPost_ret (res_ctt rfl _ _ w.heap.size _ (rcCells ⟨v1, v2, v3, v4, v5, v6, v7, v8⟩) _ _ rfl hzf Try.underlying38 rfl rc_size) rfl ?_
    exact RecPost.ok hBf (HE.ok)
  · have hne : ((e8 : Int) != 0) = true := by simpa using he
    go_wp2_with (first | (refine wpList_store_field rfl 3 (.tmp 32) (.tmp 29) rfl W4.heap.size 6 (.int .i64 v7) rfl rfl rfl 38 _ hv8 (by simp [rcCells]) (by kernel_rfl) ?_; intro Z1 hvZ1 u3; have hVZ1 := (show Z1.heap[W4.heap.size]? = some (.cells (rcCells ⟨v1, v2, v3, v4, v5, v6, v7, 0⟩) 38 (0, 0)) from hvZ1); clear hvZ1) | (refine wpList_store_field rfl 3 (.tmp 33) (.tmp 31) rfl W4.heap.size 7 (.int .i64 v8) rfl rfl rfl 38 _ hVZ1 (by simp [rcCells]) (by kernel_rfl) ?_; intro Z2 hvZ2 u4; have hVZ2 := (show Z2.heap[W4.heap.size]? = some (.cells (rcCells ⟨v1, v2, v3, v4, v5, v6, v7, v8⟩) 38 (0, 0)) from hvZ2); clear hvZ2; have hgZ2 := ((u4.other (w.heap.size + 1) (by omega)).trans ((u3.other (w.heap.size + 1) (by omega)).trans hg8)); have hzZ2 := ((u4.other w.heap.size (by omega)).trans ((u3.other w.heap.size (by omega)).trans hz8)); have hBZ2 := (u4.below (u3.below hB8 (by omega)) (by omega)); have hpZ2 : RdP (· < w.heap.size) Z2 A (l.map B) := hp8.move (fun b hb _ => by have : b < w.heap.size := hb; rw [u4.other b (by omega), u3.other b (by omega)]) (fun _ h _ => h); have d0 : Z2.cell? ⟨w.heap.size + 1, 2, none⟩ = some (.int .i64 (e8 : Int)) := cellOf hgZ2 rfl))
    clear hg8 hz8 hB8 hp8 hv8 hVZ1 u3 u4 hpZ2
    refine wp_region_noPanic ?_
    refine wp_region_held_drew (S := fun W => W.heap[w.heap.size + 1]? = some (.cells (rdCells A c l.length (k8, e8)) 70 (0, 0)) ∧ W.heap[w.heap.size]? = some (.cells (rcCells rcZ) 38 (0, 0))) (by kernel_rfl) ⟨hgZ2, hzZ2⟩ (fun h0 => ?_)
    refine wpAnyH_take (i := 0) (v := .agg (rcCells rcZ)) rfl (by kernel_rfl) (by kernel_rfl) (by kernel_rfl) (fun _ _ _ h => h) (yieldsIf_load_blk (by rfl) 38 (.tmp 4) rfl (w.heap.size) rfl 38 _ (0, 0) _ (fun W h => h.2) Try.underlying38 rfl rc_size) h0 ?_
    try simp only [Act.put, List.getElem?_toArray, List.getElem_toArray, List.getElem_cons_zero, List.getElem_cons_succ, List.setIfInBounds_toArray, List.set_cons_zero, List.set_cons_succ]
    refine wpAnyH_take (i := 1) (v := .pointer (some ⟨w.heap.size + 1, 0, none⟩)) rfl (by kernel_rfl) (by kernel_rfl) (by kernel_rfl) (fun _ _ _ h => h) (Or.inl ⟨by rfl, fun W hW => by rfl⟩) h0 ?_
    try simp only [Act.put, List.getElem?_toArray, List.getElem_toArray, List.getElem_cons_zero, List.getElem_cons_succ, List.setIfInBounds_toArray, List.set_cons_zero, List.set_cons_succ]
    refine wpAnyH_take (i := 2) (v := .pointer (some ⟨w.heap.size + 1, 0, none⟩)) rfl (by kernel_rfl) (by kernel_rfl) (by kernel_rfl) (fun _ _ _ h => h) (Or.inl ⟨by rfl, fun W hW => by go_simp⟩) h0 ?_
    try simp only [Act.put, List.getElem?_toArray, List.getElem_toArray, List.getElem_cons_zero, List.getElem_cons_succ, List.setIfInBounds_toArray, List.set_cons_zero, List.set_cons_succ]
    refine wpAnyH_take (i := 3) (v := .pointer (some ⟨w.heap.size + 1, 2, none⟩)) rfl (by kernel_rfl) (by kernel_rfl) (by kernel_rfl) (fun _ _ _ h => h) (Or.inl ⟨by rfl, fun W hW => by go_simp⟩) h0 ?_
    try simp only [Act.put, List.getElem?_toArray, List.getElem_toArray, List.getElem_cons_zero, List.getElem_cons_succ, List.setIfInBounds_toArray, List.set_cons_zero, List.set_cons_succ]
    refine wpAnyH_take (i := 4) (v := .int .i64 (e8 : Int)) rfl (by kernel_rfl) (by kernel_rfl) (by kernel_rfl) (fun _ _ _ h => h) (Or.inl ⟨by rfl, fun W hW => by have hz : W.cell? ⟨w.heap.size + 1, 2, none⟩ = some (.int .i64 (e8 : Int)) := cellOf hW.1 rfl; go_simp⟩) h0 ?_
    try simp only [Act.put, List.getElem?_toArray, List.getElem_toArray, List.getElem_cons_zero, List.getElem_cons_succ, List.setIfInBounds_toArray, List.set_cons_zero, List.set_cons_succ]
    refine wpAnyH_ready (rs := [5]) (by kernel_rfl) (by simp) ?_
    refine AllReadyH.cons rfl (fun K hK => ?_) AllReadyH.nil
    rw [if_pos (by rfl)]
    refine wp_store_row 38 (.tmp 4) (.tmp 39) rfl w.heap.size (rcCells rcZ) rfl rfl 38 _ (show Z2.drew.heap[w.heap.size]? = _ from hzZ2) rc_size rfl (rc_one _) ?_
    have hzf := setRow_heap Z2.drew w.heap.size _ (rcCells rcZ) _ _ hzZ2
    have hBf := below_setRow (show Below w.heap.size w Z2.drew from ⟨hBZ2.os, hBZ2.tape, hBZ2.output, hBZ2.size, hBZ2.block⟩) (Nat.le_refl _) (rcCells rcZ)
    refine hK.out _ _ ⟨(setRow_other _ _ _ _ (by omega)).trans h0.1, hzf⟩ (fun h9 => ?_)
    clear hK h0
    try simp only [Act.put, List.getElem?_toArray, List.getElem_toArray, List.getElem_cons_zero, List.getElem_cons_succ, List.setIfInBounds_toArray, List.set_cons_zero, List.set_cons_succ]
    refine wpAnyH_take (i := 6) (v := .int .i64 0) rfl (by kernel_rfl) (by kernel_rfl) (by kernel_rfl) (fun _ _ _ h => h) (Or.inl ⟨by rfl, fun W hW => by rfl⟩) h9 ?_
    try simp only [Act.put, List.getElem?_toArray, List.getElem_toArray, List.getElem_cons_zero, List.getElem_cons_succ, List.setIfInBounds_toArray, List.set_cons_zero, List.set_cons_succ]
    refine wpAnyH_take (i := 7) (v := .int .i64 (e8 : Int)) rfl (by kernel_rfl) (by kernel_rfl) (by kernel_rfl) (fun _ _ _ h => h) (Or.inl ⟨by rfl, fun W hW => by rfl⟩) h9 ?_
    try simp only [Act.put, List.getElem?_toArray, List.getElem_toArray, List.getElem_cons_zero, List.getElem_cons_succ, List.setIfInBounds_toArray, List.set_cons_zero, List.set_cons_succ]
    refine wpAnyH_done (by kernel_rfl) ?_ _
    refine NoPanic.normal ?_
    go_wp2_with fail
    (try simp only [Exit.inBlock, Exit.then])
    refine bodyPost_ret (res_ctt rfl _ _ w.heap.size _ (rcCells rcZ) _ _ rfl hzf Try.underlying38 rfl rc_size) rfl ?_
    exact RecPost.err hBf (HE.err he)
end Go.Proofs.Ytaoiklfkkipcaaa
