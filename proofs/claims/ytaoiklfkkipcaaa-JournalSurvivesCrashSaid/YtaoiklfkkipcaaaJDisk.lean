import Derived.Test.YtaoiklfkkipcaaaJScan2
set_option linter.unusedSimpArgs false
set_option linter.unusedVariables false
namespace Go.Proofs.Ytaoiklfkkipcaaa
open Go Go.RowKit Hd Go.Mem

/-- a disk -/
structure Dk where
  dur : List UInt8
  vol : List UInt8
def dkCells (A A' : Option Addr) (c c' : Nat) (d : Dk) : Array Value := #[.slice A d.dur.length c, .slice A' d.vol.length c']
def readE (d : Dk) : Except Nat (List Rc × List Rc) :=
  if recsN d.dur ≠ d.dur.length ∨ recsN d.vol ≠ d.vol.length then .error 290
  else if 1024 < (recsR d.dur).length + (recsR d.vol).length then .error 2 else .ok (recsR d.dur, recsR d.vol)
/-- a disk that can be read -/
structure InD (w : World) (A A' : Option Addr) (c c' : Nat) (d : Dk) : Prop where
  dur : Rd w A d.dur
  vol : Rd w A' d.vol
  nil : A = none → c = 0
  nil' : A' = none → c' = 0
  le : d.dur.length ≤ c
  le' : d.vol.length ≤ c'
  cap : c ≤ maxLen
  cap' : c' ≤ maxLen
theorem InD.below {w w' : World} {A A' : Option Addr} {c c' : Nat} {d : Dk} (h : InD w A A' c c' d) (hb : Below w.heap.size w w') : InD w' A A' c c' d := ⟨h.dur.below hb, h.vol.below hb, h.nil, h.nil', h.le, h.le', h.cap, h.cap'⟩
def RowR (w : World) (base : Nat) (v : Value) (rs : List Rc) : Prop := w.ownsRow base 38 8 v rs.length (flatR rs)
theorem used_any (g : Nat) (n : Int) (w : World) (h : w.heap[g]? = some (.cells #[.int .i64 n] 3 (0, 0))) :
    Calls Try.prog 54 #[.pointer (some ⟨g, 0, none⟩)] w fun e w' => e = .returned (.int .i64 n) ∧ w' = w := by
  have c0 : w.cell? ⟨g, 0, none⟩ = some (.int .i64 n) := cellOf h rfl
  go_enter Try.func54, Try.ntmps54
  go_wp2_with fail
  go_ret
  exact ⟨rfl, rfl⟩
def ReadP (d : Dk) (w : World) (e : Ending) (w' : World) : Prop :=
  Below w.heap.size w w' ∧ match readE d with
    | .ok (a, b) => ∃ v v', e = .returned (.tuple #[v, v', .int .i64 0]) ∧ RowR w' w.heap.size v a ∧ RowR w' w.heap.size v' b
    | .error k => e = .returned (.tuple #[.slice none 0 0, .slice none 0 0, .int .i64 (k : Int)])
theorem ReadP.err {d : Dk} {w w' : World} {k : Nat} (hb : Below w.heap.size w w') (h : readE d = .error k) : ReadP d w (.returned (.tuple #[.slice none 0 0, .slice none 0 0, .int .i64 (k : Int)])) w' := by
  refine ⟨hb, ?_⟩
  rw [h]
theorem ReadP.ok {d : Dk} {w w' : World} {a b : List Rc} {v v' : Value} (hb : Below w.heap.size w w') (h : readE d = .ok (a, b)) (h1 : RowR w' w.heap.size v a) (h2 : RowR w' w.heap.size v' b) : ReadP d w (.returned (.tuple #[v, v', .int .i64 0])) w' := by
  refine ⟨hb, ?_⟩
  rw [h]
  exact ⟨v, v', rfl, h1, h2⟩
theorem recsP_len (l : List UInt8) : (recsR l).length ≤ l.length := by
  unfold recsR recsP
  rw [List.length_map]
  exact recsL_len _ _ _
theorem own_drew {w : World} {b : Nat} {e : TypeId} {s n : Nat} {v : Value} {xs : List Value} (h : w.ownsRow b e s v n xs) : w.drew.ownsRow b e s v n xs := h
theorem dk_size : (Try.prog.info? 27).map (·.size) = some 2 := by kernel_rfl
set_option maxRecDepth 100000 in
set_option maxHeartbeats 4000000 in
theorem read_any (A A' : Option Addr) (c c' : Nat) (d : Dk) (w : World) (hd : d.dur.length ≤ 1000000000) (hv : d.vol.length ≤ 1000000000) (hi : InD w A A' c c' d) :
    Calls Try.prog 14 #[.agg (dkCells A A' c c' d)] w (ReadP d w) := by
  have Hi := Lib.hid hi
  have h0 := heap_alloc_new w (.cells (dkCells A A' c c' d) 27)
  have hB0 := fw_new w (.cells (dkCells A A' c c' d) 27)
  have e0 : (w.alloc (.cells (dkCells A A' c c' d) 27)).cell? ⟨w.heap.size, 0, none⟩ = some (.slice A d.dur.length c) := cellOf h0 rfl
  obtain ⟨W0, hW0⟩ : ∃ W0, w.alloc (.cells (dkCells A A' c c' d) 27) = W0 := ⟨_, rfl⟩
  rw [hW0] at h0 hB0 e0
  clear hi
  go_enter Try.func14, Try.ntmps14
  go_wp2_with fail
  refine (jscan_any A c d.dur W0 (by omega) Hi.out.le (Hi.out.dur.below hB0)).mono ?_
  rintro e W1 ⟨v1, rfl, ho1, hn1, hb1⟩
  have h1 := blk_below h0 hb1
  have hB1 := fw_trans hB0 hb1
  have e1 : W1.cell? ⟨w.heap.size, 1, none⟩ = some (.slice A' d.vol.length c') := cellOf h1 rfl
  have Ho1 := Lib.hid (own_lower ho1 hB0.size)
  clear ho1 hW0 e0
  go_wp2_with fail
  refine (jscan_any A' c' d.vol W1 (by omega) Hi.out.le' (Hi.out.vol.below hB1)).mono ?_
  rintro e W2 ⟨v2, rfl, ho2, hn2, hb2⟩
  have h2 := blk_below h1 hb2
  have hB2 := fw_trans hB1 hb2
  have hm1 := blk_below hn1 hb2
  have f0 : W2.cell? ⟨w.heap.size, 0, none⟩ = some (.slice A d.dur.length c) := cellOf h2 rfl
  have f1 : W2.cell? ⟨w.heap.size, 1, none⟩ = some (.slice A' d.vol.length c') := cellOf h2 rfl
  have Ho2 : Hid (W2.ownsRow w.heap.size 38 8 v2 (recsR d.vol).length (flatR (recsR d.vol))) := Lib.hid (own_lower ho2 hB1.size)
  have Ho1' := Lib.hid (own_below Ho1.out hb2)
  have hl1 := recsP_len d.dur
  have hl2 := recsP_len d.vol
  obtain ⟨A1, c1, rfl, _⟩ := own_form8 Ho1'.out
  obtain ⟨A2, c2, rfl, _⟩ := own_form8 Ho2.out
  have HU1 := Lib.hid (fun W h => used_any (W0.heap.size + 1) (recsN d.dur : Int) W h)
  have HU2 := Lib.hid (fun W h => used_any (W1.heap.size + 1) (recsN d.vol : Int) W h)
  clear ho2 hb1 hb2 hB1 e1 h1 hn1 Ho1
  by_cases hx : recsN d.dur = d.dur.length
  · have hx1 : ((recsN d.dur : Int) != (d.dur.length : Int)) = false := by simp [hx]
    by_cases hy : recsN d.vol = d.vol.length
    · have hy1 : ((recsN d.vol : Int) != (d.vol.length : Int)) = false := by simp [hy]
      by_cases hm : 1024 < (recsR d.dur).length + (recsR d.vol).length
      · have hg : ((1024 : Int) < ((recsR d.dur).length : Int) + ((recsR d.vol).length : Int)) = True := eq_true (by omega)
        have Hrd := Lib.hid (show readE d = .error 2 by unfold readE; rw [if_neg (by simp [hx, hy]), if_pos hm])
        clear hx hy hm
        go_wp2_with fail
        refine wp_region_noPanic ?_
        refine wp_region_held_drew (S := fun W => W.heap[w.heap.size]? = some (.cells (dkCells A A' c c' d) 27 (0, 0)) ∧ W.heap[W0.heap.size + 1]? = some (.cells #[.int .i64 (recsN d.dur : Int)] 3 (0, 0)) ∧ W.heap[W1.heap.size + 1]? = some (.cells #[.int .i64 (recsN d.vol : Int)] 3 (0, 0))) (by kernel_rfl) ⟨h2, hm1, hn2⟩ (fun h0 => ?_)
        refine wpAnyH_take (i := 0) (v := .func (.func 54) #[] #[.pointer (some ⟨W0.heap.size + 1, 0, none⟩)]) rfl (by kernel_rfl) (by kernel_rfl) (by kernel_rfl) (fun _ _ _ h => h) (Or.inl ⟨by rfl, fun W hW => by rfl⟩) h0 ?_
        try simp only [Act.put, List.getElem?_toArray, List.getElem_toArray, List.getElem_cons_zero, List.getElem_cons_succ, List.setIfInBounds_toArray, List.set_cons_zero, List.set_cons_succ]
        refine wpAnyH_take (i := 2) (v := .pointer (some ⟨w.heap.size, 0, none⟩)) rfl (by kernel_rfl) (by kernel_rfl) (by kernel_rfl) (fun _ _ _ h => h) (Or.inl ⟨by rfl, fun W hW => by go_simp⟩) h0 ?_
        try simp only [Act.put, List.getElem?_toArray, List.getElem_toArray, List.getElem_cons_zero, List.getElem_cons_succ, List.setIfInBounds_toArray, List.set_cons_zero, List.set_cons_succ]
        refine wpAnyH_take (i := 3) (v := .slice A d.dur.length c) rfl (by kernel_rfl) (by kernel_rfl) (by kernel_rfl) (fun _ _ _ h => h) (Or.inl ⟨by rfl, fun W hW => by have hz : W.cell? ⟨w.heap.size, 0, none⟩ = some (.slice A d.dur.length c) := cellOf hW.1 rfl; go_simp⟩) h0 ?_
        try simp only [Act.put, List.getElem?_toArray, List.getElem_toArray, List.getElem_cons_zero, List.getElem_cons_succ, List.setIfInBounds_toArray, List.set_cons_zero, List.set_cons_succ]
        refine wpAnyH_take (i := 4) (v := .int .i64 (d.dur.length : Int)) rfl (by kernel_rfl) (by kernel_rfl) (by kernel_rfl) (fun _ _ _ h => h) (Or.inl ⟨by rfl, fun W hW => by go_simp⟩) h0 ?_
        try simp only [Act.put, List.getElem?_toArray, List.getElem_toArray, List.getElem_cons_zero, List.getElem_cons_succ, List.setIfInBounds_toArray, List.set_cons_zero, List.set_cons_succ]
        refine wpAnyH_ready (rs := [1]) (by kernel_rfl) (by simp) ?_
        refine AllReadyH.cons rfl (fun K hK => ?_) AllReadyH.nil
        go_simp
        go_at_call 54
        refine (HU1.out _ h0.2.1).mono ?_
        rintro e w' ⟨rfl, rfl⟩
        refine hK.out _ _ h0 (fun h1 => ?_)
        clear hK h1
        try simp only [Act.put, List.getElem?_toArray, List.getElem_toArray, List.getElem_cons_zero, List.getElem_cons_succ, List.setIfInBounds_toArray, List.set_cons_zero, List.set_cons_succ]
        refine wpAnyH_take (i := 5) (v := .bool false) rfl (by kernel_rfl) (by kernel_rfl) (by kernel_rfl) (fun _ _ _ h => h) (Or.inl ⟨by rfl, fun W hW => by go_simp⟩) h0 ?_
        try simp only [Act.put, List.getElem?_toArray, List.getElem_toArray, List.getElem_cons_zero, List.getElem_cons_succ, List.setIfInBounds_toArray, List.set_cons_zero, List.set_cons_succ]
        refine wpAnyH_take (i := 6) (v := .bool false) rfl (by kernel_rfl) (by kernel_rfl) (by kernel_rfl) (fun _ _ _ h => h) (Or.inl ⟨by rfl, fun W hW => by go_simp⟩) h0 ?_
        try simp only [Act.put, List.getElem?_toArray, List.getElem_toArray, List.getElem_cons_zero, List.getElem_cons_succ, List.setIfInBounds_toArray, List.set_cons_zero, List.set_cons_succ]
        refine wpAnyH_take (i := 7) (v := .func (.func 54) #[] #[.pointer (some ⟨W1.heap.size + 1, 0, none⟩)]) rfl (by kernel_rfl) (by kernel_rfl) (by kernel_rfl) (fun _ _ _ h => h) (Or.inl ⟨by rfl, fun W hW => by rfl⟩) h0 ?_
        try simp only [Act.put, List.getElem?_toArray, List.getElem_toArray, List.getElem_cons_zero, List.getElem_cons_succ, List.setIfInBounds_toArray, List.set_cons_zero, List.set_cons_succ]
        refine wpAnyH_take (i := 9) (v := .pointer (some ⟨w.heap.size, 1, none⟩)) rfl (by kernel_rfl) (by kernel_rfl) (by kernel_rfl) (fun _ _ _ h => h) (Or.inl ⟨by rfl, fun W hW => by go_simp⟩) h0 ?_
        try simp only [Act.put, List.getElem?_toArray, List.getElem_toArray, List.getElem_cons_zero, List.getElem_cons_succ, List.setIfInBounds_toArray, List.set_cons_zero, List.set_cons_succ]
        refine wpAnyH_take (i := 10) (v := .slice A' d.vol.length c') rfl (by kernel_rfl) (by kernel_rfl) (by kernel_rfl) (fun _ _ _ h => h) (Or.inl ⟨by rfl, fun W hW => by have hz : W.cell? ⟨w.heap.size, 1, none⟩ = some (.slice A' d.vol.length c') := cellOf hW.1 rfl; go_simp⟩) h0 ?_
        try simp only [Act.put, List.getElem?_toArray, List.getElem_toArray, List.getElem_cons_zero, List.getElem_cons_succ, List.setIfInBounds_toArray, List.set_cons_zero, List.set_cons_succ]
        refine wpAnyH_take (i := 11) (v := .int .i64 (d.vol.length : Int)) rfl (by kernel_rfl) (by kernel_rfl) (by kernel_rfl) (fun _ _ _ h => h) (Or.inl ⟨by rfl, fun W hW => by go_simp⟩) h0 ?_
        try simp only [Act.put, List.getElem?_toArray, List.getElem_toArray, List.getElem_cons_zero, List.getElem_cons_succ, List.setIfInBounds_toArray, List.set_cons_zero, List.set_cons_succ]
        refine wpAnyH_ready (rs := [8]) (by kernel_rfl) (by simp) ?_
        refine AllReadyH.cons rfl (fun K hK => ?_) AllReadyH.nil
        go_simp
        go_at_call 54
        refine (HU2.out _ h0.2.2).mono ?_
        rintro e w' ⟨rfl, rfl⟩
        refine hK.out _ _ h0 (fun h1 => ?_)
        clear hK h1
        try simp only [Act.put, List.getElem?_toArray, List.getElem_toArray, List.getElem_cons_zero, List.getElem_cons_succ, List.setIfInBounds_toArray, List.set_cons_zero, List.set_cons_succ]
        refine wpAnyH_take (i := 12) (v := .bool false) rfl (by kernel_rfl) (by kernel_rfl) (by kernel_rfl) (fun _ _ _ h => h) (Or.inl ⟨by rfl, fun W hW => by go_simp⟩) h0 ?_
        try simp only [Act.put, List.getElem?_toArray, List.getElem_toArray, List.getElem_cons_zero, List.getElem_cons_succ, List.setIfInBounds_toArray, List.set_cons_zero, List.set_cons_succ]
        refine wpAnyH_take (i := 13) (v := .bool false) rfl (by kernel_rfl) (by kernel_rfl) (by kernel_rfl) (fun _ _ _ h => h) (Or.inl ⟨by rfl, fun W hW => by go_simp⟩) h0 ?_
        try simp only [Act.put, List.getElem?_toArray, List.getElem_toArray, List.getElem_cons_zero, List.getElem_cons_succ, List.setIfInBounds_toArray, List.set_cons_zero, List.set_cons_succ]
        refine wpAnyH_take (i := 14) (v := .bool false) rfl (by kernel_rfl) (by kernel_rfl) (by kernel_rfl) (fun _ _ _ h => h) (Or.inl ⟨by rfl, fun W hW => by go_simp⟩) h0 ?_
        try simp only [Act.put, List.getElem?_toArray, List.getElem_toArray, List.getElem_cons_zero, List.getElem_cons_succ, List.setIfInBounds_toArray, List.set_cons_zero, List.set_cons_succ]
        refine wpAnyH_done (by kernel_rfl) ?_ _
        refine NoPanic.normal ?_
        clear h0
        go_wp2_with fail
        go_ret3
        exact ReadP.err (show Below w.heap.size w W2.drew from ⟨hB2.os, hB2.tape, hB2.output, hB2.size, hB2.block⟩) Hrd.out
      · have hg : ((1024 : Int) < ((recsR d.dur).length : Int) + ((recsR d.vol).length : Int)) = False := eq_false (by omega)
        have Hrd := Lib.hid (show readE d = .ok (recsR d.dur, recsR d.vol) by unfold readE; rw [if_neg (by simp [hx, hy]), if_neg hm])
        clear hx hy hm
        go_wp2_with fail
        refine wp_region_noPanic ?_
        refine wp_region_held_drew (S := fun W => W.heap[w.heap.size]? = some (.cells (dkCells A A' c c' d) 27 (0, 0)) ∧ W.heap[W0.heap.size + 1]? = some (.cells #[.int .i64 (recsN d.dur : Int)] 3 (0, 0)) ∧ W.heap[W1.heap.size + 1]? = some (.cells #[.int .i64 (recsN d.vol : Int)] 3 (0, 0))) (by kernel_rfl) ⟨h2, hm1, hn2⟩ (fun h0 => ?_)
        refine wpAnyH_take (i := 0) (v := .func (.func 54) #[] #[.pointer (some ⟨W0.heap.size + 1, 0, none⟩)]) rfl (by kernel_rfl) (by kernel_rfl) (by kernel_rfl) (fun _ _ _ h => h) (Or.inl ⟨by rfl, fun W hW => by rfl⟩) h0 ?_
        try simp only [Act.put, List.getElem?_toArray, List.getElem_toArray, List.getElem_cons_zero, List.getElem_cons_succ, List.setIfInBounds_toArray, List.set_cons_zero, List.set_cons_succ]
        refine wpAnyH_take (i := 2) (v := .pointer (some ⟨w.heap.size, 0, none⟩)) rfl (by kernel_rfl) (by kernel_rfl) (by kernel_rfl) (fun _ _ _ h => h) (Or.inl ⟨by rfl, fun W hW => by go_simp⟩) h0 ?_
        try simp only [Act.put, List.getElem?_toArray, List.getElem_toArray, List.getElem_cons_zero, List.getElem_cons_succ, List.setIfInBounds_toArray, List.set_cons_zero, List.set_cons_succ]
        refine wpAnyH_take (i := 3) (v := .slice A d.dur.length c) rfl (by kernel_rfl) (by kernel_rfl) (by kernel_rfl) (fun _ _ _ h => h) (Or.inl ⟨by rfl, fun W hW => by have hz : W.cell? ⟨w.heap.size, 0, none⟩ = some (.slice A d.dur.length c) := cellOf hW.1 rfl; go_simp⟩) h0 ?_
        try simp only [Act.put, List.getElem?_toArray, List.getElem_toArray, List.getElem_cons_zero, List.getElem_cons_succ, List.setIfInBounds_toArray, List.set_cons_zero, List.set_cons_succ]
        refine wpAnyH_take (i := 4) (v := .int .i64 (d.dur.length : Int)) rfl (by kernel_rfl) (by kernel_rfl) (by kernel_rfl) (fun _ _ _ h => h) (Or.inl ⟨by rfl, fun W hW => by go_simp⟩) h0 ?_
        try simp only [Act.put, List.getElem?_toArray, List.getElem_toArray, List.getElem_cons_zero, List.getElem_cons_succ, List.setIfInBounds_toArray, List.set_cons_zero, List.set_cons_succ]
        refine wpAnyH_ready (rs := [1]) (by kernel_rfl) (by simp) ?_
        refine AllReadyH.cons rfl (fun K hK => ?_) AllReadyH.nil
        go_simp
        go_at_call 54
        refine (HU1.out _ h0.2.1).mono ?_
        rintro e w' ⟨rfl, rfl⟩
        refine hK.out _ _ h0 (fun h1 => ?_)
        clear hK h1
        try simp only [Act.put, List.getElem?_toArray, List.getElem_toArray, List.getElem_cons_zero, List.getElem_cons_succ, List.setIfInBounds_toArray, List.set_cons_zero, List.set_cons_succ]
        refine wpAnyH_take (i := 5) (v := .bool false) rfl (by kernel_rfl) (by kernel_rfl) (by kernel_rfl) (fun _ _ _ h => h) (Or.inl ⟨by rfl, fun W hW => by go_simp⟩) h0 ?_
        try simp only [Act.put, List.getElem?_toArray, List.getElem_toArray, List.getElem_cons_zero, List.getElem_cons_succ, List.setIfInBounds_toArray, List.set_cons_zero, List.set_cons_succ]
        refine wpAnyH_take (i := 6) (v := .bool false) rfl (by kernel_rfl) (by kernel_rfl) (by kernel_rfl) (fun _ _ _ h => h) (Or.inl ⟨by rfl, fun W hW => by go_simp⟩) h0 ?_
        try simp only [Act.put, List.getElem?_toArray, List.getElem_toArray, List.getElem_cons_zero, List.getElem_cons_succ, List.setIfInBounds_toArray, List.set_cons_zero, List.set_cons_succ]
        refine wpAnyH_take (i := 7) (v := .func (.func 54) #[] #[.pointer (some ⟨W1.heap.size + 1, 0, none⟩)]) rfl (by kernel_rfl) (by kernel_rfl) (by kernel_rfl) (fun _ _ _ h => h) (Or.inl ⟨by rfl, fun W hW => by rfl⟩) h0 ?_
        try simp only [Act.put, List.getElem?_toArray, List.getElem_toArray, List.getElem_cons_zero, List.getElem_cons_succ, List.setIfInBounds_toArray, List.set_cons_zero, List.set_cons_succ]
        refine wpAnyH_take (i := 9) (v := .pointer (some ⟨w.heap.size, 1, none⟩)) rfl (by kernel_rfl) (by kernel_rfl) (by kernel_rfl) (fun _ _ _ h => h) (Or.inl ⟨by rfl, fun W hW => by go_simp⟩) h0 ?_
        try simp only [Act.put, List.getElem?_toArray, List.getElem_toArray, List.getElem_cons_zero, List.getElem_cons_succ, List.setIfInBounds_toArray, List.set_cons_zero, List.set_cons_succ]
        refine wpAnyH_take (i := 10) (v := .slice A' d.vol.length c') rfl (by kernel_rfl) (by kernel_rfl) (by kernel_rfl) (fun _ _ _ h => h) (Or.inl ⟨by rfl, fun W hW => by have hz : W.cell? ⟨w.heap.size, 1, none⟩ = some (.slice A' d.vol.length c') := cellOf hW.1 rfl; go_simp⟩) h0 ?_
        try simp only [Act.put, List.getElem?_toArray, List.getElem_toArray, List.getElem_cons_zero, List.getElem_cons_succ, List.setIfInBounds_toArray, List.set_cons_zero, List.set_cons_succ]
        refine wpAnyH_take (i := 11) (v := .int .i64 (d.vol.length : Int)) rfl (by kernel_rfl) (by kernel_rfl) (by kernel_rfl) (fun _ _ _ h => h) (Or.inl ⟨by rfl, fun W hW => by go_simp⟩) h0 ?_
        try simp only [Act.put, List.getElem?_toArray, List.getElem_toArray, List.getElem_cons_zero, List.getElem_cons_succ, List.setIfInBounds_toArray, List.set_cons_zero, List.set_cons_succ]
        refine wpAnyH_ready (rs := [8]) (by kernel_rfl) (by simp) ?_
        refine AllReadyH.cons rfl (fun K hK => ?_) AllReadyH.nil
        go_simp
        go_at_call 54
        refine (HU2.out _ h0.2.2).mono ?_
        rintro e w' ⟨rfl, rfl⟩
        refine hK.out _ _ h0 (fun h1 => ?_)
        clear hK h1
        try simp only [Act.put, List.getElem?_toArray, List.getElem_toArray, List.getElem_cons_zero, List.getElem_cons_succ, List.setIfInBounds_toArray, List.set_cons_zero, List.set_cons_succ]
        refine wpAnyH_take (i := 12) (v := .bool false) rfl (by kernel_rfl) (by kernel_rfl) (by kernel_rfl) (fun _ _ _ h => h) (Or.inl ⟨by rfl, fun W hW => by go_simp⟩) h0 ?_
        try simp only [Act.put, List.getElem?_toArray, List.getElem_toArray, List.getElem_cons_zero, List.getElem_cons_succ, List.setIfInBounds_toArray, List.set_cons_zero, List.set_cons_succ]
        refine wpAnyH_take (i := 13) (v := .bool false) rfl (by kernel_rfl) (by kernel_rfl) (by kernel_rfl) (fun _ _ _ h => h) (Or.inl ⟨by rfl, fun W hW => by go_simp⟩) h0 ?_
        try simp only [Act.put, List.getElem?_toArray, List.getElem_toArray, List.getElem_cons_zero, List.getElem_cons_succ, List.setIfInBounds_toArray, List.set_cons_zero, List.set_cons_succ]
        refine wpAnyH_take (i := 14) (v := .bool false) rfl (by kernel_rfl) (by kernel_rfl) (by kernel_rfl) (fun _ _ _ h => h) (Or.inl ⟨by rfl, fun W hW => by go_simp⟩) h0 ?_
        try simp only [Act.put, List.getElem?_toArray, List.getElem_toArray, List.getElem_cons_zero, List.getElem_cons_succ, List.setIfInBounds_toArray, List.set_cons_zero, List.set_cons_succ]
        refine wpAnyH_done (by kernel_rfl) ?_ _
        refine NoPanic.normal ?_
        clear h0
        go_wp2_with fail
        go_ret3
        exact ReadP.ok (show Below w.heap.size w W2.drew from ⟨hB2.os, hB2.tape, hB2.output, hB2.size, hB2.block⟩) Hrd.out (own_drew Ho1'.out) (own_drew Ho2.out)
    · have hy1 : ((recsN d.vol : Int) != (d.vol.length : Int)) = true := by simp; omega
      have Hrd := Lib.hid (show readE d = .error 290 by unfold readE; rw [if_pos (.inr hy)])
      clear hx hy
      go_wp2_with fail
      refine wp_region_noPanic ?_
      refine wp_region_held_drew (S := fun W => W.heap[w.heap.size]? = some (.cells (dkCells A A' c c' d) 27 (0, 0)) ∧ W.heap[W0.heap.size + 1]? = some (.cells #[.int .i64 (recsN d.dur : Int)] 3 (0, 0)) ∧ W.heap[W1.heap.size + 1]? = some (.cells #[.int .i64 (recsN d.vol : Int)] 3 (0, 0))) (by kernel_rfl) ⟨h2, hm1, hn2⟩ (fun h0 => ?_)
      refine wpAnyH_take (i := 0) (v := .func (.func 54) #[] #[.pointer (some ⟨W0.heap.size + 1, 0, none⟩)]) rfl (by kernel_rfl) (by kernel_rfl) (by kernel_rfl) (fun _ _ _ h => h) (Or.inl ⟨by rfl, fun W hW => by rfl⟩) h0 ?_
      try simp only [Act.put, List.getElem?_toArray, List.getElem_toArray, List.getElem_cons_zero, List.getElem_cons_succ, List.setIfInBounds_toArray, List.set_cons_zero, List.set_cons_succ]
      refine wpAnyH_take (i := 2) (v := .pointer (some ⟨w.heap.size, 0, none⟩)) rfl (by kernel_rfl) (by kernel_rfl) (by kernel_rfl) (fun _ _ _ h => h) (Or.inl ⟨by rfl, fun W hW => by go_simp⟩) h0 ?_
      try simp only [Act.put, List.getElem?_toArray, List.getElem_toArray, List.getElem_cons_zero, List.getElem_cons_succ, List.setIfInBounds_toArray, List.set_cons_zero, List.set_cons_succ]
      refine wpAnyH_take (i := 3) (v := .slice A d.dur.length c) rfl (by kernel_rfl) (by kernel_rfl) (by kernel_rfl) (fun _ _ _ h => h) (Or.inl ⟨by rfl, fun W hW => by have hz : W.cell? ⟨w.heap.size, 0, none⟩ = some (.slice A d.dur.length c) := cellOf hW.1 rfl; go_simp⟩) h0 ?_
      try simp only [Act.put, List.getElem?_toArray, List.getElem_toArray, List.getElem_cons_zero, List.getElem_cons_succ, List.setIfInBounds_toArray, List.set_cons_zero, List.set_cons_succ]
      refine wpAnyH_take (i := 4) (v := .int .i64 (d.dur.length : Int)) rfl (by kernel_rfl) (by kernel_rfl) (by kernel_rfl) (fun _ _ _ h => h) (Or.inl ⟨by rfl, fun W hW => by go_simp⟩) h0 ?_
      try simp only [Act.put, List.getElem?_toArray, List.getElem_toArray, List.getElem_cons_zero, List.getElem_cons_succ, List.setIfInBounds_toArray, List.set_cons_zero, List.set_cons_succ]
      refine wpAnyH_ready (rs := [1]) (by kernel_rfl) (by simp) ?_
      refine AllReadyH.cons rfl (fun K hK => ?_) AllReadyH.nil
      go_simp
      go_at_call 54
      refine (HU1.out _ h0.2.1).mono ?_
      rintro e w' ⟨rfl, rfl⟩
      refine hK.out _ _ h0 (fun h1 => ?_)
      clear hK h1
      try simp only [Act.put, List.getElem?_toArray, List.getElem_toArray, List.getElem_cons_zero, List.getElem_cons_succ, List.setIfInBounds_toArray, List.set_cons_zero, List.set_cons_succ]
      refine wpAnyH_take (i := 5) (v := .bool false) rfl (by kernel_rfl) (by kernel_rfl) (by kernel_rfl) (fun _ _ _ h => h) (Or.inl ⟨by rfl, fun W hW => by go_simp⟩) h0 ?_
      try simp only [Act.put, List.getElem?_toArray, List.getElem_toArray, List.getElem_cons_zero, List.getElem_cons_succ, List.setIfInBounds_toArray, List.set_cons_zero, List.set_cons_succ]
      refine wpAnyH_take (i := 6) (v := .bool false) rfl (by kernel_rfl) (by kernel_rfl) (by kernel_rfl) (fun _ _ _ h => h) (Or.inl ⟨by rfl, fun W hW => by go_simp⟩) h0 ?_
      try simp only [Act.put, List.getElem?_toArray, List.getElem_toArray, List.getElem_cons_zero, List.getElem_cons_succ, List.setIfInBounds_toArray, List.set_cons_zero, List.set_cons_succ]
      refine wpAnyH_take (i := 7) (v := .func (.func 54) #[] #[.pointer (some ⟨W1.heap.size + 1, 0, none⟩)]) rfl (by kernel_rfl) (by kernel_rfl) (by kernel_rfl) (fun _ _ _ h => h) (Or.inl ⟨by rfl, fun W hW => by rfl⟩) h0 ?_
      try simp only [Act.put, List.getElem?_toArray, List.getElem_toArray, List.getElem_cons_zero, List.getElem_cons_succ, List.setIfInBounds_toArray, List.set_cons_zero, List.set_cons_succ]
      refine wpAnyH_take (i := 9) (v := .pointer (some ⟨w.heap.size, 1, none⟩)) rfl (by kernel_rfl) (by kernel_rfl) (by kernel_rfl) (fun _ _ _ h => h) (Or.inl ⟨by rfl, fun W hW => by go_simp⟩) h0 ?_
      try simp only [Act.put, List.getElem?_toArray, List.getElem_toArray, List.getElem_cons_zero, List.getElem_cons_succ, List.setIfInBounds_toArray, List.set_cons_zero, List.set_cons_succ]
      refine wpAnyH_take (i := 10) (v := .slice A' d.vol.length c') rfl (by kernel_rfl) (by kernel_rfl) (by kernel_rfl) (fun _ _ _ h => h) (Or.inl ⟨by rfl, fun W hW => by have hz : W.cell? ⟨w.heap.size, 1, none⟩ = some (.slice A' d.vol.length c') := cellOf hW.1 rfl; go_simp⟩) h0 ?_
      try simp only [Act.put, List.getElem?_toArray, List.getElem_toArray, List.getElem_cons_zero, List.getElem_cons_succ, List.setIfInBounds_toArray, List.set_cons_zero, List.set_cons_succ]
      refine wpAnyH_take (i := 11) (v := .int .i64 (d.vol.length : Int)) rfl (by kernel_rfl) (by kernel_rfl) (by kernel_rfl) (fun _ _ _ h => h) (Or.inl ⟨by rfl, fun W hW => by go_simp⟩) h0 ?_
      try simp only [Act.put, List.getElem?_toArray, List.getElem_toArray, List.getElem_cons_zero, List.getElem_cons_succ, List.setIfInBounds_toArray, List.set_cons_zero, List.set_cons_succ]
      refine wpAnyH_ready (rs := [8]) (by kernel_rfl) (by simp) ?_
      refine AllReadyH.cons rfl (fun K hK => ?_) AllReadyH.nil
      go_simp
      go_at_call 54
      refine (HU2.out _ h0.2.2).mono ?_
      rintro e w' ⟨rfl, rfl⟩
      refine hK.out _ _ h0 (fun h1 => ?_)
      clear hK h1
      try simp only [Act.put, List.getElem?_toArray, List.getElem_toArray, List.getElem_cons_zero, List.getElem_cons_succ, List.setIfInBounds_toArray, List.set_cons_zero, List.set_cons_succ]
      refine wpAnyH_take (i := 12) (v := .bool true) rfl (by kernel_rfl) (by kernel_rfl) (by kernel_rfl) (fun _ _ _ h => h) (Or.inl ⟨by rfl, fun W hW => by go_simp⟩) h0 ?_
      try simp only [Act.put, List.getElem?_toArray, List.getElem_toArray, List.getElem_cons_zero, List.getElem_cons_succ, List.setIfInBounds_toArray, List.set_cons_zero, List.set_cons_succ]
      refine wpAnyH_take (i := 13) (v := .bool true) rfl (by kernel_rfl) (by kernel_rfl) (by kernel_rfl) (fun _ _ _ h => h) (Or.inl ⟨by rfl, fun W hW => by go_simp⟩) h0 ?_
      try simp only [Act.put, List.getElem?_toArray, List.getElem_toArray, List.getElem_cons_zero, List.getElem_cons_succ, List.setIfInBounds_toArray, List.set_cons_zero, List.set_cons_succ]
      refine wpAnyH_take (i := 14) (v := .bool true) rfl (by kernel_rfl) (by kernel_rfl) (by kernel_rfl) (fun _ _ _ h => h) (Or.inl ⟨by rfl, fun W hW => by go_simp⟩) h0 ?_
      try simp only [Act.put, List.getElem?_toArray, List.getElem_toArray, List.getElem_cons_zero, List.getElem_cons_succ, List.setIfInBounds_toArray, List.set_cons_zero, List.set_cons_succ]
      refine wpAnyH_done (by kernel_rfl) ?_ _
      refine NoPanic.normal ?_
      clear h0
      go_wp2_with fail
      go_ret3
      exact ReadP.err (show Below w.heap.size w W2.drew from ⟨hB2.os, hB2.tape, hB2.output, hB2.size, hB2.block⟩) Hrd.out
  · have hx1 : ((recsN d.dur : Int) != (d.dur.length : Int)) = true := by simp; omega
    have Hrd := Lib.hid (show readE d = .error 290 by unfold readE; rw [if_pos (.inl hx)])
    clear hx
    go_wp2_with fail
    refine wp_region_noPanic ?_
    refine wp_region_held_drew (S := fun W => W.heap[w.heap.size]? = some (.cells (dkCells A A' c c' d) 27 (0, 0)) ∧ W.heap[W0.heap.size + 1]? = some (.cells #[.int .i64 (recsN d.dur : Int)] 3 (0, 0)) ∧ W.heap[W1.heap.size + 1]? = some (.cells #[.int .i64 (recsN d.vol : Int)] 3 (0, 0))) (by kernel_rfl) ⟨h2, hm1, hn2⟩ (fun h0 => ?_)
    refine wpAnyH_take (i := 0) (v := .func (.func 54) #[] #[.pointer (some ⟨W0.heap.size + 1, 0, none⟩)]) rfl (by kernel_rfl) (by kernel_rfl) (by kernel_rfl) (fun _ _ _ h => h) (Or.inl ⟨by rfl, fun W hW => by rfl⟩) h0 ?_
    try simp only [Act.put, List.getElem?_toArray, List.getElem_toArray, List.getElem_cons_zero, List.getElem_cons_succ, List.setIfInBounds_toArray, List.set_cons_zero, List.set_cons_succ]
    refine wpAnyH_take (i := 2) (v := .pointer (some ⟨w.heap.size, 0, none⟩)) rfl (by kernel_rfl) (by kernel_rfl) (by kernel_rfl) (fun _ _ _ h => h) (Or.inl ⟨by rfl, fun W hW => by go_simp⟩) h0 ?_
    try simp only [Act.put, List.getElem?_toArray, List.getElem_toArray, List.getElem_cons_zero, List.getElem_cons_succ, List.setIfInBounds_toArray, List.set_cons_zero, List.set_cons_succ]
    refine wpAnyH_take (i := 3) (v := .slice A d.dur.length c) rfl (by kernel_rfl) (by kernel_rfl) (by kernel_rfl) (fun _ _ _ h => h) (Or.inl ⟨by rfl, fun W hW => by have hz : W.cell? ⟨w.heap.size, 0, none⟩ = some (.slice A d.dur.length c) := cellOf hW.1 rfl; go_simp⟩) h0 ?_
    try simp only [Act.put, List.getElem?_toArray, List.getElem_toArray, List.getElem_cons_zero, List.getElem_cons_succ, List.setIfInBounds_toArray, List.set_cons_zero, List.set_cons_succ]
    refine wpAnyH_take (i := 4) (v := .int .i64 (d.dur.length : Int)) rfl (by kernel_rfl) (by kernel_rfl) (by kernel_rfl) (fun _ _ _ h => h) (Or.inl ⟨by rfl, fun W hW => by go_simp⟩) h0 ?_
    try simp only [Act.put, List.getElem?_toArray, List.getElem_toArray, List.getElem_cons_zero, List.getElem_cons_succ, List.setIfInBounds_toArray, List.set_cons_zero, List.set_cons_succ]
    refine wpAnyH_ready (rs := [1]) (by kernel_rfl) (by simp) ?_
    refine AllReadyH.cons rfl (fun K hK => ?_) AllReadyH.nil
    go_simp
    go_at_call 54
    refine (HU1.out _ h0.2.1).mono ?_
    rintro e w' ⟨rfl, rfl⟩
    refine hK.out _ _ h0 (fun h1 => ?_)
    clear hK h1
    try simp only [Act.put, List.getElem?_toArray, List.getElem_toArray, List.getElem_cons_zero, List.getElem_cons_succ, List.setIfInBounds_toArray, List.set_cons_zero, List.set_cons_succ]
    refine wpAnyH_take (i := 5) (v := .bool true) rfl (by kernel_rfl) (by kernel_rfl) (by kernel_rfl) (fun _ _ _ h => h) (Or.inl ⟨by rfl, fun W hW => by go_simp⟩) h0 ?_
    try simp only [Act.put, List.getElem?_toArray, List.getElem_toArray, List.getElem_cons_zero, List.getElem_cons_succ, List.setIfInBounds_toArray, List.set_cons_zero, List.set_cons_succ]
    refine wpAnyH_take (i := 6) (v := .bool true) rfl (by kernel_rfl) (by kernel_rfl) (by kernel_rfl) (fun _ _ _ h => h) (Or.inl ⟨by rfl, fun W hW => by go_simp⟩) h0 ?_
    try simp only [Act.put, List.getElem?_toArray, List.getElem_toArray, List.getElem_cons_zero, List.getElem_cons_succ, List.setIfInBounds_toArray, List.set_cons_zero, List.set_cons_succ]
    refine wpAnyH_take (i := 7) (v := undef) rfl (by kernel_rfl) (by kernel_rfl) (by kernel_rfl) (fun _ _ _ h => h) (Or.inr ⟨by rfl, rfl⟩) h0 ?_
    try simp only [Act.put, List.getElem?_toArray, List.getElem_toArray, List.getElem_cons_zero, List.getElem_cons_succ, List.setIfInBounds_toArray, List.set_cons_zero, List.set_cons_succ]
    refine wpAnyH_take (i := 9) (v := undef) rfl (by kernel_rfl) (by kernel_rfl) (by kernel_rfl) (fun _ _ _ h => h) (Or.inr ⟨by rfl, rfl⟩) h0 ?_
    try simp only [Act.put, List.getElem?_toArray, List.getElem_toArray, List.getElem_cons_zero, List.getElem_cons_succ, List.setIfInBounds_toArray, List.set_cons_zero, List.set_cons_succ]
    refine wpAnyH_take (i := 10) (v := undef) rfl (by kernel_rfl) (by kernel_rfl) (by kernel_rfl) (fun _ _ _ h => h) (Or.inr ⟨by rfl, rfl⟩) h0 ?_
    try simp only [Act.put, List.getElem?_toArray, List.getElem_toArray, List.getElem_cons_zero, List.getElem_cons_succ, List.setIfInBounds_toArray, List.set_cons_zero, List.set_cons_succ]
    refine wpAnyH_take (i := 11) (v := undef) rfl (by kernel_rfl) (by kernel_rfl) (by kernel_rfl) (fun _ _ _ h => h) (Or.inr ⟨by rfl, rfl⟩) h0 ?_
    try simp only [Act.put, List.getElem?_toArray, List.getElem_toArray, List.getElem_cons_zero, List.getElem_cons_succ, List.setIfInBounds_toArray, List.set_cons_zero, List.set_cons_succ]
    refine wpAnyH_take (i := 8) (v := undef) rfl (by kernel_rfl) (by kernel_rfl) (by kernel_rfl) (fun _ _ _ h => h) (Or.inr ⟨by rfl, rfl⟩) h0 ?_
    try simp only [Act.put, List.getElem?_toArray, List.getElem_toArray, List.getElem_cons_zero, List.getElem_cons_succ, List.setIfInBounds_toArray, List.set_cons_zero, List.set_cons_succ]
    refine wpAnyH_take (i := 12) (v := undef) rfl (by kernel_rfl) (by kernel_rfl) (by kernel_rfl) (fun _ _ _ h => h) (Or.inr ⟨by rfl, rfl⟩) h0 ?_
    try simp only [Act.put, List.getElem?_toArray, List.getElem_toArray, List.getElem_cons_zero, List.getElem_cons_succ, List.setIfInBounds_toArray, List.set_cons_zero, List.set_cons_succ]
    refine wpAnyH_take (i := 13) (v := .bool true) rfl (by kernel_rfl) (by kernel_rfl) (by kernel_rfl) (fun _ _ _ h => h) (Or.inl ⟨by rfl, fun W hW => by go_simp⟩) h0 ?_
    try simp only [Act.put, List.getElem?_toArray, List.getElem_toArray, List.getElem_cons_zero, List.getElem_cons_succ, List.setIfInBounds_toArray, List.set_cons_zero, List.set_cons_succ]
    refine wpAnyH_take (i := 14) (v := .bool true) rfl (by kernel_rfl) (by kernel_rfl) (by kernel_rfl) (fun _ _ _ h => h) (Or.inl ⟨by rfl, fun W hW => by go_simp⟩) h0 ?_
    try simp only [Act.put, List.getElem?_toArray, List.getElem_toArray, List.getElem_cons_zero, List.getElem_cons_succ, List.setIfInBounds_toArray, List.set_cons_zero, List.set_cons_succ]
    refine wpAnyH_done (by kernel_rfl) ?_ _
    refine NoPanic.normal ?_
    clear h0
    go_wp2_with fail
    go_ret3
    exact ReadP.err (show Below w.heap.size w W2.drew from ⟨hB2.os, hB2.tape, hB2.output, hB2.size, hB2.block⟩) Hrd.out
end Go.Proofs.Ytaoiklfkkipcaaa
