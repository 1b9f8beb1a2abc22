import Derived.Test.YtaoiklfkkipcaaaJDisk
import Derived.Test.YtaoiklfkkipcaaaJApp
import Derived.Test.YtaoiklfkkipcaaaJCat
set_option linter.unusedSimpArgs false
set_option linter.unusedVariables false
namespace Go.Proofs.Ytaoiklfkkipcaaa
open Go Go.RowKit Hd Go.Mem

theorem inB_own {W : World} {b : Nat} {v : Value} {l : List UInt8} (h : OwnB W b 5 v l) : ∃ A c, v = .slice A l.length c ∧ InB W A c l := by
  obtain ⟨A, c, e, h1, h2, h3, h4⟩ := own_form h
  exact ⟨A, c, e, h4, h1, by simpa using h2, h3⟩
theorem InB.el {W : World} {A : Option Addr} {c : Nat} {l : List UInt8} (h : InB W A c l) : El (fun _ => True) W (.slice A l.length c) l :=
  ⟨A, c, rfl, h.le, h.cap, h.nil, (RdC.p h.rd).imp fun _ _ _ => trivial⟩
theorem cat2_rd {W : World} {A A' : Option Addr} {c c' : Nat} {p q : List UInt8} (h : InB W A c p) (h' : InB W A' c' q) :
    RdL (W.alloc (.cells #[.slice A p.length c, .slice A' q.length c'] 25)) (some ⟨W.heap.size, 0, none⟩) [p, q] :=
  ⟨[.slice A p.length c, .slice A' q.length c'], RdC.new W #[.slice A p.length c, .slice A' q.length c'] 25 (0, 0), (h.below (fw_new _ _)).el, (h'.below (fw_new _ _)).el, trivial⟩
theorem cat2_any {W : World} {A : Option Addr} {p q : List UInt8} (hr : RdL W A [p, q]) (hp : p.length + q.length ≤ 10000000000) :
    Calls Try.prog 47 #[.slice A 2 2] W fun e w' => ∃ v, e = .returned v ∧ OwnB w' W.heap.size 5 v (p ++ q) ∧ Below W.heap.size W w' := by
  have := concat_any A 2 [p, q] W (by simp) (by unfold sumL; simp; omega) hr
  simpa using this
def dkZ : Dk := ⟨[], []⟩
theorem dk_one (A A' : Option Addr) (c c' : Nat) (d : Dk) : (dkCells A A' c c' d).all (fun x => x.oneCell') = true := by simp [dkCells, Value.oneCell']
/-- a disk and an error -/
def DkPost (d : Dk) (k : Nat) (w : World) (e : Ending) (w' : World) : Prop :=
  ∃ A A' c c', e = .returned (.tuple #[.agg (dkCells A A' c c' d), .int .i64 (k : Int)]) ∧ InD w' A A' c c' d ∧ Below w.heap.size w w'
theorem InD.zero (w : World) : InD w none none 0 0 dkZ := ⟨.inl rfl, .inl rfl, fun _ => rfl, fun _ => rfl, Nat.le_refl _, Nat.le_refl _, Nat.zero_le _, Nat.zero_le _⟩
theorem DkPost.no {d : Dk} {k : Nat} {x : Dk × Nat} {w W : World} (h : x = (dkZ, k)) (hb : Below w.heap.size w W) : DkPost x.1 x.2 w (.returned (.tuple #[.agg (dkCells none none 0 0 dkZ), .int .i64 (k : Int)])) W := by
  subst h
  exact ⟨none, none, 0, 0, rfl, InD.zero _, hb⟩
theorem DkPost.yes {d : Dk} {x : Dk × Nat} {w W : World} {A A' : Option Addr} {c c' : Nat} (h : x = (d, 0)) (hb : Below w.heap.size w W) (h1 : InB W A c d.dur) (h2 : InB W A' c' d.vol) : DkPost x.1 x.2 w (.returned (.tuple #[.agg (dkCells A A' c c' d), .int .i64 0])) W := by
  subst h
  exact ⟨A, A', c, c', rfl, ⟨h1.rd, h2.rd, h1.nil, h2.nil, h1.le, h2.le, h1.cap, h2.cap⟩, hb⟩
theorem readE_err {d : Dk} {k : Nat} (h : readE d = .error k) : k ≠ 0 := by
  unfold readE at h
  split at h
  · cases h; simp
  · split at h
    · cases h; simp
    · cases h
theorem readE_ok {d : Dk} {a b : List Rc} (h : readE d = .ok (a, b)) : a.length + b.length ≤ 1024 ∧ a = recsR d.dur ∧ b = recsR d.vol ∧ recsN d.dur = d.dur.length ∧ recsN d.vol = d.vol.length := by
  unfold readE at h
  split at h
  · cases h
  · split at h
    · cases h
    · rename_i h1 h2
      simp only [Except.ok.injEq, Prod.mk.injEq] at h
      obtain ⟨rfl, rfl⟩ := h
      exact ⟨by omega, rfl, rfl, by omega, by omega⟩
/-- Append, Sync, Crash -/
def appE (d : Dk) (r : Rc) : Dk × Nat := match readE d with
  | .error k => (dkZ, k)
  | .ok (a, b) => if 15 < r.payer.length then (dkZ, 1) else if a.length + b.length = 1024 then (dkZ, 2) else (⟨d.dur, d.vol ++ frame (encRec r)⟩, 0)
def syncE (d : Dk) : Dk × Nat := match readE d with
  | .error k => (dkZ, k)
  | .ok _ => (⟨d.dur ++ d.vol, []⟩, 0)
def keptL (d : Dk) (keep : Int) : List UInt8 := d.vol.take (min keep.toNat d.vol.length)
def crashE (d : Dk) (keep : Int) : Dk × Nat := match readE d with
  | .error k => (dkZ, k)
  | .ok _ => if keep < 0 then (dkZ, 1) else (⟨d.dur ++ (keptL d keep).take (recsN (keptL d keep)), []⟩, 0)
theorem read_ok {d : Dk} {a b : List Rc} (h : readE d = .ok (a, b)) (A A' : Option Addr) (c c' : Nat) (w : World) (hd : d.dur.length ≤ 1000000000) (hv : d.vol.length ≤ 1000000000) (hi : InD w A A' c c' d) :
    Calls Try.prog 14 #[.agg (dkCells A A' c c' d)] w fun e w' => ∃ A1 c1 A2 c2, e = .returned (.tuple #[.slice A1 a.length c1, .slice A2 b.length c2, .int .i64 0]) ∧ RowR w' w.heap.size (.slice A1 a.length c1) a ∧ RowR w' w.heap.size (.slice A2 b.length c2) b ∧ Below w.heap.size w w' := by
  refine (read_any A A' c c' d w hd hv hi).mono ?_
  rintro e w' ⟨hb, hp⟩
  rw [h] at hp
  obtain ⟨v, v', rfl, h1, h2⟩ := hp
  obtain ⟨A1, c1, rfl, _⟩ := own_form8 h1
  obtain ⟨A2, c2, rfl, _⟩ := own_form8 h2
  exact ⟨A1, c1, A2, c2, rfl, h1, h2, hb⟩
theorem read_er {d : Dk} {k : Nat} (h : readE d = .error k) (A A' : Option Addr) (c c' : Nat) (w : World) (hd : d.dur.length ≤ 1000000000) (hv : d.vol.length ≤ 1000000000) (hi : InD w A A' c c' d) :
    Calls Try.prog 14 #[.agg (dkCells A A' c c' d)] w fun e w' => e = .returned (.tuple #[.slice none 0 0, .slice none 0 0, .int .i64 (k : Int)]) ∧ Below w.heap.size w w' := by
  refine (read_any A A' c c' d w hd hv hi).mono ?_
  rintro e w' ⟨hb, hp⟩
  rw [h] at hp
  exact ⟨hp, hb⟩
theorem clone_inB {W : World} {A : Option Addr} {c : Nat} {l : List UInt8} (h : InB W A c l) (hl : l.length ≤ 140737488351232) :
    Calls Try.prog 46 #[.slice A l.length c] W fun e w' => ∃ v, e = .returned v ∧ OwnB w' W.heap.size 5 v l ∧ Below W.heap.size W w' := clone_any A c l W hl h.rd h.nil h.le
theorem InD.b1 {w : World} {A A' : Option Addr} {c c' : Nat} {d : Dk} (h : InD w A A' c c' d) : InB w A c d.dur := ⟨h.dur, h.nil, h.le, h.cap⟩
theorem InD.b2 {w : World} {A A' : Option Addr} {c c' : Nat} {d : Dk} (h : InD w A A' c c' d) : InB w A' c' d.vol := ⟨h.vol, h.nil', h.le', h.cap'⟩
theorem inB_setRow {W : World} {b g n c : Nat} {A : Option Addr} {l : List UInt8} {cs : Array Value} (h : W.ownsRow b 5 1 (.slice A l.length c) n (l.map B)) (hg : g < b) : InB (W.setRow g cs) A c l := by
  have hn : n = l.length := by have := h.1; simpa using this.symm
  subst hn
  have h2 : OwnB (W.setRow g cs) b 5 (.slice A l.length c) l := own_move h fun k hk _ => setRow_other _ _ _ _ (by omega)
  obtain ⟨A2, c2, e, h3⟩ := inB_own h2
  simp only [Value.slice.injEq] at e
  obtain ⟨rfl, _, rfl⟩ := e
  exact h3
theorem blk_third (w : World) (o o2 o3 : Obj) : (((w.alloc o).alloc o2).alloc o3).heap[w.heap.size]? = some o ∧ (((w.alloc o).alloc o2).alloc o3).heap[w.heap.size + 1]? = some o2 ∧ (((w.alloc o).alloc o2).alloc o3).heap[w.heap.size + 2]? = some o3 := by
  have h1 := heap_alloc_new (w.alloc o) o2
  have h2 := heap_alloc_new ((w.alloc o).alloc o2) o3
  simp only [World.size_alloc] at h1 h2
  exact ⟨alloc_blk _ (blk_second _ _ _), alloc_blk _ h1, h2⟩
set_option maxRecDepth 100000 in
set_option maxHeartbeats 4000000 in
theorem append_any (A A' : Option Addr) (c c' : Nat) (d : Dk) (r : Rc) (w : World) (hd : d.dur.length ≤ 1000000000) (hv : d.vol.length ≤ 1000000000) (hp : r.payer.length ≤ 10000000) (hok : r.ok) (hi : InD w A A' c c' d) :
    Calls Try.prog 21 #[.agg (dkCells A A' c c' d), .agg (rcCells r)] w (DkPost (appE d r).1 (appE d r).2 w) := by
  have Hi := Lib.hid hi
  have Hok := Lib.hid hok
  have b0 := blk_third w (.cells (dkCells A A' c c' d) 27) (.cells (rcCells r) 38) (.cells #[.slice none 0 0, .slice none 0 0] 27)
  have hB0 : Below w.heap.size w (((w.alloc (.cells (dkCells A A' c c' d) 27)).alloc (.cells (rcCells r) 38)).alloc (.cells #[.slice none 0 0, .slice none 0 0] 27)) := fw_al (fw_al (fw_new _ _) _) _
  obtain ⟨b0, b1, b2⟩ := b0
  obtain ⟨W0, hW0⟩ : ∃ W0, ((w.alloc (.cells (dkCells A A' c c' d) 27)).alloc (.cells (rcCells r) 38)).alloc (.cells #[.slice none 0 0, .slice none 0 0] 27) = W0 := ⟨_, rfl⟩
  rw [hW0] at b0 b1 b2 hB0
  replace b2 : W0.heap[w.heap.size + 2]? = some (.cells (dkCells none none 0 0 dkZ) 27 (0, 0)) := b2
  clear hi hok
  cases hrd : readE d with
  | error k =>
    have hk : ((k : Int) != 0) = true := by have := readE_err hrd; simpa using this
    have HA := Lib.hid (show appE d r = (dkZ, k) by unfold appE; rw [hrd])
    have HR := Lib.hid (fun W h => read_er hrd A A' c c' W hd hv h)
    clear hrd
    go_enter Try.func21, Try.ntmps21
    go_wp2_with (first | (refine wpList_load_row rfl 27 (.tmp 2) rfl (w.heap.size) rfl 27 (dkCells A A' c c' d) (0, 0) _ b0 Try.underlying27 rfl dk_size ?_))
    refine (HR.out _ (Hi.out.below hB0)).mono ?_
    rintro e W1 ⟨rfl, hb1⟩
    have hR1 := blk_below b2 hb1
    have hB1 := fw_trans hB0 hb1
    clear b0 b1 b2 hB0 hW0 hb1
    go_wp2_with (first | (refine wpList_store_row rfl 27 (.tmp 4) (.tmp 19) rfl (w.heap.size + 2) (dkCells none none 0 0 dkZ) rfl rfl 27 _ hR1 dk_size rfl (dk_one _ _ _ _ _) ?_))
    (try simp only [Exit.inBlock, Exit.then])
    refine bodyPost_ret (res_ct rfl _ _ (w.heap.size + 2) _ (dkCells none none 0 0 dkZ) _ _ rfl (setRow_heap _ _ _ _ _ _ hR1) Try.underlying27 rfl dk_size) rfl ?_
    exact DkPost.no (d := d) HA.out (below_setRow hB1 (by omega) _)
  | ok ab =>
    obtain ⟨a, b⟩ := ab
    have hab := (readE_ok hrd).1
    have hAE : appE d r = if 15 < r.payer.length then (dkZ, 1) else if a.length + b.length = 1024 then (dkZ, 2) else (⟨d.dur, d.vol ++ frame (encRec r)⟩, 0) := by unfold appE; rw [hrd]
    have HAE := Lib.hid hAE
    have HR := Lib.hid (fun W h => read_ok hrd A A' c c' W hd hv h)
    clear hrd hAE
    by_cases h15 : 15 < r.payer.length
    · have g15 : ((15 : Int) < (r.payer.length : Int)) = True := eq_true (by omega)
      have HA := Lib.hid (show appE d r = (dkZ, 1) by rw [HAE.out, if_pos h15])
      go_enter Try.func21, Try.ntmps21
      go_wp2_with (first | (refine wpList_load_row rfl 27 (.tmp 2) rfl (w.heap.size) rfl 27 (dkCells A A' c c' d) (0, 0) _ b0 Try.underlying27 rfl dk_size ?_))
      refine (HR.out _ (Hi.out.below hB0)).mono ?_
      rintro e W1 ⟨A1, c1, A2, c2, rfl, _, _, hb1⟩
      have hP1 := blk_below b0 hb1
      have hF1 := blk_below b1 hb1
      have hR1 := blk_below b2 hb1
      have hB1 := fw_trans hB0 hb1
      have r3 : W1.cell? ⟨w.heap.size + 1, 3, none⟩ = some (.string ⟨r.payer.toArray⟩) := cellOf hF1 rfl
      clear b0 b1 b2 hB0 hW0 hb1
      go_wp2_with (first | (refine wpList_store_row rfl 27 (.tmp 4) (.tmp 26) rfl (w.heap.size + 2) (dkCells none none 0 0 dkZ) rfl rfl 27 _ hR1 dk_size rfl (dk_one _ _ _ _ _) ?_))
      (try simp only [Exit.inBlock, Exit.then])
      refine bodyPost_ret (res_ct rfl _ _ (w.heap.size + 2) _ (dkCells none none 0 0 dkZ) _ _ rfl (setRow_heap _ _ _ _ _ _ hR1) Try.underlying27 rfl dk_size) rfl ?_
      exact DkPost.no (d := d) HA.out (below_setRow hB1 (by omega) _)
    have g15 : ((15 : Int) < (r.payer.length : Int)) = False := eq_false (by omega)
    by_cases h24 : a.length + b.length = 1024
    · have g24 : (((a.length : Int) + (b.length : Int)) == 1024) = true := by simp; omega
      have HA := Lib.hid (show appE d r = (dkZ, 2) by rw [HAE.out, if_neg h15, if_pos h24])
      go_enter Try.func21, Try.ntmps21
      go_wp2_with (first | (refine wpList_load_row rfl 27 (.tmp 2) rfl (w.heap.size) rfl 27 (dkCells A A' c c' d) (0, 0) _ b0 Try.underlying27 rfl dk_size ?_))
      refine (HR.out _ (Hi.out.below hB0)).mono ?_
      rintro e W1 ⟨A1, c1, A2, c2, rfl, _, _, hb1⟩
      have hP1 := blk_below b0 hb1
      have hF1 := blk_below b1 hb1
      have hR1 := blk_below b2 hb1
      have hB1 := fw_trans hB0 hb1
      have r3 : W1.cell? ⟨w.heap.size + 1, 3, none⟩ = some (.string ⟨r.payer.toArray⟩) := cellOf hF1 rfl
      clear b0 b1 b2 hB0 hW0 hb1
      go_wp2_with (first | (refine wpList_store_row rfl 27 (.tmp 4) (.tmp 34) rfl (w.heap.size + 2) (dkCells none none 0 0 dkZ) rfl rfl 27 _ hR1 dk_size rfl (dk_one _ _ _ _ _) ?_))
      (try simp only [Exit.inBlock, Exit.then])
      refine bodyPost_ret (res_ct rfl _ _ (w.heap.size + 2) _ (dkCells none none 0 0 dkZ) _ _ rfl (setRow_heap _ _ _ _ _ _ hR1) Try.underlying27 rfl dk_size) rfl ?_
      exact DkPost.no (d := d) HA.out (below_setRow hB1 (by omega) _)
    have g24 : (((a.length : Int) + (b.length : Int)) == 1024) = false := by simp; omega
    have HA := Lib.hid (show appE d r = (⟨d.dur, d.vol ++ frame (encRec r)⟩, 0) by rw [HAE.out, if_neg h15, if_neg h24])
    go_enter Try.func21, Try.ntmps21
    go_wp2_with (first | (refine wpList_load_row rfl 27 (.tmp 2) rfl (w.heap.size) rfl 27 (dkCells A A' c c' d) (0, 0) _ b0 Try.underlying27 rfl dk_size ?_))
    refine (HR.out _ (Hi.out.below hB0)).mono ?_
    rintro e W1 ⟨A1, c1, A2, c2, rfl, _, _, hb1⟩
    have hP1 := blk_below b0 hb1
    have hF1 := blk_below b1 hb1
    have hR1 := blk_below b2 hb1
    have hB1 := fw_trans hB0 hb1
    have r3 : W1.cell? ⟨w.heap.size + 1, 3, none⟩ = some (.string ⟨r.payer.toArray⟩) := cellOf hF1 rfl
    clear b0 b1 b2 hB0 hW0 hb1
    go_wp2_with (first | (refine wpList_load_row rfl 38 (.tmp 3) rfl (w.heap.size + 1) rfl 38 (rcCells r) (0, 0) _ hF1 Try.underlying38 rfl rc_size ?_))
    refine (arec_any none 0 [] r W1 (by simp) hp Hok.out (.inl rfl) (fun _ => rfl) (Nat.le_refl _)).mono ?_
    rintro e W2 ⟨v2, rfl, hO2, hb2⟩
    rw [List.nil_append] at hO2
    have hP2 := blk_below hP1 hb2
    have hR2 := blk_below hR1 hb2
    have hB2 := fw_trans hB1 hb2
    obtain ⟨A3, c3, rfl, hE2⟩ := inB_own hO2
    have hel := encRec_len r Hok.out (by omega)
    have HE2 := Lib.hid hE2
    clear hP1 hF1 hR1 hB1 hb2 hO2 hE2 r3
    go_wp2_with fail
    refine (enc_any A3 c3 (encRec r) W2 (by omega) HE2.out.rd HE2.out.nil).mono ?_
    rintro e W3 ⟨v3, rfl, hO3, hb3⟩
    have hP3 := blk_below hP2 hb3
    have hR3 := blk_below hR2 hb3
    have hB3 := fw_trans hB2 hb3
    obtain ⟨fr, hfr⟩ : ∃ fr, frame (encRec r) = fr := ⟨_, rfl⟩
    have hfl : fr.length ≤ 10000 := by
      rw [← hfr]
      have h1 := (sealed_length (encRec r) (fcs (encRec r))).2
      unfold frame
      omega
    rw [hfr] at hO3 HA
    obtain ⟨A4, c4, rfl, hE3⟩ := inB_own hO3
    have HE3 := Lib.hid hE3
    have Hi3 := Lib.hid (Hi.out.below hB3)
    have hg3 : w.heap.size + 2 < W3.heap.size := blk_lt hR3
    clear hP2 hR2 hB2 hb3 hO3 hE3 HE2 HR HAE hfr
    go_wp2_with fail
    refine wp_region_noPanic ?_
    have hd3 : Below W3.heap.size W3 W3.drew := ⟨rfl, rfl, rfl, Nat.le_refl _, fun _ _ => rfl⟩
    refine wp_region_held_drew (S := fun W => But (w.heap.size + 2) W3 W) (by kernel_rfl) (But.of_below hd3) (fun h0 => ?_)
    refine wpAnyH_take (i := 0) (v := .pointer (some ⟨w.heap.size, 0, none⟩)) rfl (by kernel_rfl) (by kernel_rfl) (by kernel_rfl) (fun _ _ _ h => h) (Or.inl ⟨by rfl, fun W hW => by go_simp⟩) h0 ?_
    try simp only [Act.put, List.getElem?_toArray, List.getElem_toArray, List.getElem_cons_zero, List.getElem_cons_succ, List.setIfInBounds_toArray, List.set_cons_zero, List.set_cons_succ]
    refine wpAnyH_take (i := 1) (v := .slice A d.dur.length c) rfl (by kernel_rfl) (by kernel_rfl) (by kernel_rfl) (fun _ _ _ h => h) (Or.inl ⟨by rfl, fun W hW => by have hz : W.cell? ⟨w.heap.size, 0, none⟩ = some (.slice A d.dur.length c) := cellOf (hW.blkOf hP3 (by omega)) rfl; go_simp⟩) h0 ?_
    try simp only [Act.put, List.getElem?_toArray, List.getElem_toArray, List.getElem_cons_zero, List.getElem_cons_succ, List.setIfInBounds_toArray, List.set_cons_zero, List.set_cons_succ]
    refine wpAnyH_take (i := 3) (v := .pointer (some ⟨w.heap.size, 1, none⟩)) rfl (by kernel_rfl) (by kernel_rfl) (by kernel_rfl) (fun _ _ _ h => h) (Or.inl ⟨by rfl, fun W hW => by go_simp⟩) h0 ?_
    try simp only [Act.put, List.getElem?_toArray, List.getElem_toArray, List.getElem_cons_zero, List.getElem_cons_succ, List.setIfInBounds_toArray, List.set_cons_zero, List.set_cons_succ]
    refine wpAnyH_take (i := 4) (v := .slice A' d.vol.length c') rfl (by kernel_rfl) (by kernel_rfl) (by kernel_rfl) (fun _ _ _ h => h) (Or.inl ⟨by rfl, fun W hW => by have hz : W.cell? ⟨w.heap.size, 1, none⟩ = some (.slice A' d.vol.length c') := cellOf (hW.blkOf hP3 (by omega)) rfl; go_simp⟩) h0 ?_
    try simp only [Act.put, List.getElem?_toArray, List.getElem_toArray, List.getElem_cons_zero, List.getElem_cons_succ, List.setIfInBounds_toArray, List.set_cons_zero, List.set_cons_succ]
    refine wpAnyH_take (i := 5) (v := .slice A4 fr.length c4) rfl (by kernel_rfl) (by kernel_rfl) (by kernel_rfl) (fun _ _ _ h => h) (Or.inl ⟨by rfl, fun W hW => by rfl⟩) h0 ?_
    try simp only [Act.put, List.getElem?_toArray, List.getElem_toArray, List.getElem_cons_zero, List.getElem_cons_succ, List.setIfInBounds_toArray, List.set_cons_zero, List.set_cons_succ]
    refine wpAnyH_take (i := 9) (v := .int .i64 0) rfl (by kernel_rfl) (by kernel_rfl) (by kernel_rfl) (fun _ _ _ h => h) (Or.inl ⟨by rfl, fun W hW => by rfl⟩) h0 ?_
    try simp only [Act.put, List.getElem?_toArray, List.getElem_toArray, List.getElem_cons_zero, List.getElem_cons_succ, List.setIfInBounds_toArray, List.set_cons_zero, List.set_cons_succ]
    refine wpAnyH_ready (rs := [2, 6]) (by kernel_rfl) (by simp) ?_
    refine AllReadyH.cons rfl (fun K hK => ?_) (AllReadyH.cons rfl (fun K hK => ?_) AllReadyH.nil)
    · go_simp
      go_at_call 46
      refine (clone_inB (Hi3.out.b1.below hd3) (by omega)).mono ?_
      rintro e W4 ⟨v5, rfl, hO5, hb4⟩
      obtain ⟨A5, c5, rfl, _⟩ := inB_own hO5
      have hb4' := fw_trans hd3 hb4
      refine hK.out _ _ (h0.trans (But.of_below hb4)) (fun h1 => ?_)
      clear hK h0
      try simp only [Act.put, List.getElem?_toArray, List.getElem_toArray, List.getElem_cons_zero, List.getElem_cons_succ, List.setIfInBounds_toArray, List.set_cons_zero, List.set_cons_succ]
      refine wpAnyH_ready (rs := [6]) (by kernel_rfl) (by simp) ?_
      refine AllReadyH.cons rfl (fun K hK => ?_) AllReadyH.nil
      go_simp
      refine hK.out _ _ (h1.trans (But.of_below (fw_new _ _))) (fun h2 => ?_)
      clear hK h1
      try simp only [Act.put, List.getElem?_toArray, List.getElem_toArray, List.getElem_cons_zero, List.getElem_cons_succ, List.setIfInBounds_toArray, List.set_cons_zero, List.set_cons_succ]
      refine wpAnyH_ready (rs := [7]) (by kernel_rfl) (by simp) ?_
      refine AllReadyH.cons rfl (fun K hK => ?_) AllReadyH.nil
      go_simp
      go_at_call 47
      refine (cat2_any (cat2_rd (Hi3.out.b2.below hb4') (HE3.out.below hb4')) (by omega)).mono ?_
      rintro e W5 ⟨v6, rfl, hO6, hb5⟩
      obtain ⟨A6, c6, rfl, _⟩ := inB_own hO6
      have hb9 := fw_trans (fw_al hb4' _) hb5
      have HO5 := Lib.hid (own_lower (own_below hO5 (fw_trans (fw_new W4 _) hb5)) (show W3.heap.size ≤ W3.drew.heap.size from Nat.le_refl _))
      have HO6 := Lib.hid (own_lower hO6 (show W3.heap.size ≤ _ from (fw_al hb4' _).size))
      refine hK.out _ _ (h2.trans (But.of_below hb5)) (fun h9 => ?_)
      clear hK h2 hO5 hO6 hb4 hb5
      try simp only [Act.put, List.getElem?_toArray, List.getElem_toArray, List.getElem_cons_zero, List.getElem_cons_succ, List.setIfInBounds_toArray, List.set_cons_zero, List.set_cons_succ]
      refine wpAnyH_take (i := 8) (v := .agg #[.slice A5 d.dur.length c5, .slice A6 (d.vol ++ fr).length c6]) rfl (by kernel_rfl) (by kernel_rfl) (by kernel_rfl) (fun _ _ _ h => h) (Or.inl ⟨by rfl, fun W hW => by go_simp⟩) h9 ?_
      try simp only [Act.put, List.getElem?_toArray, List.getElem_toArray, List.getElem_cons_zero, List.getElem_cons_succ, List.setIfInBounds_toArray, List.set_cons_zero, List.set_cons_succ]
      refine wpAnyH_ready (rs := [10]) (by kernel_rfl) (by simp) ?_
      refine AllReadyH.cons rfl (fun K hK => ?_) AllReadyH.nil
      rw [if_pos (by rfl)]
      refine wp_store_row 27 (.tmp 4) (.tmp 53) rfl (w.heap.size + 2) (dkCells A5 A6 c5 c6 ⟨d.dur, d.vol ++ fr⟩) rfl rfl 27 _ (hb9.block _ hg3 |>.trans hR3) dk_size rfl (dk_one _ _ _ _ _) ?_
      have hf := setRow_heap W5 (w.heap.size + 2) _ (dkCells A5 A6 c5 c6 ⟨d.dur, d.vol ++ fr⟩) _ _ (hb9.block _ hg3 |>.trans hR3)
      refine hK.out _ _ (h9.trans ⟨rfl, rfl, rfl, by simp [World.setRow], fun k _ hk => setRow_other _ _ _ _ hk⟩) (fun h10 => ?_)
      clear hK
      try simp only [Act.put, List.getElem?_toArray, List.getElem_toArray, List.getElem_cons_zero, List.getElem_cons_succ, List.setIfInBounds_toArray, List.set_cons_zero, List.set_cons_succ]
      refine wpAnyH_take (i := 11) (v := .int .i64 0) rfl (by kernel_rfl) (by kernel_rfl) (by kernel_rfl) (fun _ _ _ h => h) (Or.inl ⟨by rfl, fun W hW => by rfl⟩) h10 ?_
      try simp only [Act.put, List.getElem?_toArray, List.getElem_toArray, List.getElem_cons_zero, List.getElem_cons_succ, List.setIfInBounds_toArray, List.set_cons_zero, List.set_cons_succ]
      refine wpAnyH_done (by kernel_rfl) ?_ _
      refine NoPanic.normal ?_
      go_wp2_with fail
      (try simp only [Exit.inBlock, Exit.then])
      refine bodyPost_ret (res_ct rfl _ _ (w.heap.size + 2) _ (dkCells A5 A6 c5 c6 ⟨d.dur, d.vol ++ fr⟩) _ _ rfl hf Try.underlying27 rfl dk_size) rfl ?_
      have i1 := inB_setRow (g := w.heap.size + 2) (cs := dkCells A5 A6 c5 c6 ⟨d.dur, d.vol ++ fr⟩) HO5.out hg3
      have i2 := inB_setRow (g := w.heap.size + 2) (cs := dkCells A5 A6 c5 c6 ⟨d.dur, d.vol ++ fr⟩) HO6.out hg3
      exact DkPost.yes HA.out (below_setRow (fw_trans hB3 hb9) (by omega) _) i1 i2
    · go_simp
      refine hK.out _ _ (h0.trans (But.of_below (fw_new _ _))) (fun h1 => ?_)
      clear hK h0
      try simp only [Act.put, List.getElem?_toArray, List.getElem_toArray, List.getElem_cons_zero, List.getElem_cons_succ, List.setIfInBounds_toArray, List.set_cons_zero, List.set_cons_succ]
      refine wpAnyH_ready (rs := [2]) (by kernel_rfl) (by simp) ?_
      refine AllReadyH.cons rfl (fun K hK => ?_) AllReadyH.nil
      go_simp
      go_at_call 46
      have hal := cat2_rd (Hi3.out.b2.below hd3) (HE3.out.below hd3)
      have hba := fw_al hd3 (.cells #[.slice A' d.vol.length c', .slice A4 fr.length c4] 25)
      refine (clone_inB (Hi3.out.b1.below hba) (by omega)).mono ?_
      rintro e W4 ⟨v5, rfl, hO5, hb4⟩
      obtain ⟨A5, c5, rfl, _⟩ := inB_own hO5
      have hal2 := hal.below hb4
      refine hK.out _ _ (h1.trans (But.of_below hb4)) (fun h2 => ?_)
      clear hK h1 hal
      try simp only [Act.put, List.getElem?_toArray, List.getElem_toArray, List.getElem_cons_zero, List.getElem_cons_succ, List.setIfInBounds_toArray, List.set_cons_zero, List.set_cons_succ]
      refine wpAnyH_ready (rs := [7]) (by kernel_rfl) (by simp) ?_
      refine AllReadyH.cons rfl (fun K hK => ?_) AllReadyH.nil
      go_simp
      go_at_call 47
      refine (cat2_any hal2 (by omega)).mono ?_
      rintro e W5 ⟨v6, rfl, hO6, hb5⟩
      obtain ⟨A6, c6, rfl, _⟩ := inB_own hO6
      have hb9 := fw_trans (fw_trans hba hb4) hb5
      have HO5 := Lib.hid (own_lower (own_below hO5 hb5) (show W3.heap.size ≤ _ from hba.size))
      have HO6 := Lib.hid (own_lower hO6 (show W3.heap.size ≤ _ from (fw_trans hba hb4).size))
      refine hK.out _ _ (h2.trans (But.of_below hb5)) (fun h9 => ?_)
      clear hK h2 hO5 hO6 hb4 hb5 hal2 hba
      try simp only [Act.put, List.getElem?_toArray, List.getElem_toArray, List.getElem_cons_zero, List.getElem_cons_succ, List.setIfInBounds_toArray, List.set_cons_zero, List.set_cons_succ]
      refine wpAnyH_take (i := 8) (v := .agg #[.slice A5 d.dur.length c5, .slice A6 (d.vol ++ fr).length c6]) rfl (by kernel_rfl) (by kernel_rfl) (by kernel_rfl) (fun _ _ _ h => h) (Or.inl ⟨by rfl, fun W hW => by go_simp⟩) h9 ?_
      try simp only [Act.put, List.getElem?_toArray, List.getElem_toArray, List.getElem_cons_zero, List.getElem_cons_succ, List.setIfInBounds_toArray, List.set_cons_zero, List.set_cons_succ]
      refine wpAnyH_ready (rs := [10]) (by kernel_rfl) (by simp) ?_
      refine AllReadyH.cons rfl (fun K hK => ?_) AllReadyH.nil
      rw [if_pos (by rfl)]
      refine wp_store_row 27 (.tmp 4) (.tmp 53) rfl (w.heap.size + 2) (dkCells A5 A6 c5 c6 ⟨d.dur, d.vol ++ fr⟩) rfl rfl 27 _ (hb9.block _ hg3 |>.trans hR3) dk_size rfl (dk_one _ _ _ _ _) ?_
      have hf := setRow_heap W5 (w.heap.size + 2) _ (dkCells A5 A6 c5 c6 ⟨d.dur, d.vol ++ fr⟩) _ _ (hb9.block _ hg3 |>.trans hR3)
      refine hK.out _ _ (h9.trans ⟨rfl, rfl, rfl, by simp [World.setRow], fun k _ hk => setRow_other _ _ _ _ hk⟩) (fun h10 => ?_)
      clear hK
      try simp only [Act.put, List.getElem?_toArray, List.getElem_toArray, List.getElem_cons_zero, List.getElem_cons_succ, List.setIfInBounds_toArray, List.set_cons_zero, List.set_cons_succ]
      refine wpAnyH_take (i := 11) (v := .int .i64 0) rfl (by kernel_rfl) (by kernel_rfl) (by kernel_rfl) (fun _ _ _ h => h) (Or.inl ⟨by rfl, fun W hW => by rfl⟩) h10 ?_
      try simp only [Act.put, List.getElem?_toArray, List.getElem_toArray, List.getElem_cons_zero, List.getElem_cons_succ, List.setIfInBounds_toArray, List.set_cons_zero, List.set_cons_succ]
      refine wpAnyH_done (by kernel_rfl) ?_ _
      refine NoPanic.normal ?_
      go_wp2_with fail
      (try simp only [Exit.inBlock, Exit.then])
      refine bodyPost_ret (res_ct rfl _ _ (w.heap.size + 2) _ (dkCells A5 A6 c5 c6 ⟨d.dur, d.vol ++ fr⟩) _ _ rfl hf Try.underlying27 rfl dk_size) rfl ?_
      have i1 := inB_setRow (g := w.heap.size + 2) (cs := dkCells A5 A6 c5 c6 ⟨d.dur, d.vol ++ fr⟩) HO5.out hg3
      have i2 := inB_setRow (g := w.heap.size + 2) (cs := dkCells A5 A6 c5 c6 ⟨d.dur, d.vol ++ fr⟩) HO6.out hg3
      exact DkPost.yes HA.out (below_setRow (fw_trans hB3 hb9) (by omega) _) i1 i2
end Go.Proofs.Ytaoiklfkkipcaaa
