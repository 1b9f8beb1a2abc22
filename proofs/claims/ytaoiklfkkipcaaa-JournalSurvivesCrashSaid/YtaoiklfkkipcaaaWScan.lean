import Derived.Test.YtaoiklfkkipcaaaWDec
import Derived.Test.YtaoiklfkkipcaaaSegs
import Derived.RangeFuncNested
import Derived.RangeFuncBound
import Derived.RangeFuncCalls
import Derived.RangeFuncLeaves
import Derived.Shelf.Abstract
import Derived.Shelf.RegionOpen
import Derived.OwnWalkIn
import Derived.TacticsInMore
import Derived.LoopNIn
import Derived.LoopIn
import Derived.RegionIn
import Derived.OrdersIn
import Derived.Maps.OwnIn
import Derived.RangeFuncBox
namespace Go.Proofs.Ytaoiklfkkipcaaa
open Go Go.RowKit Hd Go.Mem Go.Shelf

attribute [local go_sem] Oper.semAt_some

/-- what a segment is handed over as -/
def segEnc (A : Option Addr) (c : Nat) {l : List UInt8} (s : Seg l) : Array Value := #[.slice (adv A c (s.k + 1)) s.n (c - (s.k + 1)), .int .i64 ((s.k : Int) + 1 + (s.n : Int))]
/-- what the loop's body keeps for the iterator -/
structure KpS (S : Nat → Prop) (W W' : World) : Prop where
  size : W.heap.size ≤ W'.heap.size
  blk : ∀ k, S k → k < W.heap.size → W'.heap[k]? = W.heap[k]?
theorem KpS.trans {S : Nat → Prop} {A B C : World} (h : KpS S A B) (k : KpS S B C) : KpS S A C :=
  ⟨Nat.le_trans h.size k.size, fun i hi hl => (k.blk i hi (Nat.lt_of_lt_of_le hl h.size)).trans (h.blk i hi hl)⟩
theorem KpS.refl (S : Nat → Prop) (A : World) : KpS S A A := ⟨Nat.le_refl _, fun _ _ _ => rfl⟩
theorem KpS.rd {S : Nat → Prop} {W W' : World} (h : KpS S W W') {A : Option Addr} {xs : List Value} (hr : RdP S W A xs) : RdP S W' A xs :=
  hr.move h.blk (fun _ h _ => h)

theorem info_sl : (Try.prog.info? 25).map (fun i => (i.zero, i.size, i.bytes)) = some (some (.slice none 0 0), 1, 24) := by kernel_rfl
theorem segOuts_len {l : List UInt8} (pre : List (Seg l)) : (segOuts pre).length ≤ pre.length := by
  induction pre with
  | nil => simp [segOuts]
  | cons y r ih =>
    have h1 : y.out.length ≤ 1 := by unfold Seg.out outs; split <;> simp
    simp only [segOuts, List.flatMap_cons, List.length_append, List.length_cons] at ih ⊢
    omega
theorem contents_any (A : Option Addr) (n c : Nat) (f : Int) (w : World) :
    Calls Try.prog 35 #[.slice A n c, .int .i64 f] w fun e w' =>
      e = .returned (.func (.func 56) #[] #[.pointer (some ⟨w.heap.size + 1, 0, none⟩), .pointer (some ⟨w.heap.size, 0, none⟩)]) ∧
      (w.alloc (.cells #[.slice A n c] 25)).alloc (.cells #[.int .i64 f] 3) = w' := by
  go_enter Try.func35, Try.ntmps35
  go_wp2
  go_ret
  exact ⟨rfl, rfl⟩

set_option maxRecDepth 100000 in
set_option maxHeartbeats 1000000 in
theorem contents1_in (md : Nat) (hmd : 1 ≤ md) (ly : Nat) (S : Nat → Prop) (A : Option Addr) (c : Nat) (l : List UInt8) (hl : l.length ≤ 140737488351232) (hc : l.length ≤ c) (f bf bb : Nat) (hf : f < l.length) (hSb : S bb)
    (J Jx : List (Seg l) → World → Prop)
    (hY : ∀ pre x W, J pre W → pre.length < l.length → YieldAt Fence.wide (md - 1) Try.prog ly (segEnc A c x) W fun e W' =>
      (e = .returned (.bool true) ∧ J (pre ++ [x]) W' ∧ KpS S W W') ∨ (e = .returned (.bool false) ∧ Jx (pre ++ [x]) W'))
    (W : World) (hbf : W.cell? ⟨bf, 0, none⟩ = some (.int .i64 (f : Int))) (hbb : W.cell? ⟨bb, 0, none⟩ = some (.slice A l.length c)) (hr : RdP S W A (l.map B)) (h0 : J [] W) :
    CallsIn Fence.wide md Try.prog 56 #[.func (.yield ly) #[] #[], .pointer (some ⟨bf, 0, none⟩), .pointer (some ⟨bb, 0, none⟩)] W fun e W' => (∃ v, e = .returned v) ∧
      ((∃ ys, ys = segs l f ∧ J ys W') ∨ (∃ pre, pre <+: segs l f ∧ Jx pre W')) := by
  refine callsIn_of_wp Try.func56 rfl trivial ?_ rfl
  simp only [Try.ntmps56, List.size_toArray, List.length_cons, List.length_nil, Nat.reduceAdd, Nat.reduceSub, Array.replicate_succ, Array.replicate_zero, List.push_toArray, List.append_toArray, List.nil_append, List.cons_append]
  gi_wp2
  gi_loopw [4] (fun v wr => ∃ (pre : List (Seg l)) (k : Nat), v = .int .i64 k ∧ k < l.length ∧ pre ++ segs l k = segs l f ∧ J pre wr ∧ wr.cell? ⟨bb, 0, none⟩ = some (.slice A l.length c) ∧ RdP S wr A (l.map B)) (fun v _ => l.length - (intOf v).toNat)
  case atStart => exact ⟨[], f, rfl, hf, rfl, h0, hbb, hr⟩
  case round =>
    obtain ⟨pre, k, rfl, hk, hpre, hJ, hcb, hrw⟩ := hrel
    clear hbf hbb hr h0
    have hrd : Rd wr A l := hrw.c
    have s1 := slc_l 25 5 Try.underlying25 u8_sz A l.length c ((k : Int) + 1) (k + 1) (by omega) (by omega)
    have hr1 := hrd.drop (k + 1) c hc
    have e1 : l.length - (k + 1) = (l.drop (k + 1)).length := by simp
    have hA1 : adv A c (k + 1) = none → l.drop (k + 1) = [] := by
      intro e
      obtain ⟨b, off, rfl, _⟩ := hrd.at k hk
      unfold adv at e
      split at e <;> simp at e
    have Hpre := Lib.hid hpre
    have Hc := Lib.hid (fun w (h1 : Rd w (adv A c (k + 1)) (l.drop (k + 1))) => e1 ▸ idx_any (adv A c (k + 1)) (c - (k + 1)) (l.drop (k + 1)) w h1 hA1)
    clear e1 hA1
    cases hidx : idxFlag (l.drop (k + 1)) with
    | none =>
      have hI : idxI (l.drop (k + 1)) = -1 := by unfold idxI; rw [hidx]
      have hs := segs_none hidx
      rw [hs, List.append_nil] at hpre
      have Hpre2 := Lib.hid hpre
      have Hr1 := Lib.hid hr1
      have HI := Lib.hid hI
      clear hidx hI hs hpre hr1 hrd hrw
      gi_wp2_with (refine ⟨trivial, ?_⟩; gi_at_call 34; refine (callsIn_wide.2 (Hc.out _ Hr1.out)).mono ?_; rw [HI.out]; rintro e w' ⟨rfl, rfl⟩)
      refine ⟨fun _ h => (by cases h), ?_⟩
      gi_wp2
      refine bodyPost_ret (results_none rfl _ _ _) rfl ?_
      exact ⟨⟨_, rfl⟩, .inl ⟨pre, Hpre2.out, hJ⟩⟩
    | some n =>
      have hnl := (Seg.mk k n hk hidx).lt
      simp only at hnl
      obtain ⟨sg, hsk, hsn, hs⟩ : ∃ sg : Seg l, sg.k = k ∧ sg.n = n ∧ segs l k = sg :: segs l (k + 1 + n) := ⟨⟨k, n, hk, hidx⟩, rfl, rfl, segs_some hk hidx⟩
      have hI : idxI (l.drop (k + 1)) = (n : Int) := by unfold idxI; rw [hidx]
      have hlen : pre.length < l.length := by
        have h1 := congrArg List.length hpre
        rw [hs] at h1
        have h2 := segs_len l _ f rfl
        simp at h1
        omega
      obtain ⟨fn, tmps, assign, body, hy, hR⟩ := hY pre sg wr hJ hlen
      have s2 := slc_lh 25 5 Try.underlying25 u8_sz A l.length c ((k : Int) + 1) ((k : Int) + 1 + (n : Int)) (k + 1) (k + 1 + n) (by omega) (by omega) (by omega) (by omega)
      rw [show k + 1 + n - (k + 1) = n from by omega] at s2
      simp only [segEnc, hsk, hsn] at hy
      have hz : decide ((n : Int) < 0) = false := by simp
      have Hr1 := Lib.hid hr1
      have HI := Lib.hid hI
      have Hs := Lib.hid hs
      have HR := Lib.hid hR
      have Hrw := Lib.hid hrw
      clear hidx hI hs hpre hr1 hrd hR hrw hsk hsn
      gi_wp2_with (refine ⟨trivial, ?_⟩; gi_at_call 34; refine (callsIn_wide.2 (Hc.out _ Hr1.out)).mono ?_; rw [HI.out]; rintro e w' ⟨rfl, rfl⟩)
      refine HR.out.mono ?_
      rintro e W3 (⟨rfl, hJ3, hk3⟩ | ⟨rfl, hJx3⟩)
      · have hcb3 : W3.cell? ⟨bb, 0, none⟩ = some (.slice A l.length c) := by
          rw [World.cell?_of_block (a := ⟨bb, 0, none⟩) (hk3.blk bb hSb (World.block_lt_of_cell? wr _ hcb))]
          exact hcb
        have Hrw3 := Lib.hid (hk3.rd Hrw.out)
        clear hk3
        gi_wp2
        go_roundw
        case rel => exact ⟨pre ++ [sg], k + 1 + n, by go_num, by omega, by rw [← Hpre.out, Hs.out]; simp, hJ3, hcb3, Hrw3.out⟩
        case measure => simp [intOf]; omega
      · gi_wp2
        refine bodyPost_ret (results_none rfl _ _ _) rfl ?_
        exact ⟨⟨_, rfl⟩, .inr ⟨pre ++ [sg], ⟨segs l (k + 1 + n), by rw [← Hpre.out, Hs.out]; simp⟩, hJx3⟩⟩

theorem contents_stops (md : Nat) (hmd : 1 ≤ md) (S : Nat → Prop) (A : Option Addr) (c : Nat) (l : List UInt8) (hl : l.length ≤ 140737488351232) (hc : l.length ≤ c) (f bf bb : Nat) (hf : f < l.length) (hSb : S bb) (w : World)
    (hbf : w.cell? ⟨bf, 0, none⟩ = some (.int .i64 (f : Int))) (hbb : w.cell? ⟨bb, 0, none⟩ = some (.slice A l.length c)) (hr : RdP S w A (l.map B)) :
    SeqStopsK Fence.wide md Try.prog 56 #[.pointer (some ⟨bf, 0, none⟩), .pointer (some ⟨bb, 0, none⟩)] (segEnc A c (l := l)) (KpS S) (fun ys => ys = segs l f) (fun pre => pre <+: segs l f) l.length w :=
  fun ly J Jx W hW _ _ hY h0 => contents1_in md hmd ly S A c l hl hc f bf bb hf hSb J Jx hY W
    ((hW.cell (p := ⟨bf, 0, none⟩) (World.block_lt_of_cell? w _ hbf)).trans hbf) ((hW.cell (p := ⟨bb, 0, none⟩) (World.block_lt_of_cell? w _ hbb)).trans hbb) (hr.below hW) h0

/-- what stands between two rounds of Scan's loop -/
structure ScanI (w : World) (A : Option Addr) (c : Nat) (l : List UInt8) (f : Nat) (pre : List (Seg l)) (W : World) : Prop where
  below : Below w.heap.size w W
  size : w.heap.size + 4 ≤ W.heap.size
  bx : W.heap[w.heap.size + 2]? = some (.cells #[.slice A l.length c] 25 (0, 0))
  used : W.heap[w.heap.size + 1]? = some (.cells #[.int .i64 (segEnd f pre : Int)] 3 (0, 0))
  row : ∃ v, W.heap[w.heap.size]? = some (.cells #[v] 33 (0, 0)) ∧ RowB W (w.heap.size + 4) 25 v (segOuts pre)

theorem ScanI.from (w : World) (A : Option Addr) (c : Nat) (l : List UInt8) (f : Nat) (N : Nat) (hN : w.heap.size + 4 ≤ N) : OwnFrom N (ScanI w A c l f) := by
  intro s W W' row h hg hr
  have hk : ∀ k, k < N → k < W.heap.size → W'.heap[k]? = W.heap[k]? := fun k hk hl => hg.block k hl fun e => by
    have := (hr k e.symm).1
    omega
  have hs := h.size
  refine ⟨h.below.trans ⟨hg.os, hg.tape, hg.output, hg.size, fun k hk' => hk k (by omega) (by omega)⟩, Nat.le_trans h.size hg.size, ?_, ?_, ?_⟩
  · rw [hk _ (by omega) (by omega)]; exact h.bx
  · rw [hk _ (by omega) (by omega)]; exact h.used
  · obtain ⟨v, h1, h2⟩ := h.row
    exact ⟨v, by rw [hk _ (by omega) (by omega)]; exact h1, h2.kept hg (fun r e => (hr r e).2)⟩
theorem blk_cell {W : World} {b : Nat} {v : Value} {t : Nat} {fr : Nat × Nat} (h : W.heap[b]? = some (.cells #[v] t fr)) : W.cell? ⟨b, 0, none⟩ = some v := by
  rw [cell_of_row _ _ _ _ _ _ h]; rfl
theorem seg_rd {W : World} {A : Option Addr} {c : Nat} {l : List UInt8} (hc : l.length ≤ c) (h : Rd W A l) (x : Seg l) : Rd W (adv A c (x.k + 1)) x.c := (h.drop (x.k + 1) c hc).take x.n
theorem Seg.clen {l : List UInt8} (x : Seg l) : x.c.length = x.n := by
  have := x.lt
  unfold Seg.c
  simp
  omega

theorem hneL {W : World} {base : Nat} {e : TypeId} {v : Value} {n : Nat} {vs : List Value} (h : W.ownsRow base e 1 v n vs) (k : Nat) (hk : k < base) : v.ownBlock ≠ some k := fun e => by
  have := (h.lt k e).1
  omega
theorem keeps_cells {W W' : World} {N : Nat} (hs : W.heap.size ≤ W'.heap.size) (h : ∀ k, k < W.heap.size → W'.heap[k]? = W.heap[k]? ∨ ∃ cs t fr, W.heap[k]? = some (.cells cs t fr)) : KeepsFrom N W W' :=
  ⟨hs, fun k o _ ho hn => by
    rcases h k (blk_lt ho) with e | ⟨cs, t, fr, e⟩
    · rw [e]; exact ho
    · rw [e] at ho; cases ho; cases hn⟩
/-- the round behind a payload that does not open -/
theorem scan_skip {w W W1 : World} {A : Option Addr} {c : Nat} {l : List UInt8} {f : Nat} {pre : List (Seg l)} {x : Seg l} (h : ScanI w A c l f pre W) (hb : Below W.heap.size W W1) (hx : x.out = []) (N : Nat) :
    KeepsFrom N W (W1.setCell ⟨w.heap.size + 1, 0, none⟩ (.int .i64 ((x.k : Int) + 1 + (x.n : Int)))) ∧
    KpS (fun k => k < w.heap.size ∨ k = w.heap.size + 1 + 1) W (W1.setCell ⟨w.heap.size + 1, 0, none⟩ (.int .i64 ((x.k : Int) + 1 + (x.n : Int)))) ∧
    ScanI w A c l f (pre ++ [x]) (W1.setCell ⟨w.heap.size + 1, 0, none⟩ (.int .i64 ((x.k : Int) + 1 + (x.n : Int)))) := by
  have hs := h.size
  have hs1 := hb.size
  have hk : ∀ k, k < W.heap.size → k ≠ w.heap.size + 1 → (W1.setCell ⟨w.heap.size + 1, 0, none⟩ (.int .i64 ((x.k : Int) + 1 + (x.n : Int)))).heap[k]? = W.heap[k]? := fun k hl hne => by
    rw [heap_setCell_other _ _ _ _ hne, hb.block k hl]
  have hsz : (W1.setCell ⟨w.heap.size + 1, 0, none⟩ (.int .i64 ((x.k : Int) + 1 + (x.n : Int)))).heap.size = W1.heap.size := by simp
  refine ⟨keeps_cells (by rw [hsz]; exact hs1) fun k hl => ?_, ⟨by rw [hsz]; exact hs1, fun k hS hl => hk k hl (by omega)⟩, ?_, by rw [hsz]; omega, ?_, ?_, ?_⟩
  · by_cases e : k = w.heap.size + 1
    · subst e; exact .inr ⟨_, _, _, h.used⟩
    · exact .inl (hk k hl e)
  · exact (h.below.trans (hb.mono (by omega))).setCell (by simp) _
  · rw [hk _ (by omega) (by omega)]; exact h.bx
  · rw [heap_setCell_same _ _ _ _ _ _ ((hb.block _ (by omega)).trans h.used), segEnd_snoc]
    simp
  · obtain ⟨v, h1, h2⟩ := h.row
    refine ⟨v, by rw [hk _ (by omega) (by omega)]; exact h1, ?_⟩
    rw [segOuts_snoc, hx, List.append_nil]
    exact h2.move fun k hk1 hl => hk k hl (by omega)
/-- .. behind one that does -/
theorem scan_push {w W W1 W3 : World} {A : Option Addr} {c : Nat} {l : List UInt8} {f : Nat} {pre : List (Seg l)} {x : Seg l} {p : List UInt8} {v v' el : Value} {vs : List Value} (h : ScanI w A c l f pre W) (hb : Below W.heap.size W W1) (hx : x.out = [p])
    (hv : W.heap[w.heap.size]? = some (.cells #[v] 33 (0, 0))) (ho : W.ownsRow (w.heap.size + 4) 25 1 v (segOuts pre).length vs) (hE : Els (fun b => w.heap.size + 4 ≤ b ∧ v.ownBlock ≠ some b) W vs (segOuts pre))
    (hel : El (W.heap.size ≤ ·) W1 el p) (ho' : W3.ownsRow (w.heap.size + 4) 25 1 v' ((segOuts pre).length + 1) (vs ++ [el])) (hg : (W1.alloc (.cells #[el] 25)).grownBy W3 v.ownBlock)
    (hat : v'.ownBlock = v.ownBlock ∨ v'.ownBlock = some (W1.alloc (.cells #[el] 25)).heap.size) (N : Nat) :
    KeepsFrom N W ((W3.setCell ⟨w.heap.size, 0, none⟩ v').setCell ⟨w.heap.size + 1, 0, none⟩ (.int .i64 ((x.k : Int) + 1 + (x.n : Int)))) ∧
    KpS (fun k => k < w.heap.size ∨ k = w.heap.size + 1 + 1) W ((W3.setCell ⟨w.heap.size, 0, none⟩ v').setCell ⟨w.heap.size + 1, 0, none⟩ (.int .i64 ((x.k : Int) + 1 + (x.n : Int)))) ∧
    ScanI w A c l f (pre ++ [x]) ((W3.setCell ⟨w.heap.size, 0, none⟩ v').setCell ⟨w.heap.size + 1, 0, none⟩ (.int .i64 ((x.k : Int) + 1 + (x.n : Int)))) := by
  have hs := h.size
  have hs1 := hb.size
  have hs2 : (W1.alloc (.cells #[el] 25)).heap.size = W1.heap.size + 1 := by simp
  have hs3 := hg.size
  have hvl : ∀ k, v.ownBlock = some k → w.heap.size + 4 ≤ k ∧ k < W.heap.size := ho.lt
  -- a block of W other than the row's
  have h3 : ∀ k, k < W.heap.size → v.ownBlock ≠ some k → W3.heap[k]? = W.heap[k]? := fun k hl hne => by
    rw [hg.block k (by omega) (fun e => hne e.symm), heap_alloc_old _ _ (by omega), hb.block k hl]
  have hlow : ∀ k, k < w.heap.size + 4 → v.ownBlock ≠ some k := fun k hl e => by have := (hvl k e).1; omega
  have hk : ∀ k, k < W.heap.size → k ≠ w.heap.size + 1 → k ≠ w.heap.size → v.ownBlock ≠ some k → ((W3.setCell ⟨w.heap.size, 0, none⟩ v').setCell ⟨w.heap.size + 1, 0, none⟩ (.int .i64 ((x.k : Int) + 1 + (x.n : Int)))).heap[k]? = W.heap[k]? := fun k hl hne hne2 hne3 => by
    rw [heap_setCell_other _ _ _ _ hne, heap_setCell_other _ _ _ _ hne2, h3 k hl hne3]
  have hsz : ((W3.setCell ⟨w.heap.size, 0, none⟩ v').setCell ⟨w.heap.size + 1, 0, none⟩ (.int .i64 ((x.k : Int) + 1 + (x.n : Int)))).heap.size = W3.heap.size := by simp
  refine ⟨keeps_cells (by rw [hsz]; omega) fun k hl => ?_, ⟨by rw [hsz]; omega, fun k hS hl => hk k hl (by omega) (by omega) (hlow k (by omega))⟩, ?_, by rw [hsz]; omega, ?_, ?_, ?_⟩
  · by_cases e : k = w.heap.size + 1
    · subst e; exact .inr ⟨_, _, _, h.used⟩
    · by_cases e2 : k = w.heap.size
      · subst e2; exact .inr ⟨_, _, _, hv⟩
      · by_cases e3 : v.ownBlock = some k
        · rcases ho.2 with ⟨rfl, _⟩ | ⟨g, cap, cur, rfl, _, hg2, _⟩
          · cases e3
          · cases e3; exact .inr ⟨_, _, _, hg2⟩
        · exact .inl (hk k hl e e2 e3)
  · have hb3 : Below w.heap.size w W3 := ((h.below.trans (hb.mono (by omega))).alloc (by omega) _).grown hg (by omega) (fun k e => by have := (hvl k e).1; omega)
    exact (hb3.setCell (by simp) _).setCell (by simp) _
  · rw [hk _ (by omega) (by omega) (by omega) (hlow _ (by omega))]; exact h.bx
  · have hu : (W3.setCell ⟨w.heap.size, 0, none⟩ v').heap[w.heap.size + 1]? = some (.cells #[.int .i64 (segEnd f pre : Int)] 3 (0, 0)) := by
      rw [heap_setCell_other _ _ _ _ (by simp), h3 _ (by omega) (hlow _ (by omega))]; exact h.used
    rw [heap_setCell_same _ _ _ _ _ _ hu, segEnd_snoc]
    simp
  · have hv3 : W3.heap[w.heap.size]? = some (.cells #[v] 33 (0, 0)) := by rw [h3 _ (by omega) (hlow _ (by omega))]; exact hv
    refine ⟨v', ?_, ?_⟩
    · rw [heap_setCell_other _ _ _ _ (by simp), heap_setCell_same _ _ _ _ _ _ hv3]
      simp
    · rw [segOuts_snoc, hx]
      have hR : RowB W3 (w.heap.size + 4) 25 v' (segOuts pre ++ [p]) := by
        refine RowB.pushed (W := W1.alloc (.cells #[el] 25)) (vs := vs) (us := [el]) (hE.move (fun b hb' hl => ?_) (fun b hb' _ => hb')) ⟨hel.move (fun b _ hl => heap_alloc_old _ _ hl) (fun b hb' _ => ⟨by omega, fun e => by have := (hvl b e).2; omega⟩), trivial⟩ (by simp) ho' hg hat
        rw [heap_alloc_old _ _ (by omega), hb.block b hl]
      exact hR.move fun k hk1 _ => by rw [heap_setCell_other _ _ _ _ (by simp; omega), heap_setCell_other _ _ _ _ (by simp; omega)]

set_option maxRecDepth 100000 in
set_option maxHeartbeats 1000000 in
theorem scan_yes (A : Option Addr) (c : Nat) (l : List UInt8) (w : World) (f : Nat) (hl : l.length ≤ 1000000000000) (hc : l.length ≤ c) (hr : Rd w A l) (hA : A = none → l = []) (hf : idxFlag l = some f) :
    Calls Try.prog 15 #[.slice A l.length c] w fun e w' => ∃ v, e = .returned (.tuple #[v, .int .i64 (segEnd f (segs l f) : Int)]) ∧ RowB w' w.heap.size 25 v (segOuts (segs l f)) ∧ Below w.heap.size w w' := by
  obtain ⟨i0, hi0, hz0, hz1, hz2⟩ := info_parts info_sl
  refine (callsIn_wide (n := 5)).1 ?_
  refine callsIn_of_wp_marks Try.func15 rfl trivial ?_ rfl
  simp only [Try.ntmps15, List.size_toArray, List.length_cons, List.length_nil, Nat.reduceAdd, Nat.reduceSub, Array.replicate_succ, Array.replicate_zero, List.push_toArray, List.append_toArray, List.nil_append, List.cons_append]
  have hI : idxI l = (f : Int) := by unfold idxI; rw [hf]
  have hfl := (idxFlag_cut hf).2.2
  have Hf := Lib.hid hf
  have HI := Lib.hid hI
  have Hr := Lib.hid hr
  have hz : decide ((f : Int) < 0) = false := by simp
  clear hf hI hr
  gi_wp2_with (first | (refine ⟨trivial, ?_⟩; gi_at_call 34; refine (callsIn_wide.2 (idx_any A c l _ (Hr.out.below (((Below.refl _ w).alloc (Nat.le_refl _) _).alloc (by simp) _)) hA)).mono ?_; rw [HI.out]; rintro e w' ⟨rfl, rfl⟩) | (refine ⟨trivial, ?_⟩; gi_at_call 35; refine (callsIn_wide.2 (contents_any A l.length c _ _)).mono ?_; rintro e w' ⟨rfl, rfl⟩))
  generalize hW4 : ((((w.alloc (Obj.cells #[Value.slice none 0 0] 33)).alloc (Obj.cells #[Value.int IntKind.i64 ↑f] 3)).alloc (Obj.cells #[Value.slice A l.length c] 25)).alloc (Obj.cells #[Value.int IntKind.i64 ↑f] 3)) = W4
  have hS4 : W4.heap.size = w.heap.size + 4 := by rw [← hW4]; simp
  have hB4 : Below w.heap.size w W4 := by
    rw [← hW4]
    exact ((((Below.refl _ w).alloc (Nat.le_refl _) _).alloc (by simp) _).alloc (by simp; omega) _).alloc (by simp; omega) _
  have hI0 : ScanI w A c l f [] W4 := by
    refine ⟨hB4, by omega, ?_, ?_, .slice none 0 0, ?_, RowB.nil _ _ _⟩
    · rw [← hW4]
      have h := heap_alloc_new ((w.alloc (Obj.cells #[Value.slice none 0 0] 33)).alloc (Obj.cells #[Value.int IntKind.i64 ↑f] 3)) (Obj.cells #[Value.slice A l.length c] 25)
      simp only [World.size_alloc] at h
      exact alloc_blk _ h
    · rw [← hW4]
      have h := heap_alloc_new (w.alloc (Obj.cells #[Value.slice none 0 0] 33)) (Obj.cells #[Value.int IntKind.i64 ↑f] 3)
      simp only [World.size_alloc] at h
      exact alloc_blk _ (alloc_blk _ h)
    · rw [← hW4]
      exact alloc_blk _ (alloc_blk _ (alloc_blk _ (heap_alloc_new _ _)))
  have hbf : W4.cell? ⟨w.heap.size + 1 + 1 + 1, 0, none⟩ = some (.int .i64 (f : Int)) := by
    rw [← hW4]
    have h := heap_alloc_new ((((w.alloc (Obj.cells #[Value.slice none 0 0] 33)).alloc (Obj.cells #[Value.int IntKind.i64 ↑f] 3)).alloc (Obj.cells #[Value.slice A l.length c] 25))) (Obj.cells #[Value.int IntKind.i64 ↑f] 3)
    simp only [World.size_alloc] at h
    exact blk_cell h
  clear hW4
  have hrS : RdP (fun k => k < w.heap.size ∨ k = w.heap.size + 1 + 1) W4 A (l.map B) := by
    have h1 : RdP (· < w.heap.size) w A (l.map B) := RdC.p Hr.out
    exact h1.move (fun b hb _ => hB4.block b hb) (fun b hb _ => .inl hb)
  refine wpIn_rangeFunc_ownG rfl (by omega) (gf := 56) (lb := #[.pointer (some ⟨w.heap.size + 1 + 1 + 1, 0, none⟩), .pointer (some ⟨w.heap.size + 1 + 1, 0, none⟩)]) rfl trivial (enters_of Try.func56 (by kernel_rfl) rfl)
    (contents_stops (5 - 1) (by omega) (fun k => k < w.heap.size ∨ k = w.heap.size + 1 + 1) A c l (by omega) hc f (w.heap.size + 1 + 1 + 1) (w.heap.size + 1 + 1) hfl (.inr rfl) W4 hbf (blk_cell hI0.bx) hrS) KpS.trans
    (fun W ly o o' hly ho hcells hwalk => ⟨by simp, fun k hk hkl => World.putObj_heap_other (fun e => by rw [e] at hk; omega)⟩) (Below.refl _ _) (fun _ => rfl)
    (ScanI w A c l f) (fun _ _ _ => False) (ScanI.from w A c l f _ (by omega)) (fun _ _ _ _ _ hs _ _ => hs) hI0
    (fun x => { tmps := #[.slice A l.length c, undef, .pointer (some ⟨w.heap.size, 0, none⟩), .pointer (some ⟨w.heap.size + 1, 0, none⟩), .slice (adv A c (x.k + 1)) x.n (c - (x.k + 1)), .int .i64 ((x.k : Int) + 1 + (x.n : Int)), undef, undef,
          .slice A l.length c, .int .i64 (f : Int), .int .i64 (f : Int), .bool false, undef, undef, .slice A l.length c, .int .i64 (f : Int),
          .func (.func 56) #[] #[.pointer (some ⟨w.heap.size + 1 + 1 + 1, 0, none⟩), .pointer (some ⟨w.heap.size + 1 + 1, 0, none⟩)], .slice (adv A c (x.k + 1)) x.n (c - (x.k + 1)), .int .i64 ((x.k : Int) + 1 + (x.n : Int)),
          undef, undef, undef, undef, undef, undef, undef, undef, undef, undef, undef, undef, undef, undef], defers := [] }) ?assign ?body ?done ?stop
  case assign =>
    intro ly x W K hK
    simp only [segEnc]
    gi_wp2
    exact hK
  case body =>
    rintro ly pre x W hIW hlt
    obtain ⟨v, hv, vs, hrow, hE⟩ := hIW.row
    have hxl := x.lt
    have hc1 := blk_cell hv
    have hc2 := blk_cell hIW.used
    have hf1 : W.frozen? ⟨w.heap.size, 0, none⟩ = false := frozen_of_row _ _ _ _ _ hv
    have hf2 : W.frozen? ⟨w.heap.size + 1, 0, none⟩ = false := frozen_of_row _ _ _ _ _ hIW.used
    have hrd := seg_rd hc (Hr.out.below hIW.below) x
    have hcl := Seg.clen x
    have hs := hIW.size
    have hsU : w.heap.size + 1 < W.heap.size := by omega
    have hsL : w.heap.size < W.heap.size := by omega
    cases hop : opened x.c with
    | error m =>
      have Ho := Lib.hid (fun c' => hcl ▸ open_err (adv A c (x.k + 1)) c' x.c m W (by omega) hrd hop)
      have hm0 : ((m : Int) == 0) = false := by rcases opened_error hop with rfl | rfl <;> rfl
      have hout : x.out = [] := by unfold Seg.out outs; rw [hop]
      have Hout := Lib.hid hout
      have Hcl := Lib.hid hcl
      clear hop hout hcl hrd
      gi_wp2_with (refine ⟨trivial, ?_⟩; gi_at_call 36; refine (CallsIn.inRound ly (callsIn_wide.2 (Ho.out _))).mono ?_; rintro e w1 ⟨rfl, hb1⟩; have k2 := blk_cell ((hb1.block (w.heap.size + 1) hsU).trans hIW.used); have k2f : w1.frozen? ⟨w.heap.size + 1, 0, none⟩ = false := frozen_of_row _ _ _ _ _ ((hb1.block (w.heap.size + 1) hsU).trans hIW.used))
      exact scan_skip hIW hb1 Hout.out _
    | ok p =>
      have Ho := Lib.hid (fun c' => hcl ▸ open_ok (adv A c (x.k + 1)) c' x.c p W (by omega) hrd hop)
      have hout : x.out = [p] := by unfold Seg.out outs; rw [hop]
      have Hout := Lib.hid hout
      have Hcl := Lib.hid hcl
      have hpl := segOuts_len pre
      clear hop hout hcl hrd
      have Hrow := Lib.hid hrow
      have HE := Lib.hid hE
      have hb63 : (segOuts pre).length + 1 ≤ maxLen := by unfold maxLen; omega
      have hb64 : ((segOuts pre).length + 1) * 24 ≤ 140737488355328 := by omega
      clear hrow hE
      gi_wp2_with (first | (refine ⟨trivial, ?_⟩; gi_at_call 36; refine (CallsIn.inRound ly (callsIn_wide.2 (Ho.out _))).mono ?_; rintro e w1 ⟨A2, c2, rfl, q1, q2, q3, q4, q5, hb1⟩; have k1 := blk_cell ((hb1.block (w.heap.size) hsL).trans hv); have k1f : w1.frozen? ⟨w.heap.size, 0, none⟩ = false := frozen_of_row _ _ _ _ _ ((hb1.block (w.heap.size) hsL).trans hv); have k2 := blk_cell ((hb1.block (w.heap.size + 1) hsU).trans hIW.used); have k2f : w1.frozen? ⟨w.heap.size + 1, 0, none⟩ = false := frozen_of_row _ _ _ _ _ ((hb1.block (w.heap.size + 1) hsU).trans hIW.used)) | (gi_at_builtin; refine wpListIn_append_own_at _ rfl _ _ 33 rfl (w.heap.size + 4) 25 i0 (.slice none 0 0) 1 24 Try.underlying33 hi0 hz0 hz1 hz2 rfl (by decide) v (segOuts pre).length vs rfl ((own_below Hrow.out hb1).alloc _) ⟨w1.heap.size, 0, none⟩ 1 1 [.slice A2 p.length c2] rfl rfl (cell_one_new _ _ _) (by simp [Value.oneCell']) hb63 hb64 (by have := hb1.size; simp; omega) ?_; intro v' W3 ho3 hg3 _ hat3; obtain ⟨g', cap', rfl⟩ := ownsRow_succ ho3; have k3 := blk_cell (blk_grown hg3 (alloc_blk _ ((hb1.block (w.heap.size) hsL).trans hv)) (hneL Hrow.out _ (by omega))); have k3f : W3.frozen? ⟨w.heap.size, 0, none⟩ = false := frozen_of_row _ _ _ _ _ (blk_grown hg3 (alloc_blk _ ((hb1.block (w.heap.size) hsL).trans hv)) (hneL Hrow.out _ (by omega))); have k4 := blk_cell (blk_grown hg3 (alloc_blk _ ((hb1.block (w.heap.size + 1) hsU).trans hIW.used)) (hneL Hrow.out _ (by omega))); have k4f : W3.frozen? ⟨w.heap.size + 1, 0, none⟩ = false := frozen_of_row _ _ _ _ _ (blk_grown hg3 (alloc_blk _ ((hb1.block (w.heap.size + 1) hsU).trans hIW.used)) (hneL Hrow.out _ (by omega)))))
      exact scan_push hIW hb1 Hout.out hv Hrow.out HE.out ⟨A2, c2, rfl, q1, q2, q3, q4⟩ ho3 hg3 hat3 _
  case done =>
    rintro D ys W hD rfl hIW hK
    obtain ⟨v, hv, hrow⟩ := hIW.row
    obtain ⟨A', c', rfl⟩ : ∃ A' c', v = .slice A' (segOuts (segs l f)).length c' := by
      obtain ⟨vs, ho, _⟩ := hrow
      obtain ⟨A', c', e, _⟩ := own_form ho
      exact ⟨A', c', e⟩
    have hc1 := blk_cell hv
    have hc2 := blk_cell hIW.used
    have hf1 : W.frozen? ⟨w.heap.size, 0, none⟩ = false := frozen_of_row _ _ _ _ _ hv
    have hf2 : W.frozen? ⟨w.heap.size + 1, 0, none⟩ = false := frozen_of_row _ _ _ _ _ hIW.used
    gi_wp2
    gi_region
    gi_wp2
    have hs := hIW.size
    have hD4 : w.heap.size + 4 ≤ D := by omega
    have hk : ∀ k, k ≠ D → ((((W.setCell ⟨w.heap.size, 0, none⟩ (.slice A' (segOuts (segs l f)).length c')).setCell ⟨w.heap.size + 1, 0, none⟩ (.int .i64 ↑(segEnd f (segs l f)))).drew).putObj D (.deferred none)).heap[k]? = W.heap[k]? := fun k hkD => by
      rw [World.putObj_heap_other hkD]
      show ((W.setCell ⟨w.heap.size, 0, none⟩ (.slice A' (segOuts (segs l f)).length c')).setCell ⟨w.heap.size + 1, 0, none⟩ (.int .i64 ↑(segEnd f (segs l f)))).heap[k]? = W.heap[k]?
      by_cases e1 : k = w.heap.size + 1
      · subst e1
        rw [heap_setCell_same _ _ _ _ _ _ ((heap_setCell_other _ _ _ _ (by simp)).trans hIW.used), hIW.used]
        simp
      · rw [heap_setCell_other _ _ _ _ e1]
        by_cases e0 : k = w.heap.size
        · subst e0
          rw [heap_setCell_same _ _ _ _ _ _ hv, hv]
          simp
        · rw [heap_setCell_other _ _ _ _ e0]
    have hKD : (((W.setCell ⟨w.heap.size, 0, none⟩ (.slice A' (segOuts (segs l f)).length c')).setCell ⟨w.heap.size + 1, 0, none⟩ (.int .i64 ↑(segEnd f (segs l f)))).drew).heap[D]? = some (.deferred (some [])) := by
      show ((W.setCell ⟨w.heap.size, 0, none⟩ (.slice A' (segOuts (segs l f)).length c')).setCell ⟨w.heap.size + 1, 0, none⟩ (.int .i64 ↑(segEnd f (segs l f)))).heap[D]? = _
      rw [heap_setCell_other _ _ _ _ (by show D ≠ w.heap.size + 1; omega), heap_setCell_other _ _ _ _ (by show D ≠ w.heap.size; omega)]
      exact hK
    have hsz : ((((W.setCell ⟨w.heap.size, 0, none⟩ (.slice A' (segOuts (segs l f)).length c')).setCell ⟨w.heap.size + 1, 0, none⟩ (.int .i64 ↑(segEnd f (segs l f)))).drew).putObj D (.deferred none)).heap.size = W.heap.size := by simp
    have hos : ((((W.setCell ⟨w.heap.size, 0, none⟩ (.slice A' (segOuts (segs l f)).length c')).setCell ⟨w.heap.size + 1, 0, none⟩ (.int .i64 ↑(segEnd f (segs l f)))).drew).putObj D (.deferred none)).os = W.os := rfl
    have hta : ((((W.setCell ⟨w.heap.size, 0, none⟩ (.slice A' (segOuts (segs l f)).length c')).setCell ⟨w.heap.size + 1, 0, none⟩ (.int .i64 ↑(segEnd f (segs l f)))).drew).putObj D (.deferred none)).tape = W.tape := rfl
    have hou : ((((W.setCell ⟨w.heap.size, 0, none⟩ (.slice A' (segOuts (segs l f)).length c')).setCell ⟨w.heap.size + 1, 0, none⟩ (.int .i64 ↑(segEnd f (segs l f)))).drew).putObj D (.deferred none)).output = W.output := rfl
    have hD2 : W.heap[D]? ≠ none := by rw [hK]; simp
    refine ⟨by simp, .inl ⟨_, _, rfl, run_takeDeferred hKD, ?_⟩⟩
    generalize ((((W.setCell ⟨w.heap.size, 0, none⟩ (.slice A' (segOuts (segs l f)).length c')).setCell ⟨w.heap.size + 1, 0, none⟩ (.int .i64 ↑(segEnd f (segs l f)))).drew).putObj D (.deferred none)) = WX at *
    have c1 : WX.cell? ⟨w.heap.size, 0, none⟩ = some (.slice A' (segOuts (segs l f)).length c') := blk_cell ((hk _ (by omega)).trans hv)
    have c2 : WX.cell? ⟨w.heap.size + 1, 0, none⟩ = some (.int .i64 ↑(segEnd f (segs l f))) := blk_cell ((hk _ (by omega)).trans hIW.used)
    refine ⟨.tuple #[.slice A' (segOuts (segs l f)).length c', .int .i64 ↑(segEnd f (segs l f))], by simp [results, Try.results15, go_sem, c1, c2], _, rfl, ?_, ?_⟩
    · obtain ⟨vs, ho, hE⟩ := hrow
      refine ⟨vs, ?_, ?_⟩
      · refine ⟨ho.1, ?_⟩
        rcases ho.2 with h2 | ⟨g, cap, cur, k1, k2, k3, k4⟩
        · exact .inl h2
        · exact .inr ⟨g, cap, cur, k1, by omega, (hk g (fun e => by rw [e, hK] at k3; cases k3)).trans k3, k4⟩
      · refine els_cells (fun b cs t fr hb => hk b (fun e => by rw [e, hK] at hb; cases hb)) hE (fun b hb => ⟨by omega, hb.2⟩)
    · exact hIW.below.trans ⟨hos, hta, hou, by omega, fun k hk' => hk k (by omega)⟩
  case stop =>
    rintro D c pre W _ _ h _
    exact h.elim
theorem scan_no (A : Option Addr) (c : Nat) (l : List UInt8) (w : World) (hr : Rd w A l) (hA : A = none → l = []) (hf : idxFlag l = none) :
    Calls Try.prog 15 #[.slice A l.length c] w fun e w' => e = .returned (.tuple #[.slice none 0 0, .int .i64 (l.length : Int)]) ∧ Below w.heap.size w w' := by
  have hI : idxI l = -1 := by unfold idxI; rw [hf]
  have HI := Lib.hid hI
  have Hr := Lib.hid hr
  clear hf hI hr
  go_enter Try.func15, Try.ntmps15
  go_wp2_with (go_at_call 34; refine (idx_any A c l _ (Hr.out.below (((Below.refl _ w).alloc (Nat.le_refl _) _).alloc (by simp) _)) hA).mono ?_; rw [HI.out]; rintro e w' ⟨rfl, rfl⟩)
  exact bodyPost_ret (v := .tuple #[.slice none 0 0, .int .i64 (l.length : Int)]) (by simp [results, Try.results15, go_sem]) rfl ⟨rfl, ((Below.refl _ _).alloc (Nat.le_refl _) _).alloc (by simp) _⟩
/-- Scan: what the pure scan says -/
theorem scan_any (A : Option Addr) (c : Nat) (l : List UInt8) (w : World) (hl : l.length ≤ 1000000000000) (hc : l.length ≤ c) (hr : Rd w A l) (hA : A = none → l = []) :
    Calls Try.prog 15 #[.slice A l.length c] w fun e w' => ∃ v, e = .returned (.tuple #[v, .int .i64 ((scan l).2 : Int)]) ∧ RowB w' w.heap.size 25 v (scan l).1 ∧ Below w.heap.size w w' := by
  cases hf : idxFlag l with
  | none =>
    refine (scan_no A c l w hr hA hf).mono fun e w' ⟨he, hb⟩ => ?_
    rw [scan_none hf]
    exact ⟨_, he, RowB.nil _ _ _, hb⟩
  | some f =>
    refine (scan_yes A c l w f hl hc hr hA hf).mono fun e w' h => ?_
    rw [scan_some hf]
    exact h
end Go.Proofs.Ytaoiklfkkipcaaa
