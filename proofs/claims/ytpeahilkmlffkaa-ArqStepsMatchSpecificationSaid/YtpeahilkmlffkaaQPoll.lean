import Derived.Test.YtpeahilkmlffkaaQRow
import Derived.Shelf.Abstract
set_option linter.unusedSimpArgs false
set_option linter.unusedVariables false
namespace Go.Proofs.Ytpeahilkmlffkaa
open Go Go.RowKit Hd Go.Mem Go.Shelf

attribute [local go_sem] Oper.semAt_some

theorem unsent_any (A : Option Addr) (c : Nat) (l : LE) (w : World) :
    Calls Try.prog 49 #[.agg (leCells A c l)] w fun e w' =>
      e = .returned (.func (.func 60) #[] #[.pointer (some ⟨w.heap.size, 0, none⟩)]) ∧ w.alloc (.cells (leCells A c l) 39) = w' := by
  unfold leCells
  go_enter Try.func49, Try.ntmps49
  go_wp2
  go_ret
  exact ⟨rfl, rfl⟩
/-- where Poll begins to send -/
def sentE (l : LE) (now : Int) : Nat := if 0 ≤ l.d ∧ l.d ≤ now then 0 else l.s.toNat
def framesE (l : LE) (now : Int) : List Fr := unsGo l (min l.q.length 7 - sentE l now) (sentE l now)
def pollE (l : LE) (now : Int) : LE × List Fr × Nat :=
  if chk l ≠ 0 then (leZ, [], chk l)
  else if inTimeB now = false then (leZ, [], 1)
  else if 0 < min l.q.length 7 - sentE l now then ({ l with s := (min l.q.length 7 : Nat), d := now + 3, o := false }, framesE l now, 0)
  else if l.o then ({ l with s := sentE l now, o := false }, [⟨false, 0, l.x, []⟩], 0)
  else ({ l with s := sentE l now, o := false }, [], 0)
def PollPost (l : LE) (now : Int) (w : World) (e : Ending) (w' : World) : Prop :=
  ∃ A c A' c', e = .returned (.tuple #[.agg (leCells A c (pollE l now).1), .slice A' (pollE l now).2.1.length c', .int .i64 ((pollE l now).2.2 : Int)]) ∧ InL w' A c (pollE l now).1.q ∧ InF w' A' c' (pollE l now).2.1 ∧ Below w.heap.size w w'
theorem InF.empty (w : World) : InF w none 0 [] := ⟨⟨[], rfl, .inl rfl, fun x hx => by cases hx⟩, fun _ => rfl, Nat.le_refl _, Nat.zero_le _⟩
theorem PollPost.no {l : LE} {now : Int} {w W : World} {k : Nat} (h : pollE l now = (leZ, [], k)) (hb : Below w.heap.size w W) : PollPost l now w (.returned (.tuple #[.agg (leCells none 0 leZ), .slice none 0 0, .int .i64 (k : Int)])) W := by
  unfold PollPost
  rw [h]
  exact ⟨none, 0, none, 0, rfl, InL.empty _, InF.empty _, hb⟩
theorem PollPost.yes {l l' l1 : LE} {now : Int} {fs : List Fr} {w W : World} {A A' : Option Addr} {n c m c' : Nat} (h : pollE l now = (l', fs, 0)) (hn : n = l'.q.length) (he : leN A n c l1 = leN A n c l') (hq : InL W A c l'.q) (hps : InF W A' c' fs) (hm : m = fs.length) (hb : Below w.heap.size w W) :
    PollPost l now w (.returned (.tuple #[.agg (leN A n c l1), .slice A' m c', .int .i64 0])) W := by
  subst hn hm
  unfold PollPost
  rw [h, he]
  exact ⟨A, c, A', c', rfl, hq, hps, hb⟩
/-- what stands behind Poll's last region but one -/
structure PollY (g b8 n : Nat) (A5 : Option Addr) (c5 : Nat) (L : LE) (A6 : Option Addr) (m c6 : Nat) (xs : List FrE) (w1 W : World) : Prop where
  z : PollZ g b8 w1 W
  lt : g + 1 < b8 ∧ b8 < w1.heap.size
  le : W.heap[g]? = some (.cells (leN A5 n c5 L) 39 (0, 0))
  res : W.heap[g + 1]? = some (.cells (leCells none 0 leZ) 39 (0, 0))
  fr : W.heap[b8]? = some (.cells #[.slice A6 m c6] 35 (0, 0))
  row : RowF W w1.heap.size (.slice A6 m c6) xs
  df : W.heap[w1.heap.size]? = some (.deferred (some []))
theorem PollY.upd {g b8 n : Nat} {A5 : Option Addr} {c5 : Nat} {L L' : LE} {A6 : Option Addr} {m c6 : Nat} {xs : List FrE} {w1 W W' : World} (h : PollY g b8 n A5 c5 L A6 m c6 xs w1 W) (u : Upd g W W')
    (hl : W'.heap[g]? = some (.cells (leN A5 n c5 L') 39 (0, 0))) : PollY g b8 n A5 c5 L' A6 m c6 xs w1 W' := by
  have hlt := h.lt
  exact ⟨h.z.upd u (.inl rfl), h.lt, hl, (u.other _ (by omega)).trans h.res, (u.other _ (by omega)).trans h.fr, h.row.cells fun b cs t fr hb _ => u.other b (by omega), (u.other _ (by omega)).trans h.df⟩
theorem PollY.owed {g b8 n : Nat} {A5 : Option Addr} {c5 : Nat} {L : LE} {A6 A7 : Option Addr} {c6 c7 : Nat} {w1 V1 W5 W9 : World} (h : PollY g b8 n A5 c5 L A6 0 c6 [] w1 V1) (x : FrE) (hx : x.f.p = []) (hA : x.A = none → x.c = 0) (hc : x.c ≤ maxLen)
    (ho : W5.ownsRow w1.heap.size 24 4 (.slice A7 1 c7) 1 x.cells.toList) (hg : (V1.alloc (.cells x.cells 24)).grownBy W5 (Value.slice A6 0 c6).ownBlock) (u : Upd b8 W5 W9)
    (h8 : W9.heap[b8]? = some (.cells #[.slice A7 1 c7] 35 (0, 0))) : PollY g b8 n A5 c5 L A7 1 c7 [x] w1 W9 := by
  have hlt := h.lt
  have hrow := own_lt h.row.own
  have hs := h.z.size
  have hk : ∀ k, k < V1.heap.size → k ≠ b8 → (Value.slice A6 0 c6).ownBlock ≠ some k → W9.heap[k]? = V1.heap[k]? := fun k hl h1 h2 => by
    rw [u.other k h1, hg.block k (by simp; omega) (fun e => h2 e.symm), heap_alloc_old _ _ hl]
  have hlow : ∀ k, k < w1.heap.size → (Value.slice A6 0 c6).ownBlock ≠ some k := fun k hl e => by have := (hrow k e).1; omega
  have hz0 : PollZ g b8 w1 (V1.alloc (.cells x.cells 24)) := h.z.grown (World.grownBy_alloc V1 _ none) (fun r e => by cases e)
  refine ⟨(hz0.grown hg fun r e => (hrow r e).1).upd u (.inr (.inl rfl)), h.lt, (hk _ (by omega) (by omega) (hlow _ (by omega))).trans h.le, (hk _ (by omega) (by omega) (hlow _ (by omega))).trans h.res, h8, ⟨?_, ?_⟩, ?_⟩
  · have e : flatF [x] = x.cells.toList := by simp [flatF]
    rw [e]
    exact own_move ho fun k hk1 _ => u.other k (by omega)
  · intro y hy
    rw [List.mem_singleton.1 hy]
    exact ⟨hA, by rw [hx]; exact Nat.zero_le _, hc, .inl (by rw [hx]; rfl)⟩
  · refine (hk _ (blk_lt h.df) (by omega) fun e => ?_).trans h.df
    rcases h.row.own.2 with ⟨e2, _⟩ | ⟨g', cap, cur, e2, _, k3, _⟩
    · rw [e2] at e; cases e
    · rw [e2] at e
      have e3 : g' = w1.heap.size := Option.some.inj e
      rw [e3, h.df] at k3
      cases k3
/-- the end of Poll -/
theorem poll_end {g b8 B n : Nat} {A5 : Option Addr} {c5 : Nat} {L : LE} {A6 : Option Addr} {m c6 : Nat} {xs : List FrE} {w w1 W : World} (h : PollY g b8 n A5 c5 L A6 m c6 xs w1 W) (cs : Array Value) (hb : Below B w w1) (hB : B ≤ g)
    {base N : Nat} {q : List (List UInt8)} (hq : ∀ W', (∀ k, (base ≤ k ∧ k < N) → k < w1.heap.size → W'.heap[k]? = w1.heap[k]?) → InL W' A5 c5 q) (hN : N ≤ b8) (hbase : g + 2 ≤ base) :
    (W.drew.setRow (g + 1) cs).heap[w1.heap.size]? = some (.deferred (some [])) ∧
    ((W.drew.setRow (g + 1) cs).putObj w1.heap.size (.deferred none)).heap[g + 1]? = some (.cells cs 39 (0, 0)) ∧
    InL ((W.drew.setRow (g + 1) cs).putObj w1.heap.size (.deferred none)) A5 c5 q ∧
    InF ((W.drew.setRow (g + 1) cs).putObj w1.heap.size (.deferred none)) A6 c6 (xs.map (·.f)) ∧
    Below B w ((W.drew.setRow (g + 1) cs).putObj w1.heap.size (.deferred none)) := by
  have hlt := h.lt
  have u := upd_row W.drew (g + 1) cs
  have hz1 : PollZ g b8 w1 (W.drew.setRow (g + 1) cs) := PollZ.upd (W := W.drew) ⟨h.z.os, h.z.tape, h.z.output, h.z.size, h.z.blk⟩ u (.inr (.inr rfl))
  have hz2 : PollZ g b8 w1 ((W.drew.setRow (g + 1) cs).putObj w1.heap.size (.deferred none)) := hz1.grown (grownBy_putObj' _ _ _) (fun r e => by cases e; exact Nat.le_refl _)
  have ho : ∀ k, k ≠ g + 1 → k ≠ w1.heap.size → ((W.drew.setRow (g + 1) cs).putObj w1.heap.size (.deferred none)).heap[k]? = W.heap[k]? := fun k h1 h2 => by
    rw [World.putObj_heap_other h2]
    exact u.other k h1
  have hr1 : (W.drew.setRow (g + 1) cs).heap[g + 1]? = some (.cells cs 39 (0, 0)) := setRow_heap _ _ _ _ _ _ (show W.drew.heap[g + 1]? = _ from h.res)
  refine ⟨(u.other _ (by omega)).trans h.df, (World.putObj_heap_other (by omega)).trans hr1, hq _ fun k hk hl => ?_, inF_keep h.row _ fun b cs' t fr hb hc => ho b (by omega) fun e => ?_, hz2.below hb hB (by omega) (by omega)⟩
  · exact hz2.blk k hl (by omega) (by omega) (by omega)
  · rw [e, h.df] at hc
    cases hc
theorem poll_chk {l : LE} {now : Int} (h : chk l ≠ 0) : pollE l now = (leZ, [], chk l) := by unfold pollE; rw [if_pos h]
theorem poll_arg {l : LE} {now : Int} (h : chk l = 0) (h2 : inTimeB now = false) : pollE l now = (leZ, [], 1) := by unfold pollE; rw [if_neg (by simp [h]), if_pos h2]
theorem postM_ret {n : Nat} {P : Program} {fn : Func} {R : Ending → World → Prop} {a : Act} {w : World} {v : Value} (hr : (results fn a.tmps).run P w = .ok v w) (hd : a.defers = []) (hR : R (.returned v) w) : bodyPostM Fence.wide n P fn R .ret a w := by
  show LeavesInM Fence.wide n P fn a.tmps R a.defers .returning w
  rw [hd]
  exact ⟨v, hr, hR⟩
theorem postM_mark {n D : Nat} {P : Program} {fn : Func} {R : Ending → World → Prop} {a : Act} {w : World} {v : Value} (hd : a.defers = [{ target := .collected D, args := #[] }]) (hk : w.heap[D]? = some (.deferred (some [])))
    (hr : (results fn a.tmps).run P (w.putObj D (.deferred none)) = .ok v (w.putObj D (.deferred none))) (hR : R (.returned v) (w.putObj D (.deferred none))) : bodyPostM Fence.wide n P fn R .ret a w := by
  show LeavesInM Fence.wide n P fn a.tmps R a.defers .returning w
  rw [hd]
  exact ⟨by simp, .inl ⟨D, _, rfl, run_takeDeferred hk, ⟨v, hr, hR⟩⟩⟩
theorem unsGo_s (l : LE) (v : Int) : ∀ k i, unsGo { l with s := v } k i = unsGo l k i
  | 0, _ => rfl
  | k + 1, i => by simp [unsGo, unsGo_s l v k (i + 1)]
theorem fr_one (x : FrE) : x.cells.all (fun y => y.oneCell') = true := by simp [FrE.cells, frCells, Value.oneCell']
theorem info_fr : (Try.prog.info? 24).map (fun i => (i.zero, i.size, i.bytes)) = some (some (.agg #[.bool false, .int .i64 0, .int .i64 0, .slice none 0 0]), 4, 48) := by kernel_rfl
set_option maxRecDepth 100000 in
set_option maxHeartbeats 8000000 in
theorem poll_any (A : Option Addr) (c : Nat) (l : LE) (now : Int) (w : World) (hq : l.q.length ≤ 140737488351232) (hr : RdL w A l.q) :
    Calls Try.prog 19 #[.agg (leCells A c l), .int .i64 now] w (PollPost l now w) := by
  have Hr := Lib.hid hr
  clear hr
  have HC := Lib.hid (fun W (h : RdL W A l.q) => check_any A c l W hq h)
  have h30 := blk_second w (.cells (leCells A c l) 39) (.cells (leCells none 0 leZ) 39)
  have h31 := heap_alloc2_new w (.cells (leCells A c l) 39) (.cells (leCells none 0 leZ) 39)
  have hB0 : Below w.heap.size w ((w.alloc (.cells (leCells A c l) 39)).alloc (.cells (leCells none 0 leZ) 39)) := fw_al (fw_new _ _) _
  refine (callsIn_wide (n := 5)).1 ?_
  refine callsIn_of_wp_marks Try.func19 rfl trivial ?_ rfl
  refine wpIn_wide.2 ?_
  simp only [Try.ntmps19, List.size_toArray, List.length_cons, List.length_nil, Nat.reduceAdd, Nat.reduceSub, Array.replicate_succ, Array.replicate_zero, List.push_toArray, List.append_toArray, List.nil_append, List.cons_append]
  go_wp2_with (first | (refine wpList_load_row rfl 39 (.tmp 2) rfl w.heap.size rfl 39 (leCells A c l) (0, 0) _ h30 Try.underlying39 rfl le_size ?_))
  refine (HC.out _ (Hr.out.below hB0)).mono ?_
  rintro e W ⟨rfl, hb⟩
  have hP := blk_below h30 hb
  have hR := blk_below h31 hb
  have hB := fw_trans hB0 hb
  have hsz : w.heap.size + 2 ≤ W.heap.size := by have := hb.size; simpa using this
  clear HC hB0 hb h30 h31
  by_cases hk : chk l = 0
  · have hk2 := hk
    obtain ⟨hOB, hS, hD, h64⟩ := chk_zero hk
    have h3 := okS_short hS
    rw [hk]
    by_cases hT : inTimeB now = false
    · have Hno := Lib.hid (fun W' (hb : Below w.heap.size w W') => PollPost.no (poll_arg hk hT) hb)
      unfold inTimeB at hT
      have HT := Lib.hid hT
      clear hT hk hk2 hD h3
      go_wp2_with fail
      refine (intime_any now W).mono ?_
      rw [HT.out]
      rintro e W2 ⟨rfl, rfl⟩
      go_wp2_with (refine wpList_store_row rfl 39 (.tmp 4) (.tmp 19) rfl (w.heap.size + 1) (leCells none 0 leZ) rfl rfl 39 _ hR le_size rfl (le_one none 0 0 leZ) ?_)
      (try simp only [Exit.inBlock, Exit.then])
      refine postM_ret (res_ctt rfl _ _ (w.heap.size + 1) _ (leCells none 0 leZ) _ _ rfl (setRow_heap _ _ _ _ _ _ hR) Try.underlying39 rfl le_size) rfl ?_
      exact (Hno.out _ (below_setRow hB (Nat.le_add_right _ 1) _))
    · have hT1 : inTimeB now = true := by simpa using hT
      have HT := Lib.hid (show (decide (0 ≤ now) && decide (now ≤ 1099511627776)) = true from hT1)
      have hnow : 0 ≤ now ∧ now ≤ 1099511627776 := by have := HT.out; simpa using this
      obtain ⟨hs0, hs1, hs2⟩ : 0 ≤ l.s ∧ l.s ≤ 7 ∧ l.s ≤ (l.q.length : Int) := by
        unfold okS at hS
        simp only [Bool.and_eq_true, decide_eq_true_eq] at hS
        exact ⟨hS.1.1.1, hS.1.1.2, hS.1.2⟩
      have hbb : 0 ≤ l.b ∧ l.b < 16 := okSeq_range (by unfold okB at hOB; simp at hOB; exact hOB.1)
      have hPE := Lib.hid (show pollE l now = if 0 < min l.q.length 7 - sentE l now then ({ l with s := (min l.q.length 7 : Nat), d := now + 3, o := false }, framesE l now, 0)
        else if l.o then ({ l with s := sentE l now, o := false }, [⟨false, 0, l.x, []⟩], 0) else ({ l with s := sentE l now, o := false }, [], 0) by unfold pollE; rw [if_neg (by simp [hk]), if_neg hT])
      clear hT hT1 hk hk2 hS hOB
      obtain ⟨i0, hi0, hz0, hz1, hz2⟩ := info_parts info_fr
      go_wp2_with fail
      refine (intime_any now W).mono ?_
      rw [HT.out]
      rintro e W2 ⟨rfl, rfl⟩
      have p0 : W.cell? ⟨w.heap.size, 0, none⟩ = some (.slice A l.q.length c) := cellOf hP rfl
      have H3 := Lib.hid h3
      clear h3
      go_wp2_with fail
      clear p0
      refine (qclone_any A c l.q W (by omega) H3.out (Hr.out.below hB)).mono ?_
      rintro e W4 ⟨v4, rfl, hR4, hb4⟩
      have hP4 := blk_below hP hb4
      have hRr4 := blk_below hR hb4
      have hB4 := fw_trans hB hb4
      have hsz4 : w.heap.size + 2 ≤ W4.heap.size := Nat.le_trans hsz hb4.size
      obtain ⟨A5, c5, rfl, hA5, hc5, hm5, hL5⟩ := RowB.form hR4
      have HR4 := Lib.hid hR4
      clear hP hR hB hR4 hA5 hL5 hc5 hm5 hb4
      have hD2 : l.d < 0 ∨ 0 ≤ l.d := by omega
      by_cases hx : 0 ≤ l.d ∧ l.d ≤ now
      · have hx1 := hx.1
        have hx2 := hx.2
        have hse : sentE l now = 0 := by unfold sentE; rw [if_pos hx]
        have Hse := Lib.hid hse
        clear hx hse hD2
        go_wp2_with (first | (refine wpList_store_field rfl 37 (.tmp 23) (.tmp 22) rfl w.heap.size 0 (.slice A5 l.q.length c5) rfl rfl rfl 39 _ hP4 (by simp [leCells]) (by kernel_rfl) ?_; intro W5 hP5 u5; have HP5 := (show W5.heap[w.heap.size]? = some (.cells (leN A5 l.q.length c5 l) 39 (0, 0)) from hP5); clear hP5; have z5 : W5.cell? ⟨w.heap.size, 5, none⟩ = some (.int .i64 l.d) := cellOf HP5 rfl) | (refine wpList_store_field rfl 3 (.tmp 33) (.const (.int .i64 0)) rfl w.heap.size 2 (.int .i64 0) rfl rfl rfl 39 _ HP5 (by simp [leN]) (by kernel_rfl) ?_; intro W6 hP6 u6; have HP6 := (show W6.heap[w.heap.size]? = some (.cells (leN A5 l.q.length c5 { l with s := 0 }) 39 (0, 0)) from hP6); clear hP6) | (refine wpList_load_row rfl 39 (.tmp 2) rfl w.heap.size rfl 39 (leCells A5 c5 ({ l with s := 0 })) (0, 0) _ (alloc_blk _ HP6) Try.underlying39 rfl le_size ?_))
        refine (unsent_any A5 c5 ({ l with s := 0 }) _).mono ?_
        rintro e w1 ⟨rfl, hw1⟩
        have hRn := ((u6.other (w.heap.size + 1) (by omega)).trans ((u5.other (w.heap.size + 1) (by omega)).trans hRr4))
        have hBn := (u6.below (u5.below hB4 (Nat.le_refl _)) (Nat.le_refl _))
        have hsn : w.heap.size + 2 ≤ W6.heap.size := by rw [u6.size]; rw [u5.size]; omega
        have hRow : RowB W6 W.heap.size 22 (.slice A5 l.q.length c5) l.q := HR4.out.move fun k hk _ => by rw [u6.other k (by omega), u5.other k (by omega)]
        obtain ⟨M, hM⟩ : ∃ M, min l.q.length 7 = M := ⟨_, rfl⟩
        have hsM : 0 ≤ M := by omega
        obtain ⟨hst, hB1, hR1, hq1⟩ := poll_start hw1 HP6 hRn hRow hBn (by omega)
        have hq1' : ∃ vs, RdP (fun k => k < w1.heap.size ∧ k ≠ W6.heap.size) w1 A5 vs ∧ Els (fun k => k < w1.heap.size ∧ k ≠ W6.heap.size) w1 vs l.q := by
          obtain ⟨vs, h1, h2⟩ := hq1
          have hs9 := hst.size
          exact ⟨vs, h1.imp fun b hb _ => ⟨by omega, by omega⟩, h2.move (fun _ _ _ => rfl) fun b hb _ => ⟨by omega, by omega⟩⟩
        have hs9 := hst.size
        have HU := Lib.hid (uns_stops (5 - 1) (by omega) (fun k => k < w1.heap.size ∧ k ≠ W6.heap.size) ({ l with s := 0 }) A5 c5 (W6.heap.size + 1) 0 M (by first | rfl | (show l.s = _; omega)) hM.symm hsM hbb h64 H3.out w1 hst.cap ⟨by omega, by omega⟩ hq1')
        have HQL := Lib.hid (inL_keep (by obtain ⟨A9, c9, e, k1, k2, k3, k4⟩ := RowB.form hR1; simp only [Value.slice.injEq] at e; obtain ⟨rfl, _, rfl⟩ := e; exact ⟨k4, k1, k2, k3⟩ : InL w1 A5 c5 l.q) hq1)
        have hI0 : PollI w1 W6.heap.size [] w1 := ⟨⟨rfl, rfl, rfl, Nat.le_refl _, by omega, fun _ _ _ => rfl⟩, _, hst.frames, RowF.nil _ _⟩
        clear hw1 hRow hBn hRn HR4 hRr4 hB4 hP4 hq1 hq1' hR1 HP6 u5 u6
        go_wp2_with fail
        refine wpIn_wide.1 (range_fr (n := 5) (w0 := w1) (by omega) (gf := 60) (lb := #[.pointer (some ⟨W6.heap.size + 1, 0, none⟩)]) rfl (enters_of Try.func60 (by kernel_rfl) rfl) HU.out (Below.refl _ _) (fun h k => KpS.trans h k) (fun W' i o o' hi hW => KpS.put hW (by omega)) (PollI w1 W6.heap.size) (PollI.from w1 _) hI0 (PollI2 w1 W6.heap.size) (PollI2.from w1 _) ?a26 ?assign ?body ?done)
        case assign =>
          intro ly pre x W0 V1 K hI hbl hfr hlen hK
          obtain ⟨b, hb⟩ : ∃ b, V1.heap.size = b := ⟨_, rfl⟩
          have Hnew := Lib.hid (fun o => (show (V1.alloc o).heap[b]? = some o by rw [← hb]; exact heap_alloc_new V1 o))
          have HK := Lib.hid hK
          clear hK
          gi_wp2_with (first | (refine in_store_row rfl 24 (.tmp 9) (.tmp 36) rfl b x.cells rfl rfl 24 _ (Hnew.out _) fr_size rfl (fr_one x) ?_))
          have hfin : Below V1.heap.size V1 ((V1.alloc (.cells #[.bool false, .int .i64 0, .int .i64 0, .slice none 0 0] 24)).setRow b x.cells) := below_setRow (fw_new _ _) (Nat.le_of_eq hb) _
          have hkp9 : KpS (fun k => k < w1.heap.size ∧ k ≠ W6.heap.size) V1 ((V1.alloc (.cells #[.bool false, .int .i64 0, .int .i64 0, .slice none 0 0] 24)).setRow b x.cells) := ⟨hfin.size, fun k _ hl => hfin.block k hl⟩
          exact HK.out b _ (poll_take hI hbl hfr hfin (setRow_heap _ _ _ _ _ _ (Hnew.out _))) (keeps_below _ hfin) hkp9
        case body =>
          intro ly pre x b V1 hI2 hlen
          have hcells := hI2.cells
          obtain ⟨v, hv, hrow, hfo⟩ := hI2.box
          have c8 := cellOf (i := 0) hv rfl
          have f8 : V1.frozen? ⟨W6.heap.size, 0, none⟩ = false := frozen_of_row _ _ _ _ _ hv
          have Hrow := Lib.hid hrow.own
          have hsz1 := hI2.fr.size
          have hb63 : pre.length + 1 ≤ maxLen := by unfold maxLen; omega
          have hb64 : (pre.length + 1) * 48 ≤ 140737488355328 := by omega
          have hcells' : V1.heap[b]? = some (.cells #[.bool x.f.d, .int .i64 x.f.s, .int .i64 x.f.a, .slice x.A x.f.p.length x.c] 24 (0, 0)) := hcells
          have Hpush := Lib.hid (fun v' W3 => poll_push (v' := v') (W3 := W3) hI2 hv)
          have hne8 : v.ownBlock ≠ some W6.heap.size := fun e => by have := (own_lt hrow.own _ e).1; omega
          have Hne8 := Lib.hid hne8
          have hn48 : (#[Value.bool x.f.d, .int .i64 x.f.s, .int .i64 x.f.a, .slice x.A x.f.p.length x.c]).toList.length = 1 * 4 := rfl
          clear hrow hfo hI2 hcells hne8 hn48
          gi_wp2_with (first | (refine in_load_row rfl 24 (.tmp 9) rfl b rfl 24 #[.bool x.f.d, .int .i64 x.f.s, .int .i64 x.f.a, .slice x.A x.f.p.length x.c] (0, 0) _ hcells' Try.underlying24 rfl fr_size ?_) | (gi_at_builtin; refine wpListIn_append_own_at _ rfl (.tmp 37) (.tmp 39) 35 rfl w1.heap.size 24 i0 (.agg #[.bool false, .int .i64 0, .int .i64 0, .slice none 0 0]) 4 48 Try.underlying35 hi0 hz0 hz1 hz2 rfl (by decide) v pre.length (flatF pre) rfl (Hrow.out.alloc _) ⟨V1.heap.size, 0, none⟩ 1 1 [.bool x.f.d, .int .i64 x.f.s, .int .i64 x.f.a, .slice x.A x.f.p.length x.c] rfl rfl (RdC.cells (RdC.new V1 #[.bool x.f.d, .int .i64 x.f.s, .int .i64 x.f.a, .slice x.A x.f.p.length x.c] 24 (0, 0))) (by simp [Value.oneCell']) hb63 hb64 (by simp; omega) ?_; intro v' W3 ho3 hg3 _ hat3; have k3 := blk_grown hg3 (alloc_blk _ hv) Hne8.out; have k3c := cellOf (i := 0) k3 rfl; have k3f : W3.frozen? ⟨W6.heap.size, 0, none⟩ = false := frozen_of_row _ _ _ _ _ k3; have Hf := Lib.hid (Hpush.out v' W3 ho3 hg3 hat3); obtain ⟨g', cap', rfl⟩ := ownsRow_succ ho3; clear ho3 hg3 hat3 k3))
          have hf9 := Hf.out
          rw [hs9] at hf9
          exact hf9
        case done =>
          intro xs V1 hS hI hD
          obtain ⟨m, hm⟩ : ∃ m, xs.length = m := ⟨_, rfl⟩
          have hmM : m + 0 = M := by have h1 := congrArg List.length hS; simp only [List.length_map, unsGo_len] at h1; omega
          have hfs : xs.map (·.f) = framesE l now := by rw [hS, unsGo_s]; unfold framesE; rw [hM, Hse.out]
          have hfl : (framesE l now).length = m := by rw [← hfs]; simpa using hm
          obtain ⟨v, hv, hrow⟩ := hI.box
          obtain ⟨A6, c6, rfl, hIF⟩ := hrow.form
          rw [hm] at hrow hv
          have hY : PollY w.heap.size W6.heap.size l.q.length A5 c5 ({ l with s := 0 }) A6 m c6 xs w1 V1 := ⟨hI.fr.z _, ⟨by omega, by omega⟩, (hI.fr.blk _ (by omega) (by omega)).trans hst.box, (hI.fr.blk _ (by omega) (by omega)).trans hst.res, hv, hrow, hD⟩
          have HE := Lib.hid hPE.out
          rw [hM, Hse.out] at HE
          have c8 := cellOf (i := 0) hv rfl
          have HG := hY.le
          have c2 : V1.cell? ⟨w.heap.size, 2, none⟩ = some (.int .i64 0) := cellOf (i := 2) HG rfl
          have hm7 : m ≤ 7 := by omega
          have c3 : V1.cell? ⟨w.heap.size, 3, none⟩ = some (.int .i64 l.x) := cellOf (i := 3) HG rfl
          have c4 : V1.cell? ⟨w.heap.size, 4, none⟩ = some (.bool l.o) := cellOf (i := 4) HG rfl
          have HFS := Lib.hid hfs
          have HFL := Lib.hid hfl
          clear hS hI hD hrow hIF hst HU hfs hfl hv hI0
          by_cases hm0 : 0 < m
          · have hmt : (0 < m) = True := eq_true hm0
            have HE2 : Hid (pollE l now = ({ l with s := (M : Int), d := now + 3, o := false }, framesE l now, 0)) := Lib.hid (by rw [HE.out, if_pos (by omega)])
            go_wp2_with (first | (refine wpList_store_field rfl 3 (.tmp 49) (.tmp 48) rfl w.heap.size 2 _ rfl rfl rfl 39 _ HG (by simp [leN]) (by kernel_rfl) ?_; intro W7 h7 u7; have HY7 := hY.upd (L' := { l with s := (M : Int) }) u7 (by rw [show (M : Int) = (m : Int) by omega]; exact h7); have HG7 := HY7.le; clear h7) | (refine wpList_store_field rfl 3 (.tmp 52) (.tmp 51) rfl w.heap.size 5 (.int .i64 (now + 3)) rfl rfl rfl 39 _ HG7 (by simp [leN]) (by kernel_rfl) ?_; intro W8 h8 u8; have HY8 := HY7.upd (L' := { l with s := (M : Int), d := now + 3 }) u8 h8; have HG8 := HY8.le; clear h8) | (refine wpList_store_field rfl 4 (.tmp 61) (.const (.bool false)) rfl w.heap.size 4 (.bool false) rfl rfl rfl 39 _ HG8 (by simp [leN]) (by kernel_rfl) ?_; intro Wz hz uz; have HYz := HY8.upd (L' := { ({ l with s := (M : Int), d := now + 3 } : LE) with o := false }) uz hz; clear hz))
            have hHz := HYz.le
            have hFz := HYz.fr
            have hRz := HYz.res
            refine wp_region_noPanic ?_
            refine wp_region_held_drew (S := R22 (w.heap.size + 1) Wz) (by kernel_rfl) (R22.start hRz rfl) (fun h0 => ?_)
            refine wpAnyH_take (i := 0) (v := .agg (leN A5 l.q.length c5 ({ l with s := (M : Int), d := now + 3, o := false } : LE))) rfl (by kernel_rfl) (by kernel_rfl) (by kernel_rfl) (fun _ _ _ h => h) (yieldsIf_load_blk (by rfl) 39 (.tmp 2) rfl w.heap.size rfl 39 _ (0, 0) _ (fun W h => (h.other _ (blk_lt hHz) (by omega)).trans hHz) Try.underlying39 rfl le_size) h0 ?_
            try simp only [Act.put, List.getElem?_toArray, List.getElem_toArray, List.getElem_cons_zero, List.getElem_cons_succ, List.setIfInBounds_toArray, List.set_cons_zero, List.set_cons_succ]
            refine wpAnyH_take (i := 1) (v := .slice A6 m c6) rfl (by kernel_rfl) (by kernel_rfl) (by kernel_rfl) (fun _ _ _ h => h) (Or.inl ⟨by rfl, fun W hW => by have hz : W.cell? ⟨W6.heap.size, 0, none⟩ = some (.slice A6 m c6) := hW.old hFz (by omega) rfl; go_simp⟩) h0 ?_
            try simp only [Act.put, List.getElem?_toArray, List.getElem_toArray, List.getElem_cons_zero, List.getElem_cons_succ, List.setIfInBounds_toArray, List.set_cons_zero, List.set_cons_succ]
            refine wpAnyH_ready (rs := [2]) (by kernel_rfl) (by simp) ?_
            refine AllReadyH.cons rfl (fun K hK => ?_) AllReadyH.nil
            rw [if_pos (by rfl)]
            refine wp_store_row 39 (.tmp 4) (.tmp 62) rfl (w.heap.size + 1) (leN A5 l.q.length c5 ({ l with s := (M : Int), d := now + 3, o := false } : LE)) rfl rfl 39 _ (show Wz.drew.heap[w.heap.size + 1]? = _ from hRz) le_size rfl (le_one _ _ _ _) ?_
            obtain ⟨e1, e2, e3, e4, e5⟩ := poll_end HYz (leN A5 l.q.length c5 ({ l with s := (M : Int), d := now + 3, o := false } : LE)) hB1 (Nat.le_refl _) HQL.out (Nat.le_refl _) hsz
            rw [hs9] at e1 e2 e3 e4 e5
            refine hK.out _ _ (h0.row _ rfl ⟨_, (show Wz.drew.heap[w.heap.size + 1]? = _ from hRz)⟩) (fun h3 => ?_)
            clear hK h0
            try simp only [Act.put, List.getElem?_toArray, List.getElem_toArray, List.getElem_cons_zero, List.getElem_cons_succ, List.setIfInBounds_toArray, List.set_cons_zero, List.set_cons_succ]
            have h0 := h3
            refine wpAnyH_take (i := 3) (v := .slice A6 m c6) rfl (by kernel_rfl) (by kernel_rfl) (by kernel_rfl) (fun _ _ _ h => h) (Or.inl ⟨by rfl, fun W hW => by rfl⟩) h0 ?_
            try simp only [Act.put, List.getElem?_toArray, List.getElem_toArray, List.getElem_cons_zero, List.getElem_cons_succ, List.setIfInBounds_toArray, List.set_cons_zero, List.set_cons_succ]
            refine wpAnyH_take (i := 4) (v := .int .i64 0) rfl (by kernel_rfl) (by kernel_rfl) (by kernel_rfl) (fun _ _ _ h => h) (Or.inl ⟨by rfl, fun W hW => by rfl⟩) h0 ?_
            try simp only [Act.put, List.getElem?_toArray, List.getElem_toArray, List.getElem_cons_zero, List.getElem_cons_succ, List.setIfInBounds_toArray, List.set_cons_zero, List.set_cons_succ]
            refine wpAnyH_done (by kernel_rfl) ?_ _
            refine NoPanic.normal ?_
            clear hY hHz hFz hRz h0 h3 HYz
            go_wp2_with fail
            (try simp only [Exit.inBlock, Exit.then])
            refine postM_mark rfl e1 (res_ctt rfl _ _ (w.heap.size + 1) _ (leN A5 l.q.length c5 ({ l with s := (M : Int), d := now + 3, o := false } : LE)) _ _ rfl e2 Try.underlying39 rfl le_size) ?_
            exact PollPost.yes HE2.out rfl rfl e3 (HFS.out ▸ e4) HFL.out.symm e5
          · exfalso
            unfold okD at hD
            rw [if_pos (by omega)] at hD
            simp at hD
            omega
      · obtain ⟨s0, hs00⟩ : ∃ s0 : Nat, l.s = (s0 : Int) := ⟨l.s.toNat, by omega⟩
        have Hle := Lib.hid (show ({ l with s := (s0 : Int) } : LE) = l by rw [← hs00])
        have hse : sentE l now = s0 := by unfold sentE; rw [if_neg hx, hs00]; rfl
        have Hse := Lib.hid hse
        clear hse
        by_cases hd0 : 0 ≤ l.d
        · have hda : (l.d ≤ now) = False := eq_false (by omega)
          clear hx hD2
          go_wp2_with (first | (refine wpList_store_field rfl 37 (.tmp 23) (.tmp 22) rfl w.heap.size 0 (.slice A5 l.q.length c5) rfl rfl rfl 39 _ hP4 (by simp [leCells]) (by kernel_rfl) ?_; intro W5 hP5 u5; have HP5 := (show W5.heap[w.heap.size]? = some (.cells (leN A5 l.q.length c5 l) 39 (0, 0)) from hP5); clear hP5; have z5 : W5.cell? ⟨w.heap.size, 5, none⟩ = some (.int .i64 l.d) := cellOf HP5 rfl; have HP5' := (show W5.heap[w.heap.size]? = some (.cells (leN A5 l.q.length c5 { l with s := (s0 : Int) }) 39 (0, 0)) by rw [Hle.out]; exact HP5); clear HP5) | (refine wpList_load_row rfl 39 (.tmp 2) rfl w.heap.size rfl 39 (leCells A5 c5 ({ l with s := (s0 : Int) })) (0, 0) _ (alloc_blk _ HP5') Try.underlying39 rfl le_size ?_))
          refine (unsent_any A5 c5 ({ l with s := (s0 : Int) }) _).mono ?_
          rintro e w1 ⟨rfl, hw1⟩
          have hRn := ((u5.other (w.heap.size + 1) (by omega)).trans hRr4)
          have hBn := (u5.below hB4 (Nat.le_refl _))
          have hsn : w.heap.size + 2 ≤ W5.heap.size := by rw [u5.size]; omega
          have hRow : RowB W5 W.heap.size 22 (.slice A5 l.q.length c5) l.q := HR4.out.move fun k hk _ => by rw [u5.other k (by omega)]
          obtain ⟨M, hM⟩ : ∃ M, min l.q.length 7 = M := ⟨_, rfl⟩
          have hsM : s0 ≤ M := by omega
          obtain ⟨hst, hB1, hR1, hq1⟩ := poll_start hw1 HP5' hRn hRow hBn (by omega)
          have hq1' : ∃ vs, RdP (fun k => k < w1.heap.size ∧ k ≠ W5.heap.size) w1 A5 vs ∧ Els (fun k => k < w1.heap.size ∧ k ≠ W5.heap.size) w1 vs l.q := by
            obtain ⟨vs, h1, h2⟩ := hq1
            have hs9 := hst.size
            exact ⟨vs, h1.imp fun b hb _ => ⟨by omega, by omega⟩, h2.move (fun _ _ _ => rfl) fun b hb _ => ⟨by omega, by omega⟩⟩
          have hs9 := hst.size
          have HU := Lib.hid (uns_stops (5 - 1) (by omega) (fun k => k < w1.heap.size ∧ k ≠ W5.heap.size) ({ l with s := (s0 : Int) }) A5 c5 (W5.heap.size + 1) s0 M (by first | rfl | (show l.s = _; omega)) hM.symm hsM hbb h64 H3.out w1 hst.cap ⟨by omega, by omega⟩ hq1')
          have HQL := Lib.hid (inL_keep (by obtain ⟨A9, c9, e, k1, k2, k3, k4⟩ := RowB.form hR1; simp only [Value.slice.injEq] at e; obtain ⟨rfl, _, rfl⟩ := e; exact ⟨k4, k1, k2, k3⟩ : InL w1 A5 c5 l.q) hq1)
          have hI0 : PollI w1 W5.heap.size [] w1 := ⟨⟨rfl, rfl, rfl, Nat.le_refl _, by omega, fun _ _ _ => rfl⟩, _, hst.frames, RowF.nil _ _⟩
          clear hw1 hRow hBn hRn HR4 hRr4 hB4 hP4 hq1 hq1' hR1 HP5' u5
          go_wp2_with fail
          refine wpIn_wide.1 (range_fr (n := 5) (w0 := w1) (by omega) (gf := 60) (lb := #[.pointer (some ⟨W5.heap.size + 1, 0, none⟩)]) rfl (enters_of Try.func60 (by kernel_rfl) rfl) HU.out (Below.refl _ _) (fun h k => KpS.trans h k) (fun W' i o o' hi hW => KpS.put hW (by omega)) (PollI w1 W5.heap.size) (PollI.from w1 _) hI0 (PollI2 w1 W5.heap.size) (PollI2.from w1 _) ?a145 ?assign ?body ?done)
          case assign =>
            intro ly pre x W0 V1 K hI hbl hfr hlen hK
            obtain ⟨b, hb⟩ : ∃ b, V1.heap.size = b := ⟨_, rfl⟩
            have Hnew := Lib.hid (fun o => (show (V1.alloc o).heap[b]? = some o by rw [← hb]; exact heap_alloc_new V1 o))
            have HK := Lib.hid hK
            clear hK
            gi_wp2_with (first | (refine in_store_row rfl 24 (.tmp 9) (.tmp 36) rfl b x.cells rfl rfl 24 _ (Hnew.out _) fr_size rfl (fr_one x) ?_))
            have hfin : Below V1.heap.size V1 ((V1.alloc (.cells #[.bool false, .int .i64 0, .int .i64 0, .slice none 0 0] 24)).setRow b x.cells) := below_setRow (fw_new _ _) (Nat.le_of_eq hb) _
            have hkp9 : KpS (fun k => k < w1.heap.size ∧ k ≠ W5.heap.size) V1 ((V1.alloc (.cells #[.bool false, .int .i64 0, .int .i64 0, .slice none 0 0] 24)).setRow b x.cells) := ⟨hfin.size, fun k _ hl => hfin.block k hl⟩
            exact HK.out b _ (poll_take hI hbl hfr hfin (setRow_heap _ _ _ _ _ _ (Hnew.out _))) (keeps_below _ hfin) hkp9
          case body =>
            intro ly pre x b V1 hI2 hlen
            have hcells := hI2.cells
            obtain ⟨v, hv, hrow, hfo⟩ := hI2.box
            have c8 := cellOf (i := 0) hv rfl
            have f8 : V1.frozen? ⟨W5.heap.size, 0, none⟩ = false := frozen_of_row _ _ _ _ _ hv
            have Hrow := Lib.hid hrow.own
            have hsz1 := hI2.fr.size
            have hb63 : pre.length + 1 ≤ maxLen := by unfold maxLen; omega
            have hb64 : (pre.length + 1) * 48 ≤ 140737488355328 := by omega
            have hcells' : V1.heap[b]? = some (.cells #[.bool x.f.d, .int .i64 x.f.s, .int .i64 x.f.a, .slice x.A x.f.p.length x.c] 24 (0, 0)) := hcells
            have Hpush := Lib.hid (fun v' W3 => poll_push (v' := v') (W3 := W3) hI2 hv)
            have hne8 : v.ownBlock ≠ some W5.heap.size := fun e => by have := (own_lt hrow.own _ e).1; omega
            have Hne8 := Lib.hid hne8
            have hn48 : (#[Value.bool x.f.d, .int .i64 x.f.s, .int .i64 x.f.a, .slice x.A x.f.p.length x.c]).toList.length = 1 * 4 := rfl
            clear hrow hfo hI2 hcells hne8 hn48
            gi_wp2_with (first | (refine in_load_row rfl 24 (.tmp 9) rfl b rfl 24 #[.bool x.f.d, .int .i64 x.f.s, .int .i64 x.f.a, .slice x.A x.f.p.length x.c] (0, 0) _ hcells' Try.underlying24 rfl fr_size ?_) | (gi_at_builtin; refine wpListIn_append_own_at _ rfl (.tmp 37) (.tmp 39) 35 rfl w1.heap.size 24 i0 (.agg #[.bool false, .int .i64 0, .int .i64 0, .slice none 0 0]) 4 48 Try.underlying35 hi0 hz0 hz1 hz2 rfl (by decide) v pre.length (flatF pre) rfl (Hrow.out.alloc _) ⟨V1.heap.size, 0, none⟩ 1 1 [.bool x.f.d, .int .i64 x.f.s, .int .i64 x.f.a, .slice x.A x.f.p.length x.c] rfl rfl (RdC.cells (RdC.new V1 #[.bool x.f.d, .int .i64 x.f.s, .int .i64 x.f.a, .slice x.A x.f.p.length x.c] 24 (0, 0))) (by simp [Value.oneCell']) hb63 hb64 (by simp; omega) ?_; intro v' W3 ho3 hg3 _ hat3; have k3 := blk_grown hg3 (alloc_blk _ hv) Hne8.out; have k3c := cellOf (i := 0) k3 rfl; have k3f : W3.frozen? ⟨W5.heap.size, 0, none⟩ = false := frozen_of_row _ _ _ _ _ k3; have Hf := Lib.hid (Hpush.out v' W3 ho3 hg3 hat3); obtain ⟨g', cap', rfl⟩ := ownsRow_succ ho3; clear ho3 hg3 hat3 k3))
            have hf9 := Hf.out
            rw [hs9] at hf9
            exact hf9
          case done =>
            intro xs V1 hS hI hD
            obtain ⟨m, hm⟩ : ∃ m, xs.length = m := ⟨_, rfl⟩
            have hmM : m + s0 = M := by have h1 := congrArg List.length hS; simp only [List.length_map, unsGo_len] at h1; omega
            have hfs : xs.map (·.f) = framesE l now := by rw [hS, unsGo_s]; unfold framesE; rw [hM, Hse.out]
            have hfl : (framesE l now).length = m := by rw [← hfs]; simpa using hm
            obtain ⟨v, hv, hrow⟩ := hI.box
            obtain ⟨A6, c6, rfl, hIF⟩ := hrow.form
            rw [hm] at hrow hv
            have hY : PollY w.heap.size W5.heap.size l.q.length A5 c5 ({ l with s := (s0 : Int) }) A6 m c6 xs w1 V1 := ⟨hI.fr.z _, ⟨by omega, by omega⟩, (hI.fr.blk _ (by omega) (by omega)).trans hst.box, (hI.fr.blk _ (by omega) (by omega)).trans hst.res, hv, hrow, hD⟩
            have HE := Lib.hid hPE.out
            rw [hM, Hse.out] at HE
            have c8 := cellOf (i := 0) hv rfl
            have HG := hY.le
            have c2 : V1.cell? ⟨w.heap.size, 2, none⟩ = some (.int .i64 (s0 : Int)) := cellOf (i := 2) HG rfl
            have hm7 : m ≤ 7 := by omega
            have c3 : V1.cell? ⟨w.heap.size, 3, none⟩ = some (.int .i64 l.x) := cellOf (i := 3) HG rfl
            have c4 : V1.cell? ⟨w.heap.size, 4, none⟩ = some (.bool l.o) := cellOf (i := 4) HG rfl
            have HFS := Lib.hid hfs
            have HFL := Lib.hid hfl
            clear hS hI hD hrow hIF hst HU hfs hfl hv hI0
            by_cases hm0 : 0 < m
            · have hmt : (0 < m) = True := eq_true hm0
              have HE2 : Hid (pollE l now = ({ l with s := (M : Int), d := now + 3, o := false }, framesE l now, 0)) := Lib.hid (by rw [HE.out, if_pos (by omega)])
              go_wp2_with (first | (refine wpList_store_field rfl 3 (.tmp 49) (.tmp 48) rfl w.heap.size 2 _ rfl rfl rfl 39 _ HG (by simp [leN]) (by kernel_rfl) ?_; intro W7 h7 u7; have HY7 := hY.upd (L' := { l with s := (M : Int) }) u7 (by rw [show (M : Int) = (s0 : Int) + (m : Int) by omega]; exact h7); have HG7 := HY7.le; clear h7) | (refine wpList_store_field rfl 3 (.tmp 52) (.tmp 51) rfl w.heap.size 5 (.int .i64 (now + 3)) rfl rfl rfl 39 _ HG7 (by simp [leN]) (by kernel_rfl) ?_; intro W8 h8 u8; have HY8 := HY7.upd (L' := { l with s := (M : Int), d := now + 3 }) u8 h8; have HG8 := HY8.le; clear h8) | (refine wpList_store_field rfl 4 (.tmp 61) (.const (.bool false)) rfl w.heap.size 4 (.bool false) rfl rfl rfl 39 _ HG8 (by simp [leN]) (by kernel_rfl) ?_; intro Wz hz uz; have HYz := HY8.upd (L' := { ({ l with s := (M : Int), d := now + 3 } : LE) with o := false }) uz hz; clear hz))
              have hHz := HYz.le
              have hFz := HYz.fr
              have hRz := HYz.res
              refine wp_region_noPanic ?_
              refine wp_region_held_drew (S := R22 (w.heap.size + 1) Wz) (by kernel_rfl) (R22.start hRz rfl) (fun h0 => ?_)
              refine wpAnyH_take (i := 0) (v := .agg (leN A5 l.q.length c5 ({ l with s := (M : Int), d := now + 3, o := false } : LE))) rfl (by kernel_rfl) (by kernel_rfl) (by kernel_rfl) (fun _ _ _ h => h) (yieldsIf_load_blk (by rfl) 39 (.tmp 2) rfl w.heap.size rfl 39 _ (0, 0) _ (fun W h => (h.other _ (blk_lt hHz) (by omega)).trans hHz) Try.underlying39 rfl le_size) h0 ?_
              try simp only [Act.put, List.getElem?_toArray, List.getElem_toArray, List.getElem_cons_zero, List.getElem_cons_succ, List.setIfInBounds_toArray, List.set_cons_zero, List.set_cons_succ]
              refine wpAnyH_take (i := 1) (v := .slice A6 m c6) rfl (by kernel_rfl) (by kernel_rfl) (by kernel_rfl) (fun _ _ _ h => h) (Or.inl ⟨by rfl, fun W hW => by have hz : W.cell? ⟨W5.heap.size, 0, none⟩ = some (.slice A6 m c6) := hW.old hFz (by omega) rfl; go_simp⟩) h0 ?_
              try simp only [Act.put, List.getElem?_toArray, List.getElem_toArray, List.getElem_cons_zero, List.getElem_cons_succ, List.setIfInBounds_toArray, List.set_cons_zero, List.set_cons_succ]
              refine wpAnyH_ready (rs := [2]) (by kernel_rfl) (by simp) ?_
              refine AllReadyH.cons rfl (fun K hK => ?_) AllReadyH.nil
              rw [if_pos (by rfl)]
              refine wp_store_row 39 (.tmp 4) (.tmp 62) rfl (w.heap.size + 1) (leN A5 l.q.length c5 ({ l with s := (M : Int), d := now + 3, o := false } : LE)) rfl rfl 39 _ (show Wz.drew.heap[w.heap.size + 1]? = _ from hRz) le_size rfl (le_one _ _ _ _) ?_
              obtain ⟨e1, e2, e3, e4, e5⟩ := poll_end HYz (leN A5 l.q.length c5 ({ l with s := (M : Int), d := now + 3, o := false } : LE)) hB1 (Nat.le_refl _) HQL.out (Nat.le_refl _) hsz
              rw [hs9] at e1 e2 e3 e4 e5
              refine hK.out _ _ (h0.row _ rfl ⟨_, (show Wz.drew.heap[w.heap.size + 1]? = _ from hRz)⟩) (fun h3 => ?_)
              clear hK h0
              try simp only [Act.put, List.getElem?_toArray, List.getElem_toArray, List.getElem_cons_zero, List.getElem_cons_succ, List.setIfInBounds_toArray, List.set_cons_zero, List.set_cons_succ]
              have h0 := h3
              refine wpAnyH_take (i := 3) (v := .slice A6 m c6) rfl (by kernel_rfl) (by kernel_rfl) (by kernel_rfl) (fun _ _ _ h => h) (Or.inl ⟨by rfl, fun W hW => by rfl⟩) h0 ?_
              try simp only [Act.put, List.getElem?_toArray, List.getElem_toArray, List.getElem_cons_zero, List.getElem_cons_succ, List.setIfInBounds_toArray, List.set_cons_zero, List.set_cons_succ]
              refine wpAnyH_take (i := 4) (v := .int .i64 0) rfl (by kernel_rfl) (by kernel_rfl) (by kernel_rfl) (fun _ _ _ h => h) (Or.inl ⟨by rfl, fun W hW => by rfl⟩) h0 ?_
              try simp only [Act.put, List.getElem?_toArray, List.getElem_toArray, List.getElem_cons_zero, List.getElem_cons_succ, List.setIfInBounds_toArray, List.set_cons_zero, List.set_cons_succ]
              refine wpAnyH_done (by kernel_rfl) ?_ _
              refine NoPanic.normal ?_
              clear hY hHz hFz hRz h0 h3 HYz
              go_wp2_with fail
              (try simp only [Exit.inBlock, Exit.then])
              refine postM_mark rfl e1 (res_ctt rfl _ _ (w.heap.size + 1) _ (leN A5 l.q.length c5 ({ l with s := (M : Int), d := now + 3, o := false } : LE)) _ _ rfl e2 Try.underlying39 rfl le_size) ?_
              exact PollPost.yes HE2.out rfl rfl e3 (HFS.out ▸ e4) HFL.out.symm e5
            · obtain rfl : m = 0 := by omega
              obtain rfl : xs = [] := List.eq_nil_of_length_eq_zero hm
              have hmt : ((0 : Int) < ((0 : Nat) : Int)) = False := eq_false (by omega)
              rw [if_neg (by omega)] at HE
              cases hlo : l.o with
              | false =>
                rw [hlo] at c4
                have HE2 : Hid (pollE l now = ({ l with s := (s0 : Int), o := false }, [], 0)) := Lib.hid (by rw [HE.out, if_neg (by simp [hlo])])
                go_wp2_with (first | (refine wpList_store_field rfl 4 (.tmp 61) (.const (.bool false)) rfl w.heap.size 4 (.bool false) rfl rfl rfl 39 _ HG (by simp [leN]) (by kernel_rfl) ?_; intro Wz hz uz; have HYz := hY.upd (L' := { ({ l with s := (s0 : Int) } : LE) with o := false }) uz hz; clear hz))
                have hHz := HYz.le
                have hFz := HYz.fr
                have hRz := HYz.res
                refine wp_region_noPanic ?_
                refine wp_region_held_drew (S := R22 (w.heap.size + 1) Wz) (by kernel_rfl) (R22.start hRz rfl) (fun h0 => ?_)
                refine wpAnyH_take (i := 0) (v := .agg (leN A5 l.q.length c5 ({ l with s := (s0 : Int), o := false } : LE))) rfl (by kernel_rfl) (by kernel_rfl) (by kernel_rfl) (fun _ _ _ h => h) (yieldsIf_load_blk (by rfl) 39 (.tmp 2) rfl w.heap.size rfl 39 _ (0, 0) _ (fun W h => (h.other _ (blk_lt hHz) (by omega)).trans hHz) Try.underlying39 rfl le_size) h0 ?_
                try simp only [Act.put, List.getElem?_toArray, List.getElem_toArray, List.getElem_cons_zero, List.getElem_cons_succ, List.setIfInBounds_toArray, List.set_cons_zero, List.set_cons_succ]
                refine wpAnyH_take (i := 1) (v := .slice A6 0 c6) rfl (by kernel_rfl) (by kernel_rfl) (by kernel_rfl) (fun _ _ _ h => h) (Or.inl ⟨by rfl, fun W hW => by have hz : W.cell? ⟨W5.heap.size, 0, none⟩ = some (.slice A6 0 c6) := hW.old hFz (by omega) rfl; go_simp⟩) h0 ?_
                try simp only [Act.put, List.getElem?_toArray, List.getElem_toArray, List.getElem_cons_zero, List.getElem_cons_succ, List.setIfInBounds_toArray, List.set_cons_zero, List.set_cons_succ]
                refine wpAnyH_ready (rs := [2]) (by kernel_rfl) (by simp) ?_
                refine AllReadyH.cons rfl (fun K hK => ?_) AllReadyH.nil
                rw [if_pos (by rfl)]
                refine wp_store_row 39 (.tmp 4) (.tmp 62) rfl (w.heap.size + 1) (leN A5 l.q.length c5 ({ l with s := (s0 : Int), o := false } : LE)) rfl rfl 39 _ (show Wz.drew.heap[w.heap.size + 1]? = _ from hRz) le_size rfl (le_one _ _ _ _) ?_
                obtain ⟨e1, e2, e3, e4, e5⟩ := poll_end HYz (leN A5 l.q.length c5 ({ l with s := (s0 : Int), o := false } : LE)) hB1 (Nat.le_refl _) HQL.out (Nat.le_refl _) hsz
                rw [hs9] at e1 e2 e3 e4 e5
                refine hK.out _ _ (h0.row _ rfl ⟨_, (show Wz.drew.heap[w.heap.size + 1]? = _ from hRz)⟩) (fun h3 => ?_)
                clear hK h0
                try simp only [Act.put, List.getElem?_toArray, List.getElem_toArray, List.getElem_cons_zero, List.getElem_cons_succ, List.setIfInBounds_toArray, List.set_cons_zero, List.set_cons_succ]
                have h0 := h3
                refine wpAnyH_take (i := 3) (v := .slice A6 0 c6) rfl (by kernel_rfl) (by kernel_rfl) (by kernel_rfl) (fun _ _ _ h => h) (Or.inl ⟨by rfl, fun W hW => by rfl⟩) h0 ?_
                try simp only [Act.put, List.getElem?_toArray, List.getElem_toArray, List.getElem_cons_zero, List.getElem_cons_succ, List.setIfInBounds_toArray, List.set_cons_zero, List.set_cons_succ]
                refine wpAnyH_take (i := 4) (v := .int .i64 0) rfl (by kernel_rfl) (by kernel_rfl) (by kernel_rfl) (fun _ _ _ h => h) (Or.inl ⟨by rfl, fun W hW => by rfl⟩) h0 ?_
                try simp only [Act.put, List.getElem?_toArray, List.getElem_toArray, List.getElem_cons_zero, List.getElem_cons_succ, List.setIfInBounds_toArray, List.set_cons_zero, List.set_cons_succ]
                refine wpAnyH_done (by kernel_rfl) ?_ _
                refine NoPanic.normal ?_
                clear hY hHz hFz hRz h0 h3 HYz
                go_wp2_with fail
                (try simp only [Exit.inBlock, Exit.then])
                refine postM_mark rfl e1 (res_ctt rfl _ _ (w.heap.size + 1) _ (leN A5 l.q.length c5 ({ l with s := (s0 : Int), o := false } : LE)) _ _ rfl e2 Try.underlying39 rfl le_size) ?_
                exact PollPost.yes HE2.out rfl rfl e3 (e4) rfl e5
              | true =>
                rw [hlo] at c4
                have HE2 : Hid (pollE l now = ({ l with s := (s0 : Int), o := false }, [⟨false, 0, l.x, []⟩], 0)) := Lib.hid (by rw [HE.out, if_pos hlo])
                have Hown := Lib.hid hY.row.own
                have hV1 := hY.z.size
                have hv8 := hY.fr
                have Hne8 := Lib.hid (fun e => by have := (own_lt hY.row.own _ e).1; omega : (Value.slice A6 0 c6).ownBlock ≠ some W5.heap.size)
                have Howed := Lib.hid (fun A7 c7 W5 W9 => hY.owed (A7 := A7) (c7 := c7) (W5 := W5) (W9 := W9) ⟨⟨false, 0, l.x, []⟩, none, 0⟩ rfl (fun _ => rfl) (Nat.zero_le _))
                go_wp2_with (first | (at_builtin; refine app_own _ rfl (.tmp 55) (.tmp 59) 35 rfl w1.heap.size 24 (.agg #[.bool false, .int .i64 0, .int .i64 0, .slice none 0 0]) 4 48 Try.underlying35 info_fr rfl (by decide) (by decide) (.slice A6 0 c6) 0 (flatF []) rfl (Hown.out.alloc _) (some ⟨V1.heap.size, 0, none⟩) 1 1 [.bool false, .int .i64 0, .int .i64 l.x, .slice none 0 0] rfl rfl (fun e => by cases e) (RdC.new V1 #[.bool false, .int .i64 0, .int .i64 l.x, .slice none 0 0] 24 (0, 0)) (by simp [Value.oneCell']) (by omega) (by simp; omega) ?_; intro v7 W7 ho7 hg7 hat7; have k7 := blk_grown hg7 (alloc_blk _ hv8) Hne8.out; obtain ⟨g7, c7, rfl⟩ := ownsRow_succ ho7) | (refine wpList_store_field rfl 35 (.tmp 8) (.tmp 60) rfl W5.heap.size 0 (.slice (some ⟨g7, 0, none⟩) (0 + 1) c7) rfl rfl rfl 35 _ k7 (by simp) (by kernel_rfl) ?_; intro W9 h9 u9; have HY9 := Howed.out (some ⟨g7, 0, none⟩) c7 W7 W9 ho7 hg7 u9 h9; have HG9 := HY9.le; clear h9 ho7 hg7 hat7) | (refine wpList_store_field rfl 4 (.tmp 61) (.const (.bool false)) rfl w.heap.size 4 (.bool false) rfl rfl rfl 39 _ HG9 (by simp [leN]) (by kernel_rfl) ?_; intro Wz hz uz; have HYz := HY9.upd (L' := { ({ l with s := (s0 : Int) } : LE) with o := false }) uz hz; clear hz))
                clear Howed k7 Hne8 hv8 Hown
                obtain ⟨A6', hA6'⟩ : ∃ A6', some (⟨g7, 0, none⟩ : Addr) = A6' := ⟨_, rfl⟩
                have hHz := HYz.le
                have hFz := HYz.fr
                have hRz := HYz.res
                refine wp_region_noPanic ?_
                refine wp_region_held_drew (S := R22 (w.heap.size + 1) Wz) (by kernel_rfl) (R22.start hRz rfl) (fun h0 => ?_)
                refine wpAnyH_take (i := 0) (v := .agg (leN A5 l.q.length c5 ({ l with s := (s0 : Int), o := false } : LE))) rfl (by kernel_rfl) (by kernel_rfl) (by kernel_rfl) (fun _ _ _ h => h) (yieldsIf_load_blk (by rfl) 39 (.tmp 2) rfl w.heap.size rfl 39 _ (0, 0) _ (fun W h => (h.other _ (blk_lt hHz) (by omega)).trans hHz) Try.underlying39 rfl le_size) h0 ?_
                try simp only [Act.put, List.getElem?_toArray, List.getElem_toArray, List.getElem_cons_zero, List.getElem_cons_succ, List.setIfInBounds_toArray, List.set_cons_zero, List.set_cons_succ]
                refine wpAnyH_take (i := 1) (v := .slice (some ⟨g7, 0, none⟩) 1 c7) rfl (by kernel_rfl) (by kernel_rfl) (by kernel_rfl) (fun _ _ _ h => h) (Or.inl ⟨by rfl, fun W hW => by have hz : W.cell? ⟨W5.heap.size, 0, none⟩ = some (.slice (some ⟨g7, 0, none⟩) 1 c7) := hW.old hFz (by omega) rfl; go_simp⟩) h0 ?_
                try simp only [Act.put, List.getElem?_toArray, List.getElem_toArray, List.getElem_cons_zero, List.getElem_cons_succ, List.setIfInBounds_toArray, List.set_cons_zero, List.set_cons_succ]
                refine wpAnyH_ready (rs := [2]) (by kernel_rfl) (by simp) ?_
                refine AllReadyH.cons rfl (fun K hK => ?_) AllReadyH.nil
                rw [if_pos (by rfl)]
                refine wp_store_row 39 (.tmp 4) (.tmp 62) rfl (w.heap.size + 1) (leN A5 l.q.length c5 ({ l with s := (s0 : Int), o := false } : LE)) rfl rfl 39 _ (show Wz.drew.heap[w.heap.size + 1]? = _ from hRz) le_size rfl (le_one _ _ _ _) ?_
                obtain ⟨e1, e2, e3, e4, e5⟩ := poll_end HYz (leN A5 l.q.length c5 ({ l with s := (s0 : Int), o := false } : LE)) hB1 (Nat.le_refl _) HQL.out (Nat.le_refl _) hsz
                rw [hs9] at e1 e2 e3 e4 e5
                refine hK.out _ _ (h0.row _ rfl ⟨_, (show Wz.drew.heap[w.heap.size + 1]? = _ from hRz)⟩) (fun h3 => ?_)
                clear hK h0
                try simp only [Act.put, List.getElem?_toArray, List.getElem_toArray, List.getElem_cons_zero, List.getElem_cons_succ, List.setIfInBounds_toArray, List.set_cons_zero, List.set_cons_succ]
                have h0 := h3
                refine wpAnyH_take (i := 3) (v := .slice (some ⟨g7, 0, none⟩) 1 c7) rfl (by kernel_rfl) (by kernel_rfl) (by kernel_rfl) (fun _ _ _ h => h) (Or.inl ⟨by rfl, fun W hW => by rfl⟩) h0 ?_
                try simp only [Act.put, List.getElem?_toArray, List.getElem_toArray, List.getElem_cons_zero, List.getElem_cons_succ, List.setIfInBounds_toArray, List.set_cons_zero, List.set_cons_succ]
                refine wpAnyH_take (i := 4) (v := .int .i64 0) rfl (by kernel_rfl) (by kernel_rfl) (by kernel_rfl) (fun _ _ _ h => h) (Or.inl ⟨by rfl, fun W hW => by rfl⟩) h0 ?_
                try simp only [Act.put, List.getElem?_toArray, List.getElem_toArray, List.getElem_cons_zero, List.getElem_cons_succ, List.setIfInBounds_toArray, List.set_cons_zero, List.set_cons_succ]
                refine wpAnyH_done (by kernel_rfl) ?_ _
                refine NoPanic.normal ?_
                clear hY hHz hFz hRz h0 h3 HYz
                go_wp2_with fail
                (try simp only [Exit.inBlock, Exit.then])
                refine postM_mark rfl e1 (res_ctt rfl _ _ (w.heap.size + 1) _ (leN A5 l.q.length c5 ({ l with s := (s0 : Int), o := false } : LE)) _ _ rfl e2 Try.underlying39 rfl le_size) ?_
                exact PollPost.yes HE2.out rfl rfl e3 (e4) rfl e5
        · have hda : (0 ≤ l.d) = False := eq_false hd0
          clear hx hD2 hd0
          go_wp2_with (first | (refine wpList_store_field rfl 37 (.tmp 23) (.tmp 22) rfl w.heap.size 0 (.slice A5 l.q.length c5) rfl rfl rfl 39 _ hP4 (by simp [leCells]) (by kernel_rfl) ?_; intro W5 hP5 u5; have HP5 := (show W5.heap[w.heap.size]? = some (.cells (leN A5 l.q.length c5 l) 39 (0, 0)) from hP5); clear hP5; have z5 : W5.cell? ⟨w.heap.size, 5, none⟩ = some (.int .i64 l.d) := cellOf HP5 rfl; have HP5' := (show W5.heap[w.heap.size]? = some (.cells (leN A5 l.q.length c5 { l with s := (s0 : Int) }) 39 (0, 0)) by rw [Hle.out]; exact HP5); clear HP5) | (refine wpList_load_row rfl 39 (.tmp 2) rfl w.heap.size rfl 39 (leCells A5 c5 ({ l with s := (s0 : Int) })) (0, 0) _ (alloc_blk _ HP5') Try.underlying39 rfl le_size ?_))
          refine (unsent_any A5 c5 ({ l with s := (s0 : Int) }) _).mono ?_
          rintro e w1 ⟨rfl, hw1⟩
          have hRn := ((u5.other (w.heap.size + 1) (by omega)).trans hRr4)
          have hBn := (u5.below hB4 (Nat.le_refl _))
          have hsn : w.heap.size + 2 ≤ W5.heap.size := by rw [u5.size]; omega
          have hRow : RowB W5 W.heap.size 22 (.slice A5 l.q.length c5) l.q := HR4.out.move fun k hk _ => by rw [u5.other k (by omega)]
          obtain ⟨M, hM⟩ : ∃ M, min l.q.length 7 = M := ⟨_, rfl⟩
          have hsM : s0 ≤ M := by omega
          obtain ⟨hst, hB1, hR1, hq1⟩ := poll_start hw1 HP5' hRn hRow hBn (by omega)
          have hq1' : ∃ vs, RdP (fun k => k < w1.heap.size ∧ k ≠ W5.heap.size) w1 A5 vs ∧ Els (fun k => k < w1.heap.size ∧ k ≠ W5.heap.size) w1 vs l.q := by
            obtain ⟨vs, h1, h2⟩ := hq1
            have hs9 := hst.size
            exact ⟨vs, h1.imp fun b hb _ => ⟨by omega, by omega⟩, h2.move (fun _ _ _ => rfl) fun b hb _ => ⟨by omega, by omega⟩⟩
          have hs9 := hst.size
          have HU := Lib.hid (uns_stops (5 - 1) (by omega) (fun k => k < w1.heap.size ∧ k ≠ W5.heap.size) ({ l with s := (s0 : Int) }) A5 c5 (W5.heap.size + 1) s0 M (by first | rfl | (show l.s = _; omega)) hM.symm hsM hbb h64 H3.out w1 hst.cap ⟨by omega, by omega⟩ hq1')
          have HQL := Lib.hid (inL_keep (by obtain ⟨A9, c9, e, k1, k2, k3, k4⟩ := RowB.form hR1; simp only [Value.slice.injEq] at e; obtain ⟨rfl, _, rfl⟩ := e; exact ⟨k4, k1, k2, k3⟩ : InL w1 A5 c5 l.q) hq1)
          have hI0 : PollI w1 W5.heap.size [] w1 := ⟨⟨rfl, rfl, rfl, Nat.le_refl _, by omega, fun _ _ _ => rfl⟩, _, hst.frames, RowF.nil _ _⟩
          clear hw1 hRow hBn hRn HR4 hRr4 hB4 hP4 hq1 hq1' hR1 HP5' u5
          go_wp2_with fail
          refine wpIn_wide.1 (range_fr (n := 5) (w0 := w1) (by omega) (gf := 60) (lb := #[.pointer (some ⟨W5.heap.size + 1, 0, none⟩)]) rfl (enters_of Try.func60 (by kernel_rfl) rfl) HU.out (Below.refl _ _) (fun h k => KpS.trans h k) (fun W' i o o' hi hW => KpS.put hW (by omega)) (PollI w1 W5.heap.size) (PollI.from w1 _) hI0 (PollI2 w1 W5.heap.size) (PollI2.from w1 _) ?a333 ?assign ?body ?done)
          case assign =>
            intro ly pre x W0 V1 K hI hbl hfr hlen hK
            obtain ⟨b, hb⟩ : ∃ b, V1.heap.size = b := ⟨_, rfl⟩
            have Hnew := Lib.hid (fun o => (show (V1.alloc o).heap[b]? = some o by rw [← hb]; exact heap_alloc_new V1 o))
            have HK := Lib.hid hK
            clear hK
            gi_wp2_with (first | (refine in_store_row rfl 24 (.tmp 9) (.tmp 36) rfl b x.cells rfl rfl 24 _ (Hnew.out _) fr_size rfl (fr_one x) ?_))
            have hfin : Below V1.heap.size V1 ((V1.alloc (.cells #[.bool false, .int .i64 0, .int .i64 0, .slice none 0 0] 24)).setRow b x.cells) := below_setRow (fw_new _ _) (Nat.le_of_eq hb) _
            have hkp9 : KpS (fun k => k < w1.heap.size ∧ k ≠ W5.heap.size) V1 ((V1.alloc (.cells #[.bool false, .int .i64 0, .int .i64 0, .slice none 0 0] 24)).setRow b x.cells) := ⟨hfin.size, fun k _ hl => hfin.block k hl⟩
            exact HK.out b _ (poll_take hI hbl hfr hfin (setRow_heap _ _ _ _ _ _ (Hnew.out _))) (keeps_below _ hfin) hkp9
          case body =>
            intro ly pre x b V1 hI2 hlen
            have hcells := hI2.cells
            obtain ⟨v, hv, hrow, hfo⟩ := hI2.box
            have c8 := cellOf (i := 0) hv rfl
            have f8 : V1.frozen? ⟨W5.heap.size, 0, none⟩ = false := frozen_of_row _ _ _ _ _ hv
            have Hrow := Lib.hid hrow.own
            have hsz1 := hI2.fr.size
            have hb63 : pre.length + 1 ≤ maxLen := by unfold maxLen; omega
            have hb64 : (pre.length + 1) * 48 ≤ 140737488355328 := by omega
            have hcells' : V1.heap[b]? = some (.cells #[.bool x.f.d, .int .i64 x.f.s, .int .i64 x.f.a, .slice x.A x.f.p.length x.c] 24 (0, 0)) := hcells
            have Hpush := Lib.hid (fun v' W3 => poll_push (v' := v') (W3 := W3) hI2 hv)
            have hne8 : v.ownBlock ≠ some W5.heap.size := fun e => by have := (own_lt hrow.own _ e).1; omega
            have Hne8 := Lib.hid hne8
            have hn48 : (#[Value.bool x.f.d, .int .i64 x.f.s, .int .i64 x.f.a, .slice x.A x.f.p.length x.c]).toList.length = 1 * 4 := rfl
            clear hrow hfo hI2 hcells hne8 hn48
            gi_wp2_with (first | (refine in_load_row rfl 24 (.tmp 9) rfl b rfl 24 #[.bool x.f.d, .int .i64 x.f.s, .int .i64 x.f.a, .slice x.A x.f.p.length x.c] (0, 0) _ hcells' Try.underlying24 rfl fr_size ?_) | (gi_at_builtin; refine wpListIn_append_own_at _ rfl (.tmp 37) (.tmp 39) 35 rfl w1.heap.size 24 i0 (.agg #[.bool false, .int .i64 0, .int .i64 0, .slice none 0 0]) 4 48 Try.underlying35 hi0 hz0 hz1 hz2 rfl (by decide) v pre.length (flatF pre) rfl (Hrow.out.alloc _) ⟨V1.heap.size, 0, none⟩ 1 1 [.bool x.f.d, .int .i64 x.f.s, .int .i64 x.f.a, .slice x.A x.f.p.length x.c] rfl rfl (RdC.cells (RdC.new V1 #[.bool x.f.d, .int .i64 x.f.s, .int .i64 x.f.a, .slice x.A x.f.p.length x.c] 24 (0, 0))) (by simp [Value.oneCell']) hb63 hb64 (by simp; omega) ?_; intro v' W3 ho3 hg3 _ hat3; have k3 := blk_grown hg3 (alloc_blk _ hv) Hne8.out; have k3c := cellOf (i := 0) k3 rfl; have k3f : W3.frozen? ⟨W5.heap.size, 0, none⟩ = false := frozen_of_row _ _ _ _ _ k3; have Hf := Lib.hid (Hpush.out v' W3 ho3 hg3 hat3); obtain ⟨g', cap', rfl⟩ := ownsRow_succ ho3; clear ho3 hg3 hat3 k3))
            have hf9 := Hf.out
            rw [hs9] at hf9
            exact hf9
          case done =>
            intro xs V1 hS hI hD
            obtain ⟨m, hm⟩ : ∃ m, xs.length = m := ⟨_, rfl⟩
            have hmM : m + s0 = M := by have h1 := congrArg List.length hS; simp only [List.length_map, unsGo_len] at h1; omega
            have hfs : xs.map (·.f) = framesE l now := by rw [hS, unsGo_s]; unfold framesE; rw [hM, Hse.out]
            have hfl : (framesE l now).length = m := by rw [← hfs]; simpa using hm
            obtain ⟨v, hv, hrow⟩ := hI.box
            obtain ⟨A6, c6, rfl, hIF⟩ := hrow.form
            rw [hm] at hrow hv
            have hY : PollY w.heap.size W5.heap.size l.q.length A5 c5 ({ l with s := (s0 : Int) }) A6 m c6 xs w1 V1 := ⟨hI.fr.z _, ⟨by omega, by omega⟩, (hI.fr.blk _ (by omega) (by omega)).trans hst.box, (hI.fr.blk _ (by omega) (by omega)).trans hst.res, hv, hrow, hD⟩
            have HE := Lib.hid hPE.out
            rw [hM, Hse.out] at HE
            have c8 := cellOf (i := 0) hv rfl
            have HG := hY.le
            have c2 : V1.cell? ⟨w.heap.size, 2, none⟩ = some (.int .i64 (s0 : Int)) := cellOf (i := 2) HG rfl
            have hm7 : m ≤ 7 := by omega
            have c3 : V1.cell? ⟨w.heap.size, 3, none⟩ = some (.int .i64 l.x) := cellOf (i := 3) HG rfl
            have c4 : V1.cell? ⟨w.heap.size, 4, none⟩ = some (.bool l.o) := cellOf (i := 4) HG rfl
            have HFS := Lib.hid hfs
            have HFL := Lib.hid hfl
            clear hS hI hD hrow hIF hst HU hfs hfl hv hI0
            by_cases hm0 : 0 < m
            · have hmt : (0 < m) = True := eq_true hm0
              have HE2 : Hid (pollE l now = ({ l with s := (M : Int), d := now + 3, o := false }, framesE l now, 0)) := Lib.hid (by rw [HE.out, if_pos (by omega)])
              go_wp2_with (first | (refine wpList_store_field rfl 3 (.tmp 49) (.tmp 48) rfl w.heap.size 2 _ rfl rfl rfl 39 _ HG (by simp [leN]) (by kernel_rfl) ?_; intro W7 h7 u7; have HY7 := hY.upd (L' := { l with s := (M : Int) }) u7 (by rw [show (M : Int) = (s0 : Int) + (m : Int) by omega]; exact h7); have HG7 := HY7.le; clear h7) | (refine wpList_store_field rfl 3 (.tmp 52) (.tmp 51) rfl w.heap.size 5 (.int .i64 (now + 3)) rfl rfl rfl 39 _ HG7 (by simp [leN]) (by kernel_rfl) ?_; intro W8 h8 u8; have HY8 := HY7.upd (L' := { l with s := (M : Int), d := now + 3 }) u8 h8; have HG8 := HY8.le; clear h8) | (refine wpList_store_field rfl 4 (.tmp 61) (.const (.bool false)) rfl w.heap.size 4 (.bool false) rfl rfl rfl 39 _ HG8 (by simp [leN]) (by kernel_rfl) ?_; intro Wz hz uz; have HYz := HY8.upd (L' := { ({ l with s := (M : Int), d := now + 3 } : LE) with o := false }) uz hz; clear hz))
              have hHz := HYz.le
              have hFz := HYz.fr
              have hRz := HYz.res
              refine wp_region_noPanic ?_
              refine wp_region_held_drew (S := R22 (w.heap.size + 1) Wz) (by kernel_rfl) (R22.start hRz rfl) (fun h0 => ?_)
              refine wpAnyH_take (i := 0) (v := .agg (leN A5 l.q.length c5 ({ l with s := (M : Int), d := now + 3, o := false } : LE))) rfl (by kernel_rfl) (by kernel_rfl) (by kernel_rfl) (fun _ _ _ h => h) (yieldsIf_load_blk (by rfl) 39 (.tmp 2) rfl w.heap.size rfl 39 _ (0, 0) _ (fun W h => (h.other _ (blk_lt hHz) (by omega)).trans hHz) Try.underlying39 rfl le_size) h0 ?_
              try simp only [Act.put, List.getElem?_toArray, List.getElem_toArray, List.getElem_cons_zero, List.getElem_cons_succ, List.setIfInBounds_toArray, List.set_cons_zero, List.set_cons_succ]
              refine wpAnyH_take (i := 1) (v := .slice A6 m c6) rfl (by kernel_rfl) (by kernel_rfl) (by kernel_rfl) (fun _ _ _ h => h) (Or.inl ⟨by rfl, fun W hW => by have hz : W.cell? ⟨W5.heap.size, 0, none⟩ = some (.slice A6 m c6) := hW.old hFz (by omega) rfl; go_simp⟩) h0 ?_
              try simp only [Act.put, List.getElem?_toArray, List.getElem_toArray, List.getElem_cons_zero, List.getElem_cons_succ, List.setIfInBounds_toArray, List.set_cons_zero, List.set_cons_succ]
              refine wpAnyH_ready (rs := [2]) (by kernel_rfl) (by simp) ?_
              refine AllReadyH.cons rfl (fun K hK => ?_) AllReadyH.nil
              rw [if_pos (by rfl)]
              refine wp_store_row 39 (.tmp 4) (.tmp 62) rfl (w.heap.size + 1) (leN A5 l.q.length c5 ({ l with s := (M : Int), d := now + 3, o := false } : LE)) rfl rfl 39 _ (show Wz.drew.heap[w.heap.size + 1]? = _ from hRz) le_size rfl (le_one _ _ _ _) ?_
              obtain ⟨e1, e2, e3, e4, e5⟩ := poll_end HYz (leN A5 l.q.length c5 ({ l with s := (M : Int), d := now + 3, o := false } : LE)) hB1 (Nat.le_refl _) HQL.out (Nat.le_refl _) hsz
              rw [hs9] at e1 e2 e3 e4 e5
              refine hK.out _ _ (h0.row _ rfl ⟨_, (show Wz.drew.heap[w.heap.size + 1]? = _ from hRz)⟩) (fun h3 => ?_)
              clear hK h0
              try simp only [Act.put, List.getElem?_toArray, List.getElem_toArray, List.getElem_cons_zero, List.getElem_cons_succ, List.setIfInBounds_toArray, List.set_cons_zero, List.set_cons_succ]
              have h0 := h3
              refine wpAnyH_take (i := 3) (v := .slice A6 m c6) rfl (by kernel_rfl) (by kernel_rfl) (by kernel_rfl) (fun _ _ _ h => h) (Or.inl ⟨by rfl, fun W hW => by rfl⟩) h0 ?_
              try simp only [Act.put, List.getElem?_toArray, List.getElem_toArray, List.getElem_cons_zero, List.getElem_cons_succ, List.setIfInBounds_toArray, List.set_cons_zero, List.set_cons_succ]
              refine wpAnyH_take (i := 4) (v := .int .i64 0) rfl (by kernel_rfl) (by kernel_rfl) (by kernel_rfl) (fun _ _ _ h => h) (Or.inl ⟨by rfl, fun W hW => by rfl⟩) h0 ?_
              try simp only [Act.put, List.getElem?_toArray, List.getElem_toArray, List.getElem_cons_zero, List.getElem_cons_succ, List.setIfInBounds_toArray, List.set_cons_zero, List.set_cons_succ]
              refine wpAnyH_done (by kernel_rfl) ?_ _
              refine NoPanic.normal ?_
              clear hY hHz hFz hRz h0 h3 HYz
              go_wp2_with fail
              (try simp only [Exit.inBlock, Exit.then])
              refine postM_mark rfl e1 (res_ctt rfl _ _ (w.heap.size + 1) _ (leN A5 l.q.length c5 ({ l with s := (M : Int), d := now + 3, o := false } : LE)) _ _ rfl e2 Try.underlying39 rfl le_size) ?_
              exact PollPost.yes HE2.out rfl rfl e3 (HFS.out ▸ e4) HFL.out.symm e5
            · obtain rfl : m = 0 := by omega
              obtain rfl : xs = [] := List.eq_nil_of_length_eq_zero hm
              have hmt : ((0 : Int) < ((0 : Nat) : Int)) = False := eq_false (by omega)
              rw [if_neg (by omega)] at HE
              cases hlo : l.o with
              | false =>
                rw [hlo] at c4
                have HE2 : Hid (pollE l now = ({ l with s := (s0 : Int), o := false }, [], 0)) := Lib.hid (by rw [HE.out, if_neg (by simp [hlo])])
                go_wp2_with (first | (refine wpList_store_field rfl 4 (.tmp 61) (.const (.bool false)) rfl w.heap.size 4 (.bool false) rfl rfl rfl 39 _ HG (by simp [leN]) (by kernel_rfl) ?_; intro Wz hz uz; have HYz := hY.upd (L' := { ({ l with s := (s0 : Int) } : LE) with o := false }) uz hz; clear hz))
                have hHz := HYz.le
                have hFz := HYz.fr
                have hRz := HYz.res
                refine wp_region_noPanic ?_
                refine wp_region_held_drew (S := R22 (w.heap.size + 1) Wz) (by kernel_rfl) (R22.start hRz rfl) (fun h0 => ?_)
                refine wpAnyH_take (i := 0) (v := .agg (leN A5 l.q.length c5 ({ l with s := (s0 : Int), o := false } : LE))) rfl (by kernel_rfl) (by kernel_rfl) (by kernel_rfl) (fun _ _ _ h => h) (yieldsIf_load_blk (by rfl) 39 (.tmp 2) rfl w.heap.size rfl 39 _ (0, 0) _ (fun W h => (h.other _ (blk_lt hHz) (by omega)).trans hHz) Try.underlying39 rfl le_size) h0 ?_
                try simp only [Act.put, List.getElem?_toArray, List.getElem_toArray, List.getElem_cons_zero, List.getElem_cons_succ, List.setIfInBounds_toArray, List.set_cons_zero, List.set_cons_succ]
                refine wpAnyH_take (i := 1) (v := .slice A6 0 c6) rfl (by kernel_rfl) (by kernel_rfl) (by kernel_rfl) (fun _ _ _ h => h) (Or.inl ⟨by rfl, fun W hW => by have hz : W.cell? ⟨W5.heap.size, 0, none⟩ = some (.slice A6 0 c6) := hW.old hFz (by omega) rfl; go_simp⟩) h0 ?_
                try simp only [Act.put, List.getElem?_toArray, List.getElem_toArray, List.getElem_cons_zero, List.getElem_cons_succ, List.setIfInBounds_toArray, List.set_cons_zero, List.set_cons_succ]
                refine wpAnyH_ready (rs := [2]) (by kernel_rfl) (by simp) ?_
                refine AllReadyH.cons rfl (fun K hK => ?_) AllReadyH.nil
                rw [if_pos (by rfl)]
                refine wp_store_row 39 (.tmp 4) (.tmp 62) rfl (w.heap.size + 1) (leN A5 l.q.length c5 ({ l with s := (s0 : Int), o := false } : LE)) rfl rfl 39 _ (show Wz.drew.heap[w.heap.size + 1]? = _ from hRz) le_size rfl (le_one _ _ _ _) ?_
                obtain ⟨e1, e2, e3, e4, e5⟩ := poll_end HYz (leN A5 l.q.length c5 ({ l with s := (s0 : Int), o := false } : LE)) hB1 (Nat.le_refl _) HQL.out (Nat.le_refl _) hsz
                rw [hs9] at e1 e2 e3 e4 e5
                refine hK.out _ _ (h0.row _ rfl ⟨_, (show Wz.drew.heap[w.heap.size + 1]? = _ from hRz)⟩) (fun h3 => ?_)
                clear hK h0
                try simp only [Act.put, List.getElem?_toArray, List.getElem_toArray, List.getElem_cons_zero, List.getElem_cons_succ, List.setIfInBounds_toArray, List.set_cons_zero, List.set_cons_succ]
                have h0 := h3
                refine wpAnyH_take (i := 3) (v := .slice A6 0 c6) rfl (by kernel_rfl) (by kernel_rfl) (by kernel_rfl) (fun _ _ _ h => h) (Or.inl ⟨by rfl, fun W hW => by rfl⟩) h0 ?_
                try simp only [Act.put, List.getElem?_toArray, List.getElem_toArray, List.getElem_cons_zero, List.getElem_cons_succ, List.setIfInBounds_toArray, List.set_cons_zero, List.set_cons_succ]
                refine wpAnyH_take (i := 4) (v := .int .i64 0) rfl (by kernel_rfl) (by kernel_rfl) (by kernel_rfl) (fun _ _ _ h => h) (Or.inl ⟨by rfl, fun W hW => by rfl⟩) h0 ?_
                try simp only [Act.put, List.getElem?_toArray, List.getElem_toArray, List.getElem_cons_zero, List.getElem_cons_succ, List.setIfInBounds_toArray, List.set_cons_zero, List.set_cons_succ]
                refine wpAnyH_done (by kernel_rfl) ?_ _
                refine NoPanic.normal ?_
                clear hY hHz hFz hRz h0 h3 HYz
                go_wp2_with fail
                (try simp only [Exit.inBlock, Exit.then])
                refine postM_mark rfl e1 (res_ctt rfl _ _ (w.heap.size + 1) _ (leN A5 l.q.length c5 ({ l with s := (s0 : Int), o := false } : LE)) _ _ rfl e2 Try.underlying39 rfl le_size) ?_
                exact PollPost.yes HE2.out rfl rfl e3 (e4) rfl e5
              | true =>
                rw [hlo] at c4
                have HE2 : Hid (pollE l now = ({ l with s := (s0 : Int), o := false }, [⟨false, 0, l.x, []⟩], 0)) := Lib.hid (by rw [HE.out, if_pos hlo])
                have Hown := Lib.hid hY.row.own
                have hV1 := hY.z.size
                have hv8 := hY.fr
                have Hne8 := Lib.hid (fun e => by have := (own_lt hY.row.own _ e).1; omega : (Value.slice A6 0 c6).ownBlock ≠ some W5.heap.size)
                have Howed := Lib.hid (fun A7 c7 W5 W9 => hY.owed (A7 := A7) (c7 := c7) (W5 := W5) (W9 := W9) ⟨⟨false, 0, l.x, []⟩, none, 0⟩ rfl (fun _ => rfl) (Nat.zero_le _))
                go_wp2_with (first | (at_builtin; refine app_own _ rfl (.tmp 55) (.tmp 59) 35 rfl w1.heap.size 24 (.agg #[.bool false, .int .i64 0, .int .i64 0, .slice none 0 0]) 4 48 Try.underlying35 info_fr rfl (by decide) (by decide) (.slice A6 0 c6) 0 (flatF []) rfl (Hown.out.alloc _) (some ⟨V1.heap.size, 0, none⟩) 1 1 [.bool false, .int .i64 0, .int .i64 l.x, .slice none 0 0] rfl rfl (fun e => by cases e) (RdC.new V1 #[.bool false, .int .i64 0, .int .i64 l.x, .slice none 0 0] 24 (0, 0)) (by simp [Value.oneCell']) (by omega) (by simp; omega) ?_; intro v7 W7 ho7 hg7 hat7; have k7 := blk_grown hg7 (alloc_blk _ hv8) Hne8.out; obtain ⟨g7, c7, rfl⟩ := ownsRow_succ ho7) | (refine wpList_store_field rfl 35 (.tmp 8) (.tmp 60) rfl W5.heap.size 0 (.slice (some ⟨g7, 0, none⟩) (0 + 1) c7) rfl rfl rfl 35 _ k7 (by simp) (by kernel_rfl) ?_; intro W9 h9 u9; have HY9 := Howed.out (some ⟨g7, 0, none⟩) c7 W7 W9 ho7 hg7 u9 h9; have HG9 := HY9.le; clear h9 ho7 hg7 hat7) | (refine wpList_store_field rfl 4 (.tmp 61) (.const (.bool false)) rfl w.heap.size 4 (.bool false) rfl rfl rfl 39 _ HG9 (by simp [leN]) (by kernel_rfl) ?_; intro Wz hz uz; have HYz := HY9.upd (L' := { ({ l with s := (s0 : Int) } : LE) with o := false }) uz hz; clear hz))
                clear Howed k7 Hne8 hv8 Hown
                obtain ⟨A6', hA6'⟩ : ∃ A6', some (⟨g7, 0, none⟩ : Addr) = A6' := ⟨_, rfl⟩
                have hHz := HYz.le
                have hFz := HYz.fr
                have hRz := HYz.res
                refine wp_region_noPanic ?_
                refine wp_region_held_drew (S := R22 (w.heap.size + 1) Wz) (by kernel_rfl) (R22.start hRz rfl) (fun h0 => ?_)
                refine wpAnyH_take (i := 0) (v := .agg (leN A5 l.q.length c5 ({ l with s := (s0 : Int), o := false } : LE))) rfl (by kernel_rfl) (by kernel_rfl) (by kernel_rfl) (fun _ _ _ h => h) (yieldsIf_load_blk (by rfl) 39 (.tmp 2) rfl w.heap.size rfl 39 _ (0, 0) _ (fun W h => (h.other _ (blk_lt hHz) (by omega)).trans hHz) Try.underlying39 rfl le_size) h0 ?_
                try simp only [Act.put, List.getElem?_toArray, List.getElem_toArray, List.getElem_cons_zero, List.getElem_cons_succ, List.setIfInBounds_toArray, List.set_cons_zero, List.set_cons_succ]
                refine wpAnyH_take (i := 1) (v := .slice (some ⟨g7, 0, none⟩) 1 c7) rfl (by kernel_rfl) (by kernel_rfl) (by kernel_rfl) (fun _ _ _ h => h) (Or.inl ⟨by rfl, fun W hW => by have hz : W.cell? ⟨W5.heap.size, 0, none⟩ = some (.slice (some ⟨g7, 0, none⟩) 1 c7) := hW.old hFz (by omega) rfl; go_simp⟩) h0 ?_
                try simp only [Act.put, List.getElem?_toArray, List.getElem_toArray, List.getElem_cons_zero, List.getElem_cons_succ, List.setIfInBounds_toArray, List.set_cons_zero, List.set_cons_succ]
                refine wpAnyH_ready (rs := [2]) (by kernel_rfl) (by simp) ?_
                refine AllReadyH.cons rfl (fun K hK => ?_) AllReadyH.nil
                rw [if_pos (by rfl)]
                refine wp_store_row 39 (.tmp 4) (.tmp 62) rfl (w.heap.size + 1) (leN A5 l.q.length c5 ({ l with s := (s0 : Int), o := false } : LE)) rfl rfl 39 _ (show Wz.drew.heap[w.heap.size + 1]? = _ from hRz) le_size rfl (le_one _ _ _ _) ?_
                obtain ⟨e1, e2, e3, e4, e5⟩ := poll_end HYz (leN A5 l.q.length c5 ({ l with s := (s0 : Int), o := false } : LE)) hB1 (Nat.le_refl _) HQL.out (Nat.le_refl _) hsz
                rw [hs9] at e1 e2 e3 e4 e5
                refine hK.out _ _ (h0.row _ rfl ⟨_, (show Wz.drew.heap[w.heap.size + 1]? = _ from hRz)⟩) (fun h3 => ?_)
                clear hK h0
                try simp only [Act.put, List.getElem?_toArray, List.getElem_toArray, List.getElem_cons_zero, List.getElem_cons_succ, List.setIfInBounds_toArray, List.set_cons_zero, List.set_cons_succ]
                have h0 := h3
                refine wpAnyH_take (i := 3) (v := .slice (some ⟨g7, 0, none⟩) 1 c7) rfl (by kernel_rfl) (by kernel_rfl) (by kernel_rfl) (fun _ _ _ h => h) (Or.inl ⟨by rfl, fun W hW => by rfl⟩) h0 ?_
                try simp only [Act.put, List.getElem?_toArray, List.getElem_toArray, List.getElem_cons_zero, List.getElem_cons_succ, List.setIfInBounds_toArray, List.set_cons_zero, List.set_cons_succ]
                refine wpAnyH_take (i := 4) (v := .int .i64 0) rfl (by kernel_rfl) (by kernel_rfl) (by kernel_rfl) (fun _ _ _ h => h) (Or.inl ⟨by rfl, fun W hW => by rfl⟩) h0 ?_
                try simp only [Act.put, List.getElem?_toArray, List.getElem_toArray, List.getElem_cons_zero, List.getElem_cons_succ, List.setIfInBounds_toArray, List.set_cons_zero, List.set_cons_succ]
                refine wpAnyH_done (by kernel_rfl) ?_ _
                refine NoPanic.normal ?_
                clear hY hHz hFz hRz h0 h3 HYz
                go_wp2_with fail
                (try simp only [Exit.inBlock, Exit.then])
                refine postM_mark rfl e1 (res_ctt rfl _ _ (w.heap.size + 1) _ (leN A5 l.q.length c5 ({ l with s := (s0 : Int), o := false } : LE)) _ _ rfl e2 Try.underlying39 rfl le_size) ?_
                exact PollPost.yes HE2.out rfl rfl e3 (e4) rfl e5
  · have Hno := Lib.hid (fun W' (hb : Below w.heap.size w W') => PollPost.no (now := now) (poll_chk hk) hb)
    have hk0 : ((chk l : Int) != 0) = true := by simpa using hk
    generalize chk l = k at *
    clear hk
    go_wp2_with (first | (refine wpList_store_row rfl 39 (.tmp 4) (.tmp 14) rfl (w.heap.size + 1) (leCells none 0 leZ) rfl rfl 39 _ hR le_size rfl (le_one none 0 0 leZ) ?_))
    (try simp only [Exit.inBlock, Exit.then])
    refine postM_ret (res_ctt rfl _ _ (w.heap.size + 1) _ (leCells none 0 leZ) _ _ rfl (setRow_heap _ _ _ _ _ _ hR) Try.underlying39 rfl le_size) rfl ?_
    exact (Hno.out _ (below_setRow hB (Nat.le_add_right _ 1) _))
end Go.Proofs.Ytpeahilkmlffkaa
