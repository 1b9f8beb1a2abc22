import Derived.Test.YtpeahilkmlffkaaQCheck
set_option linter.unusedSimpArgs false
set_option linter.unusedVariables false
namespace Go.Proofs.Ytpeahilkmlffkaa
open Go Go.RowKit Hd Go.Mem

theorem res_ct {P : Program} {fn : Func} {p u : Tmp} {ty : TypeId} (h : fn.results = #[.cell p ty, .tmp u]) (tmps : Array Value) (w : World) (g : Nat) (t : TypeId) (cs : Array Value) (fr : Nat × Nat) (d : TypeDesc)
    (hp : tmps.getD p undef = .pointer (some ⟨g, 0, none⟩)) (hg : w.heap[g]? = some (.cells cs t fr))
    (hu : P.underlying ty = some d) (hd : (match d with | .struct _ | .array _ _ => true | _ => false) = true) (hi : (P.info? ty).map (·.size) = some cs.size) :
    (results fn tmps).run P w = .ok (.tuple #[.agg cs, tmps.getD u undef]) w := by
  have hp' : tmps[p]?.getD undef = .pointer (some ⟨g, 0, none⟩) := by simpa using hp
  simp [results, h, hp', asAddr, run_loadVar_row w g t ty cs fr d hg hu hd hi, Sem.run_bind, Result.andThen]
theorem res_ctt {P : Program} {fn : Func} {p u v : Tmp} {ty : TypeId} (h : fn.results = #[.cell p ty, .tmp u, .tmp v]) (tmps : Array Value) (w : World) (g : Nat) (t : TypeId) (cs : Array Value) (fr : Nat × Nat) (d : TypeDesc)
    (hp : tmps.getD p undef = .pointer (some ⟨g, 0, none⟩)) (hg : w.heap[g]? = some (.cells cs t fr))
    (hu : P.underlying ty = some d) (hd : (match d with | .struct _ | .array _ _ => true | _ => false) = true) (hi : (P.info? ty).map (·.size) = some cs.size) :
    (results fn tmps).run P w = .ok (.tuple #[.agg cs, tmps.getD u undef, tmps.getD v undef]) w := by
  have hp' : tmps[p]?.getD undef = .pointer (some ⟨g, 0, none⟩) := by simpa using hp
  simp [results, h, hp', asAddr, run_loadVar_row w g t ty cs fr d hg hu hd hi, Sem.run_bind, Result.andThen]
/-- a frame -/
structure Fr where
  d : Bool
  s : Int
  a : Int
  p : List UInt8
def frCells (A : Option Addr) (c : Nat) (f : Fr) : Array Value := #[.bool f.d, .int .i64 f.s, .int .i64 f.a, .slice A f.p.length c]
def okF (f : Fr) : Bool := [f.s, f.a].all okSeq && shortB f.p && (f.d || (f.s == 0 && ((f.p.length : Int) == 0)))
def leZ : LE := ⟨[], 0, 0, 0, false, 0⟩
def newE : LE := ⟨[], 0, 0, 0, false, -1⟩
theorem hneL {W : World} {base : Nat} {e : TypeId} {v : Value} {n : Nat} {vs : List Value} (h : W.ownsRow base e 1 v n vs) (k : Nat) (hk : k < base) : v.ownBlock ≠ some k := fun e => by
  have := (h.lt k e).1
  omega
theorem le_size : (Try.prog.info? 39).map (·.size) = some 6 := by kernel_rfl
theorem new_any (w : World) : Calls Try.prog 25 #[] w fun e w' => e = .returned (.agg (leCells none 0 newE)) ∧ Below w.heap.size w w' := by
  go_enter Try.func25, Try.ntmps25
  go_wp2
  exact bodyPost_ret (results_cell_row rfl _ _ _ _ _ _ _ rfl (heap_alloc_new _ _) Try.underlying39 rfl le_size) rfl ⟨rfl, fw_new _ _⟩
def sendE (l : LE) (p : List UInt8) : LE × Nat :=
  if chk l ≠ 0 then (leZ, chk l) else if 256 < p.length ∨ l.q.length = 64 then (leZ, 2) else ({ l with q := l.q ++ [p] }, 0)
theorem send_err {l : LE} {p : List UInt8} (h : chk l ≠ 0) : sendE l p = (leZ, chk l) := by unfold sendE; rw [if_pos h]
theorem send_lim {l : LE} {p : List UInt8} (h : chk l = 0) (h2 : 256 < p.length ∨ l.q.length = 64) : sendE l p = (leZ, 2) := by unfold sendE; rw [if_neg (by simp [h]), if_pos h2]
theorem send_ok {l : LE} {p : List UInt8} (h : chk l = 0) (h2 : ¬ (256 < p.length ∨ l.q.length = 64)) : sendE l p = ({ l with q := l.q ++ [p] }, 0) := by unfold sendE; rw [if_neg (by simp [h]), if_neg h2]
theorem chk_zero {l : LE} (h : chk l = 0) : okB l = true ∧ okS l = true ∧ okD l = true ∧ l.q.length ≤ 64 := by
  unfold chk at h
  cases hB : okB l <;> cases hS : okS l <;> cases hD : okD l <;> simp [hB, hS, hD] at h ⊢
  omega
theorem okS_short {l : LE} (h : okS l = true) : ∀ i (hi : i < l.q.length), l.q[i].length ≤ 100000 := by
  intro i hi
  unfold okS at h
  simp only [Bool.and_eq_true, List.all_eq_true] at h
  have := h.2 l.q[i] (List.getElem_mem hi)
  unfold shortB at this
  simp at this
  omega
/-- a block of cells stands through whatever writes elsewhere -/
theorem blk_below {w W : World} {g : Nat} {o : Obj} (h : w.heap[g]? = some o) (hb : Below w.heap.size w W) : W.heap[g]? = some o := (hb.block g (blk_lt h)).trans h
theorem cellOf {W : World} {g i : Nat} {cs : Array Value} {t : Nat} {v : Value} (h : W.heap[g]? = some (.cells cs t (0, 0))) (hv : cs[i]? = some v) : W.cell? ⟨g, i, none⟩ = some v := by
  rw [cell_of_row _ _ _ _ _ _ h]; exact hv
def leN (A : Option Addr) (n c : Nat) (l : LE) : Array Value := #[.slice A n c, .int .i64 l.b, .int .i64 l.s, .int .i64 l.x, .bool l.o, .int .i64 l.d]
theorem le_one (A : Option Addr) (n c : Nat) (l : LE) : (leN A n c l).all (fun x => x.oneCell') = true := by
  simp [leN, Value.oneCell']
def SendPost (l : LE) (p : List UInt8) (w : World) (e : Ending) (w' : World) : Prop :=
  ∃ A'' c'', e = .returned (.tuple #[.agg (leCells A'' c'' (sendE l p).1), .int .i64 ((sendE l p).2 : Int)]) ∧ InL w' A'' c'' (sendE l p).1.q ∧ Below w.heap.size w w'
theorem SendPost.no {l : LE} {p : List UInt8} {w W : World} {k : Nat} (h : sendE l p = (leZ, k)) (hb : Below w.heap.size w W) : SendPost l p w (.returned (.tuple #[.agg (leCells none 0 leZ), .int .i64 (k : Int)])) W := by
  unfold SendPost
  rw [h]
  exact ⟨none, 0, rfl, ⟨⟨[], .inl rfl, trivial⟩, fun _ => rfl, Nat.le_refl _, Nat.zero_le _⟩, hb⟩
theorem SendPost.yes {l : LE} {p : List UInt8} {w W : World} {A : Option Addr} {n c base : Nat} (h : sendE l p = ({ l with q := l.q ++ [p] }, 0)) (hn : n = l.q.length + 1) (hb : Below w.heap.size w W) (hr : RowB W base 22 (.slice A n c) (l.q ++ [p])) : SendPost l p w (.returned (.tuple #[.agg (leN A n c l), .int .i64 0])) W := by
  subst hn
  obtain ⟨A', c', e, h1, h2, h3, h4⟩ := RowB.form hr
  have e2 : l.q.length + 1 = (l.q ++ [p]).length := by simp
  unfold SendPost
  rw [h]
  simp only [Value.slice.injEq] at e
  obtain ⟨rfl, _, rfl⟩ := e
  exact ⟨A, c, by unfold leN leCells; rw [e2]; rfl, ⟨h4, h1, h2, h3⟩, hb⟩
set_option maxRecDepth 100000 in
set_option maxHeartbeats 800000 in
theorem send_any (A A' : Option Addr) (c c' : Nat) (l : LE) (p : List UInt8) (w : World) (hq : l.q.length ≤ 140737488351232) (hp : p.length ≤ 140737488351232) (hr : RdL w A l.q) (hr' : Rd w A' p) (hA' : A' = none → c' = 0) :
    Calls Try.prog 17 #[.agg (leCells A c l), .slice A' p.length c'] w (SendPost l p w) := by
  have Hr := Lib.hid hr
  have Hr' := Lib.hid hr'
  have HA' := Lib.hid hA'
  clear hr hr' hA'
  have HC := Lib.hid (fun W (h : RdL W A l.q) => check_any A c l W hq h)
  go_enter Try.func17, Try.ntmps17
  go_wp2_with (first | (refine wpList_load_row rfl 39 _ rfl w.heap.size rfl 39 (leCells A c l) (0, 0) _ (blk_second _ _ _) Try.underlying39 rfl le_size ?_))
  have hB0 : Below w.heap.size w ((w.alloc (.cells (leCells A c l) 39)).alloc (.cells (leCells none 0 leZ) 39)) := fw_al (fw_new _ _) _
  refine (HC.out _ (Hr.out.below hB0)).mono ?_
  rintro e W ⟨rfl, hb⟩
  have hP := blk_below (blk_second w (.cells (leCells A c l) 39) (.cells (leCells none 0 leZ) 39)) hb
  have hR := blk_below (heap_alloc2_new w (.cells (leCells A c l) 39) (.cells (leCells none 0 leZ) 39)) hb
  have hB := fw_trans hB0 hb
  have hsz : w.heap.size + 2 ≤ W.heap.size := by have := hb.size; simpa using this
  clear HC hB0 hb
  by_cases hk : chk l = 0
  · obtain ⟨_, hS, _, h64⟩ := chk_zero hk
    have Hshort := Lib.hid (okS_short hS)
    have hc0 : W.cell? ⟨w.heap.size, 0, none⟩ = some (.slice A l.q.length c) := cellOf hP rfl
    clear hS
    by_cases h256 : 256 < p.length
    · have Hno := Lib.hid (fun W' (hb : Below w.heap.size w W') => SendPost.no (send_lim hk (.inl h256)) hb)
      have h1b : decide ((p.length : Int) ≤ 256) = false := by simp; omega
      rw [hk]
      clear hk
      go_wp2_with fail
      refine (short_any A' p.length c' W).mono ?_
      rw [h1b]
      rintro e W2 ⟨rfl, rfl⟩
      go_wp2_with (refine wpList_store_row rfl 39 (.tmp 4) (.tmp 22) rfl (w.heap.size + 1) (leCells none 0 leZ) rfl rfl 39 _ hR le_size rfl (le_one none 0 0 leZ) ?_)
      (try simp only [Exit.inBlock, Exit.then])
      refine bodyPost_ret (res_ct rfl _ _ (w.heap.size + 1) _ (leCells none 0 leZ) _ _ rfl (setRow_heap _ _ _ _ _ _ hR) Try.underlying39 rfl le_size) rfl ?_
      exact Hno.out _ (below_setRow hB (Nat.le_add_right _ 1) _)
    · have h1b : decide ((p.length : Int) ≤ 256) = true := by simp; omega
      by_cases h64e : l.q.length = 64
      · have Hno := Lib.hid (fun W' (hb : Below w.heap.size w W') => SendPost.no (send_lim (p := p) hk (.inr h64e)) hb)
        have h2b : ((l.q.length : Int) == 64) = true := by simp; omega
        rw [hk]
        clear hk h64e
        go_wp2_with fail
        refine (short_any A' p.length c' W).mono ?_
        rw [h1b]
        rintro e W2 ⟨rfl, rfl⟩
        go_wp2_with (refine wpList_store_row rfl 39 (.tmp 4) (.tmp 22) rfl (w.heap.size + 1) (leCells none 0 leZ) rfl rfl 39 _ hR le_size rfl (le_one none 0 0 leZ) ?_)
        (try simp only [Exit.inBlock, Exit.then])
        refine bodyPost_ret (res_ct rfl _ _ (w.heap.size + 1) _ (leCells none 0 leZ) _ _ rfl (setRow_heap _ _ _ _ _ _ hR) Try.underlying39 rfl le_size) rfl ?_
        exact Hno.out _ (below_setRow hB (Nat.le_add_right _ 1) _)
      · have Hok := Lib.hid (send_ok (p := p) hk (by omega))
        have h2b : ((l.q.length : Int) == 64) = false := by rw [beq_eq_false_iff_ne]; omega
        rw [hk]
        clear hk
        go_wp2_with fail
        refine (short_any A' p.length c' W).mono ?_
        rw [h1b]
        rintro e W2 ⟨rfl, rfl⟩
        go_wp2_with fail
        refine (qclone_any A c l.q W (by omega) Hshort.out (Hr.out.below hB)).mono ?_
        rintro e W3 ⟨v3, rfl, hR3, hb3⟩
        have HR3 := Lib.hid hR3
        have hP3 := blk_below hP hb3
        have hRr3 := blk_below hR hb3
        have hB3 := fw_trans hB hb3
        clear hR3
        go_wp2_with fail
        refine (payload_any A' c' p W3 hp (Hr'.out.below hB3) HA'.out).mono ?_
        rintro e W4 ⟨v4, rfl, hO4, hb4⟩
        obtain ⟨A4, c4, rfl, hA4, hc4, hm4, _⟩ := own_form hO4
        have hR4 := own_rdp' hO4 (Nat.le_refl _)
        have hP4 := blk_below hP3 hb4
        have hRr4 := blk_below hRr3 hb4
        have hB4 := fw_trans hB3 hb4
        obtain ⟨vs, ho, hE⟩ := HR3.out.below hb4
        have hlt2 : ∀ b, v3.ownBlock = some b → b < W3.heap.size := ownBlock_lt (Classical.choose_spec HR3.out).1
        have hEl : Els (fun b => W.heap.size ≤ b ∧ v3.ownBlock ≠ some b) W4 [.slice A4 p.length c4] [p] := ⟨⟨A4, c4, rfl, hc4, hm4, hA4, hR4.imp fun b hb _ => ⟨Nat.le_trans hb3.size hb, fun e => by have := hlt2 b e; omega⟩⟩, trivial⟩
        have HA4 := Lib.hid hA4
        have Ho := Lib.hid ho
        have HE := Lib.hid hE
        have HEl := Lib.hid hEl
        have hbd : (l.q.length + 1) * 24 ≤ 140737488355328 := by omega
        have hbase : W.heap.size ≤ W4.heap.size + 1 := by have := hb3.size; have := hb4.size; omega
        have hn1 : v3.ownBlock ≠ some w.heap.size := hneL ho _ (by omega)
        have hn2 : v3.ownBlock ≠ some (w.heap.size + 1) := hneL ho _ (by omega)
        clear hA4 ho hE hEl hR4 hlt2 hO4 hP hR hP3 hRr3
        go_wp2_with (first | (at_builtin; refine app_own _ rfl (.tmp 25) (.tmp 28) 37 rfl W.heap.size 22 (.slice none 0 0) 1 24 Try.underlying37 info_sl rfl (by decide) (by decide) v3 l.q.length vs rfl (own_below Ho.out (fw_new _ _)) (some ⟨W4.heap.size, 0, none⟩) 1 1 [.slice A4 p.length c4] rfl rfl (fun e => by cases e) (RdC.new _ _ _ _) (fun u hu => by simp only [List.mem_singleton] at hu; subst hu; rfl) hbd (by simpa using hbase) ?_; intro v5 W5 ho5 hg5 hat5; have hRB5 := Lib.hid (RowB.pushed (HE.out.move (fun b _ hl => heap_alloc_old _ _ hl) (fun _ h _ => h)) (HEl.out.move (fun b _ hl => heap_alloc_old _ _ hl) (fun _ h _ => h)) (by simp) ho5 hg5 hat5 : RowB W5 W.heap.size 22 v5 (l.q ++ [p])); have hB5 := (fw_al hB4 (.cells #[.slice A4 p.length c4] 22)).grown hg5 (fw_al hB4 _).size (fun k hk => Nat.le_trans (Nat.le_trans (Nat.le_add_right _ 2) hsz) (own_base Ho.out k hk)); obtain ⟨A5, c5, rfl, hA5, hc5', hm5, hR5⟩ := own_form ho5; have HA5 := Lib.hid hA5; clear hA5 hR5; have hP5 := blk_grown hg5 (alloc_blk _ hP4) hn1; have hRr5 := blk_grown hg5 (alloc_blk _ hRr4) hn2; have hf5 := frozen_of_row _ _ 0 _ _ hP5; have hc5 : W5.cell? ⟨w.heap.size, 0, none⟩ = some (.slice A l.q.length c) := cellOf hP5 rfl; have hP6 : (W5.setCell ⟨w.heap.size, 0, none⟩ (.slice A5 (l.q.length + 1) c5)).heap[w.heap.size]? = some (.cells (leN A5 (l.q.length + 1) c5 l) 39 (0, 0)) := heap_setCell_same _ _ _ _ _ _ hP5; have hR6 : (W5.setCell ⟨w.heap.size, 0, none⟩ (.slice A5 (l.q.length + 1) c5)).heap[w.heap.size + 1]? = some (.cells (leCells none 0 leZ) 39 (0, 0)) := (heap_setCell_other _ _ _ _ (Nat.succ_ne_self _)).trans hRr5) | (refine wpList_load_row rfl 39 (.tmp 2) rfl w.heap.size rfl 39 (leN A5 (l.q.length + 1) c5 l) (0, 0) _ hP6 Try.underlying39 rfl le_size ?_) | (refine wpList_store_row rfl 39 (.tmp 4) (.tmp 31) rfl (w.heap.size + 1) (leN A5 (l.q.length + 1) c5 l) rfl rfl 39 _ hR6 le_size rfl (le_one _ _ _ _) ?_))
        (try simp only [Exit.inBlock, Exit.then])
        refine bodyPost_ret (res_ct rfl _ _ (w.heap.size + 1) _ (leN A5 (l.q.length + 1) c5 l) _ _ rfl (setRow_heap _ _ _ _ _ _ hR6) Try.underlying39 rfl le_size) rfl ?_
        refine SendPost.yes Hok.out rfl (below_setRow (hB5.setCell (Nat.le_refl _) _) (Nat.le_add_right _ 1) _) (hRB5.out.move fun k hk _ => ?_)
        rw [setRow_other _ _ _ _ (by omega), heap_setCell_other _ _ _ _ (by show k ≠ w.heap.size; omega)]
  · have Hno := Lib.hid (fun W' (hb : Below w.heap.size w W') => SendPost.no (p := p) (send_err hk) hb)
    have hk0 : ((chk l : Int) != 0) = true := by simpa using hk
    generalize chk l = k at *
    clear hk
    go_wp2_with (first | (refine wpList_store_row rfl 39 (.tmp 4) (.tmp 11) rfl (w.heap.size + 1) (leCells none 0 leZ) rfl rfl 39 _ hR le_size rfl (le_one none 0 0 leZ) ?_))
    (try simp only [Exit.inBlock, Exit.then])
    refine bodyPost_ret (res_ct rfl _ _ (w.heap.size + 1) _ (leCells none 0 leZ) _ _ rfl (setRow_heap _ _ _ _ _ _ hR) Try.underlying39 rfl le_size) rfl ?_
    exact Hno.out _ (below_setRow hB (Nat.le_add_right _ 1) _)
end Go.Proofs.Ytpeahilkmlffkaa
