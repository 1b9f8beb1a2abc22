import Derived.Test.YtaoiklfkkipcaaaJScan
set_option linter.unusedSimpArgs false
set_option linter.unusedVariables false
namespace Go.Proofs.Ytaoiklfkkipcaaa
open Go Go.RowKit Hd Go.Mem Go.Shelf

attribute [local go_sem] Oper.semAt_some

def flatR (rs : List Rc) : List Value := rs.flatMap fun r => (rcCells r).toList
theorem flatR_snoc (rs : List Rc) (r : Rc) : flatR (rs ++ [r]) = flatR rs ++ (rcCells r).toList := by simp [flatR]
theorem info_rc : (Try.prog.info? 38).map (fun i => (i.zero, i.size, i.bytes)) = some (some (.agg #[.int .i64 0, .int .i64 0, .int .i64 0, .string ⟨#[]⟩, .int .i64 0, .int .i64 0, .int .i64 0, .int .i64 0]), 8, 72) := by kernel_rfl
theorem flatR_len (rs : List Rc) : (flatR rs).length = rs.length * 8 := by
  induction rs with
  | nil => rfl
  | cons r t ih => simp only [flatR, List.flatMap_cons, List.length_append, List.length_cons] at ih ⊢; rw [ih]; simp [rcCells]; omega
theorem records_stops (md : Nat) (hmd : 1 ≤ md) (S : Nat → Prop) (A : Option Addr) (c : Nat) (l : List UInt8) (hl : l.length ≤ 140737488351232) (hc : l.length ≤ c) (bb : Nat) (hSb : S bb) (w : World)
    (hbb : w.cell? ⟨bb, 0, none⟩ = some (.slice A l.length c)) (hr : RdP S w A (l.map B)) :
    SeqStopsK Fence.wide md Try.prog 71 #[.pointer (some ⟨bb, 0, none⟩)] recEnc (KpS S) (fun ys => ys = recsP l) (fun pre => pre <+: recsP l) l.length w :=
  fun ly J Jx W hW hJ _ hY h0 => records1_in md hmd ly S A c l hl hc bb hSb J Jx (fun s W W' h hb => hJ s W W' none h (grownBy_below hb) (fun r e => by cases e)) hY W
    ((hW.cell (p := ⟨bb, 0, none⟩) (World.block_lt_of_cell? w _ hbb)).trans hbb) (hr.below hW) h0
/-- what stands between two rounds of scan's loop -/
structure JI (w : World) (A : Option Addr) (c : Nat) (l : List UInt8) (pre : List (Rc × Nat)) (W : World) : Prop where
  below : Below w.heap.size w W
  size : w.heap.size + 3 ≤ W.heap.size
  bx : W.heap[w.heap.size + 2]? = some (.cells #[.slice A l.length c] 25 (0, 0))
  used : W.heap[w.heap.size + 1]? = some (.cells #[.int .i64 (endOf pre : Int)] 3 (0, 0))
  row : ∃ v, W.heap[w.heap.size]? = some (.cells #[v] 22 (0, 0)) ∧ W.ownsRow (w.heap.size + 3) 38 8 v pre.length (flatR (pre.map (·.1)))
theorem JI.from (w : World) (A : Option Addr) (c : Nat) (l : List UInt8) (N : Nat) (hN : w.heap.size + 3 ≤ N) : OwnFrom N (JI w A c l) := by
  intro s W W' row h hg hr
  have hk : ∀ k, k < N → k < W.heap.size → W'.heap[k]? = W.heap[k]? := fun k hk hl => hg.block k hl fun e => by
    have := (hr k e.symm).1
    omega
  have hs := h.size
  refine ⟨h.below.trans ⟨hg.os, hg.tape, hg.output, hg.size, fun k hk' => hk k (by omega) (by omega)⟩, Nat.le_trans h.size hg.size, ?_, ?_, ?_⟩
  · rw [hk _ (by omega) (by omega)]; exact h.bx
  · rw [hk _ (by omega) (by omega)]; exact h.used
  · obtain ⟨v, h1, h2⟩ := h.row
    refine ⟨v, by rw [hk _ (by omega) (by omega)]; exact h1, h2.1, ?_⟩
    rcases h2.2 with h3 | ⟨g, cap, cur, k1, k2, k3, k4⟩
    · exact .inl h3
    · refine .inr ⟨g, cap, cur, k1, k2, ?_, k4⟩
      rw [hg.block g (blk_lt k3) (fun e => by obtain ⟨_, o, ho, hn⟩ := hr g e.symm; rw [k3] at ho; cases ho; cases hn)]
      exact k3
/-- a record's variable in a round -/
structure Ax (act : Rc × Nat → Nat → Act) (x : Rc × Nat) (a : Act) (W : World) : Prop where
  ex : ∃ b, a = act x b ∧ W.heap[b]? = some (.cells (rcCells x.1) 38 (0, 0))
theorem Ax.from (act : Rc × Nat → Nat → Act) (x : Rc × Nat) (a : Act) (N : Nat) : OwnFrom N (fun (_ : Unit) W => Ax act x a W) := by
  intro s W W' row h hg hr
  obtain ⟨b, h1, h2⟩ := h.ex
  refine ⟨b, h1, ?_⟩
  rw [hg.block b (blk_lt h2) (fun e => by obtain ⟨_, o, ho, hn⟩ := hr b e.symm; rw [h2] at ho; cases ho; cases hn)]
  exact h2
/-- the round behind a record -/
theorem ji_push {w W W3 : World} {A : Option Addr} {c : Nat} {l : List UInt8} {pre : List (Rc × Nat)} {x : Rc × Nat} {v v' : Value} (h : JI w A c l pre W)
    (hv : W.heap[w.heap.size]? = some (.cells #[v] 22 (0, 0))) (ho : W.ownsRow (w.heap.size + 3) 38 8 v pre.length (flatR (pre.map (·.1))))
    (ho' : W3.ownsRow (w.heap.size + 3) 38 8 v' (pre.length + 1) (flatR (pre.map (·.1)) ++ (rcCells x.1).toList)) (hg : (W.alloc (.cells (rcCells x.1) 38)).grownBy W3 v.ownBlock) (N : Nat) :
    KeepsFrom N W ((W3.setCell ⟨w.heap.size, 0, none⟩ v').setCell ⟨w.heap.size + 1, 0, none⟩ (.int .i64 (x.2 : Int))) ∧
    KpS (fun k => k < w.heap.size ∨ k = w.heap.size + 2) W ((W3.setCell ⟨w.heap.size, 0, none⟩ v').setCell ⟨w.heap.size + 1, 0, none⟩ (.int .i64 (x.2 : Int))) ∧
    JI w A c l (pre ++ [x]) ((W3.setCell ⟨w.heap.size, 0, none⟩ v').setCell ⟨w.heap.size + 1, 0, none⟩ (.int .i64 (x.2 : Int))) := by
  have hs := h.size
  have hs2 : (W.alloc (.cells (rcCells x.1) 38)).heap.size = W.heap.size + 1 := by simp
  have hs3 := hg.size
  have hvl : ∀ k, v.ownBlock = some k → w.heap.size + 3 ≤ k ∧ k < W.heap.size := ho.lt
  have h3 : ∀ k, k < W.heap.size → v.ownBlock ≠ some k → W3.heap[k]? = W.heap[k]? := fun k hl hne => by
    rw [hg.block k (by omega) (fun e => hne e.symm), heap_alloc_old _ _ (by omega)]
  have hlow : ∀ k, k < w.heap.size + 3 → v.ownBlock ≠ some k := fun k hl e => by have := (hvl k e).1; omega
  have hk : ∀ k, k < W.heap.size → k ≠ w.heap.size + 1 → k ≠ w.heap.size → v.ownBlock ≠ some k → ((W3.setCell ⟨w.heap.size, 0, none⟩ v').setCell ⟨w.heap.size + 1, 0, none⟩ (.int .i64 (x.2 : Int))).heap[k]? = W.heap[k]? := fun k hl hne hne2 hne3 => by
    rw [heap_setCell_other _ _ _ _ hne, heap_setCell_other _ _ _ _ hne2, h3 k hl hne3]
  have hsz : ((W3.setCell ⟨w.heap.size, 0, none⟩ v').setCell ⟨w.heap.size + 1, 0, none⟩ (.int .i64 (x.2 : Int))).heap.size = W3.heap.size := by simp
  refine ⟨keeps_cells (by rw [hsz]; omega) fun k hl => ?_, ⟨by rw [hsz]; omega, fun k hS hl => hk k hl (by omega) (by omega) (hlow k (by omega))⟩, ?_, by rw [hsz]; omega, ?_, ?_, ?_⟩
  · by_cases e : k = w.heap.size + 1
    · subst e; exact .inr ⟨_, _, _, h.used⟩
    · by_cases e2 : k = w.heap.size
      · subst e2; exact .inr ⟨_, _, _, hv⟩
      · by_cases e3 : v.ownBlock = some k
        · rcases ho.2 with ⟨rfl, _⟩ | ⟨g, cap, cur, rfl, _, hg2, _⟩
          · cases e3
          · cases e3; exact .inr ⟨_, _, _, hg2⟩
        · exact .inl (hk k hl e e2 e3)
  · have hb3 : Below w.heap.size w W3 := (h.below.alloc (by omega) _).grown hg (by omega) (fun k e => by have := (hvl k e).1; omega)
    exact (hb3.setCell (by simp) _).setCell (by simp) _
  · rw [hk _ (by omega) (by omega) (by omega) (hlow _ (by omega))]; exact h.bx
  · have hu : (W3.setCell ⟨w.heap.size, 0, none⟩ v').heap[w.heap.size + 1]? = some (.cells #[.int .i64 (endOf pre : Int)] 3 (0, 0)) := by
      rw [heap_setCell_other _ _ _ _ (by simp), h3 _ (by omega) (hlow _ (by omega))]; exact h.used
    rw [heap_setCell_same _ _ _ _ _ _ hu, endOf_snoc]
    simp
  · have hv3 : W3.heap[w.heap.size]? = some (.cells #[v] 22 (0, 0)) := by rw [h3 _ (by omega) (hlow _ (by omega))]; exact hv
    refine ⟨v', ?_, ?_⟩
    · rw [heap_setCell_other _ _ _ _ (by simp), heap_setCell_same _ _ _ _ _ _ hv3]
      simp
    · rw [List.map_append, List.map_cons, List.map_nil, flatR_snoc, List.length_append]
      exact own_move ho' fun k hk1 _ => by rw [heap_setCell_other _ _ _ _ (by simp; omega), heap_setCell_other _ _ _ _ (by simp; omega)]
/-- the list that scan gives -/
def ScanP (l : List UInt8) (w : World) (e : Ending) (w' : World) : Prop :=
  ∃ v, e = .returned (.tuple #[v, .func (.func 54) #[] #[.pointer (some ⟨w.heap.size + 1, 0, none⟩)]]) ∧ w'.ownsRow w.heap.size 38 8 v (recsR l).length (flatR (recsR l)) ∧
    w'.heap[w.heap.size + 1]? = some (.cells #[.int .i64 (recsN l : Int)] 3 (0, 0)) ∧ Below w.heap.size w w'
theorem own_form8 {w : World} {b : Nat} {e : TypeId} {n : Nat} {v : Value} {xs : List Value} (h : w.ownsRow b e 8 v n xs) : ∃ A c, v = .slice A n c ∧ (A = none → c = 0) ∧ n ≤ c ∧ c ≤ maxLen := by
  rcases h.2 with ⟨rfl, rfl⟩ | ⟨g, cap, cur, rfl, h2, h3, h4, h5, h6⟩
  · exact ⟨none, 0, rfl, fun _ => rfl, Nat.le_refl _, Nat.zero_le _⟩
  · exact ⟨_, cap, rfl, (fun e => by cases e), h4, h5⟩
theorem postM_mark {n D : Nat} {P : Program} {fn : Func} {R : Ending → World → Prop} {a : Act} {w : World} {v : Value} (hd : a.defers = [{ target := .collected D, args := #[] }]) (hk : w.heap[D]? = some (.deferred (some [])))
    (hr : (results fn a.tmps).run P (w.putObj D (.deferred none)) = .ok v (w.putObj D (.deferred none))) (hR : R (.returned v) (w.putObj D (.deferred none))) : bodyPostM Fence.wide n P fn R .ret a w := by
  show LeavesInM Fence.wide n P fn a.tmps R a.defers .returning w
  rw [hd]
  exact ⟨by simp, .inl ⟨D, _, rfl, run_takeDeferred hk, ⟨v, hr, hR⟩⟩⟩
/-- where a round stands -/
def scanAct (g : Nat) (A : Option Addr) (n c : Nat) (x : Rc × Nat) (b : Nat) : Act :=
  { tmps := #[.slice A n c, undef, .pointer (some ⟨g, 0, none⟩), .nilFunc, .pointer (some ⟨g + 1, 0, none⟩), .pointer (some ⟨b, 0, none⟩), .int .i64 (x.2 : Int), .slice A n c, .func (.func 71) #[] #[.pointer (some ⟨g + 1 + 1, 0, none⟩)], .agg (rcCells x.1), .int .i64 (x.2 : Int), undef, undef, undef, undef, undef, undef, undef], defers := [] }
set_option maxRecDepth 100000 in
set_option maxHeartbeats 4000000 in
theorem jscan_any (A : Option Addr) (c : Nat) (l : List UInt8) (w : World) (hl : l.length ≤ 1000000000000) (hc : l.length ≤ c) (hr : Rd w A l) :
    Calls Try.prog 33 #[.slice A l.length c] w (ScanP l w) := by
  obtain ⟨i0, hi0, hz0, hz1, hz2⟩ := info_parts info_rc
  refine (callsIn_wide (n := 5)).1 ?_
  refine callsIn_of_wp_marks Try.func33 rfl trivial ?_ rfl
  simp only [Try.ntmps33, List.size_toArray, List.length_cons, List.length_nil, Nat.reduceAdd, Nat.reduceSub, Array.replicate_succ, Array.replicate_zero, List.push_toArray, List.append_toArray, List.nil_append, List.cons_append]
  have Hr := Lib.hid hr
  clear hr
  gi_wp2_with (first | (refine ⟨trivial, ?_⟩; gi_at_call 53; refine (callsIn_wide.2 (records_any A l.length c _)).mono ?_; rintro e W4 ⟨rfl, hW4⟩))
  have hS4 : W4.heap.size = w.heap.size + 3 := by rw [← hW4]; simp
  have hB4 : Below w.heap.size w W4 := by rw [← hW4]; exact fw_al (fw_al (fw_new _ _) _) _
  have hI0 : JI w A c l [] W4 := by
    refine ⟨hB4, by omega, ?_, ?_, .slice none 0 0, ?_, World.ownsRow_nil _ _ _ _⟩
    · rw [← hW4]
      have h := heap_alloc_new ((w.alloc (Obj.cells #[Value.slice none 0 0] 22)).alloc (Obj.cells #[Value.int IntKind.i64 0] 3)) (Obj.cells #[Value.slice A l.length c] 25)
      simpa only [World.size_alloc] using h
    · rw [← hW4]
      have h := heap_alloc_new (w.alloc (Obj.cells #[Value.slice none 0 0] 22)) (Obj.cells #[Value.int IntKind.i64 0] 3)
      simp only [World.size_alloc] at h
      exact alloc_blk _ h
    · rw [← hW4]
      exact alloc_blk _ (alloc_blk _ (heap_alloc_new _ _))
  clear hW4
  have hrS : RdP (fun k => k < w.heap.size ∨ k = w.heap.size + 2) W4 A (l.map B) := by
    have h1 : RdP (· < w.heap.size) w A (l.map B) := RdC.p Hr.out
    exact h1.move (fun b hb _ => hB4.block b hb) (fun b hb _ => .inl hb)
  refine wpIn_rangeFunc_ownH rfl (by omega) (gf := 71) (lb := #[.pointer (some ⟨w.heap.size + 1 + 1, 0, none⟩)]) rfl trivial (enters_of Try.func71 (by kernel_rfl) rfl)
    (records_stops (5 - 1) (by omega) (fun k => k < w.heap.size ∨ k = w.heap.size + 2) A c l (by omega) hc (w.heap.size + 1 + 1) (.inr rfl) W4 (blk_cell hI0.bx) hrS) KpS.trans
    (fun W ly o o' hly ho hcells hwalk => ⟨by simp, fun k hk hkl => World.putObj_heap_other (fun e => by rw [e] at hk; omega)⟩) (Below.refl _ _) (fun _ => rfl)
    (JI w A c l) (fun _ _ _ => False) (JI.from w A c l _ (by omega)) (fun _ _ _ _ _ hs _ _ => hs) hI0 (Ax (scanAct w.heap.size A l.length c)) (fun x a' => Ax.from _ x a' _) ?assign ?body ?done ?stop
  case assign =>
    intro ly pre x W K hIW hK
    simp only [recEnc]
    have HK := Lib.hid hK
    clear hK
    gi_wp2_with (first | (refine in_store_new rfl 38 (.tmp 5) (.tmp 9) rfl (rcCells x.1) rfl rfl 38 _ rc_size rfl (rc_one _) ?_; intro V hbV hvV))
    exact HK.out _ _ (keeps_cells hbV.size fun k hl => .inl (hbV.block k hl)) ⟨hbV.size, fun k _ hl => hbV.block k hl⟩ (JI.from w A c l _ (Nat.le_refl _) pre W V none hIW (grownBy_below hbV) (fun r e => by cases e)) ⟨_, rfl, hvV⟩
  case body =>
    rintro ly pre ⟨⟨ref, role, peer, payer, frm, to_, rate, units⟩, n⟩ a' W hly hloop hIW hAx hlt
    obtain ⟨b, rfl, hb⟩ := hAx.ex
    obtain ⟨v, hv, hrow⟩ := hIW.row
    have hb' : W.heap[b]? = some (.cells #[.int .i64 ref, .int .i64 role, .int .i64 peer, .string ⟨payer.toArray⟩, .int .i64 frm, .int .i64 to_, .int .i64 rate, .int .i64 units] 38 (0, 0)) := hb
    have hc1 := blk_cell hv
    have hc2 := blk_cell hIW.used
    have hf1 : W.frozen? ⟨w.heap.size, 0, none⟩ = false := frozen_of_row _ _ _ _ _ hv
    have hf2 : W.frozen? ⟨w.heap.size + 1, 0, none⟩ = false := frozen_of_row _ _ _ _ _ hIW.used
    have hs := hIW.size
    have hb63 : pre.length + 1 ≤ maxLen := by unfold maxLen; omega
    have hb64 : (pre.length + 1) * 72 ≤ 140737488355328 := by omega
    have Hrow := Lib.hid hrow
    have Hne := Lib.hid (fun (k : Nat) (hk : k < w.heap.size + 3) (e : v.ownBlock = some k) => (by have := (hrow.lt k e).1; omega : False))
    clear hrow hb hAx hloop
    unfold scanAct rcCells
    simp only
    gi_wp2_with (first | (refine in_load_row rfl 38 (.tmp 5) rfl b rfl 38 #[.int .i64 ref, .int .i64 role, .int .i64 peer, .string ⟨payer.toArray⟩, .int .i64 frm, .int .i64 to_, .int .i64 rate, .int .i64 units] (0, 0) _ hb' Try.underlying38 rfl rc_size ?_) | (gi_at_builtin; refine wpListIn_append_own_at _ rfl (.tmp 11) (.tmp 13) 22 rfl (w.heap.size + 3) 38 i0 (.agg #[.int .i64 0, .int .i64 0, .int .i64 0, .string ⟨#[]⟩, .int .i64 0, .int .i64 0, .int .i64 0, .int .i64 0]) 8 72 Try.underlying22 hi0 hz0 hz1 hz2 rfl (by decide) v pre.length (flatR (pre.map (·.1))) rfl (Hrow.out.alloc _) ⟨W.heap.size, 0, none⟩ 1 1 [.int .i64 ref, .int .i64 role, .int .i64 peer, .string ⟨payer.toArray⟩, .int .i64 frm, .int .i64 to_, .int .i64 rate, .int .i64 units] rfl rfl (RdC.cells (RdC.new W #[.int .i64 ref, .int .i64 role, .int .i64 peer, .string ⟨payer.toArray⟩, .int .i64 frm, .int .i64 to_, .int .i64 rate, .int .i64 units] 38 (0, 0))) (by simp [Value.oneCell']) hb63 hb64 (by simp; omega) ?_; intro v' W3 ho3 hg3 _ hat3; obtain ⟨g', cap', rfl⟩ := ownsRow_succ ho3; have k3 := blk_cell (blk_grown hg3 (alloc_blk _ hv) (Hne.out _ (by omega))); have k3f : W3.frozen? ⟨w.heap.size, 0, none⟩ = false := frozen_of_row _ _ _ _ _ (blk_grown hg3 (alloc_blk _ hv) (Hne.out _ (by omega))); have k4 := blk_cell (blk_grown hg3 (alloc_blk _ hIW.used) (Hne.out _ (by omega))); have k4f : W3.frozen? ⟨w.heap.size + 1, 0, none⟩ = false := frozen_of_row _ _ _ _ _ (blk_grown hg3 (alloc_blk _ hIW.used) (Hne.out _ (by omega)))))
    exact ji_push (x := (⟨ref, role, peer, payer, frm, to_, rate, units⟩, n)) hIW hv Hrow.out ho3 hg3 _
  case done =>
    rintro D ys W hD rfl hIW hK
    obtain ⟨v, hv, hrow⟩ := hIW.row
    obtain ⟨A', c', rfl⟩ : ∃ A' c', v = .slice A' (recsP l).length c' := by
      obtain ⟨A', c', e, _⟩ := own_form8 hrow
      exact ⟨A', c', e⟩
    have hc1 := blk_cell hv
    have hf1 : W.frozen? ⟨w.heap.size, 0, none⟩ = false := frozen_of_row _ _ _ _ _ hv
    have hs := hIW.size
    gi_wp2
    (try simp only [Exit.inBlock, Exit.then])
    have hkD : ∀ k, k ≠ D → ((W.setCell ⟨w.heap.size, 0, none⟩ (.slice A' (recsP l).length c')).putObj D (.deferred none)).heap[k]? = W.heap[k]? := fun k hkD => by
      rw [World.putObj_heap_other hkD]
      by_cases e0 : k = w.heap.size
      · subst e0
        rw [heap_setCell_same _ _ _ _ _ _ hv, hv]
        simp
      · rw [heap_setCell_other _ _ _ _ e0]
    have hKD : (W.setCell ⟨w.heap.size, 0, none⟩ (.slice A' (recsP l).length c')).heap[D]? = some (.deferred (some [])) := by
      rw [heap_setCell_other _ _ _ _ (by show D ≠ w.heap.size; omega)]
      exact hK
    have hsz : ((W.setCell ⟨w.heap.size, 0, none⟩ (.slice A' (recsP l).length c')).putObj D (.deferred none)).heap.size = W.heap.size := by simp
    have hos : ((W.setCell ⟨w.heap.size, 0, none⟩ (.slice A' (recsP l).length c')).putObj D (.deferred none)).os = W.os := rfl
    have hta : ((W.setCell ⟨w.heap.size, 0, none⟩ (.slice A' (recsP l).length c')).putObj D (.deferred none)).tape = W.tape := rfl
    have hou : ((W.setCell ⟨w.heap.size, 0, none⟩ (.slice A' (recsP l).length c')).putObj D (.deferred none)).output = W.output := rfl
    refine ⟨by simp, .inl ⟨_, _, rfl, run_takeDeferred hKD, ?_⟩⟩
    generalize ((W.setCell ⟨w.heap.size, 0, none⟩ (.slice A' (recsP l).length c')).putObj D (.deferred none)) = WX at *
    have c1 : WX.cell? ⟨w.heap.size, 0, none⟩ = some (.slice A' (recsP l).length c') := blk_cell ((hkD _ (by omega)).trans hv)
    refine ⟨.tuple #[.slice A' (recsP l).length c', .func (.func 54) #[] #[.pointer (some ⟨w.heap.size + 1, 0, none⟩)]], by simp [results, Try.results33, go_sem, c1], _, rfl, ?_, ?_, ?_⟩
    · unfold recsR
      rw [List.length_map]
      refine ⟨hrow.1, ?_⟩
      rcases hrow.2 with h2 | ⟨g, cap, cur, k1, k2, k3, k4⟩
      · exact .inl h2
      · exact .inr ⟨g, cap, cur, k1, by omega, (hkD g (fun e => by rw [e, hK] at k3; cases k3)).trans k3, k4⟩
    · exact (hkD _ (by omega)).trans hIW.used
    · exact hIW.below.trans ⟨hos, hta, hou, by omega, fun k hk' => hkD k (by omega)⟩
  case stop =>
    rintro D c pre W _ _ h _
    exact h.elim
end Go.Proofs.Ytaoiklfkkipcaaa
