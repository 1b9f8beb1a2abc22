import Derived.Test.YtpeahilkmlffkaaRQ3
import Derived.Test.YtpeahilkmlffkaaQPoll
import Derived.Test.YtpeahilkmlffkaaQDupL
set_option linter.unusedSimpArgs false
set_option linter.unusedVariables false
namespace Go.Mem
open Go Go.RowKit
/-- append to a row of the call's own, at the operation -/
theorem wp_app {P : Program} {o : Oper} {a : Act} {K : Act → World → Prop} {Q : Exit → Act → World → Prop} (W : World) (s x : Operand) (t : TypeId)
    (ho : o.op = .call { callee := .builtin .append, args := #[s, x], argTypes := #[t, t] })
    (base : Nat) (e : TypeId) (z : Value) (size bytes : Nat) (ht : P.underlying t = some (.slice e)) (hinfo : (P.info? e).map (fun i => (i.zero, i.size, i.bytes)) = some (some z, size, bytes))
    (hzs : z.cells.size = size) (hsz : 0 < size) (hb0 : 0 < bytes)
    (v : Value) (n : Nat) (xs : List Value) (hs : a.eval s = v) (hown : W.ownsRow base e size v n xs)
    (A : Option Addr) (m c : Nat) (news : List Value) (hx : a.eval x = .slice A m c) (hl : news.length = m * size) (hA : A = none → c = 0) (hnews : RdC W A news) (h1 : ∀ u ∈ news, u.oneCell' = true)
    (hbytes : (n + m) * bytes ≤ 140737488355328) (hbase : base ≤ W.heap.size)
    (h : ∀ v' w', w'.ownsRow base e size v' (n + m) (xs ++ news) → W.grownBy w' v.ownBlock → (v'.ownBlock = v.ownBlock ∨ v'.ownBlock = some W.heap.size) → K (a.put o.dst v') w') : o.wp P a W K Q := by
  obtain ⟨i0, hi, hzz⟩ := Option.map_eq_some_iff.1 hinfo
  simp only [Prod.mk.injEq] at hzz
  obtain ⟨hz0, hz1, hz2⟩ := hzz
  have h63 : n + m ≤ maxLen := by
    have := Nat.le_trans (Nat.le_mul_of_pos_right _ hb0) hbytes
    simp only [maxLen]; omega
  cases A with
  | none =>
    have hn : news = [] := by
      rcases hnews with h | ⟨b, off, e, _⟩
      · exact h
      · cases e
    subst hn
    have hm : m = 0 := by
      rcases Nat.eq_zero_or_pos m with h | h
      · exact h
      · have : 0 < m * size := Nat.mul_pos h hsz
        simp at hl; omega
    subst hm
    rw [hA rfl] at hx
    have hrun := run_append_owned_none (P := P) (w := W) base t o.type e i0 size ht hi v n xs hown
    have := h v W (by simpa using hown) ⟨rfl, rfl, rfl, Nat.le_refl _, fun _ _ _ => rfl⟩ (.inl rfl)
    unfold Oper.wp
    simp [execOp, ho, resolve, invoke, builtin, hs, hx, hrun, Result.andThen]
    exact this
  | some ad =>
    obtain ⟨v', w', hr, h2, h3, _, h5⟩ := run_append_own_at (P := P) W base t o.type e i0 z size bytes ht hi hz0 hz1 hz2 hzs hsz v n xs hown ad m c news hl hnews.cells h1 h63 hbytes hbase
    unfold Oper.wp execOp
    simp only [ho, resolve, invoke, builtin, Sem.run_bind, Sem.run_pure, Result.andThen_ok, List.map_toArray, List.map_cons, List.map_nil, hs, hx, hr]
    exact h v' w' h2 h3 h5
end Go.Mem
namespace Go.Proofs.Ytpeahilkmlffkaa
open Go Go.RowKit Hd Go.Mem

theorem rowF_push {W W3 W5 : World} {base : Nat} {xs : List FrE} {x : FrE} {v v' : Value} (h : RowF W base v xs) (hb : Below W.heap.size W W3) (hx : FrOk (W.heap.size ≤ ·) W3 x)
    (ho : W5.ownsRow base 24 4 v' (xs.length + 1) (flatF xs ++ x.cells.toList)) (hg : (W3.alloc (.cells x.cells 24)).grownBy W5 v.ownBlock)
    (hat : v'.ownBlock = v.ownBlock ∨ v'.ownBlock = some (W3.alloc (.cells x.cells 24)).heap.size) (hbase : base ≤ W.heap.size) : RowF W5 base v' (xs ++ [x]) := by
  have hlt := own_lt h.own
  have hs := hb.size
  have key : ∀ k, k < W3.heap.size → v.ownBlock ≠ some k → W5.heap[k]? = W3.heap[k]? := fun k hl hne => by
    rw [hg.block k (by simp; omega) (fun e => hne e.symm), heap_alloc_old _ _ hl]
  have hnew : ∀ b, b < W3.heap.size → v.ownBlock ≠ some b → v'.ownBlock ≠ some b := fun b hl hne e => by
    rcases hat with e2 | e2
    · exact hne (e2 ▸ e)
    · rw [e2] at e
      simp at e
      omega
  refine ⟨?_, fun y hy => ?_⟩
  · rw [List.length_append, flatF_snoc]
    exact ho
  · rcases List.mem_append.1 hy with hy | hy
    · exact (h.els y hy).move (fun b hk hl => (key b (by omega) hk.2).trans (hb.block b hl)) fun b hk hl => ⟨hk.1, hnew b (by omega) hk.2⟩
    · rw [List.mem_singleton.1 hy]
      have hne : ∀ b, W.heap.size ≤ b → v.ownBlock ≠ some b := fun b hk e => by have := (hlt b e).2; omega
      exact hx.move (fun b hk hl => key b hl (hne b hk)) fun b hk hl => ⟨Nat.le_trans hbase hk, hnew b hl (hne b hk)⟩
theorem rowB_inL {W : World} {base n c : Nat} {A : Option Addr} {q : List (List UInt8)} (h : RowB W base 22 (.slice A n c) q) : InL W A c q := by
  obtain ⟨A9, c9, e, k1, k2, k3, k4⟩ := RowB.form h
  simp only [Value.slice.injEq] at e
  obtain ⟨rfl, _, rfl⟩ := e
  exact ⟨k4, k1, k2, k3⟩
theorem pollZ_of {w1 W : World} (g : Nat) (h : Below w1.heap.size w1 W) : PollZ g g w1 W := ⟨h.os, h.tape, h.output, h.size, fun k hk _ _ _ => h.block k hk⟩
/-- the end of Poll -/
theorem rpoll_end {l l' l1 : LE} {now : Int} {fs : List Fr} {w w1 wr Wz : World} {A5 : Option Addr} {c5 m c6 base : Nat} {A6 : Option Addr} {xs : List FrE} {cs : Array Value} (h : pollE l now = (l', fs, 0)) (hq : l'.q = l.q) (he : leN A5 l.q.length c5 l1 = leN A5 l.q.length c5 l')
    (hR : RowB w1 base 22 (.slice A5 l.q.length c5) l.q) (hbase : w.heap.size + 2 ≤ base) (hrow : RowF wr w1.heap.size (.slice A6 m c6) xs) (hfs : xs.map (·.f) = fs) (hm : xs.length = m)
    (hB : Below w.heap.size w w1) (hs1 : w.heap.size + 2 ≤ w1.heap.size) (hz : PollZ w.heap.size w.heap.size w1 Wz) (hu : ∀ k, k ≠ w.heap.size → Wz.heap[k]? = wr.heap[k]?) :
    PollPost l now w (.returned (.tuple #[.agg (leN A5 l.q.length c5 l1), .slice A6 m c6, .int .i64 0])) (Wz.setRow (w.heap.size + 1) cs) := by
  have z := hz.upd (upd_row Wz (w.heap.size + 1) cs) (.inr (.inr rfl))
  refine PollPost.yes h (by rw [hq]) he ?_ (hfs ▸ inF_keep hrow _ fun b _ _ _ hb _ => ?_) (by rw [← hfs, List.length_map, hm]) (z.below hB (Nat.le_refl _) (Nat.le_refl _) (by omega))
  · rw [hq]
    exact rowB_inL (hR.move fun k hk hl => z.blk k hl (by omega) (by omega) (by omega))
  · rw [setRow_other _ _ _ _ (by omega)]
    exact hu b (by omega)
set_option maxRecDepth 100000 in
set_option maxHeartbeats 8000000 in
theorem rpoll_any (A : Option Addr) (c : Nat) (l : LE) (now : Int) (w : World) (hq : l.q.length ≤ 140737488351232) (hr : RdL w A l.q) :
    Calls Try.prog 20 #[.agg (leCells A c l), .int .i64 now] w (PollPost l now w) := by
  have Hr := Lib.hid hr
  clear hr
  have HC := Lib.hid (fun W (h : RdL W A l.q) => rcheck_any A c l W hq h)
  go_enter Try.func20, Try.ntmps20
  go_wp2_with (first | (refine wpList_load_row rfl 39 (.tmp 2) rfl w.heap.size rfl 39 (leCells A c l) (0, 0) _ (blk_second _ _ _) Try.underlying39 rfl le_size ?_))
  have hB0 : Below w.heap.size w ((w.alloc (.cells (leCells A c l) 39)).alloc (.cells (leCells none 0 leZ) 39)) := fw_al (fw_new _ _) _
  refine (HC.out _ (Hr.out.below hB0)).mono ?_
  rintro e W ⟨rfl, hb⟩
  have hP := blk_below (blk_second w (.cells (leCells A c l) 39) (.cells (leCells none 0 leZ) 39)) hb
  have hR := blk_below (heap_alloc2_new w (.cells (leCells A c l) 39) (.cells (leCells none 0 leZ) 39)) hb
  have hB := fw_trans hB0 hb
  have hsz : w.heap.size + 2 ≤ W.heap.size := by have := hb.size; simpa using this
  clear HC hB0 hb
  by_cases hk : chk l = 0
  · obtain ⟨hOB, hS, hD, h64⟩ := chk_zero hk
    have h3 := okS_short hS
    rw [hk]
    by_cases hT : inTimeB now = false
    · have Hno := Lib.hid (fun W' (hb : Below w.heap.size w W') => PollPost.no (poll_arg hk hT) hb)
      have ht : now < 0 ∨ 1099511627776 < now := by unfold inTimeB at hT; simp at hT; omega
      clear hT hk
      by_cases hn : now < 0
      · have g1 : (now < 0) = True := eq_true hn
        clear ht
        go_wp2_with (refine wpList_store_row rfl 39 (.tmp 4) (.tmp 23) rfl (w.heap.size + 1) (leCells none 0 leZ) rfl rfl 39 _ hR le_size rfl (le_one none 0 0 leZ) ?_)
        (try simp only [Exit.inBlock, Exit.then])
        refine bodyPost_ret (res_ctt rfl _ _ (w.heap.size + 1) _ (leCells none 0 leZ) _ _ rfl (setRow_heap _ _ _ _ _ _ hR) Try.underlying39 rfl le_size) rfl ?_
        exact (Hno.out _ (below_setRow hB (Nat.le_add_right _ 1) _))
      · have g1 : (now < 0) = False := eq_false hn
        have g2 : ((1099511627776 : Int) < now) = True := eq_true (by omega)
        clear ht
        go_wp2_with (refine wpList_store_row rfl 39 (.tmp 4) (.tmp 23) rfl (w.heap.size + 1) (leCells none 0 leZ) rfl rfl 39 _ hR le_size rfl (le_one none 0 0 leZ) ?_)
        (try simp only [Exit.inBlock, Exit.then])
        refine bodyPost_ret (res_ctt rfl _ _ (w.heap.size + 1) _ (leCells none 0 leZ) _ _ rfl (setRow_heap _ _ _ _ _ _ hR) Try.underlying39 rfl le_size) rfl ?_
        exact (Hno.out _ (below_setRow hB (Nat.le_add_right _ 1) _))
    · have hT1 : inTimeB now = true := by simpa using hT
      have hnow : 0 ≤ now ∧ now ≤ 1099511627776 := by unfold inTimeB at hT1; simpa using hT1
      have g1 : (now < 0) = False := eq_false (by omega)
      have g2 : ((1099511627776 : Int) < now) = False := eq_false (by omega)
      obtain ⟨hs0, hs1, hs2⟩ : 0 ≤ l.s ∧ l.s ≤ 7 ∧ l.s ≤ (l.q.length : Int) := by
        unfold okS at hS
        simp only [Bool.and_eq_true, decide_eq_true_eq] at hS
        exact ⟨hS.1.1.1, hS.1.1.2, hS.1.2⟩
      have hbb : 0 ≤ l.b ∧ l.b < 16 := okSeq_range (by unfold okB at hOB; simp at hOB; exact hOB.1)
      have hPE := Lib.hid (show pollE l now = if 0 < min l.q.length 7 - sentE l now then ({ l with s := (min l.q.length 7 : Nat), d := now + 3, o := false }, framesE l now, 0)
        else if l.o then ({ l with s := sentE l now, o := false }, [⟨false, 0, l.x, []⟩], 0) else ({ l with s := sentE l now, o := false }, [], 0) by unfold pollE; rw [if_neg (by simp [hk]), if_neg hT])
      clear hT hT1 hk hS hOB
      have p0 : W.cell? ⟨w.heap.size, 0, none⟩ = some (.slice A l.q.length c) := cellOf hP rfl
      have H3 := Lib.hid h3
      clear h3
      go_wp2_with fail
      clear p0
      refine (copied_any A c l.q W (by omega) H3.out (Hr.out.below hB)).mono ?_
      rintro e W4 ⟨v4, rfl, hR4, hb4⟩
      have hP4 := blk_below hP hb4
      have hRr4 := blk_below hR hb4
      have hB4 := fw_trans hB hb4
      have hsz4 : w.heap.size + 2 ≤ W4.heap.size := Nat.le_trans hsz hb4.size
      obtain ⟨A5, c5, rfl, hA5, hc5, hm5, hL5⟩ := RowB.form hR4
      have HR4 := Lib.hid hR4
      clear hP hR hB hR4 hA5 hL5 hc5 hm5 hb4
      obtain ⟨M, hM⟩ : ∃ M, min l.q.length 7 = M := ⟨_, rfl⟩
      have hMi : (if (7 : Int) < (l.q.length : Int) then (7 : Int) else (l.q.length : Int)) = (M : Int) := by split <;> omega
      by_cases hx : 0 ≤ l.d ∧ l.d ≤ now
      · have hx1 := hx.1
        have hx2 := hx.2
        have gd : (0 ≤ l.d) = True := eq_true hx.1
        have gn : (l.d ≤ now) = True := eq_true hx.2
        have hse : sentE l now = 0 := by unfold sentE; rw [if_pos hx]
        have Hse := Lib.hid hse
        clear hx hse
        go_wp2_with (first | (refine wpList_store_field rfl 37 (.tmp 27) (.tmp 26) rfl w.heap.size 0 (.slice A5 l.q.length c5) rfl rfl rfl 39 _ hP4 (by simp [leN, leCells]) (by kernel_rfl) ?_; intro W5 hW5 u5; have HW5 := (show W5.heap[w.heap.size]? = some (.cells (leN A5 l.q.length c5 l) 39 (0, 0)) from hW5); clear hW5; have c0 : W5.cell? ⟨w.heap.size, 0, none⟩ = some (.slice A5 l.q.length c5) := cellOf HW5 rfl; have c2 : W5.cell? ⟨w.heap.size, 2, none⟩ = some (.int .i64 l.s) := cellOf HW5 rfl; have c5' : W5.cell? ⟨w.heap.size, 5, none⟩ = some (.int .i64 l.d) := cellOf HW5 rfl) | (refine wpList_store_field rfl 3 (.tmp 37) (.const (.int .i64 0)) rfl w.heap.size 2 (.int .i64 0) rfl rfl rfl 39 _ HW5 (by simp [leN, leCells]) (by kernel_rfl) ?_; intro W6 hW6 u6; have HW6 := (show W6.heap[w.heap.size]? = some (.cells (leN A5 l.q.length c5 ({ l with s := 0 } : LE)) 39 (0, 0)) from hW6); clear hW6; have d0 : W6.cell? ⟨w.heap.size, 0, none⟩ = some (.slice A5 l.q.length c5) := cellOf HW6 rfl; have d2 : W6.cell? ⟨w.heap.size, 2, none⟩ = some (.int .i64 0) := cellOf HW6 rfl))
        clear c0 c2 c5' d0 d2 HW5
        have hRn := ((u6.other (w.heap.size + 1) (by omega)).trans ((u5.other (w.heap.size + 1) (by omega)).trans hRr4))
        have hBn := (u6.below (u5.below hB4 (Nat.le_refl _)) (Nat.le_refl _))
        have hsn : w.heap.size + 2 ≤ W6.heap.size := by rw [u6.size]; rw [u5.size]; omega
        have hRow : RowB W6 W.heap.size 22 (.slice A5 l.q.length c5) l.q := HR4.out.move fun k hk _ => by rw [u6.other k (by omega), u5.other k (by omega)]
        obtain ⟨_, _, eRd, _, _, _, hRd⟩ := RowB.form hRow
        simp only [Value.slice.injEq] at eRd
        obtain ⟨rfl, _, rfl⟩ := eRd
        have HRow := Lib.hid hRow
        have HRd := Lib.hid hRd
        have hsM : 0 ≤ M := by omega
        clear hRow hRd HR4 hRr4 hB4 hP4 u5 u6
        try simp only [hMi]
        go_loopw [9, 10] (fun v j wr => ∃ (xs : List FrE) (k : Nat), j = .int .i64 (k : Int) ∧ 0 ≤ k ∧ k ≤ M ∧ Hid (xs.map (·.f) ++ unsGo l (M - k) k = unsGo l (M - 0) 0) ∧ RowF wr W6.heap.size v xs ∧ Below W6.heap.size W6 wr) (fun _ j _ => M - (intOf j).toNat)
        case atStart => exact ⟨[], 0, rfl, Nat.le_refl _, hsM, Lib.hid rfl, RowF.nil _ _, Below.refl _ _⟩
        case round =>
          obtain ⟨xs, k, rfl, hk1, hk2, Hpre, hF, hB1⟩ := hrel
          have hbr := blk_below HW6 hB1
          have hlx : xs.length + 0 = k := by have h1 := congrArg List.length Hpre.out; simp only [List.length_append, List.length_map, unsGo_len] at h1; omega
          by_cases hlt : k < M
          · have hkl : ((k : Int) < (M : Int)) = True := eq_true (by omega)
            have hq7 : k < l.q.length ∧ k < 7 := by omega
            obtain ⟨b1, off1, A1, c1, rfl, hc1n, hz1, hz2, hA1, hr1n⟩ := HRd.out.at k hq7.1
            have hltn := World.block_lt_of_cell? W6 _ hc1n
            have hc1 := (hB1.cell hltn).trans hc1n
            have hr1 := RdC.below hr1n hB1
            have hp3 := H3.out k hq7.1
            have hstep := unsGo_step l M k hlt hq7.1
            generalize l.q[k] = p at *
            obtain ⟨V, hV⟩ : ∃ V : Int, sPlus l.b (k : Int) = V := ⟨_, rfl⟩
            have m1 : Int.tmod (l.b + (k : Int)) 16 = V := by rw [← hV, sPlus_mod (by omega), Int.tmod_eq_emod_of_nonneg (by omega)]
            have m2 : (l.b + (k : Int)) % 16 = V := by rw [← hV, sPlus_mod (by omega)]
            rw [hV] at hstep
            have Hstep := Lib.hid hstep
            have HFr := Lib.hid hF
            have HA1 := Lib.hid hA1
            clear hr1n
            have Hr1 := Lib.hid hr1
            have hqk := hq7.1
            have hk7 := hq7.2
            have hlenx : xs.length < 7 := by omega
            have hwn := hB1.size
            have hwr : IntKind.i64.wrap (l.b + (k : Int)) = l.b + (k : Int) := by rw [IntKind.wrap_i64]; omega
            have hS0 : (fun W => W.heap[w.heap.size]? = some (.cells (leN (some ⟨b1, off1, none⟩) l.q.length c5 ({ l with s := 0 } : LE)) 39 (0, 0)) ∧ W.cell? ⟨b1, off1 + k, none⟩ = some (.slice A1 p.length c1)) wr.drew := ⟨hbr, hc1⟩
            clear hstep hV hF hA1 hr1 hq7 hk1 hk2
            go_wp2_with fail
            refine wp_region_noPanic ?_
            refine wp_region_held_drew (S := fun W => W.heap[w.heap.size]? = some (.cells (leN (some ⟨b1, off1, none⟩) l.q.length c5 ({ l with s := 0 } : LE)) 39 (0, 0)) ∧ W.cell? ⟨b1, off1 + k, none⟩ = some (.slice A1 p.length c1)) (by kernel_rfl) hS0 (fun h0 => ?_)
            refine wpAnyH_take (i := 0) (v := u9) rfl (by kernel_rfl) (by kernel_rfl) (by kernel_rfl) (fun _ _ _ h => h) (Or.inl ⟨by rfl, fun W hW => by rfl⟩) h0 ?_
            try simp only [Act.put, List.getElem?_toArray, List.getElem_toArray, List.getElem_cons_zero, List.getElem_cons_succ, List.setIfInBounds_toArray, List.set_cons_zero, List.set_cons_succ]
            refine wpAnyH_take (i := 1) (v := .pointer (some ⟨w.heap.size, 1, none⟩)) rfl (by kernel_rfl) (by kernel_rfl) (by kernel_rfl) (fun _ _ _ h => h) (Or.inl ⟨by rfl, fun W hW => by go_simp⟩) h0 ?_
            try simp only [Act.put, List.getElem?_toArray, List.getElem_toArray, List.getElem_cons_zero, List.getElem_cons_succ, List.setIfInBounds_toArray, List.set_cons_zero, List.set_cons_succ]
            refine wpAnyH_take (i := 2) (v := .int .i64 l.b) rfl (by kernel_rfl) (by kernel_rfl) (by kernel_rfl) (fun _ _ _ h => h) (Or.inl ⟨by rfl, fun W hW => by have hz : W.cell? ⟨w.heap.size, 1, none⟩ = some (.int .i64 l.b) := cellOf hW.1 rfl; go_simp⟩) h0 ?_
            try simp only [Act.put, List.getElem?_toArray, List.getElem_toArray, List.getElem_cons_zero, List.getElem_cons_succ, List.setIfInBounds_toArray, List.set_cons_zero, List.set_cons_succ]
            refine wpAnyH_take (i := 3) (v := .int .i64 (k : Int)) rfl (by kernel_rfl) (by kernel_rfl) (by kernel_rfl) (fun _ _ _ h => h) (Or.inl ⟨by rfl, fun W hW => by rfl⟩) h0 ?_
            try simp only [Act.put, List.getElem?_toArray, List.getElem_toArray, List.getElem_cons_zero, List.getElem_cons_succ, List.setIfInBounds_toArray, List.set_cons_zero, List.set_cons_succ]
            refine wpAnyH_take (i := 4) (v := .int .i64 (l.b + (k : Int))) rfl (by kernel_rfl) (by kernel_rfl) (by kernel_rfl) (fun _ _ _ h => h) (Or.inl ⟨by rfl, fun W hW => by go_simp⟩) h0 ?_
            try simp only [Act.put, List.getElem?_toArray, List.getElem_toArray, List.getElem_cons_zero, List.getElem_cons_succ, List.setIfInBounds_toArray, List.set_cons_zero, List.set_cons_succ]
            refine wpAnyH_take (i := 5) (v := .int .i64 V) rfl (by kernel_rfl) (by kernel_rfl) (by kernel_rfl) (fun _ _ _ h => h) (Or.inl ⟨by rfl, fun W hW => by go_simp⟩) h0 ?_
            try simp only [Act.put, List.getElem?_toArray, List.getElem_toArray, List.getElem_cons_zero, List.getElem_cons_succ, List.setIfInBounds_toArray, List.set_cons_zero, List.set_cons_succ]
            refine wpAnyH_take (i := 6) (v := .pointer (some ⟨w.heap.size, 3, none⟩)) rfl (by kernel_rfl) (by kernel_rfl) (by kernel_rfl) (fun _ _ _ h => h) (Or.inl ⟨by rfl, fun W hW => by go_simp⟩) h0 ?_
            try simp only [Act.put, List.getElem?_toArray, List.getElem_toArray, List.getElem_cons_zero, List.getElem_cons_succ, List.setIfInBounds_toArray, List.set_cons_zero, List.set_cons_succ]
            refine wpAnyH_take (i := 7) (v := .int .i64 l.x) rfl (by kernel_rfl) (by kernel_rfl) (by kernel_rfl) (fun _ _ _ h => h) (Or.inl ⟨by rfl, fun W hW => by have hz : W.cell? ⟨w.heap.size, 3, none⟩ = some (.int .i64 l.x) := cellOf hW.1 rfl; go_simp⟩) h0 ?_
            try simp only [Act.put, List.getElem?_toArray, List.getElem_toArray, List.getElem_cons_zero, List.getElem_cons_succ, List.setIfInBounds_toArray, List.set_cons_zero, List.set_cons_succ]
            refine wpAnyH_take (i := 9) (v := .pointer (some ⟨w.heap.size, 0, none⟩)) rfl (by kernel_rfl) (by kernel_rfl) (by kernel_rfl) (fun _ _ _ h => h) (Or.inl ⟨by rfl, fun W hW => by go_simp⟩) h0 ?_
            try simp only [Act.put, List.getElem?_toArray, List.getElem_toArray, List.getElem_cons_zero, List.getElem_cons_succ, List.setIfInBounds_toArray, List.set_cons_zero, List.set_cons_succ]
            refine wpAnyH_take (i := 10) (v := .slice (some ⟨b1, off1, none⟩) l.q.length c5) rfl (by kernel_rfl) (by kernel_rfl) (by kernel_rfl) (fun _ _ _ h => h) (Or.inl ⟨by rfl, fun W hW => by have hz : W.cell? ⟨w.heap.size, 0, none⟩ = some (.slice (some ⟨b1, off1, none⟩) l.q.length c5) := cellOf hW.1 rfl; go_simp⟩) h0 ?_
            try simp only [Act.put, List.getElem?_toArray, List.getElem_toArray, List.getElem_cons_zero, List.getElem_cons_succ, List.setIfInBounds_toArray, List.set_cons_zero, List.set_cons_succ]
            refine wpAnyH_take (i := 11) (v := .int .i64 (k : Int)) rfl (by kernel_rfl) (by kernel_rfl) (by kernel_rfl) (fun _ _ _ h => h) (Or.inl ⟨by rfl, fun W hW => by rfl⟩) h0 ?_
            try simp only [Act.put, List.getElem?_toArray, List.getElem_toArray, List.getElem_cons_zero, List.getElem_cons_succ, List.setIfInBounds_toArray, List.set_cons_zero, List.set_cons_succ]
            refine wpAnyH_take (i := 12) (v := .pointer (some ⟨b1, off1 + k, none⟩)) rfl (by kernel_rfl) (by kernel_rfl) (by kernel_rfl) (fun _ _ _ h => h) (Or.inl ⟨by rfl, fun W hW => by go_simp⟩) h0 ?_
            try simp only [Act.put, List.getElem?_toArray, List.getElem_toArray, List.getElem_cons_zero, List.getElem_cons_succ, List.setIfInBounds_toArray, List.set_cons_zero, List.set_cons_succ]
            refine wpAnyH_take (i := 13) (v := .slice A1 p.length c1) rfl (by kernel_rfl) (by kernel_rfl) (by kernel_rfl) (fun _ _ _ h => h) (Or.inl ⟨by rfl, fun W hW => by have hz := hW.2; go_simp⟩) h0 ?_
            try simp only [Act.put, List.getElem?_toArray, List.getElem_toArray, List.getElem_cons_zero, List.getElem_cons_succ, List.setIfInBounds_toArray, List.set_cons_zero, List.set_cons_succ]
            refine wpAnyH_ready (rs := [8]) (by kernel_rfl) (by simp) ?_
            refine AllReadyH.cons rfl (fun K hK => ?_) AllReadyH.nil
            go_simp
            have hz2 := fw_new wr.drew (.cells #[] 5)
            have hb2 : Below wr.heap.size wr (wr.drew.alloc (.cells #[] 5)) := ⟨hz2.os, hz2.tape, hz2.output, hz2.size, hz2.block⟩
            clear hz2
            refine hK.out _ _ ⟨blk_below hbr hb2, (hb2.cell (World.block_lt_of_cell? wr _ hc1)).trans hc1⟩ (fun h1 => ?_)
            clear hK
            try simp only [Act.put, List.getElem?_toArray, List.getElem_toArray, List.getElem_cons_zero, List.getElem_cons_succ, List.setIfInBounds_toArray, List.set_cons_zero, List.set_cons_succ]
            refine wpAnyH_ready (rs := [14]) (by kernel_rfl) (by simp) ?_
            refine AllReadyH.cons rfl (fun K hK => ?_) AllReadyH.nil
            rw [if_pos (by rfl)]
            refine wp_app _ (.tmp 57) (.tmp 62) 22 rfl wr.heap.size 5 (.int .u8 0) 1 1 Try.underlying22 info_u8 rfl (by decide) (by decide) (.slice (some ⟨wr.heap.size, 0, none⟩) 0 0) 0 [] rfl (own_fresh wr.drew wr.heap.size #[] _ (Nat.le_refl _) (by decide)) A1 p.length c1 (p.map B) rfl (by simp) HA1.out (RdC.below Hr1.out hb2) (by intro u hu; simp only [List.mem_map] at hu; obtain ⟨x, _, rfl⟩ := hu; rfl) (by simp; omega) (by simp) ?_
            intro v3 w3 ho3 hg3 hat3
            have hO3 : OwnB w3 wr.heap.size 5 v3 p := by unfold OwnB; simpa using ho3
            obtain ⟨A4, c4, rfl, hA4, hc4, hm4, _⟩ := own_form hO3
            have hR4 := own_rdp' hO3 (Nat.le_refl _)
            have hb3 : Below wr.heap.size wr w3 := hb2.grown hg3 hb2.size (fun k hk => by cases hk; exact Nat.le_refl _)
            refine hK.out _ _ ⟨blk_below hbr hb3, (hb3.cell (World.block_lt_of_cell? wr _ hc1)).trans hc1⟩ (fun h2 => ?_)
            clear hK
            try simp only [Act.put, List.getElem?_toArray, List.getElem_toArray, List.getElem_cons_zero, List.getElem_cons_succ, List.setIfInBounds_toArray, List.set_cons_zero, List.set_cons_succ]
            refine wpAnyH_take (i := 15) (v := .agg #[.bool true, .int .i64 V, .int .i64 l.x, .slice A4 p.length c4]) rfl (by kernel_rfl) (by kernel_rfl) (by kernel_rfl) (fun _ _ _ h => h) (Or.inl ⟨by rfl, fun W hW => by go_simp⟩) h2 ?_
            try simp only [Act.put, List.getElem?_toArray, List.getElem_toArray, List.getElem_cons_zero, List.getElem_cons_succ, List.setIfInBounds_toArray, List.set_cons_zero, List.set_cons_succ]
            refine wpAnyH_ready (rs := [16]) (by kernel_rfl) (by simp) ?_
            refine AllReadyH.cons rfl (fun K hK => ?_) AllReadyH.nil
            go_simp
            have hb4 : Below wr.heap.size wr (w3.alloc (.cells #[.bool true, .int .i64 V, .int .i64 l.x, .slice A4 p.length c4] 24)) := fw_al hb3 _
            refine hK.out _ _ ⟨blk_below hbr hb4, (hb4.cell (World.block_lt_of_cell? wr _ hc1)).trans hc1⟩ (fun h3 => ?_)
            clear hK
            try simp only [Act.put, List.getElem?_toArray, List.getElem_toArray, List.getElem_cons_zero, List.getElem_cons_succ, List.setIfInBounds_toArray, List.set_cons_zero, List.set_cons_succ]
            refine wpAnyH_ready (rs := [17]) (by kernel_rfl) (by simp) ?_
            refine AllReadyH.cons rfl (fun K hK => ?_) AllReadyH.nil
            rw [if_pos (by rfl)]
            have hown4 := own_below HFr.out.own hb4
            refine wp_app _ (.tmp 49) (.tmp 65) 35 rfl W6.heap.size 24 (.agg #[.bool false, .int .i64 0, .int .i64 0, .slice none 0 0]) 4 48 Try.underlying35 info_fr rfl (by decide) (by decide) u9 xs.length (flatF xs) rfl hown4 (some ⟨w3.heap.size, 0, none⟩) 1 1 [.bool true, .int .i64 V, .int .i64 l.x, .slice A4 p.length c4] rfl rfl (fun e => by cases e) (RdC.new w3 #[.bool true, .int .i64 V, .int .i64 l.x, .slice A4 p.length c4] 24 (0, 0)) (by simp [Value.oneCell']) (by omega) (Nat.le_trans hwn hb4.size) ?_
            intro v5 w5 ho5 hg5 hat5
            have hlt5 := own_lt HFr.out.own
            have hb5 : Below W6.heap.size W6 w5 := (fw_trans hB1 hb4).grown hg5 (fw_trans hB1 hb4).size (fun k hk => (hlt5 k hk).1)
            have hc5' : w5.cell? ⟨b1, off1 + k, none⟩ = some (.slice A1 p.length c1) := (hb5.cell hltn).trans hc1n
            refine hK.out _ _ ⟨blk_below HW6 hb5, hc5'⟩ (fun h4 => ?_)
            clear hK
            try simp only [Act.put, List.getElem?_toArray, List.getElem_toArray, List.getElem_cons_zero, List.getElem_cons_succ, List.setIfInBounds_toArray, List.set_cons_zero, List.set_cons_succ]
            refine wpAnyH_take (i := 18) (v := v5) rfl (by kernel_rfl) (by kernel_rfl) (by kernel_rfl) (fun _ _ _ h => h) (Or.inl ⟨by rfl, fun W hW => by rfl⟩) h4 ?_
            try simp only [Act.put, List.getElem?_toArray, List.getElem_toArray, List.getElem_cons_zero, List.getElem_cons_succ, List.setIfInBounds_toArray, List.set_cons_zero, List.set_cons_succ]
            refine wpAnyH_done (by kernel_rfl) ?_ _
            refine NoPanic.normal ?_
            have hF5 : RowF w5 W6.heap.size v5 (xs ++ [(⟨⟨true, V, l.x, p⟩, A4, c4⟩ : FrE)]) := rowF_push HFr.out hb3 ⟨hA4, hc4, hm4, hR4⟩ ho5 hg5 hat5 hwn
            have HF5 := Lib.hid hF5
            clear h0 h1 h2 h3 h4 ho5 hg5 hat5 hF5 HFr
            go_wp2_with fail
            go_roundw
            case rel =>
              refine ⟨xs ++ [(⟨⟨true, V, l.x, p⟩, A4, c4⟩ : FrE)], k + 1, by go_num, by omega, by omega, Lib.hid ?_, HF5.out, hb5⟩
              rw [← Hpre.out, Hstep.out]
              simp
            case measure => simp [intOf]; omega
          · have hkl : ((k : Int) < (M : Int)) = False := eq_false (by omega)
            obtain rfl : k = M := by omega
            obtain ⟨m, hm⟩ : ∃ m, xs.length = m := ⟨_, rfl⟩
            have hfs : xs.map (·.f) = framesE l now := by
              have h1 := Hpre.out
              rw [Nat.sub_self] at h1
              unfold framesE
              rw [hM, Hse.out, ← h1]
              simp [unsGo]
            obtain ⟨A6, c6, rfl, _⟩ := hF.form
            rw [hm] at hF
            have HE := Lib.hid hPE.out
            rw [hM, Hse.out] at HE
            have hRr := blk_below hRn hB1
            have hZ := pollZ_of w.heap.size hB1
            have hm7 : m ≤ 7 := by omega
            have HFS := Lib.hid hfs
            clear Hpre hfs HRd hPE Hse
            by_cases hm0 : 0 < m
            · have hmt : (0 < m) = True := eq_true hm0
              have HE2 : Hid (pollE l now = ({ l with s := (k : Int), d := now + 3, o := false }, framesE l now, 0)) := Lib.hid (by rw [HE.out, if_pos (by omega)])
              go_wp2_with (first | (refine wpList_store_field rfl 3 (.tmp 71) (.tmp 70) rfl w.heap.size 2 (.int .i64 (k : Int)) rfl rfl rfl 39 _ hbr (by simp [leN, leCells]) (by kernel_rfl) ?_; intro W7 hW7 u7; have HW7 := (show W7.heap[w.heap.size]? = some (.cells (leN A5 l.q.length c5 ({ l with s := (k : Int) } : LE)) 39 (0, 0)) from hW7); clear hW7) | (refine wpList_store_field rfl 3 (.tmp 74) (.tmp 73) rfl w.heap.size 5 (.int .i64 (now + 3)) rfl rfl rfl 39 _ HW7 (by simp [leN, leCells]) (by kernel_rfl) ?_; intro W8 hW8 u8; have HW8 := (show W8.heap[w.heap.size]? = some (.cells (leN A5 l.q.length c5 ({ l with s := (k : Int), d := now + 3 } : LE)) 39 (0, 0)) from hW8); clear hW8) | (refine wpList_store_field rfl 4 (.tmp 75) (.const (.bool false)) rfl w.heap.size 4 (.bool false) rfl rfl rfl 39 _ HW8 (by simp [leN, leCells]) (by kernel_rfl) ?_; intro W9 hW9 u9; have HW9 := (show W9.heap[w.heap.size]? = some (.cells (leN A5 l.q.length c5 ({ l with s := (k : Int), d := now + 3, o := false } : LE)) 39 (0, 0)) from hW9); clear hW9; have hRz := ((u9.other (w.heap.size + 1) (by omega)).trans ((u8.other (w.heap.size + 1) (by omega)).trans ((u7.other (w.heap.size + 1) (by omega)).trans hRr)))) | (refine wpList_load_row rfl 39 (.tmp 2) rfl w.heap.size rfl 39 (leN A5 l.q.length c5 ({ l with s := (k : Int), d := now + 3, o := false } : LE)) (0, 0) _ HW9 Try.underlying39 rfl le_size ?_) | (refine wpList_store_row rfl 39 (.tmp 4) (.tmp 85) rfl (w.heap.size + 1) (leN A5 l.q.length c5 ({ l with s := (k : Int), d := now + 3, o := false } : LE)) rfl rfl 39 _ hRz le_size rfl (le_one _ _ _ _) ?_))
              (try simp only [Exit.inBlock, Exit.then])
              refine bodyPost_ret (res_ctt rfl _ _ (w.heap.size + 1) _ (leN A5 l.q.length c5 ({ l with s := (k : Int), d := now + 3, o := false } : LE)) _ _ rfl (setRow_heap _ _ _ _ _ _ hRz) Try.underlying39 rfl le_size) rfl ?_
              refine rpoll_end (wr := wr) HE2.out rfl rfl HRow.out hsz hF HFS.out hm hBn hsn (((hZ.upd u7 (.inl rfl)).upd u8 (.inl rfl)).upd u9 (.inl rfl)) ?_
              exact fun k hk => by rw [u9.other k hk, u8.other k hk, u7.other k hk]
            · exfalso
              unfold okD at hD
              rw [if_pos (by omega)] at hD
              simp at hD
              omega
      · obtain ⟨s0, hs00⟩ : ∃ s0 : Nat, l.s = (s0 : Int) := ⟨l.s.toNat, by omega⟩
        have Hle := Lib.hid (show ({ l with s := (s0 : Int) } : LE) = l by rw [← hs00])
        have hse : sentE l now = s0 := by unfold sentE; rw [if_neg hx, hs00]; rfl
        have Hse := Lib.hid hse
        clear hse
        rw [show leCells A c l = leCells A c { l with s := (s0 : Int) } by rw [Hle.out]] at hP4
        by_cases hd0 : 0 ≤ l.d
        · have gd : (0 ≤ l.d) = True := eq_true hd0
          have gn : (l.d ≤ now) = False := eq_false (by omega)
          clear hx
          go_wp2_with (first | (refine wpList_store_field rfl 37 (.tmp 27) (.tmp 26) rfl w.heap.size 0 (.slice A5 l.q.length c5) rfl rfl rfl 39 _ hP4 (by simp [leN, leCells]) (by kernel_rfl) ?_; intro W5 hW5 u5; have HW5 := (show W5.heap[w.heap.size]? = some (.cells (leN A5 l.q.length c5 ({ l with s := (s0 : Int) } : LE)) 39 (0, 0)) from hW5); clear hW5; have c0 : W5.cell? ⟨w.heap.size, 0, none⟩ = some (.slice A5 l.q.length c5) := cellOf HW5 rfl; have c2 : W5.cell? ⟨w.heap.size, 2, none⟩ = some (.int .i64 (s0 : Int)) := cellOf HW5 rfl; have c5' : W5.cell? ⟨w.heap.size, 5, none⟩ = some (.int .i64 l.d) := cellOf HW5 rfl))
          clear c0 c2 c5'
          have hRn := ((u5.other (w.heap.size + 1) (by omega)).trans hRr4)
          have hBn := (u5.below hB4 (Nat.le_refl _))
          have hsn : w.heap.size + 2 ≤ W5.heap.size := by rw [u5.size]; omega
          have hRow : RowB W5 W.heap.size 22 (.slice A5 l.q.length c5) l.q := HR4.out.move fun k hk _ => by rw [u5.other k (by omega)]
          obtain ⟨_, _, eRd, _, _, _, hRd⟩ := RowB.form hRow
          simp only [Value.slice.injEq] at eRd
          obtain ⟨rfl, _, rfl⟩ := eRd
          have HRow := Lib.hid hRow
          have HRd := Lib.hid hRd
          have hsM : s0 ≤ M := by omega
          clear hRow hRd HR4 hRr4 hB4 hP4 u5
          try simp only [hMi]
          go_loopw [9, 10] (fun v j wr => ∃ (xs : List FrE) (k : Nat), j = .int .i64 (k : Int) ∧ s0 ≤ k ∧ k ≤ M ∧ Hid (xs.map (·.f) ++ unsGo l (M - k) k = unsGo l (M - s0) s0) ∧ RowF wr W5.heap.size v xs ∧ Below W5.heap.size W5 wr) (fun _ j _ => M - (intOf j).toNat)
          case atStart => exact ⟨[], s0, rfl, Nat.le_refl _, hsM, Lib.hid rfl, RowF.nil _ _, Below.refl _ _⟩
          case round =>
            obtain ⟨xs, k, rfl, hk1, hk2, Hpre, hF, hB1⟩ := hrel
            have hbr := blk_below HW5 hB1
            have hlx : xs.length + s0 = k := by have h1 := congrArg List.length Hpre.out; simp only [List.length_append, List.length_map, unsGo_len] at h1; omega
            by_cases hlt : k < M
            · have hkl : ((k : Int) < (M : Int)) = True := eq_true (by omega)
              have hq7 : k < l.q.length ∧ k < 7 := by omega
              obtain ⟨b1, off1, A1, c1, rfl, hc1n, hz1, hz2, hA1, hr1n⟩ := HRd.out.at k hq7.1
              have hltn := World.block_lt_of_cell? W5 _ hc1n
              have hc1 := (hB1.cell hltn).trans hc1n
              have hr1 := RdC.below hr1n hB1
              have hp3 := H3.out k hq7.1
              have hstep := unsGo_step l M k hlt hq7.1
              generalize l.q[k] = p at *
              obtain ⟨V, hV⟩ : ∃ V : Int, sPlus l.b (k : Int) = V := ⟨_, rfl⟩
              have m1 : Int.tmod (l.b + (k : Int)) 16 = V := by rw [← hV, sPlus_mod (by omega), Int.tmod_eq_emod_of_nonneg (by omega)]
              have m2 : (l.b + (k : Int)) % 16 = V := by rw [← hV, sPlus_mod (by omega)]
              rw [hV] at hstep
              have Hstep := Lib.hid hstep
              have HFr := Lib.hid hF
              have HA1 := Lib.hid hA1
              clear hr1n
              have Hr1 := Lib.hid hr1
              have hqk := hq7.1
              have hk7 := hq7.2
              have hlenx : xs.length < 7 := by omega
              have hwn := hB1.size
              have hwr : IntKind.i64.wrap (l.b + (k : Int)) = l.b + (k : Int) := by rw [IntKind.wrap_i64]; omega
              have hS0 : (fun W => W.heap[w.heap.size]? = some (.cells (leN (some ⟨b1, off1, none⟩) l.q.length c5 ({ l with s := (s0 : Int) } : LE)) 39 (0, 0)) ∧ W.cell? ⟨b1, off1 + k, none⟩ = some (.slice A1 p.length c1)) wr.drew := ⟨hbr, hc1⟩
              clear hstep hV hF hA1 hr1 hq7 hk1 hk2
              go_wp2_with fail
              refine wp_region_noPanic ?_
              refine wp_region_held_drew (S := fun W => W.heap[w.heap.size]? = some (.cells (leN (some ⟨b1, off1, none⟩) l.q.length c5 ({ l with s := (s0 : Int) } : LE)) 39 (0, 0)) ∧ W.cell? ⟨b1, off1 + k, none⟩ = some (.slice A1 p.length c1)) (by kernel_rfl) hS0 (fun h0 => ?_)
              refine wpAnyH_take (i := 0) (v := u9) rfl (by kernel_rfl) (by kernel_rfl) (by kernel_rfl) (fun _ _ _ h => h) (Or.inl ⟨by rfl, fun W hW => by rfl⟩) h0 ?_
              try simp only [Act.put, List.getElem?_toArray, List.getElem_toArray, List.getElem_cons_zero, List.getElem_cons_succ, List.setIfInBounds_toArray, List.set_cons_zero, List.set_cons_succ]
              refine wpAnyH_take (i := 1) (v := .pointer (some ⟨w.heap.size, 1, none⟩)) rfl (by kernel_rfl) (by kernel_rfl) (by kernel_rfl) (fun _ _ _ h => h) (Or.inl ⟨by rfl, fun W hW => by go_simp⟩) h0 ?_
              try simp only [Act.put, List.getElem?_toArray, List.getElem_toArray, List.getElem_cons_zero, List.getElem_cons_succ, List.setIfInBounds_toArray, List.set_cons_zero, List.set_cons_succ]
              refine wpAnyH_take (i := 2) (v := .int .i64 l.b) rfl (by kernel_rfl) (by kernel_rfl) (by kernel_rfl) (fun _ _ _ h => h) (Or.inl ⟨by rfl, fun W hW => by have hz : W.cell? ⟨w.heap.size, 1, none⟩ = some (.int .i64 l.b) := cellOf hW.1 rfl; go_simp⟩) h0 ?_
              try simp only [Act.put, List.getElem?_toArray, List.getElem_toArray, List.getElem_cons_zero, List.getElem_cons_succ, List.setIfInBounds_toArray, List.set_cons_zero, List.set_cons_succ]
              refine wpAnyH_take (i := 3) (v := .int .i64 (k : Int)) rfl (by kernel_rfl) (by kernel_rfl) (by kernel_rfl) (fun _ _ _ h => h) (Or.inl ⟨by rfl, fun W hW => by rfl⟩) h0 ?_
              try simp only [Act.put, List.getElem?_toArray, List.getElem_toArray, List.getElem_cons_zero, List.getElem_cons_succ, List.setIfInBounds_toArray, List.set_cons_zero, List.set_cons_succ]
              refine wpAnyH_take (i := 4) (v := .int .i64 (l.b + (k : Int))) rfl (by kernel_rfl) (by kernel_rfl) (by kernel_rfl) (fun _ _ _ h => h) (Or.inl ⟨by rfl, fun W hW => by go_simp⟩) h0 ?_
              try simp only [Act.put, List.getElem?_toArray, List.getElem_toArray, List.getElem_cons_zero, List.getElem_cons_succ, List.setIfInBounds_toArray, List.set_cons_zero, List.set_cons_succ]
              refine wpAnyH_take (i := 5) (v := .int .i64 V) rfl (by kernel_rfl) (by kernel_rfl) (by kernel_rfl) (fun _ _ _ h => h) (Or.inl ⟨by rfl, fun W hW => by go_simp⟩) h0 ?_
              try simp only [Act.put, List.getElem?_toArray, List.getElem_toArray, List.getElem_cons_zero, List.getElem_cons_succ, List.setIfInBounds_toArray, List.set_cons_zero, List.set_cons_succ]
              refine wpAnyH_take (i := 6) (v := .pointer (some ⟨w.heap.size, 3, none⟩)) rfl (by kernel_rfl) (by kernel_rfl) (by kernel_rfl) (fun _ _ _ h => h) (Or.inl ⟨by rfl, fun W hW => by go_simp⟩) h0 ?_
              try simp only [Act.put, List.getElem?_toArray, List.getElem_toArray, List.getElem_cons_zero, List.getElem_cons_succ, List.setIfInBounds_toArray, List.set_cons_zero, List.set_cons_succ]
              refine wpAnyH_take (i := 7) (v := .int .i64 l.x) rfl (by kernel_rfl) (by kernel_rfl) (by kernel_rfl) (fun _ _ _ h => h) (Or.inl ⟨by rfl, fun W hW => by have hz : W.cell? ⟨w.heap.size, 3, none⟩ = some (.int .i64 l.x) := cellOf hW.1 rfl; go_simp⟩) h0 ?_
              try simp only [Act.put, List.getElem?_toArray, List.getElem_toArray, List.getElem_cons_zero, List.getElem_cons_succ, List.setIfInBounds_toArray, List.set_cons_zero, List.set_cons_succ]
              refine wpAnyH_take (i := 9) (v := .pointer (some ⟨w.heap.size, 0, none⟩)) rfl (by kernel_rfl) (by kernel_rfl) (by kernel_rfl) (fun _ _ _ h => h) (Or.inl ⟨by rfl, fun W hW => by go_simp⟩) h0 ?_
              try simp only [Act.put, List.getElem?_toArray, List.getElem_toArray, List.getElem_cons_zero, List.getElem_cons_succ, List.setIfInBounds_toArray, List.set_cons_zero, List.set_cons_succ]
              refine wpAnyH_take (i := 10) (v := .slice (some ⟨b1, off1, none⟩) l.q.length c5) rfl (by kernel_rfl) (by kernel_rfl) (by kernel_rfl) (fun _ _ _ h => h) (Or.inl ⟨by rfl, fun W hW => by have hz : W.cell? ⟨w.heap.size, 0, none⟩ = some (.slice (some ⟨b1, off1, none⟩) l.q.length c5) := cellOf hW.1 rfl; go_simp⟩) h0 ?_
              try simp only [Act.put, List.getElem?_toArray, List.getElem_toArray, List.getElem_cons_zero, List.getElem_cons_succ, List.setIfInBounds_toArray, List.set_cons_zero, List.set_cons_succ]
              refine wpAnyH_take (i := 11) (v := .int .i64 (k : Int)) rfl (by kernel_rfl) (by kernel_rfl) (by kernel_rfl) (fun _ _ _ h => h) (Or.inl ⟨by rfl, fun W hW => by rfl⟩) h0 ?_
              try simp only [Act.put, List.getElem?_toArray, List.getElem_toArray, List.getElem_cons_zero, List.getElem_cons_succ, List.setIfInBounds_toArray, List.set_cons_zero, List.set_cons_succ]
              refine wpAnyH_take (i := 12) (v := .pointer (some ⟨b1, off1 + k, none⟩)) rfl (by kernel_rfl) (by kernel_rfl) (by kernel_rfl) (fun _ _ _ h => h) (Or.inl ⟨by rfl, fun W hW => by go_simp⟩) h0 ?_
              try simp only [Act.put, List.getElem?_toArray, List.getElem_toArray, List.getElem_cons_zero, List.getElem_cons_succ, List.setIfInBounds_toArray, List.set_cons_zero, List.set_cons_succ]
              refine wpAnyH_take (i := 13) (v := .slice A1 p.length c1) rfl (by kernel_rfl) (by kernel_rfl) (by kernel_rfl) (fun _ _ _ h => h) (Or.inl ⟨by rfl, fun W hW => by have hz := hW.2; go_simp⟩) h0 ?_
              try simp only [Act.put, List.getElem?_toArray, List.getElem_toArray, List.getElem_cons_zero, List.getElem_cons_succ, List.setIfInBounds_toArray, List.set_cons_zero, List.set_cons_succ]
              refine wpAnyH_ready (rs := [8]) (by kernel_rfl) (by simp) ?_
              refine AllReadyH.cons rfl (fun K hK => ?_) AllReadyH.nil
              go_simp
              have hz2 := fw_new wr.drew (.cells #[] 5)
              have hb2 : Below wr.heap.size wr (wr.drew.alloc (.cells #[] 5)) := ⟨hz2.os, hz2.tape, hz2.output, hz2.size, hz2.block⟩
              clear hz2
              refine hK.out _ _ ⟨blk_below hbr hb2, (hb2.cell (World.block_lt_of_cell? wr _ hc1)).trans hc1⟩ (fun h1 => ?_)
              clear hK
              try simp only [Act.put, List.getElem?_toArray, List.getElem_toArray, List.getElem_cons_zero, List.getElem_cons_succ, List.setIfInBounds_toArray, List.set_cons_zero, List.set_cons_succ]
              refine wpAnyH_ready (rs := [14]) (by kernel_rfl) (by simp) ?_
              refine AllReadyH.cons rfl (fun K hK => ?_) AllReadyH.nil
              rw [if_pos (by rfl)]
              refine wp_app _ (.tmp 57) (.tmp 62) 22 rfl wr.heap.size 5 (.int .u8 0) 1 1 Try.underlying22 info_u8 rfl (by decide) (by decide) (.slice (some ⟨wr.heap.size, 0, none⟩) 0 0) 0 [] rfl (own_fresh wr.drew wr.heap.size #[] _ (Nat.le_refl _) (by decide)) A1 p.length c1 (p.map B) rfl (by simp) HA1.out (RdC.below Hr1.out hb2) (by intro u hu; simp only [List.mem_map] at hu; obtain ⟨x, _, rfl⟩ := hu; rfl) (by simp; omega) (by simp) ?_
              intro v3 w3 ho3 hg3 hat3
              have hO3 : OwnB w3 wr.heap.size 5 v3 p := by unfold OwnB; simpa using ho3
              obtain ⟨A4, c4, rfl, hA4, hc4, hm4, _⟩ := own_form hO3
              have hR4 := own_rdp' hO3 (Nat.le_refl _)
              have hb3 : Below wr.heap.size wr w3 := hb2.grown hg3 hb2.size (fun k hk => by cases hk; exact Nat.le_refl _)
              refine hK.out _ _ ⟨blk_below hbr hb3, (hb3.cell (World.block_lt_of_cell? wr _ hc1)).trans hc1⟩ (fun h2 => ?_)
              clear hK
              try simp only [Act.put, List.getElem?_toArray, List.getElem_toArray, List.getElem_cons_zero, List.getElem_cons_succ, List.setIfInBounds_toArray, List.set_cons_zero, List.set_cons_succ]
              refine wpAnyH_take (i := 15) (v := .agg #[.bool true, .int .i64 V, .int .i64 l.x, .slice A4 p.length c4]) rfl (by kernel_rfl) (by kernel_rfl) (by kernel_rfl) (fun _ _ _ h => h) (Or.inl ⟨by rfl, fun W hW => by go_simp⟩) h2 ?_
              try simp only [Act.put, List.getElem?_toArray, List.getElem_toArray, List.getElem_cons_zero, List.getElem_cons_succ, List.setIfInBounds_toArray, List.set_cons_zero, List.set_cons_succ]
              refine wpAnyH_ready (rs := [16]) (by kernel_rfl) (by simp) ?_
              refine AllReadyH.cons rfl (fun K hK => ?_) AllReadyH.nil
              go_simp
              have hb4 : Below wr.heap.size wr (w3.alloc (.cells #[.bool true, .int .i64 V, .int .i64 l.x, .slice A4 p.length c4] 24)) := fw_al hb3 _
              refine hK.out _ _ ⟨blk_below hbr hb4, (hb4.cell (World.block_lt_of_cell? wr _ hc1)).trans hc1⟩ (fun h3 => ?_)
              clear hK
              try simp only [Act.put, List.getElem?_toArray, List.getElem_toArray, List.getElem_cons_zero, List.getElem_cons_succ, List.setIfInBounds_toArray, List.set_cons_zero, List.set_cons_succ]
              refine wpAnyH_ready (rs := [17]) (by kernel_rfl) (by simp) ?_
              refine AllReadyH.cons rfl (fun K hK => ?_) AllReadyH.nil
              rw [if_pos (by rfl)]
              have hown4 := own_below HFr.out.own hb4
              refine wp_app _ (.tmp 49) (.tmp 65) 35 rfl W5.heap.size 24 (.agg #[.bool false, .int .i64 0, .int .i64 0, .slice none 0 0]) 4 48 Try.underlying35 info_fr rfl (by decide) (by decide) u9 xs.length (flatF xs) rfl hown4 (some ⟨w3.heap.size, 0, none⟩) 1 1 [.bool true, .int .i64 V, .int .i64 l.x, .slice A4 p.length c4] rfl rfl (fun e => by cases e) (RdC.new w3 #[.bool true, .int .i64 V, .int .i64 l.x, .slice A4 p.length c4] 24 (0, 0)) (by simp [Value.oneCell']) (by omega) (Nat.le_trans hwn hb4.size) ?_
              intro v5 w5 ho5 hg5 hat5
              have hlt5 := own_lt HFr.out.own
              have hb5 : Below W5.heap.size W5 w5 := (fw_trans hB1 hb4).grown hg5 (fw_trans hB1 hb4).size (fun k hk => (hlt5 k hk).1)
              have hc5' : w5.cell? ⟨b1, off1 + k, none⟩ = some (.slice A1 p.length c1) := (hb5.cell hltn).trans hc1n
              refine hK.out _ _ ⟨blk_below HW5 hb5, hc5'⟩ (fun h4 => ?_)
              clear hK
              try simp only [Act.put, List.getElem?_toArray, List.getElem_toArray, List.getElem_cons_zero, List.getElem_cons_succ, List.setIfInBounds_toArray, List.set_cons_zero, List.set_cons_succ]
              refine wpAnyH_take (i := 18) (v := v5) rfl (by kernel_rfl) (by kernel_rfl) (by kernel_rfl) (fun _ _ _ h => h) (Or.inl ⟨by rfl, fun W hW => by rfl⟩) h4 ?_
              try simp only [Act.put, List.getElem?_toArray, List.getElem_toArray, List.getElem_cons_zero, List.getElem_cons_succ, List.setIfInBounds_toArray, List.set_cons_zero, List.set_cons_succ]
              refine wpAnyH_done (by kernel_rfl) ?_ _
              refine NoPanic.normal ?_
              have hF5 : RowF w5 W5.heap.size v5 (xs ++ [(⟨⟨true, V, l.x, p⟩, A4, c4⟩ : FrE)]) := rowF_push HFr.out hb3 ⟨hA4, hc4, hm4, hR4⟩ ho5 hg5 hat5 hwn
              have HF5 := Lib.hid hF5
              clear h0 h1 h2 h3 h4 ho5 hg5 hat5 hF5 HFr
              go_wp2_with fail
              go_roundw
              case rel =>
                refine ⟨xs ++ [(⟨⟨true, V, l.x, p⟩, A4, c4⟩ : FrE)], k + 1, by go_num, by omega, by omega, Lib.hid ?_, HF5.out, hb5⟩
                rw [← Hpre.out, Hstep.out]
                simp
              case measure => simp [intOf]; omega
            · have hkl : ((k : Int) < (M : Int)) = False := eq_false (by omega)
              obtain rfl : k = M := by omega
              obtain ⟨m, hm⟩ : ∃ m, xs.length = m := ⟨_, rfl⟩
              have hfs : xs.map (·.f) = framesE l now := by
                have h1 := Hpre.out
                rw [Nat.sub_self] at h1
                unfold framesE
                rw [hM, Hse.out, ← h1]
                simp [unsGo]
              obtain ⟨A6, c6, rfl, _⟩ := hF.form
              rw [hm] at hF
              have HE := Lib.hid hPE.out
              rw [hM, Hse.out] at HE
              have hRr := blk_below hRn hB1
              have hZ := pollZ_of w.heap.size hB1
              have hm7 : m ≤ 7 := by omega
              have HFS := Lib.hid hfs
              clear Hpre hfs HRd hPE Hse
              by_cases hm0 : 0 < m
              · have hmt : (0 < m) = True := eq_true hm0
                have HE2 : Hid (pollE l now = ({ l with s := (k : Int), d := now + 3, o := false }, framesE l now, 0)) := Lib.hid (by rw [HE.out, if_pos (by omega)])
                go_wp2_with (first | (refine wpList_store_field rfl 3 (.tmp 71) (.tmp 70) rfl w.heap.size 2 (.int .i64 (k : Int)) rfl rfl rfl 39 _ hbr (by simp [leN, leCells]) (by kernel_rfl) ?_; intro W7 hW7 u7; have HW7 := (show W7.heap[w.heap.size]? = some (.cells (leN A5 l.q.length c5 ({ l with s := (k : Int) } : LE)) 39 (0, 0)) from hW7); clear hW7) | (refine wpList_store_field rfl 3 (.tmp 74) (.tmp 73) rfl w.heap.size 5 (.int .i64 (now + 3)) rfl rfl rfl 39 _ HW7 (by simp [leN, leCells]) (by kernel_rfl) ?_; intro W8 hW8 u8; have HW8 := (show W8.heap[w.heap.size]? = some (.cells (leN A5 l.q.length c5 ({ l with s := (k : Int), d := now + 3 } : LE)) 39 (0, 0)) from hW8); clear hW8) | (refine wpList_store_field rfl 4 (.tmp 75) (.const (.bool false)) rfl w.heap.size 4 (.bool false) rfl rfl rfl 39 _ HW8 (by simp [leN, leCells]) (by kernel_rfl) ?_; intro W9 hW9 u9; have HW9 := (show W9.heap[w.heap.size]? = some (.cells (leN A5 l.q.length c5 ({ l with s := (k : Int), d := now + 3, o := false } : LE)) 39 (0, 0)) from hW9); clear hW9; have hRz := ((u9.other (w.heap.size + 1) (by omega)).trans ((u8.other (w.heap.size + 1) (by omega)).trans ((u7.other (w.heap.size + 1) (by omega)).trans hRr)))) | (refine wpList_load_row rfl 39 (.tmp 2) rfl w.heap.size rfl 39 (leN A5 l.q.length c5 ({ l with s := (k : Int), d := now + 3, o := false } : LE)) (0, 0) _ HW9 Try.underlying39 rfl le_size ?_) | (refine wpList_store_row rfl 39 (.tmp 4) (.tmp 85) rfl (w.heap.size + 1) (leN A5 l.q.length c5 ({ l with s := (k : Int), d := now + 3, o := false } : LE)) rfl rfl 39 _ hRz le_size rfl (le_one _ _ _ _) ?_))
                (try simp only [Exit.inBlock, Exit.then])
                refine bodyPost_ret (res_ctt rfl _ _ (w.heap.size + 1) _ (leN A5 l.q.length c5 ({ l with s := (k : Int), d := now + 3, o := false } : LE)) _ _ rfl (setRow_heap _ _ _ _ _ _ hRz) Try.underlying39 rfl le_size) rfl ?_
                refine rpoll_end (wr := wr) HE2.out rfl rfl HRow.out hsz hF HFS.out hm hBn hsn (((hZ.upd u7 (.inl rfl)).upd u8 (.inl rfl)).upd u9 (.inl rfl)) ?_
                exact fun k hk => by rw [u9.other k hk, u8.other k hk, u7.other k hk]
              · obtain rfl : m = 0 := by omega
                obtain rfl : xs = [] := List.eq_nil_of_length_eq_zero hm
                obtain rfl : k = s0 := by omega
                have hmt : ((0 : Int) < ((0 : Nat) : Int)) = False := eq_false (by omega)
                rw [if_neg (by omega)] at HE
                have c3 : wr.cell? ⟨w.heap.size, 3, none⟩ = some (.int .i64 l.x) := cellOf (i := 3) hbr rfl
                have c4 : wr.cell? ⟨w.heap.size, 4, none⟩ = some (.bool l.o) := cellOf (i := 4) hbr rfl
                cases hlo : l.o with
                | false =>
                  rw [hlo] at c4
                  have hL9 : (({ l with s := (k : Int) } : LE)) = ({ l with s := (k : Int), o := false } : LE) := by rw [← hlo]
                  have HE2 : Hid (pollE l now = ({ l with s := (k : Int), o := false }, [], 0)) := Lib.hid (by rw [HE.out, if_neg (by simp [hlo])])
                  rw [hL9] at hbr
                  have hRz := hRr
                  go_wp2_with (first | (refine wpList_load_row rfl 39 (.tmp 2) rfl w.heap.size rfl 39 (leN A5 l.q.length c5 ({ l with s := (k : Int), o := false } : LE)) (0, 0) _ hbr Try.underlying39 rfl le_size ?_) | (refine wpList_store_row rfl 39 (.tmp 4) (.tmp 85) rfl (w.heap.size + 1) (leN A5 l.q.length c5 ({ l with s := (k : Int), o := false } : LE)) rfl rfl 39 _ hRz le_size rfl (le_one _ _ _ _) ?_))
                  (try simp only [Exit.inBlock, Exit.then])
                  refine bodyPost_ret (res_ctt rfl _ _ (w.heap.size + 1) _ (leN A5 l.q.length c5 ({ l with s := (k : Int), o := false } : LE)) _ _ rfl (setRow_heap _ _ _ _ _ _ hRz) Try.underlying39 rfl le_size) rfl ?_
                  exact rpoll_end (wr := wr) HE2.out rfl rfl HRow.out hsz hF rfl rfl hBn hsn hZ (fun _ _ => rfl)
                | true =>
                  rw [hlo] at c4
                  have HE2 : Hid (pollE l now = ({ l with s := (k : Int), o := false }, [⟨false, 0, l.x, []⟩], 0)) := Lib.hid (by rw [HE.out, if_pos hlo])
                  have HFr := Lib.hid hF
                  have hwn := hB1.size
                  have hlt5 := own_lt hF.own
                  clear hF
                  go_wp2_with (first | (at_builtin; refine app_own _ rfl (.tmp 78) (.tmp 82) 35 rfl W5.heap.size 24 (.agg #[.bool false, .int .i64 0, .int .i64 0, .slice none 0 0]) 4 48 Try.underlying35 info_fr rfl (by decide) (by decide) (.slice A6 0 c6) 0 (flatF []) rfl (HFr.out.own.alloc _) (some ⟨wr.heap.size, 0, none⟩) 1 1 [.bool false, .int .i64 0, .int .i64 l.x, .slice none 0 0] rfl rfl (fun e => by cases e) (RdC.new wr #[.bool false, .int .i64 0, .int .i64 l.x, .slice none 0 0] 24 (0, 0)) (by simp [Value.oneCell']) (by omega) (by simp; omega) ?_; intro v7 W7 ho7 hg7 hat7; have hb7 := (fw_al hB1 _).grown hg7 (fw_al hB1 _).size (fun k hk => (hlt5 k hk).1); have hbr7 := blk_below HW5 hb7; have hRr7 := blk_below hRn hb7; have hF7 := rowF_push (x := ⟨⟨false, 0, l.x, []⟩, none, 0⟩) HFr.out (Below.refl _ _) ⟨fun _ => rfl, Nat.le_refl _, Nat.zero_le _, .inl rfl⟩ ho7 hg7 hat7 hwn; obtain ⟨g7, c7, rfl⟩ := ownsRow_succ ho7; have HF7 := Lib.hid hF7; clear ho7 hg7 hat7 hF7) | (refine wpList_store_field rfl 4 (.tmp 84) (.const (.bool false)) rfl w.heap.size 4 (.bool false) rfl rfl rfl 39 _ hbr7 (by simp [leN, leCells]) (by kernel_rfl) ?_; intro W9 hW9 u9; have HW9 := (show W9.heap[w.heap.size]? = some (.cells (leN A5 l.q.length c5 ({ l with s := (k : Int), o := false } : LE)) 39 (0, 0)) from hW9); clear hW9; have hRz := ((u9.other (w.heap.size + 1) (by omega)).trans hRr7)) | (refine wpList_load_row rfl 39 (.tmp 2) rfl w.heap.size rfl 39 (leN A5 l.q.length c5 ({ l with s := (k : Int), o := false } : LE)) (0, 0) _ HW9 Try.underlying39 rfl le_size ?_) | (refine wpList_store_row rfl 39 (.tmp 4) (.tmp 85) rfl (w.heap.size + 1) (leN A5 l.q.length c5 ({ l with s := (k : Int), o := false } : LE)) rfl rfl 39 _ hRz le_size rfl (le_one _ _ _ _) ?_))
                  (try simp only [Exit.inBlock, Exit.then])
                  refine bodyPost_ret (res_ctt rfl _ _ (w.heap.size + 1) _ (leN A5 l.q.length c5 ({ l with s := (k : Int), o := false } : LE)) _ _ rfl (setRow_heap _ _ _ _ _ _ hRz) Try.underlying39 rfl le_size) rfl ?_
                  exact rpoll_end (wr := W7) HE2.out rfl rfl HRow.out hsz HF7.out rfl rfl hBn hsn ((pollZ_of w.heap.size hb7).upd u9 (.inl rfl)) (fun k hk => u9.other k hk)
        · have gd : (0 ≤ l.d) = False := eq_false hd0
          clear hx
          go_wp2_with (first | (refine wpList_store_field rfl 37 (.tmp 27) (.tmp 26) rfl w.heap.size 0 (.slice A5 l.q.length c5) rfl rfl rfl 39 _ hP4 (by simp [leN, leCells]) (by kernel_rfl) ?_; intro W5 hW5 u5; have HW5 := (show W5.heap[w.heap.size]? = some (.cells (leN A5 l.q.length c5 ({ l with s := (s0 : Int) } : LE)) 39 (0, 0)) from hW5); clear hW5; have c0 : W5.cell? ⟨w.heap.size, 0, none⟩ = some (.slice A5 l.q.length c5) := cellOf HW5 rfl; have c2 : W5.cell? ⟨w.heap.size, 2, none⟩ = some (.int .i64 (s0 : Int)) := cellOf HW5 rfl; have c5' : W5.cell? ⟨w.heap.size, 5, none⟩ = some (.int .i64 l.d) := cellOf HW5 rfl))
          clear c0 c2 c5'
          have hRn := ((u5.other (w.heap.size + 1) (by omega)).trans hRr4)
          have hBn := (u5.below hB4 (Nat.le_refl _))
          have hsn : w.heap.size + 2 ≤ W5.heap.size := by rw [u5.size]; omega
          have hRow : RowB W5 W.heap.size 22 (.slice A5 l.q.length c5) l.q := HR4.out.move fun k hk _ => by rw [u5.other k (by omega)]
          obtain ⟨_, _, eRd, _, _, _, hRd⟩ := RowB.form hRow
          simp only [Value.slice.injEq] at eRd
          obtain ⟨rfl, _, rfl⟩ := eRd
          have HRow := Lib.hid hRow
          have HRd := Lib.hid hRd
          have hsM : s0 ≤ M := by omega
          clear hRow hRd HR4 hRr4 hB4 hP4 u5
          try simp only [hMi]
          go_loopw [9, 10] (fun v j wr => ∃ (xs : List FrE) (k : Nat), j = .int .i64 (k : Int) ∧ s0 ≤ k ∧ k ≤ M ∧ Hid (xs.map (·.f) ++ unsGo l (M - k) k = unsGo l (M - s0) s0) ∧ RowF wr W5.heap.size v xs ∧ Below W5.heap.size W5 wr) (fun _ j _ => M - (intOf j).toNat)
          case atStart => exact ⟨[], s0, rfl, Nat.le_refl _, hsM, Lib.hid rfl, RowF.nil _ _, Below.refl _ _⟩
          case round =>
            obtain ⟨xs, k, rfl, hk1, hk2, Hpre, hF, hB1⟩ := hrel
            have hbr := blk_below HW5 hB1
            have hlx : xs.length + s0 = k := by have h1 := congrArg List.length Hpre.out; simp only [List.length_append, List.length_map, unsGo_len] at h1; omega
            by_cases hlt : k < M
            · have hkl : ((k : Int) < (M : Int)) = True := eq_true (by omega)
              have hq7 : k < l.q.length ∧ k < 7 := by omega
              obtain ⟨b1, off1, A1, c1, rfl, hc1n, hz1, hz2, hA1, hr1n⟩ := HRd.out.at k hq7.1
              have hltn := World.block_lt_of_cell? W5 _ hc1n
              have hc1 := (hB1.cell hltn).trans hc1n
              have hr1 := RdC.below hr1n hB1
              have hp3 := H3.out k hq7.1
              have hstep := unsGo_step l M k hlt hq7.1
              generalize l.q[k] = p at *
              obtain ⟨V, hV⟩ : ∃ V : Int, sPlus l.b (k : Int) = V := ⟨_, rfl⟩
              have m1 : Int.tmod (l.b + (k : Int)) 16 = V := by rw [← hV, sPlus_mod (by omega), Int.tmod_eq_emod_of_nonneg (by omega)]
              have m2 : (l.b + (k : Int)) % 16 = V := by rw [← hV, sPlus_mod (by omega)]
              rw [hV] at hstep
              have Hstep := Lib.hid hstep
              have HFr := Lib.hid hF
              have HA1 := Lib.hid hA1
              clear hr1n
              have Hr1 := Lib.hid hr1
              have hqk := hq7.1
              have hk7 := hq7.2
              have hlenx : xs.length < 7 := by omega
              have hwn := hB1.size
              have hwr : IntKind.i64.wrap (l.b + (k : Int)) = l.b + (k : Int) := by rw [IntKind.wrap_i64]; omega
              have hS0 : (fun W => W.heap[w.heap.size]? = some (.cells (leN (some ⟨b1, off1, none⟩) l.q.length c5 ({ l with s := (s0 : Int) } : LE)) 39 (0, 0)) ∧ W.cell? ⟨b1, off1 + k, none⟩ = some (.slice A1 p.length c1)) wr.drew := ⟨hbr, hc1⟩
              clear hstep hV hF hA1 hr1 hq7 hk1 hk2
              go_wp2_with fail
              refine wp_region_noPanic ?_
              refine wp_region_held_drew (S := fun W => W.heap[w.heap.size]? = some (.cells (leN (some ⟨b1, off1, none⟩) l.q.length c5 ({ l with s := (s0 : Int) } : LE)) 39 (0, 0)) ∧ W.cell? ⟨b1, off1 + k, none⟩ = some (.slice A1 p.length c1)) (by kernel_rfl) hS0 (fun h0 => ?_)
              refine wpAnyH_take (i := 0) (v := u9) rfl (by kernel_rfl) (by kernel_rfl) (by kernel_rfl) (fun _ _ _ h => h) (Or.inl ⟨by rfl, fun W hW => by rfl⟩) h0 ?_
              try simp only [Act.put, List.getElem?_toArray, List.getElem_toArray, List.getElem_cons_zero, List.getElem_cons_succ, List.setIfInBounds_toArray, List.set_cons_zero, List.set_cons_succ]
              refine wpAnyH_take (i := 1) (v := .pointer (some ⟨w.heap.size, 1, none⟩)) rfl (by kernel_rfl) (by kernel_rfl) (by kernel_rfl) (fun _ _ _ h => h) (Or.inl ⟨by rfl, fun W hW => by go_simp⟩) h0 ?_
              try simp only [Act.put, List.getElem?_toArray, List.getElem_toArray, List.getElem_cons_zero, List.getElem_cons_succ, List.setIfInBounds_toArray, List.set_cons_zero, List.set_cons_succ]
              refine wpAnyH_take (i := 2) (v := .int .i64 l.b) rfl (by kernel_rfl) (by kernel_rfl) (by kernel_rfl) (fun _ _ _ h => h) (Or.inl ⟨by rfl, fun W hW => by have hz : W.cell? ⟨w.heap.size, 1, none⟩ = some (.int .i64 l.b) := cellOf hW.1 rfl; go_simp⟩) h0 ?_
              try simp only [Act.put, List.getElem?_toArray, List.getElem_toArray, List.getElem_cons_zero, List.getElem_cons_succ, List.setIfInBounds_toArray, List.set_cons_zero, List.set_cons_succ]
              refine wpAnyH_take (i := 3) (v := .int .i64 (k : Int)) rfl (by kernel_rfl) (by kernel_rfl) (by kernel_rfl) (fun _ _ _ h => h) (Or.inl ⟨by rfl, fun W hW => by rfl⟩) h0 ?_
              try simp only [Act.put, List.getElem?_toArray, List.getElem_toArray, List.getElem_cons_zero, List.getElem_cons_succ, List.setIfInBounds_toArray, List.set_cons_zero, List.set_cons_succ]
              refine wpAnyH_take (i := 4) (v := .int .i64 (l.b + (k : Int))) rfl (by kernel_rfl) (by kernel_rfl) (by kernel_rfl) (fun _ _ _ h => h) (Or.inl ⟨by rfl, fun W hW => by go_simp⟩) h0 ?_
              try simp only [Act.put, List.getElem?_toArray, List.getElem_toArray, List.getElem_cons_zero, List.getElem_cons_succ, List.setIfInBounds_toArray, List.set_cons_zero, List.set_cons_succ]
              refine wpAnyH_take (i := 5) (v := .int .i64 V) rfl (by kernel_rfl) (by kernel_rfl) (by kernel_rfl) (fun _ _ _ h => h) (Or.inl ⟨by rfl, fun W hW => by go_simp⟩) h0 ?_
              try simp only [Act.put, List.getElem?_toArray, List.getElem_toArray, List.getElem_cons_zero, List.getElem_cons_succ, List.setIfInBounds_toArray, List.set_cons_zero, List.set_cons_succ]
              refine wpAnyH_take (i := 6) (v := .pointer (some ⟨w.heap.size, 3, none⟩)) rfl (by kernel_rfl) (by kernel_rfl) (by kernel_rfl) (fun _ _ _ h => h) (Or.inl ⟨by rfl, fun W hW => by go_simp⟩) h0 ?_
              try simp only [Act.put, List.getElem?_toArray, List.getElem_toArray, List.getElem_cons_zero, List.getElem_cons_succ, List.setIfInBounds_toArray, List.set_cons_zero, List.set_cons_succ]
              refine wpAnyH_take (i := 7) (v := .int .i64 l.x) rfl (by kernel_rfl) (by kernel_rfl) (by kernel_rfl) (fun _ _ _ h => h) (Or.inl ⟨by rfl, fun W hW => by have hz : W.cell? ⟨w.heap.size, 3, none⟩ = some (.int .i64 l.x) := cellOf hW.1 rfl; go_simp⟩) h0 ?_
              try simp only [Act.put, List.getElem?_toArray, List.getElem_toArray, List.getElem_cons_zero, List.getElem_cons_succ, List.setIfInBounds_toArray, List.set_cons_zero, List.set_cons_succ]
              refine wpAnyH_take (i := 9) (v := .pointer (some ⟨w.heap.size, 0, none⟩)) rfl (by kernel_rfl) (by kernel_rfl) (by kernel_rfl) (fun _ _ _ h => h) (Or.inl ⟨by rfl, fun W hW => by go_simp⟩) h0 ?_
              try simp only [Act.put, List.getElem?_toArray, List.getElem_toArray, List.getElem_cons_zero, List.getElem_cons_succ, List.setIfInBounds_toArray, List.set_cons_zero, List.set_cons_succ]
              refine wpAnyH_take (i := 10) (v := .slice (some ⟨b1, off1, none⟩) l.q.length c5) rfl (by kernel_rfl) (by kernel_rfl) (by kernel_rfl) (fun _ _ _ h => h) (Or.inl ⟨by rfl, fun W hW => by have hz : W.cell? ⟨w.heap.size, 0, none⟩ = some (.slice (some ⟨b1, off1, none⟩) l.q.length c5) := cellOf hW.1 rfl; go_simp⟩) h0 ?_
              try simp only [Act.put, List.getElem?_toArray, List.getElem_toArray, List.getElem_cons_zero, List.getElem_cons_succ, List.setIfInBounds_toArray, List.set_cons_zero, List.set_cons_succ]
              refine wpAnyH_take (i := 11) (v := .int .i64 (k : Int)) rfl (by kernel_rfl) (by kernel_rfl) (by kernel_rfl) (fun _ _ _ h => h) (Or.inl ⟨by rfl, fun W hW => by rfl⟩) h0 ?_
              try simp only [Act.put, List.getElem?_toArray, List.getElem_toArray, List.getElem_cons_zero, List.getElem_cons_succ, List.setIfInBounds_toArray, List.set_cons_zero, List.set_cons_succ]
              refine wpAnyH_take (i := 12) (v := .pointer (some ⟨b1, off1 + k, none⟩)) rfl (by kernel_rfl) (by kernel_rfl) (by kernel_rfl) (fun _ _ _ h => h) (Or.inl ⟨by rfl, fun W hW => by go_simp⟩) h0 ?_
              try simp only [Act.put, List.getElem?_toArray, List.getElem_toArray, List.getElem_cons_zero, List.getElem_cons_succ, List.setIfInBounds_toArray, List.set_cons_zero, List.set_cons_succ]
              refine wpAnyH_take (i := 13) (v := .slice A1 p.length c1) rfl (by kernel_rfl) (by kernel_rfl) (by kernel_rfl) (fun _ _ _ h => h) (Or.inl ⟨by rfl, fun W hW => by have hz := hW.2; go_simp⟩) h0 ?_
              try simp only [Act.put, List.getElem?_toArray, List.getElem_toArray, List.getElem_cons_zero, List.getElem_cons_succ, List.setIfInBounds_toArray, List.set_cons_zero, List.set_cons_succ]
              refine wpAnyH_ready (rs := [8]) (by kernel_rfl) (by simp) ?_
              refine AllReadyH.cons rfl (fun K hK => ?_) AllReadyH.nil
              go_simp
              have hz2 := fw_new wr.drew (.cells #[] 5)
              have hb2 : Below wr.heap.size wr (wr.drew.alloc (.cells #[] 5)) := ⟨hz2.os, hz2.tape, hz2.output, hz2.size, hz2.block⟩
              clear hz2
              refine hK.out _ _ ⟨blk_below hbr hb2, (hb2.cell (World.block_lt_of_cell? wr _ hc1)).trans hc1⟩ (fun h1 => ?_)
              clear hK
              try simp only [Act.put, List.getElem?_toArray, List.getElem_toArray, List.getElem_cons_zero, List.getElem_cons_succ, List.setIfInBounds_toArray, List.set_cons_zero, List.set_cons_succ]
              refine wpAnyH_ready (rs := [14]) (by kernel_rfl) (by simp) ?_
              refine AllReadyH.cons rfl (fun K hK => ?_) AllReadyH.nil
              rw [if_pos (by rfl)]
              refine wp_app _ (.tmp 57) (.tmp 62) 22 rfl wr.heap.size 5 (.int .u8 0) 1 1 Try.underlying22 info_u8 rfl (by decide) (by decide) (.slice (some ⟨wr.heap.size, 0, none⟩) 0 0) 0 [] rfl (own_fresh wr.drew wr.heap.size #[] _ (Nat.le_refl _) (by decide)) A1 p.length c1 (p.map B) rfl (by simp) HA1.out (RdC.below Hr1.out hb2) (by intro u hu; simp only [List.mem_map] at hu; obtain ⟨x, _, rfl⟩ := hu; rfl) (by simp; omega) (by simp) ?_
              intro v3 w3 ho3 hg3 hat3
              have hO3 : OwnB w3 wr.heap.size 5 v3 p := by unfold OwnB; simpa using ho3
              obtain ⟨A4, c4, rfl, hA4, hc4, hm4, _⟩ := own_form hO3
              have hR4 := own_rdp' hO3 (Nat.le_refl _)
              have hb3 : Below wr.heap.size wr w3 := hb2.grown hg3 hb2.size (fun k hk => by cases hk; exact Nat.le_refl _)
              refine hK.out _ _ ⟨blk_below hbr hb3, (hb3.cell (World.block_lt_of_cell? wr _ hc1)).trans hc1⟩ (fun h2 => ?_)
              clear hK
              try simp only [Act.put, List.getElem?_toArray, List.getElem_toArray, List.getElem_cons_zero, List.getElem_cons_succ, List.setIfInBounds_toArray, List.set_cons_zero, List.set_cons_succ]
              refine wpAnyH_take (i := 15) (v := .agg #[.bool true, .int .i64 V, .int .i64 l.x, .slice A4 p.length c4]) rfl (by kernel_rfl) (by kernel_rfl) (by kernel_rfl) (fun _ _ _ h => h) (Or.inl ⟨by rfl, fun W hW => by go_simp⟩) h2 ?_
              try simp only [Act.put, List.getElem?_toArray, List.getElem_toArray, List.getElem_cons_zero, List.getElem_cons_succ, List.setIfInBounds_toArray, List.set_cons_zero, List.set_cons_succ]
              refine wpAnyH_ready (rs := [16]) (by kernel_rfl) (by simp) ?_
              refine AllReadyH.cons rfl (fun K hK => ?_) AllReadyH.nil
              go_simp
              have hb4 : Below wr.heap.size wr (w3.alloc (.cells #[.bool true, .int .i64 V, .int .i64 l.x, .slice A4 p.length c4] 24)) := fw_al hb3 _
              refine hK.out _ _ ⟨blk_below hbr hb4, (hb4.cell (World.block_lt_of_cell? wr _ hc1)).trans hc1⟩ (fun h3 => ?_)
              clear hK
              try simp only [Act.put, List.getElem?_toArray, List.getElem_toArray, List.getElem_cons_zero, List.getElem_cons_succ, List.setIfInBounds_toArray, List.set_cons_zero, List.set_cons_succ]
              refine wpAnyH_ready (rs := [17]) (by kernel_rfl) (by simp) ?_
              refine AllReadyH.cons rfl (fun K hK => ?_) AllReadyH.nil
              rw [if_pos (by rfl)]
              have hown4 := own_below HFr.out.own hb4
              refine wp_app _ (.tmp 49) (.tmp 65) 35 rfl W5.heap.size 24 (.agg #[.bool false, .int .i64 0, .int .i64 0, .slice none 0 0]) 4 48 Try.underlying35 info_fr rfl (by decide) (by decide) u9 xs.length (flatF xs) rfl hown4 (some ⟨w3.heap.size, 0, none⟩) 1 1 [.bool true, .int .i64 V, .int .i64 l.x, .slice A4 p.length c4] rfl rfl (fun e => by cases e) (RdC.new w3 #[.bool true, .int .i64 V, .int .i64 l.x, .slice A4 p.length c4] 24 (0, 0)) (by simp [Value.oneCell']) (by omega) (Nat.le_trans hwn hb4.size) ?_
              intro v5 w5 ho5 hg5 hat5
              have hlt5 := own_lt HFr.out.own
              have hb5 : Below W5.heap.size W5 w5 := (fw_trans hB1 hb4).grown hg5 (fw_trans hB1 hb4).size (fun k hk => (hlt5 k hk).1)
              have hc5' : w5.cell? ⟨b1, off1 + k, none⟩ = some (.slice A1 p.length c1) := (hb5.cell hltn).trans hc1n
              refine hK.out _ _ ⟨blk_below HW5 hb5, hc5'⟩ (fun h4 => ?_)
              clear hK
              try simp only [Act.put, List.getElem?_toArray, List.getElem_toArray, List.getElem_cons_zero, List.getElem_cons_succ, List.setIfInBounds_toArray, List.set_cons_zero, List.set_cons_succ]
              refine wpAnyH_take (i := 18) (v := v5) rfl (by kernel_rfl) (by kernel_rfl) (by kernel_rfl) (fun _ _ _ h => h) (Or.inl ⟨by rfl, fun W hW => by rfl⟩) h4 ?_
              try simp only [Act.put, List.getElem?_toArray, List.getElem_toArray, List.getElem_cons_zero, List.getElem_cons_succ, List.setIfInBounds_toArray, List.set_cons_zero, List.set_cons_succ]
              refine wpAnyH_done (by kernel_rfl) ?_ _
              refine NoPanic.normal ?_
              have hF5 : RowF w5 W5.heap.size v5 (xs ++ [(⟨⟨true, V, l.x, p⟩, A4, c4⟩ : FrE)]) := rowF_push HFr.out hb3 ⟨hA4, hc4, hm4, hR4⟩ ho5 hg5 hat5 hwn
              have HF5 := Lib.hid hF5
              clear h0 h1 h2 h3 h4 ho5 hg5 hat5 hF5 HFr
              go_wp2_with fail
              go_roundw
              case rel =>
                refine ⟨xs ++ [(⟨⟨true, V, l.x, p⟩, A4, c4⟩ : FrE)], k + 1, by go_num, by omega, by omega, Lib.hid ?_, HF5.out, hb5⟩
                rw [← Hpre.out, Hstep.out]
                simp
              case measure => simp [intOf]; omega
            · have hkl : ((k : Int) < (M : Int)) = False := eq_false (by omega)
              obtain rfl : k = M := by omega
              obtain ⟨m, hm⟩ : ∃ m, xs.length = m := ⟨_, rfl⟩
              have hfs : xs.map (·.f) = framesE l now := by
                have h1 := Hpre.out
                rw [Nat.sub_self] at h1
                unfold framesE
                rw [hM, Hse.out, ← h1]
                simp [unsGo]
              obtain ⟨A6, c6, rfl, _⟩ := hF.form
              rw [hm] at hF
              have HE := Lib.hid hPE.out
              rw [hM, Hse.out] at HE
              have hRr := blk_below hRn hB1
              have hZ := pollZ_of w.heap.size hB1
              have hm7 : m ≤ 7 := by omega
              have HFS := Lib.hid hfs
              clear Hpre hfs HRd hPE Hse
              by_cases hm0 : 0 < m
              · have hmt : (0 < m) = True := eq_true hm0
                have HE2 : Hid (pollE l now = ({ l with s := (k : Int), d := now + 3, o := false }, framesE l now, 0)) := Lib.hid (by rw [HE.out, if_pos (by omega)])
                go_wp2_with (first | (refine wpList_store_field rfl 3 (.tmp 71) (.tmp 70) rfl w.heap.size 2 (.int .i64 (k : Int)) rfl rfl rfl 39 _ hbr (by simp [leN, leCells]) (by kernel_rfl) ?_; intro W7 hW7 u7; have HW7 := (show W7.heap[w.heap.size]? = some (.cells (leN A5 l.q.length c5 ({ l with s := (k : Int) } : LE)) 39 (0, 0)) from hW7); clear hW7) | (refine wpList_store_field rfl 3 (.tmp 74) (.tmp 73) rfl w.heap.size 5 (.int .i64 (now + 3)) rfl rfl rfl 39 _ HW7 (by simp [leN, leCells]) (by kernel_rfl) ?_; intro W8 hW8 u8; have HW8 := (show W8.heap[w.heap.size]? = some (.cells (leN A5 l.q.length c5 ({ l with s := (k : Int), d := now + 3 } : LE)) 39 (0, 0)) from hW8); clear hW8) | (refine wpList_store_field rfl 4 (.tmp 75) (.const (.bool false)) rfl w.heap.size 4 (.bool false) rfl rfl rfl 39 _ HW8 (by simp [leN, leCells]) (by kernel_rfl) ?_; intro W9 hW9 u9; have HW9 := (show W9.heap[w.heap.size]? = some (.cells (leN A5 l.q.length c5 ({ l with s := (k : Int), d := now + 3, o := false } : LE)) 39 (0, 0)) from hW9); clear hW9; have hRz := ((u9.other (w.heap.size + 1) (by omega)).trans ((u8.other (w.heap.size + 1) (by omega)).trans ((u7.other (w.heap.size + 1) (by omega)).trans hRr)))) | (refine wpList_load_row rfl 39 (.tmp 2) rfl w.heap.size rfl 39 (leN A5 l.q.length c5 ({ l with s := (k : Int), d := now + 3, o := false } : LE)) (0, 0) _ HW9 Try.underlying39 rfl le_size ?_) | (refine wpList_store_row rfl 39 (.tmp 4) (.tmp 85) rfl (w.heap.size + 1) (leN A5 l.q.length c5 ({ l with s := (k : Int), d := now + 3, o := false } : LE)) rfl rfl 39 _ hRz le_size rfl (le_one _ _ _ _) ?_))
                (try simp only [Exit.inBlock, Exit.then])
                refine bodyPost_ret (res_ctt rfl _ _ (w.heap.size + 1) _ (leN A5 l.q.length c5 ({ l with s := (k : Int), d := now + 3, o := false } : LE)) _ _ rfl (setRow_heap _ _ _ _ _ _ hRz) Try.underlying39 rfl le_size) rfl ?_
                refine rpoll_end (wr := wr) HE2.out rfl rfl HRow.out hsz hF HFS.out hm hBn hsn (((hZ.upd u7 (.inl rfl)).upd u8 (.inl rfl)).upd u9 (.inl rfl)) ?_
                exact fun k hk => by rw [u9.other k hk, u8.other k hk, u7.other k hk]
              · obtain rfl : m = 0 := by omega
                obtain rfl : xs = [] := List.eq_nil_of_length_eq_zero hm
                obtain rfl : k = s0 := by omega
                have hmt : ((0 : Int) < ((0 : Nat) : Int)) = False := eq_false (by omega)
                rw [if_neg (by omega)] at HE
                have c3 : wr.cell? ⟨w.heap.size, 3, none⟩ = some (.int .i64 l.x) := cellOf (i := 3) hbr rfl
                have c4 : wr.cell? ⟨w.heap.size, 4, none⟩ = some (.bool l.o) := cellOf (i := 4) hbr rfl
                cases hlo : l.o with
                | false =>
                  rw [hlo] at c4
                  have hL9 : (({ l with s := (k : Int) } : LE)) = ({ l with s := (k : Int), o := false } : LE) := by rw [← hlo]
                  have HE2 : Hid (pollE l now = ({ l with s := (k : Int), o := false }, [], 0)) := Lib.hid (by rw [HE.out, if_neg (by simp [hlo])])
                  rw [hL9] at hbr
                  have hRz := hRr
                  go_wp2_with (first | (refine wpList_load_row rfl 39 (.tmp 2) rfl w.heap.size rfl 39 (leN A5 l.q.length c5 ({ l with s := (k : Int), o := false } : LE)) (0, 0) _ hbr Try.underlying39 rfl le_size ?_) | (refine wpList_store_row rfl 39 (.tmp 4) (.tmp 85) rfl (w.heap.size + 1) (leN A5 l.q.length c5 ({ l with s := (k : Int), o := false } : LE)) rfl rfl 39 _ hRz le_size rfl (le_one _ _ _ _) ?_))
                  (try simp only [Exit.inBlock, Exit.then])
                  refine bodyPost_ret (res_ctt rfl _ _ (w.heap.size + 1) _ (leN A5 l.q.length c5 ({ l with s := (k : Int), o := false } : LE)) _ _ rfl (setRow_heap _ _ _ _ _ _ hRz) Try.underlying39 rfl le_size) rfl ?_
                  exact rpoll_end (wr := wr) HE2.out rfl rfl HRow.out hsz hF rfl rfl hBn hsn hZ (fun _ _ => rfl)
                | true =>
                  rw [hlo] at c4
                  have HE2 : Hid (pollE l now = ({ l with s := (k : Int), o := false }, [⟨false, 0, l.x, []⟩], 0)) := Lib.hid (by rw [HE.out, if_pos hlo])
                  have HFr := Lib.hid hF
                  have hwn := hB1.size
                  have hlt5 := own_lt hF.own
                  clear hF
                  go_wp2_with (first | (at_builtin; refine app_own _ rfl (.tmp 78) (.tmp 82) 35 rfl W5.heap.size 24 (.agg #[.bool false, .int .i64 0, .int .i64 0, .slice none 0 0]) 4 48 Try.underlying35 info_fr rfl (by decide) (by decide) (.slice A6 0 c6) 0 (flatF []) rfl (HFr.out.own.alloc _) (some ⟨wr.heap.size, 0, none⟩) 1 1 [.bool false, .int .i64 0, .int .i64 l.x, .slice none 0 0] rfl rfl (fun e => by cases e) (RdC.new wr #[.bool false, .int .i64 0, .int .i64 l.x, .slice none 0 0] 24 (0, 0)) (by simp [Value.oneCell']) (by omega) (by simp; omega) ?_; intro v7 W7 ho7 hg7 hat7; have hb7 := (fw_al hB1 _).grown hg7 (fw_al hB1 _).size (fun k hk => (hlt5 k hk).1); have hbr7 := blk_below HW5 hb7; have hRr7 := blk_below hRn hb7; have hF7 := rowF_push (x := ⟨⟨false, 0, l.x, []⟩, none, 0⟩) HFr.out (Below.refl _ _) ⟨fun _ => rfl, Nat.le_refl _, Nat.zero_le _, .inl rfl⟩ ho7 hg7 hat7 hwn; obtain ⟨g7, c7, rfl⟩ := ownsRow_succ ho7; have HF7 := Lib.hid hF7; clear ho7 hg7 hat7 hF7) | (refine wpList_store_field rfl 4 (.tmp 84) (.const (.bool false)) rfl w.heap.size 4 (.bool false) rfl rfl rfl 39 _ hbr7 (by simp [leN, leCells]) (by kernel_rfl) ?_; intro W9 hW9 u9; have HW9 := (show W9.heap[w.heap.size]? = some (.cells (leN A5 l.q.length c5 ({ l with s := (k : Int), o := false } : LE)) 39 (0, 0)) from hW9); clear hW9; have hRz := ((u9.other (w.heap.size + 1) (by omega)).trans hRr7)) | (refine wpList_load_row rfl 39 (.tmp 2) rfl w.heap.size rfl 39 (leN A5 l.q.length c5 ({ l with s := (k : Int), o := false } : LE)) (0, 0) _ HW9 Try.underlying39 rfl le_size ?_) | (refine wpList_store_row rfl 39 (.tmp 4) (.tmp 85) rfl (w.heap.size + 1) (leN A5 l.q.length c5 ({ l with s := (k : Int), o := false } : LE)) rfl rfl 39 _ hRz le_size rfl (le_one _ _ _ _) ?_))
                  (try simp only [Exit.inBlock, Exit.then])
                  refine bodyPost_ret (res_ctt rfl _ _ (w.heap.size + 1) _ (leN A5 l.q.length c5 ({ l with s := (k : Int), o := false } : LE)) _ _ rfl (setRow_heap _ _ _ _ _ _ hRz) Try.underlying39 rfl le_size) rfl ?_
                  exact rpoll_end (wr := W7) HE2.out rfl rfl HRow.out hsz HF7.out rfl rfl hBn hsn ((pollZ_of w.heap.size hb7).upd u9 (.inl rfl)) (fun k hk => u9.other k hk)
  · have Hno := Lib.hid (fun W' (hb : Below w.heap.size w W') => PollPost.no (now := now) (poll_chk hk) hb)
    have hk0 : ((chk l : Int) != 0) = true := by simpa using hk
    generalize chk l = k at *
    clear hk
    go_wp2_with (first | (refine wpList_store_row rfl 39 (.tmp 4) (.tmp 15) rfl (w.heap.size + 1) (leCells none 0 leZ) rfl rfl 39 _ hR le_size rfl (le_one none 0 0 leZ) ?_))
    (try simp only [Exit.inBlock, Exit.then])
    refine bodyPost_ret (res_ctt rfl _ _ (w.heap.size + 1) _ (leCells none 0 leZ) _ _ rfl (setRow_heap _ _ _ _ _ _ hR) Try.underlying39 rfl le_size) rfl ?_
    exact (Hno.out _ (below_setRow hB (Nat.le_add_right _ 1) _))
end Go.Proofs.Ytpeahilkmlffkaa
