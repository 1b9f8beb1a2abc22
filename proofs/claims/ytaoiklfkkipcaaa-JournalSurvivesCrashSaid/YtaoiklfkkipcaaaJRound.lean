import Derived.Test.YtaoiklfkkipcaaaJSane
set_option linter.unusedSimpArgs false
set_option linter.unusedVariables false
namespace Go.Mem
open Go Go.RowKit
/-- append to a row of the call's own, at the operation -/
theorem wp_app {P : Program} {o : Oper} {a : Act} {K : Act → World → Prop} {Q : Exit → Act → World → Prop} (W : World) (s x : Operand) (t : TypeId)
    (ho : o.op = .call { callee := .builtin .append, args := #[s, x], argTypes := #[t, t] })
    (base : Nat) (e : TypeId) (z : Value) (size bytes : Nat) (ht : P.underlying t = some (.slice e)) (hinfo : (P.info? e).map (fun i => (i.zero, i.size, i.bytes)) = some (some z, size, bytes))
    (hzs : z.cells.size = size) (hsz : 0 < size) (hb0 : 0 < bytes)
    (v : Value) (n : Nat) (xs : List Value) (hs : a.eval s = v) (hown : W.ownsRow base e size v n xs)
    (A : Option Addr) (m c : Nat) (news : List Value) (hx : a.eval x = .slice A m c) (hl : news.length = m * size) (hA : A = none → c = 0) (hnews : RdC W A news) (h1 : ∀ u ∈ news, u.oneCell' = true)
    (hbytes : (n + m) * bytes ≤ 140737488355328) (hbase : base ≤ W.heap.size)
    (h : ∀ v' w', w'.ownsRow base e size v' (n + m) (xs ++ news) → W.grownBy w' v.ownBlock → (v'.ownBlock = v.ownBlock ∨ v'.ownBlock = some W.heap.size) → K (a.put o.dst v') w') : o.wp P a W K Q := by
  obtain ⟨i0, hi, hzz⟩ := Option.map_eq_some_iff.1 hinfo
  simp only [Prod.mk.injEq] at hzz
  obtain ⟨hz0, hz1, hz2⟩ := hzz
  have h63 : n + m ≤ maxLen := by
    have := Nat.le_trans (Nat.le_mul_of_pos_right _ hb0) hbytes
    simp only [maxLen]; omega
  cases A with
  | none =>
    have hn : news = [] := by
      rcases hnews with h | ⟨b, off, e, _⟩
      · exact h
      · cases e
    subst hn
    have hm : m = 0 := by
      rcases Nat.eq_zero_or_pos m with h | h
      · exact h
      · have : 0 < m * size := Nat.mul_pos h hsz
        simp at hl; omega
    subst hm
    rw [hA rfl] at hx
    have hrun := run_append_owned_none (P := P) (w := W) base t o.type e i0 size ht hi v n xs hown
    have := h v W (by simpa using hown) ⟨rfl, rfl, rfl, Nat.le_refl _, fun _ _ _ => rfl⟩ (.inl rfl)
    unfold Oper.wp
    simp [execOp, ho, resolve, invoke, builtin, hs, hx, hrun, Result.andThen]
    exact this
  | some ad =>
    obtain ⟨v', w', hr, h2, h3, _, h5⟩ := run_append_own_at (P := P) W base t o.type e i0 z size bytes ht hi hz0 hz1 hz2 hzs hsz v n xs hown ad m c news hl hnews.cells h1 h63 hbytes hbase
    unfold Oper.wp execOp
    simp only [ho, resolve, invoke, builtin, Sem.run_bind, Sem.run_pure, Result.andThen_ok, List.map_toArray, List.map_cons, List.map_nil, hs, hx, hr]
    exact h v' w' h2 h3 h5
end Go.Mem
namespace Go.Proofs.Ytaoiklfkkipcaaa
open Go Go.RowKit Hd Go.Mem

theorem rec_at {l : List UInt8} {A : Option Addr} {c : Nat} {w : World} (hi : InB w A c l) (hl : l.length ≤ 140737488351232) (k : Nat) {r : Rc} {n : Int} (h : recE l (k : Int) = .ok (r, n)) :
    Calls Try.prog 16 #[.slice A l.length c, .int .i64 (k : Int)] w fun e w' => e = .returned (.tuple #[.agg (rcCells r), .int .i64 n, .int .i64 0]) ∧ Below w.heap.size w w' := by
  refine (record_any A c l k w hl hi.rd hi.nil hi.le).mono ?_
  rintro e w' ⟨hb, hp⟩
  rw [h] at hp
  exact ⟨hp, hb⟩
set_option maxRecDepth 100000 in
set_option maxHeartbeats 8000000 in
theorem rt_walk (A : Option Addr) (c : Nat) (b : List UInt8) (r : Rc) (A' : Option Addr) (c' : Nat) (a : List UInt8) (w : World) (hb : InB w A c b) (hr : r.ok ∧ r.payer.length ≤ maxLen) (ha : InB w A' c' a) :
    Calls Try.prog 5 #[.slice A b.length c, .agg (rcCells r), .slice A' a.length c'] w fun e w' => e = .returned (.bool true) ∧ Below w.heap.size w w' := by
  have Hb := Lib.hid hb
  have Ha := Lib.hid ha
  obtain ⟨hok, hpm⟩ := hr
  have Hok := Lib.hid hok
  have h0 := heap_alloc_new w (.cells (rcCells r) 38)
  have hB0 := fw_new w (.cells (rcCells r) 38)
  unfold maxLen at hpm
  clear hb ha hok
  go_enter Try.func5, Try.ntmps5
  go_wp2_with fail
  refine (sane_any _).mono ?_
  rintro e W1 ⟨rfl, hb1⟩
  have hP1 := blk_below h0 hb1
  have hB1 := fw_trans hB0 hb1
  have q3 : W1.cell? ⟨w.heap.size, 3, none⟩ = some (.string ⟨r.payer.toArray⟩) := cellOf hP1 rfl
  clear h0 hB0 hb1
  by_cases g1 : 300 < b.length
  · have g1' : ((300 : Int) < (b.length : Int)) = True := eq_true (by omega)
    go_wp2_with fail
    go_ret
    exact ⟨rfl, hB1⟩
  have g1' : ((300 : Int) < (b.length : Int)) = False := eq_false (by omega)
  by_cases g2 : 300 < a.length
  · have g2' : ((300 : Int) < (a.length : Int)) = True := eq_true (by omega)
    go_wp2_with fail
    go_ret
    exact ⟨rfl, hB1⟩
  have g2' : ((300 : Int) < (a.length : Int)) = False := eq_false (by omega)
  by_cases g3 : 15 < r.payer.length
  · have g3' : ((15 : Int) < (r.payer.length : Int)) = True := eq_true (by omega)
    go_wp2_with fail
    go_ret
    exact ⟨rfl, hB1⟩
  have g3' : ((15 : Int) < (r.payer.length : Int)) = False := eq_false (by omega)
  go_wp2_with fail
  refine wp_region_noPanic ?_
  have hd : Below W1.heap.size W1 W1.drew := ⟨rfl, rfl, rfl, Nat.le_refl _, fun _ _ => rfl⟩
  refine wp_region_held_drew (S := fun W => Below W1.heap.size W1 W) (by kernel_rfl) hd (fun h0 => ?_)
  refine wpAnyH_take (i := 0) (v := .slice A b.length c) rfl (by kernel_rfl) (by kernel_rfl) (by kernel_rfl) (fun _ _ _ h => h) (Or.inl ⟨by rfl, fun W hW => by rfl⟩) h0 ?_
  try simp only [Act.put, List.getElem?_toArray, List.getElem_toArray, List.getElem_cons_zero, List.getElem_cons_succ, List.setIfInBounds_toArray, List.set_cons_zero, List.set_cons_succ]
  refine wpAnyH_take (i := 2) (v := .agg (rcCells r)) rfl (by kernel_rfl) (by kernel_rfl) (by kernel_rfl) (fun _ _ _ h => h) (yieldsIf_load_blk (by rfl) 38 (.tmp 4) rfl w.heap.size rfl 38 _ (0, 0) _ (fun W h => blk_below hP1 h) Try.underlying38 rfl rc_size) h0 ?_
  try simp only [Act.put, List.getElem?_toArray, List.getElem_toArray, List.getElem_cons_zero, List.getElem_cons_succ, List.setIfInBounds_toArray, List.set_cons_zero, List.set_cons_succ]
  refine wpAnyH_ready (rs := [1]) (by kernel_rfl) (by simp) ?_
  refine AllReadyH.cons rfl (fun K hK => ?_) AllReadyH.nil
  rw [if_pos (by rfl)]
  refine wp_app _ (.const (.slice none 0 0)) (.tmp 28) 25 rfl W1.heap.size 5 (.int .u8 0) 1 1 Try.underlying25 info_u8 rfl (by decide) (by decide) (.slice none 0 0) 0 [] rfl (World.ownsRow_nil _ _ _ _) A b.length c (b.map B) rfl (by simp) Hb.out.nil (RdC.below (Hb.out.below hB1).rd hd) (by intro u hu; simp only [List.mem_map] at hu; obtain ⟨x, _, rfl⟩ := hu; rfl) (by omega) hd.size ?_
  intro v2 W2 ho2 hg2 hat2
  have hO2 : OwnB W2 W1.heap.size 5 v2 b := by unfold OwnB; simpa using ho2
  have hb2 : Below W1.heap.size W1 W2 := hd.grown hg2 hd.size (fun k hk => by cases hk)
  refine hK.out _ _ hb2 (fun h1 => ?_)
  clear hK h0
  obtain ⟨A2, c2, rfl, hI2⟩ := inB_own hO2
  have HI2 := Lib.hid hI2
  clear hI2 hO2 ho2 hg2 hat2
  try simp only [Act.put, List.getElem?_toArray, List.getElem_toArray, List.getElem_cons_zero, List.getElem_cons_succ, List.setIfInBounds_toArray, List.set_cons_zero, List.set_cons_succ]
  refine wpAnyH_ready (rs := [3]) (by kernel_rfl) (by simp) ?_
  refine AllReadyH.cons rfl (fun K hK => ?_) AllReadyH.nil
  go_simp
  go_at_call 18
  refine (arec_any A2 c2 b r W2 (by omega) (by omega) Hok.out HI2.out.rd HI2.out.nil HI2.out.le).mono ?_
  rintro e W3 ⟨v3, rfl, hO3, hb3⟩
  obtain ⟨l1, hl1⟩ : ∃ l1, b ++ encRec r = l1 := ⟨_, rfl⟩
  rw [hl1] at hO3
  refine hK.out _ _ (fw_trans hb2 hb3) (fun h3 => ?_)
  clear hK h1
  obtain ⟨A3, c3, e3, hI3⟩ := inB_own hO3
  subst e3
  try simp only [Act.put, List.getElem?_toArray, List.getElem_toArray, List.getElem_cons_zero, List.getElem_cons_succ, List.setIfInBounds_toArray, List.set_cons_zero, List.set_cons_succ]
  refine wpAnyH_take (i := 4) (v := .slice A3 l1.length c3) rfl (by kernel_rfl) (by kernel_rfl) (by kernel_rfl) (fun _ _ _ h => h) (Or.inl ⟨by rfl, fun W hW => by rfl⟩) h3 ?_
  try simp only [Act.put, List.getElem?_toArray, List.getElem_toArray, List.getElem_cons_zero, List.getElem_cons_succ, List.setIfInBounds_toArray, List.set_cons_zero, List.set_cons_succ]
  refine wpAnyH_done (by kernel_rfl) ?_ _
  refine NoPanic.normal ?_
  have hel := encRec_len r Hok.out (by omega)
  have hl1n : l1.length ≤ 2000 := by rw [← hl1]; simp; omega
  have HO3 := Lib.hid (own_lower hO3 (show W1.heap.size ≤ W2.heap.size from hb2.size))
  have hB3 := fw_trans hB1 h3
  have hB0s : w.heap.size < W1.heap.size := blk_lt hP1
  have hP3 := blk_below hP1 h3
  clear hP1 hb2 hb3 hO3 hI3 HI2 q3
  have hEnd := recE_enc b a r Hok.out (by omega)
  have hl3 : b ++ (encRec r ++ a) = l1 ++ a := by rw [← hl1]; simp
  have hl4 : b.length + (encRec r).length = l1.length := by rw [← hl1]; simp
  rw [hl3, hl4] at hEnd
  have HEnd := Lib.hid hEnd
  clear hEnd hl3 hl4
  go_wp2_with (first | (at_builtin; refine app_bytes _ rfl (.tmp 34) (.tmp 35) 25 rfl W1 W1.heap.size 5 Try.underlying25 info_u8 (.slice A3 l1.length c3) l1 rfl HO3.out A' c' a rfl Ha.out.nil (Ha.out.below hB3).rd (by omega) h3 h3.size ?_; intro v5 W5 hO5 hb5 hg5 hat5 hsz5; obtain ⟨l2, hl2⟩ : ∃ l2, l1 ++ a = l2 := ⟨_, rfl⟩; rw [hl2] at hO5; have hl2n : l2.length ≤ 3000 := (by rw [← hl2]; simp; omega); obtain ⟨A5, c5, rfl, hI5⟩ := inB_own hO5; have HI5 := Lib.hid hI5; have hB5 := fw_trans hB1 hb5; have hlt1 := blk_lt hP3; clear hO5 hI5 hat5))
  rw [hl2] at HEnd
  have hne : (Value.slice A3 l1.length c3).ownBlock ≠ some w.heap.size := fun e => by have h9 := (HO3.out.lt _ e).1; have h10 := hB0s; omega
  have hP5 := blk_grown hg5 hP3 hne
  refine (rec_at HI5.out (by omega) b.length HEnd.out).mono ?_
  rintro e W6 ⟨rfl, hb6⟩
  have hP6 := blk_below hP5 hb6
  have hB6 := fw_trans hB5 hb6
  go_wp2_with (first | (refine wpList_store_new rfl 38 (.tmp 9) (.tmp 42) rfl (rcCells r) rfl rfl 38 _ rc_size rfl (rc_one _) ?_; intro W7 hb7 hv7; have hP7 := blk_below hP6 hb7; have hB7 := fw_trans hB6 hb7; have x0 : W7.cell? ⟨W6.heap.size, 0, none⟩ = some (.int .i64 r.ref) := cellOf hv7 rfl; have x1 : W7.cell? ⟨W6.heap.size, 1, none⟩ = some (.int .i64 r.role) := cellOf hv7 rfl; have x2 : W7.cell? ⟨W6.heap.size, 2, none⟩ = some (.int .i64 r.peer) := cellOf hv7 rfl; have x3 : W7.cell? ⟨W6.heap.size, 3, none⟩ = some (.string ⟨r.payer.toArray⟩) := cellOf hv7 rfl; have x4 : W7.cell? ⟨W6.heap.size, 4, none⟩ = some (.int .i64 r.frm) := cellOf hv7 rfl; have x5 : W7.cell? ⟨W6.heap.size, 5, none⟩ = some (.int .i64 r.to_) := cellOf hv7 rfl; have x6 : W7.cell? ⟨W6.heap.size, 6, none⟩ = some (.int .i64 r.rate) := cellOf hv7 rfl; have x7 : W7.cell? ⟨W6.heap.size, 7, none⟩ = some (.int .i64 r.units) := cellOf hv7 rfl; have y0 : W7.cell? ⟨w.heap.size, 0, none⟩ = some (.int .i64 r.ref) := cellOf hP7 rfl; have y1 : W7.cell? ⟨w.heap.size, 1, none⟩ = some (.int .i64 r.role) := cellOf hP7 rfl; have y2 : W7.cell? ⟨w.heap.size, 2, none⟩ = some (.int .i64 r.peer) := cellOf hP7 rfl; have y3 : W7.cell? ⟨w.heap.size, 3, none⟩ = some (.string ⟨r.payer.toArray⟩) := cellOf hP7 rfl; have y4 : W7.cell? ⟨w.heap.size, 4, none⟩ = some (.int .i64 r.frm) := cellOf hP7 rfl; have y5 : W7.cell? ⟨w.heap.size, 5, none⟩ = some (.int .i64 r.to_) := cellOf hP7 rfl; have y6 : W7.cell? ⟨w.heap.size, 6, none⟩ = some (.int .i64 r.rate) := cellOf hP7 rfl; have y7 : W7.cell? ⟨w.heap.size, 7, none⟩ = some (.int .i64 r.units) := cellOf hP7 rfl))
  go_ret
  exact ⟨rfl, hB7⟩
end Go.Proofs.Ytaoiklfkkipcaaa
