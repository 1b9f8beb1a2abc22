import Derived.Test.YtaoiklfkkipcaaaJRec
import Derived.Test.YtaoiklfkkipcaaaJPure2
import Derived.Test.YtaoiklfkkipcaaaWScan
set_option linter.unusedSimpArgs false
set_option linter.unusedVariables false
namespace Go.Mem
open Go Go.RowKit
section
variable {F : Fence} {nF : Nat} {P : Program} {ops : Array Oper} {rest : List Oper} {o : Oper} {a : Act} {w : World} {Q : Exit → Act → World → Prop}
/-- inside a fence: a struct is loaded -/
theorem in_load_row (hgd : o.guard = none) (ty : TypeId) (x : Operand) (ho : o.op = .load ty x)
    (g : Nat) (hx : a.eval x = .pointer (some ⟨g, 0, none⟩)) (t : TypeId) (cs : Array Value) (fr : Nat × Nat) (d : TypeDesc) (hg : w.heap[g]? = some (.cells cs t fr))
    (hu : P.underlying ty = some d) (hd : (match d with | .struct _ | .array _ _ => true | _ => false) = true) (hi : (P.info? ty).map (·.size) = some cs.size)
    (h : wpListIn F nF P ops Q rest (a.put o.dst (.agg cs)) w) : wpListIn F nF P ops Q (o :: rest) a w := by
  refine wpListIn_plain hgd fun K hK => ?_
  unfold Oper.wpIn
  refine ⟨by simp [Oper.about, ho], ?_⟩
  rw [Oper.semAt_plain F _ _ (by rw [ho]; intro c hc'; cases hc')]
  unfold execOp
  simp only [ho, hx, Instr.loadAt, Instr.sureAddr, Sem.run_bind, Sem.run_pure, Result.andThen_ok, run_loadVar_row w g t ty cs fr d hg hu hd hi]
  exact hK _ _ h
/-- inside a fence: a struct is stored -/
theorem in_store_row (hgd : o.guard = none) (ty : TypeId) (x y : Operand) (ho : o.op = .store ty x y)
    (g : Nat) (cells : Array Value) (hx : a.eval x = .pointer (some ⟨g, 0, none⟩)) (hy : a.eval y = .agg cells)
    (t : TypeId) (old : Array Value) (hg : w.heap[g]? = some (.cells old t (0, 0))) (hi : (P.info? ty).map (·.size) = some cells.size)
    (hold : old.size = cells.size) (h1 : cells.all (·.oneCell') = true)
    (h : wpListIn F nF P ops Q rest (a.put o.dst undef) (w.setRow g cells)) : wpListIn F nF P ops Q (o :: rest) a w := by
  refine wpListIn_plain hgd fun K hK => ?_
  unfold Oper.wpIn
  refine ⟨by simp [Oper.about, ho], ?_⟩
  rw [Oper.semAt_plain F _ _ (by rw [ho]; intro c hc'; cases hc')]
  unfold execOp
  simp only [ho, hx, hy, Instr.storeAt, Instr.sureAddr, Sem.run_bind, Sem.run_pure, Result.andThen_ok, run_storeVar_row w g t ty old cells hg hi hold h1]
  exact hK _ _ h
end
theorem in_store_new {F : Fence} {nF : Nat} {P : Program} {ops : Array Oper} {rest : List Oper} {o : Oper} {a : Act} {W : World} {Q : Exit → Act → World → Prop} (hgd : o.guard = none) (ty : TypeId) (x y : Operand) (ho : o.op = .store ty x y)
    (cells : Array Value) (hx : a.eval x = .pointer (some ⟨W.heap.size, 0, none⟩)) (hy : a.eval y = .agg cells) (t : TypeId) (old : Array Value) (hi : (P.info? ty).map (·.size) = some cells.size)
    (hold : old.size = cells.size) (h1 : cells.all (·.oneCell') = true)
    (h : ∀ W', Below W.heap.size W W' → W'.heap[W.heap.size]? = some (.cells cells t (0, 0)) → wpListIn F nF P ops Q rest (a.put o.dst undef) W') : wpListIn F nF P ops Q (o :: rest) a (W.alloc (.cells old t)) :=
  in_store_row hgd ty x y ho W.heap.size cells hx hy t old (heap_alloc_new _ _) hi hold h1 (h _ (below_setRow (fw_new _ _) (Nat.le_refl _) _) (setRow_heap _ _ _ _ _ _ (heap_alloc_new _ _)))
end Go.Mem
namespace Go.Proofs.Ytaoiklfkkipcaaa
open Go Go.RowKit Hd Go.Mem Go.Shelf

attribute [local go_sem] Oper.semAt_some

/-- what a record is handed over as -/
def recEnc (x : Rc × Nat) : Array Value := #[.agg (rcCells x.1), .int .i64 (x.2 : Int)]
theorem decN_err {l : List UInt8} {k e : Nat} (h : decN l k = .error e) : e ≠ 0 := by
  unfold decN at h
  split at h
  · cases h; simp
  · split at h
    · cases h; simp
    · split at h
      · cases h; simp
      · split at h
        · cases h
        · rename_i he
          cases h
          rcases opened_error he with rfl | rfl <;> simp
theorem decE_nat (l : List UInt8) (k : Nat) : decE l (k : Int) = decN l k := by
  unfold decE
  rw [if_neg (by omega)]
  simp
theorem grownBy_below {W W' : World} (h : Below W.heap.size W W') : W.grownBy W' none := ⟨h.os, h.tape, h.output, h.size, fun k hk _ => h.block k hk⟩
theorem records_any (A : Option Addr) (n c : Nat) (w : World) :
    Calls Try.prog 53 #[.slice A n c] w fun e w' =>
      e = .returned (.func (.func 71) #[] #[.pointer (some ⟨w.heap.size, 0, none⟩)]) ∧ w.alloc (.cells #[.slice A n c] 25) = w' := by
  go_enter Try.func53, Try.ntmps53
  go_wp2
  go_ret
  exact ⟨rfl, rfl⟩
theorem dec_as {l : List UInt8} {k : Nat} {A : Option Addr} {c : Nat} {w : World} (hl : l.length ≤ 140737488351232) (h : k < l.length) (hr : Rd w A l) (hc : l.length ≤ c) {p : List UInt8} {n : Nat} (hd : decN l k = .ok (p, n)) :
    Calls Try.prog 72 #[.slice A l.length c, .int .i64 (k : Int)] w fun e w' => ∃ A' c', e = .returned (.tuple #[.slice A' p.length c', .int .i64 (n : Int), .int .i64 0]) ∧ p.length ≤ c' ∧ (A' = none → c' = 0) ∧ Rd w' A' p ∧ p.length ≤ l.length ∧ Below w.heap.size w w' := by
  refine (dec_in A c l k w hl h hr hc).mono ?_
  rintro e w' ⟨hb, hp⟩
  rw [decE_nat, hd] at hp
  obtain ⟨A', c', h1, h2, h3, h4, h5, h6, h7⟩ := hp
  exact ⟨A', c', h1, h2, h4, h5.c, h6, hb⟩
theorem dec_er {l : List UInt8} {k : Nat} {A : Option Addr} {c : Nat} {w : World} (hl : l.length ≤ 140737488351232) (h : k < l.length) (hr : Rd w A l) (hc : l.length ≤ c) {e : Nat} (hd : decN l k = .error e) :
    Calls Try.prog 72 #[.slice A l.length c, .int .i64 (k : Int)] w fun e' w' => e' = .returned (.tuple #[.slice none 0 0, .int .i64 0, .int .i64 (e : Int)]) ∧ Below w.heap.size w w' := by
  refine (dec_in A c l k w hl h hr hc).mono ?_
  rintro e' w' ⟨hb, hp⟩
  rw [decE_nat, hd] at hp
  exact ⟨hp, hb⟩
theorem rec_as {p : List UInt8} {A : Option Addr} {c : Nat} {w : World} (hl : p.length ≤ 140737488351232) (hr : Rd w A p) (hA : A = none → c = 0) (hc : p.length ≤ c) {r : Rc} {n : Int} (h : recE p 0 = .ok (r, n)) :
    Calls Try.prog 16 #[.slice A p.length c, .int .i64 0] w fun e w' => e = .returned (.tuple #[.agg (rcCells r), .int .i64 n, .int .i64 0]) ∧ Below w.heap.size w w' := by
  refine (record_any A c p 0 w hl hr hA hc).mono ?_
  rintro e w' ⟨hb, hp⟩
  rw [h] at hp
  exact ⟨hp, hb⟩
theorem rec_er {p : List UInt8} {A : Option Addr} {c : Nat} {w : World} (hl : p.length ≤ 140737488351232) (hr : Rd w A p) (hA : A = none → c = 0) (hc : p.length ≤ c) {k : Nat} (h : recE p 0 = .error k) :
    Calls Try.prog 16 #[.slice A p.length c, .int .i64 0] w fun e w' => e = .returned (.tuple #[.agg (rcCells rcZ), .int .i64 0, .int .i64 (k : Int)]) ∧ Below w.heap.size w w' := by
  refine (record_any A c p 0 w hl hr hA hc).mono ?_
  rintro e w' ⟨hb, hp⟩
  rw [h] at hp
  exact ⟨hp, hb⟩
set_option maxRecDepth 100000 in
set_option maxHeartbeats 4000000 in
theorem records1_in (md : Nat) (hmd : 1 ≤ md) (ly : Nat) (S : Nat → Prop) (A : Option Addr) (c : Nat) (l : List UInt8) (hl : l.length ≤ 140737488351232) (hc : l.length ≤ c) (bb : Nat) (hSb : S bb)
    (J Jx : List (Rc × Nat) → World → Prop) (hJb : ∀ s W W', J s W → Below W.heap.size W W' → J s W')
    (hY : ∀ pre x W, J pre W → pre.length < l.length → YieldAt Fence.wide (md - 1) Try.prog ly (recEnc x) W fun e W' =>
      (e = .returned (.bool true) ∧ J (pre ++ [x]) W' ∧ KpS S W W') ∨ (e = .returned (.bool false) ∧ Jx (pre ++ [x]) W'))
    (W : World) (hbb : W.cell? ⟨bb, 0, none⟩ = some (.slice A l.length c)) (hr : RdP S W A (l.map B)) (h0 : J [] W) :
    CallsIn Fence.wide md Try.prog 71 #[.func (.yield ly) #[] #[], .pointer (some ⟨bb, 0, none⟩)] W fun e W' => (∃ v, e = .returned v) ∧
      ((∃ ys, ys = recsP l ∧ J ys W') ∨ (∃ pre, pre <+: recsP l ∧ Jx pre W')) := by
  have HJb := Lib.hid hJb
  have HYY := Lib.hid hY
  clear hJb hY
  refine callsIn_of_wp Try.func71 rfl trivial ?_ rfl
  simp only [Try.ntmps71, List.size_toArray, List.length_cons, List.length_nil, Nat.reduceAdd, Nat.reduceSub, Array.replicate_succ, Array.replicate_zero, List.push_toArray, List.append_toArray, List.nil_append, List.cons_append]
  gi_wp2
  gi_loopw [3] (fun v wr => ∃ (pre : List (Rc × Nat)) (k fuel : Nat), v = .int .i64 (k : Int) ∧ k ≤ l.length ∧ l.length - k < fuel ∧ Hid (pre ++ recsL fuel l k = recsP l) ∧ J pre wr ∧ wr.cell? ⟨bb, 0, none⟩ = some (.slice A l.length c) ∧ RdP S wr A (l.map B)) (fun v _ => l.length - (intOf v).toNat)
  case atStart => exact ⟨[], 0, l.length + 1, rfl, by omega, by omega, Lib.hid rfl, h0, hbb, hr⟩
  case round =>
    obtain ⟨pre, k, fuel, rfl, hk, hf, Hpre, hJ, hcb, hrw⟩ := hrel
    clear hbb hr h0
    have HRw := Lib.hid hrw
    clear hrw
    by_cases hlt : k < l.length
    · have hkl : ((k : Int) < (l.length : Int)) = True := eq_true (by omega)
      cases hd : decN l k with
      | error e =>
        have he : ((e : Int) != 0) = true := by have := decN_err hd; simpa using this
        have Hend := Lib.hid (show pre = recsP l by have h := Hpre.out; rw [recsL_bad hd, List.append_nil] at h; exact h)
        have HD := Lib.hid (fun W (h : Rd W A l) => dec_er hl hlt h hc hd)
        clear hd Hpre
        gi_wp2_with (refine ⟨trivial, ?_⟩; gi_at_call 72; refine (callsIn_wide.2 (HD.out wr HRw.out.c)).mono ?_; rintro e' w1 ⟨rfl, hb1⟩)
        (try simp only [Exit.inBlock, Exit.then])
        refine bodyPost_ret (results_none rfl _ _ _) rfl ?_
        exact ⟨⟨_, rfl⟩, .inl ⟨pre, Hend.out, HJb.out _ _ _ hJ hb1⟩⟩
      | ok x =>
        obtain ⟨p, n⟩ := x
        have hnx := decN_next hd
        have HD := Lib.hid (fun W (h : Rd W A l) => dec_as hl hlt h hc hd)
        cases hrec : recE p 0 with
        | error e =>
          have he : ((e : Int) != 0) = true := by have := recE_err hrec; simpa using this
          have Hend := Lib.hid (show pre = recsP l by have h := Hpre.out; rw [recsL_rec hd hrec, List.append_nil] at h; exact h)
          have HR := Lib.hid (fun (A' : Option Addr) (c' : Nat) (W : World) (h0 : p.length ≤ 140737488351232) (h1 : Rd W A' p) (h2 : A' = none → c' = 0) (h3 : p.length ≤ c') => rec_er h0 h1 h2 h3 hrec)
          clear hd Hpre hrec
          gi_wp2_with (first | (refine ⟨trivial, ?_⟩; gi_at_call 72; refine (callsIn_wide.2 (HD.out wr HRw.out.c)).mono ?_; rintro e' w1 ⟨A', c', rfl, q1, q2, q3, q4, hb1⟩; have Q2 := Lib.hid q2; clear q2) | (refine ⟨trivial, ?_⟩; gi_at_call 16; refine (callsIn_wide.2 (HR.out A' c' w1 (by omega) q3 Q2.out q1)).mono ?_; rintro e' w2 ⟨rfl, hb2⟩) | (refine in_store_new rfl 38 (.tmp 7) (.tmp 25) rfl (rcCells rcZ) rfl rfl 38 _ rc_size rfl (rc_one _) ?_; intro V hbV hvV))
          refine ⟨fun _ h => (by cases h), ?_⟩
          gi_wp2
          (try simp only [Exit.inBlock, Exit.then])
          refine bodyPost_ret (results_none rfl _ _ _) rfl ?_
          exact ⟨⟨_, rfl⟩, .inl ⟨pre, Hend.out, HJb.out _ _ _ (HJb.out _ _ _ (HJb.out _ _ _ hJ hb1) hb2) hbV⟩⟩
        | ok y =>
          obtain ⟨r, en⟩ := y
          have HR := Lib.hid (fun (A' : Option Addr) (c' : Nat) (W : World) (h0 : p.length ≤ 140737488351232) (h1 : Rd W A' p) (h2 : A' = none → c' = 0) (h3 : p.length ≤ c') => rec_as h0 h1 h2 h3 hrec)
          by_cases hen : en = (p.length : Int)
          · have hne : (en != (p.length : Int)) = false := by simpa using hen
            have hstep : recsL fuel l k = (r, n) :: recsL (fuel - 1) l n := by
              obtain ⟨f', rfl⟩ : ∃ f', fuel = f' + 1 := ⟨fuel - 1, by omega⟩
              exact recsL_step hlt hd hrec hen
            have Hstep := Lib.hid hstep
            have hlen : pre.length < l.length := by
              have h1 := congrArg List.length Hpre.out
              rw [hstep] at h1
              have h2 := recsL_len (l.length + 1) l 0
              unfold recsP at h1
              simp at h1
              omega
            have HK := Lib.hid (fun W h => HYY.out pre (r, n) W h hlen)
            obtain ⟨ref, role, peer, payer, frm, to_, rate, units⟩ := r
            clear hd hrec hstep hen
            gi_wp2_with (first | (refine ⟨trivial, ?_⟩; gi_at_call 72; refine (callsIn_wide.2 (HD.out wr HRw.out.c)).mono ?_; rintro e' w1 ⟨A', c', rfl, q1, q2, q3, q4, hb1⟩; have Q2 := Lib.hid q2; clear q2) | (refine ⟨trivial, ?_⟩; gi_at_call 16; refine (callsIn_wide.2 (HR.out A' c' w1 (by omega) q3 Q2.out q1)).mono ?_; rintro e' w2 ⟨rfl, hb2⟩) | (refine in_store_new rfl 38 (.tmp 7) (.tmp 25) rfl (rcCells ⟨ref, role, peer, payer, frm, to_, rate, units⟩) rfl rfl 38 _ rc_size rfl (rc_one _) ?_; intro V hbV hvV; have z0 : V.cell? ⟨w2.heap.size, 0, none⟩ = some (.int .i64 ref) := cellOf hvV rfl; have z1 : V.cell? ⟨w2.heap.size, 1, none⟩ = some (.int .i64 role) := cellOf hvV rfl; have z2 : V.cell? ⟨w2.heap.size, 2, none⟩ = some (.int .i64 peer) := cellOf hvV rfl; have z3 : V.cell? ⟨w2.heap.size, 3, none⟩ = some (.string ⟨payer.toArray⟩) := cellOf hvV rfl; have z4 : V.cell? ⟨w2.heap.size, 4, none⟩ = some (.int .i64 frm) := cellOf hvV rfl; have z5 : V.cell? ⟨w2.heap.size, 5, none⟩ = some (.int .i64 to_) := cellOf hvV rfl; have z6 : V.cell? ⟨w2.heap.size, 6, none⟩ = some (.int .i64 rate) := cellOf hvV rfl; have z7 : V.cell? ⟨w2.heap.size, 7, none⟩ = some (.int .i64 units) := cellOf hvV rfl; have hJV := HJb.out _ _ _ (HJb.out _ _ _ (HJb.out _ _ _ hJ hb1) hb2) hbV; obtain ⟨fn, tmps, assign, body, hy, hR9⟩ := HK.out V hJV; simp only [recEnc, rcCells, Str] at hy; have HR9 := Lib.hid hR9; clear hR9))
            have hbbV : bb < V.heap.size := by
              have h1 := World.block_lt_of_cell? wr _ hcb
              have h1 : bb < wr.heap.size := h1
              have := hb1.size
              have := hb2.size
              have := hbV.size
              omega
            have hcbV : V.cell? ⟨bb, 0, none⟩ = some (.slice A l.length c) := by
              have h1 : bb < wr.heap.size := World.block_lt_of_cell? wr _ hcb
              have hb3 := fw_trans (fw_trans hb1 hb2) hbV
              exact (hb3.cell h1).trans hcb
            have HrV := Lib.hid (HRw.out.below (fw_trans (fw_trans hb1 hb2) hbV))
            refine HR9.out.mono ?_
            rintro e W3 (⟨rfl, hJ3, hk3⟩ | ⟨rfl, hJx3⟩)
            · have hcb3 : W3.cell? ⟨bb, 0, none⟩ = some (.slice A l.length c) := by
                rw [World.cell?_of_block (a := ⟨bb, 0, none⟩) (hk3.blk bb hSb hbbV)]
                exact hcbV
              have Hrw3 := Lib.hid (hk3.rd HrV.out)
              clear hk3
              gi_wp2
              go_roundw
              case rel => exact ⟨pre ++ [(⟨ref, role, peer, payer, frm, to_, rate, units⟩, n)], n, fuel - 1, by go_num, by omega, by omega, Lib.hid (by rw [← Hpre.out, Hstep.out]; simp), hJ3, hcb3, Hrw3.out⟩
              case measure => simp [intOf]; omega
            · gi_wp2
              (try simp only [Exit.inBlock, Exit.then])
              refine bodyPost_ret (results_none rfl _ _ _) rfl ?_
              exact ⟨⟨_, rfl⟩, .inr ⟨pre ++ [(⟨ref, role, peer, payer, frm, to_, rate, units⟩, n)], ⟨recsL (fuel - 1) l n, by rw [← Hpre.out, Hstep.out]; simp⟩, hJx3⟩⟩
          · have hne : (en != (p.length : Int)) = true := by simpa using hen
            have Hend := Lib.hid (show pre = recsP l by have h := Hpre.out; rw [recsL_tail hd hrec hen, List.append_nil] at h; exact h)
            clear hd Hpre hrec hen
            gi_wp2_with (first | (refine ⟨trivial, ?_⟩; gi_at_call 72; refine (callsIn_wide.2 (HD.out wr HRw.out.c)).mono ?_; rintro e' w1 ⟨A', c', rfl, q1, q2, q3, q4, hb1⟩; have Q2 := Lib.hid q2; clear q2) | (refine ⟨trivial, ?_⟩; gi_at_call 16; refine (callsIn_wide.2 (HR.out A' c' w1 (by omega) q3 Q2.out q1)).mono ?_; rintro e' w2 ⟨rfl, hb2⟩) | (refine in_store_new rfl 38 (.tmp 7) (.tmp 25) rfl (rcCells r) rfl rfl 38 _ rc_size rfl (rc_one _) ?_; intro V hbV hvV))
            refine ⟨fun _ h => (by cases h), ?_⟩
            gi_wp2
            (try simp only [Exit.inBlock, Exit.then])
            refine bodyPost_ret (results_none rfl _ _ _) rfl ?_
            exact ⟨⟨_, rfl⟩, .inl ⟨pre, Hend.out, HJb.out _ _ _ (HJb.out _ _ _ (HJb.out _ _ _ hJ hb1) hb2) hbV⟩⟩
    · have hkl : ((k : Int) < (l.length : Int)) = False := eq_false (by omega)
      have Hend := Lib.hid (show pre = recsP l by have h := Hpre.out; rw [recsL_end (by omega), List.append_nil] at h; exact h)
      gi_wp2
      refine bodyPost_end (results_none rfl _ _ _) rfl ?_
      exact ⟨⟨_, rfl⟩, .inl ⟨pre, Hend.out, hJ⟩⟩
end Go.Proofs.Ytaoiklfkkipcaaa
