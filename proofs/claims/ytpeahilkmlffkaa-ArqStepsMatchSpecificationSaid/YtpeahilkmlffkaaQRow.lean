import Derived.Test.YtpeahilkmlffkaaQUns
import Derived.Maps.OwnIn
set_option linter.unusedSimpArgs false
set_option linter.unusedVariables false
namespace Go.Mem
open Go Go.RowKit
section
variable {F : Fence} {nF : Nat} {P : Program} {ops : Array Oper} {rest : List Oper} {o : Oper} {a : Act} {w : World} {Q : Exit → Act → World → Prop}
/-- inside a fence: a struct is loaded -/
theorem in_load_row (hgd : o.guard = none) (ty : TypeId) (x : Operand) (ho : o.op = .load ty x)
    (g : Nat) (hx : a.eval x = .pointer (some ⟨g, 0, none⟩)) (t : TypeId) (cs : Array Value) (fr : Nat × Nat) (d : TypeDesc) (hg : w.heap[g]? = some (.cells cs t fr))
    (hu : P.underlying ty = some d) (hd : (match d with | .struct _ | .array _ _ => true | _ => false) = true) (hi : (P.info? ty).map (·.size) = some cs.size)
    (h : wpListIn F nF P ops Q rest (a.put o.dst (.agg cs)) w) : wpListIn F nF P ops Q (o :: rest) a w := by
  refine wpListIn_plain hgd fun K hK => ?_
  unfold Oper.wpIn
  refine ⟨by simp [Oper.about, ho], ?_⟩
  rw [Oper.semAt_plain F _ _ (by rw [ho]; intro c hc'; cases hc')]
  unfold execOp
  simp only [ho, hx, Instr.loadAt, Instr.sureAddr, Sem.run_bind, Sem.run_pure, Result.andThen_ok, run_loadVar_row w g t ty cs fr d hg hu hd hi]
  exact hK _ _ h
/-- inside a fence: a struct is stored -/
theorem in_store_row (hgd : o.guard = none) (ty : TypeId) (x y : Operand) (ho : o.op = .store ty x y)
    (g : Nat) (cells : Array Value) (hx : a.eval x = .pointer (some ⟨g, 0, none⟩)) (hy : a.eval y = .agg cells)
    (t : TypeId) (old : Array Value) (hg : w.heap[g]? = some (.cells old t (0, 0))) (hi : (P.info? ty).map (·.size) = some cells.size)
    (hold : old.size = cells.size) (h1 : cells.all (·.oneCell') = true)
    (h : wpListIn F nF P ops Q rest (a.put o.dst undef) (w.setRow g cells)) : wpListIn F nF P ops Q (o :: rest) a w := by
  refine wpListIn_plain hgd fun K hK => ?_
  unfold Oper.wpIn
  refine ⟨by simp [Oper.about, ho], ?_⟩
  rw [Oper.semAt_plain F _ _ (by rw [ho]; intro c hc'; cases hc')]
  unfold execOp
  simp only [ho, hx, hy, Instr.storeAt, Instr.sureAddr, Sem.run_bind, Sem.run_pure, Result.andThen_ok, run_storeVar_row w g t ty old cells hg hi hold h1]
  exact hK _ _ h
end
theorem cell_block {w : World} {b i : Nat} {v : Value} (h : w.cell? ⟨b, i, none⟩ = some v) : ∃ cs t fr, w.heap[b]? = some (.cells cs t fr) := by
  unfold World.cell? at h
  split at h
  · rename_i h2; exact ⟨_, _, _, h2⟩
  · cases h
end Go.Mem
namespace Go.Proofs.Ytpeahilkmlffkaa
open Go Go.RowKit Hd Go.Mem
/-- whatever is cells lies as it lay -/
theorem FrOk.cells {ok ok' : Nat → Prop} {w w' : World} {x : FrE} (h : FrOk ok w x) (hc : ∀ (b : Nat) (cs : Array Value) (t : Nat) (fr : Nat × Nat), w.heap[b]? = some (.cells cs t fr) → w'.heap[b]? = w.heap[b]?) (hi : ∀ b, ok b → ok' b) : FrOk ok' w' x := by
  refine ⟨h.nil, h.le, h.cap, ?_⟩
  by_cases hx : x.f.p.map B = []
  · exact .inl hx
  · rcases h.rd with h1 | ⟨b, off, e, ho, hcell⟩
    · exact absurd h1 hx
    · obtain ⟨cs, t, fr, hb⟩ := cell_block (hcell 0 (List.length_pos_iff.2 hx))
      exact .inr ⟨b, off, e, hi b ho, fun i hl => by rw [World.cell?_of_block (a := ⟨b, off + i, none⟩) (hc b cs t fr hb)]; exact hcell i hl⟩
def flatF (xs : List FrE) : List Value := xs.flatMap fun x => x.cells.toList
theorem flatF_snoc (xs : List FrE) (x : FrE) : flatF (xs ++ [x]) = flatF xs ++ x.cells.toList := by simp [flatF]
/-- a list of frames of the call's own -/
structure RowF (W : World) (base : Nat) (v : Value) (xs : List FrE) : Prop where
  own : W.ownsRow base 24 4 v xs.length (flatF xs)
  els : ∀ x ∈ xs, FrOk (fun b => base ≤ b ∧ v.ownBlock ≠ some b) W x
theorem RowF.nil (W : World) (base : Nat) : RowF W base (.slice none 0 0) [] := ⟨⟨rfl, .inl ⟨rfl, rfl⟩⟩, fun x hx => by cases hx⟩
theorem RowF.cells {W W' : World} {base : Nat} {v : Value} {xs : List FrE} (h : RowF W base v xs) (hc : ∀ (b : Nat) (cs : Array Value) (t : Nat) (fr : Nat × Nat), base ≤ b → W.heap[b]? = some (.cells cs t fr) → W'.heap[b]? = W.heap[b]?) : RowF W' base v xs := by
  refine ⟨⟨h.own.1, ?_⟩, fun x hx => ?_⟩
  · rcases h.own.2 with h2 | ⟨g, cap, cur, k1, k2, k3, k4⟩
    · exact .inl h2
    · exact .inr ⟨g, cap, cur, k1, k2, (hc g _ _ _ k2 k3).trans k3, k4⟩
  · have hf := h.els x hx
    refine ⟨hf.nil, hf.le, hf.cap, ?_⟩
    by_cases hx : x.f.p.map B = []
    · exact .inl hx
    · rcases hf.rd with h1 | ⟨b, off, e, ho, hcell⟩
      · exact absurd h1 hx
      · obtain ⟨cs, t, fr, hb⟩ := cell_block (hcell 0 (List.length_pos_iff.2 hx))
        exact .inr ⟨b, off, e, ho, fun i hl => by rw [World.cell?_of_block (a := ⟨b, off + i, none⟩) (hc b cs t fr ho.1 hb)]; exact hcell i hl⟩
/-- a list of frames that can be read -/
structure InF (w : World) (A : Option Addr) (c : Nat) (fs : List Fr) : Prop where
  rd : ∃ xs : List FrE, xs.map (·.f) = fs ∧ RdC w A (flatF xs) ∧ ∀ x ∈ xs, FrOk (fun _ => True) w x
  nil : A = none → c = 0
  le : fs.length ≤ c
  cap : c ≤ maxLen
theorem InF.below {w w' : World} {A : Option Addr} {c : Nat} {fs : List Fr} (h : InF w A c fs) (hb : Below w.heap.size w w') : InF w' A c fs := by
  obtain ⟨xs, h1, h2, h3⟩ := h.rd
  exact ⟨⟨xs, h1, h2.below hb, fun x hx => (h3 x hx).move (fun b _ hl => hb.block b hl) (fun _ h _ => h)⟩, h.nil, h.le, h.cap⟩
theorem RowF.form {W : World} {base : Nat} {v : Value} {xs : List FrE} (h : RowF W base v xs) : ∃ A c, v = .slice A xs.length c ∧ InF W A c (xs.map (·.f)) := by
  obtain ⟨A, c, rfl, k1, k2, k3, k4⟩ := own_form h.own
  exact ⟨A, c, rfl, ⟨xs, rfl, k4, fun x hx => (h.els x hx).move (fun _ _ _ => rfl) (fun _ _ _ => trivial)⟩, k1, by simpa using k2, k3⟩
/-- what stands beside the list while Poll's loop goes -/
structure PollF (w1 : World) (b8 : Nat) (W : World) : Prop where
  os : W.os = w1.os
  tape : W.tape = w1.tape
  output : W.output = w1.output
  size : w1.heap.size ≤ W.heap.size
  lt : b8 < w1.heap.size
  blk : ∀ k, k < w1.heap.size → k ≠ b8 → W.heap[k]? = w1.heap[k]?
theorem PollF.below {w1 W W' : World} {b8 : Nat} (h : PollF w1 b8 W) (hb : Below W.heap.size W W') : PollF w1 b8 W' :=
  ⟨hb.os.trans h.os, hb.tape.trans h.tape, hb.output.trans h.output, Nat.le_trans h.size hb.size, h.lt, fun k hk hne => (hb.block k (Nat.lt_of_lt_of_le hk h.size)).trans (h.blk k hk hne)⟩
theorem PollF.grown {w1 W W' : World} {b8 : Nat} {row : Option Nat} (h : PollF w1 b8 W) (hg : W.grownBy W' row) (hr : ∀ r, row = some r → w1.heap.size ≤ r) : PollF w1 b8 W' :=
  ⟨hg.os.trans h.os, hg.tape.trans h.tape, hg.output.trans h.output, Nat.le_trans h.size hg.size, h.lt, fun k hk hne => (hg.block k (Nat.lt_of_lt_of_le hk h.size) fun e => by have := hr k e.symm; omega).trans (h.blk k hk hne)⟩
structure PollI (w1 : World) (b8 : Nat) (xs : List FrE) (W : World) : Prop where
  fr : PollF w1 b8 W
  box : ∃ v, W.heap[b8]? = some (.cells #[v] 35 (0, 0)) ∧ RowF W w1.heap.size v xs
structure PollI2 (w1 : World) (b8 : Nat) (xs : List FrE) (y : FrE × Nat) (W : World) : Prop where
  fr : PollF w1 b8 W
  cells : W.heap[y.2]? = some (.cells y.1.cells 24 (0, 0))
  box : ∃ v, W.heap[b8]? = some (.cells #[v] 35 (0, 0)) ∧ RowF W w1.heap.size v xs ∧ FrOk (fun b => w1.heap.size ≤ b ∧ v.ownBlock ≠ some b) W y.1
theorem cells_kept {W W' : World} {row : Option Nat} (hg : W.grownBy W' row) (hr : ∀ r, row = some r → ∃ o : Obj, W.heap[r]? = some o ∧ o.isCells = false) {b : Nat} {cs : Array Value} {t : Nat} {fr : Nat × Nat} (hb : W.heap[b]? = some (.cells cs t fr)) : W'.heap[b]? = W.heap[b]? := by
  refine hg.block b (blk_lt hb) fun e => ?_
  obtain ⟨o, ho, hn⟩ := hr b e.symm
  rw [hb] at ho
  cases ho
  cases hn
theorem PollI.from (w1 : World) (b8 : Nat) : OwnFrom w1.heap.size (PollI w1 b8) := by
  intro s W W' row h hg hr
  have hc := fun {b : Nat} {cs : Array Value} {t : Nat} {fr : Nat × Nat} => cells_kept (b := b) (cs := cs) (t := t) (fr := fr) hg fun r e => (hr r e).2
  obtain ⟨v, h1, h2⟩ := h.box
  exact ⟨h.fr.grown hg fun r e => (hr r e).1, v, (hc h1).trans h1, h2.cells fun b cs t fr _ hb => hc hb⟩
theorem PollI2.from (w1 : World) (b8 : Nat) (xs : List FrE) : OwnFrom w1.heap.size (PollI2 w1 b8 xs) := by
  intro s W W' row h hg hr
  have hc := fun {b : Nat} {cs : Array Value} {t : Nat} {fr : Nat × Nat} => cells_kept (b := b) (cs := cs) (t := t) (fr := fr) hg fun r e => (hr r e).2
  obtain ⟨v, h1, h2, h3⟩ := h.box
  exact ⟨h.fr.grown hg fun r e => (hr r e).1, (hc h.cells).trans h.cells, v, (hc h1).trans h1, h2.cells fun b cs t fr _ hb => hc hb, h3.cells (fun b cs t fr hb => hc hb) fun _ h => h⟩
theorem own_lt {W : World} {base size n : Nat} {e : TypeId} {v : Value} {xs : List Value} (h : W.ownsRow base e size v n xs) : ∀ b, v.ownBlock = some b → base ≤ b ∧ b < W.heap.size := by
  intro b hb
  rcases h.2 with ⟨rfl, _⟩ | ⟨g, cap, cur, rfl, h2, h3, _⟩
  · cases hb
  · cases hb; exact ⟨h2, blk_lt h3⟩
theorem keeps_below {W W' : World} (N : Nat) (hb : Below W.heap.size W W') : KeepsFrom N W W' := ⟨hb.size, fun k o _ ho _ => (hb.block k (blk_lt ho)).trans ho⟩
/-- a frame is handed over -/
theorem poll_take {w1 W0 W1 W' : World} {b8 b : Nat} {pre : List FrE} {x : FrE} (h : PollI w1 b8 pre W0) (h1 : Below W0.heap.size W0 W1) (hf : FrOk (W0.heap.size ≤ ·) W1 x) (h2 : Below W1.heap.size W1 W')
    (hb : W'.heap[b]? = some (.cells x.cells 24 (0, 0))) : PollI2 w1 b8 pre (x, b) W' := by
  have h3 := fw_trans h1 h2
  obtain ⟨v, k1, k2⟩ := h.box
  refine ⟨h.fr.below h3, hb, v, (h3.block _ (blk_lt k1)).trans k1, k2.cells fun b cs t fr _ hb => h3.block b (blk_lt hb), hf.move (fun b _ hl => h2.block b hl) fun b hk hl => ⟨Nat.le_trans h.fr.size hk, fun e => ?_⟩⟩
  have := (own_lt k2.own b e).2
  omega
/-- .. and joined to the list -/
theorem poll_push {w1 W W3 : World} {b8 b : Nat} {pre : List FrE} {x : FrE} {v v' : Value} (h : PollI2 w1 b8 pre (x, b) W) (hv : W.heap[b8]? = some (.cells #[v] 35 (0, 0)))
    (ho : W3.ownsRow w1.heap.size 24 4 v' (pre.length + 1) (flatF pre ++ x.cells.toList)) (hg : (W.alloc (.cells x.cells 24)).grownBy W3 v.ownBlock)
    (hat : v'.ownBlock = v.ownBlock ∨ v'.ownBlock = some (W.alloc (.cells x.cells 24)).heap.size) :
    KeepsFrom w1.heap.size W (W3.setCell ⟨b8, 0, none⟩ v') ∧ KpS (fun k => k < w1.heap.size ∧ k ≠ b8) W (W3.setCell ⟨b8, 0, none⟩ v') ∧ PollI w1 b8 (pre ++ [x]) (W3.setCell ⟨b8, 0, none⟩ v') := by
  obtain ⟨v2, k1, k2, k3⟩ := h.box
  have e2 : v2 = v := by
    rw [hv] at k1
    simp only [Option.some.injEq, Obj.cells.injEq] at k1
    have := k1.1
    simpa using this.symm
  subst e2
  have hlt := own_lt k2.own
  have hb8 := h.fr.lt
  have hs := h.fr.size
  have hs1 : (W.alloc (.cells x.cells 24)).heap.size = W.heap.size + 1 := by simp
  have hs3 := hg.size
  have hsz : (W3.setCell ⟨b8, 0, none⟩ v').heap.size = W3.heap.size := by simp
  have hk : ∀ k, k < W.heap.size → k ≠ b8 → v2.ownBlock ≠ some k → (W3.setCell ⟨b8, 0, none⟩ v').heap[k]? = W.heap[k]? := fun k hl hne hno => by
    rw [heap_setCell_other _ _ _ _ hne, hg.block k (by omega) (fun e => hno e.symm), heap_alloc_old _ _ hl]
  refine ⟨⟨by rw [hsz]; omega, fun k o hN hk1 hnc => ?_⟩, ⟨by rw [hsz]; omega, fun k hS hl => hk k hl hS.2 fun e => ?_⟩, ⟨?_, v', ?_, ?_, ?_⟩⟩
  · by_cases hno : v2.ownBlock = some k
    · rcases k2.own.2 with ⟨rfl, _⟩ | ⟨g, cap, cur, rfl, _, hg2, _⟩
      · cases hno
      · cases hno
        rw [hg2] at hk1
        cases hk1
        cases hnc
    · rw [hk k (blk_lt hk1) (by omega) hno]; exact hk1
  · have := (hlt k e).1
    omega
  · have hF3 := (h.fr.below (fw_new W (.cells x.cells 24))).grown hg fun r e => (hlt r e).1
    have u := upd_setCell W3 b8 0 v'
    exact ⟨u.os.trans hF3.os, u.tape.trans hF3.tape, u.output.trans hF3.output, by rw [u.size]; exact hF3.size, hF3.lt, fun k hl hne => (u.other k hne).trans (hF3.blk k hl hne)⟩
  · have h3 : W3.heap[b8]? = some (.cells #[v2] 35 (0, 0)) := by
      rw [hg.block b8 (by omega) (fun e => by have := (hlt b8 e.symm).1; omega), heap_alloc_old _ _ (blk_lt hv)]
      exact hv
    rw [heap_setCell_same _ _ _ _ _ _ h3]
    simp
  · rw [List.length_append, flatF_snoc]
    exact own_move ho fun k hk1 _ => heap_setCell_other _ _ _ _ (by show k ≠ b8; omega)
  · have hel : ∀ y, FrOk (fun b => w1.heap.size ≤ b ∧ v2.ownBlock ≠ some b) W y → FrOk (fun b => w1.heap.size ≤ b ∧ v'.ownBlock ≠ some b) (W3.setCell ⟨b8, 0, none⟩ v') y := fun y hy => hy.move (fun b hb hl => hk b hl (by omega) hb.2) fun b hb hl => ⟨hb.1, fun e => by
      rcases hat with e2 | e2
      · exact hb.2 (e2 ▸ e)
      · rw [e2] at e
        simp at e
        omega⟩
    intro y hy
    rcases List.mem_append.1 hy with hy | hy
    · exact hel y (k2.els y hy)
    · rw [List.mem_singleton.1 hy]; exact hel x k3
/-- what stands as Poll's loop begins -/
structure PollS (g : Nat) (A : Option Addr) (c : Nat) (l : LE) (W w1 : World) : Prop where
  size : w1.heap.size = W.heap.size + 2
  box : w1.heap[g]? = some (.cells (leN A l.q.length c l) 39 (0, 0))
  res : w1.heap[g + 1]? = some (.cells (leCells none 0 leZ) 39 (0, 0))
  frames : w1.heap[W.heap.size]? = some (.cells #[.slice none 0 0] 35 (0, 0))
  cap : w1.heap[W.heap.size + 1]? = some (.cells (leCells A c l) 39 (0, 0))
theorem poll_start {g base B : Nat} {A : Option Addr} {c : Nat} {l : LE} {w W w1 : World} (hw : (W.alloc (.cells #[.slice none 0 0] 35)).alloc (.cells (leCells A c l) 39) = w1)
    (hP : W.heap[g]? = some (.cells (leN A l.q.length c l) 39 (0, 0))) (hR : W.heap[g + 1]? = some (.cells (leCells none 0 leZ) 39 (0, 0)))
    (hq : RowB W base 22 (.slice A l.q.length c) l.q) (hb : Below B w W) (hB : B ≤ W.heap.size) :
    PollS g A c l W w1 ∧ Below B w w1 ∧ RowB w1 base 22 (.slice A l.q.length c) l.q ∧ ∃ vs, RdP (fun k => base ≤ k ∧ k < W.heap.size) w1 A vs ∧ Els (fun k => base ≤ k ∧ k < W.heap.size) w1 vs l.q := by
  have hf : Below W.heap.size W w1 := by rw [← hw]; exact fw_al (fw_new _ _) _
  refine ⟨⟨by rw [← hw]; simp, (hf.block _ (blk_lt hP)).trans hP, (hf.block _ (blk_lt hR)).trans hR, by rw [← hw]; exact blk_second _ _ _, by rw [← hw]; exact heap_alloc2_new _ _ _⟩, hb.trans (hf.mono hB), hq.below hf, ?_⟩
  obtain ⟨vs, h1, h2⟩ := hq
  refine ⟨vs, ?_, h2.move (fun b _ hl => hf.block b hl) (fun _ h hl => ⟨h.1, hl⟩)⟩
  rcases h1.2 with ⟨e, hn⟩ | ⟨g', cap, cur, e, k2, k3, k4⟩
  · have h0 := h1.1
    rw [hn] at h0
    exact .inl (List.eq_nil_of_length_eq_zero (by simpa using h0))
  · obtain ⟨A2, c2, e2, _, _, _, h3⟩ := own_form h1
    rw [e] at e2
    simp only [Value.slice.injEq] at e e2
    obtain ⟨rfl, _, _⟩ := e
    obtain ⟨rfl, _, _⟩ := e2
    refine (RdP.cells (ok := fun k => base ≤ k ∧ k < W.heap.size) (ad := ⟨g', 0, none⟩) ⟨k2, blk_lt k3⟩ h3).move (fun b _ hl => hf.block b hl) (fun _ h _ => h)
theorem inL_keep {w1 : World} {ok : Nat → Prop} {A : Option Addr} {c : Nat} {q : List (List UInt8)} (hf : InL w1 A c q) (hq : ∃ vs, RdP ok w1 A vs ∧ Els ok w1 vs q) (W' : World) (h : ∀ k, ok k → k < w1.heap.size → W'.heap[k]? = w1.heap[k]?) : InL W' A c q := by
  obtain ⟨vs, h1, h2⟩ := hq
  exact ⟨⟨vs, (h1.move h (fun _ h _ => h)).c, h2.move h (fun _ _ _ => trivial)⟩, hf.nil, hf.le, hf.cap⟩
theorem inF_keep {W : World} {base : Nat} {A : Option Addr} {n c : Nat} {xs : List FrE} (h : RowF W base (.slice A n c) xs) (W' : World) (hc : ∀ (b : Nat) (cs : Array Value) (t : Nat) (fr : Nat × Nat), base ≤ b → W.heap[b]? = some (.cells cs t fr) → W'.heap[b]? = W.heap[b]?) : InF W' A c (xs.map (·.f)) := by
  obtain ⟨A2, c2, e, h2⟩ := (h.cells hc).form
  simp only [Value.slice.injEq] at e
  obtain ⟨rfl, _, rfl⟩ := e
  exact h2
/-- what stands while Poll ends -/
structure PollZ (g b8 : Nat) (w1 W : World) : Prop where
  os : W.os = w1.os
  tape : W.tape = w1.tape
  output : W.output = w1.output
  size : w1.heap.size ≤ W.heap.size
  blk : ∀ k, k < w1.heap.size → k ≠ b8 → k ≠ g → k ≠ g + 1 → W.heap[k]? = w1.heap[k]?
theorem PollF.z {w1 W : World} {b8 : Nat} (h : PollF w1 b8 W) (g : Nat) : PollZ g b8 w1 W := ⟨h.os, h.tape, h.output, h.size, fun k hk h1 _ _ => h.blk k hk h1⟩
theorem PollZ.upd {g b8 i : Nat} {w1 W W' : World} (h : PollZ g b8 w1 W) (u : Upd i W W') (hi : i = g ∨ i = b8 ∨ i = g + 1) : PollZ g b8 w1 W' :=
  ⟨u.os.trans h.os, u.tape.trans h.tape, u.output.trans h.output, by rw [u.size]; exact h.size, fun k hk h1 h2 h3 => (u.other k (by omega)).trans (h.blk k hk h1 h2 h3)⟩
theorem upd_row (W : World) (g : Nat) (cs : Array Value) : Upd g W (W.setRow g cs) := ⟨rfl, rfl, rfl, by simp, fun k hk => setRow_other _ _ _ _ hk⟩
theorem PollZ.grown {g b8 : Nat} {w1 W W' : World} {row : Option Nat} (h : PollZ g b8 w1 W) (hg : W.grownBy W' row) (hr : ∀ r, row = some r → w1.heap.size ≤ r) : PollZ g b8 w1 W' :=
  ⟨hg.os.trans h.os, hg.tape.trans h.tape, hg.output.trans h.output, Nat.le_trans h.size hg.size, fun k hk h1 h2 h3 => (hg.block k (Nat.lt_of_lt_of_le hk h.size) fun e => by have := hr k e.symm; omega).trans (h.blk k hk h1 h2 h3)⟩
theorem PollZ.below {g b8 B : Nat} {w w1 W : World} (h : PollZ g b8 w1 W) (hb : Below B w w1) (h1 : B ≤ g) (h2 : B ≤ b8) (h3 : B ≤ w1.heap.size) : Below B w W :=
  hb.trans ⟨h.os, h.tape, h.output, h.size, fun k hk => h.blk k (by omega) (by omega) (by omega) (by omega)⟩
end Go.Proofs.Ytpeahilkmlffkaa
