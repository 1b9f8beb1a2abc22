import Derived.Test.YtpeahilkmlffkaaQSend
import Derived.Test.YtpeahilkmlffkaaQStore
set_option linter.unusedSimpArgs false
set_option linter.unusedVariables false
namespace Go.Proofs.Ytpeahilkmlffkaa
open Go Go.RowKit Hd Go.Mem

/-- what lies in a cell -/
@[irreducible] def cellAt (W : World) (g i : Nat) : Value := (W.cell? ⟨g, i, none⟩).getD undef
theorem cellAt_eq {W : World} {g i : Nat} {v : Value} (h : W.cell? ⟨g, i, none⟩ = some v) : W.cell? ⟨g, i, none⟩ = some (cellAt W g i) := by
  unfold cellAt
  rw [h]
  rfl
/-- what stands through a region that makes memory and writes one block -/
structure R22 (g : Nat) (W0 W : World) : Prop where
  os : W.os = W0.os
  tape : W.tape = W0.tape
  output : W.output = W0.output
  size : W0.heap.size ≤ W.heap.size
  other : ∀ k, k < W0.heap.size → k ≠ g → W.heap[k]? = W0.heap[k]?
  res : ∃ cs, W.heap[g]? = some (.cells cs 39 (0, 0)) ∧ cs.size = 6
theorem R22.step {g : Nat} {W0 W W' : World} (h : R22 g W0 W) (hb : Below W.heap.size W W') : R22 g W0 W' := by
  obtain ⟨cs, h1, h2⟩ := h.res
  exact ⟨hb.os.trans h.os, hb.tape.trans h.tape, hb.output.trans h.output, Nat.le_trans h.size hb.size, fun k hk hg => (hb.block k (Nat.lt_of_lt_of_le hk h.size)).trans (h.other k hk hg), cs, (hb.block g (blk_lt h1)).trans h1, h2⟩
theorem R22.below {g B : Nat} {w W0 W : World} (h : R22 g W0 W) (hb : Below B w W0) (hg : B ≤ g) (hB : B ≤ W0.heap.size) : Below B w W :=
  hb.trans ⟨h.os, h.tape, h.output, h.size, fun k hk => h.other k (by omega) (by omega)⟩
theorem R22.set {g : Nat} {W0 W : World} (h : R22 g W0 W) (i : Nat) (v : Value) : R22 g W0 (W.setCell ⟨g, i, none⟩ v) := by
  obtain ⟨cs, h1, h2⟩ := h.res
  have u := upd_setCell W g i v
  exact ⟨u.os.trans h.os, u.tape.trans h.tape, u.output.trans h.output, by rw [u.size]; exact h.size, fun k hk hg => (u.other k hg).trans (h.other k hk hg), _, heap_setCell_same _ _ _ _ _ _ h1, by simpa using h2⟩
theorem R22.sets {g : Nat} {W0 W : World} (h : R22 g W0 W) (v0 v1 v2 v3 v4 v5 : Value) : R22 g W0 (W.setCells g 0 [v0, v1, v2, v3, v4, v5]) :=
  (((((h.set 0 v0).set 1 v1).set 2 v2).set 3 v3).set 4 v4).set 5 v5
theorem R22.cell {g : Nat} {W0 W : World} (h : R22 g W0 W) (i : Nat) (hi : i < 6) : W.cell? ⟨g, i, none⟩ = some (cellAt W g i) := by
  obtain ⟨cs, h1, h2⟩ := h.res
  exact cellAt_eq (v := cs[i]) (cellOf h1 (by simp [h2, hi]))
theorem R22.thaw {g : Nat} {W0 W : World} (h : R22 g W0 W) (i : Nat) : W.frozen? ⟨g, i, none⟩ = false := by
  obtain ⟨cs, h1, h2⟩ := h.res
  exact frozen_of_row W g i _ _ h1
theorem R22.old {g k i : Nat} {W0 W : World} {cs : Array Value} {t : Nat} {v : Value} (h : R22 g W0 W) (hc : W0.heap[k]? = some (.cells cs t (0, 0))) (hk : k ≠ g) (hv : cs[i]? = some v) : W.cell? ⟨k, i, none⟩ = some v :=
  cellOf ((h.other k (blk_lt hc) hk).trans hc) hv
theorem r22_all {g : Nat} {W0 W : World} {A A' : Option Addr} {n c c' : Nat} {L : LE} {f : Fr} (h : R22 (g + 2) W0 W)
    (hP : W0.heap[g]? = some (.cells (leN A n c L) 39 (0, 0))) (hF : W0.heap[g + 1]? = some (.cells (frCells A' c' f) 24 (0, 0))) :
    R22 (g + 2) W0 W ∧ W.cell? ⟨g, 0, none⟩ = some (.slice A n c) ∧ W.cell? ⟨g, 1, none⟩ = some (.int .i64 L.b) ∧ W.cell? ⟨g, 2, none⟩ = some (.int .i64 L.s) ∧ W.cell? ⟨g, 3, none⟩ = some (.int .i64 L.x) ∧ W.cell? ⟨g, 4, none⟩ = some (.bool L.o) ∧ W.cell? ⟨g, 5, none⟩ = some (.int .i64 L.d)
      ∧ W.cell? ⟨g + 1, 3, none⟩ = some (.slice A' f.p.length c')
      ∧ W.cell? ⟨g + 2, 0, none⟩ = some (cellAt W (g + 2) 0) ∧ W.cell? ⟨g + 2, 1, none⟩ = some (cellAt W (g + 2) 1) ∧ W.cell? ⟨g + 2, 2, none⟩ = some (cellAt W (g + 2) 2) ∧ W.cell? ⟨g + 2, 3, none⟩ = some (cellAt W (g + 2) 3) ∧ W.cell? ⟨g + 2, 4, none⟩ = some (cellAt W (g + 2) 4) ∧ W.cell? ⟨g + 2, 5, none⟩ = some (cellAt W (g + 2) 5)
      ∧ W.frozen? ⟨g + 2, 0, none⟩ = false ∧ W.frozen? ⟨g + 2, 1, none⟩ = false ∧ W.frozen? ⟨g + 2, 2, none⟩ = false ∧ W.frozen? ⟨g + 2, 3, none⟩ = false ∧ W.frozen? ⟨g + 2, 4, none⟩ = false ∧ W.frozen? ⟨g + 2, 5, none⟩ = false :=
  ⟨h, h.old hP (by omega) rfl, h.old hP (by omega) rfl, h.old hP (by omega) rfl, h.old hP (by omega) rfl, h.old hP (by omega) rfl, h.old hP (by omega) rfl, h.old hF (by omega) rfl,
    h.cell 0 (by omega), h.cell 1 (by omega), h.cell 2 (by omega), h.cell 3 (by omega), h.cell 4 (by omega), h.cell 5 (by omega), h.thaw 0, h.thaw 1, h.thaw 2, h.thaw 3, h.thaw 4, h.thaw 5⟩
theorem R22.start {g : Nat} {W : World} {cs : Array Value} (h : W.heap[g]? = some (.cells cs 39 (0, 0))) (hs : cs.size = 6) : R22 g W W.drew :=
  ⟨rfl, rfl, rfl, Nat.le_refl _, fun _ _ _ => rfl, cs, h, hs⟩
theorem yieldsIf_load_blk {P : Program} {ops : Array Oper} {S : World → Prop} {op : Oper} {a : Act} (hw : Region.wanted op (yielded ops a.tmps) = true) (ty : TypeId) (x : Operand) (ho : op.op = .load ty x)
    (g : Nat) (hx : a.eval x = .pointer (some ⟨g, 0, none⟩)) (t : TypeId) (cs : Array Value) (fr : Nat × Nat) (d : TypeDesc) (hS : ∀ w, S w → w.heap[g]? = some (.cells cs t fr))
    (hu : P.underlying ty = some d) (hd : (match d with | .struct _ | .array _ _ => true | _ => false) = true) (hi : (P.info? ty).map (·.size) = some cs.size) : YieldsIf P ops S op (.agg cs) a :=
  .inl ⟨hw, fun w hw' => by
    unfold execOp
    simp only [ho, hx, Instr.loadAt, Instr.sureAddr, Sem.run_bind, Sem.run_pure, Result.andThen_ok, run_loadVar_row w g t ty cs fr d (hS w hw') hu hd hi]⟩
theorem R22.row {g : Nat} {W0 W : World} (h : R22 g W0 W) (cs : Array Value) (hs : cs.size = 6) (hz : ∃ old, W.heap[g]? = some (.cells old 39 (0, 0))) : R22 g W0 (W.setRow g cs) := by
  obtain ⟨old, h1⟩ := hz
  exact ⟨h.os, h.tape, h.output, by rw [show (W.setRow g cs).heap.size = W.heap.size by simp [World.setRow]]; exact h.size, fun k hk hg => (setRow_other _ _ _ _ hg).trans (h.other k hk hg), cs, setRow_heap _ _ _ _ _ _ h1, hs⟩
/-- a list of one byte string in a block of its own -/
theorem inl_one {W wq : World} {ok : Nat → Prop} {b n c t : Nat} {A : Option Addr} {p : List UInt8} (h : W.heap[b]? = some (.cells #[.slice A n c] t (0, 0))) (hE : Els ok wq [.slice A n c] [p])
    (hm : ∀ k, ok k → k < wq.heap.size → W.heap[k]? = wq.heap[k]?) : InL W (some ⟨b, 0, none⟩) 1 [p] := by
  refine ⟨⟨[.slice A n c], RdC.of_cells fun j u hu => ?_, hE.move (fun k hk hl => hm k hk hl) (fun _ _ _ => trivial)⟩, (fun e => by cases e), Nat.le_refl _, by decide⟩
  rw [Addr.add_mid, cell_of_row _ _ _ _ _ _ h]
  match j, hu with
  | 0, hu => simpa using hu
  | j + 1, hu => simp at hu
theorem els_own {w : World} {base n : Nat} {A : Option Addr} {c : Nat} {p : List UInt8} (h : OwnB w base 5 (.slice A n c) p) : Els (fun b => base ≤ b) w [.slice A n c] [p] := by
  obtain ⟨A4, c4, e, hA4, hc4, hm4, _⟩ := own_form h
  simp only [Value.slice.injEq] at e
  obtain ⟨rfl, rfl, rfl⟩ := e
  exact ⟨⟨A, c, rfl, hc4, hm4, hA4, own_rdp' h (Nat.le_refl _)⟩, trivial⟩
/-- the end of that region -/
structure End22 (Wf : World) (g b : Nat) (cs : Array Value) (p : List UInt8) : Prop where
  row : Wf.heap[g]? = some (.cells cs 39 (0, 0))
  inl : InL Wf (some ⟨b, 0, none⟩) 1 [p]
theorem endA {wq : World} {g B n c : Nat} {A : Option Addr} {p : List UInt8} {cs old : Array Value} (ho : (wq.alloc (.cells #[.slice A n c] 22)).heap[g]? = some (.cells old 39 (0, 0)))
    (hE : Els (fun b => B ≤ b) wq [.slice A n c] [p]) (hg : g < B) (hw : g < wq.heap.size) : End22 ((wq.alloc (.cells #[.slice A n c] 22)).setRow g cs) g wq.heap.size cs p :=
  ⟨setRow_heap _ _ _ _ _ _ ho, inl_one ((setRow_other _ _ _ _ (by omega)).trans (heap_alloc_new _ _)) hE fun k hk hl => (setRow_other _ _ _ _ (by omega)).trans (heap_alloc_old _ _ hl)⟩
theorem endB {wq : World} {g B n c : Nat} {A : Option Addr} {p : List UInt8} {cs old : Array Value} (ho : wq.heap[g]? = some (.cells old 39 (0, 0)))
    (hE : Els (fun b => B ≤ b) wq [.slice A n c] [p]) (hg : g < B) : End22 ((wq.setRow g cs).alloc (.cells #[.slice A n c] 22)) g wq.heap.size cs p := by
  have hs : (wq.setRow g cs).heap.size = wq.heap.size := by simp [World.setRow]
  have h1 := setRow_heap _ _ _ cs _ _ ho
  refine ⟨(heap_alloc_old _ _ (blk_lt h1)).trans h1, inl_one (t := 22) ?_ hE fun k hk hl => (heap_alloc_old _ _ (by rw [hs]; exact hl)).trans (setRow_other _ _ _ _ (by omega))⟩
  have := heap_alloc_new (wq.setRow g cs) (.cells #[.slice A n c] 22)
  rwa [hs] at this
end Go.Proofs.Ytpeahilkmlffkaa
