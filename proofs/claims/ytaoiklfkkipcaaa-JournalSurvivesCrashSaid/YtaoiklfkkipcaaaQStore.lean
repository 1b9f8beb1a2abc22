import Derived.Test.YtaoiklfkkipcaaaMemL
import Derived.Laws.Tables
import Derived.Deep.MidRow
set_option linter.unusedSimpArgs false
set_option linter.unusedVariables false
namespace Go.Mem
open Go Go.RowKit
/-- what a store to one block leaves -/
structure Upd (g : Nat) (W W' : World) : Prop where
  os : W'.os = W.os
  tape : W'.tape = W.tape
  output : W'.output = W.output
  size : W'.heap.size = W.heap.size
  other : ∀ k, k ≠ g → W'.heap[k]? = W.heap[k]?
theorem Upd.below {g B : Nat} {w W W' : World} (h : Upd g W W') (hb : Below B w W) (hg : B ≤ g) : Below B w W' :=
  hb.trans ⟨h.os, h.tape, h.output, by rw [h.size]; exact Nat.le_refl _, fun k hk => h.other k (by omega)⟩
theorem upd_setCell (W : World) (g i : Nat) (v : Value) : Upd g W (W.setCell ⟨g, i, none⟩ v) := ⟨rfl, rfl, rfl, by simp, fun k hk => heap_setCell_other _ _ _ _ hk⟩
section
variable {P : Program}
theorem run_storeVar_field (w : World) (g i : Nat) (t ty : TypeId) (cs : Array Value) (v : Value) (hg : w.heap[g]? = some (.cells cs t (0, 0))) (hi : i < cs.size) (hs : (P.info? ty).map (·.size) = some 1) (h1 : v.oneCell' = true) :
    (storeVar ty ⟨g, i, none⟩ v).run P w = .ok () (w.setCell ⟨g, i, none⟩ v) := by
  have hc : v.cells = #[v] := by cases v <;> first | rfl | cases h1
  have hcell : w.cell? ⟨g, i, none⟩ = some cs[i] := by rw [cell_of_row _ _ _ _ _ _ hg]; simp [hi]
  have hf := frozen_of_row w g i _ _ hg
  have := run_storeCells_cells (P := P) g i [v] 0 w (fun j hj => by
    have : j = 0 := by simpa using hj
    subst this; simp [hcell]) (fun j hj => by
    have : j = 0 := by simpa using hj
    subst this; simpa using hf) (fun x hx => by simp at hx; subst hx; exact h1)
  cases hq : P.info? ty with
  | none => simp [hq] at hs
  | some q =>
    have hs' : q.size = 1 := by simpa [hq] using hs
    simp only [Nat.add_zero] at this
    simp [storeVar, sizeOf, typeInfo, hq, hc, hs', this, World.setCells]
theorem wpList_store_field {ops : Array Oper} {rest : List Oper} {o : Oper} {a : Act} {w : World} {Q : Exit → Act → World → Prop} (hgd : o.guard = none) (ty : TypeId) (x y : Operand) (ho : o.op = .store ty x y)
    (g i : Nat) (v : Value) (hx : a.eval x = .pointer (some ⟨g, i, none⟩)) (hy : a.eval y = v) (h1 : v.oneCell' = true)
    (t : TypeId) (cs : Array Value) (hg : w.heap[g]? = some (.cells cs t (0, 0))) (hi : i < cs.size) (hs : (P.info? ty).map (·.size) = some 1)
    (h : ∀ W', W'.heap[g]? = some (.cells (cs.setIfInBounds i v) t (0, 0)) → Upd g w W' → wpList P ops Q rest (a.put o.dst undef) W') : wpList P ops Q (o :: rest) a w := by
  subst hy
  refine wpList_plain hgd fun _ hK => ?_
  unfold Oper.wp execOp
  simp only [ho, hx, Instr.storeAt, Instr.sureAddr, Sem.run_bind, Sem.run_pure, Result.andThen_ok, run_storeVar_field w g i t ty cs _ hg hi hs h1]
  exact hK _ _ (h _ (heap_setCell_same _ _ _ _ _ _ hg) (upd_setCell _ _ _ _))
end
end Go.Mem
