import Derived.Test.YtpeahilkmlffkaaQSend
import Derived.Lib.SmallJoins
set_option linter.unusedSimpArgs false
set_option linter.unusedVariables false
namespace Go.Proofs.Ytpeahilkmlffkaa
open Go Go.RowKit Hd Go.Mem

/-- a frame that came in -/
theorem open_frame {H : Type} {enc : TypeId × Value → H} {W : World} {base b0 : Nat} {r : Reach} {held : Bool} {v : Value} {d : DataW H} {p : List MemPlace} (hv : Value.okWide Try.prog W r b0 24 v)
    (h : DataW.Trod enc Try.prog W base (fun _ => true) held 24 v d p) : ∃ A c f, v = .agg (frCells A c f) ∧ InB W A c f.p := by
  obtain ⟨c0, c1, c2, c3, y0, y1, y2, y3, n, rfl, rfl, rfl, t0, t1, t2, t3⟩ := Go.Joins.open_agg4 Try.underlying24 (by kernel_rfl) (by kernel_rfl) hv h
  obtain ⟨b, e0, _⟩ := DataW.trod_bool Try.underlying4 t0
  obtain ⟨s, e1, _, _⟩ := DataW.trod_int Try.underlying3 t1
  obtain ⟨a, e2, _, _⟩ := DataW.trod_int Try.underlying3 t2
  obtain ⟨A, l, c, e3⟩ := Go.Joins.slice_form Try.underlying22 t3
  simp only [List.cons.injEq, and_true] at e0 e1 e2 e3
  subst e0 e1 e2 e3
  obtain ⟨p, rfl, hi⟩ := inB_of Try.underlying22 Try.underlying5 (by kernel_rfl) t3
  exact ⟨A, c, ⟨b, s, a, p⟩, rfl, hi⟩
theorem array6 {α : Type} {cs : Array α} (h : cs.size = 6) : ∃ c0 c1 c2 c3 c4 c5, cs = #[c0, c1, c2, c3, c4, c5] := by
  obtain ⟨l⟩ := cs
  match l, h with
  | [c0, c1, c2, c3, c4, c5], _ => exact ⟨c0, c1, c2, c3, c4, c5, rfl⟩
/-- a link end that came in -/
theorem open_link {H : Type} {enc : TypeId × Value → H} {W : World} {base b0 : Nat} {r : Reach} {held : Bool} {v : Value} {d : DataW H} {p : List MemPlace} (hv : Value.okWide Try.prog W r b0 39 v)
    (h : DataW.Trod enc Try.prog W base (fun _ => true) held 39 v d p) : ∃ A c l, v = .agg (leCells A c l) ∧ InL W A c l.q := by
  have k37 : Try.prog.cellsOf 37 = 1 := by kernel_rfl
  have k3 : Try.prog.cellsOf 3 = 1 := by kernel_rfl
  have k4 : Try.prog.cellsOf 4 = 1 := by kernel_rfl
  have k39 : Try.prog.cellsOf 39 = 6 := by kernel_rfl
  obtain ⟨cs, rfl, hsz⟩ := Go.WideShapes.okWide_struct Try.underlying39 hv
  obtain ⟨c0, c1, c2, c3, c4, c5, rfl⟩ := array6 (hsz.trans k39)
  obtain ⟨fuel, hf⟩ := h
  obtain ⟨xs, n, _, _, _, hlen, hg⟩ := DataW.trod_struct Try.underlying39 hf
  have get : ∀ i, i < 6 → ∃ y, xs[i]? = some y := fun i hi => ⟨xs[i]'(by rw [hlen]; exact hi), List.getElem?_eq_getElem _⟩
  obtain ⟨y0, e0⟩ := get 0 (by decide)
  obtain ⟨y1, e1⟩ := get 1 (by decide)
  obtain ⟨y2, e2⟩ := get 2 (by decide)
  obtain ⟨y3, e3⟩ := get 3 (by decide)
  obtain ⟨y4, e4⟩ := get 4 (by decide)
  obtain ⟨y5, e5⟩ := get 5 (by decide)
  have t0 : DataW.trod enc Try.prog W base (fun _ => true) held n 37 [c0] = some y0 := by rw [← e0]; simpa [Value.cells, k37] using hg 0 _ rfl
  have t1 : DataW.trod enc Try.prog W base (fun _ => true) held n 3 [c1] = some y1 := by rw [← e1]; simpa [Value.cells, k3] using hg 1 _ rfl
  have t2 : DataW.trod enc Try.prog W base (fun _ => true) held n 3 [c2] = some y2 := by rw [← e2]; simpa [Value.cells, k3] using hg 2 _ rfl
  have t3 : DataW.trod enc Try.prog W base (fun _ => true) held n 3 [c3] = some y3 := by rw [← e3]; simpa [Value.cells, k3] using hg 3 _ rfl
  have t4 : DataW.trod enc Try.prog W base (fun _ => true) held n 4 [c4] = some y4 := by rw [← e4]; simpa [Value.cells, k4] using hg 4 _ rfl
  have t5 : DataW.trod enc Try.prog W base (fun _ => true) held n 3 [c5] = some y5 := by rw [← e5]; simpa [Value.cells, k3] using hg 5 _ rfl
  obtain ⟨A, l, c, f0⟩ := Go.Joins.slice_form Try.underlying37 t0
  obtain ⟨b, f1, _, _⟩ := DataW.trod_int Try.underlying3 t1
  obtain ⟨s, f2, _, _⟩ := DataW.trod_int Try.underlying3 t2
  obtain ⟨x, f3, _, _⟩ := DataW.trod_int Try.underlying3 t3
  obtain ⟨o, f4, _⟩ := DataW.trod_bool Try.underlying4 t4
  obtain ⟨d, f5, _, _⟩ := DataW.trod_int Try.underlying3 t5
  simp only [List.cons.injEq, and_true] at f0 f1 f2 f3 f4 f5
  subst f0 f1 f2 f3 f4 f5
  obtain ⟨q, rfl, hi⟩ := inL_of Try.underlying37 Try.underlying22 Try.underlying5 (by kernel_rfl) (by kernel_rfl) t0
  exact ⟨A, c, ⟨q, b, s, x, o, d⟩, rfl, hi⟩
end Go.Proofs.Ytpeahilkmlffkaa
