import Derived.Test.YtaoiklfkkipcaaaJAct2
import Derived.Lib.SmallJoins
import Derived.ShutString
set_option linter.unusedSimpArgs false
set_option linter.unusedVariables false
namespace Go.Proofs.Ytaoiklfkkipcaaa
open Go Go.RowKit Hd Go.Mem

theorem array8 {α : Type} {cs : Array α} (h : cs.size = 8) : ∃ c0 c1 c2 c3 c4 c5 c6 c7, cs = #[c0, c1, c2, c3, c4, c5, c6, c7] := by
  obtain ⟨l⟩ := cs
  match l, h with
  | [c0, c1, c2, c3, c4, c5, c6, c7], _ => exact ⟨c0, c1, c2, c3, c4, c5, c6, c7, rfl⟩
theorem array2 {α : Type} {cs : Array α} (h : cs.size = 2) : ∃ c0 c1, cs = #[c0, c1] := by
  obtain ⟨l⟩ := cs
  match l, h with
  | [c0, c1], _ => exact ⟨c0, c1, rfl⟩
theorem i64_of_wf {n : Int} (h : (Lit.int .i64 n).wf = true) : i64B n := by
  simp only [Lit.wf, IntKind.min, IntKind.max, IntKind.signed, IntKind.bits, Bool.and_eq_true, decide_eq_true_eq, if_true] at h
  unfold i64B
  omega
theorem str_list (s : ByteArray) : (⟨s.data.toList.toArray⟩ : ByteArray) = s := by
  obtain ⟨a⟩ := s
  simp
set_option maxRecDepth 100000 in
/-- a record that came in -/
theorem open_record {H : Type} {enc : TypeId × Value → H} {W : World} {base b0 : Nat} {r : Reach} {held : Bool} {v : Value} {d : DataW H} {p : List MemPlace} (hv : Value.okWide Try.prog W r b0 38 v)
    (h : DataW.Trod enc Try.prog W base (fun _ => true) held 38 v d p) : ∃ r : Rc, v = .agg (rcCells r) ∧ r.ok ∧ r.payer.length ≤ maxLen := by
  have k3 : Try.prog.cellsOf 3 = 1 := by kernel_rfl
  have k9 : Try.prog.cellsOf 9 = 1 := by kernel_rfl
  have k38 : Try.prog.cellsOf 38 = 8 := by kernel_rfl
  obtain ⟨cs, rfl, hsz⟩ := Go.WideShapes.okWide_struct Try.underlying38 hv
  obtain ⟨c0, c1, c2, c3, c4, c5, c6, c7, rfl⟩ := array8 (hsz.trans k38)
  obtain ⟨fuel, hf⟩ := h
  obtain ⟨xs, n, _, _, _, hlen, hg⟩ := DataW.trod_struct Try.underlying38 hf
  have get : ∀ i, i < 8 → ∃ y, xs[i]? = some y := fun i hi => ⟨xs[i]'(by rw [hlen]; exact hi), List.getElem?_eq_getElem _⟩
  obtain ⟨y0, e0⟩ := get 0 (by decide)
  obtain ⟨y1, e1⟩ := get 1 (by decide)
  obtain ⟨y2, e2⟩ := get 2 (by decide)
  obtain ⟨y3, e3⟩ := get 3 (by decide)
  obtain ⟨y4, e4⟩ := get 4 (by decide)
  obtain ⟨y5, e5⟩ := get 5 (by decide)
  obtain ⟨y6, e6⟩ := get 6 (by decide)
  obtain ⟨y7, e7⟩ := get 7 (by decide)
  have t0 : DataW.trod enc Try.prog W base (fun _ => true) held n 3 [c0] = some y0 := by rw [← e0]; simpa [Value.cells, k3] using hg 0 _ rfl
  have t1 : DataW.trod enc Try.prog W base (fun _ => true) held n 3 [c1] = some y1 := by rw [← e1]; simpa [Value.cells, k3] using hg 1 _ rfl
  have t2 : DataW.trod enc Try.prog W base (fun _ => true) held n 3 [c2] = some y2 := by rw [← e2]; simpa [Value.cells, k3] using hg 2 _ rfl
  have t3 : DataW.trod enc Try.prog W base (fun _ => true) held n 9 [c3] = some y3 := by rw [← e3]; simpa [Value.cells, k9] using hg 3 _ rfl
  have t4 : DataW.trod enc Try.prog W base (fun _ => true) held n 3 [c4] = some y4 := by rw [← e4]; simpa [Value.cells, k3] using hg 4 _ rfl
  have t5 : DataW.trod enc Try.prog W base (fun _ => true) held n 3 [c5] = some y5 := by rw [← e5]; simpa [Value.cells, k3] using hg 5 _ rfl
  have t6 : DataW.trod enc Try.prog W base (fun _ => true) held n 3 [c6] = some y6 := by rw [← e6]; simpa [Value.cells, k3] using hg 6 _ rfl
  have t7 : DataW.trod enc Try.prog W base (fun _ => true) held n 3 [c7] = some y7 := by rw [← e7]; simpa [Value.cells, k3] using hg 7 _ rfl
  obtain ⟨a0, f0, _, w0⟩ := DataW.trod_int Try.underlying3 t0
  obtain ⟨a1, f1, _, w1⟩ := DataW.trod_int Try.underlying3 t1
  obtain ⟨a2, f2, _, w2⟩ := DataW.trod_int Try.underlying3 t2
  obtain ⟨s, f3, _, w3⟩ := DataW.trod_string Try.underlying9 t3
  obtain ⟨a4, f4, _, w4⟩ := DataW.trod_int Try.underlying3 t4
  obtain ⟨a5, f5, _, w5⟩ := DataW.trod_int Try.underlying3 t5
  obtain ⟨a6, f6, _, w6⟩ := DataW.trod_int Try.underlying3 t6
  obtain ⟨a7, f7, _, w7⟩ := DataW.trod_int Try.underlying3 t7
  simp only [List.cons.injEq, and_true] at f0 f1 f2 f3 f4 f5 f6 f7
  subst f0 f1 f2 f3 f4 f5 f6 f7
  refine ⟨⟨a0, a1, a2, s.data.toList, a4, a5, a6, a7⟩, ?_, ⟨i64_of_wf w0, i64_of_wf w1, i64_of_wf w2, i64_of_wf w4, i64_of_wf w5, i64_of_wf w6, i64_of_wf w7⟩, ?_⟩
  · show _ = Value.agg #[_, _, _, .string ⟨s.data.toList.toArray⟩, _, _, _, _]
    rw [show (⟨s.data.toList.toArray⟩ : ByteArray) = s from str_list s]
  · show s.data.toList.length ≤ maxLen
    rw [Array.length_toList]
    exact w3
set_option maxRecDepth 100000 in
/-- a disk that came in -/
theorem open_disk {H : Type} {enc : TypeId × Value → H} {W : World} {base b0 : Nat} {r : Reach} {held : Bool} {v : Value} {d : DataW H} {p : List MemPlace} (hv : Value.okWide Try.prog W r b0 27 v)
    (h : DataW.Trod enc Try.prog W base (fun _ => true) held 27 v d p) : ∃ A A' c c' k, v = .agg (dkCells A A' c c' k) ∧ InD W A A' c c' k := by
  have k25 : Try.prog.cellsOf 25 = 1 := by kernel_rfl
  have k27 : Try.prog.cellsOf 27 = 2 := by kernel_rfl
  obtain ⟨cs, rfl, hsz⟩ := Go.WideShapes.okWide_struct Try.underlying27 hv
  obtain ⟨c0, c1, rfl⟩ := array2 (hsz.trans k27)
  obtain ⟨fuel, hf⟩ := h
  obtain ⟨xs, n, _, _, _, hlen, hg⟩ := DataW.trod_struct Try.underlying27 hf
  have get : ∀ i, i < 2 → ∃ y, xs[i]? = some y := fun i hi => ⟨xs[i]'(by rw [hlen]; exact hi), List.getElem?_eq_getElem _⟩
  obtain ⟨y0, e0⟩ := get 0 (by decide)
  obtain ⟨y1, e1⟩ := get 1 (by decide)
  have t0 : DataW.trod enc Try.prog W base (fun _ => true) held n 25 [c0] = some y0 := by rw [← e0]; simpa [Value.cells, k25] using hg 0 _ rfl
  have t1 : DataW.trod enc Try.prog W base (fun _ => true) held n 25 [c1] = some y1 := by rw [← e1]; simpa [Value.cells, k25] using hg 1 _ rfl
  obtain ⟨A, l, c, f0⟩ := Go.Joins.slice_form Try.underlying25 t0
  obtain ⟨A', l', c', f1⟩ := Go.Joins.slice_form Try.underlying25 t1
  simp only [List.cons.injEq, and_true] at f0 f1
  subst f0 f1
  obtain ⟨q, rfl, hi⟩ := inB_of Try.underlying25 Try.underlying5 (by kernel_rfl) t0
  obtain ⟨q', rfl, hi'⟩ := inB_of Try.underlying25 Try.underlying5 (by kernel_rfl) t1
  exact ⟨A, A', c, c', ⟨q, q'⟩, rfl, ⟨hi.rd, hi'.rd, hi.nil, hi'.nil, hi.le, hi'.le, hi.cap, hi'.cap⟩⟩
end Go.Proofs.Ytaoiklfkkipcaaa
