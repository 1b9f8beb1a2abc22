import Derived.Test.YtaoiklfkkipcaaaJOpen
import Derived.Test.YtaoiklfkkipcaaaJRows
import Derived.Deep.Matrix
set_option linter.unusedSimpArgs false
set_option linter.unusedVariables false
namespace Go.Proofs.Ytaoiklfkkipcaaa
open Go Go.RowKit Hd Go.Mem

theorem list8 {α : Type} {l : List α} (h : l.length = 8) : ∃ c0 c1 c2 c3 c4 c5 c6 c7, l = [c0, c1, c2, c3, c4, c5, c6, c7] := by
  match l, h with
  | [c0, c1, c2, c3, c4, c5, c6, c7], _ => exact ⟨c0, c1, c2, c3, c4, c5, c6, c7, rfl⟩
set_option maxRecDepth 100000 in
/-- eight cells that read as a record -/
theorem rec_of_trod {H : Type} {enc : TypeId × Value → H} {W : World} {base : Nat} {held : Bool} {fuel : Nat} {cs : List Value} {x : DataW H × List MemPlace}
    (hf : DataW.trod enc Try.prog W base (fun _ => true) held fuel 38 cs = some x) : ∃ r : Rc, cs = (rcCells r).toList ∧ r.ok ∧ r.payer.length ≤ maxLen := by
  have k3 : Try.prog.cellsOf 3 = 1 := by kernel_rfl
  have k9 : Try.prog.cellsOf 9 = 1 := by kernel_rfl
  have k38 : Try.prog.cellsOf 38 = 8 := by kernel_rfl
  obtain ⟨xs, n, _, _, hcl, hlen, hg⟩ := DataW.trod_struct Try.underlying38 hf
  obtain ⟨c0, c1, c2, c3, c4, c5, c6, c7, rfl⟩ := list8 (hcl.trans k38)
  have get : ∀ i, i < 8 → ∃ y, xs[i]? = some y := fun i hi => ⟨xs[i]'(by rw [hlen]; exact hi), List.getElem?_eq_getElem _⟩
  obtain ⟨y0, e0⟩ := get 0 (by decide)
  obtain ⟨y1, e1⟩ := get 1 (by decide)
  obtain ⟨y2, e2⟩ := get 2 (by decide)
  obtain ⟨y3, e3⟩ := get 3 (by decide)
  obtain ⟨y4, e4⟩ := get 4 (by decide)
  obtain ⟨y5, e5⟩ := get 5 (by decide)
  obtain ⟨y6, e6⟩ := get 6 (by decide)
  obtain ⟨y7, e7⟩ := get 7 (by decide)
  have t0 : DataW.trod enc Try.prog W base (fun _ => true) held n 3 [c0] = some y0 := by rw [← e0]; simpa [k3] using hg 0 _ rfl
  have t1 : DataW.trod enc Try.prog W base (fun _ => true) held n 3 [c1] = some y1 := by rw [← e1]; simpa [k3] using hg 1 _ rfl
  have t2 : DataW.trod enc Try.prog W base (fun _ => true) held n 3 [c2] = some y2 := by rw [← e2]; simpa [k3] using hg 2 _ rfl
  have t3 : DataW.trod enc Try.prog W base (fun _ => true) held n 9 [c3] = some y3 := by rw [← e3]; simpa [k9] using hg 3 _ rfl
  have t4 : DataW.trod enc Try.prog W base (fun _ => true) held n 3 [c4] = some y4 := by rw [← e4]; simpa [k3] using hg 4 _ rfl
  have t5 : DataW.trod enc Try.prog W base (fun _ => true) held n 3 [c5] = some y5 := by rw [← e5]; simpa [k3] using hg 5 _ rfl
  have t6 : DataW.trod enc Try.prog W base (fun _ => true) held n 3 [c6] = some y6 := by rw [← e6]; simpa [k3] using hg 6 _ rfl
  have t7 : DataW.trod enc Try.prog W base (fun _ => true) held n 3 [c7] = some y7 := by rw [← e7]; simpa [k3] using hg 7 _ rfl
  obtain ⟨a0, f0, _, w0⟩ := DataW.trod_int Try.underlying3 t0
  obtain ⟨a1, f1, _, w1⟩ := DataW.trod_int Try.underlying3 t1
  obtain ⟨a2, f2, _, w2⟩ := DataW.trod_int Try.underlying3 t2
  obtain ⟨s, f3, _, w3⟩ := DataW.trod_string Try.underlying9 t3
  obtain ⟨a4, f4, _, w4⟩ := DataW.trod_int Try.underlying3 t4
  obtain ⟨a5, f5, _, w5⟩ := DataW.trod_int Try.underlying3 t5
  obtain ⟨a6, f6, _, w6⟩ := DataW.trod_int Try.underlying3 t6
  obtain ⟨a7, f7, _, w7⟩ := DataW.trod_int Try.underlying3 t7
  simp only [List.cons.injEq, and_true] at f0 f1 f2 f3 f4 f5 f6 f7
  subst f0 f1 f2 f3 f4 f5 f6 f7
  refine ⟨⟨a0, a1, a2, s.data.toList, a4, a5, a6, a7⟩, ?_, ⟨i64_of_wf w0, i64_of_wf w1, i64_of_wf w2, i64_of_wf w4, i64_of_wf w5, i64_of_wf w6, i64_of_wf w7⟩, ?_⟩
  · show _ = [Value.int .i64 a0, .int .i64 a1, .int .i64 a2, .string ⟨s.data.toList.toArray⟩, .int .i64 a4, .int .i64 a5, .int .i64 a6, .int .i64 a7]
    rw [show (⟨s.data.toList.toArray⟩ : ByteArray) = s from str_list s]
  · show s.data.toList.length ≤ maxLen
    rw [Array.length_toList]
    exact w3
instance : Inhabited Rc := ⟨⟨0, 0, 0, [], 0, 0, 0, 0⟩⟩
/-- a list of records that came in -/
theorem inR_of {H : Type} {enc : TypeId × Value → H} {W : World} {base : Nat} {held : Bool} {fuel : Nat} {a : Option Addr} {len cap : Nat} {x : DataW H × List MemPlace}
    (h : DataW.trod enc Try.prog W base (fun _ => true) held fuel 22 [.slice a len cap] = some x) : ∃ rs : List Rc, len = rs.length ∧ InR W a cap rs ∧ (∀ r ∈ rs, r.ok) ∧ ∀ r ∈ rs, r.payer.length ≤ maxLen := by
  have k38 : Try.prog.cellsOf 38 = 8 := by kernel_rfl
  rcases DataW.trod_slice Try.underlying22 h with ⟨hcs, _⟩ | ⟨ad, len', cap', elems, rest, n, _, hcs, _, _, hl, hm, hel, heach, _, _⟩
  · simp at hcs
    obtain ⟨rfl, rfl, rfl⟩ := hcs
    exact ⟨[], rfl, ⟨.inl rfl, fun _ => rfl, Nat.le_refl _, Nat.zero_le _⟩, (fun r hr => by cases hr), fun r hr => by cases hr⟩
  · simp at hcs
    obtain ⟨rfl, rfl, rfl⟩ := hcs
    have each : ∀ i, i < len → ∃ r : Rc, (∀ j v, (rcCells r).toList[j]? = some v → W.cell? (ad.add (i * 8 + j)) = some v) ∧ r.ok ∧ r.payer.length ≤ maxLen := fun i hi => by
      have h1 := heach i hi
      rw [k38, List.getElem?_eq_getElem (by omega)] at h1
      obtain ⟨cs, hc1, hc2⟩ := Option.bind_eq_some_iff.1 h1
      obtain ⟨r, rfl, hr1, hr2⟩ := rec_of_trod hc2
      refine ⟨r, fun j v hv => ?_, hr1, hr2⟩
      obtain ⟨_, hlen, hcell⟩ := World.cells?_some hc1
      have hj : j < 8 := (List.getElem?_eq_some_iff.1 hv).1
      have := hcell j hj
      rw [hv] at this
      rw [← Addr.add_add]
      exact this
    obtain ⟨g, hg⟩ := Go.Deep.choose_lt each
    refine ⟨(List.range len).map g, by simp, ⟨?_, (fun e => by cases e), by simpa using hl, hm⟩, fun r hr => ?_, fun r hr => ?_⟩
    · refine RdC.of_cells fun j u hu => ?_
      have hj : j < (flatR ((List.range len).map g)).length := (List.getElem?_eq_some_iff.1 hu).1
      rw [flatR_len] at hj
      simp only [List.length_map, List.length_range] at hj
      have h8 := flatR_get ((List.range len).map g) (j / 8) (by simp; omega) (j % 8) (by omega)
      rw [show 8 * (j / 8) + j % 8 = j by omega, hu] at h8
      have h9 := (hg (j / 8) (by omega)).1 (j % 8) u (by simpa using h8.symm)
      rwa [show j / 8 * 8 + j % 8 = j by omega] at h9
    · simp only [List.mem_map, List.mem_range] at hr
      obtain ⟨k, hk, rfl⟩ := hr
      exact (hg k hk).2.1
    · simp only [List.mem_map, List.mem_range] at hr
      obtain ⟨k, hk, rfl⟩ := hr
      exact (hg k hk).2.2
end Go.Proofs.Ytaoiklfkkipcaaa
