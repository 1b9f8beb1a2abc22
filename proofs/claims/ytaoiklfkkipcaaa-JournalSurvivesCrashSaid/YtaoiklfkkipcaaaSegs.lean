import Derived.Test.YtaoiklfkkipcaaaHdlcLaws2
namespace Hd

theorem idxFlag_none {l : List UInt8} (h : idxFlag l = none) : (0x7e : UInt8) ∉ l := by
  unfold idxFlag at h
  rw [List.findIdx?_eq_none_iff] at h
  intro hm
  have := h _ hm
  simp at this
theorem idxFlag_cut {l : List UInt8} {n : Nat} (h : idxFlag l = some n) : (0x7e : UInt8) ∉ l.take n ∧ l = l.take n ++ 0x7e :: l.drop (n + 1) ∧ n < l.length := by
  have hlt := idxFlag_some h
  unfold idxFlag at h
  rw [List.findIdx?_eq_some_iff_getElem] at h
  obtain ⟨_, h1, h2⟩ := h
  refine ⟨?_, ?_, hlt⟩
  · intro hm
    obtain ⟨j, hj, e⟩ := List.getElem_of_mem hm
    simp only [List.length_take] at hj
    have := h2 j (by omega)
    rw [List.getElem_take] at e
    simp [e] at this
  · have e : l[n] = 0x7e := by simpa using h1
    conv => lhs; rw [← List.take_append_drop n l, List.drop_eq_getElem_cons hlt, e]
structure Seg (l : List UInt8) where
  k : Nat
  n : Nat
  hk : k < l.length
  hn : idxFlag (l.drop (k + 1)) = some n
theorem Seg.lt {l : List UInt8} (s : Seg l) : s.k + 1 + s.n < l.length := by
  have := (idxFlag_cut s.hn).2.2
  simp at this
  omega
def segs (l : List UInt8) (k : Nat) : List (Seg l) :=
  if hk : k < l.length then
    match hn : idxFlag (l.drop (k + 1)) with
    | none => []
    | some n => ⟨k, n, hk, hn⟩ :: segs l (k + 1 + n)
  else []
termination_by l.length - k
def Seg.c {l : List UInt8} (s : Seg l) : List UInt8 := (l.drop (s.k + 1)).take s.n
def Seg.out {l : List UInt8} (s : Seg l) : List (List UInt8) := outs s.c
def segOuts {l : List UInt8} (xs : List (Seg l)) : List (List UInt8) := xs.flatMap Seg.out
def segEnd {l : List UInt8} (f : Nat) (xs : List (Seg l)) : Nat := match xs.getLast? with | none => f | some s => s.k + 1 + s.n
theorem segs_none {l : List UInt8} {k : Nat} (h : idxFlag (l.drop (k + 1)) = none) : segs l k = [] := by
  unfold segs
  split
  · split
    · rfl
    · rename_i e; rw [h] at e; cases e
  · rfl
theorem segs_some {l : List UInt8} {k n : Nat} (hk : k < l.length) (h : idxFlag (l.drop (k + 1)) = some n) : segs l k = ⟨k, n, hk, h⟩ :: segs l (k + 1 + n) := by
  rw [segs]
  rw [dif_pos hk]
  split
  · rename_i e; rw [h] at e; cases e
  · rename_i m e
    have : m = n := by rw [h] at e; exact (Option.some.inj e).symm
    subst this
    rfl
theorem segOuts_snoc {l : List UInt8} (xs : List (Seg l)) (s : Seg l) : segOuts (xs ++ [s]) = segOuts xs ++ s.out := by simp [segOuts]
theorem segEnd_snoc {l : List UInt8} (f : Nat) (xs : List (Seg l)) (s : Seg l) : segEnd f (xs ++ [s]) = s.k + 1 + s.n := by simp [segEnd]
theorem scanGo_segs (l : List UInt8) : ∀ (d k : Nat), l.length - k = d → k < l.length →
    ∃ u, scanGo (some ([], k)) (k + 1) (l.drop (k + 1)) = (segOuts (segs l k), u) ∧ u = segEnd k (segs l k) := by
  intro d
  induction d using Nat.strongRecOn with
  | _ d ih =>
    intro k hd hk
    cases hx : idxFlag (l.drop (k + 1)) with
    | none =>
      rw [segs_none hx, (scanGo_noflag _ (idxFlag_none hx) _ _).1]
      exact ⟨_, rfl, rfl⟩
    | some n =>
      rw [segs_some hk hx]
      obtain ⟨h1, h2, h3⟩ := idxFlag_cut hx
      have hlen : (l.drop (k + 1)).length = l.length - (k + 1) := by simp
      rw [hlen] at h3
      obtain ⟨u, hu, hu2⟩ := ih (l.length - (k + 1 + n)) (by omega) (k + 1 + n) rfl (by omega)
      have e : ∀ st, scanGo st (k + 1) (l.drop (k + 1)) = scanGo st (k + 1) ((l.drop (k + 1)).take n ++ 0x7e :: (l.drop (k + 1)).drop (n + 1)) := fun st => by rw [← h2]
      have hl : ((l.drop (k + 1)).take n).length = n := by simp; omega
      rw [e, scanGo_content _ h1, hl]
      have hd2 : (l.drop (k + 1)).drop (n + 1) = l.drop (k + 1 + n + 1) := by rw [List.drop_drop]; congr 1
      rw [hd2, hu]
      refine ⟨u, ?_, ?_⟩
      · simp [segOuts, Seg.out, Seg.c]
      · rw [hu2]
        unfold segEnd
        rw [List.getLast?_cons]
        cases hq : (segs l (k + 1 + n)).getLast? <;> simp
theorem scan_none {l : List UInt8} (h : idxFlag l = none) : scan l = ([], l.length) := by
  unfold scan
  rw [(scanGo_noflag _ (idxFlag_none h) _ _).1]
  simp
theorem scan_some {l : List UInt8} {f : Nat} (h : idxFlag l = some f) : scan l = (segOuts (segs l f), segEnd f (segs l f)) := by
  obtain ⟨h1, h2, h3⟩ := idxFlag_cut h
  obtain ⟨u, hu, hu2⟩ := scanGo_segs l (l.length - f) f rfl h3
  have hl : (l.take f).length = f := by simp; omega
  have : scan l = scanGo none 0 (l.take f ++ 0x7e :: l.drop (f + 1)) := by unfold scan; rw [← h2]
  rw [this, scanGo_append, (scanGo_noflag _ h1 _ _).1, (scanGo_noflag _ h1 _ _).2, hl]
  simp only [Option.map_none, Nat.zero_add, scanGo_cons_flag_none, List.nil_append, hu, hu2]
theorem segs_len (l : List UInt8) : ∀ (d k : Nat), l.length - k = d → (segs l k).length ≤ l.length - k := by
  intro d
  induction d using Nat.strongRecOn with
  | _ d ih =>
    intro k hd
    by_cases hk : k < l.length
    · cases hx : idxFlag (l.drop (k + 1)) with
      | none => rw [segs_none hx]; simp
      | some n =>
        rw [segs_some hk hx]
        have := ih (l.length - (k + 1 + n)) (by omega) (k + 1 + n) rfl
        simp only [List.length_cons]
        have h3 := (idxFlag_cut hx).2.2
        simp at h3
        omega
    · have : segs l k = [] := by unfold segs; rw [dif_neg hk]
      rw [this]; simp
end Hd
