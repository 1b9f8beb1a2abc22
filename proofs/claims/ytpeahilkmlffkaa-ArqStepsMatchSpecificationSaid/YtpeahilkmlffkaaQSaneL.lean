import Derived.Test.YtpeahilkmlffkaaQPoll
import Derived.Laws.IdiomStrings
import Derived.Lib.SlBytesConst
set_option linter.unusedSimpArgs false
set_option linter.unusedVariables false
namespace Go.Mem
open Go Go.RowKit
section
variable {P : Program}
/-- a variable that has just been made is given its first value: the world behind it is a letter -/
theorem wpList_store_new {ops : Array Oper} {rest : List Oper} {o : Oper} {a : Act} {W : World} {Q : Exit → Act → World → Prop} (hgd : o.guard = none) (ty : TypeId) (x y : Operand) (ho : o.op = .store ty x y)
    (cells : Array Value) (hx : a.eval x = .pointer (some ⟨W.heap.size, 0, none⟩)) (hy : a.eval y = .agg cells) (t : TypeId) (old : Array Value) (hi : (P.info? ty).map (·.size) = some cells.size)
    (hold : old.size = cells.size) (h1 : cells.all (·.oneCell') = true)
    (h : ∀ W', Below W.heap.size W W' → W'.heap[W.heap.size]? = some (.cells cells t (0, 0)) → wpList P ops Q rest (a.put o.dst undef) W') : wpList P ops Q (o :: rest) a (W.alloc (.cells old t)) :=
  wpList_store_row hgd ty x y ho W.heap.size cells hx hy t old (heap_alloc_new _ _) hi hold h1 (h _ (below_setRow (fw_new _ _) (Nat.le_refl _) _) (setRow_heap _ _ _ _ _ _ (heap_alloc_new _ _)))
theorem wp_store_new {o : Oper} {a : Act} {W : World} {K : Act → World → Prop} {Q : Exit → Act → World → Prop} (ty : TypeId) (x y : Operand) (ho : o.op = .store ty x y)
    (cells : Array Value) (hx : a.eval x = .pointer (some ⟨W.heap.size, 0, none⟩)) (hy : a.eval y = .agg cells) (t : TypeId) (old : Array Value) (hi : (P.info? ty).map (·.size) = some cells.size)
    (hold : old.size = cells.size) (h1 : cells.all (·.oneCell') = true)
    (h : ∀ W', Below W.heap.size W W' → W'.heap[W.heap.size]? = some (.cells cells t (0, 0)) → K (a.put o.dst undef) W') : o.wp P a (W.alloc (.cells old t)) K Q :=
  wp_store_row ty x y ho W.heap.size cells hx hy t old (heap_alloc_new _ _) hi hold h1 (h _ (below_setRow (fw_new _ _) (Nat.le_refl _) _) (setRow_heap _ _ _ _ _ _ (heap_alloc_new _ _)))
end
end Go.Mem
namespace Go.Mem
open Go Go.RowKit
theorem upd_row' (W : World) (g : Nat) (cs : Array Value) : Upd g W (W.setRow g cs) := ⟨rfl, rfl, rfl, by simp, fun k hk => setRow_other _ _ _ _ hk⟩
/-- behind a region the walk goes on once, whatever order was drawn -/
def CutPost (H : Nat → Option Addr → Nat → Option Addr → Nat → World → Prop) (f : Nat → Option Addr → Nat → Option Addr → Nat → Act) (e : Exit) (a : Act) (w : World) : Prop :=
  e = .normal ∧ ∃ g A c A2 c2, H g A c A2 c2 w ∧ a = f g A c A2 c2
theorem region_cut {P : Program} {c : Code} {Q : Exit → Act → World → Prop} {a : Act} {w : World} (H : Nat → Option Addr → Nat → Option Addr → Nat → World → Prop) (f : Nat → Option Addr → Nat → Option Addr → Nat → Act)
    (h1 : c.wp P (CutPost H f) a w) (h2 : ∀ g A c A2 c2 W', H g A c A2 c2 W' → Q .normal (f g A c A2 c2) W') : c.wp P Q a w :=
  Code.wp_mono (fun e a w h => by
    obtain ⟨rfl, g, A, c, A2, c2, hh, rfl⟩ := h
    exact h2 g A c A2 c2 w hh) h1
theorem wpList_store_upd {P : Program} {ops : Array Oper} {rest : List Oper} {o : Oper} {a : Act} {w : World} {Q : Exit → Act → World → Prop} (hgd : o.guard = none) (ty : TypeId) (x y : Operand) (ho : o.op = .store ty x y)
    (g : Nat) (cells : Array Value) (hx : a.eval x = .pointer (some ⟨g, 0, none⟩)) (hy : a.eval y = .agg cells) (t : TypeId) (old : Array Value) (hg : w.heap[g]? = some (.cells old t (0, 0))) (hi : (P.info? ty).map (·.size) = some cells.size)
    (hold : old.size = cells.size) (h1 : cells.all (·.oneCell') = true)
    (h : ∀ W', W'.heap[g]? = some (.cells cells t (0, 0)) → Upd g w W' → wpList P ops Q rest (a.put o.dst undef) W') : wpList P ops Q (o :: rest) a w :=
  wpList_store_row hgd ty x y ho g cells hx hy t old hg hi hold h1 (h _ (setRow_heap _ _ _ _ _ _ hg) (upd_row' w g cells))
end Go.Mem
namespace Go.Proofs.Ytpeahilkmlffkaa
open Go Go.RowKit Hd Go.Mem
/-- the four cells of the frame number i -/
theorem InF.at {w : World} {A : Option Addr} {c : Nat} {fs : List Fr} (h : InF w A c fs) (i : Nat) (hi : i < fs.length) :
    ∃ b off A' c', A = some ⟨b, off, none⟩ ∧ w.rangeAt b (off + 4 * i) [.bool fs[i].d, .int .i64 fs[i].s, .int .i64 fs[i].a, .slice A' fs[i].p.length c'] ∧ (A' = none → c' = 0) ∧ fs[i].p.length ≤ c' ∧ c' ≤ maxLen ∧ Rd w A' fs[i].p := by
  obtain ⟨xs, rfl, h2, h3⟩ := h.rd
  have hx : i < xs.length := by simpa using hi
  have hf := h3 xs[i] (List.getElem_mem hx)
  have key : ∀ (ys : List FrE) (k : Nat) (hk : k < ys.length) (j : Nat), j < 4 → (flatF ys)[4 * k + j]? = ys[k].cells.toList[j]? := by
    intro ys
    induction ys with
    | nil => intro k hk; simp at hk
    | cons y r ih =>
      intro k hk j hj
      have e : flatF (y :: r) = y.cells.toList ++ flatF r := by simp [flatF]
      have el : y.cells.toList.length = 4 := rfl
      rw [e]
      cases k with
      | zero => rw [List.getElem?_append_left (by omega)]; simp
      | succ k =>
        rw [List.getElem?_append_right (by omega), el, show 4 * (k + 1) + j - 4 = 4 * k + j from by omega]
        exact ih k (by simpa using hk) j hj
  have hlen : (flatF xs).length = 4 * xs.length := by
    clear key hf hx hi h3 h2 h
    induction xs with
    | nil => rfl
    | cons y r ih =>
      have e : flatF (y :: r) = y.cells.toList ++ flatF r := by simp [flatF]
      rw [e, List.length_append, ih]
      show 4 + _ = _
      simp
      omega
  rcases h2 with h2 | ⟨b, off, rfl, hc⟩
  · rw [h2] at hlen
    simp at hlen
    omega
  · refine ⟨b, off, xs[i].A, xs[i].c, rfl, fun j v hv => ?_, hf.nil, ?_, hf.cap, ?_⟩
    · have hj : j < 4 := by have := (List.getElem?_eq_some_iff.1 hv).1; simpa using this
      have h4 := key xs i hx j hj
      have hlt : 4 * i + j < (flatF xs).length := by omega
      rw [show off + 4 * i + j = off + (4 * i + j) from by omega, hc _ hlt, ← List.getElem?_eq_getElem hlt, h4, ← hv]
      simp [FrE.cells, frCells]
    · simpa using hf.le
    · have := hf.rd.c
      unfold Rd
      simpa using this
/-- a store to a block that holds no bytes and no such row -/
theorem InL.other {W W' : World} {g : Nat} {cs : Array Value} {t : Nat} {A : Option Addr} {c : Nat} {ps : List (List UInt8)} (h : InL W A c ps) (hg : W.heap[g]? = some (.cells cs t (0, 0))) (u : Upd g W W') (hu : ∀ (i : Nat) (x : Int), cs[i]? ≠ some (.int .u8 x))
    (hs : ps ≠ [] → ∀ i : Nat, ¬ ∀ k (_ : k < ps.length), ∃ A' c', cs[i + k]? = some (.slice A' ps[k].length c')) : InL W' A c ps := by
  have hcell : ∀ i v, W.cell? ⟨g, i, none⟩ = some v → cs[i]? = some v := fun i v hv => by rw [cell_of_row _ _ _ _ _ _ hg] at hv; exact hv
  obtain ⟨vs, h1, h2⟩ := h.rd
  have hE : Els (fun b => b ≠ g) W vs ps := by
    clear hs h1 h
    induction vs generalizing ps with
    | nil => cases ps with
      | nil => trivial
      | cons p r => exact h2.elim
    | cons v r ih => cases ps with
      | nil => exact h2.elim
      | cons p q =>
        refine ⟨?_, ih h2.2⟩
        obtain ⟨A', c', k1, k2, k3, k4, k5⟩ := h2.1
        refine ⟨A', c', k1, k2, k3, k4, ?_⟩
        by_cases hp : p = []
        · subst hp; exact .inl rfl
        · rcases k5 with k5 | ⟨b, off, e, _, hc⟩
          · exact .inl k5
          · refine .inr ⟨b, off, e, fun eb => ?_, hc⟩
            subst eb
            have h0 := hc 0 (by simpa using List.length_pos_iff.2 hp)
            rw [List.getElem_map] at h0
            exact hu _ _ (hcell _ _ h0)
  refine ⟨⟨vs, ?_, hE.move (fun b hb _ => u.other b hb) (fun _ _ _ => trivial)⟩, h.nil, h.le, h.cap⟩
  by_cases hps : ps = []
  · subst hps
    exact .inl (List.eq_nil_of_length_eq_zero (by have := h2.length; simpa using this))
  · rcases h1 with h1 | ⟨b, off, e, hc⟩
    · exact .inl h1
    · refine .inr ⟨b, off, e, fun i hi => ?_⟩
      have hne : b ≠ g := fun eb => by
        subst eb
        refine hs hps off fun k hk => ?_
        have hl := h2.length
        obtain ⟨v, hv, A', c', rfl, _⟩ := h2.at k hk
        have hk2 : k < vs.length := by omega
        have h3 := hc k hk2
        obtain ⟨_, hv2⟩ := List.getElem?_eq_some_iff.1 hv
        rw [hv2] at h3
        exact ⟨A', c', hcell _ _ h3⟩
      rw [World.cell?_of_block (a := ⟨b, off + i, none⟩) (u.other b hne)]
      exact hc i hi
theorem send_as {l l' : LE} {p : List UInt8} {k : Nat} (h : sendE l p = (l', k)) (A A' : Option Addr) (c c' : Nat) (w : World) (hq : l.q.length ≤ 140737488351232) (hp : p.length ≤ 140737488351232) (hr : RdL w A l.q) (hr' : Rd w A' p) (hA' : A' = none → c' = 0) :
    Calls Try.prog 17 #[.agg (leCells A c l), .slice A' p.length c'] w fun e w' => ∃ A'' c'', e = .returned (.tuple #[.agg (leCells A'' c'' l'), .int .i64 (k : Int)]) ∧ InL w' A'' c'' l'.q ∧ Below w.heap.size w w' := by
  refine (send_any A A' c c' l p w hq hp hr hr' hA').mono ?_
  intro e w' hh
  unfold SendPost at hh
  rw [h] at hh
  exact hh
theorem poll_as {l l' : LE} {now : Int} {fs : List Fr} {k : Nat} (h : pollE l now = (l', fs, k)) (A : Option Addr) (c : Nat) (w : World) (hq : l.q.length ≤ 140737488351232) (hr : RdL w A l.q) :
    Calls Try.prog 19 #[.agg (leCells A c l), .int .i64 now] w fun e w' => ∃ A1 c1 A2 c2, e = .returned (.tuple #[.agg (leCells A1 c1 l'), .slice A2 fs.length c2, .int .i64 (k : Int)]) ∧ InL w' A1 c1 l'.q ∧ InF w' A2 c2 fs ∧ Below w.heap.size w w' := by
  refine (poll_any A c l now w hq hr).mono ?_
  intro e w' hh
  unfold PollPost at hh
  rw [h] at hh
  exact hh
theorem recv_as {l l' : LE} {f : Fr} {now : Int} {ps : List (List UInt8)} {k : Nat} (h : recvE l f now = (l', ps, k)) (A A' : Option Addr) (c c' : Nat) (w : World) (hq : l.q.length ≤ 140737488351232) (hp : f.p.length ≤ 140737488351232) (hr : RdL w A l.q) (hc : l.q.length ≤ c) (hr' : Rd w A' f.p) (hA' : A' = none → c' = 0) :
    Calls Try.prog 21 #[.agg (leCells A c l), .agg (frCells A' c' f), .int .i64 now] w fun e w' => ∃ A1 c1 A2 c2, e = .returned (.tuple #[.agg (leCells A1 c1 l'), .slice A2 ps.length c2, .int .i64 (k : Int)]) ∧ InL w' A1 c1 l'.q ∧ InL w' A2 c2 ps ∧ Below w.heap.size w w' := by
  refine (recv_any A A' c c' l f now w hq hp hr hc hr' hA').mono ?_
  intro e w' hh
  unfold RecvPost at hh
  rw [h] at hh
  exact hh
def sL1 : LE := { newE with q := [[97]] }
def sL2 : LE := { newE with q := [[97], [98]] }
def sX : LE := { newE with q := [[97], [98]], s := 2, d := 13 }
def sW : LE := { newE with q := [[97], [98]], s := 2, d := 16 }
def sP : LE := { newE with o := true, x := 1 }
def sP2 : LE := { newE with x := 1 }
def sZ : LE := ⟨[[98]], 1, 1, 0, false, 15⟩
def sF : List Fr := [⟨true, 0, 0, [97]⟩, ⟨true, 1, 0, [98]⟩]
def sA : List Fr := [⟨false, 0, 1, []⟩]
theorem s_e1 : sendE newE [97] = (sL1, 0) := by kernel_rfl
theorem s_e2 : sendE sL1 [98] = (sL2, 0) := by kernel_rfl
theorem s_e3 : pollE sL2 10 = (sX, sF, 0) := by kernel_rfl
theorem s_e4 : pollE sX 12 = (sX, [], 0) := by kernel_rfl
theorem s_e5 : pollE sX 13 = (sW, sF, 0) := by kernel_rfl
theorem s_e6 : recvE newE ⟨true, 0, 0, [97]⟩ 11 = (sP, [[97]], 0) := by kernel_rfl
theorem s_e7 : pollE sP 11 = (sP2, sA, 0) := by kernel_rfl
theorem s_e8 : recvE sX ⟨false, 0, 1, []⟩ 12 = (sZ, [], 0) := by kernel_rfl
theorem s_e9 : recvE sX ⟨false, 0, 3, []⟩ 12 = (leZ, [], 120) := by kernel_rfl
theorem s_e10 : chk sZ = 0 := by kernel_rfl
end Go.Proofs.Ytpeahilkmlffkaa
