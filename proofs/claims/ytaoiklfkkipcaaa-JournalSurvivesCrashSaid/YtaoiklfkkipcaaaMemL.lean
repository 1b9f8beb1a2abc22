import Derived.Test.YtaoiklfkkipcaaaWArg
import Derived.Deep.Matrix
namespace Go.Proofs.Ytaoiklfkkipcaaa
open Go Go.RowKit Hd Go.Mem

/-- a list of byte strings that can be read -/
def RdL (w : World) (A : Option Addr) (ps : List (List UInt8)) : Prop := ∃ vs, RdC w A vs ∧ Els (fun _ => True) w vs ps
theorem RdL.below {w w' : World} {A : Option Addr} {ps : List (List UInt8)} (h : RdL w A ps) (hb : Below w.heap.size w w') : RdL w' A ps := by
  obtain ⟨vs, h1, h2⟩ := h
  exact ⟨vs, h1.below hb, h2.move (fun b _ hl => hb.block b hl) (fun _ h _ => h)⟩
theorem RdL.at {w : World} {A : Option Addr} {ps : List (List UInt8)} (h : RdL w A ps) (i : Nat) (hi : i < ps.length) :
    ∃ b off A' c', A = some ⟨b, off, none⟩ ∧ w.cell? ⟨b, off + i, none⟩ = some (.slice A' ps[i].length c') ∧ ps[i].length ≤ c' ∧ c' ≤ maxLen ∧ (A' = none → c' = 0) ∧ Rd w A' ps[i] := by
  obtain ⟨vs, h1, h2⟩ := h
  have hl := h2.length
  obtain ⟨v, hv, A', c', rfl, k1, k2, k3, k4⟩ := h2.at i hi
  obtain ⟨b, off, e, hc⟩ := h1.at i (by omega)
  refine ⟨b, off, A', c', e, ?_, k1, k2, k3, k4.c⟩
  rw [hc]
  have := List.getElem?_eq_some_iff.1 hv
  obtain ⟨_, h⟩ := this
  rw [h]
theorem RowB.form {w : World} {base : Nat} {e : TypeId} {v : Value} {ps : List (List UInt8)} (h : RowB w base e v ps) : ∃ A c, v = .slice A ps.length c ∧ (A = none → c = 0) ∧ ps.length ≤ c ∧ c ≤ maxLen ∧ RdL w A ps := by
  obtain ⟨vs, h1, h2⟩ := h
  obtain ⟨A, c, k1, k2, k3, k4, k5⟩ := own_form h1
  exact ⟨A, c, k1, k2, k3, k4, vs, k5, h2.move (fun _ _ _ => rfl) (fun _ _ _ => trivial)⟩
/-- a list of byte strings that came in -/
structure InL (w : World) (A : Option Addr) (c : Nat) (ps : List (List UInt8)) : Prop where
  rd : RdL w A ps
  nil : A = none → c = 0
  le : ps.length ≤ c
  cap : c ≤ maxLen
theorem InL.below {w w' : World} {A : Option Addr} {c : Nat} {ps : List (List UInt8)} (h : InL w A c ps) (hb : Below w.heap.size w w') : InL w' A c ps := ⟨h.rd.below hb, h.nil, h.le, h.cap⟩
theorem inB_of {H : Type} {enc : TypeId × Value → H} {P : Program} {w : World} {base : Nat} {held : Bool} {t e : TypeId} {fuel : Nat} {a : Option Addr} {len cap : Nat} {x : DataW H × List MemPlace}
    (ht : P.underlying t = some (.slice e)) (he : P.underlying e = some (.int .u8)) (ce : P.cellsOf e = 1)
    (h : DataW.trod enc P w base (fun _ => true) held fuel t [.slice a len cap] = some x) : ∃ l : List UInt8, len = l.length ∧ InB w a cap l := by
  rcases Go.ChangeShapes.open_ints ht he ce h with ⟨hcs, _⟩ | ⟨y, l, c, zs, hcs, _, hl, hm, hz, _, hcell, hwz⟩
  · simp at hcs
    obtain ⟨rfl, rfl, rfl⟩ := hcs
    exact IsRow.inB (zs := []) (.inl ⟨rfl, rfl, rfl, rfl⟩)
  · simp at hcs
    obtain ⟨rfl, rfl, rfl⟩ := hcs
    exact IsRow.inB (zs := zs) (.inr ⟨_, rfl, hl, hm, by simpa using hz, hcell, hwz⟩)
theorem els_map {ok : Nat → Prop} {w : World} (f : Nat → Value) (g : Nat → List UInt8) : ∀ (xs : List Nat), (∀ r ∈ xs, El ok w (f r) (g r)) → Els ok w (xs.map f) (xs.map g)
  | [], _ => trivial
  | r :: xs, h => ⟨h r (by simp), els_map f g xs fun r hr => h r (by simp [hr])⟩
theorem inL_of {H : Type} {enc : TypeId × Value → H} {P : Program} {w : World} {base : Nat} {held : Bool} {t e q : TypeId} {fuel : Nat} {a : Option Addr} {len cap : Nat} {x : DataW H × List MemPlace}
    (ht : P.underlying t = some (.slice e)) (he : P.underlying e = some (.slice q)) (hq : P.underlying q = some (.int .u8)) (ce : P.cellsOf e = 1) (cq : P.cellsOf q = 1)
    (h : DataW.trod enc P w base (fun _ => true) held fuel t [.slice a len cap] = some x) : ∃ ps : List (List UInt8), len = ps.length ∧ InL w a cap ps := by
  rcases Go.Deep.open_int_rows ht he hq ce cq h with ⟨hcs, _⟩ | ⟨a', len', cap', A, L, C, Z, hcs, _, hl, hm, _, hrows⟩
  · simp at hcs
    obtain ⟨rfl, rfl, rfl⟩ := hcs
    exact ⟨[], rfl, ⟨[], .inl rfl, trivial⟩, fun _ => rfl, Nat.le_refl _, Nat.zero_le _⟩
  · simp at hcs
    obtain ⟨rfl, rfl, rfl⟩ := hcs
    have each : ∀ r, r < len → ∃ l : List UInt8, L r = l.length ∧ InB w (A r) (C r) l := fun r hr => by
      obtain ⟨h1, h2, h3, h4, h5, h6, h7⟩ := hrows r (by omega)
      cases hA : A r with
      | none =>
        have hc := h6 hA
        refine ⟨[], by simp; omega, Rd.nil _ _, fun _ => hc, by simp, h3⟩
      | some x =>
        have hi : IsRow .u8 w (some x) (L r) (C r) (Z r) := .inr ⟨x, rfl, h2, h3, h4, fun i hi => (h7 x hA).2 i (by omega), h5⟩
        exact hi.inB
    obtain ⟨g, hg⟩ := Go.Deep.choose_lt each
    refine ⟨(List.range len).map g, by simp, ⟨(List.range len).map fun r => .slice (A r) (L r) (C r), ?_, els_map _ _ _ fun r hr => ?_⟩, (fun e => by cases e), by simpa using hl, hm⟩
    · refine RdC.of_cells fun j u hu => ?_
      simp only [List.getElem?_map, Option.map_eq_some_iff] at hu
      obtain ⟨r, hr, rfl⟩ := hu
      obtain ⟨hj, rfl⟩ := List.getElem?_eq_some_iff.1 hr
      simp at hj ⊢
      exact (hrows j (by omega)).1
    · have hr' : r < len := by simpa using hr
      obtain ⟨h1, h2⟩ := hg r hr'
      exact ⟨A r, C r, by rw [h1], h2.le, h2.cap, h2.nil, h2.rd.p.imp fun _ _ _ => trivial⟩
end Go.Proofs.Ytaoiklfkkipcaaa
