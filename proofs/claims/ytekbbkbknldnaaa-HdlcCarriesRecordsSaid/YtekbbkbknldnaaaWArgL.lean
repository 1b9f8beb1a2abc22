import Derived.Test.YtekbbkbknldnaaaWPieces
import Derived.Deep.Matrix
namespace Go.Proofs.Ytekbbkbknldnaaa
open Go Go.RowKit Hd Go.Mem

/-- a list of byte strings that came in -/
structure InL (w : World) (A : Option Addr) (c : Nat) (ps : List (List UInt8)) : Prop where
  rd : RdL w A ps
  nil : A = none → c = 0
  le : ps.length ≤ c
  cap : c ≤ maxLen
theorem InL.below {w w' : World} {A : Option Addr} {c : Nat} {ps : List (List UInt8)} (h : InL w A c ps) (hb : Below w.heap.size w w') : InL w' A c ps := ⟨h.rd.below hb, h.nil, h.le, h.cap⟩
theorem inB_of {H : Type} {enc : TypeId × Value → H} {P : Program} {w : World} {base : Nat} {held : Bool} {t e : TypeId} {fuel : Nat} {a : Option Addr} {len cap : Nat} {x : DataW H × List MemPlace}
    (ht : P.underlying t = some (.slice e)) (he : P.underlying e = some (.int .u8)) (ce : P.cellsOf e = 1)
    (h : DataW.trod enc P w base (fun _ => true) held fuel t [.slice a len cap] = some x) : ∃ l : List UInt8, len = l.length ∧ InB w a cap l := by
  rcases Go.ChangeShapes.open_ints ht he ce h with ⟨hcs, _⟩ | ⟨y, l, c, zs, hcs, _, hl, hm, hz, _, hcell, hwz⟩
  · simp at hcs
    obtain ⟨rfl, rfl, rfl⟩ := hcs
    exact IsRow.inB (zs := []) (.inl ⟨rfl, rfl, rfl, rfl⟩)
  · simp at hcs
    obtain ⟨rfl, rfl, rfl⟩ := hcs
    exact IsRow.inB (zs := zs) (.inr ⟨_, rfl, hl, hm, by simpa using hz, hcell, hwz⟩)
theorem els_map {ok : Nat → Prop} {w : World} (f : Nat → Value) (g : Nat → List UInt8) : ∀ (xs : List Nat), (∀ r ∈ xs, El ok w (f r) (g r)) → Els ok w (xs.map f) (xs.map g)
  | [], _ => trivial
  | r :: xs, h => ⟨h r (by simp), els_map f g xs fun r hr => h r (by simp [hr])⟩
theorem inL_of {H : Type} {enc : TypeId × Value → H} {P : Program} {w : World} {base : Nat} {held : Bool} {t e q : TypeId} {fuel : Nat} {a : Option Addr} {len cap : Nat} {x : DataW H × List MemPlace}
    (ht : P.underlying t = some (.slice e)) (he : P.underlying e = some (.slice q)) (hq : P.underlying q = some (.int .u8)) (ce : P.cellsOf e = 1) (cq : P.cellsOf q = 1)
    (h : DataW.trod enc P w base (fun _ => true) held fuel t [.slice a len cap] = some x) : ∃ ps : List (List UInt8), len = ps.length ∧ InL w a cap ps := by
  rcases Go.Deep.open_int_rows ht he hq ce cq h with ⟨hcs, _⟩ | ⟨a', len', cap', A, L, C, Z, hcs, _, hl, hm, _, hrows⟩
  · simp at hcs
    obtain ⟨rfl, rfl, rfl⟩ := hcs
    exact ⟨[], rfl, ⟨[], .inl rfl, trivial⟩, fun _ => rfl, Nat.le_refl _, Nat.zero_le _⟩
  · simp at hcs
    obtain ⟨rfl, rfl, rfl⟩ := hcs
    have each : ∀ r, r < len → ∃ l : List UInt8, L r = l.length ∧ InB w (A r) (C r) l := fun r hr => by
      obtain ⟨h1, h2, h3, h4, h5, h6, h7⟩ := hrows r (by omega)
      cases hA : A r with
      | none =>
        have hc := h6 hA
        refine ⟨[], by simp; omega, Rd.nil _ _, fun _ => hc, by simp, h3⟩
      | some x =>
        have hi : IsRow .u8 w (some x) (L r) (C r) (Z r) := .inr ⟨x, rfl, h2, h3, h4, fun i hi => (h7 x hA).2 i (by omega), h5⟩
        exact hi.inB
    obtain ⟨g, hg⟩ := Go.Deep.choose_lt each
    refine ⟨(List.range len).map g, by simp, ⟨(List.range len).map fun r => .slice (A r) (L r) (C r), ?_, els_map _ _ _ fun r hr => ?_⟩, (fun e => by cases e), by simpa using hl, hm⟩
    · refine RdC.of_cells fun j u hu => ?_
      simp only [List.getElem?_map, Option.map_eq_some_iff] at hu
      obtain ⟨r, hr, rfl⟩ := hu
      obtain ⟨hj, rfl⟩ := List.getElem?_eq_some_iff.1 hr
      simp at hj ⊢
      exact (hrows j (by omega)).1
    · have hr' : r < len := by simpa using hr
      obtain ⟨h1, h2⟩ := hg r hr'
      exact ⟨A r, C r, by rw [h1], h2.le, h2.cap, h2.nil, h2.rd.p.imp fun _ _ _ => trivial⟩
def FewPost (ps : List (List UInt8)) (k : Nat) (w : World) (e : Ending) (w' : World) : Prop := ∃ b, e = .returned (.bool b) ∧ (b = true → ps.length ≤ k ∧ ∀ i (h : i < ps.length), ps[i].length ≤ 300) ∧ Below w.heap.size w w'
set_option maxRecDepth 100000 in
set_option maxHeartbeats 400000 in
/-- Few: where it says yes, the list is short and so are its elements -/
theorem few_any (A : Option Addr) (c : Nat) (ps : List (List UInt8)) (k : Nat) (w : World) (hk : k ≤ 1000000) (hp : ps.length ≤ 9223372036854775807) (h1 : RdL w A ps) :
    Calls Try.prog 21 #[.slice A ps.length c, .int .i64 (k : Int)] w (FewPost ps k w) := by
  have H1 := Lib.hid h1
  clear h1
  go_enter Try.func21, Try.ntmps21
  go_wp2_with fail
  go_loop [5] (fun i => ∃ m : Nat, m ≤ ps.length ∧ m ≤ k + 1 ∧ i = .int .i64 m ∧ Hid (∀ i (h : i < ps.length), i < m → ps[i].length ≤ 300)) (fun i => ps.length - (intOf i).toNat)
  case atStart => exact ⟨0, by omega, by omega, rfl, Lib.hid fun i _ h => by omega⟩
  case round =>
    obtain ⟨m, hm, hmk, rfl, Hm⟩ := hrel
    by_cases hlt : m < ps.length
    · have hd1 : decide ((m : Int) < (ps.length : Int)) = true := by simp; omega
      by_cases hle : m ≤ k
      · have hd2 : decide ((m : Int) ≤ (k : Int)) = true := by simp; omega
        obtain ⟨b1, off1, A1, c1, rfl, hc1, hz1, hz2, _, hr1⟩ := H1.out.at m hlt
        have Hpl := Lib.hid (show ∀ i (h : i < ps.length), i < m + 1 → ps[m].length ≤ 300 → ps[i].length ≤ 300 from fun i h hi hp => by
          by_cases e : i = m
          · subst e; exact hp
          · exact Hm.out i h (by omega))
        generalize hpe : ps[m] = p at *
        clear hpe
        by_cases h300 : 300 < p.length
        · have hd3 : decide ((300 : Int) < (p.length : Int)) = true := by simp; omega
          clear Hpl Hm
          go_wp2_with fail
          go_ret
          exact ⟨_, rfl, fun e => by simp at e; try omega, Below.refl _ _⟩
        · have hd3 : decide ((300 : Int) < (p.length : Int)) = false := by simp; omega
          go_wp2_with fail
          go_round
          case rel => exact ⟨m + 1, by omega, by omega, by go_num, Lib.hid fun i h hi => Hpl.out i h hi (by omega)⟩
          case measure => simp [intOf]; omega
      · have hd2 : decide ((m : Int) ≤ (k : Int)) = false := by simp; omega
        have hd4 : decide ((ps.length : Int) ≤ (k : Int)) = false := by simp; omega
        go_wp2_with fail
        go_ret
        exact ⟨_, rfl, fun e => by simp at e; try omega, Below.refl _ _⟩
    · have hme : m = ps.length := by omega
      subst hme
      have hd1 : decide ((ps.length : Int) < (ps.length : Int)) = false := by simp
      by_cases hle : ps.length ≤ k
      · have hd4 : decide ((ps.length : Int) ≤ (k : Int)) = true := by simp; omega
        go_wp2_with fail
        go_ret
        exact ⟨_, rfl, fun _ => ⟨hle, fun i h => Hm.out i h h⟩, Below.refl _ _⟩
      · have hd4 : decide ((ps.length : Int) ≤ (k : Int)) = false := by simp; omega
        go_wp2_with fail
        go_ret
        exact ⟨_, rfl, fun e => by simp at e; try omega, Below.refl _ _⟩
end Go.Proofs.Ytekbbkbknldnaaa
