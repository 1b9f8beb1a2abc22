import Derived.Test.YtaoiklfkkipcaaaWDec
import Derived.Laws.IdiomStrings
import Derived.Lib.SlBytesConst
import Derived.ProofKit
namespace Go.Proofs.Ytaoiklfkkipcaaa
open Go Go.RowKit Hd Go.Mem

theorem conv_str (A : Option Addr) (c : Nat) (l : List UInt8) (w : World) (hr : Rd w A l) : (convert 25 9 (.slice A l.length c)).run Try.prog w = .ok (.string ⟨l.toArray⟩) w := by
  cases A with
  | none =>
    have : l = [] := by
      rcases hr with h | ⟨_, _, e, _⟩
      · simpa using h
      · cases e
    subst this
    exact run_convert_bytes_nil w 25 5 Try.underlying25 Try.underlying5 0 c 9 Try.underlying9
  | some ad =>
    exact run_convert_bytes_back w 25 9 5 ad c l Try.underlying25 Try.underlying5 Try.underlying9 (fun j hj => by
      have := RdC.cells hr j (B l[j]) (by simp [hj])
      exact this)
/-- what a walk is told of a slice of integers that came in -/
def IsRow (k : IntKind) (w : World) (a : Option Addr) (len cap : Nat) (zs : List Int) : Prop :=
  (a = none ∧ len = 0 ∧ cap = 0 ∧ zs = []) ∨
  ∃ x, a = some x ∧ len ≤ cap ∧ cap ≤ maxLen ∧ zs.length = cap ∧ (∀ i, i < zs.length → w.cell? (x.add i) = some (.int k (zs.getD i 0))) ∧ ∀ n ∈ zs, (Lit.int k n).wf = true
/-- a byte string that came in -/
structure InB (w : World) (A : Option Addr) (c : Nat) (l : List UInt8) : Prop where
  rd : Rd w A l
  nil : A = none → c = 0
  le : l.length ≤ c
  cap : c ≤ maxLen
theorem InB.empty {w : World} {A : Option Addr} {c : Nat} {l : List UInt8} (h : InB w A c l) (e : A = none) : l = [] := by
  have h1 := h.nil e
  have h2 := h.le
  exact List.eq_nil_of_length_eq_zero (by omega)
theorem InB.below {w w' : World} {A : Option Addr} {c : Nat} {l : List UInt8} (h : InB w A c l) (hb : Below w.heap.size w w') : InB w' A c l := ⟨h.rd.below hb, h.nil, h.le, h.cap⟩
theorem IsRow.inB {w : World} {a : Option Addr} {len cap : Nat} {zs : List Int} (h : IsRow .u8 w a len cap zs) : ∃ l : List UInt8, len = l.length ∧ InB w a cap l := by
  rcases h with ⟨rfl, rfl, rfl, rfl⟩ | ⟨x, rfl, h1, h2, h3, h4, h5⟩
  · exact ⟨[], rfl, Rd.nil _ _, fun _ => rfl, Nat.le_refl _, Nat.zero_le _⟩
  · refine ⟨(zs.take len).map fun n => UInt8.ofNat n.toNat, by simp; omega, ?_, (fun e => by cases e), by simp; omega, h2⟩
    refine RdC.of_cells fun j u hu => ?_
    simp only [List.map_map, List.getElem?_map, Option.map_eq_some_iff] at hu
    obtain ⟨n, hn, rfl⟩ := hu
    have hj : j < zs.length := by
      have := (List.getElem?_eq_some_iff.1 hn).1
      simp at this; omega
    have hn' : zs[j]? = some n := by
      rw [List.getElem?_take] at hn
      split at hn
      · exact hn
      · cases hn
    rw [h4 j hj]
    have hm : n ∈ zs := List.mem_of_getElem? hn'
    have hw := h5 n hm
    simp only [Lit.wf, IntKind.min, IntKind.max, IntKind.signed, IntKind.bits, Bool.and_eq_true, decide_eq_true_eq, Bool.false_eq_true, if_false] at hw
    rw [List.getD_eq_getElem?_getD, hn']
    simp only [Option.getD_some, Function.comp_apply]
    congr 2
    have : n.toNat < 256 := by omega
    simp
    omega
end Go.Proofs.Ytaoiklfkkipcaaa
