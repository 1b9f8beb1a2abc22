import Derived.Test.YtaoiklfkkipcaaaWEnc
import Derived.Lib.BytesEntry
import Derived.Laws.StandIn
namespace Go.Proofs.Ytaoiklfkkipcaaa
open Go Go.RowKit Hd Go.Mem

/-- IndexByte's number: -1 or the place of the first flag -/
def idxI (l : List UInt8) : Int := match idxFlag l with | none => -1 | some n => (n : Int)
theorem idx_lib (l : List UInt8) : Lib.indexByte l 126 = idxI l := by
  unfold idxI idxFlag
  induction l with
  | nil => rfl
  | cons x l ih =>
    rw [List.findIdx?_cons, Lib.indexByte]
    by_cases h : (x == 126) = true
    · simp [h]
    · simp only [h, Bool.false_eq_true, if_false]
      rw [ih]
      cases hq : List.findIdx? (fun x => x == 126) l with
      | none => simp
      | some n =>
        simp only [Option.map_some]
        have : ((n : Int) == -1) = false := by simp
        simp [this]
theorem run_idx (A : Option Addr) (c : Nat) (l : List UInt8) (w : World) (hr : Rd w A l) (hA : A = none → l = []) :
    (Extern.BytealgIndexByte.indexByte #[.slice A l.length c, .int .u8 126]).run Try.prog w = .ok (.int .i64 (idxI l)) w := by
  have hb : Lib.bytesOf (l.map fun x : UInt8 => (x.toNat : Int)) = l := by
    unfold Lib.bytesOf
    rw [List.map_map]
    conv => rhs; rw [← List.map_id l]
    apply List.map_congr_left
    intro x _
    simp
  by_cases hl : l = []
  · subst hl
    cases A with
    | none => exact Lib.run_indexByteNil w 0 c 126
    | some ad =>
      have := Lib.run_loadBytesX (P := Try.prog) w [] ad .empty (by simp)
      change Sem.run Try.prog (do
        let b ← Extern.Bytes.bytesOf (.slice (some ad) 0 c)
        let c ← Extern.Bytes.asByte (.int .u8 126)
        match (List.range b.size).find? fun i => b[i]! == c with
        | some i => pure (goInt i)
        | none => pure (goInt (-1))) w = _
      simp only [Extern.Bytes.bytesOf, Sem.run_bind, List.length_nil] at this ⊢
      rw [this]
      rfl
  · have hpos := List.length_pos_iff.2 hl
    obtain ⟨b, off, rfl, _⟩ := hr.at 0 hpos
    have hc : ∀ i, i < l.length → w.cell? ⟨b, off + i, none⟩ = some (.int .u8 ((l.map fun x : UInt8 => (x.toNat : Int)).getD i 0)) := by
      intro i hi
      obtain ⟨b', off', e, h⟩ := hr.at i hi
      simp only [Option.some.injEq, Addr.mk.injEq, and_true] at e
      obtain ⟨rfl, rfl⟩ := e
      rw [h]
      simp [hi]
    have := Lib.run_indexByteSlice (P := Try.prog) w b off l.length c (l.map fun x : UInt8 => (x.toNat : Int)) (by simp) hc 126
    rw [this, hb]
    exact congrArg (fun x => Result.ok (Value.int .i64 x) w) (idx_lib l)
theorem cf_idx (args : Array Value) (w : World) : (callFunc 55 args).run Try.prog w = ((Extern.BytealgIndexByte.indexByte args).run Try.prog w).andThen fun v w' => .ok (.value v) w' :=
  run_callFunc_indexByte Try.func55 (by kernel_rfl) (by kernel_rfl) (by kernel_rfl) (by kernel_rfl) args w
theorem idx_any (A : Option Addr) (c : Nat) (l : List UInt8) (w : World) (hr : Rd w A l) (hA : A = none → l = []) :
    Calls Try.prog 34 #[.slice A l.length c, .int .u8 126] w fun e w' => e = .returned (.int .i64 (idxI l)) ∧ w = w' := by
  have h1 := cf_idx
  have h2 := run_idx A c l w hr hA
  clear hr hA
  go_enter Try.func34, Try.ntmps34
  go_wp2
  go_ret
  exact ⟨rfl, rfl⟩
end Go.Proofs.Ytaoiklfkkipcaaa
