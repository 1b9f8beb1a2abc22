import Derived.Test.YtaoiklfkkipcaaaJDisk
import Derived.Deep.QuietTactic
import Derived.BigQuiet
set_option linter.unusedSimpArgs false
set_option linter.unusedVariables false
namespace Go.Proofs.Ytaoiklfkkipcaaa
open Go Go.RowKit Hd Go.Mem

theorem flatR_get (rs : List Rc) : ∀ (k : Nat) (hk : k < rs.length) (j : Nat), j < 8 → (flatR rs)[8 * k + j]? = (rcCells rs[k]).toList[j]? := by
  induction rs with
  | nil => intro k hk; simp at hk
  | cons y r ih =>
    intro k hk j hj
    have e : flatR (y :: r) = (rcCells y).toList ++ flatR r := by simp [flatR]
    have el : (rcCells y).toList.length = 8 := rfl
    rw [e]
    cases k with
    | zero => rw [List.getElem?_append_left (by omega)]; simp
    | succ k =>
      rw [List.getElem?_append_right (by omega), el, show 8 * (k + 1) + j - 8 = 8 * k + j from by omega]
      exact ih k (by simpa using hk) j hj
/-- a list of records that can be read -/
structure InR (w : World) (A : Option Addr) (c : Nat) (rs : List Rc) : Prop where
  rd : RdC w A (flatR rs)
  nil : A = none → c = 0
  le : rs.length ≤ c
  cap : c ≤ maxLen
theorem InR.below {w w' : World} {A : Option Addr} {c : Nat} {rs : List Rc} (h : InR w A c rs) (hb : Below w.heap.size w w') : InR w' A c rs := ⟨h.rd.below hb, h.nil, h.le, h.cap⟩
theorem RowR.inR {w : World} {b n c : Nat} {A : Option Addr} {rs : List Rc} (h : w.ownsRow b 38 8 (.slice A n c) rs.length (flatR rs)) : InR w A c rs := by
  obtain ⟨A', c', e, h1, h2, h3, h4⟩ := own_form h
  simp only [Value.slice.injEq] at e
  obtain ⟨rfl, _, rfl⟩ := e
  exact ⟨h4, h1, by simpa using h2, h3⟩
theorem InR.at {w : World} {A : Option Addr} {c : Nat} {rs : List Rc} (h : InR w A c rs) (k : Nat) (hk : k < rs.length) :
    ∃ b off, A = some ⟨b, off, none⟩ ∧ ∀ j v, j < 8 → (rcCells rs[k]).toList[j]? = some v → w.cell? ⟨b, off + k * 8 + j, none⟩ = some v := by
  rcases h.rd with h0 | ⟨b, off, rfl, hc⟩
  · have := flatR_len rs
    rw [h0] at this
    simp at this
    omega
  · refine ⟨b, off, rfl, fun j v hj hv => ?_⟩
    have h1 := flatR_get rs k hk j hj
    have h2 := flatR_len rs
    have hlt : 8 * k + j < (flatR rs).length := by omega
    have h3 := hc (8 * k + j) hlt
    rw [hv, List.getElem?_eq_getElem hlt] at h1
    rw [show off + k * 8 + j = off + (8 * k + j) by omega, h3]
    exact h1
set_option maxRecDepth 100000 in
set_option maxHeartbeats 4000000 in
theorem refrecs_any (A A' : Option Addr) (c c' : Nat) (rs : List Rc) (w : World) (hl : rs.length ≤ 1000000) (h : InR w A c rs) (h' : InR w A' c' rs) :
    Calls Try.prog 23 #[.slice A rs.length c, .slice A' rs.length c'] w fun e w' => e = .returned (.bool true) ∧ Below w.heap.size w w' := by
  have H := Lib.hid h
  have H' := Lib.hid h'
  clear h h'
  go_enter Try.func23, Try.ntmps23
  go_wp2
  go_loopw [13] (fun v wr => ∃ k : Nat, k ≤ rs.length ∧ v = .int .i64 (k : Int) ∧ Below w.heap.size w wr) (fun v _ => rs.length - (intOf v).toNat)
  case atStart => exact ⟨0, by omega, rfl, Below.refl _ _⟩
  case round =>
    obtain ⟨k, hk, rfl, hB⟩ := hrel
    by_cases hlt : k < rs.length
    · obtain ⟨b, off, rfl, hr⟩ := (H.out.below hB).at k hlt
      obtain ⟨b', off', rfl, hr'⟩ := (H'.out.below hB).at k hlt
      generalize rs[k] = f at *
      obtain ⟨ref, role, peer, payer, frm, to_, rate, units⟩ := f
      have q0 : wr.cell? ⟨b, off + k * 8, none⟩ = some (.int .i64 ref) := hr 0 _ (by decide) rfl
      have q1 : wr.cell? ⟨b, off + k * 8 + 1, none⟩ = some (.int .i64 role) := hr 1 _ (by decide) rfl
      have q2 : wr.cell? ⟨b, off + k * 8 + 2, none⟩ = some (.int .i64 peer) := hr 2 _ (by decide) rfl
      have q3 : wr.cell? ⟨b, off + k * 8 + 3, none⟩ = some (.string ⟨payer.toArray⟩) := hr 3 _ (by decide) rfl
      have q4 : wr.cell? ⟨b, off + k * 8 + 4, none⟩ = some (.int .i64 frm) := hr 4 _ (by decide) rfl
      have q5 : wr.cell? ⟨b, off + k * 8 + 5, none⟩ = some (.int .i64 to_) := hr 5 _ (by decide) rfl
      have q6 : wr.cell? ⟨b, off + k * 8 + 6, none⟩ = some (.int .i64 rate) := hr 6 _ (by decide) rfl
      have q7 : wr.cell? ⟨b, off + k * 8 + 7, none⟩ = some (.int .i64 units) := hr 7 _ (by decide) rfl
      have p0 : wr.cell? ⟨b', off' + k * 8, none⟩ = some (.int .i64 ref) := hr' 0 _ (by decide) rfl
      have p1 : wr.cell? ⟨b', off' + k * 8 + 1, none⟩ = some (.int .i64 role) := hr' 1 _ (by decide) rfl
      have p2 : wr.cell? ⟨b', off' + k * 8 + 2, none⟩ = some (.int .i64 peer) := hr' 2 _ (by decide) rfl
      have p3 : wr.cell? ⟨b', off' + k * 8 + 3, none⟩ = some (.string ⟨payer.toArray⟩) := hr' 3 _ (by decide) rfl
      have p4 : wr.cell? ⟨b', off' + k * 8 + 4, none⟩ = some (.int .i64 frm) := hr' 4 _ (by decide) rfl
      have p5 : wr.cell? ⟨b', off' + k * 8 + 5, none⟩ = some (.int .i64 to_) := hr' 5 _ (by decide) rfl
      have p6 : wr.cell? ⟨b', off' + k * 8 + 6, none⟩ = some (.int .i64 rate) := hr' 6 _ (by decide) rfl
      have p7 : wr.cell? ⟨b', off' + k * 8 + 7, none⟩ = some (.int .i64 units) := hr' 7 _ (by decide) rfl
      have g0 : (0 : Int) ≤ (k : Int) := by omega
      have g1 : (k : Int) < (rs.length : Int) := by omega
      clear hr hr'
      go_wp2
      go_quiet (fail)
      go_wp2
      go_roundw
      case rel => exact ⟨k + 1, by omega, by go_num, hB.trans ⟨rfl, rfl, rfl, Nat.le_refl _, fun _ _ => rfl⟩⟩
      case measure => simp [intOf]; omega
    · have : k = rs.length := by omega
      subst this
      go_wp2
      go_ret
      exact ⟨rfl, hB⟩
end Go.Proofs.Ytaoiklfkkipcaaa
