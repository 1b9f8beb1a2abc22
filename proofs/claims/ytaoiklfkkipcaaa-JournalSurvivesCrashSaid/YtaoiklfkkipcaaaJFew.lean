import Derived.Test.YtaoiklfkkipcaaaJRows
import Derived.Test.YtaoiklfkkipcaaaJLaw3
import Derived.Test.YtaoiklfkkipcaaaJAct2
set_option linter.unusedSimpArgs false
set_option linter.unusedVariables false
namespace Go.Proofs.Ytaoiklfkkipcaaa
open Go Go.RowKit Hd Go.Mem

set_option maxRecDepth 100000 in
set_option maxHeartbeats 2000000 in
theorem jfew_any (A : Option Addr) (c : Nat) (rs : List Rc) (w : World) (hl : rs.length ≤ 9223372036854775807) (h : InR w A c rs) :
    Calls Try.prog 12 #[.slice A rs.length c] w fun e w' => ∃ b, e = .returned (.bool b) ∧ (b = true → rs.length ≤ 10 ∧ ∀ r ∈ rs, r.payer.length ≤ 15) ∧ w' = w := by
  have H := Lib.hid h
  clear h
  go_enter Try.func12, Try.ntmps12
  go_wp2_with fail
  go_loopw [3] (fun v wr => ∃ k : Nat, k ≤ rs.length ∧ k ≤ 20 ∧ v = .int .i64 (k : Int) ∧ Hid (∀ i (hi : i < rs.length), i < k → rs[i].payer.length ≤ 15) ∧ wr = w) (fun v _ => rs.length - (intOf v).toNat)
  case atStart => exact ⟨0, by omega, by omega, rfl, Lib.hid (fun i hi h => by omega), rfl⟩
  case round =>
    obtain ⟨k, hk, hk20, rfl, Hall, hw⟩ := hrel
    have hw' := hw.symm
    subst hw'
    clear hw
    by_cases hlt : k < rs.length
    · have hkl : ((k : Int) < (rs.length : Int)) = True := eq_true (by omega)
      by_cases h20 : k < 20
      · have hk2 : ((k : Int) < 20) = True := eq_true (by omega)
        obtain ⟨b, off, rfl, hr⟩ := H.out.at k hlt
        have q3 : w.cell? ⟨b, off + k * 8 + 3, none⟩ = some (.string ⟨rs[k].payer.toArray⟩) := hr 3 _ (by decide) rfl
        have Hp : Hid (∀ i (hi : i < rs.length), i < k + 1 → rs[i].payer.length ≤ 15 ∨ i = k) := Lib.hid fun i hi h => by
          rcases Nat.lt_or_ge i k with h2 | h2
          · exact .inl (Hall.out i hi h2)
          · exact .inr (by omega)
        have Heq : Hid (∀ i (hi : i < rs.length), i = k → rs[i].payer.length = rs[k].payer.length) := Lib.hid fun i hi h => by subst h; rfl
        obtain ⟨m, hm⟩ : ∃ m, rs[k].payer.length = m := ⟨_, rfl⟩
        rw [hm] at Heq
        generalize rs[k].payer = p at *
        by_cases hp : 15 < p.length
        · have hp' : ((15 : Int) < (p.length : Int)) = True := eq_true (by omega)
          clear hr hm
          go_wp2_with fail
          go_ret
          exact ⟨_, rfl, (fun e => by cases e), rfl⟩
        · have hp' : ((15 : Int) < (p.length : Int)) = False := eq_false (by omega)
          have hm15 : m ≤ 15 := by omega
          clear hr hm
          go_wp2_with fail
          go_roundw
          case rel => exact ⟨k + 1, by omega, by omega, by go_num, Lib.hid (fun i hi h => by rcases Hp.out i hi h with h1 | h1; exact h1; have := Heq.out i hi h1; omega), trivial⟩
          case measure => simp [intOf]; omega
      · have hk2 : ((k : Int) < 20) = False := eq_false (by omega)
        have h10 : ((rs.length : Int) ≤ 10) = False := eq_false (by omega)
        go_wp2_with fail
        go_ret
        exact ⟨_, rfl, (fun e => by cases e), rfl⟩
    · have hkl : ((k : Int) < (rs.length : Int)) = False := eq_false (by omega)
      by_cases h10 : rs.length ≤ 10
      · have h10' : ((rs.length : Int) ≤ 10) = True := eq_true (by omega)
        go_wp2_with fail
        go_ret
        refine ⟨_, rfl, fun _ => ⟨h10, fun r hr => ?_⟩, rfl⟩
        obtain ⟨i, hi, rfl⟩ := List.mem_iff_getElem.1 hr
        exact Hall.out i hi (by omega)
      · have h10' : ((rs.length : Int) ≤ 10) = False := eq_false (by omega)
        go_wp2_with fail
        go_ret
        exact ⟨_, rfl, (fun e => by cases e), rfl⟩
/-- bytes do not lie where a disk stands -/
theorem rd_setRow {W : World} {g t : Nat} {A A1 A2 : Option Addr} {c1 c2 : Nat} {d : Dk} {l : List UInt8} (cs : Array Value) (hg : W.heap[g]? = some (.cells (dkCells A1 A2 c1 c2 d) t (0, 0))) (h : Rd W A l) : Rd (W.setRow g cs) A l := by
  rcases h with h | ⟨b, off, rfl, hc⟩
  · exact .inl h
  · refine .inr ⟨b, off, rfl, fun i hi => ?_⟩
    have h1 := hc i hi
    by_cases hb : b = g
    · subst hb
      rw [cell_of_row _ _ _ _ _ _ hg] at h1
      simp only [List.getElem_map] at h1
      unfold dkCells at h1
      rcases hx : off + i with _ | _ | n
      · rw [hx] at h1; simp [B] at h1
      · rw [hx] at h1; simp [B] at h1
      · rw [hx] at h1; simp at h1
    · rw [World.cell?_of_block (a := ⟨b, off + i, none⟩) (setRow_other W g b cs hb)]
      exact h1
theorem InD.setRow {W : World} {g t : Nat} {A A' A1 A2 : Option Addr} {c c' c1 c2 : Nat} {d e : Dk} (cs : Array Value) (h : InD W A A' c c' e) (hg : W.heap[g]? = some (.cells (dkCells A1 A2 c1 c2 d) t (0, 0))) : InD (W.setRow g cs) A A' c c' e :=
  ⟨rd_setRow cs hg h.dur, rd_setRow cs hg h.vol, h.nil, h.nil', h.le, h.le', h.cap, h.cap'⟩
end Go.Proofs.Ytaoiklfkkipcaaa
