import Derived.Test.YtaoiklfkkipcaaaJRec
set_option linter.unusedSimpArgs false
set_option linter.unusedVariables false
namespace Go.Proofs.Ytaoiklfkkipcaaa
open Go Go.RowKit Hd Go.Mem

def encI (vs : List Int) : List UInt8 := vs.flatMap fun v => enc (zig v)
/-- bytes that stand in a slice -/
structure Bs (W : World) (v : Value) (l : List UInt8) : Prop where
  ex : ∃ A c, v = .slice A l.length c ∧ Rd W A l ∧ (A = none → c = 0) ∧ l.length ≤ c
theorem Bs.of_own {W : World} {b : Nat} {v : Value} {l : List UInt8} (h : OwnB W b 5 v l) : Bs W v l := by
  obtain ⟨A, c, e, h1, h2, h3, h4⟩ := own_form h
  exact ⟨A, c, e, h4, h1, by simpa using h2⟩
theorem aint_bs {W : World} {u : Value} {l : List UInt8} (h : Bs W u l) (v : Int) (hl : l.length ≤ 100000000000) (hv : i64B v) :
    Calls Try.prog 41 #[u, .int .i64 v] W fun e w' => ∃ v', e = .returned v' ∧ OwnB w' W.heap.size 5 v' (l ++ enc (zig v)) ∧ Below W.heap.size W w' := by
  obtain ⟨A, c, rfl, h1, h2, h3⟩ := h.ex
  exact aint_any A c l v W hl hv h1 h2 h3
theorem astr_bs {W : World} {u : Value} {l p : List UInt8} (h : Bs W u l) (hl : l.length ≤ 1000000000) (hp : p.length ≤ 1000000000) :
    Calls Try.prog 42 #[u, .string ⟨p.toArray⟩] W fun e w' => ∃ v', e = .returned v' ∧ OwnB w' W.heap.size 5 v' (l ++ encB p) ∧ Below W.heap.size W w' := by
  obtain ⟨A, c, rfl, h1, h2, h3⟩ := h.ex
  exact astr_any A c l p W hl hp h1 h2 h3
theorem encI_len (vs : List Int) (h : ∀ v ∈ vs, i64B v) : (encI vs).length ≤ 10 * vs.length := by
  induction vs with
  | nil => simp [encI]
  | cons v r ih =>
    have h1 := (zig_enc (h v (List.mem_cons_self ..))).2
    have h2 := ih fun x hx => h x (List.mem_cons_of_mem _ hx)
    simp only [encI, List.flatMap_cons, List.length_append, List.length_cons] at h2 ⊢
    omega
set_option maxRecDepth 100000 in
set_option maxHeartbeats 4000000 in
theorem arec_any (A : Option Addr) (c : Nat) (l : List UInt8) (r : Rc) (w : World) (hl : l.length ≤ 10000000) (hp : r.payer.length ≤ 10000000) (hok : r.ok) (hr : Rd w A l) (hA : A = none → c = 0) (hc : l.length ≤ c) :
    Calls Try.prog 18 #[.slice A l.length c, .agg (rcCells r)] w fun e w' => ∃ v', e = .returned v' ∧ OwnB w' w.heap.size 5 v' (l ++ encRec r) ∧ Below w.heap.size w w' := by
  obtain ⟨ref, role, peer, payer, frm, to_, rate, units⟩ := r
  obtain ⟨k1, k2, k3, k5, k6, k7, k8⟩ := hok
  simp only at k1 k2 k3 k5 k6 k7 k8 hp
  obtain ⟨w0, hw0⟩ : ∃ w0, w.alloc (.cells (rcCells ⟨ref, role, peer, payer, frm, to_, rate, units⟩) 38) = w0 := ⟨_, rfl⟩
  have hB0 : Below w.heap.size w w0 := by rw [← hw0]; exact fw_new _ _
  have hb0 : w0.heap[w.heap.size]? = some (.cells (rcCells ⟨ref, role, peer, payer, frm, to_, rate, units⟩) 38 (0, 0)) := by rw [← hw0]; exact heap_alloc_new w _
  have HS0 : Hid (Bs w0 (.slice A l.length c) l) := Lib.hid ⟨A, c, rfl, hr.below hB0, hA, hc⟩
  have H1 := Lib.hid (show ∀ v ∈ [ref, role, peer], i64B v by intro v hv; simp at hv; rcases hv with rfl | rfl | rfl <;> assumption)
  have H2 := Lib.hid (show ∀ v ∈ [frm, to_, rate, units], i64B v by intro v hv; simp at hv; rcases hv with rfl | rfl | rfl | rfl <;> assumption)
  have q0 : w0.cell? ⟨w.heap.size, 0, none⟩ = some (.int .i64 ref) := cellOf hb0 rfl
  have q1 : w0.cell? ⟨w.heap.size, 1, none⟩ = some (.int .i64 role) := cellOf hb0 rfl
  have q2 : w0.cell? ⟨w.heap.size, 2, none⟩ = some (.int .i64 peer) := cellOf hb0 rfl
  clear hr hA hc k1 k2 k3 k5 k6 k7 k8
  go_enter Try.func18, Try.ntmps18
  go_wp2_with fail
  clear q0 q1 q2 hw0
  go_loopw [0, 16] (fun v j wr => ∃ (k : Nat) (l' : List UInt8), j = .int .i64 (k : Int) ∧ k ≤ 3 ∧ l' = l ++ encI ([ref, role, peer].take k) ∧ Hid (Bs wr v l') ∧ Below w.heap.size w wr ∧ wr.heap[w.heap.size]? = some (.cells (rcCells ⟨ref, role, peer, payer, frm, to_, rate, units⟩) 38 (0, 0))) (fun _ j _ => 3 - (intOf j).toNat)
  case atStart => exact ⟨0, l, rfl, by omega, by simp [encI], HS0, hB0, hb0⟩
  case round =>
    obtain ⟨k, l', rfl, hk, hl', HB, hB, hb⟩ := hrel
    clear hB0 hb0 HS0
    by_cases hlt : k < 3
    · have hkl : ((k : Int) < 3) = True := eq_true (by omega)
      have hlen : l'.length ≤ 3000000000 := by
        have h1 := encI_len ([ref, role, peer].take k) (fun v hv => H1.out v (List.mem_of_mem_take hv))
        have h2 : ([ref, role, peer].take k).length ≤ 3 := by simp; omega
        rw [hl']; simp only [List.length_append]; omega
      clear hkl
      obtain rfl | rfl | rfl : k = 0 ∨ k = 1 ∨ k = 2 := by omega
      · have hidx : ∀ W, (Instr.index 75 (.agg #[.int .i64 ref, .int .i64 role, .int .i64 peer]) (.int .i64 0)).run Try.prog W = .ok (.int .i64 ref) W := fun _ => by kernel_rfl
        go_wp2_with fail
        clear hidx
        refine (aint_bs HB.out ref (by omega) (H1.out ref (by simp))).mono ?_
        rintro e w3 ⟨v3, rfl, hO3, hb3⟩
        have hB3 := hB.trans (hb3.mono hB.size)
        have HO3 : Hid (OwnB w3 w.heap.size 5 v3 (l' ++ enc (zig ref))) := Lib.hid (own_lower hO3 hB.size)
        have hb3k := blk_below hb hb3
        clear hO3 hb3 HB
        go_wp2_with fail
        go_roundw
        case rel => exact ⟨1, _, by go_num, by omega, by rw [hl', List.append_assoc]; simp [encI], Lib.hid (Bs.of_own HO3.out), hB3, hb3k⟩
        case measure => simp [intOf]
      · have hidx : ∀ W, (Instr.index 75 (.agg #[.int .i64 ref, .int .i64 role, .int .i64 peer]) (.int .i64 1)).run Try.prog W = .ok (.int .i64 role) W := fun _ => by kernel_rfl
        go_wp2_with fail
        clear hidx
        refine (aint_bs HB.out role (by omega) (H1.out role (by simp))).mono ?_
        rintro e w3 ⟨v3, rfl, hO3, hb3⟩
        have hB3 := hB.trans (hb3.mono hB.size)
        have HO3 : Hid (OwnB w3 w.heap.size 5 v3 (l' ++ enc (zig role))) := Lib.hid (own_lower hO3 hB.size)
        have hb3k := blk_below hb hb3
        clear hO3 hb3 HB
        go_wp2_with fail
        go_roundw
        case rel => exact ⟨2, _, by go_num, by omega, by rw [hl', List.append_assoc]; simp [encI], Lib.hid (Bs.of_own HO3.out), hB3, hb3k⟩
        case measure => simp [intOf]
      · have hidx : ∀ W, (Instr.index 75 (.agg #[.int .i64 ref, .int .i64 role, .int .i64 peer]) (.int .i64 2)).run Try.prog W = .ok (.int .i64 peer) W := fun _ => by kernel_rfl
        go_wp2_with fail
        clear hidx
        refine (aint_bs HB.out peer (by omega) (H1.out peer (by simp))).mono ?_
        rintro e w3 ⟨v3, rfl, hO3, hb3⟩
        have hB3 := hB.trans (hb3.mono hB.size)
        have HO3 : Hid (OwnB w3 w.heap.size 5 v3 (l' ++ enc (zig peer))) := Lib.hid (own_lower hO3 hB.size)
        have hb3k := blk_below hb hb3
        clear hO3 hb3 HB
        go_wp2_with fail
        go_roundw
        case rel => exact ⟨3, _, by go_num, by omega, by rw [hl', List.append_assoc]; simp [encI], Lib.hid (Bs.of_own HO3.out), hB3, hb3k⟩
        case measure => simp [intOf]
    have hkl : ((k : Int) < 3) = False := eq_false (by omega)
    have hk3 : k = 3 := by omega
    subst hk3
    have q3 : wr.cell? ⟨w.heap.size, 3, none⟩ = some (.string ⟨payer.toArray⟩) := cellOf hb rfl
    have hl2 : l'.length ≤ 1000000000 := by have := encI_len [ref, role, peer] H1.out; rw [hl']; simp at this ⊢; omega
    go_wp2_with fail
    refine (astr_bs HB.out hl2 (by omega)).mono ?_
    rintro e w2 ⟨v2, rfl, hO2, hb2⟩
    have hB2 := hB.trans (hb2.mono hB.size)
    have hbk2 := blk_below hb hb2
    have HO2 : Hid (OwnB w2 w.heap.size 5 v2 (l' ++ encB payer)) := Lib.hid (own_lower hO2 hB.size)
    obtain ⟨l2, hl2'⟩ : ∃ l2, l' ++ encB payer = l2 := ⟨_, rfl⟩
    have hl2l : l2.length ≤ 2000000000 := by have h5 : (enc payer.length).length ≤ 10 := enc_len64 (Nat.lt_of_le_of_lt hp (by decide)); rw [← hl2']; simp [encB]; omega
    rw [hl2'] at HO2
    have q4 : w2.cell? ⟨w.heap.size, 4, none⟩ = some (.int .i64 frm) := cellOf hbk2 rfl
    have q5 : w2.cell? ⟨w.heap.size, 5, none⟩ = some (.int .i64 to_) := cellOf hbk2 rfl
    have q6 : w2.cell? ⟨w.heap.size, 6, none⟩ = some (.int .i64 rate) := cellOf hbk2 rfl
    have q7 : w2.cell? ⟨w.heap.size, 7, none⟩ = some (.int .i64 units) := cellOf hbk2 rfl
    clear hO2 hb2 HB q3 hb hB hkl
    go_wp2_with fail
    clear q4 q5 q6 q7
    go_loopw [0, 36] (fun v j wr => ∃ (k : Nat) (l' : List UInt8), j = .int .i64 (k : Int) ∧ k ≤ 4 ∧ l' = l2 ++ encI ([frm, to_, rate, units].take k) ∧ Hid (OwnB wr w.heap.size 5 v l') ∧ Below w.heap.size w wr) (fun _ j _ => 4 - (intOf j).toNat)
    case atStart => exact ⟨0, l2, rfl, by omega, by simp [encI], HO2, hB2⟩
    case round =>
      clear HO2 hB2
      obtain ⟨k, l3, rfl, hk, hl3, HB, hB⟩ := hrel
      by_cases hlt : k < 4
      · have hkl : ((k : Int) < 4) = True := eq_true (by omega)
        have hlen : l3.length ≤ 3000000000 := by
          have h1 := encI_len ([frm, to_, rate, units].take k) (fun v hv => H2.out v (List.mem_of_mem_take hv))
          have h2 : ([frm, to_, rate, units].take k).length ≤ 4 := by simp; omega
          rw [hl3]; simp only [List.length_append]; omega
        clear hkl
        obtain rfl | rfl | rfl | rfl : k = 0 ∨ k = 1 ∨ k = 2 ∨ k = 3 := by omega
        · have hidx : ∀ W, (Instr.index 78 (.agg #[.int .i64 frm, .int .i64 to_, .int .i64 rate, .int .i64 units]) (.int .i64 0)).run Try.prog W = .ok (.int .i64 frm) W := fun _ => by kernel_rfl
          go_wp2_with fail
          clear hidx
          refine (aint_bs (Bs.of_own HB.out) frm (by omega) (H2.out frm (by simp))).mono ?_
          rintro e w3 ⟨v3, rfl, hO3, hb3⟩
          have hB3 := hB.trans (hb3.mono hB.size)
          have HO3 : Hid (OwnB w3 w.heap.size 5 v3 (l3 ++ enc (zig frm))) := Lib.hid (own_lower hO3 hB.size)
          clear hO3 hb3 HB
          go_wp2_with fail
          go_roundw
          case rel => exact ⟨1, _, by go_num, by omega, by rw [hl3, List.append_assoc]; simp [encI], HO3, hB3⟩
          case measure => simp [intOf]
        · have hidx : ∀ W, (Instr.index 78 (.agg #[.int .i64 frm, .int .i64 to_, .int .i64 rate, .int .i64 units]) (.int .i64 1)).run Try.prog W = .ok (.int .i64 to_) W := fun _ => by kernel_rfl
          go_wp2_with fail
          clear hidx
          refine (aint_bs (Bs.of_own HB.out) to_ (by omega) (H2.out to_ (by simp))).mono ?_
          rintro e w3 ⟨v3, rfl, hO3, hb3⟩
          have hB3 := hB.trans (hb3.mono hB.size)
          have HO3 : Hid (OwnB w3 w.heap.size 5 v3 (l3 ++ enc (zig to_))) := Lib.hid (own_lower hO3 hB.size)
          clear hO3 hb3 HB
          go_wp2_with fail
          go_roundw
          case rel => exact ⟨2, _, by go_num, by omega, by rw [hl3, List.append_assoc]; simp [encI], HO3, hB3⟩
          case measure => simp [intOf]
        · have hidx : ∀ W, (Instr.index 78 (.agg #[.int .i64 frm, .int .i64 to_, .int .i64 rate, .int .i64 units]) (.int .i64 2)).run Try.prog W = .ok (.int .i64 rate) W := fun _ => by kernel_rfl
          go_wp2_with fail
          clear hidx
          refine (aint_bs (Bs.of_own HB.out) rate (by omega) (H2.out rate (by simp))).mono ?_
          rintro e w3 ⟨v3, rfl, hO3, hb3⟩
          have hB3 := hB.trans (hb3.mono hB.size)
          have HO3 : Hid (OwnB w3 w.heap.size 5 v3 (l3 ++ enc (zig rate))) := Lib.hid (own_lower hO3 hB.size)
          clear hO3 hb3 HB
          go_wp2_with fail
          go_roundw
          case rel => exact ⟨3, _, by go_num, by omega, by rw [hl3, List.append_assoc]; simp [encI], HO3, hB3⟩
          case measure => simp [intOf]
        · have hidx : ∀ W, (Instr.index 78 (.agg #[.int .i64 frm, .int .i64 to_, .int .i64 rate, .int .i64 units]) (.int .i64 3)).run Try.prog W = .ok (.int .i64 units) W := fun _ => by kernel_rfl
          go_wp2_with fail
          clear hidx
          refine (aint_bs (Bs.of_own HB.out) units (by omega) (H2.out units (by simp))).mono ?_
          rintro e w3 ⟨v3, rfl, hO3, hb3⟩
          have hB3 := hB.trans (hb3.mono hB.size)
          have HO3 : Hid (OwnB w3 w.heap.size 5 v3 (l3 ++ enc (zig units))) := Lib.hid (own_lower hO3 hB.size)
          clear hO3 hb3 HB
          go_wp2_with fail
          go_roundw
          case rel => exact ⟨4, _, by go_num, by omega, by rw [hl3, List.append_assoc]; simp [encI], HO3, hB3⟩
          case measure => simp [intOf]
      have hkl : ((k : Int) < 4) = False := eq_false (by omega)
      have hk4 : k = 4 := by omega
      subst hk4
      go_wp2_with fail
      go_ret
      refine ⟨_, rfl, ?_, hB⟩
      have he : l3 = l ++ encRec ⟨ref, role, peer, payer, frm, to_, rate, units⟩ := by
        rw [hl3, ← hl2', hl']
        simp [encI, encRec]
      rw [← he]
      exact HB.out
end Go.Proofs.Ytaoiklfkkipcaaa
