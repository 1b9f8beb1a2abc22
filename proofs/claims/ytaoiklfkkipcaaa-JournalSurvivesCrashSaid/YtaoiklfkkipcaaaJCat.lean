import Derived.Test.YtaoiklfkkipcaaaJBase
import Derived.Lib.AppendZerosOnto
set_option linter.unusedSimpArgs false
set_option linter.unusedVariables false
namespace Go.Mem
open Go Go.RowKit
/-- append of made zeros to nil -/
theorem wpList_append_zeros {P : Program} {ops : Array Oper} {rest : List Oper} {o : Oper} {a : Act} {w : World} {Q : Exit → Act → World → Prop} (hgd : o.guard = none) (s x : Operand) (t tn : TypeId) (kq kn : IntKind)
    (ho : o.op = .call { callee := .builtin .append, args := #[s, x], argTypes := #[t, tn] }) (e : TypeId) (i : TypeInfo) (ht : P.underlying t = some (.slice e)) (htn : P.underlying tn = some (.int kn)) (hi : P.info? e = some i)
    (hz : i.zero = some (.int .u8 0)) (hsz : i.size = 1) (hby : i.bytes = 1) (k : Nat) (hs : a.eval s = .slice none 0 0) (hx : a.eval x = .int kq k) (h0 : 0 < k) (hk : k ≤ 140737488355328)
    (h : ∀ c w', k ≤ c → c ≤ maxLen → Below w.heap.size w w' → (∃ cur : Array Value, w'.heap[w.heap.size]? = some (.cells cur e (0, 0)) ∧ cur.size = c) → wpList P ops Q rest (a.put o.dst (.slice (some ⟨w.heap.size, 0, none⟩) k c)) w') : wpList P ops Q (o :: rest) a w := by
  have hold : (Builtin.firstCells i.size 0 (.slice none 0 0)).run P w.drew = .ok ([] : List Value).toArray w.drew := by
    simp [Builtin.firstCells, loadCells, loadCellsFrom]
  have hfit : Builtin.nextslicecap (0 + k) 0 * i.bytes ≤ 281474976710656 := growslice_fits (by omega) (by rw [hby]; omega)
  have hr := Lib.run_append_grow_zeros (P := P) w t tn o.type e i (.int .u8 0) kq kn ht htn hi hz none 0 0 [] hold k h0 (by rw [hsz]; decide) (by omega) (by omega) (by rw [hby]; omega) hfit
  simp only [Nat.zero_add] at hr
  have hge := grownCap_ge w k 0 e
  have hcm : grownCap w k 0 e ≤ maxLen := grownCap_le_maxLen w k 0 e (by unfold maxLen; omega)
  refine wpList_plain hgd fun K hK => ?_
  unfold Oper.wp execOp
  simp only [ho, resolve, invoke, builtin, Sem.run_bind, Sem.run_pure, Result.andThen_ok, List.map_toArray, List.map_cons, List.map_nil, hs, hx, hr]
  have hz1 : (Value.int IntKind.u8 0).cells.size = 1 := rfl
  have hb := fw_new w.drew (.cells (([] : List Value).toArray ++ Builtin.zeroCells (Value.int IntKind.u8 0).cells k ++ Builtin.zeroCells (Value.int IntKind.u8 0).cells (grownCap w k 0 e - k)) e)
  refine hK _ _ (h _ _ hge hcm ⟨hb.os, hb.tape, hb.output, hb.size, hb.block⟩ ⟨_, heap_alloc_new w.drew _, ?_⟩)
  simp only [Array.size_append, size_zeroCells, hz1]
  simp
  omega
end Go.Mem
namespace Go.Proofs.Ytaoiklfkkipcaaa
open Go Go.RowKit Hd Go.Mem

theorem own_room {w : World} {b : Nat} {e : TypeId} {g c : Nat} {cur : Array Value} (hb : b ≤ g) (h : w.heap[g]? = some (.cells cur e (0, 0))) (hs : cur.size = c) (hc : c ≤ maxLen) : OwnB w b e (.slice (some ⟨g, 0, none⟩) 0 c) [] :=
  ⟨rfl, .inr ⟨g, c, cur, rfl, hb, h, Nat.zero_le _, hc, by rw [hs, Nat.mul_one], rfl⟩⟩
set_option maxRecDepth 100000 in
set_option maxHeartbeats 1000000 in
theorem grow_any (n : Nat) (w : World) (hn : n ≤ 100000000000) :
    Calls Try.prog 67 #[.slice none 0 0, .int .i64 (n : Int)] w fun e w' => ∃ v, e = .returned v ∧ OwnB w' w.heap.size 5 v [] ∧ Below w.heap.size w w' := by
  obtain ⟨i0, hi0, hz0, hz1, hz2⟩ := info_parts info_u8
  have g0 : ((n : Int) < 0) = False := eq_false (by omega)
  by_cases h0 : 0 < n
  · have g1 : ((0 : Int) < (n : Int)) = True := eq_true (by omega)
    go_enter Try.func67, Try.ntmps67
    go_wp2_with (at_builtin; refine wpList_append_zeros rfl (.tmp 20) (.tmp 21) 25 3 .i64 .i64 rfl 5 i0 Try.underlying25 Try.underlying3 hi0 hz0 hz1 hz2 n rfl rfl h0 (by omega) ?_; intro cc w2 hcc hcm hb2 hcur; have hsl := slc_h 25 5 Try.underlying25 (by kernel_rfl) (some ⟨w.heap.size, 0, none⟩) n cc 0 0 rfl (by omega))
    go_ret
    obtain ⟨cur, hc1, hc2⟩ := hcur
    exact ⟨_, rfl, own_room (Nat.le_refl _) hc1 hc2 hcm, hb2⟩
  · obtain rfl : n = 0 := by omega
    go_enter Try.func67, Try.ntmps67
    go_wp2_with fail
    go_ret
    exact ⟨_, rfl, World.ownsRow_nil _ _ _ _, Below.refl _ _⟩
def sumL (ps : List (List UInt8)) : Nat := ps.flatten.length
theorem sumL_step {ps : List (List UInt8)} {k : Nat} (h : k < ps.length) : sumL (ps.take (k + 1)) = sumL (ps.take k) + ps[k].length := by
  unfold sumL
  rw [List.take_succ_eq_append_getElem h]
  simp only [List.flatten_append, List.length_append, List.flatten_cons, List.flatten_nil, List.append_nil]
theorem sumL_le (ps : List (List UInt8)) (k : Nat) : sumL (ps.take k) ≤ sumL ps := by
  unfold sumL
  conv => rhs; rw [← List.take_append_drop k ps]
  rw [List.flatten_append, List.length_append]
  omega
set_option maxRecDepth 100000 in
set_option maxHeartbeats 2000000 in
theorem concat_any (A : Option Addr) (c : Nat) (ps : List (List UInt8)) (w : World) (hn : ps.length ≤ 1000) (hz : sumL ps ≤ 10000000000) (hr : RdL w A ps) :
    Calls Try.prog 47 #[.slice A ps.length c] w fun e w' => ∃ v, e = .returned v ∧ OwnB w' w.heap.size 5 v ps.flatten ∧ Below w.heap.size w w' := by
  have Hr := Lib.hid hr
  clear hr
  go_enter Try.func47, Try.ntmps47
  go_wp2_with fail
  go_loopw [3, 11] (fun v j wr => ∃ (k : Nat), k ≤ ps.length ∧ j = .int .i64 (k : Int) ∧ v = .int .i64 (sumL (ps.take k) : Int) ∧ wr = w) (fun _ j _ => ps.length - (intOf j).toNat)
  case atStart => exact ⟨0, by omega, rfl, rfl, rfl⟩
  case round =>
    obtain ⟨k, hk, rfl, rfl, hw⟩ := hrel
    have hw' := hw.symm
    subst hw'
    clear hw
    by_cases hlt : k < ps.length
    · have hkl : ((k : Int) < (ps.length : Int)) = True := eq_true (by omega)
      obtain ⟨b1, off1, A1, c1, rfl, hc1, hz1, hz2, hA1, hr1⟩ := Hr.out.at k hlt
      have hst := sumL_step hlt
      have hle := sumL_le ps (k + 1)
      generalize ps[k] = p at *
      obtain ⟨m, hm⟩ : ∃ m, sumL (ps.take k) = m := ⟨_, rfl⟩
      rw [hm] at hst
      rw [hm]
      have Hst := Lib.hid hst
      have hbnd : m + p.length ≤ 10000000000 := by omega
      have hg : ((m : Int) + (p.length : Int) < 0) = False := eq_false (by omega)
      clear hst hm
      go_wp2_with fail
      go_roundw
      case rel => exact ⟨k + 1, by omega, by go_num, by rw [Hst.out]; go_num, trivial⟩
      case measure => simp [intOf]; omega
    · have hkl : ((k : Int) < (ps.length : Int)) = False := eq_false (by omega)
      obtain rfl : k = ps.length := by omega
      rw [List.take_length]
      go_wp2_with fail
      refine (grow_any (sumL ps) w (by omega)).mono ?_
      rintro e w1 ⟨v1, rfl, hO1, hB1⟩
      go_wp2_with fail
      have HO1 := Lib.hid hO1
      clear hO1
      go_loopw [6, 27] (fun v j w2 => ∃ (k : Nat), k ≤ ps.length ∧ j = .int .i64 (k : Int) ∧ Hid (OwnB w2 w.heap.size 5 v (ps.take k).flatten) ∧ Below w.heap.size w w2) (fun _ j _ => ps.length - (intOf j).toNat)
      case atStart => exact ⟨0, by omega, rfl, by simpa using HO1, hB1⟩
      case round =>
        clear HO1 hB1 hlt hk hkl
        obtain ⟨k, hk, rfl, HO, hB⟩ := hrel
        by_cases hlt : k < ps.length
        · have hkl : ((k : Int) < (ps.length : Int)) = True := eq_true (by omega)
          obtain ⟨b1, off1, A1, c1, rfl, hc1, hz1, hz2, hA1, hr1⟩ := (Hr.out.below hB).at k hlt
          have hst := sumL_step hlt
          have hle := sumL_le ps (k + 1)
          have Htk := Lib.hid (List.take_succ_eq_append_getElem hlt)
          generalize ps[k] = p at *
          have HA1 := Lib.hid hA1
          have Hr1 := Lib.hid hr1
          have hbd : (ps.take k).flatten.length + p.length ≤ 140737488355328 := by have : (ps.take k).flatten.length = sumL (ps.take k) := rfl; omega
          have hbs := hB.size
          clear hA1 hr1 hst
          go_wp2_with (at_builtin; go_loud (refine app_bytes _ rfl (.tmp 31) (.tmp 32) 25 rfl w w.heap.size 5 Try.underlying25 info_u8 _ _ rfl HO.out A1 c1 p rfl HA1.out Hr1.out hbd hB hbs ?_; intro v3 w3 hO3 hb3 hg3 hat3 hsz3; have HO3 := Lib.hid hO3; clear hO3 hg3 hat3))
          go_roundw
          case rel => exact ⟨k + 1, by omega, by go_num, by rw [Htk.out, List.flatten_append]; simpa using HO3, hb3⟩
          case measure => simp [intOf]; omega
        · have hkl : ((k : Int) < (ps.length : Int)) = False := eq_false (by omega)
          obtain rfl : k = ps.length := by omega
          rw [List.take_length] at HO
          go_wp2_with fail
          go_ret
          exact ⟨_, rfl, HO.out, hB⟩
end Go.Proofs.Ytaoiklfkkipcaaa
