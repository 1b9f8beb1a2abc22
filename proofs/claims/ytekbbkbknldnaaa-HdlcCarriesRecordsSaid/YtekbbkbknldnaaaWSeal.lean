import Derived.Test.YtekbbkbknldnaaaWRes
namespace Go.Proofs.Ytekbbkbknldnaaa
open Go Go.RowKit Hd Go.Mem

theorem stuff_snoc (l : List UInt8) (m : Nat) (h : m < l.length) : stuff (l.take (m + 1)) = stuff (l.take m) ++ stuff1 l[m] := by
  rw [List.take_succ_eq_append_getElem h, stuff_append]
  simp [stuff]
theorem stuff_take_len (l : List UInt8) (m : Nat) (hl : l.length ≤ 100000) : (stuff (l.take m)).length + 2 ≤ 140737488355328 := by
  have := (stuff_length (l.take m)).2
  simp at this
  omega
theorem i126 (x : UInt8) : ((x.toNat : Int) == 126) = (x == 0x7e) := by
  rw [Bool.eq_iff_iff]; simp [← UInt8.toNat_inj]; omega
theorem i125 (x : UInt8) : ((x.toNat : Int) == 125) = (x == 0x7d) := by
  rw [Bool.eq_iff_iff]; simp [← UInt8.toNat_inj]; omega
set_option maxRecDepth 100000 in
set_option maxHeartbeats 400000 in
theorem stuff_any (A : Option Addr) (c : Nat) (l : List UInt8) (w : World) (hl : l.length ≤ 100000) (hr : Rd w A l) :
    Calls Try.prog 34 #[.slice A l.length c] w fun e w' => ∃ v, e = .returned v ∧ OwnB w' w.heap.size 5 v (stuff l) ∧ Below w.heap.size w w' := by
  have Hr := Lib.hid hr
  clear hr
  go_enter Try.func34, Try.ntmps34
  go_wp2_with fail
  go_loopw [3, 8] (fun v j wr => ∃ m : Nat, m ≤ l.length ∧ j = .int .i64 m ∧ OwnB wr w.heap.size 5 v (stuff (l.take m)) ∧ Below w.heap.size w wr) (fun _ j _ => l.length - (intOf j).toNat)
  case atStart => exact ⟨0, by omega, rfl, World.ownsRow_nil _ _ _ _, Below.refl _ _⟩
  case round =>
    obtain ⟨m, hm, rfl, hO, hB⟩ := hrel
    by_cases hlt : m < l.length
    · obtain ⟨b, off, rfl, hc⟩ := (Hr.out.below hB).at m hlt
      have Hst := Lib.hid (stuff_snoc l m hlt)
      have hbd := stuff_take_len l m hl
      have hbd1 := Nat.le_of_succ_le hbd
      generalize l[m] = x at *
      have i1 := i126 x
      have i2 := i125 x
      by_cases hs : Hd.special x = true
      · have e1 := flip_bits x
        have hs2 : ((x.toNat : Int) == 126 || (x.toNat : Int) == 125) = true := by rw [i1, i2]; exact hs
        by_cases hx : (x == 0x7e) = true
        all_goals
          rw [show (x == 0x7e) = _ from by first | exact hx | exact Bool.eq_false_iff.2 hx] at i1
          try rw [i1, Bool.false_or] at hs2
          clear i2 hx
          go_wp2_with (first | (at_builtin; refine app_bytes _ rfl _ _ 22 rfl w w.heap.size 5 Try.underlying22 info_u8 u3 _ rfl (hO.alloc _) (some ⟨wr.heap.size, 0, none⟩) 2 [0x7d, x ^^^ 0x20] rfl (fun e => by cases e) (rd_new _ _ _ _ rfl) hbd (fw_al hB _) (by have := hB.size; simp; omega) ?_; intro v' w' hO3 hB3 hg3 hat3 hsz3))
          go_roundw
          case rel =>
            refine ⟨m + 1, by omega, by go_num, ?_, hB3⟩
            rw [Hst.out]
            unfold stuff1
            rw [if_pos hs]
            exact hO3
          case measure => simp [intOf]; omega
      · have hs' : (x == 0x7e || x == 0x7d) = false := Bool.eq_false_iff.2 hs
        rw [Bool.or_eq_false_iff] at hs'
        rw [hs'.1] at i1
        rw [hs'.2] at i2
        clear hs'
        go_wp2_with (first | (at_builtin; refine app_bytes _ rfl _ _ 22 rfl w w.heap.size 5 Try.underlying22 info_u8 u3 _ rfl (hO.alloc _) (some ⟨wr.heap.size, 0, none⟩) 1 [x] rfl (fun e => by cases e) (rd_new _ _ _ _ rfl) hbd1 (fw_al hB _) (by have := hB.size; simp; omega) ?_; intro v' w' hO3 hB3 hg3 hat3 hsz3))
        go_roundw
        case rel =>
          refine ⟨m + 1, by omega, by go_num, ?_, hB3⟩
          rw [Hst.out]
          unfold stuff1
          rw [if_neg hs]
          exact hO3
        case measure => simp [intOf]; omega
    · have : m = l.length := by omega
      subst this
      go_wp2_with fail
      go_ret
      exact ⟨_, rfl, by simpa using hO, hB⟩
set_option maxRecDepth 100000 in
set_option maxHeartbeats 400000 in
theorem seal_any (A : Option Addr) (c : Nat) (l : List UInt8) (n : UInt16) (w : World) (hl : l.length ≤ 10000) (hr : Rd w A l) (hA : A = none → c = 0) :
    Calls Try.prog 20 #[.slice A l.length c, .int .u16 (n.toNat : Int)] w fun e w' => ∃ v, e = .returned v ∧ OwnB w' w.heap.size 5 v (sealed l n) ∧ Below w.heap.size w w' := by
  have en : IntKind.u16.wrap ((n.toNat : Int) / 256) = (n.toNat : Int) / 256 := by
    have := n.toNat_lt
    simp [IntKind.wrap, IntKind.bits, IntKind.signed]
    omega
  have Htc := Lib.hid (tail2_cells n)
  obtain ⟨q, hq⟩ : ∃ q, l ++ tail2 n = q := ⟨_, rfl⟩
  have hql : q.length = l.length + 2 := by rw [← hq]; simp [tail2]
  have hlt : q.length ≤ 100000 := by omega
  have hl1 : l.length + (tail2 n).length ≤ 140737488355328 := by simp [tail2]; omega
  have Hsl := Lib.hid (stuff_length q).2
  have Hq := Lib.hid hq
  have Hql := Lib.hid hql
  clear hq hql
  go_enter Try.func20, Try.ntmps20
  go_wp2_with (first | (go_at_call 19; refine (copy_any A c l w (by omega) hr hA).mono ?_; rintro e w1 ⟨v, rfl, hO, hb1⟩) | (at_builtin; refine app_bytes _ rfl (.tmp 9) (.tmp 16) 22 rfl w w.heap.size 5 Try.underlying22 info_u8 v l rfl (hO.alloc _) (some ⟨w1.heap.size, 0, none⟩) 2 (tail2 n) rfl (fun e => by cases e) (rd_new _ _ _ _ Htc.out) hl1 (fw_al hb1 _) (by have := hb1.size; simp; omega) ?_; intro v2 w2 hO2 hB2 hg2 hat2 hsz2; have hO2 := (Hq.out ▸ hO2 : OwnB w2 w.heap.size 5 v2 q); obtain ⟨A2, c2, rfl, hA2, hc2, hm2, hR2⟩ := own_form hO2; clear hO hO2 hg2 hat2))
  refine (stuff_any A2 c2 q _ hlt (RdC.below hR2 (fw_new _ _))).mono ?_
  rintro e w3 ⟨v3, rfl, hO3, hb3⟩
  obtain ⟨A3, c3, rfl, hA3, hc3, hm3, hR3⟩ := own_form hO3
  have hO7 : OwnB w3 w.heap.size 5 (.slice (some ⟨w2.heap.size, 0, none⟩) 1 1) [0x7e] := own_below (own_fresh w2 w.heap.size #[Value.int IntKind.u8 126] 5 hB2.size (by decide)) hb3
  have hB3 : Below w.heap.size w w3 := fw_trans (fw_al hB2 _) hb3
  clear hO3 hR2 hb3
  have hl3 : ([0x7e] : List UInt8).length + (stuff q).length ≤ 140737488355328 := by have := Hsl.out; have := Hql.out; simp only [List.length_cons, List.length_nil]; omega
  have hl4 : (([0x7e] : List UInt8) ++ (stuff q)).length + 1 ≤ 140737488355328 := by have := Hsl.out; have := Hql.out; simp only [List.length_cons, List.length_nil, List.length_append] at *; omega
  go_wp2_with (first | (at_builtin; refine app_bytes _ rfl (.tmp 19) (.tmp 21) 22 rfl w w.heap.size 5 Try.underlying22 info_u8 (.slice (some ⟨w2.heap.size, 0, none⟩) 1 1) [0x7e] rfl hO7 A3 c3 (stuff q) rfl hA3 hR3 hl3 hB3 hB3.size ?_; intro v4 w4 hO4 hB4 hg4 hat4 hsz4) | (at_builtin; refine app_bytes _ rfl (.tmp 23) (.tmp 24) 22 rfl w w.heap.size 5 Try.underlying22 info_u8 v4 _ rfl (hO4.alloc _) (some ⟨w4.heap.size, 0, none⟩) 1 [0x7e] rfl (fun e => by cases e) (rd_new _ _ _ _ (by rfl)) hl4 (fw_al hB4 _) (by have := hB4.size; simp; omega) ?_; intro v5 w5 hO5 hB5 hg5 hat5 hsz5))
  go_ret
  have hO6 : OwnB w5 w.heap.size 5 v5 (sealed l n) := by
    have e : sealed l n = ([0x7e] ++ stuff q) ++ [0x7e] := by rw [← Hq.out]; rfl
    rw [e]; exact hO5
  exact ⟨_, rfl, hO6, hB5⟩
end Go.Proofs.Ytekbbkbknldnaaa
