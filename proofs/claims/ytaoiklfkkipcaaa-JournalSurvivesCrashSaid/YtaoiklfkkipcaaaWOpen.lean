import Derived.Test.YtaoiklfkkipcaaaWIdx
import Derived.WalkMore
import Derived.Deep.RegionHeld3
namespace Go.Proofs.Ytaoiklfkkipcaaa
open Go Go.RowKit Hd Go.Mem

/-- what 'open' comes to -/
def OpenPost (l : List UInt8) (w : World) (e : Ending) (w' : World) : Prop :=
  Below w.heap.size w w' ∧ match opened l with
    | .ok p => ∃ A c, e = .returned (.tuple #[.slice A p.length c, .int .i64 0]) ∧ p.length ≤ c ∧ c ≤ maxLen ∧ (A = none → c = 0) ∧ RdP (w.heap.size ≤ ·) w' A (p.map B) ∧ p.length ≤ l.length
    | .error k => e = .returned (.tuple #[.slice none 0 0, .int .i64 (k : Int)])

theorem uacc_t1 (acc : List UInt8) (x y : UInt8) (r : List UInt8) (hy : x ^^^ 0x20 = y) (h : Hd.special y = true) : uacc acc true (x :: r) = uacc (acc ++ [y]) false r := by
  rw [uacc, if_pos rfl, hy, if_pos h]
theorem uacc_t0 (acc : List UInt8) (x y : UInt8) (r : List UInt8) (hy : x ^^^ 0x20 = y) (h : Hd.special y = false) : uacc acc true (x :: r) = none := by
  rw [uacc, if_pos rfl, hy, if_neg (by simp [h])]
theorem uacc_f1 (acc : List UInt8) (x : UInt8) (r : List UInt8) (h : x = 0x7d) : uacc acc false (x :: r) = uacc acc true r := by
  rw [uacc, if_neg (by simp), if_pos h]
theorem uacc_f0 (acc : List UInt8) (x : UInt8) (r : List UInt8) (h : ¬ x = 0x7d) : uacc acc false (x :: r) = uacc (acc ++ [x]) false r := by
  rw [uacc, if_neg (by simp), if_neg h]
theorem opened_none {l : List UInt8} (h : uacc [] false l = none) : opened l = .error 20 := by unfold opened; rw [h]
theorem opened_esc {l acc : List UInt8} (h : uacc [] false l = some (acc, true)) : opened l = .error 20 := by unfold opened; rw [h]
theorem opened_acc {l acc : List UInt8} (h : uacc [] false l = some (acc, false)) : opened l = check2 acc := by unfold opened; rw [h]
theorem OpenPost.err {l : List UInt8} {w w' : World} {k : Nat} (hb : Below w.heap.size w w') (h : opened l = .error k) : OpenPost l w (.returned (.tuple #[.slice none 0 0, .int .i64 (k : Int)])) w' := by
  refine ⟨hb, ?_⟩
  rw [h]
theorem OpenPost.ok {l p : List UInt8} {w w' : World} {ad : Addr} {c : Nat} (hb : Below w.heap.size w w') (h : opened l = .ok p) (hc : p.length ≤ c) (hm : c ≤ maxLen) (ho : w.heap.size ≤ ad.block) (hr : Rd w' (some ad) p) (hl : p.length ≤ l.length) :
    OpenPost l w (.returned (.tuple #[.slice (some ad) p.length c, .int .i64 0])) w' := by
  refine ⟨hb, ?_⟩
  rw [h]
  exact ⟨_, c, rfl, hc, hm, (fun e => by cases e), RdP.cells ho hr, hl⟩
theorem fcs_or (x y : UInt8) : bits .or .u16 (IntKind.u16.wrap (x.toNat : Int)) (IntKind.u16.wrap (IntKind.u16.wrap (y.toNat : Int) * 256)) = ((x.toUInt16 ||| (y.toUInt16 <<< 8)).toNat : Int) := by
  have hx := x.toNat_lt
  have hy := y.toNat_lt
  have hw : ∀ n : Int, IntKind.u16.wrap n = n % 65536 := fun n => by simp [IntKind.wrap, IntKind.bits, IntKind.signed]
  rw [hw, hw, hw]
  have e1 : (x.toNat : Int) % (65536 : Int) = ((x.toUInt16.toNat : Nat) : Int) := by simp; omega
  have e2 : (y.toNat : Int) % (65536 : Int) * (256 : Int) % (65536 : Int) = (((y.toUInt16 <<< 8).toNat : Nat) : Int) := by simp [Nat.shiftLeft_eq]; omega
  rw [e1, e2, (bits_nat .u16 16 (by decide) (fun n h1 h2 => by rw [hw]; omega) _ _ x.toUInt16.toNat_lt (y.toUInt16 <<< 8).toNat_lt).2]
  simp
theorem split2 (acc : List UInt8) (h : ¬ acc.length < 2) : ∃ p x y, acc = p ++ [x, y] := by
  obtain ⟨d, y, rfl⟩ : ∃ d y, acc = d ++ [y] := ⟨acc.dropLast, acc.getLast (by intro e; simp [e] at h), (List.dropLast_concat_getLast _).symm⟩
  obtain ⟨p, x, rfl⟩ : ∃ p x, d = p ++ [x] := ⟨d.dropLast, d.getLast (by intro e; simp [e] at h), (List.dropLast_concat_getLast _).symm⟩
  exact ⟨p, x, y, by simp⟩
theorem check2_pxy (p : List UInt8) (x y : UInt8) : check2 (p ++ [x, y]) = if 4096 < p.length then .error 20 else if fcs p = (x.toUInt16 ||| (y.toUInt16 <<< 8)) then .ok p else .error 21 := by
  unfold check2
  have hl : (p ++ [x, y]).length = p.length + 2 := by simp
  rw [hl, show p.length + 2 - 2 = p.length from by omega, show p.length + 2 - 1 = p.length + 1 from by omega]
  have t : (p ++ [x, y]).take p.length = p := by simp
  have g0 : (p ++ [x, y]).getD p.length 0 = x := by simp
  have g1 : (p ++ [x, y]).getD (p.length + 1) 0 = y := by simp
  rw [t, g0, g1]
  by_cases h : 4096 < p.length
  · rw [if_pos (by omega), if_pos h]
  · rw [if_neg (by omega), if_neg h]
/-- what stands while the drawn region runs -/
structure Held (w wr : World) (b : Nat) (A : Option Addr) (p : List UInt8) (w' : World) : Prop where
  below : Below w.heap.size w w'
  blk : w'.heap[b]? = wr.heap[b]?
  rd : Rd w' A p
  lt : b < w'.heap.size
theorem Held.step {w wr w1 w2 : World} {b : Nat} {A : Option Addr} {p : List UInt8} (h : Held w wr b A p w1) (hb : Below w1.heap.size w1 w2) : Held w wr b A p w2 :=
  ⟨h.below.trans (hb.mono h.below.size), (hb.block b h.lt).trans h.blk, h.rd.below hb, Nat.lt_of_lt_of_le h.lt hb.size⟩
theorem Held.drew {w wr w1 : World} {b : Nat} {A : Option Addr} {p : List UInt8} (h : Held w wr b A p w1) : Held w wr b A p w1.drew :=
  h.step ⟨rfl, rfl, rfl, Nat.le_refl _, fun _ _ => rfl⟩
theorem cell_step {w1 w2 : World} {a : Addr} {v : Value} (hb : Below w1.heap.size w1 w2) (h : w1.cell? a = some v) : w2.cell? a = some v :=
  (hb.cell (World.block_lt_of_cell? w1 a h)).trans h
theorem x7d_yes (x : UInt8) (h : x = 0x7d) : ((x.toNat : Int) == 125) = true := by subst h; rfl
theorem x7d_no (x : UInt8) (h : ¬ x = 0x7d) : ((x.toNat : Int) == 125) = false := by
  rw [beq_eq_false_iff_ne]
  intro e
  exact h (UInt8.toNat_inj.1 (by simpa using Int.ofNat.inj e))
set_option maxRecDepth 100000 in
set_option maxHeartbeats 800000 in
theorem open_any (A : Option Addr) (c : Nat) (l : List UInt8) (w : World) (hl : l.length ≤ 140737488351232) (hr : Rd w A l) :
    Calls Try.prog 36 #[.slice A l.length c] w (OpenPost l w) := by
  obtain ⟨i0, hi, hz0, hz1, hz2⟩ := info_parts info_u8
  go_enter Try.func36, Try.ntmps36
  go_wp2_with fail
  go_step3
  go_wp2_with (at_make; (refine wpList_make_own _ rfl _ _ 25 rfl w.heap.size 5 i0 (.int .u8 0) 1 Try.underlying25 hi hz0 hz1 .i64 .i64 _ l.length rfl rfl rfl (by rw [hz2]; omega) (by unfold maxLen; omega) (Nat.le_refl _) ?_); intro w1 hO hg)
  go_step3
  have hB : Below w.heap.size w w1 := (Below.refl _ _).grown hg (Nat.le_refl _) (fun k e => by cases e)
  go_wp2_with fail
  have HO : OwnB w1 w.heap.size 5 (.slice (some ⟨w.heap.size, 0, none⟩) 0 l.length) [] := hO
  have Hr := Lib.hid hr
  clear hO hg hr
  have Hst : Hid (uacc [] false (l.drop 0) = uacc [] false l) := Lib.hid (by simp)
  go_loopw [4, 5, 14] (fun v s j wr => ∃ (k : Nat) (acc : List UInt8) (esc : Bool), k ≤ l.length ∧ j = .int .i64 k ∧ s = .bool esc ∧ OwnB wr w.heap.size 5 v acc ∧ Below w.heap.size w wr ∧ acc.length ≤ k ∧ Hid (uacc acc esc (l.drop k) = uacc [] false l)) (fun _ _ j _ => l.length - (intOf j).toNat)
  case atStart => exact ⟨0, [], false, by omega, rfl, rfl, HO, hB, Nat.le_refl _, Hst⟩
  case round =>
    obtain ⟨k, acc, esc, hk, rfl, rfl, hO2, hB2, hal, Hst2⟩ := hrel
    clear HO hB Hst
    by_cases hlt : k < l.length
    · obtain ⟨b, off, rfl, hc⟩ := (Hr.out.below hB2).at k hlt
      have Hst3 := Lib.hid (List.drop_eq_getElem_cons hlt ▸ Hst2.out)
      clear Hst2
      generalize l[k] = x at *
      cases esc with
      | true =>
        have e1 := flip_bits x
        obtain ⟨y, hy⟩ : ∃ y, x ^^^ 0x20 = y := ⟨_, rfl⟩
        rw [hy] at e1
        have Hy := Lib.hid hy
        clear hy
        have hbd : acc.length + 1 ≤ 140737488355328 := by omega
        by_cases hs : Hd.special y = true
        · go_wp2_with (first | (go_at_call 57; refine (special_any _ _).mono ?_; rintro e w' ⟨rfl, rfl⟩) | (at_builtin; refine app_bytes _ rfl _ _ 25 rfl w w.heap.size 5 Try.underlying25 info_u8 u4 _ rfl (hO2.alloc _) (some ⟨wr.heap.size, 0, none⟩) 1 [y] rfl (fun e => by cases e) (rd_new _ _ _ _ rfl) hbd (hB2.alloc hB2.size _) (by have := hB2.size; simp; omega) ?_; intro v' w' hO3 hB3 hg3 hat3 hsz3))
          go_roundw
          case rel => exact ⟨k + 1, _, false, by omega, by go_num, rfl, hO3, hB3, by simp; omega, Lib.hid (by rw [← Hst3.out, uacc_t1 _ _ _ _ Hy.out hs])⟩
          case measure => simp [intOf]; omega
        · have hs : Hd.special y = false := by simpa using hs
          go_wp2_with (first | (go_at_call 57; refine (special_any _ _).mono ?_; rintro e w' ⟨rfl, rfl⟩))
          rw [Exit.noGoto_ret]
          go_ret2
          exact OpenPost.err hB2 (opened_none (by rw [← Hst3.out, uacc_t0 _ _ _ _ Hy.out hs]))
      | false =>
        have hbd : acc.length + 1 ≤ 140737488355328 := by omega
        by_cases hx : x = 0x7d
        · have h7 := x7d_yes x hx
          have Hx := Lib.hid hx
          clear hx
          go_wp2_with fail
          go_roundw
          case rel => exact ⟨k + 1, _, true, by omega, by go_num, rfl, hO2, hB2, by omega, Lib.hid (by rw [← Hst3.out, uacc_f1 _ _ _ Hx.out])⟩
          case measure => simp [intOf]; omega
        · have h7 := x7d_no x hx
          have Hx := Lib.hid hx
          clear hx
          go_wp2_with (first | (at_builtin; refine app_bytes _ rfl _ _ 25 rfl w w.heap.size 5 Try.underlying25 info_u8 u4 _ rfl (hO2.alloc _) (some ⟨wr.heap.size, 0, none⟩) 1 [x] rfl (fun e => by cases e) (rd_new _ _ _ _ rfl) hbd (hB2.alloc hB2.size _) (by have := hB2.size; simp; omega) ?_; intro v' w' hO3 hB3 hg3 hat3 hsz3))
          go_roundw
          case rel => exact ⟨k + 1, _, false, by omega, by go_num, rfl, hO3, hB3, by simp; omega, Lib.hid (by rw [← Hst3.out, uacc_f0 _ _ _ Hx.out])⟩
          case measure => simp [intOf]; omega
    · have : k = l.length := by omega
      subst this
      have hfin := Hst2.out
      rw [List.drop_length, uacc] at hfin
      have Hfin := Lib.hid hfin.symm
      clear hfin Hst2
      obtain ⟨A', c', rfl, hA', hc1, hc2, hR⟩ := own_form hO2
      cases esc with
      | true =>
        go_wp2_with fail
        rw [Exit.noGoto_ret]
        go_ret2
        exact OpenPost.err hB2 (opened_esc Hfin.out)
      | false =>
        by_cases h2 : acc.length < 2
        · have hd1 : decide ((acc.length : Int) - 2 < 0) = true := by simp; omega
          go_wp2_with fail
          rw [Exit.noGoto_ret]
          go_ret2
          exact OpenPost.err hB2 (by rw [opened_acc Hfin.out]; unfold check2; rw [if_pos (.inl h2)])
        · have hd1 : decide ((acc.length : Int) - 2 < 0) = false := by simp; omega
          by_cases h3 : 4098 < acc.length
          · have hd2 : decide ((4096 : Int) < (acc.length : Int) - 2) = true := by simp; omega
            go_wp2_with fail
            rw [Exit.noGoto_ret]
            go_ret2
            exact OpenPost.err hB2 (by rw [opened_acc Hfin.out]; unfold check2; rw [if_pos (.inr h3)])
          · obtain ⟨p, x, y, hacc⟩ := split2 acc h2
            have hN : acc.length = p.length + 2 := by rw [hacc]; simp
            obtain ⟨b', off', rfl, hcx0⟩ := RdC.at hR p.length (by simp; omega)
            obtain ⟨b2, off2, e2, hcy0⟩ := RdC.at hR (p.length + 1) (by simp; omega)
            simp only [Option.some.injEq, Addr.mk.injEq, and_true] at e2
            obtain ⟨rfl, rfl⟩ := e2
            have hcx : wr.cell? ⟨b', off' + p.length, none⟩ = some (B x) := by rw [hcx0]; simp [hacc]
            have hcy : wr.cell? ⟨b', off' + (p.length + 1), none⟩ = some (B y) := by rw [hcy0]; simp [hacc]
            clear hcx0 hcy0
            have hRp : Rd wr (some ⟨b', off', none⟩) p := by have := Rd.take (l := acc) hR p.length; rw [hacc] at this; simpa using this
            rw [hN] at hc1 h2 h3 hd1 hal ⊢
            have hpl : p.length ≤ 4096 := by omega
            have hge := hB2.size
            have hbb : w.heap.size ≤ b' := own_base hO2 b' rfl
            clear hO2 hd1 hR hA'
            have Hacc := Lib.hid hacc
            clear hacc hN
            have hd1 : decide (((p.length + 2 : Nat) : Int) - 2 < 0) = false := by simp
            have hd2 : decide ((4096 : Int) < ((p.length + 2 : Nat) : Int) - 2) = false := by simp; omega
            go_wp2_with fail
            have hH : Held w wr b' (some ⟨b', off', none⟩) p wr := ⟨hB2, rfl, hRp, World.block_lt_of_cell? _ _ hcx⟩
            clear hRp
            have g0 : (0 : Int) ≤ (p.length : Int) := by omega
            have g1 : (p.length : Int) ≤ (c' : Int) := by omega
            have g2 : (p.length : Int) < ((p.length + 2 : Nat) : Int) := by omega
            have g2' : (p.length : Int) < (p.length : Int) + 2 := by omega
            have g8 : (p.length : Int).toNat = p.length := by omega
            have g3 : IntKind.i64.wrap ((p.length : Int) + 1) = (p.length : Int) + 1 := by rw [IntKind.wrap_i64]; omega
            have g4 : (0 : Int) ≤ (p.length : Int) + 1 := by omega
            have g5 : (p.length : Int) + 1 < ((p.length + 2 : Nat) : Int) := by omega
            have g6 : ((p.length : Int) + 1).toNat = p.length + 1 := by omega
            have g7 : p.length ≤ 140737488351232 := by omega
            go_region_held3 (fun w' => Held w wr b' (some ⟨b', off', none⟩) p w' ∧ w'.cell? ⟨b', off' + p.length, none⟩ = some (B x) ∧ w'.cell? ⟨b', off' + (p.length + 1), none⟩ = some (B y)) (first | exact ⟨hH.drew, hcx, hcy⟩ | exact ⟨Held.step hS.1 hb, cell_step hb hS.2.1, cell_step hb hS.2.2⟩)
              (first | (go_at_call 58; have hS := ‹Held w wr b' (some ⟨b', off', none⟩) p _ ∧ _ ∧ _›; refine (fcs_any _ _ p _ g7 hS.1.rd).mono ?_; rintro e w' ⟨rfl, hb⟩))
            have hw' := (‹Held w wr b' (some ⟨b', off', none⟩) p w' ∧ _ ∧ _›).1
            have e67 := fcs_or x y
            have hop := opened_acc Hfin.out
            rw [Hacc.out, check2_pxy, if_neg (by omega)] at hop
            have Hop := Lib.hid hop
            clear hop
            generalize x.toUInt16 ||| (y.toUInt16 <<< 8) = Z at *
            by_cases hz : fcs p = Z
            · have hz1 : (((fcs p).toNat : Int) != (Z.toNat : Int)) = false := by rw [hz]; simp
              have Hz := Lib.hid hz
              clear hz
              go_wp2_with fail
              rw [Exit.noGoto_ret]
              go_ret2
              exact OpenPost.ok hw'.below (by rw [Hop.out, if_pos Hz.out]) (Nat.le_refl _) (by unfold maxLen; omega) hbb hw'.rd (by omega)
            · have hz1 : (((fcs p).toNat : Int) != (Z.toNat : Int)) = true := by
                rw [bne_iff_ne]
                intro e
                exact hz (UInt16.toNat_inj.1 (Int.ofNat.inj e))
              have Hz := Lib.hid hz
              clear hz
              go_wp2_with fail
              rw [Exit.noGoto_ret]
              go_ret2
              exact OpenPost.err hw'.below (by rw [Hop.out, if_neg Hz.out])
end Go.Proofs.Ytaoiklfkkipcaaa
