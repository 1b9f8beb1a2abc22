import Derived.Test.YtekbbkbknldnaaaRFcs
namespace Go.Proofs.Ytekbbkbknldnaaa
open Go Go.RowKit Hd Go.Mem

/-! the reference's own Decode -/
/-- what 'unstuff' comes to -/
def UnPost (l : List UInt8) (w : World) (e : Ending) (w' : World) : Prop :=
  Below w.heap.size w w' ∧ match uacc [] false l with
    | some (acc, esc) => ∃ A c, e = .returned (.tuple #[.slice A acc.length c, .bool (!esc)]) ∧ (A = none → c = 0) ∧ acc.length ≤ c ∧ c ≤ maxLen ∧ Rd w' A acc ∧ acc.length ≤ l.length
    | none => e = .returned (.tuple #[.slice none 0 0, .bool false])
theorem UnPost.bad {l : List UInt8} {w w' : World} (hb : Below w.heap.size w w') (h : uacc [] false l = none) : UnPost l w (.returned (.tuple #[.slice none 0 0, .bool false])) w' := by
  refine ⟨hb, ?_⟩
  rw [h]
theorem UnPost.good {l acc : List UInt8} {esc : Bool} {w w' : World} {A : Option Addr} {c : Nat} (hb : Below w.heap.size w w') (h : uacc [] false l = some (acc, esc)) (hA : A = none → c = 0) (hc : acc.length ≤ c) (hm : c ≤ maxLen) (hr : Rd w' A acc) (hl : acc.length ≤ l.length) :
    UnPost l w (.returned (.tuple #[.slice A acc.length c, .bool (!esc)])) w' := by
  refine ⟨hb, ?_⟩
  rw [h]
  exact ⟨A, c, rfl, hA, hc, hm, hr, hl⟩
theorem n94_yes (x : UInt8) (h : x = 0x5e) : ((x.toNat : Int) != 94) = false := by subst h; rfl
theorem n94_no (x : UInt8) (h : ¬ x = 0x5e) : ((x.toNat : Int) != 94) = true := by
  rw [bne_iff_ne]
  intro e
  exact h (UInt8.toNat_inj.1 (by simpa using Int.ofNat.inj e))
theorem n93_yes (x : UInt8) (h : x = 0x5d) : ((x.toNat : Int) != 93) = false := by subst h; rfl
theorem n93_no (x : UInt8) (h : ¬ x = 0x5d) : ((x.toNat : Int) != 93) = true := by
  rw [bne_iff_ne]
  intro e
  exact h (UInt8.toNat_inj.1 (by simpa using Int.ofNat.inj e))
theorem flip_special (x : UInt8) (h : x = 0x5e ∨ x = 0x5d) : Hd.special (x ^^^ 0x20) = true := by
  rcases h with rfl | rfl <;> decide
theorem flip_plain (x : UInt8) (h1 : ¬ x = 0x5e) (h2 : ¬ x = 0x5d) : Hd.special (x ^^^ 0x20) = false := by
  rw [Bool.eq_false_iff]
  intro h
  have hx : x = (x ^^^ 0x20) ^^^ 0x20 := by simp [UInt8.xor_assoc]
  simp only [Hd.special, Bool.or_eq_true, beq_iff_eq] at h
  rcases h with h | h <;> rw [h] at hx
  · exact h1 hx
  · exact h2 hx
set_option maxRecDepth 100000 in
set_option maxHeartbeats 800000 in
theorem runstuff_any (A : Option Addr) (c : Nat) (l : List UInt8) (w : World) (hl : l.length ≤ 140737488351232) (hr : Rd w A l) :
    Calls Try.prog 40 #[.slice A l.length c] w (UnPost l w) := by
  have Hr := Lib.hid hr
  clear hr
  go_enter Try.func40, Try.ntmps40
  go_wp2_with fail
  have Hst : Hid (uacc [] false (l.drop 0) = uacc [] false l) := Lib.hid (by simp)
  go_loopw [4, 5, 10] (fun v s j wr => ∃ (k : Nat) (acc : List UInt8) (esc : Bool), k ≤ l.length ∧ j = .int .i64 k ∧ s = .bool esc ∧ OwnB wr w.heap.size 5 v acc ∧ Below w.heap.size w wr ∧ acc.length ≤ k ∧ Hid (uacc acc esc (l.drop k) = uacc [] false l)) (fun _ _ j _ => l.length - (intOf j).toNat)
  case atStart => exact ⟨0, [], false, by omega, rfl, rfl, World.ownsRow_nil _ _ _ _, Below.refl _ _, Nat.le_refl _, Hst⟩
  case round =>
    obtain ⟨k, acc, esc, hk, rfl, rfl, hO2, hB2, hal, Hst2⟩ := hrel
    clear Hst
    by_cases hlt : k < l.length
    · obtain ⟨b, off, rfl, hc⟩ := (Hr.out.below hB2).at k hlt
      have Hst3 := Lib.hid (List.drop_eq_getElem_cons hlt ▸ Hst2.out)
      clear Hst2
      generalize l[k] = x at *
      have hbd : acc.length + 1 ≤ 140737488355328 := by omega
      cases esc with
      | true =>
        have e1 := flip_bits x
        obtain ⟨y, hy⟩ : ∃ y, x ^^^ 0x20 = y := ⟨_, rfl⟩
        rw [hy] at e1
        have Hy := Lib.hid hy
        by_cases h1 : x = 0x5e
        · have Hs := Lib.hid (hy ▸ flip_special x (.inl h1))
          have hx1 := n94_yes x h1
          clear hy h1
          go_wp2_with (first | (at_builtin; refine app_bytes _ rfl (.tmp 24) (.tmp 27) 22 rfl w w.heap.size 5 Try.underlying22 info_u8 u4 _ rfl (hO2.alloc _) (some ⟨wr.heap.size, 0, none⟩) 1 [y] rfl (fun e => by cases e) (rd_new _ _ _ _ rfl) hbd (hB2.alloc hB2.size _) (by have := hB2.size; simp; omega) ?_; intro v' w' hO3 hB3 hg3 hat3 hsz3))
          go_roundw
          case rel => exact ⟨k + 1, _, false, by omega, by go_num, rfl, hO3, hB3, by simp; omega, Lib.hid (by rw [← Hst3.out, uacc_t1 _ _ _ _ Hy.out Hs.out])⟩
          case measure => simp [intOf]; omega
        · by_cases h2 : x = 0x5d
          · have Hs := Lib.hid (hy ▸ flip_special x (.inr h2))
            have hx1 := n94_no x h1
            have hx2 := n93_yes x h2
            clear hy h1 h2
            go_wp2_with (first | (at_builtin; refine app_bytes _ rfl (.tmp 24) (.tmp 27) 22 rfl w w.heap.size 5 Try.underlying22 info_u8 u4 _ rfl (hO2.alloc _) (some ⟨wr.heap.size, 0, none⟩) 1 [y] rfl (fun e => by cases e) (rd_new _ _ _ _ rfl) hbd (hB2.alloc hB2.size _) (by have := hB2.size; simp; omega) ?_; intro v' w' hO3 hB3 hg3 hat3 hsz3))
            go_roundw
            case rel => exact ⟨k + 1, _, false, by omega, by go_num, rfl, hO3, hB3, by simp; omega, Lib.hid (by rw [← Hst3.out, uacc_t1 _ _ _ _ Hy.out Hs.out])⟩
            case measure => simp [intOf]; omega
          · have Hs := Lib.hid (hy ▸ flip_plain x h1 h2)
            have hx1 := n94_no x h1
            have hx2 := n93_no x h2
            clear hy h1 h2
            go_wp2_with fail
            go_ret2
            exact UnPost.bad hB2 (by rw [← Hst3.out, uacc_t0 _ _ _ _ Hy.out Hs.out])
      | false =>
        by_cases hx : x = 0x7d
        · have h7 := x7d_yes x hx
          have Hx := Lib.hid hx
          clear hx
          go_wp2_with fail
          go_roundw
          case rel => exact ⟨k + 1, _, true, by omega, by go_num, rfl, hO2, hB2, by omega, Lib.hid (by rw [← Hst3.out, uacc_f1 _ _ _ Hx.out])⟩
          case measure => simp [intOf]; omega
        · have h7 := x7d_no x hx
          have Hx := Lib.hid hx
          clear hx
          go_wp2_with (first | (at_builtin; refine app_bytes _ rfl (.tmp 31) (.tmp 33) 22 rfl w w.heap.size 5 Try.underlying22 info_u8 u4 _ rfl (hO2.alloc _) (some ⟨wr.heap.size, 0, none⟩) 1 [x] rfl (fun e => by cases e) (rd_new _ _ _ _ rfl) hbd (hB2.alloc hB2.size _) (by have := hB2.size; simp; omega) ?_; intro v' w' hO3 hB3 hg3 hat3 hsz3))
          go_roundw
          case rel => exact ⟨k + 1, _, false, by omega, by go_num, rfl, hO3, hB3, by simp; omega, Lib.hid (by rw [← Hst3.out, uacc_f0 _ _ _ Hx.out])⟩
          case measure => simp [intOf]; omega
    · have : k = l.length := by omega
      subst this
      have hfin := Hst2.out
      rw [List.drop_length, uacc] at hfin
      have Hfin := Lib.hid hfin.symm
      clear hfin Hst2
      obtain ⟨A', c', rfl, hA', hc1, hc2, hR⟩ := own_form hO2
      clear hO2
      have HA' := Lib.hid hA'
      clear hA'
      go_wp2_with fail
      go_ret2
      exact UnPost.good hB2 Hfin.out HA'.out hc1 hc2 hR hal
end Go.Proofs.Ytekbbkbknldnaaa
