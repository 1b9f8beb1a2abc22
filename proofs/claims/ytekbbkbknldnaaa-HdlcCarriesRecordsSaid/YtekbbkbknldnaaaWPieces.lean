import Derived.Test.YtekbbkbknldnaaaWAll
namespace Go.Proofs.Ytekbbkbknldnaaa
open Go Go.RowKit Hd Go.Mem

theorem scanGo_len (l : List UInt8) : ∀ st pos, (scanGo st pos l).1.length ≤ l.length := by
  induction l with
  | nil => intro st pos; simp [scanGo]
  | cons x l ih =>
    intro st pos
    by_cases hx : x = 0x7e
    · subst hx
      have h := ih (some ([], pos)) (pos + 1)
      cases st with
      | none => rw [scanGo_cons_flag_none]; simp; omega
      | some s =>
        obtain ⟨c, a⟩ := s
        rw [scanGo_cons_flag_some]
        have : (outs c).length ≤ 1 := by unfold outs; split <;> simp
        simp only [List.length_append, List.length_cons]
        omega
    · rw [scanGo_cons_other _ _ _ hx]
      exact Nat.le_trans (ih _ _) (by simp)
theorem scan_len (l : List UInt8) : (scan l).1.length ≤ l.length := scanGo_len l none 0
theorem scan_used (l : List UInt8) : (scan l).2 ≤ l.length := by
  have := scan_state l
  cases h : scanSt none 0 l with
  | none => rw [h] at this; rw [this.2]; simp
  | some s =>
    obtain ⟨c, a⟩ := s
    rw [h] at this
    have h1 := this.2.2.1
    have h2 := this.2.2.2
    omega
set_option maxRecDepth 100000 in
set_option maxHeartbeats 1000000 in
theorem pieces_out (A : Option Addr) (c : Nat) (l : List UInt8) (cut : Int) (w : World) (hb : InB w A c l) (h : 1500 < l.length ∨ cut < 0 ∨ (l.length : Int) < cut) :
    Calls Try.prog 8 #[.slice A l.length c, .int .i64 cut] w fun e w' => e = .returned (.bool true) ∧ Below w.heap.size w w' := by
  have hmx : l.length ≤ 9223372036854775807 := Nat.le_trans hb.le hb.cap
  clear hb
  by_cases h1 : 1500 < l.length
  · have hd : decide ((1500 : Int) < (l.length : Int)) = true := by simp; omega
    clear h
    go_enter Try.func8, Try.ntmps8
    go_wp2_with (go_at_call 11; refine (sane_any _).mono ?_; rintro e w1 ⟨rfl, hb1⟩)
    go_ret
    exact ⟨rfl, hb1⟩
  · have hd : decide ((1500 : Int) < (l.length : Int)) = false := by simp; omega
    by_cases h2 : cut < 0
    · have hd2 : decide (cut < 0) = true := by simpa using h2
      clear h
      go_enter Try.func8, Try.ntmps8
      go_wp2_with (go_at_call 11; refine (sane_any _).mono ?_; rintro e w1 ⟨rfl, hb1⟩)
      go_ret
      exact ⟨rfl, hb1⟩
    · have hd2 : decide (cut < 0) = false := by simpa using h2
      have hd3 : decide ((l.length : Int) < cut) = true := by simp; omega
      clear h
      go_enter Try.func8, Try.ntmps8
      go_wp2_with (go_at_call 11; refine (sane_any _).mono ?_; rintro e w1 ⟨rfl, hb1⟩)
      go_ret
      exact ⟨rfl, hb1⟩
set_option maxRecDepth 100000 in
set_option maxHeartbeats 1000000 in
theorem pieces_in (A : Option Addr) (c : Nat) (l : List UInt8) (k : Nat) (w : World) (hb : InB w A c l) (h1 : l.length ≤ 1500) (hk : k ≤ l.length) :
    Calls Try.prog 8 #[.slice A l.length c, .int .i64 (k : Int)] w fun e w' => e = .returned (.bool true) ∧ Below w.heap.size w w' := by
  have hd : decide ((1500 : Int) < (l.length : Int)) = false := by simp; omega
  have hd2 : decide ((k : Int) < 0) = false := by simp
  have hd3 : decide ((l.length : Int) < (k : Int)) = false := by simp; omega
  have hcle := hb.le
  have hus := scan_used l
  obtain ⟨hp1, hp2⟩ := pieces_law l k hk
  have hl1 : (scan l).1.length ≤ 1500 := Nat.le_trans (scan_len l) h1
  have hl2 : (scan (l.take k)).1.length ≤ 1500 := Nat.le_trans (scan_len (l.take k)) (by simp; omega)
  have hl3 : (scan (l.drop (scan (l.take k)).2)).1.length ≤ 1500 := Nat.le_trans (scan_len (l.drop (scan (l.take k)).2)) (by simp; omega)
  have htl : (l.take k).length = k := by simp; omega
  have hdl : (l.drop (scan (l.take k)).2).length = l.length - (scan (l.take k)).2 := by simp
  have hc2 : Hid (∀ W, InB W A c l → Calls Try.prog 12 #[.slice A k c] W fun e w' => ∃ v, e = .returned (.tuple #[v, .int .i64 ((scan (l.take k)).2 : Int)]) ∧ RowB w' W.heap.size 22 v (scan (l.take k)).1 ∧ Below W.heap.size W w') :=
    Lib.hid fun W hW => by
      have := scan_any A c (l.take k) W (by omega) (by omega) (hW.rd.take k) (fun e => by rw [hW.empty e]; simp)
      rwa [htl] at this
  have hc3 : Hid (∀ W, InB W A c l → Calls Try.prog 12 #[.slice (adv A c (scan (l.take k)).2) (l.length - (scan (l.take k)).2) (c - (scan (l.take k)).2)] W fun e w' => ∃ v, e = .returned (.tuple #[v, .int .i64 ((scan (l.drop (scan (l.take k)).2)).2 : Int)]) ∧ RowB w' W.heap.size 22 v (scan (l.drop (scan (l.take k)).2)).1 ∧ Below W.heap.size W w') :=
    Lib.hid fun W hW => by
      have := scan_any (adv A c (scan (l.take k)).2) (c - (scan (l.take k)).2) (l.drop (scan (l.take k)).2) W (by omega) (by omega) (hW.rd.drop _ c hW.le) (fun e => by
        have : A = none := by
          unfold adv at e
          split at e
          · exact e
          · simpa using e
        rw [hW.empty this]; simp)
      rwa [hdl] at this
  have Hb := Lib.hid hb
  have Hscan := Lib.hid (fun W (hW : InB W A c l) => scan_any A c l W (by omega) hW.le hW.rd hW.empty)
  have sh := slc_h 22 5 Try.underlying22 u8_sz A l.length c (k : Int) k rfl (by omega)
  have hu0 : (scan (l.take k)).2 ≤ l.length := by omega
  clear htl hdl hb
  have hpa := congrArg Prod.fst hp2
  have hpb := congrArg Prod.snd hp2
  simp only at hpa hpb
  clear hp2
  generalize (scan (l.drop (scan (l.take k)).2)) = S3 at *
  generalize (scan (l.take k)) = S2 at *
  generalize (scan l) = S1 at *
  obtain ⟨q1, u1⟩ := S1
  obtain ⟨q2, u2⟩ := S2
  obtain ⟨q3, u3⟩ := S3
  simp only at *
  have sl := slc_l 22 5 Try.underlying22 u8_sz A l.length c (u2 : Int) u2 rfl hu0
  have hd4 : decide ((u2 : Int) < 0) = false := by simp
  have hd5 : decide ((k : Int) < (u2 : Int)) = false := by simp; omega
  have hd6 : ((u2 : Int) + (u3 : Int) == (u1 : Int)) = true := by rw [beq_iff_eq]; omega
  have hu13 : (u2 : Int) + (u3 : Int) ≤ 1500 := by omega
  have Hpa := Lib.hid hpa
  clear hpa hpb hus
  go_enter Try.func8, Try.ntmps8
  go_wp2_with fail
  refine (sane_any _).mono ?_
  rintro e w1 ⟨rfl, hb1⟩
  have Hb1 := Lib.hid (Hb.out.below hb1)
  go_wp2_with fail
  refine (Hscan.out w1 Hb1.out).mono ?_
  rintro e w2 ⟨v1, rfl, hR1, hb2⟩
  obtain ⟨A1, c1, rfl, hA1, hc1, hm1, hL1⟩ := RowB.form hR1
  have HL1 := Lib.hid hL1
  have Hb2 := Lib.hid (Hb1.out.below hb2)
  clear hR1 hL1
  go_wp2_with fail
  refine (hc2.out w2 Hb2.out).mono ?_
  rintro e w3 ⟨v2, rfl, hR2, hb3⟩
  have HR2 := Lib.hid hR2
  have Hb3 := Lib.hid (Hb2.out.below hb3)
  clear hR2
  go_wp2_with fail
  refine (hc3.out w3 Hb3.out).mono ?_
  rintro e w4 ⟨v3, rfl, hR3, hb4⟩
  obtain ⟨vs2, ho2, hE2⟩ := HR2.out.below hb4
  obtain ⟨vs3, ho3, hE3⟩ := hR3
  obtain ⟨A3, c3, rfl, hA3, hc3', hm3, hC3⟩ := own_form ho3
  have hlt2 := (ownBlock_lt (Classical.choose_spec HR2.out).1)
  have hE3' : Els (fun b => w2.heap.size ≤ b ∧ v2.ownBlock ≠ some b) w4 vs3 q3 := hE3.move (fun _ _ _ => rfl) (fun b hb _ => ⟨by have := hb3.size; omega, fun e => by have := hlt2 b e; omega⟩)
  have hB4 : Below w2.heap.size w2 w4 := fw_trans hb3 hb4
  have hq24 : (q2.length + q3.length) * 24 ≤ 140737488355328 := by omega
  have hlen3 : vs3.length = q3.length * 1 := by rw [hE3'.length]; omega
  have Ho2 := Lib.hid ho2
  have HE2 := Lib.hid hE2
  have HE3 := Lib.hid hE3'
  have HC3 := Lib.hid hC3
  clear ho2 hE2 hE3 hE3' hC3 ho3 hlt2
  go_wp2_with (at_builtin; refine app_own _ rfl (.tmp 52) (.tmp 53) 24 rfl w2.heap.size 22 (.slice none 0 0) 1 24 Try.underlying24 info_sl rfl (by decide) (by decide) v2 q2.length vs2 rfl Ho2.out A3 q3.length c3 vs3 rfl hlen3 hA3 HC3.out HE3.out.one hq24 hB4.size ?_; intro v5 w5 ho5 hg5 hat5)
  have hR5 : RowB w5 w2.heap.size 22 v5 (q2 ++ q3) := RowB.pushed HE2.out HE3.out (by simp) ho5 hg5 hat5
  have hB5 : Below w2.heap.size w2 w5 := hB4.grown hg5 hB4.size (own_base Ho2.out)
  clear ho5 hg5 hat5
  rw [Hpa.out] at hR5
  obtain ⟨A5, c5, rfl, hA5, hc5, hm5, hL5⟩ := RowB.form hR5
  refine (sameall_any A5 A1 c5 c1 q1 q1 w5 (by omega) (by omega) hL5 (HL1.out.below hB5) rfl).mono ?_
  rintro e w6 ⟨rfl, hb6⟩
  go_wp2_with fail
  go_ret
  exact ⟨rfl, fw_trans (fw_trans (fw_trans hb1 hb2) hB5) hb6⟩
theorem pieces_walk (A : Option Addr) (c : Nat) (l : List UInt8) (cut : Int) (w : World) (hb : InB w A c l) :
    Calls Try.prog 8 #[.slice A l.length c, .int .i64 cut] w fun e w' => e = .returned (.bool true) ∧ Below w.heap.size w w' := by
  by_cases h : 1500 < l.length ∨ cut < 0 ∨ (l.length : Int) < cut
  · exact pieces_out A c l cut w hb h
  · obtain ⟨k, rfl⟩ : ∃ k : Nat, cut = (k : Int) := ⟨cut.toNat, by omega⟩
    exact pieces_in A c l k w hb (by omega) (by omega)
end Go.Proofs.Ytekbbkbknldnaaa
