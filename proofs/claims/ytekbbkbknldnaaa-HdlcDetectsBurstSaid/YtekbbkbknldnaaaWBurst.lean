import Derived.Test.YtekbbkbknldnaaaWSeal
namespace Go.Proofs.Ytekbbkbknldnaaa
open Go Go.RowKit Hd Go.Mem

theorem own_head {w : World} {base : Nat} {e : TypeId} {v : Value} {l : List UInt8} (h : OwnB w base e v l) (hl : 0 < l.length) :
    ∃ g cap, v = .slice (some ⟨g, 0, none⟩) l.length cap ∧ base ≤ g ∧ g < w.heap.size ∧ (∀ i (hi : i < l.length), w.cell? ⟨g, i, none⟩ = some (B l[i])) ∧ (∀ i, w.frozen? ⟨g, i, none⟩ = false) := by
  rcases h.2 with ⟨_, h2⟩ | ⟨g, cap, cur, rfl, h2, h3, h4, h5, h6, h7⟩
  · omega
  · refine ⟨g, cap, rfl, h2, blk_lt h3, fun i hi => ?_, fun i => frozen_of_row _ _ _ _ _ h3⟩
    rw [cell_of_row _ _ _ _ _ _ h3]
    have : cur[i]? = cur.toList[i]? := by simp
    rw [this]
    have h8 : (cur.toList.take (l.length * 1))[i]? = some (B l[i]) := by rw [h7]; simp [hi]
    rw [List.getElem?_take] at h8
    split at h8
    · exact h8
    · cases h8
theorem own_set {w : World} {base : Nat} {e : TypeId} {g cap : Nat} {l : List UInt8} (h : OwnB w base e (.slice (some ⟨g, 0, none⟩) l.length cap) l) (i : Nat) (y : UInt8) :
    OwnB (w.setCell ⟨g, i, none⟩ (B y)) base e (.slice (some ⟨g, 0, none⟩) (l.set i y).length cap) (l.set i y) := by
  refine ⟨by simp, ?_⟩
  rcases h.2 with ⟨h1, _⟩ | ⟨g', cap', cur, h1, h2, h3, h4, h5, h6, h7⟩
  · cases h1
  · cases h1
    refine .inr ⟨g, cap, cur.setIfInBounds i (B y), rfl, h2, heap_setCell_same _ _ _ _ _ _ h3, by simpa using h4, h5, by simpa using h6, ?_⟩
    rw [Array.toList_setIfInBounds, List.take_set, List.map_set, ← h7]
    simp
theorem burst_bad (l : List UInt8) (k : Nat) (hk : k + 1 < l.length) (a b : UInt8) (h : ¬ (a = 0 ∧ b = 0)) (hl : l.length ≤ 4096) :
    opened (body ((l.set k (l[k] ^^^ a)).set (k + 1) (l[k + 1] ^^^ b)) (fcs l)) = .error 21 := by
  have e : l = l.take k ++ l[k] :: l[k + 1] :: l.drop (k + 2) := by
    rw [List.getElem_cons_drop, List.getElem_cons_drop, List.take_append_drop]
  have hlen : (l.take k).length = k := by simp; omega
  have e2 : (l.set k (l[k] ^^^ a)).set (k + 1) (l[k + 1] ^^^ b) = l.take k ++ (l[k] ^^^ a) :: (l[k + 1] ^^^ b) :: l.drop (k + 2) := by
    generalize l[k] ^^^ a = x'
    generalize l[k + 1] ^^^ b = y'
    have ed : l.drop k = l[k] :: l[k + 1] :: l.drop (k + 2) := by rw [List.getElem_cons_drop, List.getElem_cons_drop]
    have h3 : (l.set k x').set (k + 1) y' = ((l.take k ++ l.drop k).set k x').set (k + 1) y' := by rw [List.take_append_drop]
    rw [h3, List.set_append_right _ _ (by omega), List.set_append_right _ _ (by simp; omega), hlen, ed, Nat.sub_self, show k + 1 - k = 1 from by omega]
    rfl
  rw [e2]
  have := burst_decode (l.take k) (l.drop (k + 2)) l[k] l[k + 1] a b h (by rw [← e]; exact hl)
  rw [← e] at this
  exact this
theorem eq0_yes (x : UInt8) (h : x = 0) : ((x.toNat : Int) == 0) = true := by subst h; rfl
theorem eq0_no (x : UInt8) (h : ¬ x = 0) : ((x.toNat : Int) == 0) = false := by
  rw [beq_eq_false_iff_ne]
  intro e
  exact h (UInt8.toNat_inj.1 (by simpa using Int.ofNat.inj e))
theorem decE_sealed (p : List UInt8) (n : UInt16) (m : Nat) (h : opened (body p n) = .error m) : decE (sealed p n) ((0 : Nat) : Int) = .error m := by
  have := decode_at [] (body p n) [] (body_noflag _ _)
  rw [h] at this
  unfold decE
  rw [if_neg (by decide)]
  exact this
set_option maxRecDepth 100000 in
set_option maxHeartbeats 1000000 in
theorem burst_out (A : Option Addr) (c : Nat) (l : List UInt8) (at_ : Int) (a b : UInt8) (w : World) (hb : InB w A c l) (h : 1000 < l.length ∨ at_ < 0 ∨ (l.length : Int) - 1 ≤ at_ ∨ (a = 0 ∧ b = 0)) :
    Calls Try.prog 6 #[.slice A l.length c, .int .i64 at_, .int .u8 (a.toNat : Int), .int .u8 (b.toNat : Int)] w fun e w' => e = .returned (.bool true) ∧ Below w.heap.size w w' := by
  have hmx : l.length ≤ 9223372036854775807 := Nat.le_trans hb.le hb.cap
  clear hb
  by_cases h1 : 1000 < l.length
  · have hd : decide ((1000 : Int) < (l.length : Int)) = true := by simp; omega
    clear h
    go_enter Try.func6, Try.ntmps6
    go_wp2_with (go_at_call 11; refine (sane_any _).mono ?_; rintro e w1 ⟨rfl, hb1⟩)
    go_ret
    exact ⟨rfl, hb1⟩
  · have hd : decide ((1000 : Int) < (l.length : Int)) = false := by simp; omega
    by_cases h2 : at_ < 0
    · have hd2 : decide (at_ < 0) = true := by simpa using h2
      clear h
      go_enter Try.func6, Try.ntmps6
      go_wp2_with (go_at_call 11; refine (sane_any _).mono ?_; rintro e w1 ⟨rfl, hb1⟩)
      go_ret
      exact ⟨rfl, hb1⟩
    · have hd2 : decide (at_ < 0) = false := by simpa using h2
      by_cases h3 : (l.length : Int) - 1 ≤ at_
      · have hd3 : decide ((l.length : Int) - 1 ≤ at_) = true := by simpa using h3
        clear h
        go_enter Try.func6, Try.ntmps6
        go_wp2_with (go_at_call 11; refine (sane_any _).mono ?_; rintro e w1 ⟨rfl, hb1⟩)
        go_ret
        exact ⟨rfl, hb1⟩
      · have hd3 : decide ((l.length : Int) - 1 ≤ at_) = false := by simpa using h3
        have hab : a = 0 ∧ b = 0 := by
          rcases h with h | h | h | h
          · exact absurd h h1
          · exact absurd h h2
          · exact absurd h h3
          · exact h
        have ha := eq0_yes a hab.1
        have hbb := eq0_yes b hab.2
        clear h hab
        go_enter Try.func6, Try.ntmps6
        go_wp2_with (go_at_call 11; refine (sane_any _).mono ?_; rintro e w1 ⟨rfl, hb1⟩)
        go_ret
        exact ⟨rfl, hb1⟩
set_option maxRecDepth 100000 in
set_option maxHeartbeats 1000000 in
theorem burst_in (A : Option Addr) (c : Nat) (l : List UInt8) (k : Nat) (a b : UInt8) (w : World) (hb : InB w A c l) (h1 : l.length ≤ 1000) (hk : k + 1 < l.length) (hab : ¬ (a = 0 ∧ b = 0)) :
    Calls Try.prog 6 #[.slice A l.length c, .int .i64 (k : Int), .int .u8 (a.toNat : Int), .int .u8 (b.toNat : Int)] w fun e w' => e = .returned (.bool true) ∧ Below w.heap.size w w' := by
  have hd : decide ((1000 : Int) < (l.length : Int)) = false := by simp; omega
  have hd2 : decide ((k : Int) < 0) = false := by simp
  have hd3 : decide ((l.length : Int) - 1 ≤ (k : Int)) = false := by simp; omega
  have hlen : l.length ≤ 140737488351232 := by omega
  have Hb := Lib.hid hb
  obtain ⟨x', y', e1, e2, hbad⟩ : ∃ x' y' : UInt8, bits .xor .u8 (l[k].toNat : Int) (a.toNat : Int) = (x'.toNat : Int) ∧ bits .xor .u8 (l[k + 1].toNat : Int) (b.toNat : Int) = (y'.toNat : Int) ∧ opened (body ((l.set k x').set (k + 1) y') (fcs l)) = .error 21 :=
    ⟨_, _, u8x _ _, u8x _ _, burst_bad l k hk a b hab (by omega)⟩
  obtain ⟨bad, hbd⟩ : ∃ bad, (l.set k x').set (k + 1) y' = bad := ⟨_, rfl⟩
  have hbl : bad.length = l.length := by rw [← hbd]; simp
  rw [hbd] at hbad
  have Hdec := Lib.hid (decE_sealed _ _ _ hbad)
  have Hscan : Hid (scan (sealed bad (fcs l)) = ([], (sealed bad (fcs l)).length - 1)) := Lib.hid (by rw [scan_sealed]; unfold outs; rw [hbad])
  have Hslen := Lib.hid (sealed_length bad (fcs l))
  have Hbd := Lib.hid hbd
  have Hbl := Lib.hid hbl
  clear hb hbad hbd hbl
  obtain ⟨n, hn⟩ : ∃ n, fcs l = n := ⟨_, rfl⟩
  rw [hn] at Hdec Hscan Hslen
  have Hn := Lib.hid hn
  clear hn
  have ha : ((a.toNat : Int) == 0 && (b.toNat : Int) == 0) = false := by
    by_cases ha0 : a = 0
    · rw [eq0_yes a ha0, eq0_no b (fun e => hab ⟨ha0, e⟩)]; rfl
    · rw [eq0_no a ha0]; rfl
  by_cases ha0 : ((a.toNat : Int) == 0) = true
  all_goals
    first
      | rw [ha0, Bool.true_and] at ha
      | (replace ha0 : ((a.toNat : Int) == 0) = false := by simpa using ha0)
    clear hab
    go_enter Try.func6, Try.ntmps6
    go_wp2_with fail
    refine (sane_any _).mono ?_
    rintro e w1 ⟨rfl, hb1⟩
    have Hb1 := Lib.hid (Hb.out.below hb1)
    go_wp2_with fail
    refine (copy_any A c l w1 hlen Hb1.out.rd Hb1.out.nil).mono ?_
    rintro e w2 ⟨v, rfl, hO, hb2⟩
    obtain ⟨g, cap, rfl, hg1, hg2, hcell, hfz⟩ := own_head hO (by omega)
    have hc1 := hcell k (by omega)
    have hc2 := hcell (k + 1) hk
    have hf1 := hfz k
    have hf2 := hfz (k + 1)
    have HO := Lib.hid (own_set (own_set hO k x') (k + 1) y')
    have HF := Lib.hid ((hb2.setCell (p := ⟨g, k, none⟩) hg1 (B x')).setCell (p := ⟨g, k + 1, none⟩) hg1 (B y'))
    clear hcell hfz hO
    generalize hl1 : l[k] = x1 at *
    generalize hl2 : l[k + 1] = x2 at *
    clear hl1 hl2
    go_wp2_with fail
    generalize (w2.setCell ⟨g, k, none⟩ (B x')).setCell ⟨g, k + 1, none⟩ (B y') = W at *
    have hHB := HF.out
    have Hb3 := Lib.hid (Hb1.out.below hHB)
    refine (fcs_any A c l W hlen Hb3.out.rd).mono ?_
    rintro e w4 ⟨rfl, hb4⟩
    rw [Hn.out]
    have hOb := HO.out
    rw [Hbd.out] at hOb
    have hRb : Rd w4 (some ⟨g, 0, none⟩) bad := by
      obtain ⟨A9, c9, e9, _, _, _, hR9⟩ := own_form hOb
      cases e9
      exact RdC.below hR9 hb4
    have hsc : Calls Try.prog 20 #[.slice (some ⟨g, 0, none⟩) l.length cap, .int .u16 (n.toNat : Int)] w4 fun e w' => ∃ v, e = .returned v ∧ OwnB w' w4.heap.size 5 v (sealed bad n) ∧ Below w4.heap.size w4 w' := by
      have := seal_any (some ⟨g, 0, none⟩) cap bad n w4 (by have := Hbl.out; omega) hRb (fun e => by cases e)
      rwa [Hbl.out] at this
    have Hsc := Lib.hid hsc
    clear hsc hOb hRb
    go_wp2_with fail
    refine Hsc.out.mono ?_
    rintro e w5 ⟨v5, rfl, hO5, hb5⟩
    obtain ⟨A5, c5, rfl, hA5, hc5, hm5, hR5⟩ := own_form hO5
    have HR5 := Lib.hid hR5
    have hs4 : 4 ≤ (sealed bad n).length := Hslen.out.1
    have hs5 : (sealed bad n).length ≤ 100000 := by have := Hslen.out.2; have := Hbl.out; omega
    clear hO5 hR5
    generalize hf : sealed bad n = f at *
    clear hf
    go_wp2_with fail
    refine (dec_in A5 c5 f 0 w5 (by omega) (by omega) HR5.out hc5).mono ?_
    rintro e w6 ⟨hb6, hp⟩
    rw [Hdec.out] at hp
    subst hp
    have HR6 := Lib.hid (RdC.below HR5.out hb6)
    go_wp2_with fail
    refine (scan_any A5 c5 f w6 (by omega) hc5 HR6.out (fun e => by have := hA5 e; omega)).mono ?_
    rintro e w7 ⟨v7, rfl, hRB, hb7⟩
    rw [Hscan.out] at hRB ⊢
    obtain ⟨vs7, ho7, _⟩ := hRB
    obtain ⟨A7, c7, rfl, _⟩ := own_form ho7
    have hsub : (((f.length - 1 : Nat) : Int) == (f.length : Int) - 1) = true := by rw [beq_iff_eq]; omega
    clear ho7
    simp only at hsub ⊢
    go_wp2_with fail
    go_ret
    exact ⟨rfl, fw_trans (fw_trans (fw_trans (fw_trans (fw_trans (fw_trans hb1 hHB) hb4) hb5) hb6) hb7) (Below.refl _ _)⟩
theorem u8_of (a : Int) (h : (Lit.int .u8 a).wf = true) : ∃ x : UInt8, a = (x.toNat : Int) := by
  simp only [Lit.wf, IntKind.min, IntKind.max, IntKind.signed, IntKind.bits, Bool.and_eq_true, decide_eq_true_eq, Bool.false_eq_true, if_false] at h
  refine ⟨UInt8.ofNat a.toNat, ?_⟩
  have : a.toNat < 256 := by omega
  simp
  omega
theorem burst_walk (A : Option Addr) (c : Nat) (l : List UInt8) (at_ a b : Int) (w : World) (hb : InB w A c l) (ha : (Lit.int .u8 a).wf = true) (hb' : (Lit.int .u8 b).wf = true) :
    Calls Try.prog 6 #[.slice A l.length c, .int .i64 at_, .int .u8 a, .int .u8 b] w fun e w' => e = .returned (.bool true) ∧ Below w.heap.size w w' := by
  obtain ⟨x, rfl⟩ := u8_of a ha
  obtain ⟨y, rfl⟩ := u8_of b hb'
  by_cases h : 1000 < l.length ∨ at_ < 0 ∨ (l.length : Int) - 1 ≤ at_ ∨ (x = 0 ∧ y = 0)
  · exact burst_out A c l at_ x y w hb h
  · obtain ⟨k, rfl⟩ : ∃ k : Nat, at_ = (k : Int) := ⟨at_.toNat, by omega⟩
    exact burst_in A c l k x y w hb (by omega) (by omega) (fun e => h (.inr (.inr (.inr e))))
end Go.Proofs.Ytekbbkbknldnaaa
