import Derived.Test.YtekbbkbknldnaaaWArgL
namespace Go.Proofs.Ytekbbkbknldnaaa
open Go Go.RowKit Hd Go.Mem

theorem streamTo_cons (sh : Bool) (out p : List UInt8) (r : List (List UInt8)) : streamTo sh out (p :: r) = streamTo sh (out ++ if (sh && !out.isEmpty) = true then (frame p).drop 1 else frame p) r := rfl
theorem streamTo_len (sh : Bool) : ∀ (ps : List (List UInt8)) (out : List UInt8), (∀ i (h : i < ps.length), ps[i].length ≤ 300) → (streamTo sh out ps).length ≤ out.length + 700 * ps.length
  | [], out, _ => by simp [streamTo]
  | p :: ps, out, h => by
    have hp : p.length ≤ 300 := h 0 (by simp)
    have := streamTo_len sh ps (out ++ if (sh && !out.isEmpty) = true then (frame p).drop 1 else frame p) (fun i hi => h (i + 1) (by simp; omega))
    have hf := (sealed_length p (fcs p)).2
    have hl : (out ++ if (sh && !out.isEmpty) = true then (frame p).drop 1 else frame p).length ≤ out.length + 700 := by
      unfold frame
      split <;> simp <;> omega
    unfold streamTo
    simp only [List.length_cons]
    omega
set_option maxRecDepth 100000 in
set_option maxHeartbeats 800000 in
theorem stream_any (A : Option Addr) (c : Nat) (ps : List (List UInt8)) (sh : Bool) (w : World) (hp : ps.length ≤ 1000) (h3 : ∀ i (h : i < ps.length), ps[i].length ≤ 300) (h1 : RdL w A ps) :
    Calls Try.prog 22 #[.slice A ps.length c, .bool sh] w fun e w' => ∃ v, e = .returned (.tuple #[v, .bool true]) ∧ OwnB w' w.heap.size 5 v (streamTo sh [] ps) ∧ Below w.heap.size w w' := by
  have H1 := Lib.hid h1
  have H3 := Lib.hid h3
  clear h1 h3
  go_enter Try.func22, Try.ntmps22
  go_wp2_with fail
  go_loopw [6, 13] (fun v j wr => ∃ (k : Nat) (out : List UInt8), k ≤ ps.length ∧ j = .int .i64 k ∧ OwnB wr w.heap.size 5 v out ∧ Below w.heap.size w wr ∧ out.length ≤ 700 * k ∧ Hid (streamTo sh out (ps.drop k) = streamTo sh [] ps)) (fun _ j _ => ps.length - (intOf j).toNat)
  case atStart => exact ⟨0, [], by omega, rfl, World.ownsRow_nil _ _ _ _, Below.refl _ _, by simp, Lib.hid (by simp)⟩
  case round =>
    obtain ⟨k, out, hk, rfl, hO, hB, hol, Hst⟩ := hrel
    by_cases hlt : k < ps.length
    · obtain ⟨b1, off1, A1, c1, rfl, hc1, hz1, hz2, hA1, hr1⟩ := (H1.out.below hB).at k hlt
      have Hd := Lib.hid (List.drop_eq_getElem_cons hlt ▸ Hst.out)
      have hp3 := H3.out k hlt
      clear Hst
      generalize ps[k] = p at *
      have hf := sealed_length p (fcs p)
      have hf4 : 4 ≤ (frame p).length := hf.1
      have hfm : (frame p).length ≤ 700 := by have := hf.2; unfold frame; omega
      clear hf
      have HO := Lib.hid hO
      have HA1 := Lib.hid hA1
      have Hr1 := Lib.hid hr1
      clear hO hA1 hr1
      have Hstep := Lib.hid (show streamTo sh (out ++ if (sh && !out.isEmpty) = true then (frame p).drop 1 else frame p) (ps.drop (k + 1)) = streamTo sh [] ps by rw [← streamTo_cons]; exact Hd.out)
      clear Hd
      go_wp2_with fail
      refine (enc_any A1 c1 p wr (by omega) Hr1.out HA1.out).mono ?_
      rintro e w2 ⟨vf, rfl, hOf, hb2⟩
      generalize frame p = f at *
      obtain ⟨A2, c2, rfl, hA2, hc2, hm2, hR2⟩ := own_form hOf
      have hB2 := fw_trans hB hb2
      have hO2 := own_below HO.out hb2
      have hd2 : decide ((f.length : Int) < 2) = false := by simp; omega
      obtain ⟨b2, off2, rfl, _⟩ := RdC.at hR2 0 (by simp; omega)
      clear hOf hA2 HO
      have s1 := slc_l 22 5 Try.underlying22 u8_sz (some ⟨b2, off2, none⟩) f.length c2 1 1 rfl (by omega)
      have hR3 := Rd.drop (l := f) hR2 1 c2 hc2
      have hA3 : adv (some ⟨b2, off2, none⟩) c2 1 = none → c2 - 1 = 0 := fun e => by unfold adv at e; split at e <;> simp at e
      have HA3 := Lib.hid hA3
      have HR2 := Lib.hid hR2
      have HR3 := Lib.hid hR3
      have e1 : f.length - 1 = (f.drop 1).length := by simp
      rw [e1] at s1
      have hf1 : (f.drop 1).length ≤ 700 := by simp; omega
      clear hA3 hR2 hR3
      have hbd : out.length + f.length ≤ 140737488355328 := by omega
      have hbd1 : out.length + (f.drop 1).length ≤ 140737488355328 := by omega
      clear e1
      generalize f.drop 1 = f1 at *
      generalize adv (some ⟨b2, off2, none⟩) c2 1 = A3 at *
      cases sh with
      | false =>
        simp only [Bool.false_and, Bool.false_eq_true, if_false] at Hstep
        go_wp2_with (at_builtin; refine app_bytes _ rfl (.tmp 37) (.tmp 38) 22 rfl w w.heap.size 5 Try.underlying22 info_u8 u6 _ rfl hO2 (some ⟨b2, off2, none⟩) c2 f rfl (fun e => by cases e) HR2.out hbd hB2 hB2.size ?_; intro v' w' hO3 hB3 hg3 hat3 hsz3)
        go_roundw
        case rel => exact ⟨k + 1, _, by omega, by go_num, hO3, hB3, by simp; omega, Hstep⟩
        case measure => simp [intOf]; omega
      | true =>
        by_cases hout : 0 < out.length
        · have hd3 : decide ((0 : Int) < (out.length : Int)) = true := by simp; omega
          have he : out.isEmpty = false := by cases out with | nil => simp at hout | cons => rfl
          simp only [he, Bool.not_false, Bool.true_and, if_true] at Hstep
          clear he
          obtain ⟨A0, c0, rfl, hA0, hc0, hm0, hR0⟩ := own_form hO2
          clear hA0 hR0
          go_wp2_with (at_builtin; refine app_bytes _ rfl (.tmp 37) (.tmp 38) 22 rfl w w.heap.size 5 Try.underlying22 info_u8 (.slice A0 out.length c0) _ rfl hO2 A3 (c2 - 1) f1 rfl HA3.out HR3.out hbd1 hB2 hB2.size ?_; intro v' w' hO3 hB3 hg3 hat3 hsz3)
          go_roundw
          case rel => exact ⟨k + 1, _, by omega, by go_num, hO3, hB3, by simp; omega, Hstep⟩
          case measure => simp [intOf]; omega
        · have : out = [] := List.eq_nil_of_length_eq_zero (by omega)
          subst this
          simp only [List.isEmpty_nil, Bool.not_true, Bool.and_false, Bool.false_eq_true, if_false] at Hstep
          obtain ⟨A0, c0, rfl, hA0, hc0, hm0, hR0⟩ := own_form hO2
          clear hA0 hR0
          simp only [List.length_nil] at *
          go_wp2_with (at_builtin; refine app_bytes _ rfl (.tmp 37) (.tmp 38) 22 rfl w w.heap.size 5 Try.underlying22 info_u8 (.slice A0 0 c0) [] rfl hO2 (some ⟨b2, off2, none⟩) c2 f rfl (fun e => by cases e) HR2.out hbd hB2 hB2.size ?_; intro v' w' hO3 hB3 hg3 hat3 hsz3)
          go_roundw
          case rel => exact ⟨k + 1, _, by omega, by go_num, hO3, hB3, by simp; omega, Hstep⟩
          case measure => simp [intOf]; omega
    · have : k = ps.length := by omega
      subst this
      have hfin := Hst.out
      rw [List.drop_length, streamTo] at hfin
      have Hfin := Lib.hid hfin
      clear hfin Hst
      go_wp2_with fail
      go_ret2
      exact ⟨_, rfl, by rw [← Hfin.out]; exact hO, hB⟩
theorem max_used (N : Nat) : ((N - 1 : Nat) : Int) = max 0 ((N : Int) - 1) := by omega
set_option maxRecDepth 100000 in
set_option maxHeartbeats 1000000 in
theorem stream_walk (A : Option Addr) (c : Nat) (ps : List (List UInt8)) (sh : Bool) (w : World) (hb : InL w A c ps) :
    Calls Try.prog 7 #[.slice A ps.length c, .bool sh] w fun e w' => e = .returned (.bool true) ∧ Below w.heap.size w w' := by
  have Hb := Lib.hid hb
  have hmx : ps.length ≤ 9223372036854775807 := Nat.le_trans hb.le hb.cap
  clear hb
  go_enter Try.func7, Try.ntmps7
  go_wp2_with fail
  refine (sane_any _).mono ?_
  rintro e w1 ⟨rfl, hb1⟩
  have Hb1 := Lib.hid (Hb.out.below hb1)
  go_wp2_with fail
  refine (few_any A c ps 10 w1 (by decide) hmx Hb1.out.rd).mono ?_
  rintro e w2 ⟨b, rfl, hfew, hb2⟩
  have Hfew := Lib.hid hfew
  have Hb2 := Lib.hid (Hb1.out.below hb2)
  have hB2 := fw_trans hb1 hb2
  clear hfew
  cases b with
  | false =>
    go_wp2_with fail
    go_ret
    exact ⟨rfl, hB2⟩
  | true =>
    obtain ⟨hp10, hp300⟩ := Hfew.out rfl
    have Hp300 := Lib.hid hp300
    have Hlaw := Lib.hid (stream_law sh ps (fun p hp => by obtain ⟨i, hi, rfl⟩ := List.getElem_of_mem hp; exact Nat.le_trans (hp300 i hi) (by decide)))
    have hsl := streamTo_len sh ps [] hp300
    simp only [List.length_nil, Nat.zero_add] at hsl
    clear hp300 Hfew
    go_wp2_with fail
    refine (stream_any A c ps sh w2 (by omega) Hp300.out Hb2.out.rd).mono ?_
    rintro e w3 ⟨v3, rfl, hO3, hb3⟩
    obtain ⟨A3, c3, rfl, hA3, hc3, hm3, hR3⟩ := own_form hO3
    have Hb3 := Lib.hid (Hb2.out.below hb3)
    have hB3 := fw_trans hB2 hb3
    generalize streamTo sh [] ps = s at *
    have HR3 := Lib.hid hR3
    have hA3' : A3 = none → s = [] := fun e => List.eq_nil_of_length_eq_zero (by have := hA3 e; omega)
    have HS := Lib.hid (scan_any A3 c3 s w3 (by omega) hc3 hR3 hA3')
    rw [Hlaw.out] at HS
    clear hO3 hA3 hA3' hR3
    go_wp2_with fail
    refine HS.out.mono ?_
    rintro e w4 ⟨v4, rfl, hR4, hb4⟩
    obtain ⟨A4, c4, rfl, hA4, hc4, hm4, hL4⟩ := RowB.form hR4
    have HL4 := Lib.hid hL4
    clear hR4 hL4 hA4 HS
    generalize s.length = N at *
    clear HR3
    cases N with
    | zero =>
      simp only [Nat.zero_sub] at *
      go_wp2_with fail
      refine (sameall_any A4 A c4 c ps ps w4 (by omega) (by omega) HL4.out (Hb3.out.below hb4).rd rfl).mono ?_
      rintro e w5 ⟨rfl, hb5⟩
      go_wp2_with fail
      go_ret
      exact ⟨rfl, fw_trans (fw_trans hB3 hb4) hb5⟩
    | succ N =>
      simp only [Nat.add_sub_cancel] at *
      have hsub : ((N + 1 : Nat) : Int) - 1 = (N : Int) := by omega
      have hmax : decide ((N : Int) < 0) = false := by simp
      go_wp2_with fail
      refine (sameall_any A4 A c4 c ps ps w4 (by omega) (by omega) HL4.out (Hb3.out.below hb4).rd rfl).mono ?_
      rintro e w5 ⟨rfl, hb5⟩
      go_wp2_with fail
      · go_ret
        exact ⟨rfl, fw_trans (fw_trans hB3 hb4) hb5⟩
      · obtain rfl : N = 0 := by omega
        go_ret
        exact ⟨rfl, fw_trans (fw_trans hB3 hb4) hb5⟩
end Go.Proofs.Ytekbbkbknldnaaa
