import Derived.Test.YtekbbkbknldnaaaWVar3
import Derived.Test.YtekbbkbknldnaaaWStream
namespace Go.Proofs.Ytekbbkbknldnaaa
open Go Go.RowKit Hd Go.Mem

def recB (n : Nat) (p : List UInt8) : List UInt8 := enc n ++ encB p
theorem recB_len {n : Nat} {p : List UInt8} (hn : n < 2 ^ 64) (hp : p.length ≤ 300) : (recB n p).length ≤ 320 := by
  have h1 := enc_len64 hn
  have h2 := enc_len64 (v := p.length) (by omega)
  simp [recB, encB]
  omega
theorem recB_uint {n : Nat} (p : List UInt8) (hn : n < 2 ^ 64) : uintE (recB n p) ((0 : Nat) : Int) = .ok (n, (enc n).length) := by
  have := uintE_enc [] (encB p) n hn
  simpa [recB] using this
theorem recB_seq {n : Nat} {p : List UInt8} (hp : p.length ≤ 300) : seqE (recB n p) ((enc n).length : Int) 300 = .ok (p, (recB n p).length) := by
  have := seqE_enc (enc n) p [] 300 (by omega) hp
  simpa [recB] using this
theorem u64_arg {a : Int} (h : (Lit.int .u64 a).wf = true) : ∃ n : Nat, a = (n : Int) ∧ n < 2 ^ 64 := by
  simp only [Lit.wf, IntKind.min, IntKind.max, IntKind.signed, IntKind.bits, Bool.and_eq_true, decide_eq_true_eq, Bool.false_eq_true, if_false] at h
  exact ⟨a.toNat, by omega, by omega⟩
theorem streamTo_false : ∀ (ps : List (List UInt8)) (out : List UInt8), (∀ p ∈ ps, p.length ≤ 320) → (streamTo false out ps).length ≤ out.length + 700 * ps.length
  | [], out, _ => by simp [streamTo]
  | p :: ps, out, h => by
    have hp : p.length ≤ 320 := h p (by simp)
    have := streamTo_false ps (out ++ if (false && !out.isEmpty) = true then (frame p).drop 1 else frame p) (fun q hq => h q (by simp [hq]))
    have hf := (sealed_length p (fcs p)).2
    have hl : (out ++ if (false && !out.isEmpty) = true then (frame p).drop 1 else frame p).length ≤ out.length + 700 := by
      unfold frame
      simp
      omega
    rw [streamTo_cons]
    simp only [List.length_cons]
    omega
set_option maxRecDepth 100000 in
set_option maxHeartbeats 2000000 in
theorem carry_walk (A : Option Addr) (c : Nat) (ps : List (List UInt8)) (a1 : Int) (w : World) (hb : InL w A c ps) (ha : (Lit.int .u64 a1).wf = true) :
    Calls Try.prog 10 #[.slice A ps.length c, .int .u64 a1] w fun e w' => e = .returned (.bool true) ∧ Below w.heap.size w w' := by
  obtain ⟨n, rfl, hn⟩ := u64_arg ha
  have Hb := Lib.hid hb
  have Hn := Lib.hid hn
  have hmx : ps.length ≤ 9223372036854775807 := Nat.le_trans hb.le hb.cap
  clear hb ha hn
  go_enter Try.func10, Try.ntmps10
  go_wp2_with fail
  refine (sane_any _).mono ?_
  rintro e w1 ⟨rfl, hb1⟩
  have Hb1 := Lib.hid (Hb.out.below hb1)
  go_wp2_with fail
  refine (few_any A c ps 8 w1 (by decide) hmx Hb1.out.rd).mono ?_
  rintro e w2 ⟨b, rfl, hfew, hb2⟩
  have Hfew := Lib.hid hfew
  have Hb2 := Lib.hid (Hb1.out.below hb2)
  have hB2 := fw_trans hb1 hb2
  clear hfew
  cases b with
  | false =>
    go_wp2_with fail
    go_ret
    exact ⟨rfl, hB2⟩
  | true =>
    obtain ⟨hp8, hp300⟩ := Hfew.out rfl
    have H3 := Lib.hid hp300
    have hall : ∀ p ∈ ps.map (recB n), p.length ≤ 320 := fun p hp => by
      obtain ⟨q, hq, rfl⟩ := List.mem_map.1 hp
      obtain ⟨i, hi, rfl⟩ := List.getElem_of_mem hq
      exact recB_len Hn.out (hp300 i hi)
    have Hlaw := Lib.hid (stream_law false (ps.map (recB n)) (fun p hp => Nat.le_trans (hall p hp) (by decide)))
    have hsl := streamTo_false (ps.map (recB n)) [] hall
    simp only [List.length_nil, Nat.zero_add, List.length_map] at hsl
    clear hp300 Hfew hall
    go_wp2_with fail
    go_loopw [5, 27] (fun v j wr => ∃ (k : Nat) (out : List UInt8), k ≤ ps.length ∧ j = .int .i64 k ∧ OwnB wr w2.heap.size 5 v out ∧ Below w2.heap.size w2 wr ∧ out.length ≤ 700 * k ∧ Hid (streamTo false out ((ps.drop k).map (recB n)) = streamTo false [] (ps.map (recB n)))) (fun _ j _ => ps.length - (intOf j).toNat)
    case atStart => exact ⟨0, [], by omega, rfl, World.ownsRow_nil _ _ _ _, Below.refl _ _, by simp, Lib.hid (by simp)⟩
    case round =>
      obtain ⟨k, out, hk, rfl, hO, hB, hol, Hst⟩ := hrel
      by_cases hlt : k < ps.length
      · obtain ⟨b1, off1, A1, c1, rfl, hc1, hz1, hz2, hA1, hr1⟩ := (Hb2.out.below hB).rd.at k hlt
        have hd := Hst.out
        rw [List.drop_eq_getElem_cons hlt, List.map_cons, streamTo_cons] at hd
        simp only [Bool.false_and, Bool.false_eq_true, if_false] at hd
        have hp3 := H3.out k hlt
        clear Hst
        generalize ps[k] = p at *
        have Hd := Lib.hid hd
        have hfl := (sealed_length (recB n p) (fcs (recB n p))).2
        have hrl := recB_len (p := p) Hn.out hp3
        have hfm : (frame (recB n p)).length ≤ 700 := by unfold frame; omega
        have HO := Lib.hid hO
        have HA1 := Lib.hid hA1
        have Hr1 := Lib.hid hr1
        clear hO hA1 hr1 hd hfl
        go_wp2_with fail
        refine (auint_any none 0 [] n wr (by decide) Hn.out (Rd.nil _ _) (fun _ => rfl) (by decide)).mono ?_
        rintro e w3 ⟨v3, rfl, hO3, hb3⟩
        rw [List.nil_append] at hO3
        obtain ⟨A3, c3, rfl, hA3, hc3, hm3, hR3⟩ := own_form hO3
        have HR3 := Lib.hid hR3
        have HA3 := Lib.hid hA3
        have he10 := enc_len64 Hn.out
        clear hO3 hR3 hA3
        go_wp2_with fail
        refine (abytes_any A3 A1 c3 c1 (enc n) p w3 (by omega) (by omega) HR3.out HA3.out hc3 (Hr1.out.below hb3) HA1.out).mono ?_
        rintro e w4 ⟨v4, rfl, hO4, hb4⟩
        have hrec : enc n ++ encB p = recB n p := rfl
        rw [hrec] at hO4
        clear hrec he10
        obtain ⟨A4, c4, rfl, hA4, hc4, hm4, hR4⟩ := own_form hO4
        have HR4 := Lib.hid hR4
        have HA4 := Lib.hid hA4
        clear hO4 hR4 hA4
        go_wp2_with fail
        refine (enc_any A4 c4 (recB n p) w4 (by omega) HR4.out HA4.out).mono ?_
        rintro e w5 ⟨v5, rfl, hO5, hb5⟩
        obtain ⟨A5, c5, rfl, hA5, hc5, hm5, hR5⟩ := own_form hO5
        have HR5 := Lib.hid hR5
        have HA5 := Lib.hid hA5
        clear hO5 hR5 hA5
        have hb35 := fw_trans (fw_trans hb3 hb4) hb5
        have hB5 := fw_trans hB hb35
        have hO7 := own_below HO.out hb35
        have hbd : out.length + (frame (recB n p)).length ≤ 140737488355328 := by omega
        clear HO hb3 hb4 hb5 hb35 hB hrl
        generalize frame (recB n p) = f at *
        go_wp2_with (at_builtin; refine app_bytes _ rfl (.tmp 41) (.tmp 42) 22 rfl w2 w2.heap.size 5 Try.underlying22 info_u8 u5 _ rfl hO7 A5 c5 f rfl HA5.out HR5.out hbd hB5 hB5.size ?_; intro v' w' hO8 hB8 hg8 hat8 hsz8)
        go_roundw
        case rel => exact ⟨k + 1, out ++ f, by omega, by go_num, hO8, hB8, by simp; omega, Hd⟩
        case measure => simp [intOf]; omega
      · have hkl : k = ps.length := by omega
        subst hkl
        have hfin := Hst.out
        rw [List.drop_length, List.map_nil, streamTo] at hfin
        subst hfin
        have hB3 := fw_trans hB2 hB
        obtain ⟨A3, c3, rfl, hA3, hc3, hm3, hR3⟩ := own_form hO
        have Hb3 := Lib.hid (Hb2.out.below hB)
        generalize streamTo false [] (ps.map (recB n)) = s at *
        have HS := Lib.hid (scan_any A3 c3 s wr (by omega) hc3 hR3 (fun e => List.eq_nil_of_length_eq_zero (by have := hA3 e; omega)))
        rw [Hlaw.out] at HS
        clear hA3 hR3 hO Hst
        go_wp2_with fail
        refine HS.out.mono ?_
        rintro e w4 ⟨v4, rfl, hR4, hb4⟩
        obtain ⟨A4, c4, rfl, hA4, hc4, hm4, hL4⟩ := RowB.form hR4
        have HL4 := Lib.hid hL4
        have hB4 := fw_trans hB3 hb4
        have Hb4 := Lib.hid (Hb3.out.below hb4)
        clear hR4 hL4 hA4 HS
        simp only [List.length_map] at hc4 ⊢
        go_wp2_with fail
        go_loopw [57] (fun j wr => ∃ (k : Nat), k ≤ ps.length ∧ j = .int .i64 k ∧ Below w4.heap.size w4 wr) (fun j _ => ps.length - (intOf j).toNat)
        case atStart => exact ⟨0, by omega, rfl, Below.refl _ _⟩
        case round =>
          obtain ⟨k, hk2, rfl, hB5⟩ := hrel
          by_cases hlt2 : k < ps.length
          · have hltm : k < (ps.map (recB n)).length := by simpa using hlt2
            obtain ⟨b1, off1, A1, c1, e1, hc1, hz1, hz2, hA1, hr1⟩ := (HL4.out.below hB5).at k hltm
            obtain ⟨b2, off2, A2, c2, rfl, hc2, hy1, hy2, hA2, hr2⟩ := (Hb4.out.below hB5).rd.at k hlt2
            subst e1
            have hp3 := H3.out k hlt2
            rw [List.getElem_map] at hc1 hz1 hr1
            generalize ps[k] = p at *
            have HA1 := Lib.hid hA1
            have HR1 := Lib.hid hr1
            have HR2 := Lib.hid hr2
            have Hu := Lib.hid (recB_uint p Hn.out)
            have Hs := Lib.hid (recB_seq (n := n) (p := p) hp3)
            have hyl := recB_len (p := p) Hn.out hp3
            clear hA1 hr1 hA2 hr2
            generalize recB n p = y at *
            generalize (enc n).length = a0 at *
            go_wp2_with fail
            refine (uint_in A1 c1 y 0 wr (by omega) (by omega) HR1.out).mono ?_
            rintro e w5 ⟨rfl, hp⟩
            rw [Hu.out] at hp
            obtain ⟨rfl, _, _⟩ := hp
            go_wp2_with fail
            refine (bytes_any A1 c1 y (a0 : Int) 300 wr (by omega) (by decide) HR1.out HA1.out hz1).mono ?_
            rintro e w6 ⟨hb6, hp⟩
            rw [Hs.out] at hp
            obtain ⟨A6, c6, rfl, q1, q2, q3, q4, q5, q6⟩ := hp
            have HQ4 := Lib.hid q4.c
            have hB6 := fw_trans hB5 hb6
            have HR6 := Lib.hid (HR2.out.below hb6)
            have hc6 := cell_step hb6 hc2
            clear q3 q4
            go_wp2_with (first | (go_at_call 17; refine (same_any A6 A2 c6 c2 p p w6 HQ4.out HR6.out).mono ?_; rintro e w7 ⟨rfl, rfl⟩))
            go_roundw
            case rel => exact ⟨k + 1, by omega, by go_num, hB6⟩
            case measure => simp [intOf]; omega
          · have hkl : k = ps.length := by omega
            subst hkl
            go_wp2_with fail
            go_ret
            exact ⟨rfl, fw_trans hB4 hB5⟩
end Go.Proofs.Ytekbbkbknldnaaa
