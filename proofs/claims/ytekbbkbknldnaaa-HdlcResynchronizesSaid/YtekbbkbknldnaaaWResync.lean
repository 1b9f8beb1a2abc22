import Derived.Test.YtekbbkbknldnaaaWPieces
namespace Go.Proofs.Ytekbbkbknldnaaa
open Go Go.RowKit Hd Go.Mem

set_option maxRecDepth 100000 in
set_option maxHeartbeats 1000000 in
theorem resync_out (A1 A2 A3 : Option Addr) (c1 c2 c3 : Nat) (l1 l2 l3 : List UInt8) (w : World) (h1 : InB w A1 c1 l1) (h2 : InB w A2 c2 l2) (h3 : InB w A3 c3 l3) (h : 500 < l1.length ∨ 500 < l2.length ∨ 500 < l3.length) :
    Calls Try.prog 9 #[.slice A1 l1.length c1, .slice A2 l2.length c2, .slice A3 l3.length c3] w fun e w' => e = .returned (.bool true) ∧ Below w.heap.size w w' := by
  have hm1 : l1.length ≤ 9223372036854775807 := Nat.le_trans h1.le h1.cap
  have hm2 : l2.length ≤ 9223372036854775807 := Nat.le_trans h2.le h2.cap
  have hm3 : l3.length ≤ 9223372036854775807 := Nat.le_trans h3.le h3.cap
  clear h1 h2 h3
  by_cases k1 : 500 < l1.length
  · have hd : decide ((500 : Int) < (l1.length : Int)) = true := by simp; omega
    clear h
    go_enter Try.func9, Try.ntmps9
    go_wp2_with (go_at_call 11; refine (sane_any _).mono ?_; rintro e w1 ⟨rfl, hb1⟩)
    go_ret
    exact ⟨rfl, hb1⟩
  · have hd : decide ((500 : Int) < (l1.length : Int)) = false := by simp; omega
    by_cases k2 : 500 < l2.length
    · have hd2 : decide ((500 : Int) < (l2.length : Int)) = true := by simp; omega
      clear h
      go_enter Try.func9, Try.ntmps9
      go_wp2_with (go_at_call 11; refine (sane_any _).mono ?_; rintro e w1 ⟨rfl, hb1⟩)
      go_ret
      exact ⟨rfl, hb1⟩
    · have hd2 : decide ((500 : Int) < (l2.length : Int)) = false := by simp; omega
      have hd3 : decide ((500 : Int) < (l3.length : Int)) = true := by simp; omega
      clear h
      go_enter Try.func9, Try.ntmps9
      go_wp2_with (go_at_call 11; refine (sane_any _).mono ?_; rintro e w1 ⟨rfl, hb1⟩)
      go_ret
      exact ⟨rfl, hb1⟩
set_option maxRecDepth 100000 in
set_option maxHeartbeats 1000000 in
theorem resync_in (A1 A2 A3 : Option Addr) (c1 c2 c3 : Nat) (l1 l2 l3 : List UInt8) (w : World) (h1 : InB w A1 c1 l1) (h2 : InB w A2 c2 l2) (h3 : InB w A3 c3 l3) (k1 : l1.length ≤ 500) (k2 : l2.length ≤ 500) (k3 : l3.length ≤ 500) :
    Calls Try.prog 9 #[.slice A1 l1.length c1, .slice A2 l2.length c2, .slice A3 l3.length c3] w fun e w' => e = .returned (.bool true) ∧ Below w.heap.size w w' := by
  have hd1 : decide ((500 : Int) < (l1.length : Int)) = false := by simp; omega
  have hd2 : decide ((500 : Int) < (l2.length : Int)) = false := by simp; omega
  have hd3 : decide ((500 : Int) < (l3.length : Int)) = false := by simp; omega
  have hlaw := resync_law l1 l2 l3 (by omega) (by omega)
  have hf1 : (frame l1).length ≤ 2000 := by have := (sealed_length l1 (fcs l1)).2; unfold frame; omega
  have hf3 : (frame l3).length ≤ 2000 := by have := (sealed_length l3 (fcs l3)).2; unfold frame; omega
  have hql := scan_len (frame l1 ++ l2 ++ frame l3)
  have H1 := Lib.hid h1
  have H2 := Lib.hid h2
  have H3 := Lib.hid h3
  clear h1 h2 h3
  obtain ⟨f, hf⟩ : ∃ f, frame l1 = f := ⟨_, rfl⟩
  obtain ⟨g, hg⟩ : ∃ g, frame l3 = g := ⟨_, rfl⟩
  obtain ⟨q, hq⟩ : ∃ q, f ++ l2 ++ g = q := ⟨_, rfl⟩
  rw [hf] at hlaw hf1 hql
  rw [hg] at hlaw hf3 hql
  have hqle : q.length ≤ 4500 := by rw [← hq]; simp; omega
  rw [hq] at hlaw hql
  have Hf := Lib.hid hf
  have Hg := Lib.hid hg
  have Hq := Lib.hid hq
  clear hf hg hq
  have Hscan := Lib.hid (fun A c (W : World) => scan_any A c q W (by omega))
  generalize scan q = S at *
  obtain ⟨ps, u⟩ := S
  simp only at *
  obtain ⟨hp2, hph, hpl⟩ := hlaw
  have hp0 : ps[0] = l1 := by
    rw [List.head?_eq_getElem?, List.getElem?_eq_getElem (by omega)] at hph
    exact Option.some.inj hph
  have hpn : ps[ps.length - 1] = l3 := by
    rw [List.getLast?_eq_getElem?, List.getElem?_eq_getElem (by omega)] at hpl
    exact Option.some.inj hpl
  have Hp0 := Lib.hid hp0
  have Hpn := Lib.hid hpn
  clear hph hpl hp0 hpn
  go_enter Try.func9, Try.ntmps9
  go_wp2_with fail
  refine (sane_any _).mono ?_
  rintro e w1 ⟨rfl, hb1⟩
  go_wp2_with fail
  refine (enc_any A1 c1 l1 w1 (by omega) (H1.out.below hb1).rd H1.out.nil).mono ?_
  rintro e w2 ⟨vf, rfl, hO2, hb2⟩
  rw [Hf.out] at hO2
  obtain ⟨Af, cf, rfl, hAf, hcf, hmf, hRf⟩ := own_form hO2
  have hb12 := fw_trans hb1 hb2
  clear hO2
  go_wp2_with fail
  refine (enc_any A3 c3 l3 w2 (by omega) (H3.out.below hb12).rd H3.out.nil).mono ?_
  rintro e w3 ⟨vg, rfl, hO3, hb3⟩
  rw [Hg.out] at hO3
  obtain ⟨Ag, cg, rfl, hAg, hcg, hmg, hRg⟩ := own_form hO3
  have hb13 := fw_trans hb12 hb3
  clear hO3
  go_wp2_with fail
  refine (copy_any Af cf f w3 (by omega) (RdC.below hRf hb3) hAf).mono ?_
  rintro e w4 ⟨v4, rfl, hO4, hb4⟩
  have hb14 := fw_trans hb13 hb4
  have HO4 := Lib.hid hO4
  have HR2 := Lib.hid (H2.out.below hb14).rd
  have HRg := Lib.hid hRg
  have Hn2 := Lib.hid H2.out.nil
  have HAg := Lib.hid hAg
  have hs1 : f.length + l2.length ≤ 140737488355328 := by omega
  have hs2 : (f ++ l2).length + g.length ≤ 140737488355328 := by simp; omega
  clear hO4 hRf hRg hAg hAf
  go_wp2_with (first | (at_builtin; refine app_bytes _ rfl (.tmp 47) (.tmp 48) 22 rfl w3 w3.heap.size 5 Try.underlying22 info_u8 v4 f rfl HO4.out A2 c2 l2 rfl Hn2.out HR2.out hs1 hb4 hb4.size ?_; intro v5 w5 hO5 hB5 hg5 hat5 hsz5; have HO5 := Lib.hid hO5; clear hO5 hg5 hat5) | (at_builtin; refine app_bytes _ rfl (.tmp 50) (.tmp 51) 22 rfl w3 w3.heap.size 5 Try.underlying22 info_u8 v5 (f ++ l2) rfl HO5.out Ag cg g rfl HAg.out (RdC.below HRg.out hB5) hs2 hB5 hB5.size ?_; intro v6 w6 hO6 hB6 hg6 hat6 hsz6))
  have hO7 : OwnB w6 w3.heap.size 5 v6 q := by rw [← Hq.out]; exact hO6
  obtain ⟨A7, c7, rfl, hA7, hc7, hm7, hR7⟩ := own_form hO7
  have hb16 := fw_trans hb13 hB6
  clear hO6 hO7 hg6 hat6
  refine (Hscan.out A7 c7 w6 hc7 hR7 (fun e => by have := hA7 e; exact List.eq_nil_of_length_eq_zero (by omega))).mono ?_
  rintro e w8 ⟨v8, rfl, hRB, hb8⟩
  obtain ⟨A8, c8, rfl, hA8, hc8, hm8, hL8⟩ := RowB.form hRB
  have hb18 := fw_trans hb16 hb8
  obtain ⟨b, off, Ax, cx, rfl, hcx, _, _, _, hrx⟩ := hL8.at 0 (by omega)
  obtain ⟨b', off', Ay, cy, e2, hcy, _, _, _, hry⟩ := hL8.at (ps.length - 1) (by omega)
  simp only [Option.some.injEq, Addr.mk.injEq, and_true] at e2
  obtain ⟨rfl, rfl⟩ := e2
  rw [Hp0.out] at hcx hrx
  rw [Hpn.out] at hcy hry
  have HRx := Lib.hid hrx
  have HRy := Lib.hid hry
  have hd9 : decide ((2 : Int) ≤ (ps.length : Int)) = true := by simp; omega
  have g0 : (0 : Int) < (ps.length : Int) := by omega
  have hr1 := Lib.hid (H1.out.below hb18).rd
  have hr3 := Lib.hid (H3.out.below hb18).rd
  clear hRB hL8 hrx hry hA8 hA7
  simp only [Nat.add_zero] at hcx
  go_wp2_with fail
  refine (same_any Ax A1 cx c1 l1 l1 w8 HRx.out hr1.out).mono ?_
  rintro e w9 ⟨rfl, rfl⟩
  rw [beq_self_eq_true]
  go_wp2_with fail
  refine (same_any Ay A3 cy c3 l3 l3 w8 HRy.out hr3.out).mono ?_
  rintro e w10 ⟨rfl, rfl⟩
  rw [beq_self_eq_true]
  go_wp2_with fail
  go_ret
  exact ⟨rfl, hb18⟩
theorem resync_walk (A1 A2 A3 : Option Addr) (c1 c2 c3 : Nat) (l1 l2 l3 : List UInt8) (w : World) (h1 : InB w A1 c1 l1) (h2 : InB w A2 c2 l2) (h3 : InB w A3 c3 l3) :
    Calls Try.prog 9 #[.slice A1 l1.length c1, .slice A2 l2.length c2, .slice A3 l3.length c3] w fun e w' => e = .returned (.bool true) ∧ Below w.heap.size w w' := by
  by_cases h : 500 < l1.length ∨ 500 < l2.length ∨ 500 < l3.length
  · exact resync_out A1 A2 A3 c1 c2 c3 l1 l2 l3 w h1 h2 h3 h
  · exact resync_in A1 A2 A3 c1 c2 c3 l1 l2 l3 w h1 h2 h3 (by omega) (by omega) (by omega)
end Go.Proofs.Ytekbbkbknldnaaa
