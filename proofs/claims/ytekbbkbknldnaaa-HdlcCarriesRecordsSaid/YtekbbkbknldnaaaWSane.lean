import Derived.Test.YtekbbkbknldnaaaWScan
import Derived.Laws.IdiomStrings
import Derived.Lib.SlBytesConst
namespace Go.Proofs.Ytekbbkbknldnaaa
open Go Go.RowKit Hd Go.Mem

theorem conv_str (A : Option Addr) (c : Nat) (l : List UInt8) (w : World) (hr : Rd w A l) : (convert 22 9 (.slice A l.length c)).run Try.prog w = .ok (.string ⟨l.toArray⟩) w := by
  cases A with
  | none =>
    have : l = [] := by
      rcases hr with h | ⟨_, _, e, _⟩
      · simpa using h
      · cases e
    subst this
    exact run_convert_bytes_nil w 22 5 Try.underlying22 Try.underlying5 0 c 9 Try.underlying9
  | some ad =>
    exact run_convert_bytes_back w 22 9 5 ad c l Try.underlying22 Try.underlying5 Try.underlying9 (fun j hj => by
      have := RdC.cells hr j (B l[j]) (by simp [hj])
      exact this)
theorem same_any (A A' : Option Addr) (c c' : Nat) (l m : List UInt8) (w : World) (h1 : Rd w A l) (h2 : Rd w A' m) :
    Calls Try.prog 17 #[.slice A l.length c, .slice A' m.length c'] w fun e w' => e = .returned (.bool (l == m)) ∧ w = w' := by
  have k1 := conv_str A c l w h1
  have k2 := conv_str A' c' m w h2
  clear h1 h2
  go_enter Try.func17, Try.ntmps17
  go_wp2
  go_ret
  exact ⟨rfl, rfl⟩
theorem copy_any (A : Option Addr) (c : Nat) (l : List UInt8) (w : World) (hl : l.length ≤ 140737488351232) (hr : Rd w A l) (hA : A = none → c = 0) :
    Calls Try.prog 19 #[.slice A l.length c] w fun e w' => ∃ v, e = .returned v ∧ OwnB w' w.heap.size 5 v l ∧ Below w.heap.size w w' := by
  go_enter Try.func19, Try.ntmps19
  go_wp2_with (at_builtin; refine app_bytes _ rfl _ _ 22 rfl w w.heap.size 5 Try.underlying22 info_u8 (.slice none 0 0) [] rfl (World.ownsRow_nil _ _ _ _) A c l rfl hA hr (by simp; omega) (Below.refl _ _) (Nat.le_refl _) ?_; intro v' w' hO3 hB3 hg3 hat3 hsz3)
  go_ret
  exact ⟨_, rfl, hO3, hB3⟩

/-- Same with a literal that has just been laid; the world behind it is forgotten but for what it keeps -/
theorem same_lit (A : Option Addr) (c : Nat) (l m : List UInt8) (n : Nat) (cs : Array Value) (w : World) (h1 : Rd w A l) (hcs : cs.toList = m.map B) (hn : n = m.length) :
    Calls Try.prog 17 #[.slice A l.length c, .slice (some ⟨w.heap.size, 0, none⟩) n n] (w.alloc (.cells cs 5)) fun e w' => e = .returned (.bool (l == m)) ∧ Below w.heap.size w w' := by
  subst hn
  refine (same_any A _ c _ l m _ (RdC.below h1 (fw_new _ _)) (rd_new w 5 m cs hcs)).mono ?_
  rintro e w' ⟨rfl, rfl⟩
  exact ⟨rfl, fw_new _ _⟩
theorem frame_nil : frame [] = [0x7e, 0, 0, 0x7e] := by decide +kernel
theorem frame_7e : frame [0x7e] = [0x7e, 0x7d, 0x5e, 0x81, 0x6a, 0x7e] := by decide +kernel
theorem fcs_digits : fcs [49, 50, 51, 52, 53, 54, 55, 56, 57] = 0x906e := by decide +kernel
theorem dec_7e : decE [0x7e, 0x7d, 0x5e, 0x81, 0x6a, 0x7e] 0 = .ok ([0x7e], 6) := by
  have := decode_frame [0x7e] (by decide)
  rw [frame_7e] at this
  exact this
theorem scan_7e : scan [0x7e, 0x7d, 0x5e, 0x81, 0x6a, 0x7e] = ([[0x7e]], 5) := by
  have := scan_sealed [0x7e] (fcs [0x7e])
  rw [outs_body _ (by decide), show sealed [0x7e] (fcs [0x7e]) = frame [0x7e] from rfl, frame_7e] at this
  exact this
set_option maxRecDepth 100000 in
set_option maxHeartbeats 1000000 in
theorem sane_any (w : World) : Calls Try.prog 11 #[] w fun e w' => e = .returned (.bool true) ∧ Below w.heap.size w w' := by
  go_enter Try.func11, Try.ntmps11
  go_wp2_with fail
  refine (enc_any none 0 [] w (by decide) (Rd.nil _ _) (fun _ => rfl)).mono ?_
  rintro e w1 ⟨v1, rfl, hO1, hB1⟩
  rw [frame_nil] at hO1
  obtain ⟨A1, c1, rfl, hA1, hc1, hm1, hR1⟩ := own_form hO1
  go_wp2_with fail
  refine (enc_any (some ⟨w1.heap.size, 0, none⟩) 1 [0x7e] _ (by decide) (rd_new _ _ _ _ (by rfl)) (fun e => by cases e)).mono ?_
  rintro e w2 ⟨v2, rfl, hO2, hB2⟩
  rw [frame_7e] at hO2
  obtain ⟨A2, c2, rfl, hA2, hc2, hm2, hR2⟩ := own_form hO2
  go_wp2_with fail
  refine (dec_in A2 c2 [0x7e, 0x7d, 0x5e, 0x81, 0x6a, 0x7e] 0 w2 (by decide) (by decide) hR2 hc2).mono ?_
  rintro e w3 ⟨hB3, hp⟩
  rw [show decE [0x7e, 0x7d, 0x5e, 0x81, 0x6a, 0x7e] ((0 : Nat) : Int) = _ from dec_7e] at hp
  obtain ⟨A3, c3, rfl, hc3, hm3, hA3, hR3, _, _⟩ := hp
  have hR2a := Lib.hid (RdC.below hR2 hB3)
  go_wp2_with fail
  refine (scan_any A2 c2 [0x7e, 0x7d, 0x5e, 0x81, 0x6a, 0x7e] w3 (by decide) hc2 hR2a.out (fun e => by have := hA2 e; simp at hc2; omega)).mono ?_
  rintro e w4 ⟨v4, rfl, hRB, hB4⟩
  rw [scan_7e] at hRB ⊢
  obtain ⟨vs4, ho4, _⟩ := hRB
  obtain ⟨A4, c4, rfl, _⟩ := own_form ho4
  have hF12 : Below w1.heap.size w1 w2 := fw_trans (fw_new _ _) hB2
  have hF24 : Below w2.heap.size w2 w4 := fw_trans hB3 hB4
  have HR1 := Lib.hid ((RdC.below hR1 hF12).below hF24)
  have HR2 := Lib.hid (RdC.below hR2 hF24)
  have HR3 := Lib.hid (RdC.below hR3.c hB4)
  have hF : Below w.heap.size w w4 := fw_trans (fw_trans hB1 hF12) hF24
  clear hO1 hR1 hO2 hR2 hR3 ho4 hB1 hB2 hB3 hB4 hF12 hF24 hR2a
  have hcv := fun (W : World) (C : Array Value) (n c : Nat) => Lib.run_convert_bytes_const (P := Try.prog) W 22 5 C n c Try.underlying22 Try.underlying5
  go_wp2_with fail
  refine (fcs_any _ 9 [49, 50, 51, 52, 53, 54, 55, 56, 57] _ (by decide) (rd_new' _ _ _ _ _ (by rfl))).mono ?_
  rintro e w5 ⟨rfl, hB5⟩
  rw [fcs_digits]
  have hF45 : Below w4.heap.size w4 w5 := fw_trans (fw_new _ _) hB5
  go_wp2_with fail
  refine (same_lit A1 c1 [0x7e, 0, 0, 0x7e] [0x7e, 0, 0, 0x7e] 4 _ w5 (HR1.out.below hF45) (by rfl) rfl).mono ?_
  rintro e w6 ⟨rfl, hB6⟩
  have hF46 := fw_trans hF45 hB6
  go_wp2_with fail
  refine (same_lit A2 c2 [0x7e, 0x7d, 0x5e, 0x81, 0x6a, 0x7e] [0x7e, 0x7d, 0x5e, 0x81, 0x6a, 0x7e] 6 _ w6 (HR2.out.below hF46) (by rfl) rfl).mono ?_
  rintro e w7 ⟨rfl, hB7⟩
  have hF47 := fw_trans hF46 hB7
  go_wp2_with fail
  refine (same_lit A3 c3 [0x7e] [0x7e] 1 _ w7 (HR3.out.below hF47) (by rfl) rfl).mono ?_
  rintro e w8 ⟨rfl, hB8⟩
  have hF48 := fw_trans hF47 hB8
  go_wp2_with fail
  go_ret
  exact ⟨rfl, fw_trans hF hF48⟩
end Go.Proofs.Ytekbbkbknldnaaa
