import Derived.Test.YtpeahilkmlffkaaQBase
import Derived.Test.YtpeahilkmlffkaaMemL
set_option linter.unusedSimpArgs false
set_option linter.unusedVariables false
namespace Go.Proofs.Ytpeahilkmlffkaa
open Go Go.RowKit Hd Go.Mem

theorem info_sl : (Try.prog.info? 22).map (fun i => (i.zero, i.size, i.bytes)) = some (some (.slice none 0 0), 1, 24) := by kernel_rfl
theorem payload_any (A : Option Addr) (c : Nat) (l : List UInt8) (w : World) (hl : l.length ≤ 140737488351232) (hr : Rd w A l) (hA : A = none → c = 0) :
    Calls Try.prog 46 #[.slice A l.length c] w fun e w' => ∃ v, e = .returned v ∧ OwnB w' w.heap.size 5 v l ∧ Below w.heap.size w w' := by
  go_enter Try.func46, Try.ntmps46
  go_wp2_with (at_builtin; refine app_bytes _ rfl (.tmp 3) (.tmp 4) 22 rfl w w.heap.size 5 Try.underlying22 info_u8 (.slice (some ⟨w.heap.size, 0, none⟩) 0 0) [] rfl (own_fresh w _ #[] _ (Nat.le_refl _) (by decide)) A c l rfl hA (RdC.below hr (fw_new _ _)) (by simp; omega) (fw_new _ _) (by simp) ?_; intro v' w' hO3 hB3 hg3 hat3 hsz3)
  go_ret
  exact ⟨_, rfl, hO3, hB3⟩
def shortB (p : List UInt8) : Bool := decide ((p.length : Int) ≤ 256)
set_option maxRecDepth 100000 in
set_option maxHeartbeats 400000 in
theorem allshort_any (A : Option Addr) (c : Nat) (ps : List (List UInt8)) (w : World) (hz : ps.length ≤ 140737488351232) (hr : RdL w A ps) :
    Calls Try.prog 54 #[.func (.func 44) #[] #[], .slice A ps.length c] w fun e w' => e = .returned (.bool (ps.all shortB)) ∧ w = w' := by
  have Hr := Lib.hid hr
  clear hr
  go_enter Try.func54, Try.ntmps54
  go_wp2
  go_loop [9] (fun i => ∃ k : Nat, k ≤ ps.length ∧ i = .int .i64 k ∧ Hid ((ps.drop k).all shortB = ps.all shortB)) (fun i => ps.length - (intOf i).toNat)
  case atStart => exact ⟨0, by omega, rfl, Lib.hid rfl⟩
  case round =>
    obtain ⟨k, hk, rfl, Hk⟩ := hrel
    by_cases hlt : k < ps.length
    · obtain ⟨b, off, A1, c1, rfl, hc, _, _, _, _⟩ := Hr.out.at k hlt
      have h1 := Hk.out
      rw [List.drop_eq_getElem_cons hlt, List.all_cons] at h1
      generalize ps[k] = z at *
      have H1 := Lib.hid h1
      clear h1 Hk
      cases hz1 : shortB z with
      | true =>
        rw [hz1, Bool.true_and] at H1
        unfold shortB at hz1
        have Hz := Lib.hid hz1
        clear hz1
        go_wp2_with (go_at_call 44; refine (short_any A1 z.length c1 w).mono ?_; rw [Hz.out]; rintro e w' ⟨rfl, rfl⟩)
        go_round
        case rel => exact ⟨k + 1, by omega, by go_num, H1⟩
        case measure => simp [intOf]; omega
      | false =>
        rw [hz1, Bool.false_and] at H1
        unfold shortB at hz1
        have Hz := Lib.hid hz1
        clear hz1
        go_wp2_with (go_at_call 44; refine (short_any A1 z.length c1 w).mono ?_; rw [Hz.out]; rintro e w' ⟨rfl, rfl⟩)
        go_ret
        exact ⟨by rw [← H1.out]; rfl, rfl⟩
    · have : k = ps.length := by omega
      subst this
      have h1 := Hk.out
      rw [List.drop_length, List.all_nil] at h1
      have H1 := Lib.hid h1
      clear h1 Hk
      go_wp2
      go_ret
      exact ⟨by rw [← H1.out]; rfl, rfl⟩
set_option maxRecDepth 100000 in
set_option maxHeartbeats 800000 in
theorem qclone_any (A : Option Addr) (c : Nat) (ps : List (List UInt8)) (w : World) (hz : ps.length ≤ 1000) (h3 : ∀ i (h : i < ps.length), ps[i].length ≤ 100000) (hr : RdL w A ps) :
    Calls Try.prog 45 #[.slice A ps.length c, .func (.func 46) #[] #[]] w fun e w' => ∃ v, e = .returned v ∧ RowB w' w.heap.size 22 v ps ∧ Below w.heap.size w w' := by
  have Hr := Lib.hid hr
  have H3 := Lib.hid h3
  clear hr h3
  go_enter Try.func45, Try.ntmps45
  go_wp2_with fail
  go_loopw [5, 10] (fun v j wr => ∃ (k : Nat), k ≤ ps.length ∧ j = .int .i64 k ∧ RowB wr w.heap.size 22 v (ps.take k) ∧ Below w.heap.size w wr) (fun _ j _ => ps.length - (intOf j).toNat)
  case atStart => exact ⟨0, by omega, rfl, by simpa using RowB.nil _ _ _, Below.refl _ _⟩
  case round =>
    obtain ⟨k, hk, rfl, hR, hB⟩ := hrel
    have HR := Lib.hid hR
    clear hR
    by_cases hlt : k < ps.length
    · obtain ⟨b1, off1, A1, c1, rfl, hc1, hz1, hz2, hA1, hr1⟩ := (Hr.out.below hB).at k hlt
      have hp3 := H3.out k hlt
      have Htk := Lib.hid (List.take_succ_eq_append_getElem hlt)
      have htl : (ps.take k).length = k := by simp; omega
      generalize ps[k] = p at *
      generalize ps.take k = qs at *
      have HA1 := Lib.hid hA1
      have Hr1 := Lib.hid hr1
      clear hA1 hr1
      go_wp2_with fail
      refine (payload_any A1 c1 p wr (by omega) Hr1.out HA1.out).mono ?_
      rintro e w3 ⟨v3, rfl, hO3, hb3⟩
      obtain ⟨A4, c4, rfl, hA4, hc4, hm4, _⟩ := own_form hO3
      have hR4 := own_rdp' hO3 (Nat.le_refl _)
      have hB3 := fw_trans hB hb3
      obtain ⟨vs, ho, hE⟩ := HR.out.below hb3
      have hlt2 : ∀ b, u5.ownBlock = some b → b < wr.heap.size := ownBlock_lt (Classical.choose_spec HR.out).1
      have hEl : Els (fun b => w.heap.size ≤ b ∧ u5.ownBlock ≠ some b) w3 [.slice A4 p.length c4] [p] := ⟨⟨A4, c4, rfl, hc4, hm4, hA4, hR4.imp fun b hb _ => ⟨Nat.le_trans hB.size hb, fun e => by have := hlt2 b e; omega⟩⟩, trivial⟩
      have HA4 := Lib.hid hA4
      have Ho := Lib.hid ho
      have HE := Lib.hid hE
      have HEl := Lib.hid hEl
      have hbd : (qs.length + 1) * 24 ≤ 140737488355328 := by omega
      clear hA4 ho hE hEl hR4 hlt2 hB hb3 hO3
      go_wp2_with (at_builtin; refine app_own _ rfl (.tmp 14) (.tmp 18) 37 rfl w.heap.size 22 (.slice none 0 0) 1 24 Try.underlying37 info_sl rfl (by decide) (by decide) u5 qs.length vs rfl (own_below Ho.out (fw_new _ _)) (some ⟨w3.heap.size, 0, none⟩) 1 1 [.slice A4 p.length c4] rfl rfl (fun e => by cases e) (RdC.new _ _ _ _) (fun u hu => by simp only [List.mem_singleton] at hu; subst hu; rfl) hbd (by have := hB3.size; simp; omega) ?_; intro v5 w5 ho5 hg5 hat5)
      go_roundw
      case rel =>
        refine ⟨k + 1, by omega, by go_num, ?_, (fw_al hB3 _).grown hg5 (fw_al hB3 _).size (own_base Ho.out)⟩
        rw [Htk.out]
        refine RowB.pushed (HE.out.move (fun b _ hl => ?_) (fun _ h _ => h)) (us := [.slice A4 p.length c4]) ?_ (by simp) ho5 hg5 hat5
        · exact heap_alloc_old _ _ hl
        · exact HEl.out.move (fun b _ hl => heap_alloc_old _ _ hl) (fun _ h _ => h)
      case measure => simp [intOf]; omega
    · have : k = ps.length := by omega
      subst this
      have HR2 := Lib.hid (List.take_length (l := ps) ▸ HR.out)
      clear HR
      go_wp2_with fail
      go_ret
      exact ⟨_, rfl, HR2.out, hB⟩
end Go.Proofs.Ytpeahilkmlffkaa
