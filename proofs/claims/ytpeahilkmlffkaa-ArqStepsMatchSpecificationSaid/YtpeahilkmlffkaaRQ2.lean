import Derived.Test.YtpeahilkmlffkaaRQ1
set_option linter.unusedSimpArgs false
set_option linter.unusedVariables false
namespace Go.Proofs.Ytpeahilkmlffkaa
open Go Go.RowKit Hd Go.Mem

set_option maxRecDepth 100000 in
set_option maxHeartbeats 2000000 in
theorem copied_any (A : Option Addr) (c : Nat) (ps : List (List UInt8)) (w : World) (hz : ps.length ≤ 1000) (h3 : ∀ i (h : i < ps.length), ps[i].length ≤ 100000) (hr : RdL w A ps) :
    Calls Try.prog 47 #[.slice A ps.length c] w fun e w' => ∃ v, e = .returned v ∧ RowB w' w.heap.size 22 v ps ∧ Below w.heap.size w w' := by
  have Hr := Lib.hid hr
  have H3 := Lib.hid h3
  clear hr h3
  go_enter Try.func47, Try.ntmps47
  go_wp2_with fail
  go_loopw [3, 4] (fun v j wr => ∃ (k : Nat), k ≤ ps.length ∧ j = .int .i64 k ∧ RowB wr w.heap.size 22 v (ps.take k) ∧ Below w.heap.size w wr) (fun _ j _ => ps.length - (intOf j).toNat)
  case atStart => exact ⟨0, by omega, rfl, by simpa using RowB.nil _ _ _, Below.refl _ _⟩
  case round =>
    obtain ⟨k, hk, rfl, hR, hB⟩ := hrel
    have HR := Lib.hid hR
    clear hR
    by_cases hlt : k < ps.length
    · obtain ⟨b1, off1, A1, c1, rfl, hc1, hz1, hz2, hA1, hr1⟩ := (Hr.out.below hB).at k hlt
      have hp3 := H3.out k hlt
      have Htk := Lib.hid (List.take_succ_eq_append_getElem hlt)
      have htl : (ps.take k).length = k := by simp; omega
      generalize ps[k] = p at *
      generalize ps.take k = qs at *
      have HA1 := Lib.hid hA1
      have Hr1 := Lib.hid hr1
      have hbd : (qs.length + 1) * 24 ≤ 140737488355328 := by omega
      have hc1a := fun o => (show (wr.alloc o).cell? ⟨b1, off1 + k, none⟩ = some (.slice A1 p.length c1) from (fw_new wr o).cell (World.block_lt_of_cell? wr _ hc1) |>.trans hc1)
      clear hA1 hr1
      go_wp2_with (first | (at_builtin; refine app_bytes _ rfl (.tmp 12) (.tmp 16) 22 rfl wr wr.heap.size 5 Try.underlying22 info_u8 (.slice (some ⟨wr.heap.size, 0, none⟩) 0 0) [] rfl (own_fresh wr _ #[] _ (Nat.le_refl _) (by decide)) A1 c1 p rfl HA1.out (RdC.below Hr1.out (fw_new _ _)) (by simp; omega) (fw_new _ _) (by simp) ?_; intro v3 w3 hO3 hb3 hg3 hat3 hsz3; obtain ⟨A4, c4, rfl, hA4, hc4, hm4, _⟩ := own_form hO3; have hR4 := own_rdp' hO3 (Nat.le_refl _); have hB3 := fw_trans hB hb3; obtain ⟨vs, ho, hE⟩ := HR.out.below hb3; have HA4 := Lib.hid hA4; have Ho := Lib.hid ho; have HE := Lib.hid hE; have HR4 := Lib.hid hR4; clear hA4 ho hE hR4 hO3 hg3 hat3) | (at_builtin; refine app_own _ rfl (.tmp 11) (.tmp 18) 37 rfl w.heap.size 22 (.slice none 0 0) 1 24 Try.underlying37 info_sl rfl (by decide) (by decide) u3 qs.length vs rfl (own_below Ho.out (fw_new _ _)) (some ⟨w3.heap.size, 0, none⟩) 1 1 [.slice A4 p.length c4] rfl rfl (fun e => by cases e) (RdC.new _ _ _ _) (fun u hu => by simp only [List.mem_singleton] at hu; subst hu; rfl) hbd (by have := hB3.size; simp; omega) ?_; intro v5 w5 ho5 hg5 hat5))
      have hlt2 : ∀ b, u3.ownBlock = some b → b < wr.heap.size := ownBlock_lt (Classical.choose_spec HR.out).1
      have hEl : Els (fun b => w.heap.size ≤ b ∧ u3.ownBlock ≠ some b) w3 [.slice A4 p.length c4] [p] := ⟨⟨A4, c4, rfl, hc4, hm4, HA4.out, HR4.out.imp fun b hb _ => ⟨Nat.le_trans hB.size hb, fun e => by have := hlt2 b e; omega⟩⟩, trivial⟩
      have HEl := Lib.hid hEl
      clear hEl hlt2
      go_roundw
      case rel =>
        refine ⟨k + 1, by omega, by go_num, ?_, (fw_al hB3 _).grown hg5 (fw_al hB3 _).size (own_base Ho.out)⟩
        rw [Htk.out]
        refine RowB.pushed (HE.out.move (fun b _ hl => ?_) (fun _ h _ => h)) (us := [.slice A4 p.length c4]) ?_ (by simp) ho5 hg5 hat5
        · exact heap_alloc_old _ _ hl
        · exact HEl.out.move (fun b _ hl => heap_alloc_old _ _ hl) (fun _ h _ => h)
      case measure => simp [intOf]; omega
    · have : k = ps.length := by omega
      subst this
      have HR2 := Lib.hid (List.take_length (l := ps) ▸ HR.out)
      clear HR
      go_wp2_with fail
      go_ret
      exact ⟨_, rfl, HR2.out, hB⟩
end Go.Proofs.Ytpeahilkmlffkaa
