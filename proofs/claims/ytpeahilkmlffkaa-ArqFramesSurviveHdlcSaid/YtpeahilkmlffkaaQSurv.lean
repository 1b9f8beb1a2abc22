import Derived.Test.YtpeahilkmlffkaaQFrm
set_option linter.unusedSimpArgs false
set_option linter.unusedVariables false
namespace Go.Proofs.Ytpeahilkmlffkaa
open Go Go.RowKit Hd Go.Mem

set_option maxRecDepth 100000 in
set_option maxHeartbeats 4000000 in
theorem surv_walk (A : Option Addr) (c : Nat) (f : Fr) (w : World) (hi : InB w A c f.p) :
    Calls Try.prog 3 #[.agg (frCells A c f)] w fun e w' => e = .returned (.bool true) ∧ Below w.heap.size w w' := by
  have Hi := Lib.hid hi
  have h0 := heap_alloc_new w (.cells (frCells A c f) 24)
  have hB0 := fw_new w (.cells (frCells A c f) 24)
  clear hi
  go_enter Try.func3, Try.ntmps3
  go_wp2_with fail
  refine (sane_any _).mono ?_
  rintro e W1 ⟨rfl, hb1⟩
  have hF1 := blk_below h0 hb1
  have hB1 := fw_trans hB0 hb1
  have q3 : W1.cell? ⟨w.heap.size, 3, none⟩ = some (.slice A f.p.length c) := cellOf hF1 rfl
  clear h0 hB0 hb1
  by_cases h400 : 400 < f.p.length
  · have h4 : ((400 : Int) < (f.p.length : Int)) = True := eq_true (by omega)
    go_wp2_with fail
    go_ret
    exact ⟨rfl, hB1⟩
  · have h4 : ((400 : Int) < (f.p.length : Int)) = False := eq_false (by omega)
    go_wp2_with (first | (refine wpList_load_row rfl 24 (.tmp 1) rfl w.heap.size rfl 24 (frCells A c f) (0, 0) _ hF1 Try.underlying24 rfl fr_size ?_))
    refine (fenc_any A c f W1 (RdC.below Hi.out.rd hB1) Hi.out.nil).mono ?_
    intro e W2 hh
    unfold FEncPost at hh
    cases hok : okF f with
    | false =>
      rw [if_neg (by simp [hok])] at hh
      obtain ⟨hb2, rfl⟩ := hh
      have hB2 := fw_trans hB1 hb2
      clear hok q3
      go_wp2_with fail
      go_ret
      exact ⟨rfl, hB2⟩
    | true =>
      rw [if_pos hok] at hh
      obtain ⟨hb2, A2, c2, rfl, hi2⟩ := hh
      obtain ⟨E, hE, hD, hl⟩ : ∃ E, fencE f = E ∧ fdec E = .ok f ∧ E.length ≤ 400 := ⟨_, rfl, fdec_enc hok, fenc_len hok⟩
      rw [hE] at hi2 ⊢
      have HD := Lib.hid hD
      have hB2 := fw_trans hB1 hb2
      have hF2 := blk_below hF1 hb2
      have Hi2 := Lib.hid hi2
      have Hfs := Lib.hid (sealed_length E (fcs E))
      have Hdf := Lib.hid (decode_frame E (by omega))
      clear hok hE hD q3 hi2 hB1 hF1 hb2
      go_wp2_with fail
      refine (fdec_any A2 c2 E W2 (by omega) Hi2.out.rd Hi2.out.nil Hi2.out.le).mono ?_
      intro e W3 hh
      unfold FDecPost at hh
      rw [HD.out] at hh
      obtain ⟨hb3, A3, c3, rfl, hi3⟩ := hh
      have Hi3 := Lib.hid hi3
      clear hi3
      go_wp2_with (first | (refine wpList_store_new rfl 24 (.tmp 5) (.tmp 38) rfl (frCells A3 c3 f) rfl rfl 24 _ fr_size rfl (fr_one' _ _ _) ?_; intro W4 hb4 hv4))
      have hb24 := fw_trans hb3 hb4
      have hB4 := fw_trans hB2 hb24
      have hF4 := blk_below hF2 hb24
      have Hi34 := Lib.hid (Hi3.out.below hb4)
      have Hi24 := Lib.hid (Hi2.out.below hb24)
      clear hb3 hb4 hb24 hB2 hF2
      refine (enc_any A2 c2 E W4 (by omega) Hi24.out.rd Hi24.out.nil).mono ?_
      rintro e W5 ⟨v5, rfl, hO5, hb5⟩
      obtain ⟨A5, c5, rfl, hA5, hc5, hm5, hR5⟩ := own_form hO5
      have HR5 := Lib.hid hR5
      have hB5 := fw_trans hB4 hb5
      have hF5 := blk_below hF4 hb5
      have hv5 := blk_below hv4 hb5
      have Hi35 := Lib.hid (Hi34.out.below hb5)
      have hfl4 : 4 ≤ (frame E).length := Hfs.out.1
      have hflm : (frame E).length ≤ 9000 := by have := Hfs.out.2; unfold frame; omega
      clear hO5 hR5 hB4 hF4 hv4 hb5
      go_wp2_with fail
      generalize hf : frame E = fr at *
      refine (dec_in A5 c5 fr 0 W5 (by omega) (by omega) HR5.out hc5).mono ?_
      rintro e W6 ⟨hb6, hp⟩
      rw [show decE fr ((0 : Nat) : Int) = .ok (E, fr.length) from Hdf.out] at hp
      obtain ⟨A6, c6, rfl, hc6, hm6, hA6, hR6, _, _⟩ := hp
      have HR6 := Lib.hid hR6.c
      have HA6 := Lib.hid hA6
      clear hR6 hA6
      go_wp2_with fail
      refine (fdec_any A6 c6 E W6 (by omega) HR6.out HA6.out hc6).mono ?_
      intro e W7 hh
      unfold FDecPost at hh
      rw [HD.out] at hh
      obtain ⟨hb7, A7, c7, rfl, hi7⟩ := hh
      have hb57 := fw_trans hb6 hb7
      have hF7 := blk_below hF5 hb57
      have hv7 := blk_below hv5 hb57
      have hB7 := fw_trans hB5 hb57
      have Hi37 := Lib.hid (Hi35.out.below hb57)
      have Hi7 := Lib.hid hi7
      clear hi7 hb6 hb7 hb57 hF5 hv5 hB5
      go_wp2_with (first | (refine wpList_store_new rfl 24 (.tmp 12) (.tmp 60) rfl (frCells A7 c7 f) rfl rfl 24 _ fr_size rfl (fr_one' _ _ _) ?_; intro W8 hb8 hv8; have hF8 := blk_below hF7 hb8; have hv78 := blk_below hv7 hb8) | (refine wpList_load_row rfl 24 (.tmp 5) rfl W3.heap.size rfl 24 #[.bool f.d, .int .i64 f.s, .int .i64 f.a, .slice A3 f.p.length c3] (0, 0) _ hv78 Try.underlying24 rfl fr_size ?_) | (refine wpList_load_row rfl 24 (.tmp 12) rfl W7.heap.size rfl 24 #[.bool f.d, .int .i64 f.s, .int .i64 f.a, .slice A7 f.p.length c7] (0, 0) _ hv8 Try.underlying24 rfl fr_size ?_) | (refine wpList_load_row rfl 24 (.tmp 1) rfl w.heap.size rfl 24 #[.bool f.d, .int .i64 f.s, .int .i64 f.a, .slice A f.p.length c] (0, 0) _ (alloc_blk _ hF8) Try.underlying24 rfl fr_size ?_))
      have hI1 : InF ((W8.alloc (.cells #[.bool f.d, .int .i64 f.s, .int .i64 f.a, .slice A3 f.p.length c3, .bool f.d, .int .i64 f.s, .int .i64 f.a, .slice A7 f.p.length c7] 24)).alloc (.cells #[.bool f.d, .int .i64 f.s, .int .i64 f.a, .slice A f.p.length c, .bool f.d, .int .i64 f.s, .int .i64 f.a, .slice A f.p.length c] 24)) (some ⟨W8.heap.size, 0, none⟩) 2 [f, f] := (inF_two (Hi37.out.below hb8) (Hi7.out.below hb8)).below (fw_new _ _)
      have hB8 := fw_trans hB7 hb8
      have hi8 := Hi.out.below hB8
      have hI2 := inF_two (f := f) (g := f) (W := W8.alloc (.cells #[.bool f.d, .int .i64 f.s, .int .i64 f.a, .slice A3 f.p.length c3, .bool f.d, .int .i64 f.s, .int .i64 f.a, .slice A7 f.p.length c7] 24)) (hi8.below (fw_new _ _)) (hi8.below (fw_new _ _))
      rw [World.size_alloc] at hI2
      refine (sameF_any _ _ 2 2 [f, f] _ (by simp) hI1 hI2).mono ?_
      rintro e W9 ⟨rfl, hb9⟩
      have hB9 := fw_trans (fw_al (fw_al hB8 _) _) hb9
      clear hI1 hI2 hi8 hb8 hb9 hB8 hB7 hv8 hv78 hF8 hF7 hv7
      go_wp2_with fail
      go_ret
      exact ⟨rfl, hB9⟩
end Go.Proofs.Ytpeahilkmlffkaa
