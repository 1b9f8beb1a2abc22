import Derived.Test.YtaoiklfkkipcaaaJOne
import Derived.Test.YtaoiklfkkipcaaaJWrit
import Derived.Test.YtaoiklfkkipcaaaJSurvL
set_option linter.unusedSimpArgs false
set_option linter.unusedVariables false
namespace Go.Proofs.Ytaoiklfkkipcaaa
open Go Go.RowKit Hd Go.Mem

theorem InR.take {w : World} {A : Option Addr} {c : Nat} {rs : List Rc} (h : InR w A c rs) (k : Nat) : InR w A c (rs.take k) := by
  refine ⟨?_, h.nil, by have := h.le; simp; omega, h.cap⟩
  have h1 := h.rd.take (k * 8)
  have e : (flatR rs).take (k * 8) = flatR (rs.take k) := by
    clear h h1
    induction k generalizing rs with
    | zero => simp [flatR]
    | succ k ih =>
      cases rs with
      | nil => simp [flatR]
      | cons r t =>
        have e1 : flatR (r :: t) = (rcCells r).toList ++ flatR t := by simp [flatR]
        have e2 : flatR ((r :: t).take (k + 1)) = (rcCells r).toList ++ flatR (t.take k) := by simp [flatR]
        have el : (rcCells r).toList.length = 8 := rfl
        rw [e1, e2, ← ih, show (k + 1) * 8 = (rcCells r).toList.length + k * 8 by omega, List.take_length_add_append]
  rwa [e] at h1
theorem slc_h8 (A : Option Addr) (n c : Nat) (h : Nat) (hc : h ≤ c) :
    ∀ W, (Instr.slice 22 (.slice A n c) none (some (.int .i64 (h : Int))) none).run Try.prog W = .ok (.slice A h c) W := by
  obtain ⟨i, hi, hsz⟩ := Option.map_eq_some_iff.1 info_rc
  intro W
  simp only [Instr.slice, Sem.run_bind, run_underlying Try.underlying22, Result.andThen]
  rw [show (Instr.sliceBounds true n c none (some (.int .i64 (h : Int))) none).run Try.prog W = .ok (0, h, c) W by simp [Instr.sliceBounds, run_sliceBound, (by omega : (h : Int) ≤ c)]]
  simp [sizeOf, typeInfo, hi]
  cases A <;> simp [Addr.add]
set_option maxRecDepth 100000 in
set_option maxHeartbeats 8000000 in
theorem surv_walk (A : Option Addr) (c : Nat) (rs : List Rc) (safe keep : Int) (w : World) (hi : InR w A c rs) (hok : ∀ r ∈ rs, r.ok) :
    Calls Try.prog 8 #[.slice A rs.length c, .int .i64 safe, .int .i64 keep] w fun e w' => e = .returned (.bool true) ∧ Below w.heap.size w w' := by
  have Hi := Lib.hid hi
  have Hok := Lib.hid hok
  have hmax : rs.length ≤ 9223372036854775807 := by have := hi.le; have := hi.cap; unfold maxLen at this; omega
  clear hi hok
  go_enter Try.func8, Try.ntmps8
  go_wp2_with fail
  refine (sane_any _).mono ?_
  rintro e W1 ⟨rfl, hB1⟩
  go_wp2_with fail
  refine (jfew_any A c rs W1 (by omega) (Hi.out.below hB1)).mono ?_
  rintro e W1' ⟨fw, rfl, hfw, hw'⟩
  subst hw'
  cases fw with
  | false =>
    clear hfw
    go_wp2_with fail
    go_ret
    exact ⟨rfl, hB1⟩
  | true =>
    obtain ⟨hn, hp15⟩ := hfw rfl
    have Hg : Hid (goodR rs) := Lib.hid fun r hr => ⟨Hok.out r hr, hp15 r hr⟩
    clear hfw hp15
    by_cases g1 : safe < 0
    · have g1' : (safe < 0) = True := eq_true g1
      go_wp2_with fail
      go_ret
      exact ⟨rfl, hB1⟩
    have g1' : (safe < 0) = False := eq_false g1
    by_cases g2 : (rs.length : Int) < safe
    · have g2' : ((rs.length : Int) < safe) = True := eq_true g2
      go_wp2_with fail
      go_ret
      exact ⟨rfl, hB1⟩
    have g2' : ((rs.length : Int) < safe) = False := eq_false g2
    by_cases g3 : keep < 0
    · have g3' : (keep < 0) = True := eq_true g3
      go_wp2_with fail
      go_ret
      exact ⟨rfl, hB1⟩
    have g3' : (keep < 0) = False := eq_false g3
    obtain ⟨a, b, X, cr, hrd, hab, hal, hcr, hrx, hct, hcs, hcl, hfull, hXl⟩ := surv_law (safe := safe) (keep := keep) Hg.out hn (by omega) (by omega) (by omega)
    have HRs := Lib.hid hab
    have hwl := wdisk_len (safe := safe) (k := rs.length) Hg.out hn
    have HW := Lib.hid (fun (W : World) (h : InR W A c rs) => written_any A c rs safe W hn Hg.out h)
    generalize wdisk rs safe rs.length = Y at *
    have HRY := Lib.hid (fun (A1 A2 : Option Addr) (c1 c2 : Nat) W h => read_ok hrd A1 A2 c1 c2 W (by omega) (by omega) h)
    have HRX := Lib.hid (fun (A1 A2 : Option Addr) (c1 c2 : Nat) W h => read_ok hrx A1 A2 c1 c2 W (by simp only; omega) (by simp) h)
    have HCY := Lib.hid hcr
    have HCT := Lib.hid hct
    have Hfull := Lib.hid hfull
    have gsafe : ((a.length : Int) == safe) = true := by simpa using hal
    have gsafe' : ((a.length : Int) != safe) = false := by simpa using hal
    have gcs : (safe ≤ (cr.length : Int)) = True := eq_true hcs
    have gcl : ((cr.length : Int) ≤ (rs.length : Int)) = True := eq_true (by omega)
    have hra : a.length ≤ 10 := by omega
    have hrb : b.length ≤ 10 := by have := congrArg List.length hab; simp at this; omega
    have Hla : Hid (rs.length = a.length + b.length) := Lib.hid (by rw [← hab]; simp)
    have Hfl : Hid (flatR rs = flatR a ++ flatR b) := Lib.hid (by rw [← hab]; simp [flatR])
    clear hrd hab hal hcr hrx hct hcs hfull Hg
    go_wp2_with fail
    refine (HW.out _ (Hi.out.below hB1)).mono ?_
    rintro e W2 ⟨B1, B2, e1, e2, rfl, hD2, hb2⟩
    have hB_w2 := fw_trans hB1 hb2
    clear hB1
    have HDY_w2 := Lib.hid hD2
    clear hD2 hb2 HW
    go_wp2_with (first | (refine wpList_store_new rfl 27 (.tmp 7) (.tmp 40) rfl (dkCells B1 B2 e1 e2 Y) rfl rfl 27 _ dk_size rfl (dk_one _ _ _ _ _) ?_; intro W3 hb3 hv3; have HDY_w3 := Lib.hid (HDY_w2.out.below hb3); have hB_w3 := fw_trans hB_w2 hb3; clear HDY_w2 hB_w2) | (refine wpList_load_row rfl 27 (.tmp 7) rfl (W2.heap.size) rfl 27 (dkCells B1 B2 e1 e2 Y) (0, 0) _ hv3 Try.underlying27 rfl dk_size ?_))
    refine (HRY.out B1 B2 e1 e2 W3 HDY_w3.out).mono ?_
    rintro e W4 ⟨A3, c3, A4, c4, rfl, hra4, hrb4, hb4⟩
    have HDY_w4 := Lib.hid (HDY_w3.out.below hb4)
    have hVY_w4 := blk_below hv3 hb4
    have hB_w4 := fw_trans hB_w3 hb4
    clear HDY_w3 hv3 hB_w3
    have HIa_w4 := Lib.hid (RowR.inR hra4)
    have HIb_w4 := Lib.hid (RowR.inR hrb4)
    clear hra4 hrb4 hb4 HRY
    go_wp2_with (first | (refine BigFrame.wpList_want (by rfl) (fun K hK => ?_); refine wp_app _ (.const (.slice none 0 0)) (.tmp 61) 22 rfl W4.heap.size 38 (.agg #[.int .i64 0, .int .i64 0, .int .i64 0, .string ⟨#[]⟩, .int .i64 0, .int .i64 0, .int .i64 0, .int .i64 0]) 8 72 Try.underlying22 info_rc rfl (by decide) (by decide) (.slice none 0 0) 0 [] rfl (World.ownsRow_nil _ _ _ _) A3 a.length c3 (flatR a) rfl (flatR_len a) HIa_w4.out.nil HIa_w4.out.rd (flatR_one a) (by omega) (Nat.le_refl _) ?_; intro v8 Wz ho8 hg8 hat8; have hbz : Below W4.heap.size W4 Wz := (Below.refl _ _).grown hg8 (Nat.le_refl _) (fun k hk => by cases hk); refine hK _ _ ?_) | (refine BigFrame.wpList_want (by rfl) (fun K hK => ?_); refine wp_app _ (.tmp 62) (.tmp 63) 22 rfl W4.heap.size 38 (.agg #[.int .i64 0, .int .i64 0, .int .i64 0, .string ⟨#[]⟩, .int .i64 0, .int .i64 0, .int .i64 0, .int .i64 0]) 8 72 Try.underlying22 info_rc rfl (by decide) (by decide) v8 (0 + a.length) ([] ++ flatR a) rfl ho8 A4 b.length c4 (flatR b) rfl (flatR_len b) (HIb_w4.out.below hbz).nil (HIb_w4.out.below hbz).rd (flatR_one b) (by omega) hbz.size ?_; intro v9 Wq ho9 hg9 hat9; have hbq : Below W4.heap.size W4 Wq := hbz.grown hg9 hbz.size (own_base ho8); have hw9 : Wq.ownsRow W4.heap.size 38 8 v9 rs.length (flatR rs) := (by rw [Hfl.out, Hla.out]; simpa using ho9); obtain ⟨A9, c9, rfl, _⟩ := own_form8 hw9; have HI9 := Lib.hid (RowR.inR hw9); clear ho9 hg9 hat9 hw9 ho8 hg8 hat8; refine hK _ _ ?_))
    refine (refrecs_any A9 A c9 c rs Wq (by omega) HI9.out ((Hi.out.below hB_w4).below hbq)).mono ?_
    rintro e W5 ⟨rfl, hb5⟩
    have hbq5 := fw_trans hbq hb5
    have HDY_w5 := Lib.hid (HDY_w4.out.below hbq5)
    have hVY_w5 := blk_below hVY_w4 hbq5
    have HIa_w5 := Lib.hid (HIa_w4.out.below hbq5)
    have HIb_w5 := Lib.hid (HIb_w4.out.below hbq5)
    have hB_w5 := fw_trans hB_w4 hbq5
    clear HDY_w4 hVY_w4 HIa_w4 HIb_w4 hB_w4
    clear hbq hb5 hbq5 hbz HI9 Hfl Hla
    go_wp2_with (first | (refine wpList_load_row rfl 27 (.tmp 7) rfl (W2.heap.size) rfl 27 (dkCells B1 B2 e1 e2 Y) (0, 0) _ hVY_w5 Try.underlying27 rfl dk_size ?_))
    refine (crash_any B1 B2 e1 e2 Y keep W5 (by omega) (by omega) HDY_w5.out).mono ?_
    intro e W6 hh
    rw [HCY.out] at hh
    obtain ⟨C1, C2, k1, k2, rfl, hD6, hb6⟩ := hh
    have HDY_w6 := Lib.hid (HDY_w5.out.below hb6)
    have hVY_w6 := blk_below hVY_w5 hb6
    have HIa_w6 := Lib.hid (HIa_w5.out.below hb6)
    have HIb_w6 := Lib.hid (HIb_w5.out.below hb6)
    have hB_w6 := fw_trans hB_w5 hb6
    clear HDY_w5 hVY_w5 HIa_w5 HIb_w5 hB_w5
    have HDX_w6 := Lib.hid hD6
    clear hD6 hb6 HCY
    go_wp2_with (first | (refine wpList_store_new rfl 27 (.tmp 12) (.tmp 73) rfl (dkCells C1 C2 k1 k2 ⟨X, []⟩) rfl rfl 27 _ dk_size rfl (dk_one _ _ _ _ _) ?_; intro W7 hb7 hv7; have HDY_w7 := Lib.hid (HDY_w6.out.below hb7); have hVY_w7 := blk_below hVY_w6 hb7; have HIa_w7 := Lib.hid (HIa_w6.out.below hb7); have HIb_w7 := Lib.hid (HIb_w6.out.below hb7); have HDX_w7 := Lib.hid (HDX_w6.out.below hb7); have hB_w7 := fw_trans hB_w6 hb7; clear HDY_w6 hVY_w6 HIa_w6 HIb_w6 HDX_w6 hB_w6) | (refine wpList_load_row rfl 27 (.tmp 12) rfl (W6.heap.size) rfl 27 (dkCells C1 C2 k1 k2 ⟨X, []⟩) (0, 0) _ hv7 Try.underlying27 rfl dk_size ?_))
    refine (HRX.out C1 C2 k1 k2 W7 HDX_w7.out).mono ?_
    rintro e W8 ⟨A5, c5, A6, c6, rfl, hrc, _, hb8⟩
    have HDY_w8 := Lib.hid (HDY_w7.out.below hb8)
    have hVY_w8 := blk_below hVY_w7 hb8
    have HIa_w8 := Lib.hid (HIa_w7.out.below hb8)
    have HIb_w8 := Lib.hid (HIb_w7.out.below hb8)
    have HDX_w8 := Lib.hid (HDX_w7.out.below hb8)
    have hVX_w8 := blk_below hv7 hb8
    have hB_w8 := fw_trans hB_w7 hb8
    clear HDY_w7 hVY_w7 HIa_w7 HIb_w7 HDX_w7 hv7 hB_w7
    have HIc_w8 := Lib.hid (RowR.inR hrc)
    clear hrc hb8 HRX
    have y1 : W8.cell? ⟨W2.heap.size, 1, none⟩ = some (.slice B2 Y.vol.length e2) := cellOf hVY_w8 rfl
    have hsl := slc_h8 A rs.length c cr.length (by have := Hi.out.le; omega)
    go_wp2_with fail
    refine (refrecs_any A5 A c5 c cr W8 (by omega) HIc_w8.out (by have h9 := ((Hi.out.below hB_w8).take cr.length); rwa [← HCT.out] at h9)).mono ?_
    rintro e W9 ⟨rfl, hb9⟩
    have z1 : W9.cell? ⟨W2.heap.size, 1, none⟩ = some (.slice B2 Y.vol.length e2) := cellOf (blk_below hVY_w8 hb9) rfl
    have hBf := fw_trans hB_w8 hb9
    clear y1 HDY_w8 hVY_w8 HIa_w8 HIb_w8 HDX_w8 hVX_w8 HIc_w8 hB_w8 hb9
    by_cases gv : keep < (Y.vol.length : Int)
    · have gv' : (keep < (Y.vol.length : Int)) = True := eq_true gv
      go_wp2_with fail
      go_ret
      exact ⟨rfl, hBf⟩
    · have gv' : (keep < (Y.vol.length : Int)) = False := eq_false gv
      have gq : ((cr.length : Int) == (rs.length : Int)) = true := by have := Hfull.out (by omega); simp [this]
      go_wp2_with fail
      go_ret
      exact ⟨rfl, hBf⟩
end Go.Proofs.Ytaoiklfkkipcaaa
