import Derived.Test.YtpeahilkmlffkaaQSend
set_option linter.unusedSimpArgs false
set_option linter.unusedVariables false
namespace Go.Proofs.Ytpeahilkmlffkaa
open Go Go.RowKit Hd Go.Mem

theorem fr_size : (Try.prog.info? 24).map (·.size) = some 4 := by kernel_rfl
set_option maxRecDepth 100000 in
set_option maxHeartbeats 800000 in
theorem valid_any (A : Option Addr) (c : Nat) (f : Fr) (w : World) :
    Calls Try.prog 34 #[.agg (frCells A c f)] w fun e w' => e = .returned (.bool (okF f)) ∧ Below w.heap.size w w' := by
  obtain ⟨d, s, a, p⟩ := f
  have HW := Lib.hid (blk_second w (.cells (frCells A c ⟨d, s, a, p⟩) 24))
  have HF := Lib.hid (show okF ⟨d, s, a, p⟩ = ([s, a].all okSeq && shortB p && (d || (s == 0 && ((p.length : Int) == 0)))) from rfl)
  obtain ⟨r, hr⟩ : ∃ r, [s, a].all okSeq = r := ⟨_, rfl⟩
  have HR := Lib.hid hr
  rw [hr] at HF
  clear hr
  unfold frCells at HW ⊢
  go_enter Try.func34, Try.ntmps34
  go_wp2_with fail
  refine (allseq_any _ 2 [s, a] _ (by simp) (rd_second _ _ _ _ _ rfl)).mono ?_
  rintro e W ⟨rfl, hw⟩
  have hB : Below w.heap.size w W := by rw [← hw]; exact fw_al (fw_new _ _) _
  have hP : W.heap[w.heap.size]? = some (.cells #[.bool d, .int .i64 s, .int .i64 a, .slice A p.length c] 24 (0, 0)) := by rw [← hw]; exact HW.out _
  have c0 : W.cell? ⟨w.heap.size, 0, none⟩ = some (.bool d) := cellOf hP rfl
  have c1 : W.cell? ⟨w.heap.size, 1, none⟩ = some (.int .i64 s) := cellOf hP rfl
  have c3 : W.cell? ⟨w.heap.size, 3, none⟩ = some (.slice A p.length c) := cellOf hP rfl
  rw [HR.out]
  clear hw HW HR hP
  cases r with
  | false =>
    go_wp2_with fail
    go_ret
    exact ⟨by rw [HF.out]; rfl, hB⟩
  | true =>
    obtain ⟨t, ht⟩ : ∃ t, shortB p = t := ⟨_, rfl⟩
    have HT := Lib.hid (show decide ((p.length : Int) ≤ 256) = t from ht)
    rw [ht] at HF
    clear ht
    cases t with
    | false =>
      go_wp2_with (go_at_call 44; refine (short_any A p.length c W).mono ?_; rw [HT.out]; rintro e w' ⟨rfl, rfl⟩)
      go_ret
      exact ⟨by rw [HF.out]; rfl, hB⟩
    | true =>
      cases d with
      | true =>
        go_wp2_with (go_at_call 44; refine (short_any A p.length c W).mono ?_; rw [HT.out]; rintro e w' ⟨rfl, rfl⟩)
        go_ret
        exact ⟨by rw [HF.out]; rfl, hB⟩
      | false =>
        cases hs : (s == 0) with
        | false =>
          rw [hs] at HF
          go_wp2_with (go_at_call 44; refine (short_any A p.length c W).mono ?_; rw [HT.out]; rintro e w' ⟨rfl, rfl⟩)
          go_ret
          exact ⟨by rw [HF.out]; rfl, hB⟩
        | true =>
          rw [hs] at HF
          cases hl : ((p.length : Int) == 0) with
          | false =>
            rw [hl] at HF
            go_wp2_with (go_at_call 44; refine (short_any A p.length c W).mono ?_; rw [HT.out]; rintro e w' ⟨rfl, rfl⟩)
            go_ret
            exact ⟨by rw [HF.out]; rfl, hB⟩
          | true =>
            rw [hl] at HF
            go_wp2_with (go_at_call 44; refine (short_any A p.length c W).mono ?_; rw [HT.out]; rintro e w' ⟨rfl, rfl⟩)
            go_ret
            exact ⟨by rw [HF.out]; rfl, hB⟩
end Go.Proofs.Ytpeahilkmlffkaa
