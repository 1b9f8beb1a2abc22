import Derived.Test.YtpeahilkmlffkaaQClone
set_option linter.unusedSimpArgs false
set_option linter.unusedVariables false
namespace Go.Proofs.Ytpeahilkmlffkaa
open Go Go.RowKit Hd Go.Mem

/-- a link end -/
structure LE where
  q : List (List UInt8)
  b : Int
  s : Int
  x : Int
  o : Bool
  d : Int
def leCells (A : Option Addr) (c : Nat) (l : LE) : Array Value := #[.slice A l.q.length c, .int .i64 l.b, .int .i64 l.s, .int .i64 l.x, .bool l.o, .int .i64 l.d]
def okB (l : LE) : Bool := okSeq l.b && okSeq l.x
def okS (l : LE) : Bool := decide (0 ≤ l.s) && decide (l.s ≤ 7) && decide (l.s ≤ (l.q.length : Int)) && l.q.all shortB
def okD (l : LE) : Bool := if l.s = 0 then l.d == -1 else decide (0 ≤ l.d) && decide (l.d ≤ 1099511627779)
def chk (l : LE) : Nat := if okB l = false then 1 else if okS l = false then 1 else if okD l = false then 1 else if 64 < l.q.length then 2 else 0
theorem chk_b {l : LE} (h : okB l = false) : chk l = 1 := by unfold chk; rw [if_pos h]
theorem chk_s {l : LE} (h0 : okB l = true) (h : okS l = false) : chk l = 1 := by unfold chk; rw [if_neg (by simp [h0]), if_pos h]
theorem chk_d {l : LE} (h0 : okB l = true) (h1 : okS l = true) (h : okD l = false) : chk l = 1 := by unfold chk; rw [if_neg (by simp [h0]), if_neg (by simp [h1]), if_pos h]
theorem chk_l {l : LE} (h0 : okB l = true) (h1 : okS l = true) (h2 : okD l = true) : chk l = if 64 < l.q.length then 2 else 0 := by unfold chk; rw [if_neg (by simp [h0]), if_neg (by simp [h1]), if_neg (by simp [h2])]
theorem rd_second (w : World) (o : Obj) (cs : Array Value) (e : TypeId) (xs : List Value) (h : cs.toList = xs) : RdC ((w.alloc o).alloc (.cells cs e)) (some ⟨w.heap.size + 1, 0, none⟩) xs := by
  have := RdC.new (w.alloc o) cs e (0, 0)
  rw [h] at this
  simpa using this
theorem blk_second (w : World) (o o2 : Obj) : ((w.alloc o).alloc o2).heap[w.heap.size]? = some o := by
  rw [heap_alloc_old _ _ (by simp)]
  exact heap_alloc_new _ _
/-- what Check finds behind its first question -/
structure ChkAt (w : World) (A : Option Addr) (c : Nat) (l : LE) (W : World) : Prop where
  below : Below w.heap.size w W
  c0 : W.cell? ⟨w.heap.size, 0, none⟩ = some (.slice A l.q.length c)
  c2 : W.cell? ⟨w.heap.size, 2, none⟩ = some (.int .i64 l.s)
  c5 : W.cell? ⟨w.heap.size, 5, none⟩ = some (.int .i64 l.d)
theorem ChkAt.mk2 (w : World) (A : Option Addr) (c : Nat) (l : LE) (o2 : Obj) : ChkAt w A c l ((w.alloc (.cells (leCells A c l) 39)).alloc o2) := by
  have h := blk_second w (.cells (leCells A c l) 39) o2
  refine ⟨fw_al (fw_new _ _) _, ?_, ?_, ?_⟩ <;> rw [cell_of_row _ _ _ _ _ _ h] <;> rfl
set_option maxRecDepth 100000 in
set_option maxHeartbeats 800000 in
theorem check_any (A : Option Addr) (c : Nat) (l : LE) (w : World) (hq : l.q.length ≤ 140737488351232) (hr : RdL w A l.q) :
    Calls Try.prog 27 #[.agg (leCells A c l)] w fun e w' => e = .returned (.int .i64 (chk l : Int)) ∧ Below w.heap.size w w' := by
  have Hr := Lib.hid hr
  have HC := Lib.hid (ChkAt.mk2 w A c l)
  obtain ⟨r, hB0, hB⟩ : ∃ r, [l.b, l.x].all okSeq = r ∧ okB l = r := ⟨_, rfl, by unfold okB; simp⟩
  have HB := Lib.hid hB0
  have HB2 := Lib.hid hB
  clear hr hB0 hB
  unfold leCells at HC ⊢
  obtain ⟨q, b, s, x, o, d⟩ := l
  simp only at hq HC Hr HB
  obtain ⟨run, hrun, hd⟩ : ∃ run : Bool, (decide (0 ≤ d) && decide (d ≤ 1099511627779)) = run ∧ (d < 0 ∨ 0 ≤ d) := ⟨_, rfl, by omega⟩
  have Hrun := Lib.hid hrun
  clear hrun
  rcases hd with hd | hd
  all_goals
    go_enter Try.func27, Try.ntmps27
    go_wp2_with fail
    refine (allseq_any _ 2 [b, x] _ (by simp) (rd_second _ _ _ _ _ rfl)).mono ?_
    rintro e W ⟨rfl, hw⟩
    have hW : ChkAt w A c ⟨q, b, s, x, o, d⟩ W := by rw [← hw]; exact HC.out _
    clear hw HC
    obtain ⟨hbl, hc0, hc2, hc5⟩ := hW
    simp only at hc0 hc2 hc5
    rw [HB.out]
    clear HB
    cases r with
    | false =>
      go_wp2_with fail
      go_ret
      exact ⟨by rw [chk_b HB2.out]; rfl, hbl⟩
    | true =>
      by_cases hs : s < 0
      · have hs0 : decide (s < 0) = true := by simpa using hs
        have Hk := Lib.hid (chk_s HB2.out (show okS ⟨q, b, s, x, o, d⟩ = false by unfold okS; simp; omega))
        go_wp2_with fail
        go_ret
        exact ⟨by rw [Hk.out]; rfl, hbl⟩
      · have hs0 : decide (s < 0) = false := by simpa using hs
        by_cases hm : 7 < s
        · have Hk := Lib.hid (chk_s HB2.out (show okS ⟨q, b, s, x, o, d⟩ = false by unfold okS; simp; omega))
          go_wp2_with fail
          all_goals
            go_ret
            exact ⟨by rw [Hk.out]; rfl, hbl⟩
        · by_cases hn : (q.length : Int) < s
          · have Hk := Lib.hid (chk_s HB2.out (show okS ⟨q, b, s, x, o, d⟩ = false by unfold okS; simp; omega))
            go_wp2_with fail
            all_goals
              go_ret
              exact ⟨by rw [Hk.out]; rfl, hbl⟩
          · have Hle := Lib.hid (show s ≤ 7 ∧ s ≤ (q.length : Int) by omega)
            cases hQ : q.all shortB with
            | false =>
              have HQ := Lib.hid hQ
              have Hk := Lib.hid (chk_s HB2.out (show okS ⟨q, b, s, x, o, d⟩ = false by unfold okS; rw [hQ]; simp))
              clear hQ
              first
              | (exfalso; omega)
              | (go_wp2_with (go_at_call 54; refine (allshort_any A c q W hq (Hr.out.below hbl)).mono ?_; rw [HQ.out]; rintro e w' ⟨rfl, rfl⟩)
                 all_goals
                   go_ret
                   exact ⟨by rw [Hk.out]; rfl, hbl⟩)
            | true =>
              have HQ := Lib.hid hQ
              have HS := Lib.hid (show okS ⟨q, b, s, x, o, d⟩ = true by unfold okS; rw [hQ]; simp; omega)
              clear hQ
              by_cases hs1 : s = 0
              · subst hs1
                by_cases hd1 : d = -1
                · subst hd1
                  have Hl := Lib.hid (chk_l HB2.out HS.out (by unfold okD; rfl))
                  by_cases h64 : 64 < q.length
                  · have Hk := Lib.hid (show chk ⟨q, b, 0, x, o, -1⟩ = 2 by rw [Hl.out, if_pos h64])
                    have h64b : decide ((64 : Int) < (q.length : Int)) = true := by simp; omega
                    first
                    | (exfalso; omega)
                    | (go_wp2_with (go_at_call 54; refine (allshort_any A c q W hq (Hr.out.below hbl)).mono ?_; rw [HQ.out]; rintro e w' ⟨rfl, rfl⟩)
                       all_goals
                         go_ret
                         exact ⟨by rw [Hk.out]; rfl, hbl⟩)
                  · have Hk := Lib.hid (show chk ⟨q, b, 0, x, o, -1⟩ = 0 by rw [Hl.out, if_neg h64])
                    have h64b : decide ((64 : Int) < (q.length : Int)) = false := by simp; omega
                    first
                    | (exfalso; omega)
                    | (go_wp2_with (go_at_call 54; refine (allshort_any A c q W hq (Hr.out.below hbl)).mono ?_; rw [HQ.out]; rintro e w' ⟨rfl, rfl⟩)
                       all_goals
                         go_ret
                         exact ⟨by rw [Hk.out]; rfl, hbl⟩)
                · have Hk := Lib.hid (chk_d HB2.out HS.out (show okD ⟨q, b, 0, x, o, d⟩ = false by unfold okD; simp [hd1]))
                  have hd2 : (d == -1) = false := by simpa using hd1
                  first
                  | (exfalso; omega)
                  | (go_wp2_with (go_at_call 54; refine (allshort_any A c q W hq (Hr.out.below hbl)).mono ?_; rw [HQ.out]; rintro e w' ⟨rfl, rfl⟩)
                     all_goals
                       go_ret
                       exact ⟨by rw [Hk.out]; rfl, hbl⟩)
              · have hs2 : 0 < s := by omega
                have hs3 : (s == 0) = false := by simpa using hs1
                by_cases hr1 : 0 ≤ d ∧ d ≤ 1099511627779
                · have Hl := Lib.hid (chk_l HB2.out HS.out (by unfold okD; rw [if_neg hs1]; simp [hr1]))
                  obtain ⟨hr2, hr3⟩ := hr1
                  by_cases h64 : 64 < q.length
                  · have Hk := Lib.hid (show chk ⟨q, b, s, x, o, d⟩ = 2 by rw [Hl.out, if_pos h64])
                    have h64b : decide ((64 : Int) < (q.length : Int)) = true := by simp; omega
                    first
                    | (exfalso; omega)
                    | (go_wp2_with (go_at_call 54; refine (allshort_any A c q W hq (Hr.out.below hbl)).mono ?_; rw [HQ.out]; rintro e w' ⟨rfl, rfl⟩)
                       all_goals
                         go_ret
                         exact ⟨by rw [Hk.out]; rfl, hbl⟩)
                  · have Hk := Lib.hid (show chk ⟨q, b, s, x, o, d⟩ = 0 by rw [Hl.out, if_neg h64])
                    have h64b : decide ((64 : Int) < (q.length : Int)) = false := by simp; omega
                    first
                    | (exfalso; omega)
                    | (go_wp2_with (go_at_call 54; refine (allshort_any A c q W hq (Hr.out.below hbl)).mono ?_; rw [HQ.out]; rintro e w' ⟨rfl, rfl⟩)
                       all_goals
                         go_ret
                         exact ⟨by rw [Hk.out]; rfl, hbl⟩)
                · have Hk := Lib.hid (chk_d HB2.out HS.out (show okD ⟨q, b, s, x, o, d⟩ = false by unfold okD; rw [if_neg hs1]; simp; omega))
                  have hr2 : d < 0 ∨ 1099511627779 < d := by omega
                  rcases hr2 with hr2 | hr2
                  · have hr3 : decide (0 ≤ d) = false := by simpa using hr2
                    first
                    | (exfalso; omega)
                    | (go_wp2_with (go_at_call 54; refine (allshort_any A c q W hq (Hr.out.below hbl)).mono ?_; rw [HQ.out]; rintro e w' ⟨rfl, rfl⟩)
                       all_goals
                         go_ret
                         exact ⟨by rw [Hk.out]; rfl, hbl⟩)
                  · have hr3 : decide (d ≤ 1099511627779) = false := by simpa using hr2
                    first
                    | (exfalso; omega)
                    | (go_wp2_with (go_at_call 54; refine (allshort_any A c q W hq (Hr.out.below hbl)).mono ?_; rw [HQ.out]; rintro e w' ⟨rfl, rfl⟩)
                       all_goals
                         go_ret
                         exact ⟨by rw [Hk.out]; rfl, hbl⟩)
end Go.Proofs.Ytpeahilkmlffkaa
