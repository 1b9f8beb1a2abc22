import Derived.Test.YtpeahilkmlffkaaRQ2
set_option linter.unusedSimpArgs false
set_option linter.unusedVariables false
namespace Go.Proofs.Ytpeahilkmlffkaa
open Go Go.RowKit Hd Go.Mem

theorem not_short {q : List (List UInt8)} {k : Nat} (hk : k < q.length) (h : 256 < q[k].length) : q.all shortB = false := by
  rw [List.all_eq_false]
  exact ⟨q[k], List.getElem_mem hk, by unfold shortB; simp; omega⟩
theorem all_short {q : List (List UInt8)} (h : ∀ j (hj : j < q.length), q[j].length ≤ 256) : q.all shortB = true := by
  rw [List.all_eq_true]
  intro p hp
  obtain ⟨j, hj, rfl⟩ := List.getElem_of_mem hp
  have := h j hj
  unfold shortB
  simp
  omega
theorem chk_bad {l : LE} (h : okB l = false ∨ okS l = false ∨ okD l = false) : chk l = 1 := by
  unfold chk
  rcases h with h | h | h <;> simp [h]
set_option maxRecDepth 100000 in
set_option maxHeartbeats 4000000 in
theorem rcheck_any (A : Option Addr) (c : Nat) (l : LE) (w : World) (hq : l.q.length ≤ 140737488351232) (hr : RdL w A l.q) :
    Calls Try.prog 28 #[.agg (leCells A c l)] w fun e w' => e = .returned (.int .i64 (chk l : Int)) ∧ Below w.heap.size w w' := by
  obtain ⟨q, b, s, x, o, d⟩ := l
  have hB := fw_new w (.cells (leCells A c ⟨q, b, s, x, o, d⟩) 39)
  have HB := Lib.hid hB
  have Hr := Lib.hid (hr.below hB)
  have HC := Lib.hid (heap_alloc_new w (.cells (leCells A c ⟨q, b, s, x, o, d⟩) 39))
  clear hB hr
  unfold leCells at HB HC Hr ⊢
  simp only at HB HC Hr hq ⊢
  obtain ⟨K, hK⟩ : ∃ K, chk ⟨q, b, s, x, o, d⟩ = K := ⟨_, rfl⟩
  rw [hK]
  have HKE := Lib.hid hK
  clear hK
  by_cases h0 : b < 0
  · have g0 : (b < 0) = True := eq_true h0
    have HK := Lib.hid (HKE.out.symm.trans (chk_bad (l := ⟨q, b, s, x, o, d⟩) (.inl (by unfold okB okSeq; simp; omega))))
    clear Hr HC
    go_enter Try.func28, Try.ntmps28
    go_wp2_with fail
    go_ret
    exact ⟨by rw [HK.out]; rfl, HB.out⟩
  · have g0 : (b < 0) = False := eq_false h0
    by_cases h1 : 15 < b
    · have g1 : ((15 : Int) < b) = True := eq_true h1
      have HK := Lib.hid (HKE.out.symm.trans (chk_bad (l := ⟨q, b, s, x, o, d⟩) (.inl (by unfold okB okSeq; simp; omega))))
      clear Hr HC
      go_enter Try.func28, Try.ntmps28
      go_wp2_with fail
      go_ret
      exact ⟨by rw [HK.out]; rfl, HB.out⟩
    · have g1 : ((15 : Int) < b) = False := eq_false h1
      by_cases h2 : x < 0
      · have g2 : (x < 0) = True := eq_true h2
        have HK := Lib.hid (HKE.out.symm.trans (chk_bad (l := ⟨q, b, s, x, o, d⟩) (.inl (by unfold okB okSeq; simp; omega))))
        clear Hr HC
        go_enter Try.func28, Try.ntmps28
        go_wp2_with fail
        go_ret
        exact ⟨by rw [HK.out]; rfl, HB.out⟩
      · have g2 : (x < 0) = False := eq_false h2
        by_cases h3 : 15 < x
        · have g3 : ((15 : Int) < x) = True := eq_true h3
          have HK := Lib.hid (HKE.out.symm.trans (chk_bad (l := ⟨q, b, s, x, o, d⟩) (.inl (by unfold okB okSeq; simp; omega))))
          clear Hr HC
          go_enter Try.func28, Try.ntmps28
          go_wp2_with fail
          go_ret
          exact ⟨by rw [HK.out]; rfl, HB.out⟩
        · have g3 : ((15 : Int) < x) = False := eq_false h3
          by_cases h4 : s < 0
          · have g4 : (s < 0) = True := eq_true h4
            have HK := Lib.hid (HKE.out.symm.trans (chk_bad (l := ⟨q, b, s, x, o, d⟩) (.inr <| .inl (by unfold okS; simp; omega))))
            clear Hr HC
            go_enter Try.func28, Try.ntmps28
            go_wp2_with fail
            go_ret
            exact ⟨by rw [HK.out]; rfl, HB.out⟩
          · have g4 : (s < 0) = False := eq_false h4
            by_cases h5 : 7 < s
            · have g5 : ((7 : Int) < s) = True := eq_true h5
              have HK := Lib.hid (HKE.out.symm.trans (chk_bad (l := ⟨q, b, s, x, o, d⟩) (.inr <| .inl (by unfold okS; simp; omega))))
              clear Hr HC
              go_enter Try.func28, Try.ntmps28
              go_wp2_with fail
              go_ret
              exact ⟨by rw [HK.out]; rfl, HB.out⟩
            · have g5 : ((7 : Int) < s) = False := eq_false h5
              by_cases h6 : (q.length : Int) < s
              · have g6 : ((q.length : Int) < s) = True := eq_true h6
                have HK := Lib.hid (HKE.out.symm.trans (chk_bad (l := ⟨q, b, s, x, o, d⟩) (.inr <| .inl (by unfold okS; simp; omega))))
                clear Hr HC
                go_enter Try.func28, Try.ntmps28
                go_wp2_with fail
                go_ret
                exact ⟨by rw [HK.out]; rfl, HB.out⟩
              · have g6 : ((q.length : Int) < s) = False := eq_false h6
                have HBo := Lib.hid (show okB ⟨q, b, s, x, o, d⟩ = true by unfold okB okSeq; simp; omega)
                go_enter Try.func28, Try.ntmps28
                go_wp2_with fail
                generalize w.alloc (.cells #[.slice A q.length c, .int .i64 b, .int .i64 s, .int .i64 x, .bool o, .int .i64 d] 39) = W at *
                have c0 : W.cell? ⟨w.heap.size, 0, none⟩ = some (.slice A q.length c) := cellOf HC.out rfl
                have c2 : W.cell? ⟨w.heap.size, 2, none⟩ = some (.int .i64 s) := cellOf HC.out rfl
                have c5 : W.cell? ⟨w.heap.size, 5, none⟩ = some (.int .i64 d) := cellOf HC.out rfl
                go_loop [3] (fun i => ∃ k : Nat, i = .int .i64 (k : Int) ∧ k ≤ q.length ∧ Hid (∀ j (hj : j < q.length), j < k → q[j].length ≤ 256)) (fun i => q.length - (intOf i).toNat)
                case atStart => exact ⟨0, rfl, by omega, Lib.hid (fun j _ h => by omega)⟩
                case round =>
                  obtain ⟨k, rfl, hk, Hs⟩ := hrel
                  by_cases hlt : k < q.length
                  · obtain ⟨b1, off1, A1, c1, rfl, hc1, _, _, _, _⟩ := Hr.out.at k hlt
                    by_cases hp : 256 < q[k].length
                    · have HK := Lib.hid (HKE.out.symm.trans (chk_bad (l := ⟨q, b, s, x, o, d⟩) (.inr <| .inl (by unfold okS; simp only [not_short hlt hp, Bool.and_false]))))
                      have gp : ((256 : Int) < (q[k].length : Int)) = True := eq_true (by omega)
                      generalize q[k] = p at *
                      clear Hs
                      go_wp2_with fail
                      go_ret
                      exact ⟨by rw [HK.out]; rfl, HB.out⟩
                    · have gp : ((256 : Int) < (q[k].length : Int)) = False := eq_false (by omega)
                      have Hs2 : Hid (∀ j (hj : j < q.length), j < k + 1 → q[j].length ≤ 256) := Lib.hid (fun j hj hjk => by by_cases e : j = k; subst e; omega; exact Hs.out j hj (by omega))
                      generalize q[k] = p at *
                      clear Hs
                      go_wp2_with fail
                      go_round
                      case rel => exact ⟨k + 1, by go_num, by omega, Hs2⟩
                      case measure => simp [intOf]; omega
                  · have hke : k = q.length := by omega
                    subst hke
                    have hall := all_short (fun j hj => Hs.out j hj hj)
                    have HSo := Lib.hid (show okS ⟨q, b, s, x, o, d⟩ = true by unfold okS; simp only [hall, Bool.and_true, Bool.and_eq_true, decide_eq_true_eq]; omega)
                    clear Hs hall hlt hk
                    by_cases hs0 : s = 0
                    · have gs : (s == 0) = true := by simpa using hs0
                      have gs2 : ((0 : Int) < s) = False := eq_false (by omega)
                      by_cases hd : d = -1
                      · have gd : (d != -1) = false := by simpa using hd
                        have HDo := Lib.hid (show okD ⟨q, b, s, x, o, d⟩ = true by unfold okD; rw [if_pos hs0]; simpa using hd)
                        by_cases h64 : 64 < q.length
                        · have g64 : ((64 : Int) < (q.length : Int)) = True := eq_true (by omega)
                          have HK := Lib.hid (HKE.out.symm.trans (show chk ⟨q, b, s, x, o, d⟩ = 2 by rw [chk_l HBo.out HSo.out HDo.out, if_pos h64]))
                          go_wp2_with fail
                          go_ret
                          exact ⟨by rw [HK.out]; rfl, HB.out⟩
                        · have g64 : ((64 : Int) < (q.length : Int)) = False := eq_false (by omega)
                          have HK := Lib.hid (HKE.out.symm.trans (show chk ⟨q, b, s, x, o, d⟩ = 0 by rw [chk_l HBo.out HSo.out HDo.out, if_neg h64]))
                          go_wp2_with fail
                          go_ret
                          exact ⟨by rw [HK.out]; rfl, HB.out⟩
                      · have gd : (d != -1) = true := by simpa using hd
                        have HK := Lib.hid (HKE.out.symm.trans (chk_bad (l := ⟨q, b, s, x, o, d⟩) (.inr <| .inr (by unfold okD; rw [if_pos hs0]; simpa using hd))))
                        go_wp2_with fail
                        go_ret
                        exact ⟨by rw [HK.out]; rfl, HB.out⟩
                    · have gs : (s == 0) = false := by simpa using hs0
                      have gs2 : ((0 : Int) < s) = True := eq_true (by omega)
                      by_cases hd0 : d < 0
                      · have gd : (d < 0) = True := eq_true hd0
                        have HK := Lib.hid (HKE.out.symm.trans (chk_bad (l := ⟨q, b, s, x, o, d⟩) (.inr <| .inr (by unfold okD; rw [if_neg hs0]; simp; omega))))
                        go_wp2_with fail
                        go_ret
                        exact ⟨by rw [HK.out]; rfl, HB.out⟩
                      · have gd : (d < 0) = False := eq_false hd0
                        by_cases hd1 : 1099511627779 < d
                        · have ge : ((1099511627779 : Int) < d) = True := eq_true hd1
                          have HK := Lib.hid (HKE.out.symm.trans (chk_bad (l := ⟨q, b, s, x, o, d⟩) (.inr <| .inr (by unfold okD; rw [if_neg hs0]; simp; omega))))
                          go_wp2_with fail
                          go_ret
                          exact ⟨by rw [HK.out]; rfl, HB.out⟩
                        · have ge : ((1099511627779 : Int) < d) = False := eq_false hd1
                          have HDo := Lib.hid (show okD ⟨q, b, s, x, o, d⟩ = true by unfold okD; rw [if_neg hs0]; simp; omega)
                          by_cases h64 : 64 < q.length
                          · have g64 : ((64 : Int) < (q.length : Int)) = True := eq_true (by omega)
                            have HK := Lib.hid (HKE.out.symm.trans (show chk ⟨q, b, s, x, o, d⟩ = 2 by rw [chk_l HBo.out HSo.out HDo.out, if_pos h64]))
                            go_wp2_with fail
                            go_ret
                            exact ⟨by rw [HK.out]; rfl, HB.out⟩
                          · have g64 : ((64 : Int) < (q.length : Int)) = False := eq_false (by omega)
                            have HK := Lib.hid (HKE.out.symm.trans (show chk ⟨q, b, s, x, o, d⟩ = 0 by rw [chk_l HBo.out HSo.out HDo.out, if_neg h64]))
                            go_wp2_with fail
                            go_ret
                            exact ⟨by rw [HK.out]; rfl, HB.out⟩
end Go.Proofs.Ytpeahilkmlffkaa
