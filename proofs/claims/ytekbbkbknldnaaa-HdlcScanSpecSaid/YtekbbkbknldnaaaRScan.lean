import Derived.Test.YtekbbkbknldnaaaRDec2
namespace Hd
/-- the scan from a flag at k on -/
def tailScan (l : List UInt8) (k : Nat) : List (List UInt8) × Nat := scanGo (some ([], k)) (k + 1) (l.drop (k + 1))
theorem tailScan_none {l : List UInt8} {k : Nat} (h : idxFlag (l.drop (k + 1)) = none) : tailScan l k = ([], k) := by
  unfold tailScan
  rw [(scanGo_noflag _ (idxFlag_none h) _ _).1]
theorem tailScan_some {l : List UInt8} {k n : Nat} (h : idxFlag (l.drop (k + 1)) = some n) : tailScan l k = (outs ((l.drop (k + 1)).take n) ++ (tailScan l (k + 1 + n)).1, (tailScan l (k + 1 + n)).2) := by
  unfold tailScan
  obtain ⟨h1, h2, h3⟩ := idxFlag_cut h
  have hlen : (l.drop (k + 1)).length = l.length - (k + 1) := by simp
  rw [hlen] at h3
  have e : ∀ st, scanGo st (k + 1) (l.drop (k + 1)) = scanGo st (k + 1) ((l.drop (k + 1)).take n ++ 0x7e :: (l.drop (k + 1)).drop (n + 1)) := fun st => by rw [← h2]
  have hl : ((l.drop (k + 1)).take n).length = n := by simp; omega
  rw [e, scanGo_content _ h1, hl]
  have hd2 : (l.drop (k + 1)).drop (n + 1) = l.drop (k + 1 + n + 1) := by rw [List.drop_drop]; congr 1
  rw [hd2]
  simp
theorem scan_tail {l : List UInt8} {f : Nat} (h : idxFlag l = some f) : scan l = tailScan l f := by
  obtain ⟨h1, h2, h3⟩ := idxFlag_cut h
  have hl : (l.take f).length = f := by simp; omega
  have : scan l = scanGo none 0 (l.take f ++ 0x7e :: l.drop (f + 1)) := by unfold scan; rw [← h2]
  rw [this, scanGo_append, (scanGo_noflag _ h1 _ _).1, (scanGo_noflag _ h1 _ _).2, hl]
  simp only [Option.map_none, Nat.zero_add, scanGo_cons_flag_none, List.nil_append]
  rfl
theorem idxFlag_at {l : List UInt8} {k n : Nat} (h : idxFlag (l.drop k) = some n) (hlt : k + n < l.length) : l[k + n] = 0x7e := by
  unfold idxFlag at h
  rw [List.findIdx?_eq_some_iff_getElem] at h
  obtain ⟨h0, h1, _⟩ := h
  simpa using h1
end Hd
namespace Go.Proofs.Ytekbbkbknldnaaa
open Go Go.RowKit Hd Go.Mem
theorem outs_decE {l : List UInt8} {k n : Nat} (h : k < l.length) (hx : l[k] = 0x7e) (hn : idxFlag (l.drop (k + 1)) = some n) :
    (∃ p, decE l k = .ok (p, k + n + 2) ∧ outs ((l.drop (k + 1)).take n) = [p]) ∨ (∃ e, decE l k = .error e ∧ (e = 20 ∨ e = 21) ∧ outs ((l.drop (k + 1)).take n) = []) := by
  have := decE_flag h hx
  rw [hn] at this
  unfold outs
  cases ho : opened ((l.drop (k + 1)).take n) with
  | ok p => rw [this]; simp only [ho]; exact .inl ⟨p, rfl, rfl⟩
  | error e => rw [this]; simp only [ho]; exact .inr ⟨e, rfl, opened_error ho, trivial⟩
/-- what stands at the head of the reference's loop -/
def RsI (l : List UInt8) (k : Nat) (ps : List (List UInt8)) : Prop :=
  (k = l.length ∧ ps = [] ∧ scan l = ([], l.length)) ∨ (∃ h : k < l.length, l[k] = 0x7e ∧ ps.length ≤ k ∧ scan l = (ps ++ (tailScan l k).1, (tailScan l k).2))
theorem RsI.start (l : List UInt8) : RsI l (flagAt l 0) [] := by
  cases h : idxFlag l with
  | none =>
    refine .inl ⟨flagAt_none (by simpa using h), rfl, scan_none h⟩
  | some f =>
    have hf : flagAt l 0 = f := by rw [flagAt_some (n := f) (by simpa using h)]; omega
    rw [hf]
    have hlt := idxFlag_some h
    exact .inr ⟨hlt, by have := idxFlag_at (k := 0) (by simpa using h) (by omega : 0 + f < l.length); simpa using this, by simp, scan_tail h⟩
set_option maxRecDepth 100000 in
set_option maxHeartbeats 800000 in
theorem rscan_any (A : Option Addr) (c : Nat) (l : List UInt8) (w : World) (hl : l.length ≤ 1000000000000) (hc : l.length ≤ c) (hr : Rd w A l) :
    Calls Try.prog 13 #[.slice A l.length c] w fun e w' => ∃ v, e = .returned (.tuple #[v, .int .i64 ((scan l).2 : Int)]) ∧ RowB w' w.heap.size 22 v (scan l).1 ∧ Below w.heap.size w w' := by
  have hm : l.length ≤ 140737488351232 := by omega
  have Hr := Lib.hid hr
  have Hf := Lib.hid (fun (k : Nat) w (hk : k ≤ l.length) (h : Rd w A l) => rflag_any A c l k w hm hk h)
  have H0 := Lib.hid (RsI.start l)
  have hf0 : flagAt l 0 ≤ l.length := flagAt_le (Nat.zero_le _)
  clear hr
  go_enter Try.func13, Try.ntmps13
  go_wp2_with (go_at_call 30; refine (Hf.out 0 _ (Nat.zero_le _) Hr.out).mono ?_; rintro e w1 ⟨rfl, hb1⟩)
  generalize flagAt l 0 = f0 at *
  go_loopw [4, 5] (fun v j wr => ∃ (k : Nat) (ps : List (List UInt8)), k ≤ l.length ∧ j = .int .i64 k ∧ RowB wr w.heap.size 22 v ps ∧ Below w.heap.size w wr ∧ Hid (RsI l k ps)) (fun _ j _ => l.length - (intOf j).toNat)
  case atStart => exact ⟨f0, [], hf0, rfl, RowB.nil _ _ _, hb1, H0⟩
  case round =>
    obtain ⟨k, ps, hk, rfl, hR, hB, Hi⟩ := hrel
    have HR := Lib.hid hR
    clear hb1 H0 hf0 hR
    by_cases hlt : k < l.length
    · have hd : decide ((k : Int) < (l.length : Int)) = true := by simp; omega
      obtain ⟨hx, hpk, hsc⟩ : l[k] = 0x7e ∧ ps.length ≤ k ∧ scan l = (ps ++ (tailScan l k).1, (tailScan l k).2) := by
        rcases Hi.out with ⟨e, _⟩ | ⟨_, h⟩
        · omega
        · exact h
      clear Hi
      have HF1 := Lib.hid (fun w (h1 : Rd w A l) => (show ((k + 1 : Nat) : Int) = (k : Int) + 1 by omega) ▸ Hf.out (k + 1) w (by omega) h1)
      have HD := Lib.hid (fun w (h1 : Rd w A l) => rdec_in A c l k w hm hlt h1 hc)
      cases hidx : idxFlag (l.drop (k + 1)) with
      | none =>
        rw [flagAt_none hidx] at HF1
        rw [tailScan_none hidx, List.append_nil] at hsc
        have Hsc := Lib.hid hsc
        clear hsc hidx hx
        go_wp2_with (go_at_call 30; refine (HF1.out _ (Hr.out.below hB)).mono ?_; rintro e w2 ⟨rfl, hb2⟩)
        go_ret2
        refine ⟨u4, ?_, ?_, fw_trans hB hb2⟩
        · rw [Hsc.out]; rfl
        · rw [Hsc.out]; exact HR.out.below hb2
      | some n =>
        have hn := idxFlag_some hidx
        have hnl : k + 1 + n < l.length := by simp at hn; omega
        rw [flagAt_some hidx, show ((k + 1 + n : Nat) : Int) = (k : Int) + 1 + (n : Int) by omega] at HF1
        rw [tailScan_some hidx] at hsc
        have hde := outs_decE hlt hx hidx
        have hx2 := idxFlag_at hidx hnl
        have Hx2 := Lib.hid (show ∃ h : k + 1 + n < l.length, l[k + 1 + n] = 0x7e from ⟨hnl, hx2⟩)
        have hz : ((k : Int) + 1 + (n : Int) == (l.length : Int)) = false := by rw [beq_eq_false_iff_ne]; omega
        clear hx2 hx hidx hn
        generalize outs ((l.drop (k + 1)).take n) = os at *
        rcases hde with ⟨p, hde, hos⟩ | ⟨er, hde, her, hos⟩
        · have Hde := Lib.hid hde
          have Hsc := Lib.hid hsc
          have Hos := Lib.hid hos
          clear hde hsc hos
          go_wp2_with (first | (go_at_call 30; refine (HF1.out _ (Hr.out.below hB)).mono ?_; rintro e w2 ⟨rfl, hb2⟩))
          refine (HD.out _ ((Hr.out.below hB).below hb2)).mono ?_
          rintro e w3 ⟨hb3, hp⟩
          rw [Hde.out] at hp
          obtain ⟨A4, c4, rfl, hc4, hm4, hA4, hR4, _, _⟩ := hp
          have hB2 := fw_trans hB hb2
          have hB3 := fw_trans hB2 hb3
          obtain ⟨vs, ho, hE⟩ := (HR.out.below hb2).below hb3
          have hlt2 : ∀ b, u4.ownBlock = some b → b < w2.heap.size := ownBlock_lt (Classical.choose_spec (HR.out.below hb2)).1
          have hEl : Els (fun b => w.heap.size ≤ b ∧ u4.ownBlock ≠ some b) w3 [.slice A4 p.length c4] [p] := ⟨⟨A4, c4, rfl, hc4, hm4, hA4, hR4.imp fun b hb _ => ⟨Nat.le_trans hB2.size hb, fun e => by have := hlt2 b e; omega⟩⟩, trivial⟩
          have HA4 := Lib.hid hA4
          have Ho := Lib.hid ho
          have HE := Lib.hid hE
          have HEl := Lib.hid hEl
          have hbd : (ps.length + 1) * 24 ≤ 140737488355328 := by omega
          clear hA4 ho hE hEl hR4 hlt2 hB hb2 hb3
          go_wp2_with (at_builtin; refine app_own _ rfl (.tmp 35) (.tmp 37) 24 rfl w.heap.size 22 (.slice none 0 0) 1 24 Try.underlying24 info_sl rfl (by decide) (by decide) u4 ps.length vs rfl (own_below Ho.out (fw_new _ _)) (some ⟨w3.heap.size, 0, none⟩) 1 1 [.slice A4 p.length c4] rfl rfl (fun e => by cases e) (RdC.new _ _ _ _) (fun u hu => by simp only [List.mem_singleton] at hu; subst hu; rfl) hbd (by have := hB3.size; simp; omega) ?_; intro v5 w5 ho5 hg5 hat5)
          go_roundw
          case rel =>
            refine ⟨k + 1 + n, ps ++ [p], by omega, by go_num, ?_, ?_, Lib.hid (.inr ?_)⟩
            · refine RowB.pushed (HE.out.move (fun b _ hl => ?_) (fun _ h _ => h)) (us := [.slice A4 p.length c4]) ?_ (by simp) ho5 hg5 hat5
              · exact heap_alloc_old _ _ hl
              · exact HEl.out.move (fun b _ hl => heap_alloc_old _ _ hl) (fun _ h _ => h)
            · exact (fw_al hB3 _).grown hg5 (fw_al hB3 _).size (own_base Ho.out)
            · obtain ⟨h1, h2⟩ := Hx2.out
              exact ⟨h1, h2, by simp; omega, by rw [Hsc.out, Hos.out]; simp⟩
          case measure => simp [intOf]; omega
        · have Hde := Lib.hid hde
          have Hsc := Lib.hid hsc
          have Hos := Lib.hid hos
          have hz2 : ((er : Int) == 0) = false := by rcases her with rfl | rfl <;> rfl
          clear hde hsc hos her
          go_wp2_with (first | (go_at_call 30; refine (HF1.out _ (Hr.out.below hB)).mono ?_; rintro e w2 ⟨rfl, hb2⟩))
          refine (HD.out _ ((Hr.out.below hB).below hb2)).mono ?_
          rintro e w3 ⟨hb3, hp⟩
          rw [Hde.out] at hp
          subst hp
          have hB3 := fw_trans (fw_trans hB hb2) hb3
          have HR3 := Lib.hid ((HR.out.below hb2).below hb3)
          clear hB hb2 hb3
          go_wp2_with fail
          go_roundw
          case rel =>
            refine ⟨k + 1 + n, ps, by omega, by go_num, HR3.out, hB3, Lib.hid (.inr ?_)⟩
            obtain ⟨h1, h2⟩ := Hx2.out
            exact ⟨h1, h2, by omega, by rw [Hsc.out, Hos.out]; simp⟩
          case measure => simp [intOf]; omega
    · have hkl : k = l.length := by omega
      subst hkl
      have hd : decide ((l.length : Int) < (l.length : Int)) = false := by simp
      have hs : ps = [] ∧ scan l = ([], l.length) := by
        rcases Hi.out with ⟨_, h⟩ | ⟨h, _⟩
        · exact h
        · omega
      obtain ⟨rfl, hs⟩ := hs
      have Hs := Lib.hid hs
      clear hs Hi
      go_wp2_with fail
      go_ret2
      refine ⟨u4, ?_, ?_, hB⟩
      · rw [Hs.out]; rfl
      · rw [Hs.out]; exact HR.out
end Go.Proofs.Ytekbbkbknldnaaa
