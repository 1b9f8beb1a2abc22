import Derived.Test.YtpeahilkmlffkaaRQ3
import Derived.Test.YtpeahilkmlffkaaQStore
set_option linter.unusedSimpArgs false
set_option linter.unusedVariables false
namespace Go.Proofs.Ytpeahilkmlffkaa
open Go Go.RowKit Hd Go.Mem

theorem upd_row4 (W : World) (g : Nat) (cs : Array Value) : Upd g W (W.setRow g cs) := ⟨rfl, rfl, rfl, by simp, fun k hk => setRow_other _ _ _ _ hk⟩
set_option maxRecDepth 100000 in
set_option maxHeartbeats 2000000 in
theorem rsend_any (A A' : Option Addr) (c c' : Nat) (l : LE) (p : List UInt8) (w : World) (hq : l.q.length ≤ 140737488351232) (hp : p.length ≤ 140737488351232) (hr : RdL w A l.q) (hr' : Rd w A' p) (hA' : A' = none → c' = 0) :
    Calls Try.prog 18 #[.agg (leCells A c l), .slice A' p.length c'] w (SendPost l p w) := by
  have Hr := Lib.hid hr
  have Hr' := Lib.hid hr'
  have HA' := Lib.hid hA'
  clear hr hr' hA'
  have HC := Lib.hid (fun W (h : RdL W A l.q) => rcheck_any A c l W hq h)
  go_enter Try.func18, Try.ntmps18
  go_wp2_with (first | (refine wpList_load_row rfl 39 (.tmp 2) rfl w.heap.size rfl 39 (leCells A c l) (0, 0) _ (blk_second _ _ _) Try.underlying39 rfl le_size ?_))
  have hB0 : Below w.heap.size w ((w.alloc (.cells (leCells A c l) 39)).alloc (.cells (leCells none 0 leZ) 39)) := fw_al (fw_new _ _) _
  refine (HC.out _ (Hr.out.below hB0)).mono ?_
  rintro e W ⟨rfl, hb⟩
  have hP := blk_below (blk_second w (.cells (leCells A c l) 39) (.cells (leCells none 0 leZ) 39)) hb
  have hR := blk_below (heap_alloc2_new w (.cells (leCells A c l) 39) (.cells (leCells none 0 leZ) 39)) hb
  have hB := fw_trans hB0 hb
  have hsz : w.heap.size + 2 ≤ W.heap.size := by have := hb.size; simpa using this
  clear HC hB0 hb
  by_cases hk : chk l = 0
  · obtain ⟨_, hS, _, h64⟩ := chk_zero hk
    have Hshort := Lib.hid (okS_short hS)
    have hc0 : W.cell? ⟨w.heap.size, 0, none⟩ = some (.slice A l.q.length c) := cellOf hP rfl
    clear hS
    by_cases hlim : 256 < p.length ∨ l.q.length = 64
    · have Hno := Lib.hid (fun W' (hb : Below w.heap.size w W') => SendPost.no (send_lim hk hlim) hb)
      rw [hk]
      clear hk
      by_cases h256 : 256 < p.length
      · have h1b : ((256 : Int) < (p.length : Int)) = True := eq_true (by omega)
        clear hlim
        go_wp2_with (refine wpList_store_row rfl 39 (.tmp 4) (.tmp 23) rfl (w.heap.size + 1) (leCells none 0 leZ) rfl rfl 39 _ hR le_size rfl (le_one none 0 0 leZ) ?_)
        (try simp only [Exit.inBlock, Exit.then])
        refine bodyPost_ret (res_ct rfl _ _ (w.heap.size + 1) _ (leCells none 0 leZ) _ _ rfl (setRow_heap _ _ _ _ _ _ hR) Try.underlying39 rfl le_size) rfl ?_
        exact Hno.out _ (below_setRow hB (Nat.le_add_right _ 1) _)
      · have h1b : ((256 : Int) < (p.length : Int)) = False := eq_false (by omega)
        have h2b : ((64 : Int) ≤ (l.q.length : Int)) = True := eq_true (by omega)
        clear hlim
        go_wp2_with (refine wpList_store_row rfl 39 (.tmp 4) (.tmp 23) rfl (w.heap.size + 1) (leCells none 0 leZ) rfl rfl 39 _ hR le_size rfl (le_one none 0 0 leZ) ?_)
        (try simp only [Exit.inBlock, Exit.then])
        refine bodyPost_ret (res_ct rfl _ _ (w.heap.size + 1) _ (leCells none 0 leZ) _ _ rfl (setRow_heap _ _ _ _ _ _ hR) Try.underlying39 rfl le_size) rfl ?_
        exact Hno.out _ (below_setRow hB (Nat.le_add_right _ 1) _)
    · have Hok := Lib.hid (send_ok (p := p) hk hlim)
      have h1b : ((256 : Int) < (p.length : Int)) = False := eq_false (by omega)
      have h2b : ((64 : Int) ≤ (l.q.length : Int)) = False := eq_false (by omega)
      rw [hk]
      clear hk hlim
      go_wp2_with fail
      refine (copied_any A c l.q W (by omega) Hshort.out (Hr.out.below hB)).mono ?_
      rintro e W3 ⟨v3, rfl, hR3, hb3⟩
      have HR3 := Lib.hid hR3
      have hP3 := blk_below hP hb3
      have hRr3 := blk_below hR hb3
      have hB3 := fw_trans hB hb3
      have hb3s := hb3.size
      have Hr3 := Lib.hid (Hr'.out.below hB3)
      have hbd : (l.q.length + 1) * 24 ≤ 140737488355328 := by omega
      have hlt2 : ∀ b, v3.ownBlock = some b → b < W3.heap.size := ownBlock_lt (Classical.choose_spec hR3).1
      have HL2 := Lib.hid hlt2
      have hn1 : v3.ownBlock ≠ some w.heap.size := hneL (Classical.choose_spec hR3).1 _ (by omega)
      have hn2 : v3.ownBlock ≠ some (w.heap.size + 1) := hneL (Classical.choose_spec hR3).1 _ (by omega)
      have Hn1 := Lib.hid hn1
      have Hn2 := Lib.hid hn2
      clear hR3 hP hR hb3 hc0 hlt2 hn1 hn2
      go_wp2_with (first
        | (at_builtin; refine app_bytes _ rfl (.tmp 28) (.tmp 29) 22 rfl W3 W3.heap.size 5 Try.underlying22 info_u8 (.slice (some ⟨W3.heap.size, 0, none⟩) 0 0) [] rfl (own_fresh W3 _ #[] _ (Nat.le_refl _) (by decide)) A' c' p rfl HA'.out (RdC.below Hr3.out (fw_new _ _)) (by simp; omega) (fw_new _ _) (by simp) ?_; intro v4 W4 hO4 hb4 hg4 hat4 hsz4; obtain ⟨A4, c4, rfl, hA4, hc4, hm4, _⟩ := own_form hO4; have hR4 := own_rdp' hO4 (Nat.le_refl _); have hP4 := blk_below hP3 hb4; have hRr4 := blk_below hRr3 hb4; have hB4 := fw_trans hB3 hb4; obtain ⟨vs, ho, hE⟩ := HR3.out.below hb4; have HA4 := Lib.hid hA4; have Ho := Lib.hid ho; have HE := Lib.hid hE; have HR4 := Lib.hid hR4; have hbase : W.heap.size ≤ W4.heap.size + 1 := (by have := hb4.size; omega); clear hA4 ho hE hR4 hO4 hg4 hat4)
        | (at_builtin; refine app_own _ rfl (.tmp 27) (.tmp 31) 37 rfl W.heap.size 22 (.slice none 0 0) 1 24 Try.underlying37 info_sl rfl (by decide) (by decide) v3 l.q.length vs rfl (own_below Ho.out (fw_new _ _)) (some ⟨W4.heap.size, 0, none⟩) 1 1 [.slice A4 p.length c4] rfl rfl (fun e => by cases e) (RdC.new _ _ _ _) (fun u hu => by simp only [List.mem_singleton] at hu; subst hu; rfl) hbd (by simpa using hbase) ?_; intro v5 W5 ho5 hg5 hat5; have hP5 := blk_grown hg5 (alloc_blk _ hP4) Hn1.out; have hRr5 := blk_grown hg5 (alloc_blk _ hRr4) Hn2.out; have HO5 := Lib.hid ho5; have HG5 := Lib.hid hg5; have HAt := Lib.hid hat5; obtain ⟨A5, c5, rfl, _, _, _, _⟩ := own_form ho5; clear ho5 hg5 hat5)
        | (refine wpList_store_field rfl 37 (.tmp 34) (.tmp 33) rfl w.heap.size 0 (.slice A5 (l.q.length + 1) c5) rfl rfl rfl 39 _ hP5 (by simp [leCells]) (by kernel_rfl) ?_; intro W6 h6 u6; have hP6 := (show W6.heap[w.heap.size]? = some (.cells (leN A5 (l.q.length + 1) c5 l) 39 (0, 0)) from h6); have hR6 := (u6.other (w.heap.size + 1) (by omega)).trans hRr5; clear h6)
        | (refine wpList_load_row rfl 39 (.tmp 2) rfl w.heap.size rfl 39 (leN A5 (l.q.length + 1) c5 l) (0, 0) _ hP6 Try.underlying39 rfl le_size ?_)
        | (refine wpList_store_row rfl 39 (.tmp 4) (.tmp 35) rfl (w.heap.size + 1) (leN A5 (l.q.length + 1) c5 l) rfl rfl 39 _ hR6 le_size rfl (le_one _ _ _ _) ?_))
      (try simp only [Exit.inBlock, Exit.then])
      refine bodyPost_ret (res_ct rfl _ _ (w.heap.size + 1) _ (leN A5 (l.q.length + 1) c5 l) _ _ rfl (setRow_heap _ _ _ _ _ _ hR6) Try.underlying39 rfl le_size) rfl ?_
      have hEl : Els (fun b => W.heap.size ≤ b ∧ v3.ownBlock ≠ some b) W4 [.slice A4 p.length c4] [p] := ⟨⟨A4, c4, rfl, hc4, hm4, HA4.out, HR4.out.imp fun b hb _ => ⟨Nat.le_trans hb3s hb, fun e => by have := HL2.out b e; omega⟩⟩, trivial⟩
      have hRB5 : RowB W5 W.heap.size 22 (.slice A5 (l.q.length + 1) c5) (l.q ++ [p]) := RowB.pushed (HE.out.move (fun b _ hl => heap_alloc_old _ _ hl) (fun _ h _ => h)) (hEl.move (fun b _ hl => heap_alloc_old _ _ hl) (fun _ h _ => h)) (by simp) HO5.out HG5.out HAt.out
      have hB5 := (fw_al hB4 (.cells #[.slice A4 p.length c4] 22)).grown HG5.out (fw_al hB4 _).size (fun k hk => Nat.le_trans (Nat.le_trans (Nat.le_add_right _ 2) hsz) (own_base Ho.out k hk))
      refine SendPost.yes Hok.out rfl (below_setRow (u6.below hB5 (Nat.le_refl _)) (Nat.le_add_right _ 1) _) (hRB5.move fun k hk _ => ?_)
      rw [setRow_other _ _ _ _ (by omega), u6.other k (by omega)]
  · have Hno := Lib.hid (fun W' (hb : Below w.heap.size w W') => SendPost.no (p := p) (send_err hk) hb)
    have hk0 : ((chk l : Int) != 0) = true := by simpa using hk
    generalize chk l = k at *
    clear hk
    go_wp2_with (first | (refine wpList_store_row rfl 39 (.tmp 4) (.tmp 12) rfl (w.heap.size + 1) (leCells none 0 leZ) rfl rfl 39 _ hR le_size rfl (le_one none 0 0 leZ) ?_))
    (try simp only [Exit.inBlock, Exit.then])
    refine bodyPost_ret (res_ct rfl _ _ (w.heap.size + 1) _ (leCells none 0 leZ) _ _ rfl (setRow_heap _ _ _ _ _ _ hR) Try.underlying39 rfl le_size) rfl ?_
    exact Hno.out _ (below_setRow hB (Nat.le_add_right _ 1) _)
end Go.Proofs.Ytpeahilkmlffkaa
