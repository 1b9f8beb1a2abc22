import Derived.Test.YtpeahilkmlffkaaQDecL
import Derived.Test.YtpeahilkmlffkaaQSaneL
set_option linter.unusedSimpArgs false
set_option linter.unusedVariables false
namespace Go.Proofs.Ytpeahilkmlffkaa
open Go Go.RowKit Hd Go.Mem

set_option maxRecDepth 100000 in
set_option maxHeartbeats 800000 in
theorem bclone_any (A : Option Addr) (c : Nat) (l : List UInt8) (w : World) (hl : l.length ≤ 140737488351232) (hr : Rd w A l) (hA : A = none → c = 0) (hc : l.length ≤ c) :
    Calls Try.prog 39 #[.slice A l.length c] w fun e w' => ∃ v, e = .returned v ∧ OwnB w' w.heap.size 5 v l ∧ Below w.heap.size w w' := by
  have qT : ∀ (w : World) (a : Option Addr) (n c n' c' : Nat), (binOp .eql 22 (.slice a n c) (.slice none n' c')).run Try.prog w = .ok (.bool a.isNone) w := fun w a n c n' c' => Lib.run_eql_slice_nil w _ _ a n c n' c' Try.underlying22
  cases A with
  | none =>
    have : c = 0 := hA rfl
    subst this
    have : l = [] := List.eq_nil_of_length_eq_zero (by omega)
    subst this
    simp only [List.length_nil]
    go_enter Try.func39, Try.ntmps39
    go_wp2_with fail
    go_ret
    exact ⟨_, rfl, World.ownsRow_nil _ _ _ _, Below.refl _ _⟩
  | some ad =>
    go_enter Try.func39, Try.ntmps39
    go_wp2_with (at_builtin; refine app_bytes _ rfl (.tmp 5) (.tmp 6) 22 rfl w w.heap.size 5 Try.underlying22 info_u8 (.slice (some ⟨w.heap.size, 0, none⟩) 0 0) [] rfl (own_fresh w _ #[] _ (Nat.le_refl _) (by decide)) (some ad) c l rfl (fun e => by cases e) (RdC.below hr (fw_new _ _)) (by simp; omega) (fw_new _ _) (by simp) ?_; intro v' w' hO3 hB3 hg3 hat3 hsz3)
    go_ret
    exact ⟨_, rfl, hO3, hB3⟩
/-- what stands through a region that writes one block -/
structure RUp (g t n : Nat) (W0 W : World) : Prop where
  os : W.os = W0.os
  tape : W.tape = W0.tape
  output : W.output = W0.output
  size : W.heap.size = W0.heap.size
  other : ∀ k, k ≠ g → W.heap[k]? = W0.heap[k]?
  res : ∃ cs, W.heap[g]? = some (.cells cs t (0, 0)) ∧ cs.size = n
theorem RUp.set {g t n : Nat} {W0 W : World} (h : RUp g t n W0 W) (i : Nat) (v : Value) : RUp g t n W0 (W.setCell ⟨g, i, none⟩ v) := by
  obtain ⟨cs, h1, h2⟩ := h.res
  have u := upd_setCell W g i v
  exact ⟨u.os.trans h.os, u.tape.trans h.tape, u.output.trans h.output, u.size.trans h.size, fun k hg => (u.other k hg).trans (h.other k hg), _, heap_setCell_same _ _ _ _ _ _ h1, by simpa using h2⟩
theorem RUp.below {g t n B : Nat} {w W0 W : World} (h : RUp g t n W0 W) (hb : Below B w W0) (hg : B ≤ g) : Below B w W :=
  hb.trans ⟨h.os, h.tape, h.output, by rw [h.size]; exact Nat.le_refl _, fun k hk => h.other k (by omega)⟩
theorem seqE_errs {l : List UInt8} {at_ : Int} {m e : Nat} (h : seqE l at_ m = .error e) : e ≠ 0 := by
  unfold seqE at h
  cases h1 : uintE l at_ with
  | error e' =>
    rw [h1] at h
    simp only [Except.error.injEq] at h
    subst h
    have := uintE_errs h1
    omega
  | ok q =>
    rw [h1] at h
    simp only at h
    split at h
    · simp only [Except.error.injEq] at h; omega
    · split at h
      · simp only [Except.error.injEq] at h; omega
      · cases h
theorem wp_store_field {P : Program} {o : Oper} {a : Act} {w : World} {K : Act → World → Prop} {Q : Exit → Act → World → Prop} (ty : TypeId) (x y : Operand) (ho : o.op = .store ty x y)
    (g i : Nat) (v : Value) (hx : a.eval x = .pointer (some ⟨g, i, none⟩)) (hy : a.eval y = v) (h1 : v.oneCell' = true)
    (t : TypeId) (cs : Array Value) (hg : w.heap[g]? = some (.cells cs t (0, 0))) (hi : i < cs.size) (hs : (P.info? ty).map (·.size) = some 1)
    (h : K (a.put o.dst undef) (w.setCell ⟨g, i, none⟩ v)) : o.wp P a w K Q := by
  subst hy
  unfold Oper.wp execOp
  simp only [ho, hx, Instr.storeAt, Instr.sureAddr, Sem.run_bind, Sem.run_pure, Result.andThen_ok, run_storeVar_field w g i t ty cs _ hg hi hs h1]
  exact h
def frZ : Fr := ⟨false, 0, 0, []⟩
def hdC (hs : List Nat) : Array Value := #[.int .u64 ((hs.getD 0 0 : Nat) : Int), .int .u64 ((hs.getD 1 0 : Nat) : Int), .int .u64 ((hs.getD 2 0 : Nat) : Int)]
theorem len_one {hs : List Nat} (h : hs.length = 1) : ∃ x, hs = [x] := by
  match hs, h with
  | [x], _ => exact ⟨x, rfl⟩
theorem len_two {hs : List Nat} (h : hs.length = 2) : ∃ x y, hs = [x, y] := by
  match hs, h with
  | [x, y], _ => exact ⟨x, y, rfl⟩
theorem len_three {hs : List Nat} (h : hs.length = 3) : ∃ x y z, hs = [x, y, z] := by
  match hs, h with
  | [x, y, z], _ => exact ⟨x, y, z, rfl⟩
theorem hdr_next {b : List UInt8} {k at_ v n : Nat} {hs : List Nat} (h : hdr b k = .ok (hs, at_)) (hu : uintE b (at_ : Int) = .ok (v, n)) : hdr b (k + 1) = .ok (hs ++ [v], n) := by
  simp only [hdr, h, hu]
theorem fdec_hdr {b : List UInt8} {e : Nat} (h : hdr b 3 = .error e) : fdec b = .error e := by unfold fdec; rw [h]
theorem hdr_err {b : List UInt8} {k at_ e : Nat} {hs : List Nat} (h : hdr b k = .ok (hs, at_)) (hu : uintE b (at_ : Int) = .error e) (hk : k < 3) : fdec b = .error e := by
  have h1 : hdr b (k + 1) = .error e := by simp only [hdr, h, hu]
  refine fdec_hdr ?_
  have : k = 0 ∨ k = 1 ∨ k = 2 := by omega
  rcases this with rfl | rfl | rfl
  · rw [hdr, hdr, h1]
  · rw [hdr, h1]
  · exact h1
def FDecPost (b : List UInt8) (w : World) (e : Ending) (w' : World) : Prop :=
  Below w.heap.size w w' ∧ match fdec b with
    | .error k => e = .returned (.tuple #[.agg (frCells none 0 frZ), .int .i64 (k : Int)])
    | .ok f => ∃ A c, e = .returned (.tuple #[.agg (frCells A c f), .int .i64 0]) ∧ InB w' A c f.p
theorem FDecPost.no {b : List UInt8} {w w' : World} {k : Nat} (h : fdec b = .error k) (hb : Below w.heap.size w w') : FDecPost b w (.returned (.tuple #[.agg (frCells none 0 frZ), .int .i64 (k : Int)])) w' := ⟨hb, by rw [h]⟩
theorem FDecPost.yes {b : List UInt8} {w w' : World} {f : Fr} {A : Option Addr} {c : Nat} (h : fdec b = .ok f) (hb : Below w.heap.size w w') (hi : InB w' A c f.p) : FDecPost b w (.returned (.tuple #[.agg (frCells A c f), .int .i64 0])) w' := ⟨hb, by rw [h]; exact ⟨A, c, rfl, hi⟩⟩
theorem fr_one' (A : Option Addr) (c : Nat) (f : Fr) : (frCells A c f).all (fun y => y.oneCell') = true := by simp [frCells, Value.oneCell']
theorem fbody_1 {b : List UInt8} {h0 h1 h2 n : Nat} {p : List UInt8} (h : 1 < h0 ∨ 16 ≤ max h1 h2 ∨ n ≠ b.length) : fbody b h0 h1 h2 p n = .error 1 := by unfold fbody; rw [if_pos h]
theorem fbody_2 {b : List UInt8} {h0 h1 h2 n : Nat} {p : List UInt8} {d : Bool} (h : ¬ (1 < h0 ∨ 16 ≤ max h1 h2 ∨ n ≠ b.length)) (hd : decide (h0 = 1) = d) : fbody b h0 h1 h2 p n = if okF ⟨d, h1, h2, p⟩ = true then .ok ⟨d, h1, h2, p⟩ else .error 1 := by subst hd; unfold fbody; rw [if_neg h]
set_option maxRecDepth 100000 in
set_option maxHeartbeats 8000000 in
theorem fdec_any (A : Option Addr) (c : Nat) (b : List UInt8) (w : World) (hl : b.length ≤ 1000000) (hr : Rd w A b) (hA : A = none → c = 0) (hc : b.length ≤ c) :
    Calls Try.prog 12 #[.slice A b.length c] w (FDecPost b w) := by
  have Hr := Lib.hid hr
  have HA := Lib.hid hA
  have h20 := blk_second w (.cells (frCells none 0 frZ) 24) (.cells (hdC []) 72)
  have h40 := heap_alloc2_new w (.cells (frCells none 0 frZ) 24) (.cells (hdC []) 72)
  have hB0 : Below w.heap.size w ((w.alloc (.cells (frCells none 0 frZ) 24)).alloc (.cells (hdC []) 72)) := fw_al (fw_new _ _) _
  clear hr hA
  go_enter Try.func12, Try.ntmps12
  go_wp2_with fail
  go_loopw [5, 14] (fun v5 v14 wr => ∃ (k : Nat) (hs : List Nat) (at_ : Nat), v14 = .int .i64 (k : Int) ∧ k ≤ 3 ∧ v5 = .int .i64 (at_ : Int) ∧ Hid (hdr b k = .ok (hs, at_)) ∧ Hid (hs.length = k) ∧ at_ ≤ b.length ∧ Hid (∀ h ∈ hs, h < 2 ^ 64) ∧ Below w.heap.size w wr ∧ wr.heap[w.heap.size]? = some (.cells (frCells none 0 frZ) 24 (0, 0)) ∧ wr.heap[w.heap.size + 1]? = some (.cells (hdC hs) 72 (0, 0))) (fun _ v14 _ => 3 - (intOf v14).toNat)
  case atStart => exact ⟨0, [], 0, rfl, by omega, rfl, Lib.hid rfl, Lib.hid rfl, by omega, Lib.hid (fun h hh => by cases hh), hB0, h20, h40⟩
  case round =>
    clear hB0 h20 h40
    obtain ⟨k, hs, at_, rfl, hk, rfl, Hh, Hl, hat, Hs, hB, h2, h4⟩ := hrel
    have HrW := Lib.hid (RdC.below Hr.out hB)
    by_cases hk3 : k < 3
    · have HU := Lib.hid (uint_any A c b (at_ : Int) wr (by omega) HrW.out)
      cases hu : uintE b (at_ : Int) with
      | error e =>
        have HE := Lib.hid (hdr_err Hh.out hu hk3)
        have hne : ((e : Int) != 0) = true := by have := uintE_errs hu; simp; omega
        have HP := Lib.hid (show Calls Try.prog 37 #[.slice A b.length c, .int .i64 (at_ : Int)] wr fun e' w' => e' = .returned (.tuple #[.int .u64 0, .int .i64 0, .int .i64 (e : Int)]) ∧ wr = w' from HU.out.mono fun e' w' h => by unfold UPost at h; rw [hu] at h; exact ⟨h.2, h.1⟩)
        clear hu HU
        go_wp2_with fail
        refine HP.out.mono ?_
        rintro e' w' ⟨rfl, rfl⟩
        go_wp2_with (first | (refine wpList_store_upd rfl 24 (.tmp 2) (.tmp 26) rfl w.heap.size (frCells none 0 frZ) rfl rfl 24 _ h2 fr_size rfl (fr_one' _ _ _) ?_; intro W9 h9 u9))
        (try simp only [Exit.inBlock, Exit.then])
        refine bodyPost_ret (res_ct rfl _ _ w.heap.size _ (frCells none 0 frZ) _ _ rfl h9 Try.underlying24 rfl fr_size) rfl ?_
        exact FDecPost.no HE.out (u9.below hB (Nat.le_refl _))
      | ok q =>
        obtain ⟨v, n⟩ := q
        have HP := Lib.hid (show Calls Try.prog 37 #[.slice A b.length c, .int .i64 (at_ : Int)] wr fun e' w' => e' = .returned (.tuple #[.int .u64 (v : Int), .int .i64 (n : Int), .int .i64 0]) ∧ wr = w' ∧ v < 2 ^ 64 ∧ n ≤ b.length from HU.out.mono fun e' w' h => by unfold UPost at h; rw [hu] at h; exact ⟨h.2.1, h.1, h.2.2⟩)
        have Hn := Lib.hid (hdr_next Hh.out hu)
        clear hu HU
        have hk4 : k = 0 ∨ k = 1 ∨ k = 2 := by omega
        rcases hk4 with rfl | rfl | rfl
        · obtain rfl := List.eq_nil_of_length_eq_zero Hl.out
          go_wp2_with fail
          refine HP.out.mono ?_
          rintro e' w' ⟨rfl, rfl, hv, hn⟩
          go_wp2_with (first | (refine wpList_store_field rfl 69 (.tmp 31) (.tmp 29) rfl (w.heap.size + 1) 0 (.int .u64 (v : Int)) rfl rfl rfl 72 _ h4 (by simp [hdC]) (by kernel_rfl) ?_; intro W9 h9 u9))
          go_roundw
          case rel => exact ⟨1, [v], n, by first | rfl | go_num, by omega, rfl, Hn, Lib.hid rfl, hn, Lib.hid (by intro h hh; simp only [List.mem_cons, List.not_mem_nil, or_false] at hh; have := Hs.out; simp only [List.mem_cons, List.not_mem_nil, or_false] at this; rcases hh with rfl; exact hv), u9.below hB (Nat.le_add_right _ 1), (u9.other _ (by omega)).trans h2, h9⟩
          case measure => simp [intOf]
        · obtain ⟨x0, rfl⟩ := len_one Hl.out
          go_wp2_with fail
          refine HP.out.mono ?_
          rintro e' w' ⟨rfl, rfl, hv, hn⟩
          go_wp2_with (first | (refine wpList_store_field rfl 69 (.tmp 31) (.tmp 29) rfl (w.heap.size + 1) 1 (.int .u64 (v : Int)) rfl rfl rfl 72 _ h4 (by simp [hdC]) (by kernel_rfl) ?_; intro W9 h9 u9))
          go_roundw
          case rel => exact ⟨2, [x0, v], n, by first | rfl | go_num, by omega, rfl, Hn, Lib.hid rfl, hn, Lib.hid (by intro h hh; simp only [List.mem_cons, List.not_mem_nil, or_false] at hh; have := Hs.out; simp only [List.mem_cons, List.not_mem_nil, or_false] at this; rcases hh with rfl | rfl; exact this _ rfl; exact hv), u9.below hB (Nat.le_add_right _ 1), (u9.other _ (by omega)).trans h2, h9⟩
          case measure => simp [intOf]
        · obtain ⟨x0, x1, rfl⟩ := len_two Hl.out
          go_wp2_with fail
          refine HP.out.mono ?_
          rintro e' w' ⟨rfl, rfl, hv, hn⟩
          go_wp2_with (first | (refine wpList_store_field rfl 69 (.tmp 31) (.tmp 29) rfl (w.heap.size + 1) 2 (.int .u64 (v : Int)) rfl rfl rfl 72 _ h4 (by simp [hdC]) (by kernel_rfl) ?_; intro W9 h9 u9))
          go_roundw
          case rel => exact ⟨3, [x0, x1, v], n, by first | rfl | go_num, by omega, rfl, Hn, Lib.hid rfl, hn, Lib.hid (by intro h hh; simp only [List.mem_cons, List.not_mem_nil, or_false] at hh; have := Hs.out; simp only [List.mem_cons, List.not_mem_nil, or_false] at this; rcases hh with rfl | rfl | rfl; exact this _ (.inl rfl); exact this _ (.inr rfl); exact hv), u9.below hB (Nat.le_add_right _ 1), (u9.other _ (by omega)).trans h2, h9⟩
          case measure => simp [intOf]
    · obtain rfl : k = 3 := by omega
      obtain ⟨h0, h1, hh2, rfl⟩ := len_three Hl.out
      have hF := (show fdec b = if h0 = 1 then (match seqE b (at_ : Int) 256 with | .error e => .error e | .ok (p, n3) => fbody b h0 h1 hh2 p n3) else fbody b h0 h1 hh2 [] at_ by unfold fdec; rw [Hh.out]; rfl)
      have hg4 := blk_lt h4
      have hv0 := Hs.out h0 (by simp)
      have hv1 := Hs.out h1 (by simp)
      have hv2 := Hs.out hh2 (by simp)
      have ha0 := fun o => (show (wr.alloc o).cell? ⟨w.heap.size + 1, 0, none⟩ = some (.int .u64 (h0 : Int)) from cellOf (alloc_blk o h4) rfl)
      have ha1 := fun o => (show (wr.alloc o).cell? ⟨w.heap.size + 1, 1, none⟩ = some (.int .u64 (h1 : Int)) from cellOf (alloc_blk o h4) rfl)
      have ha2 := fun o => (show (wr.alloc o).cell? ⟨w.heap.size + 1, 2, none⟩ = some (.int .u64 (hh2 : Int)) from cellOf (alloc_blk o h4) rfl)
      clear Hh Hl Hs hk hk3
      by_cases h12 : h1 < hh2
      · have HM : Hid (max h1 hh2 = hh2) := Lib.hid (by omega)
        by_cases hz1 : h0 = 1
        · subst hz1
          rw [if_pos rfl] at hF
          have hb1 : (((1 : Nat) : Int) == 1) = true := rfl
          obtain ⟨W1, hW1⟩ : ∃ W, wr.alloc (.cells (frCells none 0 ⟨true, 0, 0, []⟩) 24) = W := ⟨_, rfl⟩
          have F1 : W1.heap[wr.heap.size]? = some (.cells (frCells none 0 ⟨true, 0, 0, []⟩) 24 (0, 0)) := by rw [← hW1]; exact heap_alloc_new _ _
          have G1 := (show W1.heap[w.heap.size + 1]? = some (.cells (hdC [1, h1, hh2]) 72 (0, 0)) by rw [← hW1]; exact alloc_blk _ h4)
          have Z1 := (show W1.heap[w.heap.size]? = some (.cells (frCells none 0 frZ) 24 (0, 0)) by rw [← hW1]; exact alloc_blk _ h2)
          have B1 := (show Below w.heap.size w W1 by rw [← hW1]; exact fw_al hB _)
          have R1 := Lib.hid (show Rd W1 A b by rw [← hW1]; exact RdC.below HrW.out (fw_new _ _))
          have HW1 := Lib.hid hW1
          clear hW1
          go_wp2_with fail
          have hW1 := HW1.out
          rw [show wr.alloc (.cells #[.bool true, .int .i64 0, .int .i64 0, .slice none 0 0] 24) = W1 from hW1]
          have hB9 := hB.size
          clear hW1 HW1 ha0 ha1 ha2 h4 h2 hB hv0
          refine (bytes_any A c b (at_ : Int) 256 W1 (by omega) (by omega) R1.out HA.out hc).mono ?_
          cases hsq : seqE b (at_ : Int) 256 with
          | error e' =>
            intro e W2 hh
            unfold SPost at hh
            rw [hsq] at hh hF
            obtain ⟨hb2, rfl⟩ := hh
            have HE := Lib.hid hF
            have hne : ((e' : Int) != 0) = true := by have := seqE_errs hsq; simp; omega
            have Z2 := blk_below Z1 hb2
            have B2 := fw_trans B1 hb2
            clear hF hsq
            go_wp2_with (first | (refine wpList_store_upd rfl 24 (.tmp 2) (.tmp 48) rfl w.heap.size (frCells none 0 frZ) rfl rfl 24 _ (Z2) fr_size rfl (fr_one' _ _ _) ?_; intro W9 h9 u9))
            (try simp only [Exit.inBlock, Exit.then])
            refine bodyPost_ret (res_ct rfl _ _ w.heap.size _ (frCells none 0 frZ) _ _ rfl h9 Try.underlying24 rfl fr_size) rfl ?_
            exact FDecPost.no HE.out (u9.below B2 (Nat.le_refl _))
          | ok q =>
            obtain ⟨p, n3⟩ := q
            intro e W2 hh
            unfold SPost at hh
            rw [hsq] at hh hF
            obtain ⟨hb2, A2, c2, rfl, k1, k2, k3, k4, k5, k6⟩ := hh
            have HF := Lib.hid hF
            have K4 := Lib.hid k4
            have K3 := Lib.hid k3
            have hs1 := hb2.size
            have hs0 := blk_lt F1
            have F2 := blk_below F1 hb2
            have Z2 := blk_below Z1 hb2
            have G2 := blk_below G1 hb2
            have B2 := fw_trans B1 hb2
            clear hF hsq k4 k3 F1 Z1 G1 B1 hb2
            go_wp2_with fail
            refine (bclone_any A2 c2 p W2 (by omega) K4.out.c K3.out k1).mono ?_
            rintro e W3 ⟨v3, rfl, hO3, hb3⟩
            obtain ⟨A4, c4, rfl, j1, j2, j3, _⟩ := own_form hO3
            have hR4 := own_rdp' hO3 (Nat.le_refl _)
            have F3 := blk_below F2 hb3
            have Z3 := blk_below Z2 hb3
            have G3 := blk_below G2 hb3
            have B3 := fw_trans B2 hb3
            have J1 := Lib.hid j1
            have HR4 := Lib.hid hR4
            clear F2 Z2 G2 B2 hb3 hO3 j1 hR4
            by_cases hmx : 16 ≤ max h1 hh2
            · have HE := Lib.hid (HF.out.trans (fbody_1 (.inr (.inl hmx))))
              have hmy : 16  ≤ hh2 := by rw [← HM.out]; exact hmx
              clear hmx
              go_wp2_with (first | (refine wpList_store_field rfl 22 (.tmp 53) (.tmp 51) rfl wr.heap.size 3 (.slice A4 p.length c4) rfl rfl rfl 24 _ F3 (by simp [frCells]) (by kernel_rfl) ?_; intro Wt h9t ut; have F10 := (show Wt.heap[wr.heap.size]? = some (.cells (frCells A4 c4 ⟨true, 0, 0, p⟩) 24 (0, 0)) from h9t); have HG := (ut.other (w.heap.size + 1) (by omega)).trans G3; have H2 := (ut.other w.heap.size (by omega)).trans Z3; have HB := ut.below B3 hB9; have g0 : Wt.cell? ⟨w.heap.size + 1, 0, none⟩ = some (.int .u64 1) := cellOf HG rfl; have g1 : Wt.cell? ⟨w.heap.size + 1, 1, none⟩ = some (.int .u64 (h1 : Int)) := cellOf HG rfl; have g2 : Wt.cell? ⟨w.heap.size + 1, 2, none⟩ = some (.int .u64 (hh2 : Int)) := cellOf HG rfl; clear h9t) | (refine wpList_store_upd rfl 24 (.tmp 2) (.tmp 71) rfl w.heap.size (frCells none 0 frZ) rfl rfl 24 _ (H2) fr_size rfl (fr_one' _ _ _) ?_; intro W9 h9 u9))
              (try simp only [Exit.inBlock, Exit.then])
              refine bodyPost_ret (res_ct rfl _ _ w.heap.size _ (frCells none 0 frZ) _ _ rfl h9 Try.underlying24 rfl fr_size) rfl ?_
              exact FDecPost.no HE.out (u9.below HB (Nat.le_refl _))
            · have hmy : hh2 < 16 := by rw [← HM.out]; omega
              have hh1 : h1 < 16 := by omega
              have hh3 : hh2 < 16 := by omega
              by_cases hnb : n3 = b.length
              · have hnb' : ((n3 : Int) != (b.length : Int)) = false := by simp; omega
                have HE := Lib.hid (HF.out.trans (fbody_2 (d := true) (by omega) rfl))
                clear hmx hnb
                go_wp2_with (first | (refine wpList_store_field rfl 22 (.tmp 53) (.tmp 51) rfl wr.heap.size 3 (.slice A4 p.length c4) rfl rfl rfl 24 _ F3 (by simp [frCells]) (by kernel_rfl) ?_; intro Wt h9t ut; have F10 := (show Wt.heap[wr.heap.size]? = some (.cells (frCells A4 c4 ⟨true, 0, 0, p⟩) 24 (0, 0)) from h9t); have HG := (ut.other (w.heap.size + 1) (by omega)).trans G3; have H2 := (ut.other w.heap.size (by omega)).trans Z3; have HB := ut.below B3 hB9; have g0 : Wt.cell? ⟨w.heap.size + 1, 0, none⟩ = some (.int .u64 1) := cellOf HG rfl; have g1 : Wt.cell? ⟨w.heap.size + 1, 1, none⟩ = some (.int .u64 (h1 : Int)) := cellOf HG rfl; have g2 : Wt.cell? ⟨w.heap.size + 1, 2, none⟩ = some (.int .u64 (hh2 : Int)) := cellOf HG rfl; clear h9t) | (refine wpList_store_upd rfl 24 (.tmp 2) (.tmp 71) rfl w.heap.size (frCells none 0 frZ) rfl rfl 24 _ (H2) fr_size rfl (fr_one' _ _ _) ?_; intro W9 h9 u9))
                have Hp : Hid (∀ W', (∀ k, k ≠ wr.heap.size → k ≠ w.heap.size → k < Wt.heap.size → W'.heap[k]? = Wt.heap[k]?) → InB W' A4 c4 p) := Lib.hid (fun W' hW' => ⟨(HR4.out.move (fun k hk hl => (hW' k (by omega) (by omega) (by rw [ut.size]; exact hl)).trans (ut.other k (by omega))) (fun _ h _ => h)).c, J1.out, j2, j3⟩)
                have hw1 : IntKind.i64.wrap (h1 : Int) = (h1 : Int) := by rw [IntKind.wrap_i64]; omega
                have hw2 : IntKind.i64.wrap (hh2 : Int) = (hh2 : Int) := by rw [IntKind.wrap_i64]; omega
                refine' region_cut (fun _ _ _ _ _ W' => RUp wr.heap.size 24 4 Wt W' ∧ W'.heap[wr.heap.size]? = some (.cells (frCells A4 c4 ⟨true, h1, hh2, p⟩) 24 (0, 0))) _ ?reg20 ?rest20
                case reg20 =>
                  refine wp_region_noPanic ?_
                  refine wp_region_held_drew (S := RUp wr.heap.size 24 4 Wt) (by kernel_rfl) ⟨rfl, rfl, rfl, rfl, fun _ _ => rfl, _, F10, rfl⟩ (fun hc => ?_)
                  refine wpAnyH_take (i := 0) (v := .pointer (some ⟨w.heap.size + 1, 1, none⟩)) rfl (by kernel_rfl) (by kernel_rfl) (by kernel_rfl) (fun _ _ _ h => h) (Or.inl ⟨by rfl, fun W hW => by go_simp⟩) hc ?_
                  try simp only [Act.put, List.getElem?_toArray, List.getElem_toArray, List.getElem_cons_zero, List.getElem_cons_succ, List.setIfInBounds_toArray, List.set_cons_zero, List.set_cons_succ]
                  refine wpAnyH_take (i := 1) (v := .int .u64 (h1 : Int)) rfl (by kernel_rfl) (by kernel_rfl) (by kernel_rfl) (fun _ _ _ h => h) (Or.inl ⟨by rfl, fun W hW => by have hz : W.cell? ⟨w.heap.size + 1, 1, none⟩ = some (.int .u64 (h1 : Int)) := cellOf ((hW.other _ (by omega)).trans HG) rfl; go_simp⟩) hc ?_
                  try simp only [Act.put, List.getElem?_toArray, List.getElem_toArray, List.getElem_cons_zero, List.getElem_cons_succ, List.setIfInBounds_toArray, List.set_cons_zero, List.set_cons_succ]
                  refine wpAnyH_take (i := 2) (v := .int .i64 (h1 : Int)) rfl (by kernel_rfl) (by kernel_rfl) (by kernel_rfl) (fun _ _ _ h => h) (Or.inl ⟨by rfl, fun W hW => by go_simp⟩) hc ?_
                  try simp only [Act.put, List.getElem?_toArray, List.getElem_toArray, List.getElem_cons_zero, List.getElem_cons_succ, List.setIfInBounds_toArray, List.set_cons_zero, List.set_cons_succ]
                  refine wpAnyH_take (i := 3) (v := .pointer (some ⟨w.heap.size + 1, 2, none⟩)) rfl (by kernel_rfl) (by kernel_rfl) (by kernel_rfl) (fun _ _ _ h => h) (Or.inl ⟨by rfl, fun W hW => by go_simp⟩) hc ?_
                  try simp only [Act.put, List.getElem?_toArray, List.getElem_toArray, List.getElem_cons_zero, List.getElem_cons_succ, List.setIfInBounds_toArray, List.set_cons_zero, List.set_cons_succ]
                  refine wpAnyH_take (i := 4) (v := .int .u64 (hh2 : Int)) rfl (by kernel_rfl) (by kernel_rfl) (by kernel_rfl) (fun _ _ _ h => h) (Or.inl ⟨by rfl, fun W hW => by have hz : W.cell? ⟨w.heap.size + 1, 2, none⟩ = some (.int .u64 (hh2 : Int)) := cellOf ((hW.other _ (by omega)).trans HG) rfl; go_simp⟩) hc ?_
                  try simp only [Act.put, List.getElem?_toArray, List.getElem_toArray, List.getElem_cons_zero, List.getElem_cons_succ, List.setIfInBounds_toArray, List.set_cons_zero, List.set_cons_succ]
                  refine wpAnyH_take (i := 5) (v := .int .i64 (hh2 : Int)) rfl (by kernel_rfl) (by kernel_rfl) (by kernel_rfl) (fun _ _ _ h => h) (Or.inl ⟨by rfl, fun W hW => by go_simp⟩) hc ?_
                  try simp only [Act.put, List.getElem?_toArray, List.getElem_toArray, List.getElem_cons_zero, List.getElem_cons_succ, List.setIfInBounds_toArray, List.set_cons_zero, List.set_cons_succ]
                  refine wpAnyH_take (i := 6) (v := .pointer (some ⟨wr.heap.size, 1, none⟩)) rfl (by kernel_rfl) (by kernel_rfl) (by kernel_rfl) (fun _ _ _ h => h) (Or.inl ⟨by rfl, fun W hW => by go_simp⟩) hc ?_
                  try simp only [Act.put, List.getElem?_toArray, List.getElem_toArray, List.getElem_cons_zero, List.getElem_cons_succ, List.setIfInBounds_toArray, List.set_cons_zero, List.set_cons_succ]
                  refine wpAnyH_ready (rs := [7]) (by kernel_rfl) (by simp) ?_
                  refine AllReadyH.cons rfl (fun K hK => ?_) AllReadyH.nil
                  rw [if_pos (by rfl)]
                  refine wp_store_field 3 (.tmp 78) (.tmp 74) rfl wr.heap.size 1 (.int .i64 (h1 : Int)) rfl rfl rfl 24 _ (show Wt.drew.heap[wr.heap.size]? = _ from F10) (by simp [frCells]) (by kernel_rfl) ?_
                  refine hK.out _ _ (hc.set 1 _) (fun hc2 => ?_)
                  clear hK
                  try simp only [Act.put, List.getElem?_toArray, List.getElem_toArray, List.getElem_cons_zero, List.getElem_cons_succ, List.setIfInBounds_toArray, List.set_cons_zero, List.set_cons_succ]
                  clear hc
                  have hc := hc2
                  clear hc2
                  have F11 : (Wt.drew.setCell ⟨wr.heap.size, 1, none⟩ (.int .i64 (h1 : Int))).heap[wr.heap.size]? = some (.cells (frCells A4 c4 ⟨true, h1, 0, p⟩) 24 (0, 0)) := heap_setCell_same _ _ _ _ _ _ (show Wt.drew.heap[wr.heap.size]? = _ from F10)
                  refine wpAnyH_take (i := 8) (v := .pointer (some ⟨wr.heap.size, 2, none⟩)) rfl (by kernel_rfl) (by kernel_rfl) (by kernel_rfl) (fun _ _ _ h => h) (Or.inl ⟨by rfl, fun W hW => by go_simp⟩) hc ?_
                  try simp only [Act.put, List.getElem?_toArray, List.getElem_toArray, List.getElem_cons_zero, List.getElem_cons_succ, List.setIfInBounds_toArray, List.set_cons_zero, List.set_cons_succ]
                  refine wpAnyH_ready (rs := [9]) (by kernel_rfl) (by simp) ?_
                  refine AllReadyH.cons rfl (fun K hK => ?_) AllReadyH.nil
                  rw [if_pos (by rfl)]
                  refine wp_store_field 3 (.tmp 79) (.tmp 77) rfl wr.heap.size 2 (.int .i64 (hh2 : Int)) rfl rfl rfl 24 _ (F11) (by simp [frCells]) (by kernel_rfl) ?_
                  refine hK.out _ _ (hc.set 2 _) (fun hc2 => ?_)
                  clear hK
                  try simp only [Act.put, List.getElem?_toArray, List.getElem_toArray, List.getElem_cons_zero, List.getElem_cons_succ, List.setIfInBounds_toArray, List.set_cons_zero, List.set_cons_succ]
                  clear hc
                  have hc := hc2
                  clear hc2
                  have F12 : ((Wt.drew.setCell ⟨wr.heap.size, 1, none⟩ (.int .i64 (h1 : Int))).setCell ⟨wr.heap.size, 2, none⟩ (.int .i64 (hh2 : Int))).heap[wr.heap.size]? = some (.cells (frCells A4 c4 ⟨true, h1, hh2, p⟩) 24 (0, 0)) := heap_setCell_same _ _ _ _ _ _ F11
                  obtain ⟨g', A11, c11, A12, c12, _⟩ : ∃ (_ : Nat) (_ : Option Addr) (_ : Nat) (_ : Option Addr) (_ : Nat), True := ⟨0, none, 0, none, 0, trivial⟩
                  refine wpAnyH_done (by kernel_rfl) ?_ _
                  refine NoPanic.normal ?_
                  refine ⟨rfl, g', A11, c11, A12, c12, ⟨hc, F12⟩, ?_⟩
                  with_unfolding_all exact Eq.refl _
                case rest20 =>
                  intro _ _ _ _ _ W6 ⟨hU, F6⟩
                  go_wp2_with (first | (refine wpList_load_row rfl 24 (.tmp 10) rfl wr.heap.size rfl 24 (frCells A4 c4 ⟨true, h1, hh2, p⟩) (0, 0) _ F6 Try.underlying24 rfl fr_size ?_))
                  refine (valid_any A4 c4 ⟨true, h1, hh2, p⟩ W6).mono ?_
                  rintro e W7 ⟨rfl, hb7⟩
                  have F7 := blk_below F6 hb7
                  have H27 := blk_below ((hU.other w.heap.size (by omega)).trans H2) hb7
                  have hB7 := fw_trans (hU.below HB hB9) hb7
                  cases hok : okF ⟨true, h1, hh2, p⟩ with
                  | false =>
                    have HE2 := Lib.hid (show fdec b = .error 1 from by rw [HE.out, if_neg (by rw [hok]; decide)])
                    clear hok
                    go_wp2_with (first | (refine wpList_store_upd rfl 24 (.tmp 2) (.tmp 83) rfl w.heap.size (frCells none 0 frZ) rfl rfl 24 _ (H27) fr_size rfl (fr_one' _ _ _) ?_; intro W9 h9 u9))
                    (try simp only [Exit.inBlock, Exit.then])
                    refine bodyPost_ret (res_ct rfl _ _ w.heap.size _ (frCells none 0 frZ) _ _ rfl h9 Try.underlying24 rfl fr_size) rfl ?_
                    exact FDecPost.no HE2.out (u9.below hB7 (Nat.le_refl _))
                  | true =>
                    have HE2 := Lib.hid (show fdec b = .ok ⟨true, h1, hh2, p⟩ from by rw [HE.out, if_pos hok])
                    clear hok
                    go_wp2_with (first | (refine wpList_load_row rfl 24 (.tmp 10) rfl wr.heap.size rfl 24 (frCells A4 c4 ⟨true, h1, hh2, p⟩) (0, 0) _ F7 Try.underlying24 rfl fr_size ?_) | (refine wpList_store_upd rfl 24 (.tmp 2) (.tmp 84) rfl w.heap.size (frCells A4 c4 ⟨true, h1, hh2, p⟩) rfl rfl 24 _ H27 fr_size rfl (fr_one' _ _ _) ?_; intro W9 h9 u9))
                    (try simp only [Exit.inBlock, Exit.then])
                    refine bodyPost_ret (res_ct rfl _ _ w.heap.size _ (frCells A4 c4 ⟨true, h1, hh2, p⟩) _ _ rfl h9 Try.underlying24 rfl fr_size) rfl ?_
                    exact FDecPost.yes HE2.out (u9.below hB7 (Nat.le_refl _)) (Hp.out W9 fun k k1 k2 k3 => (u9.other k k2).trans ((hb7.block k (by rw [hU.size]; exact k3)).trans (hU.other k k1)))
              · have hnb' : ((n3 : Int) != (b.length : Int)) = true := by simp; omega
                have HE := Lib.hid (HF.out.trans (fbody_1 (.inr (.inr hnb))))
                clear hmx hnb
                go_wp2_with (first | (refine wpList_store_field rfl 22 (.tmp 53) (.tmp 51) rfl wr.heap.size 3 (.slice A4 p.length c4) rfl rfl rfl 24 _ F3 (by simp [frCells]) (by kernel_rfl) ?_; intro Wt h9t ut; have F10 := (show Wt.heap[wr.heap.size]? = some (.cells (frCells A4 c4 ⟨true, 0, 0, p⟩) 24 (0, 0)) from h9t); have HG := (ut.other (w.heap.size + 1) (by omega)).trans G3; have H2 := (ut.other w.heap.size (by omega)).trans Z3; have HB := ut.below B3 hB9; have g0 : Wt.cell? ⟨w.heap.size + 1, 0, none⟩ = some (.int .u64 1) := cellOf HG rfl; have g1 : Wt.cell? ⟨w.heap.size + 1, 1, none⟩ = some (.int .u64 (h1 : Int)) := cellOf HG rfl; have g2 : Wt.cell? ⟨w.heap.size + 1, 2, none⟩ = some (.int .u64 (hh2 : Int)) := cellOf HG rfl; clear h9t) | (refine wpList_store_upd rfl 24 (.tmp 2) (.tmp 71) rfl w.heap.size (frCells none 0 frZ) rfl rfl 24 _ (H2) fr_size rfl (fr_one' _ _ _) ?_; intro W9 h9 u9))
                (try simp only [Exit.inBlock, Exit.then])
                refine bodyPost_ret (res_ct rfl _ _ w.heap.size _ (frCells none 0 frZ) _ _ rfl h9 Try.underlying24 rfl fr_size) rfl ?_
                exact FDecPost.no HE.out (u9.below HB (Nat.le_refl _))
        · rw [if_neg hz1] at hF
          have hb1 : ((h0 : Int) == 1) = false := by simp; omega
          by_cases hz0 : h0 = 0
          · subst hz0
            have HF := Lib.hid hF
            clear hF hz1 hv0
            by_cases hmx : 16 ≤ max h1 hh2
            · have HE := Lib.hid (HF.out.trans (fbody_1 (.inr (.inl hmx))))
              have hmy : 16  ≤ hh2 := by rw [← HM.out]; exact hmx
              clear hmx
              go_wp2_with (first | (refine wpList_store_upd rfl 24 (.tmp 2) (.tmp 71) rfl w.heap.size (frCells none 0 frZ) rfl rfl 24 _ (alloc_blk _ h2) fr_size rfl (fr_one' _ _ _) ?_; intro W9 h9 u9))
              (try simp only [Exit.inBlock, Exit.then])
              refine bodyPost_ret (res_ct rfl _ _ w.heap.size _ (frCells none 0 frZ) _ _ rfl h9 Try.underlying24 rfl fr_size) rfl ?_
              exact FDecPost.no HE.out (u9.below (fw_al hB _) (Nat.le_refl _))
            · have hmy : hh2 < 16 := by rw [← HM.out]; omega
              have hh1 : h1 < 16 := by omega
              have hh3 : hh2 < 16 := by omega
              by_cases hnb : at_ = b.length
              · have hnb' : ((at_ : Int) != (b.length : Int)) = false := by simp; omega
                have HE := Lib.hid (HF.out.trans (fbody_2 (d := false) (by omega) rfl))
                clear hmx hnb
                go_wp2_with fail
                have hw1 : IntKind.i64.wrap (h1 : Int) = (h1 : Int) := by rw [IntKind.wrap_i64]; omega
                have hw2 : IntKind.i64.wrap (hh2 : Int) = (hh2 : Int) := by rw [IntKind.wrap_i64]; omega
                obtain ⟨Wt, hWt⟩ : ∃ W, wr.alloc (.cells (frCells none 0 frZ) 24) = W := ⟨_, rfl⟩
                have F10 : Wt.heap[wr.heap.size]? = some (.cells (frCells none 0 ⟨false, 0, 0, []⟩) 24 (0, 0)) := by rw [← hWt]; exact heap_alloc_new _ _
                have HG := (show Wt.heap[w.heap.size + 1]? = some (.cells (hdC [0, h1, hh2]) 72 (0, 0)) by rw [← hWt]; exact alloc_blk _ h4)
                have H2 := (show Wt.heap[w.heap.size]? = some (.cells (frCells none 0 frZ) 24 (0, 0)) by rw [← hWt]; exact alloc_blk _ h2)
                have HB := (show Below w.heap.size w Wt by rw [← hWt]; exact fw_al hB _)
                change Code.wp _ _ _ _ (wr.alloc (.cells (frCells none 0 frZ) 24))
                rw [hWt]
                have Hp : Hid (∀ W', (∀ k, k ≠ wr.heap.size → k ≠ w.heap.size → k < Wt.heap.size → W'.heap[k]? = Wt.heap[k]?) → InB W' none 0 []) := Lib.hid (fun W' _ => ⟨.inl rfl, fun _ => rfl, Nat.le_refl _, Nat.zero_le _⟩)
                have hB9 := hB.size
                clear hWt ha0 ha1 ha2 h4 h2 hB
                refine' region_cut (fun _ _ _ _ _ W' => RUp wr.heap.size 24 4 Wt W' ∧ W'.heap[wr.heap.size]? = some (.cells (frCells none 0 ⟨false, h1, hh2, []⟩) 24 (0, 0))) _ ?reg20 ?rest20
                case reg20 =>
                  refine wp_region_noPanic ?_
                  refine wp_region_held_drew (S := RUp wr.heap.size 24 4 Wt) (by kernel_rfl) ⟨rfl, rfl, rfl, rfl, fun _ _ => rfl, _, F10, rfl⟩ (fun hc => ?_)
                  refine wpAnyH_take (i := 0) (v := .pointer (some ⟨w.heap.size + 1, 1, none⟩)) rfl (by kernel_rfl) (by kernel_rfl) (by kernel_rfl) (fun _ _ _ h => h) (Or.inl ⟨by rfl, fun W hW => by go_simp⟩) hc ?_
                  try simp only [Act.put, List.getElem?_toArray, List.getElem_toArray, List.getElem_cons_zero, List.getElem_cons_succ, List.setIfInBounds_toArray, List.set_cons_zero, List.set_cons_succ]
                  refine wpAnyH_take (i := 1) (v := .int .u64 (h1 : Int)) rfl (by kernel_rfl) (by kernel_rfl) (by kernel_rfl) (fun _ _ _ h => h) (Or.inl ⟨by rfl, fun W hW => by have hz : W.cell? ⟨w.heap.size + 1, 1, none⟩ = some (.int .u64 (h1 : Int)) := cellOf ((hW.other _ (by omega)).trans HG) rfl; go_simp⟩) hc ?_
                  try simp only [Act.put, List.getElem?_toArray, List.getElem_toArray, List.getElem_cons_zero, List.getElem_cons_succ, List.setIfInBounds_toArray, List.set_cons_zero, List.set_cons_succ]
                  refine wpAnyH_take (i := 2) (v := .int .i64 (h1 : Int)) rfl (by kernel_rfl) (by kernel_rfl) (by kernel_rfl) (fun _ _ _ h => h) (Or.inl ⟨by rfl, fun W hW => by go_simp⟩) hc ?_
                  try simp only [Act.put, List.getElem?_toArray, List.getElem_toArray, List.getElem_cons_zero, List.getElem_cons_succ, List.setIfInBounds_toArray, List.set_cons_zero, List.set_cons_succ]
                  refine wpAnyH_take (i := 3) (v := .pointer (some ⟨w.heap.size + 1, 2, none⟩)) rfl (by kernel_rfl) (by kernel_rfl) (by kernel_rfl) (fun _ _ _ h => h) (Or.inl ⟨by rfl, fun W hW => by go_simp⟩) hc ?_
                  try simp only [Act.put, List.getElem?_toArray, List.getElem_toArray, List.getElem_cons_zero, List.getElem_cons_succ, List.setIfInBounds_toArray, List.set_cons_zero, List.set_cons_succ]
                  refine wpAnyH_take (i := 4) (v := .int .u64 (hh2 : Int)) rfl (by kernel_rfl) (by kernel_rfl) (by kernel_rfl) (fun _ _ _ h => h) (Or.inl ⟨by rfl, fun W hW => by have hz : W.cell? ⟨w.heap.size + 1, 2, none⟩ = some (.int .u64 (hh2 : Int)) := cellOf ((hW.other _ (by omega)).trans HG) rfl; go_simp⟩) hc ?_
                  try simp only [Act.put, List.getElem?_toArray, List.getElem_toArray, List.getElem_cons_zero, List.getElem_cons_succ, List.setIfInBounds_toArray, List.set_cons_zero, List.set_cons_succ]
                  refine wpAnyH_take (i := 5) (v := .int .i64 (hh2 : Int)) rfl (by kernel_rfl) (by kernel_rfl) (by kernel_rfl) (fun _ _ _ h => h) (Or.inl ⟨by rfl, fun W hW => by go_simp⟩) hc ?_
                  try simp only [Act.put, List.getElem?_toArray, List.getElem_toArray, List.getElem_cons_zero, List.getElem_cons_succ, List.setIfInBounds_toArray, List.set_cons_zero, List.set_cons_succ]
                  refine wpAnyH_take (i := 6) (v := .pointer (some ⟨wr.heap.size, 1, none⟩)) rfl (by kernel_rfl) (by kernel_rfl) (by kernel_rfl) (fun _ _ _ h => h) (Or.inl ⟨by rfl, fun W hW => by go_simp⟩) hc ?_
                  try simp only [Act.put, List.getElem?_toArray, List.getElem_toArray, List.getElem_cons_zero, List.getElem_cons_succ, List.setIfInBounds_toArray, List.set_cons_zero, List.set_cons_succ]
                  refine wpAnyH_ready (rs := [7]) (by kernel_rfl) (by simp) ?_
                  refine AllReadyH.cons rfl (fun K hK => ?_) AllReadyH.nil
                  rw [if_pos (by rfl)]
                  refine wp_store_field 3 (.tmp 78) (.tmp 74) rfl wr.heap.size 1 (.int .i64 (h1 : Int)) rfl rfl rfl 24 _ (show Wt.drew.heap[wr.heap.size]? = _ from F10) (by simp [frCells]) (by kernel_rfl) ?_
                  refine hK.out _ _ (hc.set 1 _) (fun hc2 => ?_)
                  clear hK
                  try simp only [Act.put, List.getElem?_toArray, List.getElem_toArray, List.getElem_cons_zero, List.getElem_cons_succ, List.setIfInBounds_toArray, List.set_cons_zero, List.set_cons_succ]
                  clear hc
                  have hc := hc2
                  clear hc2
                  have F11 : (Wt.drew.setCell ⟨wr.heap.size, 1, none⟩ (.int .i64 (h1 : Int))).heap[wr.heap.size]? = some (.cells (frCells none 0 ⟨false, h1, 0, []⟩) 24 (0, 0)) := heap_setCell_same _ _ _ _ _ _ (show Wt.drew.heap[wr.heap.size]? = _ from F10)
                  refine wpAnyH_take (i := 8) (v := .pointer (some ⟨wr.heap.size, 2, none⟩)) rfl (by kernel_rfl) (by kernel_rfl) (by kernel_rfl) (fun _ _ _ h => h) (Or.inl ⟨by rfl, fun W hW => by go_simp⟩) hc ?_
                  try simp only [Act.put, List.getElem?_toArray, List.getElem_toArray, List.getElem_cons_zero, List.getElem_cons_succ, List.setIfInBounds_toArray, List.set_cons_zero, List.set_cons_succ]
                  refine wpAnyH_ready (rs := [9]) (by kernel_rfl) (by simp) ?_
                  refine AllReadyH.cons rfl (fun K hK => ?_) AllReadyH.nil
                  rw [if_pos (by rfl)]
                  refine wp_store_field 3 (.tmp 79) (.tmp 77) rfl wr.heap.size 2 (.int .i64 (hh2 : Int)) rfl rfl rfl 24 _ (F11) (by simp [frCells]) (by kernel_rfl) ?_
                  refine hK.out _ _ (hc.set 2 _) (fun hc2 => ?_)
                  clear hK
                  try simp only [Act.put, List.getElem?_toArray, List.getElem_toArray, List.getElem_cons_zero, List.getElem_cons_succ, List.setIfInBounds_toArray, List.set_cons_zero, List.set_cons_succ]
                  clear hc
                  have hc := hc2
                  clear hc2
                  have F12 : ((Wt.drew.setCell ⟨wr.heap.size, 1, none⟩ (.int .i64 (h1 : Int))).setCell ⟨wr.heap.size, 2, none⟩ (.int .i64 (hh2 : Int))).heap[wr.heap.size]? = some (.cells (frCells none 0 ⟨false, h1, hh2, []⟩) 24 (0, 0)) := heap_setCell_same _ _ _ _ _ _ F11
                  obtain ⟨g', A11, c11, A12, c12, _⟩ : ∃ (_ : Nat) (_ : Option Addr) (_ : Nat) (_ : Option Addr) (_ : Nat), True := ⟨0, none, 0, none, 0, trivial⟩
                  refine wpAnyH_done (by kernel_rfl) ?_ _
                  refine NoPanic.normal ?_
                  refine ⟨rfl, g', A11, c11, A12, c12, ⟨hc, F12⟩, ?_⟩
                  with_unfolding_all exact Eq.refl _
                case rest20 =>
                  intro _ _ _ _ _ W6 ⟨hU, F6⟩
                  go_wp2_with (first | (refine wpList_load_row rfl 24 (.tmp 10) rfl wr.heap.size rfl 24 (frCells none 0 ⟨false, h1, hh2, []⟩) (0, 0) _ F6 Try.underlying24 rfl fr_size ?_))
                  refine (valid_any none 0 ⟨false, h1, hh2, []⟩ W6).mono ?_
                  rintro e W7 ⟨rfl, hb7⟩
                  have F7 := blk_below F6 hb7
                  have H27 := blk_below ((hU.other w.heap.size (by omega)).trans H2) hb7
                  have hB7 := fw_trans (hU.below HB hB9) hb7
                  cases hok : okF ⟨false, h1, hh2, []⟩ with
                  | false =>
                    have HE2 := Lib.hid (show fdec b = .error 1 from by rw [HE.out, if_neg (by rw [hok]; decide)])
                    clear hok
                    go_wp2_with (first | (refine wpList_store_upd rfl 24 (.tmp 2) (.tmp 83) rfl w.heap.size (frCells none 0 frZ) rfl rfl 24 _ (H27) fr_size rfl (fr_one' _ _ _) ?_; intro W9 h9 u9))
                    (try simp only [Exit.inBlock, Exit.then])
                    refine bodyPost_ret (res_ct rfl _ _ w.heap.size _ (frCells none 0 frZ) _ _ rfl h9 Try.underlying24 rfl fr_size) rfl ?_
                    exact FDecPost.no HE2.out (u9.below hB7 (Nat.le_refl _))
                  | true =>
                    have HE2 := Lib.hid (show fdec b = .ok ⟨false, h1, hh2, []⟩ from by rw [HE.out, if_pos hok])
                    clear hok
                    go_wp2_with (first | (refine wpList_load_row rfl 24 (.tmp 10) rfl wr.heap.size rfl 24 (frCells none 0 ⟨false, h1, hh2, []⟩) (0, 0) _ F7 Try.underlying24 rfl fr_size ?_) | (refine wpList_store_upd rfl 24 (.tmp 2) (.tmp 84) rfl w.heap.size (frCells none 0 ⟨false, h1, hh2, []⟩) rfl rfl 24 _ H27 fr_size rfl (fr_one' _ _ _) ?_; intro W9 h9 u9))
                    (try simp only [Exit.inBlock, Exit.then])
                    refine bodyPost_ret (res_ct rfl _ _ w.heap.size _ (frCells none 0 ⟨false, h1, hh2, []⟩) _ _ rfl h9 Try.underlying24 rfl fr_size) rfl ?_
                    exact FDecPost.yes HE2.out (u9.below hB7 (Nat.le_refl _)) (Hp.out W9 fun k k1 k2 k3 => (u9.other k k2).trans ((hb7.block k (by rw [hU.size]; exact k3)).trans (hU.other k k1)))
              · have hnb' : ((at_ : Int) != (b.length : Int)) = true := by simp; omega
                have HE := Lib.hid (HF.out.trans (fbody_1 (.inr (.inr hnb))))
                clear hmx hnb
                go_wp2_with (first | (refine wpList_store_upd rfl 24 (.tmp 2) (.tmp 71) rfl w.heap.size (frCells none 0 frZ) rfl rfl 24 _ (alloc_blk _ h2) fr_size rfl (fr_one' _ _ _) ?_; intro W9 h9 u9))
                (try simp only [Exit.inBlock, Exit.then])
                refine bodyPost_ret (res_ct rfl _ _ w.heap.size _ (frCells none 0 frZ) _ _ rfl h9 Try.underlying24 rfl fr_size) rfl ?_
                exact FDecPost.no HE.out (u9.below (fw_al hB _) (Nat.le_refl _))
          · have HE := Lib.hid (hF.trans (fbody_1 (.inl (by omega))))
            have hz2 : 1 < h0 := by omega
            clear hF hz1 hz0 hv0
            go_wp2_with (first | (refine wpList_store_upd rfl 24 (.tmp 2) (.tmp 71) rfl w.heap.size (frCells none 0 frZ) rfl rfl 24 _ (alloc_blk _ h2) fr_size rfl (fr_one' _ _ _) ?_; intro W9 h9 u9))
            (try simp only [Exit.inBlock, Exit.then])
            refine bodyPost_ret (res_ct rfl _ _ w.heap.size _ (frCells none 0 frZ) _ _ rfl h9 Try.underlying24 rfl fr_size) rfl ?_
            exact FDecPost.no HE.out (u9.below (fw_al hB _) (Nat.le_refl _))
      · have HM : Hid (max h1 hh2 = h1) := Lib.hid (by omega)
        by_cases hz1 : h0 = 1
        · subst hz1
          rw [if_pos rfl] at hF
          have hb1 : (((1 : Nat) : Int) == 1) = true := rfl
          obtain ⟨W1, hW1⟩ : ∃ W, wr.alloc (.cells (frCells none 0 ⟨true, 0, 0, []⟩) 24) = W := ⟨_, rfl⟩
          have F1 : W1.heap[wr.heap.size]? = some (.cells (frCells none 0 ⟨true, 0, 0, []⟩) 24 (0, 0)) := by rw [← hW1]; exact heap_alloc_new _ _
          have G1 := (show W1.heap[w.heap.size + 1]? = some (.cells (hdC [1, h1, hh2]) 72 (0, 0)) by rw [← hW1]; exact alloc_blk _ h4)
          have Z1 := (show W1.heap[w.heap.size]? = some (.cells (frCells none 0 frZ) 24 (0, 0)) by rw [← hW1]; exact alloc_blk _ h2)
          have B1 := (show Below w.heap.size w W1 by rw [← hW1]; exact fw_al hB _)
          have R1 := Lib.hid (show Rd W1 A b by rw [← hW1]; exact RdC.below HrW.out (fw_new _ _))
          have HW1 := Lib.hid hW1
          clear hW1
          go_wp2_with fail
          have hW1 := HW1.out
          rw [show wr.alloc (.cells #[.bool true, .int .i64 0, .int .i64 0, .slice none 0 0] 24) = W1 from hW1]
          have hB9 := hB.size
          clear hW1 HW1 ha0 ha1 ha2 h4 h2 hB hv0
          refine (bytes_any A c b (at_ : Int) 256 W1 (by omega) (by omega) R1.out HA.out hc).mono ?_
          cases hsq : seqE b (at_ : Int) 256 with
          | error e' =>
            intro e W2 hh
            unfold SPost at hh
            rw [hsq] at hh hF
            obtain ⟨hb2, rfl⟩ := hh
            have HE := Lib.hid hF
            have hne : ((e' : Int) != 0) = true := by have := seqE_errs hsq; simp; omega
            have Z2 := blk_below Z1 hb2
            have B2 := fw_trans B1 hb2
            clear hF hsq
            go_wp2_with (first | (refine wpList_store_upd rfl 24 (.tmp 2) (.tmp 48) rfl w.heap.size (frCells none 0 frZ) rfl rfl 24 _ (Z2) fr_size rfl (fr_one' _ _ _) ?_; intro W9 h9 u9))
            (try simp only [Exit.inBlock, Exit.then])
            refine bodyPost_ret (res_ct rfl _ _ w.heap.size _ (frCells none 0 frZ) _ _ rfl h9 Try.underlying24 rfl fr_size) rfl ?_
            exact FDecPost.no HE.out (u9.below B2 (Nat.le_refl _))
          | ok q =>
            obtain ⟨p, n3⟩ := q
            intro e W2 hh
            unfold SPost at hh
            rw [hsq] at hh hF
            obtain ⟨hb2, A2, c2, rfl, k1, k2, k3, k4, k5, k6⟩ := hh
            have HF := Lib.hid hF
            have K4 := Lib.hid k4
            have K3 := Lib.hid k3
            have hs1 := hb2.size
            have hs0 := blk_lt F1
            have F2 := blk_below F1 hb2
            have Z2 := blk_below Z1 hb2
            have G2 := blk_below G1 hb2
            have B2 := fw_trans B1 hb2
            clear hF hsq k4 k3 F1 Z1 G1 B1 hb2
            go_wp2_with fail
            refine (bclone_any A2 c2 p W2 (by omega) K4.out.c K3.out k1).mono ?_
            rintro e W3 ⟨v3, rfl, hO3, hb3⟩
            obtain ⟨A4, c4, rfl, j1, j2, j3, _⟩ := own_form hO3
            have hR4 := own_rdp' hO3 (Nat.le_refl _)
            have F3 := blk_below F2 hb3
            have Z3 := blk_below Z2 hb3
            have G3 := blk_below G2 hb3
            have B3 := fw_trans B2 hb3
            have J1 := Lib.hid j1
            have HR4 := Lib.hid hR4
            clear F2 Z2 G2 B2 hb3 hO3 j1 hR4
            by_cases hmx : 16 ≤ max h1 hh2
            · have HE := Lib.hid (HF.out.trans (fbody_1 (.inr (.inl hmx))))
              have hmy : 16  ≤ h1 := by rw [← HM.out]; exact hmx
              clear hmx
              go_wp2_with (first | (refine wpList_store_field rfl 22 (.tmp 53) (.tmp 51) rfl wr.heap.size 3 (.slice A4 p.length c4) rfl rfl rfl 24 _ F3 (by simp [frCells]) (by kernel_rfl) ?_; intro Wt h9t ut; have F10 := (show Wt.heap[wr.heap.size]? = some (.cells (frCells A4 c4 ⟨true, 0, 0, p⟩) 24 (0, 0)) from h9t); have HG := (ut.other (w.heap.size + 1) (by omega)).trans G3; have H2 := (ut.other w.heap.size (by omega)).trans Z3; have HB := ut.below B3 hB9; have g0 : Wt.cell? ⟨w.heap.size + 1, 0, none⟩ = some (.int .u64 1) := cellOf HG rfl; have g1 : Wt.cell? ⟨w.heap.size + 1, 1, none⟩ = some (.int .u64 (h1 : Int)) := cellOf HG rfl; have g2 : Wt.cell? ⟨w.heap.size + 1, 2, none⟩ = some (.int .u64 (hh2 : Int)) := cellOf HG rfl; clear h9t) | (refine wpList_store_upd rfl 24 (.tmp 2) (.tmp 71) rfl w.heap.size (frCells none 0 frZ) rfl rfl 24 _ (H2) fr_size rfl (fr_one' _ _ _) ?_; intro W9 h9 u9))
              (try simp only [Exit.inBlock, Exit.then])
              refine bodyPost_ret (res_ct rfl _ _ w.heap.size _ (frCells none 0 frZ) _ _ rfl h9 Try.underlying24 rfl fr_size) rfl ?_
              exact FDecPost.no HE.out (u9.below HB (Nat.le_refl _))
            · have hmy : h1 < 16 := by rw [← HM.out]; omega
              have hh1 : h1 < 16 := by omega
              have hh3 : hh2 < 16 := by omega
              by_cases hnb : n3 = b.length
              · have hnb' : ((n3 : Int) != (b.length : Int)) = false := by simp; omega
                have HE := Lib.hid (HF.out.trans (fbody_2 (d := true) (by omega) rfl))
                clear hmx hnb
                go_wp2_with (first | (refine wpList_store_field rfl 22 (.tmp 53) (.tmp 51) rfl wr.heap.size 3 (.slice A4 p.length c4) rfl rfl rfl 24 _ F3 (by simp [frCells]) (by kernel_rfl) ?_; intro Wt h9t ut; have F10 := (show Wt.heap[wr.heap.size]? = some (.cells (frCells A4 c4 ⟨true, 0, 0, p⟩) 24 (0, 0)) from h9t); have HG := (ut.other (w.heap.size + 1) (by omega)).trans G3; have H2 := (ut.other w.heap.size (by omega)).trans Z3; have HB := ut.below B3 hB9; have g0 : Wt.cell? ⟨w.heap.size + 1, 0, none⟩ = some (.int .u64 1) := cellOf HG rfl; have g1 : Wt.cell? ⟨w.heap.size + 1, 1, none⟩ = some (.int .u64 (h1 : Int)) := cellOf HG rfl; have g2 : Wt.cell? ⟨w.heap.size + 1, 2, none⟩ = some (.int .u64 (hh2 : Int)) := cellOf HG rfl; clear h9t) | (refine wpList_store_upd rfl 24 (.tmp 2) (.tmp 71) rfl w.heap.size (frCells none 0 frZ) rfl rfl 24 _ (H2) fr_size rfl (fr_one' _ _ _) ?_; intro W9 h9 u9))
                have Hp : Hid (∀ W', (∀ k, k ≠ wr.heap.size → k ≠ w.heap.size → k < Wt.heap.size → W'.heap[k]? = Wt.heap[k]?) → InB W' A4 c4 p) := Lib.hid (fun W' hW' => ⟨(HR4.out.move (fun k hk hl => (hW' k (by omega) (by omega) (by rw [ut.size]; exact hl)).trans (ut.other k (by omega))) (fun _ h _ => h)).c, J1.out, j2, j3⟩)
                have hw1 : IntKind.i64.wrap (h1 : Int) = (h1 : Int) := by rw [IntKind.wrap_i64]; omega
                have hw2 : IntKind.i64.wrap (hh2 : Int) = (hh2 : Int) := by rw [IntKind.wrap_i64]; omega
                refine' region_cut (fun _ _ _ _ _ W' => RUp wr.heap.size 24 4 Wt W' ∧ W'.heap[wr.heap.size]? = some (.cells (frCells A4 c4 ⟨true, h1, hh2, p⟩) 24 (0, 0))) _ ?reg20 ?rest20
                case reg20 =>
                  refine wp_region_noPanic ?_
                  refine wp_region_held_drew (S := RUp wr.heap.size 24 4 Wt) (by kernel_rfl) ⟨rfl, rfl, rfl, rfl, fun _ _ => rfl, _, F10, rfl⟩ (fun hc => ?_)
                  refine wpAnyH_take (i := 0) (v := .pointer (some ⟨w.heap.size + 1, 1, none⟩)) rfl (by kernel_rfl) (by kernel_rfl) (by kernel_rfl) (fun _ _ _ h => h) (Or.inl ⟨by rfl, fun W hW => by go_simp⟩) hc ?_
                  try simp only [Act.put, List.getElem?_toArray, List.getElem_toArray, List.getElem_cons_zero, List.getElem_cons_succ, List.setIfInBounds_toArray, List.set_cons_zero, List.set_cons_succ]
                  refine wpAnyH_take (i := 1) (v := .int .u64 (h1 : Int)) rfl (by kernel_rfl) (by kernel_rfl) (by kernel_rfl) (fun _ _ _ h => h) (Or.inl ⟨by rfl, fun W hW => by have hz : W.cell? ⟨w.heap.size + 1, 1, none⟩ = some (.int .u64 (h1 : Int)) := cellOf ((hW.other _ (by omega)).trans HG) rfl; go_simp⟩) hc ?_
                  try simp only [Act.put, List.getElem?_toArray, List.getElem_toArray, List.getElem_cons_zero, List.getElem_cons_succ, List.setIfInBounds_toArray, List.set_cons_zero, List.set_cons_succ]
                  refine wpAnyH_take (i := 2) (v := .int .i64 (h1 : Int)) rfl (by kernel_rfl) (by kernel_rfl) (by kernel_rfl) (fun _ _ _ h => h) (Or.inl ⟨by rfl, fun W hW => by go_simp⟩) hc ?_
                  try simp only [Act.put, List.getElem?_toArray, List.getElem_toArray, List.getElem_cons_zero, List.getElem_cons_succ, List.setIfInBounds_toArray, List.set_cons_zero, List.set_cons_succ]
                  refine wpAnyH_take (i := 3) (v := .pointer (some ⟨w.heap.size + 1, 2, none⟩)) rfl (by kernel_rfl) (by kernel_rfl) (by kernel_rfl) (fun _ _ _ h => h) (Or.inl ⟨by rfl, fun W hW => by go_simp⟩) hc ?_
                  try simp only [Act.put, List.getElem?_toArray, List.getElem_toArray, List.getElem_cons_zero, List.getElem_cons_succ, List.setIfInBounds_toArray, List.set_cons_zero, List.set_cons_succ]
                  refine wpAnyH_take (i := 4) (v := .int .u64 (hh2 : Int)) rfl (by kernel_rfl) (by kernel_rfl) (by kernel_rfl) (fun _ _ _ h => h) (Or.inl ⟨by rfl, fun W hW => by have hz : W.cell? ⟨w.heap.size + 1, 2, none⟩ = some (.int .u64 (hh2 : Int)) := cellOf ((hW.other _ (by omega)).trans HG) rfl; go_simp⟩) hc ?_
                  try simp only [Act.put, List.getElem?_toArray, List.getElem_toArray, List.getElem_cons_zero, List.getElem_cons_succ, List.setIfInBounds_toArray, List.set_cons_zero, List.set_cons_succ]
                  refine wpAnyH_take (i := 5) (v := .int .i64 (hh2 : Int)) rfl (by kernel_rfl) (by kernel_rfl) (by kernel_rfl) (fun _ _ _ h => h) (Or.inl ⟨by rfl, fun W hW => by go_simp⟩) hc ?_
                  try simp only [Act.put, List.getElem?_toArray, List.getElem_toArray, List.getElem_cons_zero, List.getElem_cons_succ, List.setIfInBounds_toArray, List.set_cons_zero, List.set_cons_succ]
                  refine wpAnyH_take (i := 6) (v := .pointer (some ⟨wr.heap.size, 1, none⟩)) rfl (by kernel_rfl) (by kernel_rfl) (by kernel_rfl) (fun _ _ _ h => h) (Or.inl ⟨by rfl, fun W hW => by go_simp⟩) hc ?_
                  try simp only [Act.put, List.getElem?_toArray, List.getElem_toArray, List.getElem_cons_zero, List.getElem_cons_succ, List.setIfInBounds_toArray, List.set_cons_zero, List.set_cons_succ]
                  refine wpAnyH_ready (rs := [7]) (by kernel_rfl) (by simp) ?_
                  refine AllReadyH.cons rfl (fun K hK => ?_) AllReadyH.nil
                  rw [if_pos (by rfl)]
                  refine wp_store_field 3 (.tmp 78) (.tmp 74) rfl wr.heap.size 1 (.int .i64 (h1 : Int)) rfl rfl rfl 24 _ (show Wt.drew.heap[wr.heap.size]? = _ from F10) (by simp [frCells]) (by kernel_rfl) ?_
                  refine hK.out _ _ (hc.set 1 _) (fun hc2 => ?_)
                  clear hK
                  try simp only [Act.put, List.getElem?_toArray, List.getElem_toArray, List.getElem_cons_zero, List.getElem_cons_succ, List.setIfInBounds_toArray, List.set_cons_zero, List.set_cons_succ]
                  clear hc
                  have hc := hc2
                  clear hc2
                  have F11 : (Wt.drew.setCell ⟨wr.heap.size, 1, none⟩ (.int .i64 (h1 : Int))).heap[wr.heap.size]? = some (.cells (frCells A4 c4 ⟨true, h1, 0, p⟩) 24 (0, 0)) := heap_setCell_same _ _ _ _ _ _ (show Wt.drew.heap[wr.heap.size]? = _ from F10)
                  refine wpAnyH_take (i := 8) (v := .pointer (some ⟨wr.heap.size, 2, none⟩)) rfl (by kernel_rfl) (by kernel_rfl) (by kernel_rfl) (fun _ _ _ h => h) (Or.inl ⟨by rfl, fun W hW => by go_simp⟩) hc ?_
                  try simp only [Act.put, List.getElem?_toArray, List.getElem_toArray, List.getElem_cons_zero, List.getElem_cons_succ, List.setIfInBounds_toArray, List.set_cons_zero, List.set_cons_succ]
                  refine wpAnyH_ready (rs := [9]) (by kernel_rfl) (by simp) ?_
                  refine AllReadyH.cons rfl (fun K hK => ?_) AllReadyH.nil
                  rw [if_pos (by rfl)]
                  refine wp_store_field 3 (.tmp 79) (.tmp 77) rfl wr.heap.size 2 (.int .i64 (hh2 : Int)) rfl rfl rfl 24 _ (F11) (by simp [frCells]) (by kernel_rfl) ?_
                  refine hK.out _ _ (hc.set 2 _) (fun hc2 => ?_)
                  clear hK
                  try simp only [Act.put, List.getElem?_toArray, List.getElem_toArray, List.getElem_cons_zero, List.getElem_cons_succ, List.setIfInBounds_toArray, List.set_cons_zero, List.set_cons_succ]
                  clear hc
                  have hc := hc2
                  clear hc2
                  have F12 : ((Wt.drew.setCell ⟨wr.heap.size, 1, none⟩ (.int .i64 (h1 : Int))).setCell ⟨wr.heap.size, 2, none⟩ (.int .i64 (hh2 : Int))).heap[wr.heap.size]? = some (.cells (frCells A4 c4 ⟨true, h1, hh2, p⟩) 24 (0, 0)) := heap_setCell_same _ _ _ _ _ _ F11
                  obtain ⟨g', A11, c11, A12, c12, _⟩ : ∃ (_ : Nat) (_ : Option Addr) (_ : Nat) (_ : Option Addr) (_ : Nat), True := ⟨0, none, 0, none, 0, trivial⟩
                  refine wpAnyH_done (by kernel_rfl) ?_ _
                  refine NoPanic.normal ?_
                  refine ⟨rfl, g', A11, c11, A12, c12, ⟨hc, F12⟩, ?_⟩
                  with_unfolding_all exact Eq.refl _
                case rest20 =>
                  intro _ _ _ _ _ W6 ⟨hU, F6⟩
                  go_wp2_with (first | (refine wpList_load_row rfl 24 (.tmp 10) rfl wr.heap.size rfl 24 (frCells A4 c4 ⟨true, h1, hh2, p⟩) (0, 0) _ F6 Try.underlying24 rfl fr_size ?_))
                  refine (valid_any A4 c4 ⟨true, h1, hh2, p⟩ W6).mono ?_
                  rintro e W7 ⟨rfl, hb7⟩
                  have F7 := blk_below F6 hb7
                  have H27 := blk_below ((hU.other w.heap.size (by omega)).trans H2) hb7
                  have hB7 := fw_trans (hU.below HB hB9) hb7
                  cases hok : okF ⟨true, h1, hh2, p⟩ with
                  | false =>
                    have HE2 := Lib.hid (show fdec b = .error 1 from by rw [HE.out, if_neg (by rw [hok]; decide)])
                    clear hok
                    go_wp2_with (first | (refine wpList_store_upd rfl 24 (.tmp 2) (.tmp 83) rfl w.heap.size (frCells none 0 frZ) rfl rfl 24 _ (H27) fr_size rfl (fr_one' _ _ _) ?_; intro W9 h9 u9))
                    (try simp only [Exit.inBlock, Exit.then])
                    refine bodyPost_ret (res_ct rfl _ _ w.heap.size _ (frCells none 0 frZ) _ _ rfl h9 Try.underlying24 rfl fr_size) rfl ?_
                    exact FDecPost.no HE2.out (u9.below hB7 (Nat.le_refl _))
                  | true =>
                    have HE2 := Lib.hid (show fdec b = .ok ⟨true, h1, hh2, p⟩ from by rw [HE.out, if_pos hok])
                    clear hok
                    go_wp2_with (first | (refine wpList_load_row rfl 24 (.tmp 10) rfl wr.heap.size rfl 24 (frCells A4 c4 ⟨true, h1, hh2, p⟩) (0, 0) _ F7 Try.underlying24 rfl fr_size ?_) | (refine wpList_store_upd rfl 24 (.tmp 2) (.tmp 84) rfl w.heap.size (frCells A4 c4 ⟨true, h1, hh2, p⟩) rfl rfl 24 _ H27 fr_size rfl (fr_one' _ _ _) ?_; intro W9 h9 u9))
                    (try simp only [Exit.inBlock, Exit.then])
                    refine bodyPost_ret (res_ct rfl _ _ w.heap.size _ (frCells A4 c4 ⟨true, h1, hh2, p⟩) _ _ rfl h9 Try.underlying24 rfl fr_size) rfl ?_
                    exact FDecPost.yes HE2.out (u9.below hB7 (Nat.le_refl _)) (Hp.out W9 fun k k1 k2 k3 => (u9.other k k2).trans ((hb7.block k (by rw [hU.size]; exact k3)).trans (hU.other k k1)))
              · have hnb' : ((n3 : Int) != (b.length : Int)) = true := by simp; omega
                have HE := Lib.hid (HF.out.trans (fbody_1 (.inr (.inr hnb))))
                clear hmx hnb
                go_wp2_with (first | (refine wpList_store_field rfl 22 (.tmp 53) (.tmp 51) rfl wr.heap.size 3 (.slice A4 p.length c4) rfl rfl rfl 24 _ F3 (by simp [frCells]) (by kernel_rfl) ?_; intro Wt h9t ut; have F10 := (show Wt.heap[wr.heap.size]? = some (.cells (frCells A4 c4 ⟨true, 0, 0, p⟩) 24 (0, 0)) from h9t); have HG := (ut.other (w.heap.size + 1) (by omega)).trans G3; have H2 := (ut.other w.heap.size (by omega)).trans Z3; have HB := ut.below B3 hB9; have g0 : Wt.cell? ⟨w.heap.size + 1, 0, none⟩ = some (.int .u64 1) := cellOf HG rfl; have g1 : Wt.cell? ⟨w.heap.size + 1, 1, none⟩ = some (.int .u64 (h1 : Int)) := cellOf HG rfl; have g2 : Wt.cell? ⟨w.heap.size + 1, 2, none⟩ = some (.int .u64 (hh2 : Int)) := cellOf HG rfl; clear h9t) | (refine wpList_store_upd rfl 24 (.tmp 2) (.tmp 71) rfl w.heap.size (frCells none 0 frZ) rfl rfl 24 _ (H2) fr_size rfl (fr_one' _ _ _) ?_; intro W9 h9 u9))
                (try simp only [Exit.inBlock, Exit.then])
                refine bodyPost_ret (res_ct rfl _ _ w.heap.size _ (frCells none 0 frZ) _ _ rfl h9 Try.underlying24 rfl fr_size) rfl ?_
                exact FDecPost.no HE.out (u9.below HB (Nat.le_refl _))
        · rw [if_neg hz1] at hF
          have hb1 : ((h0 : Int) == 1) = false := by simp; omega
          by_cases hz0 : h0 = 0
          · subst hz0
            have HF := Lib.hid hF
            clear hF hz1 hv0
            by_cases hmx : 16 ≤ max h1 hh2
            · have HE := Lib.hid (HF.out.trans (fbody_1 (.inr (.inl hmx))))
              have hmy : 16  ≤ h1 := by rw [← HM.out]; exact hmx
              clear hmx
              go_wp2_with (first | (refine wpList_store_upd rfl 24 (.tmp 2) (.tmp 71) rfl w.heap.size (frCells none 0 frZ) rfl rfl 24 _ (alloc_blk _ h2) fr_size rfl (fr_one' _ _ _) ?_; intro W9 h9 u9))
              (try simp only [Exit.inBlock, Exit.then])
              refine bodyPost_ret (res_ct rfl _ _ w.heap.size _ (frCells none 0 frZ) _ _ rfl h9 Try.underlying24 rfl fr_size) rfl ?_
              exact FDecPost.no HE.out (u9.below (fw_al hB _) (Nat.le_refl _))
            · have hmy : h1 < 16 := by rw [← HM.out]; omega
              have hh1 : h1 < 16 := by omega
              have hh3 : hh2 < 16 := by omega
              by_cases hnb : at_ = b.length
              · have hnb' : ((at_ : Int) != (b.length : Int)) = false := by simp; omega
                have HE := Lib.hid (HF.out.trans (fbody_2 (d := false) (by omega) rfl))
                clear hmx hnb
                go_wp2_with fail
                have hw1 : IntKind.i64.wrap (h1 : Int) = (h1 : Int) := by rw [IntKind.wrap_i64]; omega
                have hw2 : IntKind.i64.wrap (hh2 : Int) = (hh2 : Int) := by rw [IntKind.wrap_i64]; omega
                obtain ⟨Wt, hWt⟩ : ∃ W, wr.alloc (.cells (frCells none 0 frZ) 24) = W := ⟨_, rfl⟩
                have F10 : Wt.heap[wr.heap.size]? = some (.cells (frCells none 0 ⟨false, 0, 0, []⟩) 24 (0, 0)) := by rw [← hWt]; exact heap_alloc_new _ _
                have HG := (show Wt.heap[w.heap.size + 1]? = some (.cells (hdC [0, h1, hh2]) 72 (0, 0)) by rw [← hWt]; exact alloc_blk _ h4)
                have H2 := (show Wt.heap[w.heap.size]? = some (.cells (frCells none 0 frZ) 24 (0, 0)) by rw [← hWt]; exact alloc_blk _ h2)
                have HB := (show Below w.heap.size w Wt by rw [← hWt]; exact fw_al hB _)
                change Code.wp _ _ _ _ (wr.alloc (.cells (frCells none 0 frZ) 24))
                rw [hWt]
                have Hp : Hid (∀ W', (∀ k, k ≠ wr.heap.size → k ≠ w.heap.size → k < Wt.heap.size → W'.heap[k]? = Wt.heap[k]?) → InB W' none 0 []) := Lib.hid (fun W' _ => ⟨.inl rfl, fun _ => rfl, Nat.le_refl _, Nat.zero_le _⟩)
                have hB9 := hB.size
                clear hWt ha0 ha1 ha2 h4 h2 hB
                refine' region_cut (fun _ _ _ _ _ W' => RUp wr.heap.size 24 4 Wt W' ∧ W'.heap[wr.heap.size]? = some (.cells (frCells none 0 ⟨false, h1, hh2, []⟩) 24 (0, 0))) _ ?reg20 ?rest20
                case reg20 =>
                  refine wp_region_noPanic ?_
                  refine wp_region_held_drew (S := RUp wr.heap.size 24 4 Wt) (by kernel_rfl) ⟨rfl, rfl, rfl, rfl, fun _ _ => rfl, _, F10, rfl⟩ (fun hc => ?_)
                  refine wpAnyH_take (i := 0) (v := .pointer (some ⟨w.heap.size + 1, 1, none⟩)) rfl (by kernel_rfl) (by kernel_rfl) (by kernel_rfl) (fun _ _ _ h => h) (Or.inl ⟨by rfl, fun W hW => by go_simp⟩) hc ?_
                  try simp only [Act.put, List.getElem?_toArray, List.getElem_toArray, List.getElem_cons_zero, List.getElem_cons_succ, List.setIfInBounds_toArray, List.set_cons_zero, List.set_cons_succ]
                  refine wpAnyH_take (i := 1) (v := .int .u64 (h1 : Int)) rfl (by kernel_rfl) (by kernel_rfl) (by kernel_rfl) (fun _ _ _ h => h) (Or.inl ⟨by rfl, fun W hW => by have hz : W.cell? ⟨w.heap.size + 1, 1, none⟩ = some (.int .u64 (h1 : Int)) := cellOf ((hW.other _ (by omega)).trans HG) rfl; go_simp⟩) hc ?_
                  try simp only [Act.put, List.getElem?_toArray, List.getElem_toArray, List.getElem_cons_zero, List.getElem_cons_succ, List.setIfInBounds_toArray, List.set_cons_zero, List.set_cons_succ]
                  refine wpAnyH_take (i := 2) (v := .int .i64 (h1 : Int)) rfl (by kernel_rfl) (by kernel_rfl) (by kernel_rfl) (fun _ _ _ h => h) (Or.inl ⟨by rfl, fun W hW => by go_simp⟩) hc ?_
                  try simp only [Act.put, List.getElem?_toArray, List.getElem_toArray, List.getElem_cons_zero, List.getElem_cons_succ, List.setIfInBounds_toArray, List.set_cons_zero, List.set_cons_succ]
                  refine wpAnyH_take (i := 3) (v := .pointer (some ⟨w.heap.size + 1, 2, none⟩)) rfl (by kernel_rfl) (by kernel_rfl) (by kernel_rfl) (fun _ _ _ h => h) (Or.inl ⟨by rfl, fun W hW => by go_simp⟩) hc ?_
                  try simp only [Act.put, List.getElem?_toArray, List.getElem_toArray, List.getElem_cons_zero, List.getElem_cons_succ, List.setIfInBounds_toArray, List.set_cons_zero, List.set_cons_succ]
                  refine wpAnyH_take (i := 4) (v := .int .u64 (hh2 : Int)) rfl (by kernel_rfl) (by kernel_rfl) (by kernel_rfl) (fun _ _ _ h => h) (Or.inl ⟨by rfl, fun W hW => by have hz : W.cell? ⟨w.heap.size + 1, 2, none⟩ = some (.int .u64 (hh2 : Int)) := cellOf ((hW.other _ (by omega)).trans HG) rfl; go_simp⟩) hc ?_
                  try simp only [Act.put, List.getElem?_toArray, List.getElem_toArray, List.getElem_cons_zero, List.getElem_cons_succ, List.setIfInBounds_toArray, List.set_cons_zero, List.set_cons_succ]
                  refine wpAnyH_take (i := 5) (v := .int .i64 (hh2 : Int)) rfl (by kernel_rfl) (by kernel_rfl) (by kernel_rfl) (fun _ _ _ h => h) (Or.inl ⟨by rfl, fun W hW => by go_simp⟩) hc ?_
                  try simp only [Act.put, List.getElem?_toArray, List.getElem_toArray, List.getElem_cons_zero, List.getElem_cons_succ, List.setIfInBounds_toArray, List.set_cons_zero, List.set_cons_succ]
                  refine wpAnyH_take (i := 6) (v := .pointer (some ⟨wr.heap.size, 1, none⟩)) rfl (by kernel_rfl) (by kernel_rfl) (by kernel_rfl) (fun _ _ _ h => h) (Or.inl ⟨by rfl, fun W hW => by go_simp⟩) hc ?_
                  try simp only [Act.put, List.getElem?_toArray, List.getElem_toArray, List.getElem_cons_zero, List.getElem_cons_succ, List.setIfInBounds_toArray, List.set_cons_zero, List.set_cons_succ]
                  refine wpAnyH_ready (rs := [7]) (by kernel_rfl) (by simp) ?_
                  refine AllReadyH.cons rfl (fun K hK => ?_) AllReadyH.nil
                  rw [if_pos (by rfl)]
                  refine wp_store_field 3 (.tmp 78) (.tmp 74) rfl wr.heap.size 1 (.int .i64 (h1 : Int)) rfl rfl rfl 24 _ (show Wt.drew.heap[wr.heap.size]? = _ from F10) (by simp [frCells]) (by kernel_rfl) ?_
                  refine hK.out _ _ (hc.set 1 _) (fun hc2 => ?_)
                  clear hK
                  try simp only [Act.put, List.getElem?_toArray, List.getElem_toArray, List.getElem_cons_zero, List.getElem_cons_succ, List.setIfInBounds_toArray, List.set_cons_zero, List.set_cons_succ]
                  clear hc
                  have hc := hc2
                  clear hc2
                  have F11 : (Wt.drew.setCell ⟨wr.heap.size, 1, none⟩ (.int .i64 (h1 : Int))).heap[wr.heap.size]? = some (.cells (frCells none 0 ⟨false, h1, 0, []⟩) 24 (0, 0)) := heap_setCell_same _ _ _ _ _ _ (show Wt.drew.heap[wr.heap.size]? = _ from F10)
                  refine wpAnyH_take (i := 8) (v := .pointer (some ⟨wr.heap.size, 2, none⟩)) rfl (by kernel_rfl) (by kernel_rfl) (by kernel_rfl) (fun _ _ _ h => h) (Or.inl ⟨by rfl, fun W hW => by go_simp⟩) hc ?_
                  try simp only [Act.put, List.getElem?_toArray, List.getElem_toArray, List.getElem_cons_zero, List.getElem_cons_succ, List.setIfInBounds_toArray, List.set_cons_zero, List.set_cons_succ]
                  refine wpAnyH_ready (rs := [9]) (by kernel_rfl) (by simp) ?_
                  refine AllReadyH.cons rfl (fun K hK => ?_) AllReadyH.nil
                  rw [if_pos (by rfl)]
                  refine wp_store_field 3 (.tmp 79) (.tmp 77) rfl wr.heap.size 2 (.int .i64 (hh2 : Int)) rfl rfl rfl 24 _ (F11) (by simp [frCells]) (by kernel_rfl) ?_
                  refine hK.out _ _ (hc.set 2 _) (fun hc2 => ?_)
                  clear hK
                  try simp only [Act.put, List.getElem?_toArray, List.getElem_toArray, List.getElem_cons_zero, List.getElem_cons_succ, List.setIfInBounds_toArray, List.set_cons_zero, List.set_cons_succ]
                  clear hc
                  have hc := hc2
                  clear hc2
                  have F12 : ((Wt.drew.setCell ⟨wr.heap.size, 1, none⟩ (.int .i64 (h1 : Int))).setCell ⟨wr.heap.size, 2, none⟩ (.int .i64 (hh2 : Int))).heap[wr.heap.size]? = some (.cells (frCells none 0 ⟨false, h1, hh2, []⟩) 24 (0, 0)) := heap_setCell_same _ _ _ _ _ _ F11
                  obtain ⟨g', A11, c11, A12, c12, _⟩ : ∃ (_ : Nat) (_ : Option Addr) (_ : Nat) (_ : Option Addr) (_ : Nat), True := ⟨0, none, 0, none, 0, trivial⟩
                  refine wpAnyH_done (by kernel_rfl) ?_ _
                  refine NoPanic.normal ?_
                  refine ⟨rfl, g', A11, c11, A12, c12, ⟨hc, F12⟩, ?_⟩
                  with_unfolding_all exact Eq.refl _
                case rest20 =>
                  intro _ _ _ _ _ W6 ⟨hU, F6⟩
                  go_wp2_with (first | (refine wpList_load_row rfl 24 (.tmp 10) rfl wr.heap.size rfl 24 (frCells none 0 ⟨false, h1, hh2, []⟩) (0, 0) _ F6 Try.underlying24 rfl fr_size ?_))
                  refine (valid_any none 0 ⟨false, h1, hh2, []⟩ W6).mono ?_
                  rintro e W7 ⟨rfl, hb7⟩
                  have F7 := blk_below F6 hb7
                  have H27 := blk_below ((hU.other w.heap.size (by omega)).trans H2) hb7
                  have hB7 := fw_trans (hU.below HB hB9) hb7
                  cases hok : okF ⟨false, h1, hh2, []⟩ with
                  | false =>
                    have HE2 := Lib.hid (show fdec b = .error 1 from by rw [HE.out, if_neg (by rw [hok]; decide)])
                    clear hok
                    go_wp2_with (first | (refine wpList_store_upd rfl 24 (.tmp 2) (.tmp 83) rfl w.heap.size (frCells none 0 frZ) rfl rfl 24 _ (H27) fr_size rfl (fr_one' _ _ _) ?_; intro W9 h9 u9))
                    (try simp only [Exit.inBlock, Exit.then])
                    refine bodyPost_ret (res_ct rfl _ _ w.heap.size _ (frCells none 0 frZ) _ _ rfl h9 Try.underlying24 rfl fr_size) rfl ?_
                    exact FDecPost.no HE2.out (u9.below hB7 (Nat.le_refl _))
                  | true =>
                    have HE2 := Lib.hid (show fdec b = .ok ⟨false, h1, hh2, []⟩ from by rw [HE.out, if_pos hok])
                    clear hok
                    go_wp2_with (first | (refine wpList_load_row rfl 24 (.tmp 10) rfl wr.heap.size rfl 24 (frCells none 0 ⟨false, h1, hh2, []⟩) (0, 0) _ F7 Try.underlying24 rfl fr_size ?_) | (refine wpList_store_upd rfl 24 (.tmp 2) (.tmp 84) rfl w.heap.size (frCells none 0 ⟨false, h1, hh2, []⟩) rfl rfl 24 _ H27 fr_size rfl (fr_one' _ _ _) ?_; intro W9 h9 u9))
                    (try simp only [Exit.inBlock, Exit.then])
                    refine bodyPost_ret (res_ct rfl _ _ w.heap.size _ (frCells none 0 ⟨false, h1, hh2, []⟩) _ _ rfl h9 Try.underlying24 rfl fr_size) rfl ?_
                    exact FDecPost.yes HE2.out (u9.below hB7 (Nat.le_refl _)) (Hp.out W9 fun k k1 k2 k3 => (u9.other k k2).trans ((hb7.block k (by rw [hU.size]; exact k3)).trans (hU.other k k1)))
              · have hnb' : ((at_ : Int) != (b.length : Int)) = true := by simp; omega
                have HE := Lib.hid (HF.out.trans (fbody_1 (.inr (.inr hnb))))
                clear hmx hnb
                go_wp2_with (first | (refine wpList_store_upd rfl 24 (.tmp 2) (.tmp 71) rfl w.heap.size (frCells none 0 frZ) rfl rfl 24 _ (alloc_blk _ h2) fr_size rfl (fr_one' _ _ _) ?_; intro W9 h9 u9))
                (try simp only [Exit.inBlock, Exit.then])
                refine bodyPost_ret (res_ct rfl _ _ w.heap.size _ (frCells none 0 frZ) _ _ rfl h9 Try.underlying24 rfl fr_size) rfl ?_
                exact FDecPost.no HE.out (u9.below (fw_al hB _) (Nat.le_refl _))
          · have HE := Lib.hid (hF.trans (fbody_1 (.inl (by omega))))
            have hz2 : 1 < h0 := by omega
            clear hF hz1 hz0 hv0
            go_wp2_with (first | (refine wpList_store_upd rfl 24 (.tmp 2) (.tmp 71) rfl w.heap.size (frCells none 0 frZ) rfl rfl 24 _ (alloc_blk _ h2) fr_size rfl (fr_one' _ _ _) ?_; intro W9 h9 u9))
            (try simp only [Exit.inBlock, Exit.then])
            refine bodyPost_ret (res_ct rfl _ _ w.heap.size _ (frCells none 0 frZ) _ _ rfl h9 Try.underlying24 rfl fr_size) rfl ?_
            exact FDecPost.no HE.out (u9.below (fw_al hB _) (Nat.le_refl _))
end Go.Proofs.Ytpeahilkmlffkaa
