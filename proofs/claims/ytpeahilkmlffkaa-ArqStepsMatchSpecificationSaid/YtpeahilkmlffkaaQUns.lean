import Derived.Test.YtpeahilkmlffkaaQHeldIn
import Derived.Test.YtpeahilkmlffkaaQRecv
import Derived.OwnWalkIn
import Derived.TacticsInMore
import Derived.LoopNIn
import Derived.LoopIn
import Derived.RegionIn
import Derived.OrdersIn
import Derived.Stop.RegionWithIn
set_option linter.unusedSimpArgs false
set_option linter.unusedVariables false
namespace Go.Proofs.Ytpeahilkmlffkaa
open Go Go.RowKit Hd Go.Mem

attribute [local go_sem] Oper.semAt_some

/-- the data frames from the payload number i on -/
def unsGo (l : LE) : Nat → Nat → List Fr
  | 0, _ => []
  | k + 1, i => ⟨true, sPlus l.b i, l.x, l.q.getD i []⟩ :: unsGo l k (i + 1)
theorem unsGo_len (l : LE) : ∀ k i, (unsGo l k i).length = k
  | 0, _ => rfl
  | k + 1, i => by simp [unsGo, unsGo_len l k (i + 1)]
theorem unsGo_step (l : LE) (M k : Nat) (h : k < M) (hq : k < l.q.length) : unsGo l (M - k) k = ⟨true, sPlus l.b k, l.x, l.q[k]⟩ :: unsGo l (M - (k + 1)) (k + 1) := by
  rw [show M - k = (M - (k + 1)) + 1 from by omega]
  simp [unsGo, hq]
set_option maxRecDepth 100000 in
set_option maxHeartbeats 4000000 in
theorem uns_stops (m : Nat) (hm : 1 ≤ m) (S : Nat → Prop) (l : LE) (A : Option Addr) (c bx s M : Nat) (hs : l.s = (s : Int)) (hM : M = min l.q.length 7) (hsM : s ≤ M) (hb : 0 ≤ l.b ∧ l.b < 16) (h64 : l.q.length ≤ 64) (h3 : ∀ i (h : i < l.q.length), l.q[i].length ≤ 100000)
    (w : World) (hbx : w.heap[bx]? = some (.cells (leCells A c l) 39 (0, 0))) (hS : S bx) (hq : ∃ vs, RdP S w A vs ∧ Els S w vs l.q) :
    SeqF Try.prog m 60 #[.pointer (some ⟨bx, 0, none⟩)] (KpS S) (fun xs => xs.map (·.f) = unsGo l (M - s) s) 7 w := by
  intro ly J W hW hY h0
  have hbxW := (hW.block _ (blk_lt hbx)).trans hbx
  have hqW : ∃ vs, RdP S W A vs ∧ Els S W vs l.q := by
    obtain ⟨vs, h1, h2⟩ := hq
    exact ⟨vs, h1.below hW, h2.move (fun b _ hl => hW.block b hl) (fun _ h _ => h)⟩
  have hc2 : W.cell? ⟨bx, 2, none⟩ = some (.int .i64 l.s) := cellOf hbxW rfl
  rw [hs] at hc2
  have HY := Lib.hid hY
  have HQ := Lib.hid hqW
  have H3 := Lib.hid h3
  clear hq hqW hbx hY h3
  refine callsIn_of_wp Try.func60 rfl trivial ?_ rfl
  simp only [Try.ntmps60, List.size_toArray, List.length_cons, List.length_nil, Nat.reduceAdd, Nat.reduceSub, Array.replicate_succ, Array.replicate_zero, List.push_toArray, List.append_toArray, List.nil_append, List.cons_append]
  gi_wp2
  gi_loopw [3] (fun v wr => ∃ (pre : List FrE) (k : Nat), v = .int .i64 k ∧ k ≤ M ∧ Hid (pre.map (·.f) ++ unsGo l (M - k) k = unsGo l (M - s) s) ∧ J pre wr ∧ KpS S W wr) (fun v _ => M - (intOf v).toNat)
  case atStart => exact ⟨[], s, rfl, hsM, Lib.hid rfl, h0, Nat.le_refl _, fun _ _ _ => rfl⟩
  case round =>
    obtain ⟨pre, k, rfl, hkM, Hpre, hJ, hkp⟩ := hrel
    have hbr := (hkp.blk bx hS (blk_lt hbxW)).trans hbxW
    have r0 : wr.cell? ⟨bx, 0, none⟩ = some (.slice A l.q.length c) := cellOf hbr rfl
    clear hc2
    by_cases hlt : k < M
    · have hq7 : k < l.q.length ∧ k < 7 := by omega
      obtain ⟨b, off, A1, c1, rfl, hc1, hz1, hz2, hA1, hr1⟩ := RdL.at (w := wr) (A := A) (ps := l.q) (by obtain ⟨vs, h1, h2⟩ := HQ.out; exact ⟨vs, (h1.move hkp.blk (fun _ h _ => h)).c, h2.move hkp.blk (fun _ _ _ => trivial)⟩) k hq7.1
      have hp3 := H3.out k hq7.1
      have hstep := unsGo_step l M k hlt hq7.1
      generalize l.q[k] = p at *
      have r1 : wr.cell? ⟨bx, 1, none⟩ = some (.int .i64 l.b) := cellOf hbr rfl
      have r3 : wr.cell? ⟨bx, 3, none⟩ = some (.int .i64 l.x) := cellOf hbr rfl
      have hlen : pre.length < 7 := by
        have h1 := congrArg List.length Hpre.out
        simp [unsGo_len] at h1
        omega
      obtain ⟨V, hV⟩ : ∃ V : Int, sPlus l.b (k : Int) = V := ⟨_, rfl⟩
      have HP := Lib.hid (fun W => (show Int.tmod (l.b + (k : Int) + 16) 16 = V from hV) ▸ plus_any l.b k W (by omega) (by omega))
      rw [hV] at hstep
      have Hstep := Lib.hid hstep
      have hr1d : Rd wr.drew A1 p := hr1
      clear hstep hV
      have hmn : ((k : Int) < if (7 : Int) < (l.q.length : Int) then 7 else (l.q.length : Int)) = True := eq_true (by split <;> omega)
      have hr3b := fun W' (hb : Below wr.drew.heap.size wr.drew W') => (show W'.cell? ⟨bx, 3, none⟩ = some (.int .i64 l.x) from cellOf ((hb.block _ (blk_lt hbr)).trans hbr) rfl)
      have Hr3b := Lib.hid hr3b
      have hqk := hq7.1
      have hk7 := hq7.2
      have hSb : S b := by
        obtain ⟨vs, h1, h2⟩ := HQ.out
        rcases h1 with h1 | ⟨b', off', e, hS', _⟩
        · have := h2.length
          rw [h1] at this
          simp at this
          omega
        · simp only [Option.some.injEq, Addr.mk.injEq] at e
          rw [e.1]
          exact hS'
      clear HQ H3 h0 hW hbxW h64 hM hs hr3b hkM hsM hq7 hbr
      gi_wp2
      all_goals
        clear hmn
        refine region_S (S := KpS S wr) (by kernel_rfl) ?_
        have hS0 : KpS S wr wr.drew := ⟨Nat.le_refl _, fun _ _ _ => rfl⟩
        refine anyS_take (i := 0) (v := .func (.yield ly) #[] #[]) rfl rfl (by kernel_rfl) (by kernel_rfl) (by kernel_rfl) (fun _ _ _ h => h) ⟨Or.inl ⟨by rfl, fun W' hW => ?_⟩, fun _ => rfl⟩ hS0 ?_
        · go_simp
        try simp only [Act.put, List.getElem?_toArray, List.getElem_toArray, List.getElem_cons_zero, List.getElem_cons_succ, List.setIfInBounds_toArray, List.set_cons_zero, List.set_cons_succ]
        refine anyS_take (i := 1) (v := .pointer (some ⟨bx, 1, none⟩)) rfl rfl (by kernel_rfl) (by kernel_rfl) (by kernel_rfl) (fun _ _ _ h => h) ⟨Or.inl ⟨by rfl, fun W' hW => ?_⟩, fun _ => rfl⟩ hS0 ?_
        · go_simp
        try simp only [Act.put, List.getElem?_toArray, List.getElem_toArray, List.getElem_cons_zero, List.getElem_cons_succ, List.setIfInBounds_toArray, List.set_cons_zero, List.set_cons_succ]
        refine anyS_take (i := 2) (v := .int .i64 l.b) rfl rfl (by kernel_rfl) (by kernel_rfl) (by kernel_rfl) (fun _ _ _ h => h) ⟨Or.inl ⟨by rfl, fun W' hW => ?_⟩, fun _ => rfl⟩ hS0 ?_
        · have hz : W'.cell? ⟨bx, 1, none⟩ = some (.int .i64 l.b) := (World.cell?_of_block (a := ⟨bx, 1, none⟩) (hW.blk _ hS (World.block_lt_of_cell? wr _ r1))).trans r1; go_simp
        try simp only [Act.put, List.getElem?_toArray, List.getElem_toArray, List.getElem_cons_zero, List.getElem_cons_succ, List.setIfInBounds_toArray, List.set_cons_zero, List.set_cons_succ]
        refine anyS_take (i := 3) (v := .int .i64 (k : Int)) rfl rfl (by kernel_rfl) (by kernel_rfl) (by kernel_rfl) (fun _ _ _ h => h) ⟨Or.inl ⟨by rfl, fun W' hW => ?_⟩, fun _ => rfl⟩ hS0 ?_
        · go_simp
        try simp only [Act.put, List.getElem?_toArray, List.getElem_toArray, List.getElem_cons_zero, List.getElem_cons_succ, List.setIfInBounds_toArray, List.set_cons_zero, List.set_cons_succ]
        refine anyS_take (i := 5) (v := .pointer (some ⟨bx, 3, none⟩)) rfl rfl (by kernel_rfl) (by kernel_rfl) (by kernel_rfl) (fun _ _ _ h => h) ⟨Or.inl ⟨by rfl, fun W' hW => ?_⟩, fun _ => rfl⟩ hS0 ?_
        · go_simp
        try simp only [Act.put, List.getElem?_toArray, List.getElem_toArray, List.getElem_cons_zero, List.getElem_cons_succ, List.setIfInBounds_toArray, List.set_cons_zero, List.set_cons_succ]
        refine anyS_take (i := 6) (v := .int .i64 l.x) rfl rfl (by kernel_rfl) (by kernel_rfl) (by kernel_rfl) (fun _ _ _ h => h) ⟨Or.inl ⟨by rfl, fun W' hW => ?_⟩, fun _ => rfl⟩ hS0 ?_
        · have hz : W'.cell? ⟨bx, 3, none⟩ = some (.int .i64 l.x) := (World.cell?_of_block (a := ⟨bx, 3, none⟩) (hW.blk _ hS (World.block_lt_of_cell? wr _ r3))).trans r3; go_simp
        try simp only [Act.put, List.getElem?_toArray, List.getElem_toArray, List.getElem_cons_zero, List.getElem_cons_succ, List.setIfInBounds_toArray, List.set_cons_zero, List.set_cons_succ]
        refine anyS_take (i := 7) (v := .pointer (some ⟨bx, 0, none⟩)) rfl rfl (by kernel_rfl) (by kernel_rfl) (by kernel_rfl) (fun _ _ _ h => h) ⟨Or.inl ⟨by rfl, fun W' hW => ?_⟩, fun _ => rfl⟩ hS0 ?_
        · go_simp
        try simp only [Act.put, List.getElem?_toArray, List.getElem_toArray, List.getElem_cons_zero, List.getElem_cons_succ, List.setIfInBounds_toArray, List.set_cons_zero, List.set_cons_succ]
        refine anyS_take (i := 8) (v := .slice (some ⟨b, off, none⟩) l.q.length c) rfl rfl (by kernel_rfl) (by kernel_rfl) (by kernel_rfl) (fun _ _ _ h => h) ⟨Or.inl ⟨by rfl, fun W' hW => ?_⟩, fun _ => rfl⟩ hS0 ?_
        · have hz : W'.cell? ⟨bx, 0, none⟩ = some (.slice (some ⟨b, off, none⟩) l.q.length c) := (World.cell?_of_block (a := ⟨bx, 0, none⟩) (hW.blk _ hS (World.block_lt_of_cell? wr _ r0))).trans r0; go_simp
        try simp only [Act.put, List.getElem?_toArray, List.getElem_toArray, List.getElem_cons_zero, List.getElem_cons_succ, List.setIfInBounds_toArray, List.set_cons_zero, List.set_cons_succ]
        refine anyS_take (i := 9) (v := .int .i64 (k : Int)) rfl rfl (by kernel_rfl) (by kernel_rfl) (by kernel_rfl) (fun _ _ _ h => h) ⟨Or.inl ⟨by rfl, fun W' hW => ?_⟩, fun _ => rfl⟩ hS0 ?_
        · go_simp
        try simp only [Act.put, List.getElem?_toArray, List.getElem_toArray, List.getElem_cons_zero, List.getElem_cons_succ, List.setIfInBounds_toArray, List.set_cons_zero, List.set_cons_succ]
        refine anyS_take (i := 10) (v := .pointer (some ⟨b, off + k, none⟩)) rfl rfl (by kernel_rfl) (by kernel_rfl) (by kernel_rfl) (fun _ _ _ h => h) ⟨Or.inl ⟨by rfl, fun W' hW => ?_⟩, fun _ => rfl⟩ hS0 ?_
        · go_simp
        try simp only [Act.put, List.getElem?_toArray, List.getElem_toArray, List.getElem_cons_zero, List.getElem_cons_succ, List.setIfInBounds_toArray, List.set_cons_zero, List.set_cons_succ]
        refine anyS_take (i := 11) (v := .slice A1 p.length c1) rfl rfl (by kernel_rfl) (by kernel_rfl) (by kernel_rfl) (fun _ _ _ h => h) ⟨Or.inl ⟨by rfl, fun W' hW => ?_⟩, fun _ => rfl⟩ hS0 ?_
        · have hz : W'.cell? ⟨b, off + k, none⟩ = some (.slice A1 p.length c1) := (World.cell?_of_block (a := ⟨b, off + k, none⟩) (hW.blk _ hSb (World.block_lt_of_cell? wr _ hc1))).trans hc1; go_simp
        try simp only [Act.put, List.getElem?_toArray, List.getElem_toArray, List.getElem_cons_zero, List.getElem_cons_succ, List.setIfInBounds_toArray, List.set_cons_zero, List.set_cons_succ]
        refine anyS_one (i := 4) (by kernel_rfl) rfl (fun K hK => ?_)
        go_simp
        refine ⟨trivial, ?_⟩
        refine (callsIn_wide.2 (HP.out _)).mono ?_
        rintro e w' ⟨rfl, rfl⟩
        refine hK.out _ _ hS0 ?_
        clear hK
        try simp only [Act.put, List.getElem?_toArray, List.getElem_toArray, List.getElem_cons_zero, List.getElem_cons_succ, List.setIfInBounds_toArray, List.set_cons_zero, List.set_cons_succ]
        refine anyS_one (i := 12) (by kernel_rfl) rfl (fun K hK => ?_)
        go_simp
        refine ⟨trivial, ?_⟩
        refine (callsIn_wide.2 (payload_any A1 c1 p _ (by omega) hr1d hA1)).mono ?_
        rintro e w3 ⟨v3, rfl, hO, hb3⟩
        obtain ⟨A4, c4, rfl, hA4, hc4, hm4, hrr⟩ := own_form hO
        have hS3 : Below wr.heap.size wr w3 := ⟨hb3.os, hb3.tape, hb3.output, hb3.size, hb3.block⟩
        obtain ⟨fn, tmps, assign, body, hy, hR⟩ := HY.out pre ⟨⟨true, V, l.x, p⟩, A4, c4⟩ wr w3 hJ hS3 ⟨hA4, hc4, hm4, own_rdp' hO (Nat.le_refl _)⟩ hlen
        simp only [FrE.cells, frCells] at hy
        refine hK.out _ _ ⟨hS3.size, fun k _ hl => hS3.block k hl⟩ ?_
        clear hK hS0
        have hS0 : KpS S wr w3 := ⟨hS3.size, fun k _ hl => hS3.block k hl⟩
        try simp only [Act.put, List.getElem?_toArray, List.getElem_toArray, List.getElem_cons_zero, List.getElem_cons_succ, List.setIfInBounds_toArray, List.set_cons_zero, List.set_cons_succ]
        refine anyS_take (i := 13) (v := .agg #[.bool true, .int .i64 V, .int .i64 l.x, .slice A4 p.length c4]) rfl rfl (by kernel_rfl) (by kernel_rfl) (by kernel_rfl) (fun _ _ _ h => h) ⟨Or.inl ⟨by rfl, fun W' hW => ?_⟩, fun _ => rfl⟩ hS0 ?_
        · go_simp
        try simp only [Act.put, List.getElem?_toArray, List.getElem_toArray, List.getElem_cons_zero, List.getElem_cons_succ, List.setIfInBounds_toArray, List.set_cons_zero, List.set_cons_succ]
        refine anyS_one (i := 14) (by kernel_rfl) rfl (fun K hK => ?_)
        go_simp
        refine hR.mono ?_
        rintro e W3 ⟨rfl, hJ3, hk3⟩
        refine hK.out _ _ (hS0.trans hk3) ?_
        clear hK
        try simp only [Act.put, List.getElem?_toArray, List.getElem_toArray, List.getElem_cons_zero, List.getElem_cons_succ, List.setIfInBounds_toArray, List.set_cons_zero, List.set_cons_succ]
        refine anyS_take (i := 15) (v := .bool false) rfl rfl (by kernel_rfl) (by kernel_rfl) (by kernel_rfl) (fun _ _ _ h => h) ⟨Or.inl ⟨by rfl, fun W' hW => ?_⟩, fun _ => rfl⟩ (hS0.trans hk3) ?_
        · go_simp
        try simp only [Act.put, List.getElem?_toArray, List.getElem_toArray, List.getElem_cons_zero, List.getElem_cons_succ, List.setIfInBounds_toArray, List.set_cons_zero, List.set_cons_succ]
        refine anyS_done (by kernel_rfl) ?_ _
        have hkp3 := hkp.trans (hS0.trans hk3)
        clear hR hy HP Hr3b hS0 hk3 hkp hb3 hS3 hO hrr r0 r1 r3 hc1 hr1 hr1d hJ
        gi_wp2
        go_roundw
        case rel => exact ⟨pre ++ [⟨⟨true, V, l.x, p⟩, A4, c4⟩], k + 1, by go_num, by omega, Lib.hid (by rw [← Hpre.out, Hstep.out]; simp), hJ3, hkp3⟩
        case measure => simp [intOf]; omega
    · have : k = M := by omega
      subst this
      have hmn : ((k : Int) < if (7 : Int) < (l.q.length : Int) then 7 else (l.q.length : Int)) = False := eq_false (by split <;> omega)
      have hxs := Hpre.out
      rw [Nat.sub_self] at hxs
      have Hxs := Lib.hid (show pre.map (·.f) = unsGo l (k - s) s by simpa [unsGo] using hxs)
      clear hxs Hpre HQ H3 HY hM
      gi_wp2
      all_goals
        go_end0
        exact ⟨⟨_, rfl⟩, pre, Hxs.out, hJ⟩
end Go.Proofs.Ytpeahilkmlffkaa
