import Derived.Test.YtpeahilkmlffkaaQValid
import Derived.Test.YtpeahilkmlffkaaQHeld
import Derived.Deep.RegionHeld3
set_option linter.unusedSimpArgs false
set_option linter.unusedVariables false
namespace Go.Proofs.Ytpeahilkmlffkaa
open Go Go.RowKit Hd Go.Mem

def inTimeB (x : Int) : Bool := decide (0 ≤ x) && decide (x ≤ 1099511627776)
def sPlus (x y : Int) : Int := Int.tmod (x + y + 16) 16
/-- what a frame's reception makes of an end behind the acknowledgement -/
def ackE (l : LE) (n : Nat) (now : Int) : LE :=
  { l with q := l.q.drop n, b := sPlus l.b n, s := l.s - n, d := if 0 < n then (if 0 < l.s - n then now + 3 else -1) else l.d }
def recvE (l : LE) (f : Fr) (now : Int) : LE × List (List UInt8) × Nat :=
  if chk l ≠ 0 then (leZ, [], chk l)
  else if inTimeB now = false ∨ okF f = false then (leZ, [], 1)
  else if l.s < sPlus f.a (-l.b) then (leZ, [], 120)
  else if f.d = false then (ackE l (sPlus f.a (-l.b)).toNat now, [], 0)
  else if f.s ≠ l.x then ({ ackE l (sPlus f.a (-l.b)).toNat now with o := true }, [], 0)
  else ({ ackE l (sPlus f.a (-l.b)).toNat now with o := true, x := sPlus l.x 1 }, [f.p], 0)
def RecvPost (l : LE) (f : Fr) (now : Int) (w : World) (e : Ending) (w' : World) : Prop :=
  ∃ A c A' c', e = .returned (.tuple #[.agg (leCells A c (recvE l f now).1), .slice A' (recvE l f now).2.1.length c', .int .i64 ((recvE l f now).2.2 : Int)]) ∧ InL w' A c (recvE l f now).1.q ∧ InL w' A' c' (recvE l f now).2.1 ∧ Below w.heap.size w w'
theorem InL.empty (w : World) : InL w none 0 [] := ⟨⟨[], .inl rfl, trivial⟩, fun _ => rfl, Nat.le_refl _, Nat.zero_le _⟩
theorem RecvPost.no {l : LE} {f : Fr} {now : Int} {w W : World} {k : Nat} (h : recvE l f now = (leZ, [], k)) (hb : Below w.heap.size w W) : RecvPost l f now w (.returned (.tuple #[.agg (leCells none 0 leZ), .slice none 0 0, .int .i64 (k : Int)])) W := by
  unfold RecvPost
  rw [h]
  exact ⟨none, 0, none, 0, rfl, InL.empty _, InL.empty _, hb⟩
theorem recv_chk {l : LE} {f : Fr} {now : Int} (h : chk l ≠ 0) : recvE l f now = (leZ, [], chk l) := by unfold recvE; rw [if_pos h]
theorem recv_arg {l : LE} {f : Fr} {now : Int} (h : chk l = 0) (h2 : inTimeB now = false ∨ okF f = false) : recvE l f now = (leZ, [], 1) := by unfold recvE; rw [if_neg (by simp [h]), if_pos h2]
theorem recv_win {l : LE} {f : Fr} {now : Int} (h : chk l = 0) (h2 : ¬ (inTimeB now = false ∨ okF f = false)) (h3 : l.s < sPlus f.a (-l.b)) : recvE l f now = (leZ, [], 120) := by unfold recvE; rw [if_neg (by simp [h]), if_neg h2, if_pos h3]
theorem blk_third (w : World) (a b c : Obj) : (((w.alloc a).alloc b).alloc c).heap[w.heap.size]? = some a ∧ (((w.alloc a).alloc b).alloc c).heap[w.heap.size + 1]? = some b ∧ (((w.alloc a).alloc b).alloc c).heap[w.heap.size + 2]? = some c := by
  refine ⟨?_, ?_, ?_⟩
  · rw [heap_alloc_old _ _ (by simp; omega), heap_alloc_old _ _ (by simp)]; exact heap_alloc_new _ _
  · rw [heap_alloc_old _ _ (by simp)]; exact heap_alloc2_new _ _ _
  · have := heap_alloc_new ((w.alloc a).alloc b) c
    simpa using this
theorem sPlus_range {x y : Int} (h : 0 ≤ x + y + 16) : 0 ≤ sPlus x y ∧ sPlus x y < 16 := by
  unfold sPlus
  rw [Int.tmod_eq_emod_of_nonneg h]
  omega
theorem okSeq_range {x : Int} (h : okSeq x = true) : 0 ≤ x ∧ x < 16 := by
  unfold okSeq at h
  simpa using h
theorem setB {W : World} {g n c : Nat} {A : Option Addr} {l : LE} {t : Nat} (h : W.heap[g]? = some (.cells (leN A n c l) t (0, 0))) (v : Int) : (W.setCell ⟨g, 1, none⟩ (.int .i64 v)).heap[g]? = some (.cells (leN A n c { l with b := v }) t (0, 0)) := heap_setCell_same _ _ _ _ _ _ h
theorem setS {W : World} {g n c : Nat} {A : Option Addr} {l : LE} {t : Nat} (h : W.heap[g]? = some (.cells (leN A n c l) t (0, 0))) (v : Int) : (W.setCell ⟨g, 2, none⟩ (.int .i64 v)).heap[g]? = some (.cells (leN A n c { l with s := v }) t (0, 0)) := heap_setCell_same _ _ _ _ _ _ h
theorem setX {W : World} {g n c : Nat} {A : Option Addr} {l : LE} {t : Nat} (h : W.heap[g]? = some (.cells (leN A n c l) t (0, 0))) (v : Int) : (W.setCell ⟨g, 3, none⟩ (.int .i64 v)).heap[g]? = some (.cells (leN A n c { l with x := v }) t (0, 0)) := heap_setCell_same _ _ _ _ _ _ h
theorem setO {W : World} {g n c : Nat} {A : Option Addr} {l : LE} {t : Nat} (h : W.heap[g]? = some (.cells (leN A n c l) t (0, 0))) (v : Bool) : (W.setCell ⟨g, 4, none⟩ (.bool v)).heap[g]? = some (.cells (leN A n c { l with o := v }) t (0, 0)) := heap_setCell_same _ _ _ _ _ _ h
theorem setD {W : World} {g n c : Nat} {A : Option Addr} {l : LE} {t : Nat} (h : W.heap[g]? = some (.cells (leN A n c l) t (0, 0))) (v : Int) : (W.setCell ⟨g, 5, none⟩ (.int .i64 v)).heap[g]? = some (.cells (leN A n c { l with d := v }) t (0, 0)) := heap_setCell_same _ _ _ _ _ _ h
structure RecvGo (l : LE) (f : Fr) (now : Int) (n : Nat) : Prop where
  out0 : f.d = false → recvE l f now = (ackE l n now, [], 0)
  out1 : f.d = true → f.s ≠ l.x → recvE l f now = ({ ackE l n now with o := true }, [], 0)
  out3 : f.d = true → f.s = l.x → recvE l f now = ({ ackE l n now with o := true, x := sPlus l.x 1 }, [f.p], 0)
theorem recv_go {l : LE} {f : Fr} {now : Int} {n : Nat} (h : chk l = 0) (h2 : ¬ (inTimeB now = false ∨ okF f = false)) (h3 : ¬ l.s < sPlus f.a (-l.b)) (hn : (sPlus f.a (-l.b)).toNat = n) : RecvGo l f now n := by
  have e : recvE l f now = if f.d = false then (ackE l (sPlus f.a (-l.b)).toNat now, [], 0)
      else if f.s ≠ l.x then ({ ackE l (sPlus f.a (-l.b)).toNat now with o := true }, [], 0)
      else ({ ackE l (sPlus f.a (-l.b)).toNat now with o := true, x := sPlus l.x 1 }, [f.p], 0) := by
    unfold recvE
    rw [if_neg (by simp [h]), if_neg h2, if_neg h3]
  rw [hn] at e
  refine ⟨fun h1 => ?_, fun h1 h4 => ?_, fun h1 h4 => ?_⟩
  · rw [e, if_pos h1]
  · rw [e, if_neg (by simp [h1]), if_pos h4]
  · rw [e, if_neg (by simp [h1]), if_neg (by simp [h4])]
theorem RecvPost.yes {l l' l1 : LE} {f : Fr} {now : Int} {ps : List (List UInt8)} {w W : World} {A A' : Option Addr} {n c m c' base : Nat} (h : recvE l f now = (l', ps, 0)) (hn : n = l'.q.length) (he : leN A n c l1 = leN A n c l') (hq : RowB W base 22 (.slice A n c) l'.q) (hps : InL W A' c' ps) (hm : m = ps.length) (hb : Below w.heap.size w W) :
    RecvPost l f now w (.returned (.tuple #[.agg (leN A n c l1), .slice A' m c', .int .i64 0])) W := by
  subst hn hm
  obtain ⟨A2, c2, e, h1, h2, h3, h4⟩ := RowB.form hq
  simp only [Value.slice.injEq] at e
  obtain ⟨rfl, _, rfl⟩ := e
  unfold RecvPost
  rw [h, he]
  exact ⟨A, c, A', c', rfl, ⟨h4, h1, h2, h3⟩, hps, hb⟩
theorem els_drop {ok : Nat → Prop} {w : World} : ∀ {vs : List Value} {ps : List (List UInt8)} (n : Nat), Els ok w vs ps → Els ok w (vs.drop n) (ps.drop n)
  | vs, ps, 0, h => by simpa using h
  | [], [], _ + 1, _ => trivial
  | _ :: _, _ :: _, n + 1, h => by simpa using els_drop n h.2
  | [], _ :: _, _ + 1, h => h.elim
  | _ :: _, [], _ + 1, h => h.elim
theorem RdL.drop {w : World} {A : Option Addr} {ps : List (List UInt8)} (h : RdL w A ps) (n c : Nat) (hc : ps.length ≤ c) : RdL w (adv A c n) (ps.drop n) := by
  obtain ⟨vs, h1, h2⟩ := h
  exact ⟨vs.drop n, RdC.drop h1 n c (by have := h2.length; omega), els_drop n h2⟩
set_option maxRecDepth 100000 in
set_option maxHeartbeats 8000000 in
theorem recv_any (A A' : Option Addr) (c c' : Nat) (l : LE) (f : Fr) (now : Int) (w : World) (hq : l.q.length ≤ 140737488351232) (hp : f.p.length ≤ 140737488351232) (hr : RdL w A l.q) (hc : l.q.length ≤ c) (hr' : Rd w A' f.p) (hA' : A' = none → c' = 0) :
    Calls Try.prog 21 #[.agg (leCells A c l), .agg (frCells A' c' f), .int .i64 now] w (RecvPost l f now w) := by
  have Hr := Lib.hid hr
  have Hr' := Lib.hid hr'
  have HA' := Lib.hid hA'
  clear hr hr' hA'
  have HC := Lib.hid (fun W (h : RdL W A l.q) => check_any A c l W hq h)
  have h3 := blk_third w (.cells (leCells A c l) 39) (.cells (frCells A' c' f) 24) (.cells (leCells none 0 leZ) 39)
  have hB0 : Below w.heap.size w (((w.alloc (.cells (leCells A c l) 39)).alloc (.cells (frCells A' c' f) 24)).alloc (.cells (leCells none 0 leZ) 39)) := fw_al (fw_al (fw_new _ _) _) _
  obtain ⟨h30, h31, h32⟩ := h3
  go_enter Try.func21, Try.ntmps21
  go_wp2_with (first | (refine wpList_load_row rfl 39 (.tmp 3) rfl w.heap.size rfl 39 (leCells A c l) (0, 0) _ h30 Try.underlying39 rfl le_size ?_))
  refine (HC.out _ (Hr.out.below hB0)).mono ?_
  rintro e W ⟨rfl, hb⟩
  have hP := blk_below h30 hb
  have hF := blk_below h31 hb
  have hR := blk_below h32 hb
  have hB := fw_trans hB0 hb
  have hsz : w.heap.size + 3 ≤ W.heap.size := by have := hb.size; simpa using this
  clear HC hB0 hb h30 h31 h32
  by_cases hk : chk l = 0
  · have hk2 := hk
    obtain ⟨hOB, hS, _, h64⟩ := chk_zero hk
    have Hshort := Lib.hid (okS_short hS)
    rw [hk]
    by_cases hT : inTimeB now = false
    · have Hno := Lib.hid (fun W' (hb : Below w.heap.size w W') => RecvPost.no (recv_arg (f := f) hk (.inl hT)) hb)
      unfold inTimeB at hT
      have HT := Lib.hid hT
      clear hT hk hk2
      go_wp2_with fail
      refine (intime_any now W).mono ?_
      rw [HT.out]
      rintro e W2 ⟨rfl, rfl⟩
      go_wp2_with (refine wpList_store_row rfl 39 (.tmp 6) (.tmp 25) rfl (w.heap.size + 2) (leCells none 0 leZ) rfl rfl 39 _ hR le_size rfl (le_one none 0 0 leZ) ?_)
      (try simp only [Exit.inBlock, Exit.then])
      refine bodyPost_ret (res_ctt rfl _ _ (w.heap.size + 2) _ (leCells none 0 leZ) _ _ rfl (setRow_heap _ _ _ _ _ _ hR) Try.underlying39 rfl le_size) rfl ?_
      exact (Hno.out _ (below_setRow hB (Nat.le_add_right _ 2) _))
    · have hT1 : inTimeB now = true := by simpa using hT
      have HT := Lib.hid (show (decide (0 ≤ now) && decide (now ≤ 1099511627776)) = true from hT1)
      cases hO : okF f with
      | false =>
        have Hno := Lib.hid (fun W' (hb : Below w.heap.size w W') => RecvPost.no (recv_arg (f := f) (now := now) hk (.inr hO)) hb)
        have HO := Lib.hid hO
        clear hT hT1 hk hk2 hO
        go_wp2_with fail
        refine (intime_any now W).mono ?_
        rw [HT.out]
        rintro e W2 ⟨rfl, rfl⟩
        have q0 : W.cell? ⟨w.heap.size + 1, 0, none⟩ = some (.bool f.d) := cellOf hF rfl
        have q1 : W.cell? ⟨w.heap.size + 1, 1, none⟩ = some (.int .i64 f.s) := cellOf hF rfl
        have q2 : W.cell? ⟨w.heap.size + 1, 2, none⟩ = some (.int .i64 f.a) := cellOf hF rfl
        have q3 : W.cell? ⟨w.heap.size + 1, 3, none⟩ = some (.slice A' f.p.length c') := cellOf hF rfl
        go_wp2_with fail
        refine (valid_any A' c' f W).mono ?_
        rw [HO.out]
        rintro e W2 ⟨rfl, hb2⟩
        have hR2 := blk_below hR hb2
        have hB2 := fw_trans hB hb2
        go_wp2_with (refine wpList_store_row rfl 39 (.tmp 6) (.tmp 25) rfl (w.heap.size + 2) (leCells none 0 leZ) rfl rfl 39 _ hR2 le_size rfl (le_one none 0 0 leZ) ?_)
        (try simp only [Exit.inBlock, Exit.then])
        refine bodyPost_ret (res_ctt rfl _ _ (w.heap.size + 2) _ (leCells none 0 leZ) _ _ rfl (setRow_heap _ _ _ _ _ _ hR2) Try.underlying39 rfl le_size) rfl ?_
        exact (Hno.out _ (below_setRow hB2 (Nat.le_add_right _ 2) _))
      | true =>
        have HO := Lib.hid hO
        have hn0 : ¬ (inTimeB now = false ∨ okF f = false) := by simp [hT1, hO]
        have hFs : okSeq f.s = true ∧ okSeq f.a = true ∧ shortB f.p = true := by
          unfold okF at hO
          simp only [List.all_cons, List.all_nil, Bool.and_true, Bool.and_eq_true] at hO
          exact ⟨hO.1.1.1, hO.1.1.2, hO.1.2⟩
        have hLs : okSeq l.b = true ∧ okSeq l.x = true := by unfold okB at hOB; simpa using hOB
        obtain ⟨hb0, hb1⟩ := okSeq_range hLs.1
        obtain ⟨hx0, hx1⟩ := okSeq_range hLs.2
        obtain ⟨ha0, ha1⟩ := okSeq_range hFs.2.1
        obtain ⟨hs0, hs1, hs2⟩ : 0 ≤ l.s ∧ l.s ≤ 7 ∧ l.s ≤ (l.q.length : Int) := by
          unfold okS at hS
          simp only [Bool.and_eq_true, decide_eq_true_eq] at hS
          exact ⟨hS.1.1.1, hS.1.1.2, hS.1.2⟩
        obtain ⟨N, hN⟩ : ∃ N, sPlus f.a (-l.b) = N := ⟨_, rfl⟩
        obtain ⟨hN0, hN1⟩ : 0 ≤ N ∧ N < 16 := hN ▸ sPlus_range (by omega)
        have HN := Lib.hid hN
        clear hT hT1 hO hN hk2 hFs hLs
        go_wp2_with fail
        refine (intime_any now W).mono ?_
        rw [HT.out]
        rintro e W2 ⟨rfl, rfl⟩
        have q0 : W.cell? ⟨w.heap.size + 1, 0, none⟩ = some (.bool f.d) := cellOf hF rfl
        have q1 : W.cell? ⟨w.heap.size + 1, 1, none⟩ = some (.int .i64 f.s) := cellOf hF rfl
        have q2 : W.cell? ⟨w.heap.size + 1, 2, none⟩ = some (.int .i64 f.a) := cellOf hF rfl
        have q3 : W.cell? ⟨w.heap.size + 1, 3, none⟩ = some (.slice A' f.p.length c') := cellOf hF rfl
        go_wp2_with fail
        refine (valid_any A' c' f W).mono ?_
        rw [HO.out]
        rintro e W2 ⟨rfl, hb2⟩
        have hP2 := blk_below hP hb2
        have hF2 := blk_below hF hb2
        have hR2 := blk_below hR hb2
        have hB2 := fw_trans hB hb2
        have hsz2 : w.heap.size + 3 ≤ W2.heap.size := Nat.le_trans hsz hb2.size
        clear hP hF hR hB hsz hb2
        have p0 : W2.cell? ⟨w.heap.size, 0, none⟩ = some (.slice A l.q.length c) := cellOf hP2 rfl
        have p1 : W2.cell? ⟨w.heap.size, 1, none⟩ = some (.int .i64 l.b) := cellOf hP2 rfl
        have p2 : W2.cell? ⟨w.heap.size, 2, none⟩ = some (.int .i64 l.s) := cellOf hP2 rfl
        have p4 : W2.cell? ⟨w.heap.size + 1, 2, none⟩ = some (.int .i64 f.a) := cellOf hF2 rfl
        go_wp2_with fail
        refine (plus_any f.a (-l.b) W2 (by omega) (by omega)).mono ?_
        rintro e W3 ⟨rfl, rfl⟩
        rw [show Int.tmod (f.a + -l.b + 16) 16 = N from HN.out]
        by_cases hw : l.s < N
        · have Hno := Lib.hid (fun W' (hb : Below w.heap.size w W') => RecvPost.no (recv_win hk hn0 (HN.out.symm ▸ hw)) hb)
          have hwb : decide (l.s < N) = true := by simpa using hw
          clear hn0 hk
          go_wp2_with (refine wpList_store_row rfl 39 (.tmp 6) (.tmp 36) rfl (w.heap.size + 2) (leCells none 0 leZ) rfl rfl 39 _ hR2 le_size rfl (le_one none 0 0 leZ) ?_)
          (try simp only [Exit.inBlock, Exit.then])
          refine bodyPost_ret (res_ctt rfl _ _ (w.heap.size + 2) _ (leCells none 0 leZ) _ _ rfl (setRow_heap _ _ _ _ _ _ hR2) Try.underlying39 rfl le_size) rfl ?_
          exact (Hno.out _ (below_setRow hB2 (Nat.le_add_right _ 2) _))
        · have hwb : decide (l.s < N) = false := by simpa using hw
          obtain ⟨n, rfl⟩ : ∃ n : Nat, N = (n : Int) := ⟨N.toNat, by omega⟩
          have hnq : n ≤ l.q.length := by omega
          have sl := slc_l 37 22 Try.underlying37 (by kernel_rfl) A l.q.length c (n : Int) n rfl hnq
          rw [show l.q.length - n = (l.q.drop n).length by simp] at sl
          have Hdr := Lib.hid (fun W (h : RdL W A l.q) => RdL.drop h n c hc)
          generalize hqd : l.q.drop n = qd at *
          generalize adv A c n = A2 at *
          have hqs : ∀ i (hi : i < qd.length), qd[i].length ≤ 100000 := by subst hqd; intro i hi; rw [List.getElem_drop]; exact Hshort.out _ _
          have hql : qd.length ≤ 64 := by rw [← hqd]; simp; omega
          have HQD := Lib.hid hqd
          clear hqd
          go_wp2_with fail
          clear p0 p1 p2 p4 q0 q1 q2 q3
          refine (qclone_any A2 (c - n) qd W2 (by omega) hqs (Hdr.out W2 (Hr.out.below hB2))).mono ?_
          rintro e W4 ⟨v4, rfl, hR4, hb4⟩
          have hP4 := blk_below hP2 hb4
          have hF4 := blk_below hF2 hb4
          have hRr4 := blk_below hR2 hb4
          have hB4 := fw_trans hB2 hb4
          obtain ⟨A5, c5, rfl, hA5, hc5, hm5, hL5⟩ := RowB.form hR4
          have HR4 := Lib.hid hR4
          have hr1 : W4.cell? ⟨w.heap.size, 1, none⟩ = some (.int .i64 l.b) := cellOf hP4 rfl
          clear hP2 hF2 hR2 hqs hR4 hA5 hL5 hb4
          go_wp2_with (refine wpList_store_field rfl 37 (.tmp 42) (.tmp 41) rfl w.heap.size 0 (.slice A5 qd.length c5) rfl rfl rfl 39 _ hP4 (by simp [leCells]) (by kernel_rfl) ?_; intro W5 hP5 u5; have hr15 : W5.cell? ⟨w.heap.size, 1, none⟩ = some (.int .i64 l.b) := cellOf hP5 rfl)
          refine (plus_any l.b (n : Int) W5 (by omega) (by omega)).mono ?_
          rintro e W6 ⟨rfl, rfl⟩
          have hP5' : W5.heap[w.heap.size]? = some (.cells (leN A5 qd.length c5 l) 39 (0, 0)) := hP5
          have hF5 := (u5.other (w.heap.size + 1) (by omega)).trans hF4
          have hR5 := (u5.other (w.heap.size + 2) (by omega)).trans hRr4
          have hB5 := u5.below hB4 (Nat.le_refl _)
          have Hq5 : Hid (RowB W5 W2.heap.size 22 (.slice A5 qd.length c5) qd) := Lib.hid (HR4.out.move fun k hk _ => u5.other k (by omega))
          clear hP5 hr15 hr1 hP4 hF4 hRr4 hB4 HR4 u5
          obtain ⟨Bv, hBv⟩ : ∃ Bv, sPlus l.b (n : Int) = Bv := ⟨_, rfl⟩
          rw [show Int.tmod (l.b + (n : Int) + 16) 16 = Bv from hBv]
          have HBv := Lib.hid hBv
          obtain ⟨Sv, hSv⟩ : ∃ Sv, l.s - (n : Int) = Sv := ⟨_, rfl⟩
          have hSv0 : 0 ≤ Sv ∧ Sv ≤ 7 := by omega
          have hnow : 0 ≤ now ∧ now ≤ 1099511627776 := by have := HT.out; simpa using this
          have hRec := Lib.hid (recv_go hk hn0 (by rw [HN.out]; omega) (show (sPlus f.a (-l.b)).toNat = n by rw [HN.out]; simp))
          have HA := Lib.hid (show ackE l n now = { l with q := qd, b := Bv, s := Sv, d := if 0 < n then (if 0 < Sv then now + 3 else -1) else l.d } by unfold ackE; rw [HQD.out, HBv.out, hSv])
          have r2a : W5.cell? ⟨w.heap.size, 2, none⟩ = some (.int .i64 l.s) := cellOf hP5' rfl
          have r1a : W5.cell? ⟨w.heap.size, 1, none⟩ = some (.int .i64 l.b) := cellOf hP5' rfl
          clear hn0 hk HBv HN hBv
          cases hFd : f.d with
          | false =>
            by_cases hn1 : 0 < n
            · by_cases hs9 : 0 < Sv
              · rw [if_pos hn1, if_pos hs9] at HA
                have HE := Lib.hid (HA.out ▸ hRec.out.out0 hFd)
                have hnf : (0 < n) = True := eq_true hn1
                have hsf : decide (0 < Sv) = true := by simpa using hs9
                clear hn1 HA hRec
                go_wp2_with (first | (refine wpList_store_field rfl 3 (.tmp 47) (.tmp 46) rfl w.heap.size 1 (.int .i64 Bv) rfl rfl rfl 39 _ hP5' (by simp [leN]) (by kernel_rfl) ?_; intro W6 hW6 u6; have HW6 := (hW6 : W6.heap[w.heap.size]? = some (.cells (leN A5 qd.length c5 { l with b := Bv }) 39 (0, 0))); clear hW6; have W62 : W6.cell? ⟨w.heap.size, 2, none⟩ = some (.int .i64 l.s) := cellOf HW6 rfl) | (refine wpList_store_field rfl 3 (.tmp 52) (.tmp 51) rfl w.heap.size 2 (.int .i64 Sv) rfl rfl rfl 39 _ HW6 (by simp [leN]) (by kernel_rfl) ?_; intro W7 hW7 u7; have HW7 := (hW7 : W7.heap[w.heap.size]? = some (.cells (leN A5 qd.length c5 { l with b := Bv, s := Sv }) 39 (0, 0))); clear hW7; have W72 : W7.cell? ⟨w.heap.size, 2, none⟩ = some (.int .i64 Sv) := cellOf HW7 rfl; have W73 : W7.cell? ⟨w.heap.size, 3, none⟩ = some (.int .i64 l.x) := cellOf HW7 rfl; have W7F := (u7.other (w.heap.size + 1) (by omega)).trans ((u6.other (w.heap.size + 1) (by omega)).trans hF5); have W7q0 : W7.cell? ⟨w.heap.size + 1, 0, none⟩ = some (.bool f.d) := cellOf W7F rfl; have W7q1 : W7.cell? ⟨w.heap.size + 1, 1, none⟩ = some (.int .i64 f.s) := cellOf W7F rfl) | (refine wpList_store_field rfl 3 (.tmp 63) (.tmp 62) rfl w.heap.size 5 (.int .i64 (now + 3)) rfl rfl rfl 39 _ HW7 (by simp [leN]) (by kernel_rfl) ?_; intro W8 hW8 u8; have HW8 := (hW8 : W8.heap[w.heap.size]? = some (.cells (leN A5 qd.length c5 { l with b := Bv, s := Sv, d := now + 3 }) 39 (0, 0))); clear hW8; have W82 : W8.cell? ⟨w.heap.size, 2, none⟩ = some (.int .i64 Sv) := cellOf HW8 rfl; have W83 : W8.cell? ⟨w.heap.size, 3, none⟩ = some (.int .i64 l.x) := cellOf HW8 rfl; have W8F := (u8.other (w.heap.size + 1) (by omega)).trans ((u7.other (w.heap.size + 1) (by omega)).trans ((u6.other (w.heap.size + 1) (by omega)).trans hF5)); have W8q0 : W8.cell? ⟨w.heap.size + 1, 0, none⟩ = some (.bool f.d) := cellOf W8F rfl; have W8q1 : W8.cell? ⟨w.heap.size + 1, 1, none⟩ = some (.int .i64 f.s) := cellOf W8F rfl) | (refine wpList_load_row rfl 39 (.tmp 3) rfl w.heap.size rfl 39 (leN A5 qd.length c5 { l with b := Bv, s := Sv, d := now + 3 }) (0, 0) _ HW8 Try.underlying39 rfl le_size ?_) | (refine wpList_store_row rfl 39 (.tmp 6) (.tmp 71) rfl (w.heap.size + 2) (leN A5 qd.length c5 { l with b := Bv, s := Sv, d := now + 3 }) rfl rfl 39 _ ((u8.other (w.heap.size + 2) (by omega)).trans ((u7.other (w.heap.size + 2) (by omega)).trans ((u6.other (w.heap.size + 2) (by omega)).trans hR5))) le_size rfl (le_one _ _ _ _) ?_))
                (try simp only [Exit.inBlock, Exit.then])
                refine bodyPost_ret (res_ctt rfl _ _ (w.heap.size + 2) _ (leN A5 qd.length c5 { l with b := Bv, s := Sv, d := now + 3 }) _ _ rfl (setRow_heap _ _ _ _ _ _ ((u8.other (w.heap.size + 2) (by omega)).trans ((u7.other (w.heap.size + 2) (by omega)).trans ((u6.other (w.heap.size + 2) (by omega)).trans hR5)))) Try.underlying39 rfl le_size) rfl ?_
                refine RecvPost.yes HE.out rfl rfl (Hq5.out.move fun k hk _ => ?_) (InL.empty _) rfl (below_setRow (u8.below (u7.below (u6.below hB5 (Nat.le_refl _)) (Nat.le_refl _)) (Nat.le_refl _)) (Nat.le_add_right _ 2) _)
                rw [setRow_other _ _ _ _ (by omega), u8.other k (by omega), u7.other k (by omega), u6.other k (by omega)]
              · rw [if_pos hn1, if_neg hs9] at HA
                have HE := Lib.hid (HA.out ▸ hRec.out.out0 hFd)
                have hnf : (0 < n) = True := eq_true hn1
                have hsf : decide (0 < Sv) = false := by simpa using hs9
                clear hn1 HA hRec
                go_wp2_with (first | (refine wpList_store_field rfl 3 (.tmp 47) (.tmp 46) rfl w.heap.size 1 (.int .i64 Bv) rfl rfl rfl 39 _ hP5' (by simp [leN]) (by kernel_rfl) ?_; intro W6 hW6 u6; have HW6 := (hW6 : W6.heap[w.heap.size]? = some (.cells (leN A5 qd.length c5 { l with b := Bv }) 39 (0, 0))); clear hW6; have W62 : W6.cell? ⟨w.heap.size, 2, none⟩ = some (.int .i64 l.s) := cellOf HW6 rfl) | (refine wpList_store_field rfl 3 (.tmp 52) (.tmp 51) rfl w.heap.size 2 (.int .i64 Sv) rfl rfl rfl 39 _ HW6 (by simp [leN]) (by kernel_rfl) ?_; intro W7 hW7 u7; have HW7 := (hW7 : W7.heap[w.heap.size]? = some (.cells (leN A5 qd.length c5 { l with b := Bv, s := Sv }) 39 (0, 0))); clear hW7; have W72 : W7.cell? ⟨w.heap.size, 2, none⟩ = some (.int .i64 Sv) := cellOf HW7 rfl; have W73 : W7.cell? ⟨w.heap.size, 3, none⟩ = some (.int .i64 l.x) := cellOf HW7 rfl; have W7F := (u7.other (w.heap.size + 1) (by omega)).trans ((u6.other (w.heap.size + 1) (by omega)).trans hF5); have W7q0 : W7.cell? ⟨w.heap.size + 1, 0, none⟩ = some (.bool f.d) := cellOf W7F rfl; have W7q1 : W7.cell? ⟨w.heap.size + 1, 1, none⟩ = some (.int .i64 f.s) := cellOf W7F rfl) | (refine wpList_store_field rfl 3 (.tmp 67) (.const (.int .i64 (-1))) rfl w.heap.size 5 (.int .i64 (-1)) rfl rfl rfl 39 _ HW7 (by simp [leN]) (by kernel_rfl) ?_; intro W8 hW8 u8; have HW8 := (hW8 : W8.heap[w.heap.size]? = some (.cells (leN A5 qd.length c5 { l with b := Bv, s := Sv, d := -1 }) 39 (0, 0))); clear hW8; have W82 : W8.cell? ⟨w.heap.size, 2, none⟩ = some (.int .i64 Sv) := cellOf HW8 rfl; have W83 : W8.cell? ⟨w.heap.size, 3, none⟩ = some (.int .i64 l.x) := cellOf HW8 rfl; have W8F := (u8.other (w.heap.size + 1) (by omega)).trans ((u7.other (w.heap.size + 1) (by omega)).trans ((u6.other (w.heap.size + 1) (by omega)).trans hF5)); have W8q0 : W8.cell? ⟨w.heap.size + 1, 0, none⟩ = some (.bool f.d) := cellOf W8F rfl; have W8q1 : W8.cell? ⟨w.heap.size + 1, 1, none⟩ = some (.int .i64 f.s) := cellOf W8F rfl) | (refine wpList_load_row rfl 39 (.tmp 3) rfl w.heap.size rfl 39 (leN A5 qd.length c5 { l with b := Bv, s := Sv, d := -1 }) (0, 0) _ HW8 Try.underlying39 rfl le_size ?_) | (refine wpList_store_row rfl 39 (.tmp 6) (.tmp 71) rfl (w.heap.size + 2) (leN A5 qd.length c5 { l with b := Bv, s := Sv, d := -1 }) rfl rfl 39 _ ((u8.other (w.heap.size + 2) (by omega)).trans ((u7.other (w.heap.size + 2) (by omega)).trans ((u6.other (w.heap.size + 2) (by omega)).trans hR5))) le_size rfl (le_one _ _ _ _) ?_))
                (try simp only [Exit.inBlock, Exit.then])
                refine bodyPost_ret (res_ctt rfl _ _ (w.heap.size + 2) _ (leN A5 qd.length c5 { l with b := Bv, s := Sv, d := -1 }) _ _ rfl (setRow_heap _ _ _ _ _ _ ((u8.other (w.heap.size + 2) (by omega)).trans ((u7.other (w.heap.size + 2) (by omega)).trans ((u6.other (w.heap.size + 2) (by omega)).trans hR5)))) Try.underlying39 rfl le_size) rfl ?_
                refine RecvPost.yes HE.out rfl rfl (Hq5.out.move fun k hk _ => ?_) (InL.empty _) rfl (below_setRow (u8.below (u7.below (u6.below hB5 (Nat.le_refl _)) (Nat.le_refl _)) (Nat.le_refl _)) (Nat.le_add_right _ 2) _)
                rw [setRow_other _ _ _ _ (by omega), u8.other k (by omega), u7.other k (by omega), u6.other k (by omega)]
            · rw [if_neg hn1] at HA
              have HE := Lib.hid (HA.out ▸ hRec.out.out0 hFd)
              have hnf : (0 < n) = False := eq_false hn1
              clear hn1 HA hRec
              go_wp2_with (first | (refine wpList_store_field rfl 3 (.tmp 47) (.tmp 46) rfl w.heap.size 1 (.int .i64 Bv) rfl rfl rfl 39 _ hP5' (by simp [leN]) (by kernel_rfl) ?_; intro W6 hW6 u6; have HW6 := (hW6 : W6.heap[w.heap.size]? = some (.cells (leN A5 qd.length c5 { l with b := Bv }) 39 (0, 0))); clear hW6; have W62 : W6.cell? ⟨w.heap.size, 2, none⟩ = some (.int .i64 l.s) := cellOf HW6 rfl) | (refine wpList_store_field rfl 3 (.tmp 52) (.tmp 51) rfl w.heap.size 2 (.int .i64 Sv) rfl rfl rfl 39 _ HW6 (by simp [leN]) (by kernel_rfl) ?_; intro W7 hW7 u7; have HW7 := (hW7 : W7.heap[w.heap.size]? = some (.cells (leN A5 qd.length c5 { l with b := Bv, s := Sv }) 39 (0, 0))); clear hW7; have W72 : W7.cell? ⟨w.heap.size, 2, none⟩ = some (.int .i64 Sv) := cellOf HW7 rfl; have W73 : W7.cell? ⟨w.heap.size, 3, none⟩ = some (.int .i64 l.x) := cellOf HW7 rfl; have W7F := (u7.other (w.heap.size + 1) (by omega)).trans ((u6.other (w.heap.size + 1) (by omega)).trans hF5); have W7q0 : W7.cell? ⟨w.heap.size + 1, 0, none⟩ = some (.bool f.d) := cellOf W7F rfl; have W7q1 : W7.cell? ⟨w.heap.size + 1, 1, none⟩ = some (.int .i64 f.s) := cellOf W7F rfl) | (refine wpList_load_row rfl 39 (.tmp 3) rfl w.heap.size rfl 39 (leN A5 qd.length c5 { l with b := Bv, s := Sv }) (0, 0) _ HW7 Try.underlying39 rfl le_size ?_) | (refine wpList_store_row rfl 39 (.tmp 6) (.tmp 71) rfl (w.heap.size + 2) (leN A5 qd.length c5 { l with b := Bv, s := Sv }) rfl rfl 39 _ ((u7.other (w.heap.size + 2) (by omega)).trans ((u6.other (w.heap.size + 2) (by omega)).trans hR5)) le_size rfl (le_one _ _ _ _) ?_))
              (try simp only [Exit.inBlock, Exit.then])
              refine bodyPost_ret (res_ctt rfl _ _ (w.heap.size + 2) _ (leN A5 qd.length c5 { l with b := Bv, s := Sv }) _ _ rfl (setRow_heap _ _ _ _ _ _ ((u7.other (w.heap.size + 2) (by omega)).trans ((u6.other (w.heap.size + 2) (by omega)).trans hR5))) Try.underlying39 rfl le_size) rfl ?_
              refine RecvPost.yes HE.out rfl rfl (Hq5.out.move fun k hk _ => ?_) (InL.empty _) rfl (below_setRow (u7.below (u6.below hB5 (Nat.le_refl _)) (Nat.le_refl _)) (Nat.le_add_right _ 2) _)
              rw [setRow_other _ _ _ _ (by omega), u7.other k (by omega), u6.other k (by omega)]
          | true =>
            by_cases hsx : f.s = l.x
            · have hsb : (f.s != l.x) = false := by simpa using hsx
              by_cases hn1 : 0 < n
              · by_cases hs9 : 0 < Sv
                · rw [if_pos hn1, if_pos hs9] at HA
                  have HE := Lib.hid (HA.out ▸ hRec.out.out3 hFd hsx)
                  have hnf : (0 < n) = True := eq_true hn1
                  have hsf : decide (0 < Sv) = true := by simpa using hs9
                  clear hn1 HA hRec
                  go_wp2_with (first | (refine wpList_store_field rfl 3 (.tmp 47) (.tmp 46) rfl w.heap.size 1 (.int .i64 Bv) rfl rfl rfl 39 _ hP5' (by simp [leN]) (by kernel_rfl) ?_; intro W6 hW6 u6; have HW6 := (hW6 : W6.heap[w.heap.size]? = some (.cells (leN A5 qd.length c5 { l with b := Bv }) 39 (0, 0))); clear hW6; have W62 : W6.cell? ⟨w.heap.size, 2, none⟩ = some (.int .i64 l.s) := cellOf HW6 rfl) | (refine wpList_store_field rfl 3 (.tmp 52) (.tmp 51) rfl w.heap.size 2 (.int .i64 Sv) rfl rfl rfl 39 _ HW6 (by simp [leN]) (by kernel_rfl) ?_; intro W7 hW7 u7; have HW7 := (hW7 : W7.heap[w.heap.size]? = some (.cells (leN A5 qd.length c5 { l with b := Bv, s := Sv }) 39 (0, 0))); clear hW7; have W72 : W7.cell? ⟨w.heap.size, 2, none⟩ = some (.int .i64 Sv) := cellOf HW7 rfl; have W73 : W7.cell? ⟨w.heap.size, 3, none⟩ = some (.int .i64 l.x) := cellOf HW7 rfl; have W7F := (u7.other (w.heap.size + 1) (by omega)).trans ((u6.other (w.heap.size + 1) (by omega)).trans hF5); have W7q0 : W7.cell? ⟨w.heap.size + 1, 0, none⟩ = some (.bool f.d) := cellOf W7F rfl; have W7q1 : W7.cell? ⟨w.heap.size + 1, 1, none⟩ = some (.int .i64 f.s) := cellOf W7F rfl) | (refine wpList_store_field rfl 3 (.tmp 63) (.tmp 62) rfl w.heap.size 5 (.int .i64 (now + 3)) rfl rfl rfl 39 _ HW7 (by simp [leN]) (by kernel_rfl) ?_; intro W8 hW8 u8; have HW8 := (hW8 : W8.heap[w.heap.size]? = some (.cells (leN A5 qd.length c5 { l with b := Bv, s := Sv, d := now + 3 }) 39 (0, 0))); clear hW8; have W82 : W8.cell? ⟨w.heap.size, 2, none⟩ = some (.int .i64 Sv) := cellOf HW8 rfl; have W83 : W8.cell? ⟨w.heap.size, 3, none⟩ = some (.int .i64 l.x) := cellOf HW8 rfl; have W8F := (u8.other (w.heap.size + 1) (by omega)).trans ((u7.other (w.heap.size + 1) (by omega)).trans ((u6.other (w.heap.size + 1) (by omega)).trans hF5)); have W8q0 : W8.cell? ⟨w.heap.size + 1, 0, none⟩ = some (.bool f.d) := cellOf W8F rfl; have W8q1 : W8.cell? ⟨w.heap.size + 1, 1, none⟩ = some (.int .i64 f.s) := cellOf W8F rfl) | (refine wpList_store_field rfl 4 (.tmp 72) (.const (.bool true)) rfl w.heap.size 4 (.bool true) rfl rfl rfl 39 _ HW8 (by simp [leN]) (by kernel_rfl) ?_; intro W9 hW9 u9; have HW9 := (hW9 : W9.heap[w.heap.size]? = some (.cells (leN A5 qd.length c5 { l with b := Bv, s := Sv, d := now + 3, o := true }) 39 (0, 0))); clear hW9; have W93 : W9.cell? ⟨w.heap.size, 3, none⟩ = some (.int .i64 l.x) := cellOf HW9 rfl; have W9q1 : W9.cell? ⟨w.heap.size + 1, 1, none⟩ = some (.int .i64 f.s) := cellOf ((u9.other (w.heap.size + 1) (by omega)).trans W8F) rfl))
                  refine (plus_any l.x 1 W9 (by omega) (by omega)).mono ?_
                  rintro e W10 ⟨rfl, rfl⟩
                  obtain ⟨Xv, hXv⟩ : ∃ Xv, sPlus l.x 1 = Xv := ⟨_, rfl⟩
                  rw [show Int.tmod (l.x + 1 + 16) 16 = Xv from hXv]
                  rw [hXv] at HE
                  clear hXv
                  go_wp2_with (first | (refine wpList_store_field rfl 3 (.tmp 82) (.tmp 81) rfl w.heap.size 3 (.int .i64 Xv) rfl rfl rfl 39 _ HW9 (by simp [leN]) (by kernel_rfl) ?_; intro W10 hW10 u10; have HW10 := (hW10 : W10.heap[w.heap.size]? = some (.cells (leN A5 qd.length c5 { l with b := Bv, s := Sv, d := now + 3, o := true, x := Xv }) 39 (0, 0))); clear hW10; have hF10 := ((u10.other (w.heap.size + 1) (by omega)).trans ((u9.other (w.heap.size + 1) (by omega)).trans ((u8.other (w.heap.size + 1) (by omega)).trans ((u7.other (w.heap.size + 1) (by omega)).trans ((u6.other (w.heap.size + 1) (by omega)).trans hF5))))); have hR10 := ((u10.other (w.heap.size + 2) (by omega)).trans ((u9.other (w.heap.size + 2) (by omega)).trans ((u8.other (w.heap.size + 2) (by omega)).trans ((u7.other (w.heap.size + 2) (by omega)).trans ((u6.other (w.heap.size + 2) (by omega)).trans hR5)))))))
                  obtain ⟨L, HP10, hE2⟩ : ∃ L : LE, W10.heap[w.heap.size]? = some (.cells (leN A5 qd.length c5 L) 39 (0, 0)) ∧ recvE l f now = ({ L with q := qd }, [f.p], 0) := ⟨({ l with b := Bv, s := Sv, d := now + 3, o := true, x := Xv } : LE), HW10, HE.out⟩
                  have HE2 := Lib.hid hE2
                  clear hE2 HE HW10
                  have HBW := (u10.below (u9.below (u8.below (u7.below (u6.below hB5 (Nat.le_refl _)) (Nat.le_refl _)) (Nat.le_refl _)) (Nat.le_refl _)) (Nat.le_refl _))
                  have HQ5 : Hid (RowB W10 W2.heap.size 22 (.slice A5 qd.length c5) qd) := Lib.hid (Hq5.out.move (fun k hk _ => by rw [u10.other k (by omega), u9.other k (by omega), u8.other k (by omega), u7.other k (by omega), u6.other k (by omega)]))
                  have Hrp := Lib.hid (fun W (h : R22 (w.heap.size + 2) W10 W) => RdC.below Hr'.out (h.below HBW (Nat.le_add_right _ 2) HBW.size))
                  refine wp_region_noPanic ?_
                  refine wp_region_held_drew (S := R22 (w.heap.size + 2) W10) (by kernel_rfl) (R22.start hR10 rfl) (fun h0 => ?_)
                  refine wpAnyH_take (i := 0) (v := .agg (leN A5 qd.length c5 L)) rfl (by kernel_rfl) (by kernel_rfl) (by kernel_rfl) (fun _ _ _ h => h) (yieldsIf_load_blk (by rfl) 39 (.tmp 3) rfl w.heap.size rfl 39 _ (0, 0) _ (fun W h => (h.other _ (blk_lt HP10) (by omega)).trans HP10) Try.underlying39 rfl le_size) h0 ?_
                  try simp only [Act.put, List.getElem?_toArray, List.getElem_toArray, List.getElem_cons_zero, List.getElem_cons_succ, List.setIfInBounds_toArray, List.set_cons_zero, List.set_cons_succ]
                  refine wpAnyH_take (i := 1) (v := .pointer (some ⟨w.heap.size + 1, 3, none⟩)) rfl (by kernel_rfl) (by kernel_rfl) (by kernel_rfl) (fun _ _ _ h => h) (Or.inl ⟨by rfl, fun W hW => by go_simp⟩) h0 ?_
                  try simp only [Act.put, List.getElem?_toArray, List.getElem_toArray, List.getElem_cons_zero, List.getElem_cons_succ, List.setIfInBounds_toArray, List.set_cons_zero, List.set_cons_succ]
                  refine wpAnyH_take (i := 2) (v := .slice A' f.p.length c') rfl (by kernel_rfl) (by kernel_rfl) (by kernel_rfl) (fun _ _ _ h => h) (Or.inl ⟨by rfl, fun W hW => by have hz : W.cell? ⟨w.heap.size + 1, 3, none⟩ = some (.slice A' f.p.length c') := hW.old hF10 (by omega) rfl; go_simp⟩) h0 ?_
                  try simp only [Act.put, List.getElem?_toArray, List.getElem_toArray, List.getElem_cons_zero, List.getElem_cons_succ, List.setIfInBounds_toArray, List.set_cons_zero, List.set_cons_succ]
                  refine wpAnyH_ready (rs := [3]) (by kernel_rfl) (by simp) ?_
                  refine AllReadyH.cons rfl (fun K hK => ?_) AllReadyH.nil
                  go_simp
                  go_at_call 46
                  refine (payload_any A' c' f.p _ (by omega) (Hrp.out _ h0) HA'.out).mono ?_
                  rintro e wq ⟨vq, rfl, hOq, hb⟩
                  obtain ⟨Aq, cq, rfl, hAq, hcq, hmq, hrq⟩ := own_form hOq
                  have Eq := els_own hOq
                  refine hK.out _ _ (h0.step hb) (fun h1 => ?_)
                  clear hK
                  have hlt10 : w.heap.size + 2 < W10.drew.heap.size := (blk_lt hR10 : w.heap.size + 2 < W10.heap.size)
                  have hlt : w.heap.size + 2 < wq.heap.size := by obtain ⟨_, hz, _⟩ := h1.res; exact blk_lt hz
                  try simp only [Act.put, List.getElem?_toArray, List.getElem_toArray, List.getElem_cons_zero, List.getElem_cons_succ, List.setIfInBounds_toArray, List.set_cons_zero, List.set_cons_succ]
                  refine wpAnyH_ready (rs := [4, 5]) (by kernel_rfl) (by simp) ?_
                  refine AllReadyH.cons rfl (fun K hK => ?_) (AllReadyH.cons rfl (fun K hK => ?_) AllReadyH.nil)
                  · go_simp
                    refine hK.out _ _ (h1.step (fw_new _ _)) (fun h2 => ?_)
                    clear hK
                    try simp only [Act.put, List.getElem?_toArray, List.getElem_toArray, List.getElem_cons_zero, List.getElem_cons_succ, List.setIfInBounds_toArray, List.set_cons_zero, List.set_cons_succ]
                    obtain ⟨old, ho, hs⟩ := h2.res
                    refine wpAnyH_ready (rs := [5]) (by kernel_rfl) (by simp) ?_
                    refine AllReadyH.cons rfl (fun K hK => ?_) AllReadyH.nil
                    rw [if_pos (by rfl)]
                    refine wp_store_row 39 (.tmp 6) (.tmp 83) rfl (w.heap.size + 2) (leN A5 qd.length c5 L) rfl rfl 39 old ho le_size (by rw [hs]; rfl) (le_one _ _ _ _) ?_
                    have hend := endA (cs := leN A5 qd.length c5 L) ho Eq hlt10 hlt
                    refine hK.out _ _ (h2.row _ rfl ⟨_, ho⟩) (fun h3 => ?_)
                    clear hK
                    try simp only [Act.put, List.getElem?_toArray, List.getElem_toArray, List.getElem_cons_zero, List.getElem_cons_succ, List.setIfInBounds_toArray, List.set_cons_zero, List.set_cons_succ]
                    refine wpAnyH_take (i := 6) (v := .slice (some ⟨wq.heap.size, 0, none⟩) 1 1) rfl (by kernel_rfl) (by kernel_rfl) (by kernel_rfl) (fun _ _ _ h => h) (Or.inl ⟨by rfl, fun W hW => by rfl⟩) h3 ?_
                    try simp only [Act.put, List.getElem?_toArray, List.getElem_toArray, List.getElem_cons_zero, List.getElem_cons_succ, List.setIfInBounds_toArray, List.set_cons_zero, List.set_cons_succ]
                    refine wpAnyH_take (i := 7) (v := .int .i64 0) rfl (by kernel_rfl) (by kernel_rfl) (by kernel_rfl) (fun _ _ _ h => h) (Or.inl ⟨by rfl, fun W hW => by rfl⟩) h3 ?_
                    try simp only [Act.put, List.getElem?_toArray, List.getElem_toArray, List.getElem_cons_zero, List.getElem_cons_succ, List.setIfInBounds_toArray, List.set_cons_zero, List.set_cons_succ]
                    refine wpAnyH_done (by kernel_rfl) ?_ _
                    refine NoPanic.normal ?_
                    go_wp2_with fail
                    (try simp only [Exit.inBlock, Exit.then])
                    refine bodyPost_ret (res_ctt rfl _ _ (w.heap.size + 2) _ (leN A5 qd.length c5 L) _ _ rfl hend.row Try.underlying39 rfl le_size) rfl ?_
                    exact RecvPost.yes HE2.out rfl rfl (HQ5.out.move fun k hk hl => h3.other k hl (by omega)) hend.inl rfl (h3.below HBW (Nat.le_add_right _ 2) HBW.size)
                  · obtain ⟨old, ho, hs⟩ := h1.res
                    rw [if_pos (by rfl)]
                    refine wp_store_row 39 (.tmp 6) (.tmp 83) rfl (w.heap.size + 2) (leN A5 qd.length c5 L) rfl rfl 39 old ho le_size (by rw [hs]; rfl) (le_one _ _ _ _) ?_
                    have hend := endB (cs := leN A5 qd.length c5 L) ho Eq hlt10
                    refine hK.out _ _ (h1.row _ rfl ⟨_, ho⟩) (fun h2 => ?_)
                    clear hK
                    try simp only [Act.put, List.getElem?_toArray, List.getElem_toArray, List.getElem_cons_zero, List.getElem_cons_succ, List.setIfInBounds_toArray, List.set_cons_zero, List.set_cons_succ]
                    refine wpAnyH_ready (rs := [4]) (by kernel_rfl) (by simp) ?_
                    refine AllReadyH.cons rfl (fun K hK => ?_) AllReadyH.nil
                    go_simp
                    refine hK.out _ _ (h2.step (fw_new _ _)) (fun h3 => ?_)
                    clear hK
                    try simp only [Act.put, List.getElem?_toArray, List.getElem_toArray, List.getElem_cons_zero, List.getElem_cons_succ, List.setIfInBounds_toArray, List.set_cons_zero, List.set_cons_succ]
                    refine wpAnyH_take (i := 6) (v := .slice (some ⟨wq.heap.size, 0, none⟩) 1 1) rfl (by kernel_rfl) (by kernel_rfl) (by kernel_rfl) (fun _ _ _ h => h) (Or.inl ⟨by rfl, fun W hW => by rfl⟩) h3 ?_
                    try simp only [Act.put, List.getElem?_toArray, List.getElem_toArray, List.getElem_cons_zero, List.getElem_cons_succ, List.setIfInBounds_toArray, List.set_cons_zero, List.set_cons_succ]
                    refine wpAnyH_take (i := 7) (v := .int .i64 0) rfl (by kernel_rfl) (by kernel_rfl) (by kernel_rfl) (fun _ _ _ h => h) (Or.inl ⟨by rfl, fun W hW => by rfl⟩) h3 ?_
                    try simp only [Act.put, List.getElem?_toArray, List.getElem_toArray, List.getElem_cons_zero, List.getElem_cons_succ, List.setIfInBounds_toArray, List.set_cons_zero, List.set_cons_succ]
                    refine wpAnyH_done (by kernel_rfl) ?_ _
                    refine NoPanic.normal ?_
                    go_wp2_with fail
                    (try simp only [Exit.inBlock, Exit.then])
                    refine bodyPost_ret (res_ctt rfl _ _ (w.heap.size + 2) _ (leN A5 qd.length c5 L) _ _ rfl hend.row Try.underlying39 rfl le_size) rfl ?_
                    exact RecvPost.yes HE2.out rfl rfl (HQ5.out.move fun k hk hl => h3.other k hl (by omega)) hend.inl rfl (h3.below HBW (Nat.le_add_right _ 2) HBW.size)
                · rw [if_pos hn1, if_neg hs9] at HA
                  have HE := Lib.hid (HA.out ▸ hRec.out.out3 hFd hsx)
                  have hnf : (0 < n) = True := eq_true hn1
                  have hsf : decide (0 < Sv) = false := by simpa using hs9
                  clear hn1 HA hRec
                  go_wp2_with (first | (refine wpList_store_field rfl 3 (.tmp 47) (.tmp 46) rfl w.heap.size 1 (.int .i64 Bv) rfl rfl rfl 39 _ hP5' (by simp [leN]) (by kernel_rfl) ?_; intro W6 hW6 u6; have HW6 := (hW6 : W6.heap[w.heap.size]? = some (.cells (leN A5 qd.length c5 { l with b := Bv }) 39 (0, 0))); clear hW6; have W62 : W6.cell? ⟨w.heap.size, 2, none⟩ = some (.int .i64 l.s) := cellOf HW6 rfl) | (refine wpList_store_field rfl 3 (.tmp 52) (.tmp 51) rfl w.heap.size 2 (.int .i64 Sv) rfl rfl rfl 39 _ HW6 (by simp [leN]) (by kernel_rfl) ?_; intro W7 hW7 u7; have HW7 := (hW7 : W7.heap[w.heap.size]? = some (.cells (leN A5 qd.length c5 { l with b := Bv, s := Sv }) 39 (0, 0))); clear hW7; have W72 : W7.cell? ⟨w.heap.size, 2, none⟩ = some (.int .i64 Sv) := cellOf HW7 rfl; have W73 : W7.cell? ⟨w.heap.size, 3, none⟩ = some (.int .i64 l.x) := cellOf HW7 rfl; have W7F := (u7.other (w.heap.size + 1) (by omega)).trans ((u6.other (w.heap.size + 1) (by omega)).trans hF5); have W7q0 : W7.cell? ⟨w.heap.size + 1, 0, none⟩ = some (.bool f.d) := cellOf W7F rfl; have W7q1 : W7.cell? ⟨w.heap.size + 1, 1, none⟩ = some (.int .i64 f.s) := cellOf W7F rfl) | (refine wpList_store_field rfl 3 (.tmp 67) (.const (.int .i64 (-1))) rfl w.heap.size 5 (.int .i64 (-1)) rfl rfl rfl 39 _ HW7 (by simp [leN]) (by kernel_rfl) ?_; intro W8 hW8 u8; have HW8 := (hW8 : W8.heap[w.heap.size]? = some (.cells (leN A5 qd.length c5 { l with b := Bv, s := Sv, d := -1 }) 39 (0, 0))); clear hW8; have W82 : W8.cell? ⟨w.heap.size, 2, none⟩ = some (.int .i64 Sv) := cellOf HW8 rfl; have W83 : W8.cell? ⟨w.heap.size, 3, none⟩ = some (.int .i64 l.x) := cellOf HW8 rfl; have W8F := (u8.other (w.heap.size + 1) (by omega)).trans ((u7.other (w.heap.size + 1) (by omega)).trans ((u6.other (w.heap.size + 1) (by omega)).trans hF5)); have W8q0 : W8.cell? ⟨w.heap.size + 1, 0, none⟩ = some (.bool f.d) := cellOf W8F rfl; have W8q1 : W8.cell? ⟨w.heap.size + 1, 1, none⟩ = some (.int .i64 f.s) := cellOf W8F rfl) | (refine wpList_store_field rfl 4 (.tmp 72) (.const (.bool true)) rfl w.heap.size 4 (.bool true) rfl rfl rfl 39 _ HW8 (by simp [leN]) (by kernel_rfl) ?_; intro W9 hW9 u9; have HW9 := (hW9 : W9.heap[w.heap.size]? = some (.cells (leN A5 qd.length c5 { l with b := Bv, s := Sv, d := -1, o := true }) 39 (0, 0))); clear hW9; have W93 : W9.cell? ⟨w.heap.size, 3, none⟩ = some (.int .i64 l.x) := cellOf HW9 rfl; have W9q1 : W9.cell? ⟨w.heap.size + 1, 1, none⟩ = some (.int .i64 f.s) := cellOf ((u9.other (w.heap.size + 1) (by omega)).trans W8F) rfl))
                  refine (plus_any l.x 1 W9 (by omega) (by omega)).mono ?_
                  rintro e W10 ⟨rfl, rfl⟩
                  obtain ⟨Xv, hXv⟩ : ∃ Xv, sPlus l.x 1 = Xv := ⟨_, rfl⟩
                  rw [show Int.tmod (l.x + 1 + 16) 16 = Xv from hXv]
                  rw [hXv] at HE
                  clear hXv
                  go_wp2_with (first | (refine wpList_store_field rfl 3 (.tmp 82) (.tmp 81) rfl w.heap.size 3 (.int .i64 Xv) rfl rfl rfl 39 _ HW9 (by simp [leN]) (by kernel_rfl) ?_; intro W10 hW10 u10; have HW10 := (hW10 : W10.heap[w.heap.size]? = some (.cells (leN A5 qd.length c5 { l with b := Bv, s := Sv, d := -1, o := true, x := Xv }) 39 (0, 0))); clear hW10; have hF10 := ((u10.other (w.heap.size + 1) (by omega)).trans ((u9.other (w.heap.size + 1) (by omega)).trans ((u8.other (w.heap.size + 1) (by omega)).trans ((u7.other (w.heap.size + 1) (by omega)).trans ((u6.other (w.heap.size + 1) (by omega)).trans hF5))))); have hR10 := ((u10.other (w.heap.size + 2) (by omega)).trans ((u9.other (w.heap.size + 2) (by omega)).trans ((u8.other (w.heap.size + 2) (by omega)).trans ((u7.other (w.heap.size + 2) (by omega)).trans ((u6.other (w.heap.size + 2) (by omega)).trans hR5)))))))
                  obtain ⟨L, HP10, hE2⟩ : ∃ L : LE, W10.heap[w.heap.size]? = some (.cells (leN A5 qd.length c5 L) 39 (0, 0)) ∧ recvE l f now = ({ L with q := qd }, [f.p], 0) := ⟨({ l with b := Bv, s := Sv, d := -1, o := true, x := Xv } : LE), HW10, HE.out⟩
                  have HE2 := Lib.hid hE2
                  clear hE2 HE HW10
                  have HBW := (u10.below (u9.below (u8.below (u7.below (u6.below hB5 (Nat.le_refl _)) (Nat.le_refl _)) (Nat.le_refl _)) (Nat.le_refl _)) (Nat.le_refl _))
                  have HQ5 : Hid (RowB W10 W2.heap.size 22 (.slice A5 qd.length c5) qd) := Lib.hid (Hq5.out.move (fun k hk _ => by rw [u10.other k (by omega), u9.other k (by omega), u8.other k (by omega), u7.other k (by omega), u6.other k (by omega)]))
                  have Hrp := Lib.hid (fun W (h : R22 (w.heap.size + 2) W10 W) => RdC.below Hr'.out (h.below HBW (Nat.le_add_right _ 2) HBW.size))
                  refine wp_region_noPanic ?_
                  refine wp_region_held_drew (S := R22 (w.heap.size + 2) W10) (by kernel_rfl) (R22.start hR10 rfl) (fun h0 => ?_)
                  refine wpAnyH_take (i := 0) (v := .agg (leN A5 qd.length c5 L)) rfl (by kernel_rfl) (by kernel_rfl) (by kernel_rfl) (fun _ _ _ h => h) (yieldsIf_load_blk (by rfl) 39 (.tmp 3) rfl w.heap.size rfl 39 _ (0, 0) _ (fun W h => (h.other _ (blk_lt HP10) (by omega)).trans HP10) Try.underlying39 rfl le_size) h0 ?_
                  try simp only [Act.put, List.getElem?_toArray, List.getElem_toArray, List.getElem_cons_zero, List.getElem_cons_succ, List.setIfInBounds_toArray, List.set_cons_zero, List.set_cons_succ]
                  refine wpAnyH_take (i := 1) (v := .pointer (some ⟨w.heap.size + 1, 3, none⟩)) rfl (by kernel_rfl) (by kernel_rfl) (by kernel_rfl) (fun _ _ _ h => h) (Or.inl ⟨by rfl, fun W hW => by go_simp⟩) h0 ?_
                  try simp only [Act.put, List.getElem?_toArray, List.getElem_toArray, List.getElem_cons_zero, List.getElem_cons_succ, List.setIfInBounds_toArray, List.set_cons_zero, List.set_cons_succ]
                  refine wpAnyH_take (i := 2) (v := .slice A' f.p.length c') rfl (by kernel_rfl) (by kernel_rfl) (by kernel_rfl) (fun _ _ _ h => h) (Or.inl ⟨by rfl, fun W hW => by have hz : W.cell? ⟨w.heap.size + 1, 3, none⟩ = some (.slice A' f.p.length c') := hW.old hF10 (by omega) rfl; go_simp⟩) h0 ?_
                  try simp only [Act.put, List.getElem?_toArray, List.getElem_toArray, List.getElem_cons_zero, List.getElem_cons_succ, List.setIfInBounds_toArray, List.set_cons_zero, List.set_cons_succ]
                  refine wpAnyH_ready (rs := [3]) (by kernel_rfl) (by simp) ?_
                  refine AllReadyH.cons rfl (fun K hK => ?_) AllReadyH.nil
                  go_simp
                  go_at_call 46
                  refine (payload_any A' c' f.p _ (by omega) (Hrp.out _ h0) HA'.out).mono ?_
                  rintro e wq ⟨vq, rfl, hOq, hb⟩
                  obtain ⟨Aq, cq, rfl, hAq, hcq, hmq, hrq⟩ := own_form hOq
                  have Eq := els_own hOq
                  refine hK.out _ _ (h0.step hb) (fun h1 => ?_)
                  clear hK
                  have hlt10 : w.heap.size + 2 < W10.drew.heap.size := (blk_lt hR10 : w.heap.size + 2 < W10.heap.size)
                  have hlt : w.heap.size + 2 < wq.heap.size := by obtain ⟨_, hz, _⟩ := h1.res; exact blk_lt hz
                  try simp only [Act.put, List.getElem?_toArray, List.getElem_toArray, List.getElem_cons_zero, List.getElem_cons_succ, List.setIfInBounds_toArray, List.set_cons_zero, List.set_cons_succ]
                  refine wpAnyH_ready (rs := [4, 5]) (by kernel_rfl) (by simp) ?_
                  refine AllReadyH.cons rfl (fun K hK => ?_) (AllReadyH.cons rfl (fun K hK => ?_) AllReadyH.nil)
                  · go_simp
                    refine hK.out _ _ (h1.step (fw_new _ _)) (fun h2 => ?_)
                    clear hK
                    try simp only [Act.put, List.getElem?_toArray, List.getElem_toArray, List.getElem_cons_zero, List.getElem_cons_succ, List.setIfInBounds_toArray, List.set_cons_zero, List.set_cons_succ]
                    obtain ⟨old, ho, hs⟩ := h2.res
                    refine wpAnyH_ready (rs := [5]) (by kernel_rfl) (by simp) ?_
                    refine AllReadyH.cons rfl (fun K hK => ?_) AllReadyH.nil
                    rw [if_pos (by rfl)]
                    refine wp_store_row 39 (.tmp 6) (.tmp 83) rfl (w.heap.size + 2) (leN A5 qd.length c5 L) rfl rfl 39 old ho le_size (by rw [hs]; rfl) (le_one _ _ _ _) ?_
                    have hend := endA (cs := leN A5 qd.length c5 L) ho Eq hlt10 hlt
                    refine hK.out _ _ (h2.row _ rfl ⟨_, ho⟩) (fun h3 => ?_)
                    clear hK
                    try simp only [Act.put, List.getElem?_toArray, List.getElem_toArray, List.getElem_cons_zero, List.getElem_cons_succ, List.setIfInBounds_toArray, List.set_cons_zero, List.set_cons_succ]
                    refine wpAnyH_take (i := 6) (v := .slice (some ⟨wq.heap.size, 0, none⟩) 1 1) rfl (by kernel_rfl) (by kernel_rfl) (by kernel_rfl) (fun _ _ _ h => h) (Or.inl ⟨by rfl, fun W hW => by rfl⟩) h3 ?_
                    try simp only [Act.put, List.getElem?_toArray, List.getElem_toArray, List.getElem_cons_zero, List.getElem_cons_succ, List.setIfInBounds_toArray, List.set_cons_zero, List.set_cons_succ]
                    refine wpAnyH_take (i := 7) (v := .int .i64 0) rfl (by kernel_rfl) (by kernel_rfl) (by kernel_rfl) (fun _ _ _ h => h) (Or.inl ⟨by rfl, fun W hW => by rfl⟩) h3 ?_
                    try simp only [Act.put, List.getElem?_toArray, List.getElem_toArray, List.getElem_cons_zero, List.getElem_cons_succ, List.setIfInBounds_toArray, List.set_cons_zero, List.set_cons_succ]
                    refine wpAnyH_done (by kernel_rfl) ?_ _
                    refine NoPanic.normal ?_
                    go_wp2_with fail
                    (try simp only [Exit.inBlock, Exit.then])
                    refine bodyPost_ret (res_ctt rfl _ _ (w.heap.size + 2) _ (leN A5 qd.length c5 L) _ _ rfl hend.row Try.underlying39 rfl le_size) rfl ?_
                    exact RecvPost.yes HE2.out rfl rfl (HQ5.out.move fun k hk hl => h3.other k hl (by omega)) hend.inl rfl (h3.below HBW (Nat.le_add_right _ 2) HBW.size)
                  · obtain ⟨old, ho, hs⟩ := h1.res
                    rw [if_pos (by rfl)]
                    refine wp_store_row 39 (.tmp 6) (.tmp 83) rfl (w.heap.size + 2) (leN A5 qd.length c5 L) rfl rfl 39 old ho le_size (by rw [hs]; rfl) (le_one _ _ _ _) ?_
                    have hend := endB (cs := leN A5 qd.length c5 L) ho Eq hlt10
                    refine hK.out _ _ (h1.row _ rfl ⟨_, ho⟩) (fun h2 => ?_)
                    clear hK
                    try simp only [Act.put, List.getElem?_toArray, List.getElem_toArray, List.getElem_cons_zero, List.getElem_cons_succ, List.setIfInBounds_toArray, List.set_cons_zero, List.set_cons_succ]
                    refine wpAnyH_ready (rs := [4]) (by kernel_rfl) (by simp) ?_
                    refine AllReadyH.cons rfl (fun K hK => ?_) AllReadyH.nil
                    go_simp
                    refine hK.out _ _ (h2.step (fw_new _ _)) (fun h3 => ?_)
                    clear hK
                    try simp only [Act.put, List.getElem?_toArray, List.getElem_toArray, List.getElem_cons_zero, List.getElem_cons_succ, List.setIfInBounds_toArray, List.set_cons_zero, List.set_cons_succ]
                    refine wpAnyH_take (i := 6) (v := .slice (some ⟨wq.heap.size, 0, none⟩) 1 1) rfl (by kernel_rfl) (by kernel_rfl) (by kernel_rfl) (fun _ _ _ h => h) (Or.inl ⟨by rfl, fun W hW => by rfl⟩) h3 ?_
                    try simp only [Act.put, List.getElem?_toArray, List.getElem_toArray, List.getElem_cons_zero, List.getElem_cons_succ, List.setIfInBounds_toArray, List.set_cons_zero, List.set_cons_succ]
                    refine wpAnyH_take (i := 7) (v := .int .i64 0) rfl (by kernel_rfl) (by kernel_rfl) (by kernel_rfl) (fun _ _ _ h => h) (Or.inl ⟨by rfl, fun W hW => by rfl⟩) h3 ?_
                    try simp only [Act.put, List.getElem?_toArray, List.getElem_toArray, List.getElem_cons_zero, List.getElem_cons_succ, List.setIfInBounds_toArray, List.set_cons_zero, List.set_cons_succ]
                    refine wpAnyH_done (by kernel_rfl) ?_ _
                    refine NoPanic.normal ?_
                    go_wp2_with fail
                    (try simp only [Exit.inBlock, Exit.then])
                    refine bodyPost_ret (res_ctt rfl _ _ (w.heap.size + 2) _ (leN A5 qd.length c5 L) _ _ rfl hend.row Try.underlying39 rfl le_size) rfl ?_
                    exact RecvPost.yes HE2.out rfl rfl (HQ5.out.move fun k hk hl => h3.other k hl (by omega)) hend.inl rfl (h3.below HBW (Nat.le_add_right _ 2) HBW.size)
              · rw [if_neg hn1] at HA
                have HE := Lib.hid (HA.out ▸ hRec.out.out3 hFd hsx)
                have hnf : (0 < n) = False := eq_false hn1
                clear hn1 HA hRec
                go_wp2_with (first | (refine wpList_store_field rfl 3 (.tmp 47) (.tmp 46) rfl w.heap.size 1 (.int .i64 Bv) rfl rfl rfl 39 _ hP5' (by simp [leN]) (by kernel_rfl) ?_; intro W6 hW6 u6; have HW6 := (hW6 : W6.heap[w.heap.size]? = some (.cells (leN A5 qd.length c5 { l with b := Bv }) 39 (0, 0))); clear hW6; have W62 : W6.cell? ⟨w.heap.size, 2, none⟩ = some (.int .i64 l.s) := cellOf HW6 rfl) | (refine wpList_store_field rfl 3 (.tmp 52) (.tmp 51) rfl w.heap.size 2 (.int .i64 Sv) rfl rfl rfl 39 _ HW6 (by simp [leN]) (by kernel_rfl) ?_; intro W7 hW7 u7; have HW7 := (hW7 : W7.heap[w.heap.size]? = some (.cells (leN A5 qd.length c5 { l with b := Bv, s := Sv }) 39 (0, 0))); clear hW7; have W72 : W7.cell? ⟨w.heap.size, 2, none⟩ = some (.int .i64 Sv) := cellOf HW7 rfl; have W73 : W7.cell? ⟨w.heap.size, 3, none⟩ = some (.int .i64 l.x) := cellOf HW7 rfl; have W7F := (u7.other (w.heap.size + 1) (by omega)).trans ((u6.other (w.heap.size + 1) (by omega)).trans hF5); have W7q0 : W7.cell? ⟨w.heap.size + 1, 0, none⟩ = some (.bool f.d) := cellOf W7F rfl; have W7q1 : W7.cell? ⟨w.heap.size + 1, 1, none⟩ = some (.int .i64 f.s) := cellOf W7F rfl) | (refine wpList_store_field rfl 4 (.tmp 72) (.const (.bool true)) rfl w.heap.size 4 (.bool true) rfl rfl rfl 39 _ HW7 (by simp [leN]) (by kernel_rfl) ?_; intro W9 hW9 u9; have HW9 := (hW9 : W9.heap[w.heap.size]? = some (.cells (leN A5 qd.length c5 { l with b := Bv, s := Sv, o := true }) 39 (0, 0))); clear hW9; have W93 : W9.cell? ⟨w.heap.size, 3, none⟩ = some (.int .i64 l.x) := cellOf HW9 rfl; have W9q1 : W9.cell? ⟨w.heap.size + 1, 1, none⟩ = some (.int .i64 f.s) := cellOf ((u9.other (w.heap.size + 1) (by omega)).trans W7F) rfl))
                refine (plus_any l.x 1 W9 (by omega) (by omega)).mono ?_
                rintro e W10 ⟨rfl, rfl⟩
                obtain ⟨Xv, hXv⟩ : ∃ Xv, sPlus l.x 1 = Xv := ⟨_, rfl⟩
                rw [show Int.tmod (l.x + 1 + 16) 16 = Xv from hXv]
                rw [hXv] at HE
                clear hXv
                go_wp2_with (first | (refine wpList_store_field rfl 3 (.tmp 82) (.tmp 81) rfl w.heap.size 3 (.int .i64 Xv) rfl rfl rfl 39 _ HW9 (by simp [leN]) (by kernel_rfl) ?_; intro W10 hW10 u10; have HW10 := (hW10 : W10.heap[w.heap.size]? = some (.cells (leN A5 qd.length c5 { l with b := Bv, s := Sv, o := true, x := Xv }) 39 (0, 0))); clear hW10; have hF10 := ((u10.other (w.heap.size + 1) (by omega)).trans ((u9.other (w.heap.size + 1) (by omega)).trans ((u7.other (w.heap.size + 1) (by omega)).trans ((u6.other (w.heap.size + 1) (by omega)).trans hF5)))); have hR10 := ((u10.other (w.heap.size + 2) (by omega)).trans ((u9.other (w.heap.size + 2) (by omega)).trans ((u7.other (w.heap.size + 2) (by omega)).trans ((u6.other (w.heap.size + 2) (by omega)).trans hR5))))))
                obtain ⟨L, HP10, hE2⟩ : ∃ L : LE, W10.heap[w.heap.size]? = some (.cells (leN A5 qd.length c5 L) 39 (0, 0)) ∧ recvE l f now = ({ L with q := qd }, [f.p], 0) := ⟨({ l with b := Bv, s := Sv, o := true, x := Xv } : LE), HW10, HE.out⟩
                have HE2 := Lib.hid hE2
                clear hE2 HE HW10
                have HBW := (u10.below (u9.below (u7.below (u6.below hB5 (Nat.le_refl _)) (Nat.le_refl _)) (Nat.le_refl _)) (Nat.le_refl _))
                have HQ5 : Hid (RowB W10 W2.heap.size 22 (.slice A5 qd.length c5) qd) := Lib.hid (Hq5.out.move (fun k hk _ => by rw [u10.other k (by omega), u9.other k (by omega), u7.other k (by omega), u6.other k (by omega)]))
                have Hrp := Lib.hid (fun W (h : R22 (w.heap.size + 2) W10 W) => RdC.below Hr'.out (h.below HBW (Nat.le_add_right _ 2) HBW.size))
                refine wp_region_noPanic ?_
                refine wp_region_held_drew (S := R22 (w.heap.size + 2) W10) (by kernel_rfl) (R22.start hR10 rfl) (fun h0 => ?_)
                refine wpAnyH_take (i := 0) (v := .agg (leN A5 qd.length c5 L)) rfl (by kernel_rfl) (by kernel_rfl) (by kernel_rfl) (fun _ _ _ h => h) (yieldsIf_load_blk (by rfl) 39 (.tmp 3) rfl w.heap.size rfl 39 _ (0, 0) _ (fun W h => (h.other _ (blk_lt HP10) (by omega)).trans HP10) Try.underlying39 rfl le_size) h0 ?_
                try simp only [Act.put, List.getElem?_toArray, List.getElem_toArray, List.getElem_cons_zero, List.getElem_cons_succ, List.setIfInBounds_toArray, List.set_cons_zero, List.set_cons_succ]
                refine wpAnyH_take (i := 1) (v := .pointer (some ⟨w.heap.size + 1, 3, none⟩)) rfl (by kernel_rfl) (by kernel_rfl) (by kernel_rfl) (fun _ _ _ h => h) (Or.inl ⟨by rfl, fun W hW => by go_simp⟩) h0 ?_
                try simp only [Act.put, List.getElem?_toArray, List.getElem_toArray, List.getElem_cons_zero, List.getElem_cons_succ, List.setIfInBounds_toArray, List.set_cons_zero, List.set_cons_succ]
                refine wpAnyH_take (i := 2) (v := .slice A' f.p.length c') rfl (by kernel_rfl) (by kernel_rfl) (by kernel_rfl) (fun _ _ _ h => h) (Or.inl ⟨by rfl, fun W hW => by have hz : W.cell? ⟨w.heap.size + 1, 3, none⟩ = some (.slice A' f.p.length c') := hW.old hF10 (by omega) rfl; go_simp⟩) h0 ?_
                try simp only [Act.put, List.getElem?_toArray, List.getElem_toArray, List.getElem_cons_zero, List.getElem_cons_succ, List.setIfInBounds_toArray, List.set_cons_zero, List.set_cons_succ]
                refine wpAnyH_ready (rs := [3]) (by kernel_rfl) (by simp) ?_
                refine AllReadyH.cons rfl (fun K hK => ?_) AllReadyH.nil
                go_simp
                go_at_call 46
                refine (payload_any A' c' f.p _ (by omega) (Hrp.out _ h0) HA'.out).mono ?_
                rintro e wq ⟨vq, rfl, hOq, hb⟩
                obtain ⟨Aq, cq, rfl, hAq, hcq, hmq, hrq⟩ := own_form hOq
                have Eq := els_own hOq
                refine hK.out _ _ (h0.step hb) (fun h1 => ?_)
                clear hK
                have hlt10 : w.heap.size + 2 < W10.drew.heap.size := (blk_lt hR10 : w.heap.size + 2 < W10.heap.size)
                have hlt : w.heap.size + 2 < wq.heap.size := by obtain ⟨_, hz, _⟩ := h1.res; exact blk_lt hz
                try simp only [Act.put, List.getElem?_toArray, List.getElem_toArray, List.getElem_cons_zero, List.getElem_cons_succ, List.setIfInBounds_toArray, List.set_cons_zero, List.set_cons_succ]
                refine wpAnyH_ready (rs := [4, 5]) (by kernel_rfl) (by simp) ?_
                refine AllReadyH.cons rfl (fun K hK => ?_) (AllReadyH.cons rfl (fun K hK => ?_) AllReadyH.nil)
                · go_simp
                  refine hK.out _ _ (h1.step (fw_new _ _)) (fun h2 => ?_)
                  clear hK
                  try simp only [Act.put, List.getElem?_toArray, List.getElem_toArray, List.getElem_cons_zero, List.getElem_cons_succ, List.setIfInBounds_toArray, List.set_cons_zero, List.set_cons_succ]
                  obtain ⟨old, ho, hs⟩ := h2.res
                  refine wpAnyH_ready (rs := [5]) (by kernel_rfl) (by simp) ?_
                  refine AllReadyH.cons rfl (fun K hK => ?_) AllReadyH.nil
                  rw [if_pos (by rfl)]
                  refine wp_store_row 39 (.tmp 6) (.tmp 83) rfl (w.heap.size + 2) (leN A5 qd.length c5 L) rfl rfl 39 old ho le_size (by rw [hs]; rfl) (le_one _ _ _ _) ?_
                  have hend := endA (cs := leN A5 qd.length c5 L) ho Eq hlt10 hlt
                  refine hK.out _ _ (h2.row _ rfl ⟨_, ho⟩) (fun h3 => ?_)
                  clear hK
                  try simp only [Act.put, List.getElem?_toArray, List.getElem_toArray, List.getElem_cons_zero, List.getElem_cons_succ, List.setIfInBounds_toArray, List.set_cons_zero, List.set_cons_succ]
                  refine wpAnyH_take (i := 6) (v := .slice (some ⟨wq.heap.size, 0, none⟩) 1 1) rfl (by kernel_rfl) (by kernel_rfl) (by kernel_rfl) (fun _ _ _ h => h) (Or.inl ⟨by rfl, fun W hW => by rfl⟩) h3 ?_
                  try simp only [Act.put, List.getElem?_toArray, List.getElem_toArray, List.getElem_cons_zero, List.getElem_cons_succ, List.setIfInBounds_toArray, List.set_cons_zero, List.set_cons_succ]
                  refine wpAnyH_take (i := 7) (v := .int .i64 0) rfl (by kernel_rfl) (by kernel_rfl) (by kernel_rfl) (fun _ _ _ h => h) (Or.inl ⟨by rfl, fun W hW => by rfl⟩) h3 ?_
                  try simp only [Act.put, List.getElem?_toArray, List.getElem_toArray, List.getElem_cons_zero, List.getElem_cons_succ, List.setIfInBounds_toArray, List.set_cons_zero, List.set_cons_succ]
                  refine wpAnyH_done (by kernel_rfl) ?_ _
                  refine NoPanic.normal ?_
                  go_wp2_with fail
                  (try simp only [Exit.inBlock, Exit.then])
                  refine bodyPost_ret (res_ctt rfl _ _ (w.heap.size + 2) _ (leN A5 qd.length c5 L) _ _ rfl hend.row Try.underlying39 rfl le_size) rfl ?_
                  exact RecvPost.yes HE2.out rfl rfl (HQ5.out.move fun k hk hl => h3.other k hl (by omega)) hend.inl rfl (h3.below HBW (Nat.le_add_right _ 2) HBW.size)
                · obtain ⟨old, ho, hs⟩ := h1.res
                  rw [if_pos (by rfl)]
                  refine wp_store_row 39 (.tmp 6) (.tmp 83) rfl (w.heap.size + 2) (leN A5 qd.length c5 L) rfl rfl 39 old ho le_size (by rw [hs]; rfl) (le_one _ _ _ _) ?_
                  have hend := endB (cs := leN A5 qd.length c5 L) ho Eq hlt10
                  refine hK.out _ _ (h1.row _ rfl ⟨_, ho⟩) (fun h2 => ?_)
                  clear hK
                  try simp only [Act.put, List.getElem?_toArray, List.getElem_toArray, List.getElem_cons_zero, List.getElem_cons_succ, List.setIfInBounds_toArray, List.set_cons_zero, List.set_cons_succ]
                  refine wpAnyH_ready (rs := [4]) (by kernel_rfl) (by simp) ?_
                  refine AllReadyH.cons rfl (fun K hK => ?_) AllReadyH.nil
                  go_simp
                  refine hK.out _ _ (h2.step (fw_new _ _)) (fun h3 => ?_)
                  clear hK
                  try simp only [Act.put, List.getElem?_toArray, List.getElem_toArray, List.getElem_cons_zero, List.getElem_cons_succ, List.setIfInBounds_toArray, List.set_cons_zero, List.set_cons_succ]
                  refine wpAnyH_take (i := 6) (v := .slice (some ⟨wq.heap.size, 0, none⟩) 1 1) rfl (by kernel_rfl) (by kernel_rfl) (by kernel_rfl) (fun _ _ _ h => h) (Or.inl ⟨by rfl, fun W hW => by rfl⟩) h3 ?_
                  try simp only [Act.put, List.getElem?_toArray, List.getElem_toArray, List.getElem_cons_zero, List.getElem_cons_succ, List.setIfInBounds_toArray, List.set_cons_zero, List.set_cons_succ]
                  refine wpAnyH_take (i := 7) (v := .int .i64 0) rfl (by kernel_rfl) (by kernel_rfl) (by kernel_rfl) (fun _ _ _ h => h) (Or.inl ⟨by rfl, fun W hW => by rfl⟩) h3 ?_
                  try simp only [Act.put, List.getElem?_toArray, List.getElem_toArray, List.getElem_cons_zero, List.getElem_cons_succ, List.setIfInBounds_toArray, List.set_cons_zero, List.set_cons_succ]
                  refine wpAnyH_done (by kernel_rfl) ?_ _
                  refine NoPanic.normal ?_
                  go_wp2_with fail
                  (try simp only [Exit.inBlock, Exit.then])
                  refine bodyPost_ret (res_ctt rfl _ _ (w.heap.size + 2) _ (leN A5 qd.length c5 L) _ _ rfl hend.row Try.underlying39 rfl le_size) rfl ?_
                  exact RecvPost.yes HE2.out rfl rfl (HQ5.out.move fun k hk hl => h3.other k hl (by omega)) hend.inl rfl (h3.below HBW (Nat.le_add_right _ 2) HBW.size)
            · have hsb : (f.s != l.x) = true := by simpa using hsx
              by_cases hn1 : 0 < n
              · by_cases hs9 : 0 < Sv
                · rw [if_pos hn1, if_pos hs9] at HA
                  have HE := Lib.hid (HA.out ▸ hRec.out.out1 hFd hsx)
                  have hnf : (0 < n) = True := eq_true hn1
                  have hsf : decide (0 < Sv) = true := by simpa using hs9
                  clear hn1 HA hRec hsx
                  go_wp2_with (first | (refine wpList_store_field rfl 3 (.tmp 47) (.tmp 46) rfl w.heap.size 1 (.int .i64 Bv) rfl rfl rfl 39 _ hP5' (by simp [leN]) (by kernel_rfl) ?_; intro W6 hW6 u6; have HW6 := (hW6 : W6.heap[w.heap.size]? = some (.cells (leN A5 qd.length c5 { l with b := Bv }) 39 (0, 0))); clear hW6; have W62 : W6.cell? ⟨w.heap.size, 2, none⟩ = some (.int .i64 l.s) := cellOf HW6 rfl) | (refine wpList_store_field rfl 3 (.tmp 52) (.tmp 51) rfl w.heap.size 2 (.int .i64 Sv) rfl rfl rfl 39 _ HW6 (by simp [leN]) (by kernel_rfl) ?_; intro W7 hW7 u7; have HW7 := (hW7 : W7.heap[w.heap.size]? = some (.cells (leN A5 qd.length c5 { l with b := Bv, s := Sv }) 39 (0, 0))); clear hW7; have W72 : W7.cell? ⟨w.heap.size, 2, none⟩ = some (.int .i64 Sv) := cellOf HW7 rfl; have W73 : W7.cell? ⟨w.heap.size, 3, none⟩ = some (.int .i64 l.x) := cellOf HW7 rfl; have W7F := (u7.other (w.heap.size + 1) (by omega)).trans ((u6.other (w.heap.size + 1) (by omega)).trans hF5); have W7q0 : W7.cell? ⟨w.heap.size + 1, 0, none⟩ = some (.bool f.d) := cellOf W7F rfl; have W7q1 : W7.cell? ⟨w.heap.size + 1, 1, none⟩ = some (.int .i64 f.s) := cellOf W7F rfl) | (refine wpList_store_field rfl 3 (.tmp 63) (.tmp 62) rfl w.heap.size 5 (.int .i64 (now + 3)) rfl rfl rfl 39 _ HW7 (by simp [leN]) (by kernel_rfl) ?_; intro W8 hW8 u8; have HW8 := (hW8 : W8.heap[w.heap.size]? = some (.cells (leN A5 qd.length c5 { l with b := Bv, s := Sv, d := now + 3 }) 39 (0, 0))); clear hW8; have W82 : W8.cell? ⟨w.heap.size, 2, none⟩ = some (.int .i64 Sv) := cellOf HW8 rfl; have W83 : W8.cell? ⟨w.heap.size, 3, none⟩ = some (.int .i64 l.x) := cellOf HW8 rfl; have W8F := (u8.other (w.heap.size + 1) (by omega)).trans ((u7.other (w.heap.size + 1) (by omega)).trans ((u6.other (w.heap.size + 1) (by omega)).trans hF5)); have W8q0 : W8.cell? ⟨w.heap.size + 1, 0, none⟩ = some (.bool f.d) := cellOf W8F rfl; have W8q1 : W8.cell? ⟨w.heap.size + 1, 1, none⟩ = some (.int .i64 f.s) := cellOf W8F rfl) | (refine wpList_store_field rfl 4 (.tmp 72) (.const (.bool true)) rfl w.heap.size 4 (.bool true) rfl rfl rfl 39 _ HW8 (by simp [leN]) (by kernel_rfl) ?_; intro W9 hW9 u9; have HW9 := (hW9 : W9.heap[w.heap.size]? = some (.cells (leN A5 qd.length c5 { l with b := Bv, s := Sv, d := now + 3, o := true }) 39 (0, 0))); clear hW9; have W93 : W9.cell? ⟨w.heap.size, 3, none⟩ = some (.int .i64 l.x) := cellOf HW9 rfl; have W9q1 : W9.cell? ⟨w.heap.size + 1, 1, none⟩ = some (.int .i64 f.s) := cellOf ((u9.other (w.heap.size + 1) (by omega)).trans W8F) rfl) | (refine wpList_load_row rfl 39 (.tmp 3) rfl w.heap.size rfl 39 (leN A5 qd.length c5 { l with b := Bv, s := Sv, d := now + 3, o := true }) (0, 0) _ HW9 Try.underlying39 rfl le_size ?_) | (refine wpList_store_row rfl 39 (.tmp 6) (.tmp 78) rfl (w.heap.size + 2) (leN A5 qd.length c5 { l with b := Bv, s := Sv, d := now + 3, o := true }) rfl rfl 39 _ ((u9.other (w.heap.size + 2) (by omega)).trans ((u8.other (w.heap.size + 2) (by omega)).trans ((u7.other (w.heap.size + 2) (by omega)).trans ((u6.other (w.heap.size + 2) (by omega)).trans hR5)))) le_size rfl (le_one _ _ _ _) ?_))
                  (try simp only [Exit.inBlock, Exit.then])
                  refine bodyPost_ret (res_ctt rfl _ _ (w.heap.size + 2) _ (leN A5 qd.length c5 { l with b := Bv, s := Sv, d := now + 3, o := true }) _ _ rfl (setRow_heap _ _ _ _ _ _ ((u9.other (w.heap.size + 2) (by omega)).trans ((u8.other (w.heap.size + 2) (by omega)).trans ((u7.other (w.heap.size + 2) (by omega)).trans ((u6.other (w.heap.size + 2) (by omega)).trans hR5))))) Try.underlying39 rfl le_size) rfl ?_
                  refine RecvPost.yes HE.out rfl rfl (Hq5.out.move fun k hk _ => ?_) (InL.empty _) rfl (below_setRow (u9.below (u8.below (u7.below (u6.below hB5 (Nat.le_refl _)) (Nat.le_refl _)) (Nat.le_refl _)) (Nat.le_refl _)) (Nat.le_add_right _ 2) _)
                  rw [setRow_other _ _ _ _ (by omega), u9.other k (by omega), u8.other k (by omega), u7.other k (by omega), u6.other k (by omega)]
                · rw [if_pos hn1, if_neg hs9] at HA
                  have HE := Lib.hid (HA.out ▸ hRec.out.out1 hFd hsx)
                  have hnf : (0 < n) = True := eq_true hn1
                  have hsf : decide (0 < Sv) = false := by simpa using hs9
                  clear hn1 HA hRec hsx
                  go_wp2_with (first | (refine wpList_store_field rfl 3 (.tmp 47) (.tmp 46) rfl w.heap.size 1 (.int .i64 Bv) rfl rfl rfl 39 _ hP5' (by simp [leN]) (by kernel_rfl) ?_; intro W6 hW6 u6; have HW6 := (hW6 : W6.heap[w.heap.size]? = some (.cells (leN A5 qd.length c5 { l with b := Bv }) 39 (0, 0))); clear hW6; have W62 : W6.cell? ⟨w.heap.size, 2, none⟩ = some (.int .i64 l.s) := cellOf HW6 rfl) | (refine wpList_store_field rfl 3 (.tmp 52) (.tmp 51) rfl w.heap.size 2 (.int .i64 Sv) rfl rfl rfl 39 _ HW6 (by simp [leN]) (by kernel_rfl) ?_; intro W7 hW7 u7; have HW7 := (hW7 : W7.heap[w.heap.size]? = some (.cells (leN A5 qd.length c5 { l with b := Bv, s := Sv }) 39 (0, 0))); clear hW7; have W72 : W7.cell? ⟨w.heap.size, 2, none⟩ = some (.int .i64 Sv) := cellOf HW7 rfl; have W73 : W7.cell? ⟨w.heap.size, 3, none⟩ = some (.int .i64 l.x) := cellOf HW7 rfl; have W7F := (u7.other (w.heap.size + 1) (by omega)).trans ((u6.other (w.heap.size + 1) (by omega)).trans hF5); have W7q0 : W7.cell? ⟨w.heap.size + 1, 0, none⟩ = some (.bool f.d) := cellOf W7F rfl; have W7q1 : W7.cell? ⟨w.heap.size + 1, 1, none⟩ = some (.int .i64 f.s) := cellOf W7F rfl) | (refine wpList_store_field rfl 3 (.tmp 67) (.const (.int .i64 (-1))) rfl w.heap.size 5 (.int .i64 (-1)) rfl rfl rfl 39 _ HW7 (by simp [leN]) (by kernel_rfl) ?_; intro W8 hW8 u8; have HW8 := (hW8 : W8.heap[w.heap.size]? = some (.cells (leN A5 qd.length c5 { l with b := Bv, s := Sv, d := -1 }) 39 (0, 0))); clear hW8; have W82 : W8.cell? ⟨w.heap.size, 2, none⟩ = some (.int .i64 Sv) := cellOf HW8 rfl; have W83 : W8.cell? ⟨w.heap.size, 3, none⟩ = some (.int .i64 l.x) := cellOf HW8 rfl; have W8F := (u8.other (w.heap.size + 1) (by omega)).trans ((u7.other (w.heap.size + 1) (by omega)).trans ((u6.other (w.heap.size + 1) (by omega)).trans hF5)); have W8q0 : W8.cell? ⟨w.heap.size + 1, 0, none⟩ = some (.bool f.d) := cellOf W8F rfl; have W8q1 : W8.cell? ⟨w.heap.size + 1, 1, none⟩ = some (.int .i64 f.s) := cellOf W8F rfl) | (refine wpList_store_field rfl 4 (.tmp 72) (.const (.bool true)) rfl w.heap.size 4 (.bool true) rfl rfl rfl 39 _ HW8 (by simp [leN]) (by kernel_rfl) ?_; intro W9 hW9 u9; have HW9 := (hW9 : W9.heap[w.heap.size]? = some (.cells (leN A5 qd.length c5 { l with b := Bv, s := Sv, d := -1, o := true }) 39 (0, 0))); clear hW9; have W93 : W9.cell? ⟨w.heap.size, 3, none⟩ = some (.int .i64 l.x) := cellOf HW9 rfl; have W9q1 : W9.cell? ⟨w.heap.size + 1, 1, none⟩ = some (.int .i64 f.s) := cellOf ((u9.other (w.heap.size + 1) (by omega)).trans W8F) rfl) | (refine wpList_load_row rfl 39 (.tmp 3) rfl w.heap.size rfl 39 (leN A5 qd.length c5 { l with b := Bv, s := Sv, d := -1, o := true }) (0, 0) _ HW9 Try.underlying39 rfl le_size ?_) | (refine wpList_store_row rfl 39 (.tmp 6) (.tmp 78) rfl (w.heap.size + 2) (leN A5 qd.length c5 { l with b := Bv, s := Sv, d := -1, o := true }) rfl rfl 39 _ ((u9.other (w.heap.size + 2) (by omega)).trans ((u8.other (w.heap.size + 2) (by omega)).trans ((u7.other (w.heap.size + 2) (by omega)).trans ((u6.other (w.heap.size + 2) (by omega)).trans hR5)))) le_size rfl (le_one _ _ _ _) ?_))
                  (try simp only [Exit.inBlock, Exit.then])
                  refine bodyPost_ret (res_ctt rfl _ _ (w.heap.size + 2) _ (leN A5 qd.length c5 { l with b := Bv, s := Sv, d := -1, o := true }) _ _ rfl (setRow_heap _ _ _ _ _ _ ((u9.other (w.heap.size + 2) (by omega)).trans ((u8.other (w.heap.size + 2) (by omega)).trans ((u7.other (w.heap.size + 2) (by omega)).trans ((u6.other (w.heap.size + 2) (by omega)).trans hR5))))) Try.underlying39 rfl le_size) rfl ?_
                  refine RecvPost.yes HE.out rfl rfl (Hq5.out.move fun k hk _ => ?_) (InL.empty _) rfl (below_setRow (u9.below (u8.below (u7.below (u6.below hB5 (Nat.le_refl _)) (Nat.le_refl _)) (Nat.le_refl _)) (Nat.le_refl _)) (Nat.le_add_right _ 2) _)
                  rw [setRow_other _ _ _ _ (by omega), u9.other k (by omega), u8.other k (by omega), u7.other k (by omega), u6.other k (by omega)]
              · rw [if_neg hn1] at HA
                have HE := Lib.hid (HA.out ▸ hRec.out.out1 hFd hsx)
                have hnf : (0 < n) = False := eq_false hn1
                clear hn1 HA hRec hsx
                go_wp2_with (first | (refine wpList_store_field rfl 3 (.tmp 47) (.tmp 46) rfl w.heap.size 1 (.int .i64 Bv) rfl rfl rfl 39 _ hP5' (by simp [leN]) (by kernel_rfl) ?_; intro W6 hW6 u6; have HW6 := (hW6 : W6.heap[w.heap.size]? = some (.cells (leN A5 qd.length c5 { l with b := Bv }) 39 (0, 0))); clear hW6; have W62 : W6.cell? ⟨w.heap.size, 2, none⟩ = some (.int .i64 l.s) := cellOf HW6 rfl) | (refine wpList_store_field rfl 3 (.tmp 52) (.tmp 51) rfl w.heap.size 2 (.int .i64 Sv) rfl rfl rfl 39 _ HW6 (by simp [leN]) (by kernel_rfl) ?_; intro W7 hW7 u7; have HW7 := (hW7 : W7.heap[w.heap.size]? = some (.cells (leN A5 qd.length c5 { l with b := Bv, s := Sv }) 39 (0, 0))); clear hW7; have W72 : W7.cell? ⟨w.heap.size, 2, none⟩ = some (.int .i64 Sv) := cellOf HW7 rfl; have W73 : W7.cell? ⟨w.heap.size, 3, none⟩ = some (.int .i64 l.x) := cellOf HW7 rfl; have W7F := (u7.other (w.heap.size + 1) (by omega)).trans ((u6.other (w.heap.size + 1) (by omega)).trans hF5); have W7q0 : W7.cell? ⟨w.heap.size + 1, 0, none⟩ = some (.bool f.d) := cellOf W7F rfl; have W7q1 : W7.cell? ⟨w.heap.size + 1, 1, none⟩ = some (.int .i64 f.s) := cellOf W7F rfl) | (refine wpList_store_field rfl 4 (.tmp 72) (.const (.bool true)) rfl w.heap.size 4 (.bool true) rfl rfl rfl 39 _ HW7 (by simp [leN]) (by kernel_rfl) ?_; intro W9 hW9 u9; have HW9 := (hW9 : W9.heap[w.heap.size]? = some (.cells (leN A5 qd.length c5 { l with b := Bv, s := Sv, o := true }) 39 (0, 0))); clear hW9; have W93 : W9.cell? ⟨w.heap.size, 3, none⟩ = some (.int .i64 l.x) := cellOf HW9 rfl; have W9q1 : W9.cell? ⟨w.heap.size + 1, 1, none⟩ = some (.int .i64 f.s) := cellOf ((u9.other (w.heap.size + 1) (by omega)).trans W7F) rfl) | (refine wpList_load_row rfl 39 (.tmp 3) rfl w.heap.size rfl 39 (leN A5 qd.length c5 { l with b := Bv, s := Sv, o := true }) (0, 0) _ HW9 Try.underlying39 rfl le_size ?_) | (refine wpList_store_row rfl 39 (.tmp 6) (.tmp 78) rfl (w.heap.size + 2) (leN A5 qd.length c5 { l with b := Bv, s := Sv, o := true }) rfl rfl 39 _ ((u9.other (w.heap.size + 2) (by omega)).trans ((u7.other (w.heap.size + 2) (by omega)).trans ((u6.other (w.heap.size + 2) (by omega)).trans hR5))) le_size rfl (le_one _ _ _ _) ?_))
                (try simp only [Exit.inBlock, Exit.then])
                refine bodyPost_ret (res_ctt rfl _ _ (w.heap.size + 2) _ (leN A5 qd.length c5 { l with b := Bv, s := Sv, o := true }) _ _ rfl (setRow_heap _ _ _ _ _ _ ((u9.other (w.heap.size + 2) (by omega)).trans ((u7.other (w.heap.size + 2) (by omega)).trans ((u6.other (w.heap.size + 2) (by omega)).trans hR5)))) Try.underlying39 rfl le_size) rfl ?_
                refine RecvPost.yes HE.out rfl rfl (Hq5.out.move fun k hk _ => ?_) (InL.empty _) rfl (below_setRow (u9.below (u7.below (u6.below hB5 (Nat.le_refl _)) (Nat.le_refl _)) (Nat.le_refl _)) (Nat.le_add_right _ 2) _)
                rw [setRow_other _ _ _ _ (by omega), u9.other k (by omega), u7.other k (by omega), u6.other k (by omega)]
  · have Hno := Lib.hid (fun W' (hb : Below w.heap.size w W') => RecvPost.no (f := f) (now := now) (recv_chk hk) hb)
    have hk0 : ((chk l : Int) != 0) = true := by simpa using hk
    generalize chk l = k at *
    clear hk
    go_wp2_with (first | (refine wpList_store_row rfl 39 (.tmp 6) (.tmp 15) rfl (w.heap.size + 2) (leCells none 0 leZ) rfl rfl 39 _ hR le_size rfl (le_one none 0 0 leZ) ?_))
    (try simp only [Exit.inBlock, Exit.then])
    refine bodyPost_ret (res_ctt rfl _ _ (w.heap.size + 2) _ (leCells none 0 leZ) _ _ rfl (setRow_heap _ _ _ _ _ _ hR) Try.underlying39 rfl le_size) rfl ?_
    exact (Hno.out _ (below_setRow hB (Nat.le_add_right _ 2) _))
end Go.Proofs.Ytpeahilkmlffkaa
