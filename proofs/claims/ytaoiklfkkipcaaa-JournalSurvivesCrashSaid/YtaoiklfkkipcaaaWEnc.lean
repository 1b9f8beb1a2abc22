import Derived.Test.YtaoiklfkkipcaaaWFcs
import Derived.Test.YtaoiklfkkipcaaaHdlcLaws
namespace Go.Proofs.Ytaoiklfkkipcaaa
open Go Go.RowKit Hd Go.Mem

theorem info_u8 : (Try.prog.info? 5).map (fun i => (i.zero, i.size, i.bytes)) = some (some (.int .u8 0), 1, 1) := by kernel_rfl

theorem special_any (x : UInt8) (w : World) :
    Calls Try.prog 57 #[.int .u8 (x.toNat : Int)] w fun e w' => e = .returned (.bool (Hd.special x)) ∧ w = w' := by
  go_enter Try.func57, Try.ntmps57
  go_wp2
  all_goals
    go_ret
    refine ⟨?_, rfl⟩
  · rename_i h
    have : x = 126 := UInt8.toNat_inj.1 (by simp; omega)
    subst this
    rfl
  · rename_i h
    have e1 : (x == 126) = ((x.toNat : Int) == 126) := by
      rw [Bool.eq_iff_iff]; simp [← UInt8.toNat_inj]; omega
    have e2 : (x == 125) = ((x.toNat : Int) == 125) := by
      rw [Bool.eq_iff_iff]; simp [← UInt8.toNat_inj]; omega
    unfold Hd.special
    rw [e1, e2]
    rfl

theorem enc_long (A : Option Addr) (c : Nat) (l : List UInt8) (w : World) (hl : l.length ≤ 140737488351232) (h : 4096 < l.length) :
    Calls Try.prog 45 #[.slice A l.length c] w fun e w' => e = .returned (.tuple #[.slice none 0 0, .int .i64 2]) ∧ w = w' := by
  go_enter Try.func45, Try.ntmps45
  go_wp2_with fail
  go_ret2
  exact ⟨rfl, rfl⟩

def encPre (l t : List UInt8) : Nat → List UInt8
  | 0 => []
  | 1 => l
  | _ => l ++ t
theorem enc_step (l t part : List UInt8) (k m : Nat) (h : m < part.length) : 0x7e :: stuff (encPre l t k ++ part.take (m + 1)) = (0x7e :: stuff (encPre l t k ++ part.take m)) ++ stuff1 part[m] := by
  rw [List.take_succ_eq_append_getElem h, ← List.append_assoc, stuff_append (encPre l t k ++ part.take m)]
  simp [stuff]
theorem enc_bound (l t part : List UInt8) (k m : Nat) (hl : l.length ≤ 4096) (ht : t.length = 2) (hp : part.length ≤ 4096) : (0x7e :: stuff (encPre l t k ++ part.take m)).length + 2 ≤ 140737488355328 := by
  have h1 := (stuff_length (encPre l t k ++ part.take m)).2
  have h2 : (encPre l t k).length ≤ 4098 := by
    unfold encPre
    split
    · simp
    · omega
    · simp only [List.length_append]; omega
  simp only [List.length_append, List.length_take, List.length_cons] at h1 ⊢
  omega
theorem flip_bits (x : UInt8) : bits .xor .u8 (x.toNat : Int) 32 = ((x ^^^ 0x20).toNat : Int) := u8x x 0x20
theorem enc_part (A : Option Addr) (c : Nat) (l t : List UInt8) (T : Nat) (R : World → Prop) (hr : ∀ W, R W → Rd W A l) (hA : A = none → c = 0) (ht : ∀ W, R W → Rd W (some ⟨T, 0, none⟩) t) (hl : l.length ≤ 4096) (htl : t.length = 2) (k : Nat) (hk : k < 2) :
    ∃ A' c' part, (∀ W, (Instr.index 101 (.agg #[.slice A l.length c, .slice (some ⟨T, 0, none⟩) 2 2]) (.int .i64 (k : Int))).run Try.prog W = .ok (.slice A' part.length c') W) ∧
      (∀ W, R W → Rd W A' part) ∧ (A' = none → c' = 0) ∧ part.length ≤ 4096 ∧ encPre l t (k + 1) = encPre l t k ++ part := by
  match k, hk with
  | 0, _ => exact ⟨A, c, l, fun _ => by kernel_rfl, hr, hA, hl, rfl⟩
  | 1, _ => exact ⟨_, 2, t, fun _ => by rw [htl]; kernel_rfl, ht, (fun e => by cases e), by omega, rfl⟩
set_option maxRecDepth 100000 in
set_option maxHeartbeats 400000 in
theorem enc_any (A : Option Addr) (c : Nat) (l : List UInt8) (w : World) (hl : l.length ≤ 4096) (hr : Rd w A l) (hA : A = none → c = 0) :
    Calls Try.prog 45 #[.slice A l.length c] w fun e w' => ∃ v, e = .returned (.tuple #[v, .int .i64 0]) ∧ OwnB w' w.heap.size 5 v (frame l) ∧ Below w.heap.size w w' := by
  go_enter Try.func45, Try.ntmps45
  go_wp2_with (first | (go_at_call 58; refine (fcs_any _ _ l _ (by omega) hr).mono ?_; rintro e w1 ⟨rfl, hb⟩))
  have hT : ((w1.alloc (Obj.cells #[Value.int IntKind.u8 126] 5)).alloc (Obj.cells #[Value.int IntKind.u8 (↑(fcs l).toNat % 256), Value.int IntKind.u8 (↑(fcs l).toNat / 256 % 256)] 5)).heap[w1.heap.size + 1]? = some (Obj.cells #[Value.int IntKind.u8 (↑(fcs l).toNat % 256), Value.int IntKind.u8 (↑(fcs l).toNat / 256 % 256)] 5) := heap_alloc2_new _ _ _
  have hO : OwnB ((w1.alloc (Obj.cells #[Value.int IntKind.u8 126] 5)).alloc (Obj.cells #[Value.int IntKind.u8 (↑(fcs l).toNat % 256), Value.int IntKind.u8 (↑(fcs l).toNat / 256 % 256)] 5)) w.heap.size 5 (.slice (some ⟨w1.heap.size, 0, none⟩) 1 1) [0x7e] := (own_fresh w1 w.heap.size #[Value.int IntKind.u8 126] 5 hb.size (by decide)).alloc _
  have hB : Below w.heap.size w ((w1.alloc (Obj.cells #[Value.int IntKind.u8 126] 5)).alloc (Obj.cells #[Value.int IntKind.u8 (↑(fcs l).toNat % 256), Value.int IntKind.u8 (↑(fcs l).toNat / 256 % 256)] 5)) := (hb.alloc hb.size _).alloc (by have := hb.size; simp; omega) _
  have ht : (#[Value.int IntKind.u8 (↑(fcs l).toNat % 256), Value.int IntKind.u8 (↑(fcs l).toNat / 256 % 256)] : Array Value).toList = (tail2 (fcs l)).map B := by simp [tail2, lo, Hd.hi, Nat.shiftRight_eq_div_pow]
  generalize ((w1.alloc (Obj.cells #[Value.int IntKind.u8 126] 5)).alloc (Obj.cells #[Value.int IntKind.u8 (↑(fcs l).toNat % 256), Value.int IntKind.u8 (↑(fcs l).toNat / 256 % 256)] 5)) = W at *
  have hTne : (Value.slice (some ⟨w1.heap.size, 0, none⟩) 1 1).ownBlock ≠ some (w1.heap.size + 1) := by simp [Value.ownBlock]
  have hTge : w.heap.size ≤ w1.heap.size + 1 := by have := hb.size; omega
  generalize w1.heap.size + 1 = T at *
  generalize #[Value.int IntKind.u8 (↑(fcs l).toNat % 256), Value.int IntKind.u8 (↑(fcs l).toNat / 256 % 256)] = cT at *
  have hcT : cT.toList = (tail2 (fcs l)).map B := ht
  clear ht
  have HcT := Lib.hid hcT
  clear hcT
  go_loopw [5, 24] (fun out j wr => ∃ k : Nat, k ≤ 2 ∧ j = .int .i64 k ∧ OwnB wr w.heap.size 5 out (0x7e :: stuff (encPre l (tail2 (fcs l)) k)) ∧ out.ownBlock ≠ some T ∧ wr.heap[T]? = some (Obj.cells cT 5) ∧ Below w.heap.size w wr) (fun _ j _ => 2 - (intOf j).toNat)
  case atStart => exact ⟨0, by omega, rfl, hO, hTne, hT, hB⟩
  case round =>
    obtain ⟨k, hk, rfl, hO1, hne1, hT1, hB1⟩ := hrel
    clear hT hO hB hTne
    by_cases hlt : k < 2
    · obtain ⟨A', c', part, hidx, hrp, hAp, hlp, hpre⟩ := enc_part A c l (tail2 (fcs l)) T (fun W => Below w.heap.size w W ∧ W.heap[T]? = some (Obj.cells cT 5)) (fun W h => hr.below h.1) hA (fun W h => rd_blk h.2 HcT.out) hl rfl k hlt
      have Hpre := Lib.hid hpre
      have Hrp := Lib.hid hrp
      clear hpre hrp
      obtain ⟨wo, rfl⟩ : ∃ wo : World, wo = wr := ⟨_, rfl⟩
      have hd2 : decide ((k : Int) < 2) = true := by simp; omega
      go_wp2_with fail
      have hk1 : 0x7e :: stuff (encPre l (tail2 (fcs l)) k) = 0x7e :: stuff (encPre l (tail2 (fcs l)) k ++ part.take 0) := by simp
      have Hk1 := Lib.hid hk1
      clear hk1
      go_loopw [5, 29] (fun out j wr => ∃ m : Nat, m ≤ part.length ∧ j = .int .i64 m ∧ OwnB wr w.heap.size 5 out (0x7e :: stuff (encPre l (tail2 (fcs l)) k ++ part.take m)) ∧ out.ownBlock ≠ some T ∧ wr.heap[T]? = some (Obj.cells cT 5) ∧ Below w.heap.size w wr) (fun _ j _ => part.length - (intOf j).toNat)
      case atStart => exact ⟨0, by omega, rfl, by rw [← Hk1.out]; exact hO1, hne1, hT1, hB1⟩
      case round =>
        obtain ⟨m, hm, rfl, hO2, hne2, hT2, hB2⟩ := hrel
        clear hO1 hne1 hT1 hB1
        by_cases hltm : m < part.length
        · obtain ⟨b, off, rfl, hc⟩ := (Hrp.out wr ⟨hB2, hT2⟩).at m hltm
          have hbd := enc_bound l (tail2 (fcs l)) part k m hl rfl hlp
          have hbd1 := Nat.le_of_succ_le hbd
          have Hst := Lib.hid (enc_step l (tail2 (fcs l)) part k m hltm)
          generalize part[m] = x at *
          by_cases hs : Hd.special x = true
          · have e1 := flip_bits x
            go_wp2_with (first | (go_at_call 57; refine (special_any _ _).mono ?_; rintro e w' ⟨rfl, rfl⟩) | (at_builtin; refine app_bytes _ rfl _ _ 25 rfl w w.heap.size 5 Try.underlying25 info_u8 u5 _ rfl (hO2.alloc _) (some ⟨wr.heap.size, 0, none⟩) 2 [0x7d, x ^^^ 0x20] rfl (fun e => by cases e) (rd_new _ _ _ _ rfl) hbd (hB2.alloc hB2.size _) (by have := hB2.size; simp; omega) ?_; intro v' w' hO3 hB3 hg3 hat3 hsz3))
            go_roundw
            case rel =>
              refine ⟨m + 1, by omega, by go_num, ?_, ne_after hat3 (alloc_blk _ hT2) hne2, blk_grown hg3 (alloc_blk _ hT2) hne2, hB3⟩
              rw [Hst.out]
              unfold stuff1
              rw [if_pos hs]
              exact hO3
            case measure => simp [intOf]; omega
          · go_wp2_with (first | (go_at_call 57; refine (special_any _ _).mono ?_; rintro e w' ⟨rfl, rfl⟩) | (at_builtin; refine app_bytes _ rfl _ _ 25 rfl w w.heap.size 5 Try.underlying25 info_u8 u5 _ rfl (hO2.alloc _) (some ⟨wr.heap.size, 0, none⟩) 1 [x] rfl (fun e => by cases e) (rd_new _ _ _ _ rfl) hbd1 (hB2.alloc hB2.size _) (by have := hB2.size; simp; omega) ?_; intro v' w' hO3 hB3 hg3 hat3 hsz3))
            go_roundw
            case rel =>
              refine ⟨m + 1, by omega, by go_num, ?_, ne_after hat3 (alloc_blk _ hT2) hne2, blk_grown hg3 (alloc_blk _ hT2) hne2, hB3⟩
              rw [Hst.out]
              unfold stuff1
              rw [if_neg hs]
              exact hO3
            case measure => simp [intOf]; omega
        · have : m = part.length := by omega
          subst this
          go_wp2
          go_roundw
          case rel => exact ⟨k + 1, by omega, by go_num, by rw [Hpre.out]; simpa using hO2, hne2, hT2, hB2⟩
          case measure => simp [intOf]; omega
    · have : k = 2 := by omega
      subst this
      have hbd : (0x7e :: stuff (encPre l (tail2 (fcs l)) 2)).length + 1 ≤ 140737488355328 := by
        have := enc_bound l (tail2 (fcs l)) [] 2 0 hl rfl (by simp)
        rw [List.take_nil, List.append_nil] at this
        exact Nat.le_of_succ_le this
      go_wp2_with (at_builtin; refine app_bytes _ rfl _ _ 25 rfl w w.heap.size 5 Try.underlying25 info_u8 u5 _ rfl (hO1.alloc _) (some ⟨wr.heap.size, 0, none⟩) 1 [0x7e] rfl (fun e => by cases e) (rd_new _ _ _ _ rfl) hbd (hB1.alloc hB1.size _) (by have := hB1.size; simp; omega) ?_; intro v' w' hO3 hB3 hg3 hat3 hsz3)
      go_ret2
      exact ⟨_, rfl, hO3, hB3⟩
end Go.Proofs.Ytaoiklfkkipcaaa
