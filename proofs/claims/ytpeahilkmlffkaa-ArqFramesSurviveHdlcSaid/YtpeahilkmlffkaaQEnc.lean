import Derived.Test.YtpeahilkmlffkaaQValid
set_option linter.unusedSimpArgs false
set_option linter.unusedVariables false
namespace Go.Proofs.Ytpeahilkmlffkaa
open Go Go.RowKit Hd Go.Mem

theorem okSeq_range' {x : Int} (h : okSeq x = true) : 0 ≤ x ∧ x < 16 := by
  unfold okSeq at h
  simpa using h
/-- a frame's bytes -/
def fencE (f : Fr) : List UInt8 := enc (if f.d then 1 else 0) ++ enc f.s.toNat ++ enc f.a.toNat ++ (if f.d then encB f.p else [])
def FEncPost (f : Fr) (w : World) (e : Ending) (w' : World) : Prop :=
  Below w.heap.size w w' ∧ if okF f = true then ∃ A' c', e = .returned (.tuple #[.slice A' (fencE f).length c', .int .i64 0]) ∧ InB w' A' c' (fencE f) else e = .returned (.tuple #[.slice none 0 0, .int .i64 1])
theorem FEncPost.ok {f : Fr} {w w' : World} {base : Nat} {v : Value} {l : List UInt8} (hb : Below w.heap.size w w') (h : okF f = true) (hl : fencE f = l) (ho : OwnB w' base 5 v l) : FEncPost f w (.returned (.tuple #[v, .int .i64 0])) w' := by
  subst hl
  obtain ⟨A, c, rfl, h1, h2, h3, h4⟩ := own_form ho
  exact ⟨hb, by rw [if_pos h]; exact ⟨A, c, rfl, ⟨h4, h1, h2, h3⟩⟩⟩
set_option maxRecDepth 100000 in
set_option maxHeartbeats 1000000 in
theorem fenc_any (A : Option Addr) (c : Nat) (f : Fr) (w : World) (hr : Rd w A f.p) (hA : A = none → c = 0) :
    Calls Try.prog 11 #[.agg (frCells A c f)] w (FEncPost f w) := by
  have Hr := Lib.hid hr
  have HA := Lib.hid hA
  have h0 := heap_alloc_new w (.cells (frCells A c f) 24)
  have hB0 := fw_new w (.cells (frCells A c f) 24)
  clear hr hA
  go_enter Try.func11, Try.ntmps11
  go_wp2_with (first | (refine wpList_load_row rfl 24 (.tmp 1) rfl w.heap.size rfl 24 (frCells A c f) (0, 0) _ h0 Try.underlying24 rfl fr_size ?_))
  refine (valid_any A c f _).mono ?_
  rintro e W ⟨rfl, hb⟩
  have hF := blk_below h0 hb
  have hB := fw_trans hB0 hb
  clear h0 hB0 hb
  cases hO : okF f with
  | false =>
    have HO := Lib.hid (show FEncPost f w (.returned (.tuple #[.slice none 0 0, .int .i64 1])) W from ⟨hB, by rw [if_neg (by simp [hO])]⟩)
    clear hO
    go_wp2_with fail
    go_ret2
    exact HO.out
  | true =>
    have HO := Lib.hid hO
    have hFs : okSeq f.s = true ∧ okSeq f.a = true ∧ shortB f.p = true := by
      unfold okF at hO
      simp only [List.all_cons, List.all_nil, Bool.and_true, Bool.and_eq_true] at hO
      exact ⟨hO.1.1.1, hO.1.1.2, hO.1.2⟩
    obtain ⟨hs0, hs1⟩ := okSeq_range' hFs.1
    obtain ⟨ha0, ha1⟩ := okSeq_range' hFs.2.1
    have hp : f.p.length ≤ 256 := by have := hFs.2.2; unfold shortB at this; simp at this; omega
    obtain ⟨s, hs⟩ : ∃ s : Nat, f.s = (s : Int) := ⟨f.s.toNat, by omega⟩
    obtain ⟨a, ha⟩ : ∃ a : Nat, f.a = (a : Int) := ⟨f.a.toNat, by omega⟩
    have hws : IntKind.u64.wrap (s : Int) = (s : Int) := by rw [u64_wrap]; congr 1; omega
    have hwa : IntKind.u64.wrap (a : Int) = (a : Int) := by rw [u64_wrap]; congr 1; omega
    have q0 : W.cell? ⟨w.heap.size, 0, none⟩ = some (.bool f.d) := cellOf hF rfl
    have he : fencE f = enc (if f.d then 1 else 0) ++ enc s ++ enc a ++ (if f.d then encB f.p else []) := by unfold fencE; rw [hs, ha]; rfl
    have He := Lib.hid he
    have hl1 := enc_len64 (v := s) (by omega)
    have hl2 := enc_len64 (v := a) (by omega)
    clear hO hFs he
    cases hd : f.d with
    | true =>
      rw [hd] at q0
      have hl0 := enc_len64 (v := 1) (by omega)
      go_wp2_with fail
      refine (auint_any none 0 [] 1 W (by decide) (by decide) (Rd.nil _ _) (fun _ => rfl) (by decide)).mono ?_
      rintro e W1 ⟨v1, rfl, hO1, hb1⟩
      obtain ⟨L1, hL1⟩ : ∃ L, [] ++ enc 1 = L := ⟨_, rfl⟩
      rw [hL1] at hO1
      have hn1 : L1.length ≤ 10 := by rw [← hL1]; simpa using hl0
      have HL1 := Lib.hid hL1
      clear hL1
      obtain ⟨A1, c1, rfl, k1, k2, k3, k4⟩ := own_form hO1
      have q1 : W1.cell? ⟨w.heap.size, 1, none⟩ = some (.int .i64 (s : Int)) := hs ▸ cellOf (blk_below hF hb1) rfl
      go_wp2_with fail
      refine (auint_any A1 c1 L1 s W1 (by omega) (by omega) k4 k1 k2).mono ?_
      rintro e W2 ⟨v2, rfl, hO2, hb2⟩
      obtain ⟨L2, hL2⟩ : ∃ L, L1 ++ enc s = L := ⟨_, rfl⟩
      rw [hL2] at hO2
      have hn2 : L2.length ≤ 20 := by rw [← hL2]; simp; omega
      have HL2 := Lib.hid hL2
      clear hL2
      obtain ⟨A2, c2, rfl, m1, m2, m3, m4⟩ := own_form hO2
      have hb12 := fw_trans hb1 hb2
      have q2 : W2.cell? ⟨w.heap.size, 2, none⟩ = some (.int .i64 (a : Int)) := ha ▸ cellOf (blk_below hF hb12) rfl
      go_wp2_with fail
      refine (auint_any A2 c2 L2 a W2 (by omega) (by omega) m4 m1 m2).mono ?_
      rintro e W3 ⟨v3, rfl, hO3, hb3⟩
      obtain ⟨L3, hL3⟩ : ∃ L, L2 ++ enc a = L := ⟨_, rfl⟩
      rw [hL3] at hO3
      have hn3 : L3.length ≤ 30 := by rw [← hL3]; simp; omega
      have HL3 := Lib.hid hL3
      clear hL3
      obtain ⟨A3, c3, rfl, n1, n2, n3, n4⟩ := own_form hO3
      have hb13 := fw_trans hb12 hb3
      have q3 : W3.cell? ⟨w.heap.size, 0, none⟩ = some (.bool true) := hd ▸ cellOf (blk_below hF hb13) rfl
      have q4 : W3.cell? ⟨w.heap.size, 3, none⟩ = some (.slice A f.p.length c) := cellOf (blk_below hF hb13) rfl
      have HrW := Lib.hid (RdC.below Hr.out (fw_trans hB hb13))
      go_wp2_with fail
      refine (abytes_any A3 A c3 c L3 f.p W3 (by omega) (by omega) n4 n1 n2 HrW.out HA.out).mono ?_
      rintro e W4 ⟨v4, rfl, hO4, hb4⟩
      have hB4 := fw_trans (fw_trans hB hb13) hb4
      clear q1 q2 q3 q4 q0 hO1 hO2 hO3 k4 m4 n4
      go_wp2_with fail
      go_ret2
      exact FEncPost.ok hB4 HO.out (by rw [He.out, hd, ← HL3.out, ← HL2.out, ← HL1.out]; simp) hO4
    | false =>
      rw [hd] at q0
      have hl0 := enc_len64 (v := 0) (by omega)
      go_wp2_with fail
      refine (auint_any none 0 [] 0 W (by decide) (by decide) (Rd.nil _ _) (fun _ => rfl) (by decide)).mono ?_
      rintro e W1 ⟨v1, rfl, hO1, hb1⟩
      obtain ⟨L1, hL1⟩ : ∃ L, [] ++ enc 0 = L := ⟨_, rfl⟩
      rw [hL1] at hO1
      have hn1 : L1.length ≤ 10 := by rw [← hL1]; simpa using hl0
      have HL1 := Lib.hid hL1
      clear hL1
      obtain ⟨A1, c1, rfl, k1, k2, k3, k4⟩ := own_form hO1
      have q1 : W1.cell? ⟨w.heap.size, 1, none⟩ = some (.int .i64 (s : Int)) := hs ▸ cellOf (blk_below hF hb1) rfl
      go_wp2_with fail
      refine (auint_any A1 c1 L1 s W1 (by omega) (by omega) k4 k1 k2).mono ?_
      rintro e W2 ⟨v2, rfl, hO2, hb2⟩
      obtain ⟨L2, hL2⟩ : ∃ L, L1 ++ enc s = L := ⟨_, rfl⟩
      rw [hL2] at hO2
      have hn2 : L2.length ≤ 20 := by rw [← hL2]; simp; omega
      have HL2 := Lib.hid hL2
      clear hL2
      obtain ⟨A2, c2, rfl, m1, m2, m3, m4⟩ := own_form hO2
      have hb12 := fw_trans hb1 hb2
      have q2 : W2.cell? ⟨w.heap.size, 2, none⟩ = some (.int .i64 (a : Int)) := ha ▸ cellOf (blk_below hF hb12) rfl
      go_wp2_with fail
      refine (auint_any A2 c2 L2 a W2 (by omega) (by omega) m4 m1 m2).mono ?_
      rintro e W3 ⟨v3, rfl, hO3, hb3⟩
      obtain ⟨L3, hL3⟩ : ∃ L, L2 ++ enc a = L := ⟨_, rfl⟩
      rw [hL3] at hO3
      have hn3 : L3.length ≤ 30 := by rw [← hL3]; simp; omega
      have HL3 := Lib.hid hL3
      clear hL3
      obtain ⟨A3, c3, rfl, n1, n2, n3, n4⟩ := own_form hO3
      have hb13 := fw_trans hb12 hb3
      have q3 : W3.cell? ⟨w.heap.size, 0, none⟩ = some (.bool false) := hd ▸ cellOf (blk_below hF hb13) rfl
      have hB4 := fw_trans hB hb13
      clear q1 q2 q0 hO1 hO2 k4 m4 n4
      go_wp2_with fail
      go_ret2
      exact FEncPost.ok hB4 HO.out (by rw [He.out, hd, ← HL3.out, ← HL2.out, ← HL1.out]; simp) hO3
end Go.Proofs.Ytpeahilkmlffkaa
