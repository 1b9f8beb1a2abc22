import Derived.Test.YtpeahilkmlffkaaQDec
import Derived.Test.YtpeahilkmlffkaaQSane
set_option linter.unusedSimpArgs false
set_option linter.unusedVariables false
namespace Go.Proofs.Ytpeahilkmlffkaa
open Go Go.RowKit Hd Go.Mem

theorem hdr_errs {b : List UInt8} {e : Nat} : ∀ {k : Nat}, hdr b k = .error e → e ≠ 0
  | 0, h => by cases h
  | k + 1, h => by
    rw [hdr] at h
    cases h1 : hdr b k with
    | error e' =>
      rw [h1] at h
      simp only [Except.error.injEq] at h
      subst h
      exact hdr_errs h1
    | ok q =>
      obtain ⟨hs, at_⟩ := q
      rw [h1] at h
      simp only at h
      cases h2 : uintE b (at_ : Int) with
      | error e' =>
        rw [h2] at h
        simp only [Except.error.injEq] at h
        subst h
        have := uintE_errs h2
        omega
      | ok q =>
        rw [h2] at h
        cases h
theorem fbody_errs {b : List UInt8} {h0 h1 h2 n e : Nat} {p : List UInt8} (h : fbody b h0 h1 h2 p n = .error e) : e ≠ 0 := by
  unfold fbody at h
  split at h
  · cases h; decide
  · split at h
    · cases h
    · cases h; decide
theorem fdec_errs {b : List UInt8} {e : Nat} (h : fdec b = .error e) : e ≠ 0 := by
  unfold fdec at h
  cases h1 : hdr b 3 with
  | error e' =>
    rw [h1] at h
    simp only [Except.error.injEq] at h
    subst h
    exact hdr_errs h1
  | ok q =>
    obtain ⟨hs, n2⟩ := q
    rw [h1] at h
    simp only at h
    split at h
    · cases h2 : seqE b (n2 : Int) 256 with
      | error e' =>
        rw [h2] at h
        simp only [Except.error.injEq] at h
        subst h
        exact seqE_errs h2
      | ok q =>
        obtain ⟨p, n3⟩ := q
        rw [h2] at h
        exact fbody_errs h
    · exact fbody_errs h
set_option maxRecDepth 100000 in
set_option maxHeartbeats 2000000 in
theorem uniq_walk (A : Option Addr) (c : Nat) (b : List UInt8) (w : World) (hb : InB w A c b) :
    Calls Try.prog 9 #[.slice A b.length c] w fun e w' => e = .returned (.bool true) ∧ Below w.heap.size w w' := by
  have Hb := Lib.hid hb
  clear hb
  go_enter Try.func9, Try.ntmps9
  go_wp2_with fail
  refine (sane_any w).mono ?_
  rintro e W1 ⟨rfl, hb1⟩
  by_cases h400 : 400 < b.length
  · have h4 : ((400 : Int) < (b.length : Int)) = True := eq_true (by omega)
    go_wp2_with fail
    go_ret
    exact ⟨rfl, hb1⟩
  · have h4 : ((400 : Int) < (b.length : Int)) = False := eq_false (by omega)
    go_wp2_with fail
    refine (fdec_any A c b W1 (by omega) (RdC.below Hb.out.rd hb1) Hb.out.nil Hb.out.le).mono ?_
    intro e W2 hh
    unfold FDecPost at hh
    cases hd : fdec b with
    | error k =>
      rw [hd] at hh
      obtain ⟨hb2, rfl⟩ := hh
      have hk : ((k : Int) != 0) = true := by have := fdec_errs hd; simp; omega
      have hB := fw_trans hb1 hb2
      clear hd hb1 hb2
      go_wp2_with (first | (refine wpList_store_new rfl 24 (.tmp 3) (.tmp 15) rfl (frCells none 0 frZ) rfl rfl 24 _ fr_size rfl (fr_one' _ _ _) ?_; intro W3 hb3 hv; have z0 : W3.cell? ⟨W2.heap.size, 0, none⟩ = some (.bool false) := cellOf hv rfl; have z1 : W3.cell? ⟨W2.heap.size, 1, none⟩ = some (.int .i64 0) := cellOf hv rfl; have z2 : W3.cell? ⟨W2.heap.size, 2, none⟩ = some (.int .i64 0) := cellOf hv rfl; have z3 : W3.cell? ⟨W2.heap.size, 3, none⟩ = some (.slice none 0 0) := cellOf hv rfl))
      go_ret
      exact ⟨rfl, fw_trans hB hb3⟩
    | ok f =>
      rw [hd] at hh
      obtain ⟨hb2, A2, c2, rfl, hi2⟩ := hh
      obtain ⟨hok, henc⟩ := fdec_inv hd
      have hB := fw_trans hb1 hb2
      have Hi2 := Lib.hid hi2
      have Hok := Lib.hid hok
      have Henc := Lib.hid henc
      clear hd hb1 hb2 hi2 hok henc
      go_wp2_with (first | (refine wpList_store_new rfl 24 (.tmp 3) (.tmp 15) rfl (frCells A2 c2 f) rfl rfl 24 _ fr_size rfl (fr_one' _ _ _) ?_; intro W3 hb3 hv) | (refine wpList_load_row rfl 24 (.tmp 3) rfl W2.heap.size rfl 24 (frCells A2 c2 f) (0, 0) _ hv Try.underlying24 rfl fr_size ?_))
      refine (fenc_any A2 c2 f W3 (RdC.below Hi2.out.rd hb3) Hi2.out.nil).mono ?_
      intro e W4 hh
      unfold FEncPost at hh
      rw [if_pos Hok.out, Henc.out] at hh
      obtain ⟨hb4, A3, c3, rfl, hi3⟩ := hh
      have hB4 := fw_trans (fw_trans hB hb3) hb4
      have k1 := conv_str A3 c3 b W4 hi3.rd
      have k2 := conv_str A c b W4 (RdC.below Hb.out.rd hB4)
      clear hi3 hv hb3 hb4 hB
      go_wp2_with fail
      go_ret
      exact ⟨rfl, hB4⟩
end Go.Proofs.Ytpeahilkmlffkaa
