import Derived.Test.YtpeahilkmlffkaaQDec
import Derived.Test.YtpeahilkmlffkaaQSane
import Derived.Test.YtpeahilkmlffkaaQSameF
set_option linter.unusedSimpArgs false
set_option linter.unusedVariables false
namespace Go.Proofs.Ytpeahilkmlffkaa
open Go Go.RowKit Hd Go.Mem

theorem fdec_three {b : List UInt8} {k s a n0 n1 n2 : Nat} (u0 : uintE b ((0 : Nat) : Int) = .ok (k, n0)) (u1 : uintE b (n0 : Int) = .ok (s, n1)) (u2 : uintE b (n1 : Int) = .ok (a, n2)) :
    fdec b = if k = 1 then (match seqE b (n2 : Int) 256 with | .error e => .error e | .ok (p, n3) => fbody b k s a p n3) else fbody b k s a [] n2 := by
  have h : hdr b 3 = .ok ([k, s, a], n2) := by simp only [hdr, u0, u1, u2]; rfl
  unfold fdec
  rw [h]
  rfl
/-- what was encoded is decoded -/
theorem fdec_enc {f : Fr} (h : okF f = true) : fdec (fencE f) = .ok f := by
  have hk := h
  unfold okF at hk
  simp only [List.all_cons, List.all_nil, Bool.and_true, Bool.and_eq_true] at hk
  obtain ⟨⟨⟨hs, ha⟩, hp⟩, hd⟩ := hk
  obtain ⟨hs0, hs1⟩ := okSeq_range' hs
  obtain ⟨ha0, ha1⟩ := okSeq_range' ha
  obtain ⟨d, fs, fa, p⟩ := f
  simp only at hs0 hs1 ha0 ha1 hp hd
  obtain ⟨s, rfl⟩ : ∃ s : Nat, fs = (s : Int) := ⟨fs.toNat, by omega⟩
  obtain ⟨a, rfl⟩ : ∃ a : Nat, fa = (a : Int) := ⟨fa.toNat, by omega⟩
  have hp2 : p.length ≤ 256 := by unfold shortB at hp; simp at hp; omega
  have key : ∀ (k : Nat) (t b : List UInt8), k ≤ 1 → b = enc k ++ enc s ++ enc a ++ t → ∃ n2, n2 = (enc k ++ enc s ++ enc a).length ∧
      fdec b = if k = 1 then (match seqE b (n2 : Int) 256 with | .error e => .error e | .ok (p, n3) => fbody b k s a p n3) else fbody b k s a [] n2 := by
    intro k t b hk1 hb
    have u0 := uintE_enc [] (enc s ++ (enc a ++ t)) k (by omega)
    have u1 := uintE_enc (enc k) (enc a ++ t) s (by omega)
    have u2 := uintE_enc (enc k ++ enc s) t a (by omega)
    have e0 : [] ++ (enc k ++ (enc s ++ (enc a ++ t))) = b := by rw [hb]; simp
    have e1 : enc k ++ (enc s ++ (enc a ++ t)) = b := by rw [hb]; simp
    have e2 : enc k ++ enc s ++ (enc a ++ t) = b := by rw [hb]; simp
    rw [e0] at u0
    rw [e1] at u1
    rw [e2] at u2
    simp only [List.length_nil, Nat.zero_add] at u0
    rw [← List.length_append] at u1
    rw [← List.length_append] at u2
    exact ⟨_, rfl, fdec_three u0 u1 u2⟩
  cases d with
  | true =>
    obtain ⟨n2, hn, hf⟩ := key 1 (encB p) (fencE ⟨true, s, a, p⟩) (by omega) (by unfold fencE; simp)
    rw [hf, if_pos rfl]
    have hq := seqE_enc (enc 1 ++ enc s ++ enc a) p [] 256 (by omega) hp2
    have eb : enc 1 ++ enc s ++ enc a ++ (encB p ++ []) = fencE ⟨true, s, a, p⟩ := by unfold fencE; simp
    rw [eb, ← hn] at hq
    rw [hq]
    simp only
    rw [fbody_2 (d := true) (by
      have hl : (fencE ⟨true, s, a, p⟩).length = n2 + (encB p).length := by rw [← eb, hn]; simp; omega
      omega) rfl, if_pos h]
  | false =>
    simp only [Bool.false_or, Bool.and_eq_true, beq_iff_eq] at hd
    obtain ⟨hd1, hd2⟩ := hd
    have hpe : p = [] := List.eq_nil_of_length_eq_zero (by omega)
    subst hpe
    obtain ⟨n2, hn, hf⟩ := key 0 [] (fencE ⟨false, s, a, []⟩) (by omega) (by unfold fencE; simp)
    rw [hf, if_neg (by decide), fbody_2 (d := false) (by
      have hl : (fencE ⟨false, s, a, []⟩).length = n2 := by rw [hn]; unfold fencE; simp
      omega) rfl, if_pos h]
theorem fenc_len {f : Fr} (h : okF f = true) : (fencE f).length ≤ 400 := by
  have hk := h
  unfold okF at hk
  simp only [List.all_cons, List.all_nil, Bool.and_true, Bool.and_eq_true] at hk
  obtain ⟨⟨⟨hs, ha⟩, hp⟩, _⟩ := hk
  obtain ⟨hs0, hs1⟩ := okSeq_range' hs
  obtain ⟨ha0, ha1⟩ := okSeq_range' ha
  have hp2 : f.p.length ≤ 256 := by unfold shortB at hp; simp at hp; omega
  have l0 := enc_len64 (v := if f.d then 1 else 0) (by split <;> decide)
  have l1 := enc_len64 (v := f.s.toNat) (by omega)
  have l2 := enc_len64 (v := f.a.toNat) (by omega)
  have l3 := enc_len64 (v := f.p.length) (by omega)
  unfold fencE
  simp only [List.length_append]
  split
  · unfold encB; simp only [List.length_append]; rename_i hd; rw [hd] at l0; simp at l0 ⊢; omega
  · rename_i hd; simp at hd; rw [hd] at l0; simp at l0 ⊢; omega
/-- two frames side by side -/
theorem inF_two {W : World} {A A' : Option Addr} {c c' : Nat} {f g : Fr} (h : InB W A c f.p) (h' : InB W A' c' g.p) :
    InF (W.alloc (.cells #[.bool f.d, .int .i64 f.s, .int .i64 f.a, .slice A f.p.length c, .bool g.d, .int .i64 g.s, .int .i64 g.a, .slice A' g.p.length c'] 24)) (some ⟨W.heap.size, 0, none⟩) 2 [f, g] := by
  refine ⟨⟨[⟨f, A, c⟩, ⟨g, A', c'⟩], rfl, RdC.new W _ _ (0, 0), fun x hx => ?_⟩, fun e => (by cases e), Nat.le_refl _, by decide⟩
  simp only [List.mem_cons, List.not_mem_nil, or_false] at hx
  have mk : ∀ {A : Option Addr} {c : Nat} {f : Fr}, InB W A c f.p → ∀ o, FrOk (fun _ => True) (W.alloc o) ⟨f, A, c⟩ := fun h o => ⟨h.nil, h.le, h.cap, (RdC.below h.rd (fw_new W o)).p.imp fun _ _ _ => trivial⟩
  rcases hx with rfl | rfl
  · exact mk h _
  · exact mk h' _
end Go.Proofs.Ytpeahilkmlffkaa
