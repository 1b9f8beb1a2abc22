import Derived.Test.YtpeahilkmlffkaaQRecv
set_option linter.unusedSimpArgs false
set_option linter.unusedVariables false
namespace Go.Proofs.Ytpeahilkmlffkaa
open Go Go.RowKit Hd Go.Mem

theorem sPlus_mod {x y : Int} (h : 0 ≤ x + y + 16) : sPlus x y = (x + y) % 16 := by
  unfold sPlus
  rw [Int.tmod_eq_emod_of_nonneg h]
  omega
/-- what an accepted frame says -/
structure RecvOk (l : LE) (f : Fr) (now : Int) (n : Nat) : Prop where
  chk : chk l = 0
  time : inTimeB now = true
  ok : okF f = true
  num : (sPlus f.a (-l.b)) = (n : Int)
  le : (n : Int) ≤ l.s
theorem recv_zero {l x : LE} {f : Fr} {now : Int} {ps : List (List UInt8)} (h : recvE l f now = (x, ps, 0)) : ∃ n, RecvOk l f now n := by
  unfold recvE at h
  split at h
  · rename_i hk
    simp only [Prod.mk.injEq] at h
    exact absurd h.2.2 hk
  · rename_i hk
    split at h
    · simp at h
    · rename_i hc
      split at h
      · simp at h
      · rename_i hs
        have hk0 : chk l = 0 := by simpa using hk
        have ht : inTimeB now = true := by cases e : inTimeB now <;> simp [e] at hc ⊢
        have ho : okF f = true := by cases e : okF f <;> simp [e] at hc ⊢
        obtain ⟨hb, _, _, _⟩ := chk_zero hk0
        have hb' : 0 ≤ l.b ∧ l.b < 16 := okSeq_range (by unfold okB at hb; simp at hb; exact hb.1)
        have ha' : 0 ≤ f.a ∧ f.a < 16 := okSeq_range (by unfold okF at ho; simp only [List.all_cons, List.all_nil, Bool.and_true, Bool.and_eq_true] at ho; exact ho.1.1.2)
        have h0 := sPlus_range (x := f.a) (y := -l.b) (by omega)
        exact ⟨(sPlus f.a (-l.b)).toNat, hk0, ht, ho, by omega, by omega⟩
/-- what an error says -/
theorem recv_err {l x : LE} {f : Fr} {now : Int} {ps : List (List UInt8)} {k : Nat} (h : recvE l f now = (x, ps, k)) (hk : k ≠ 0) : x = leZ ∧ ps = [] := by
  unfold recvE at h
  split at h
  · simp only [Prod.mk.injEq] at h; exact ⟨h.1.symm, h.2.1.symm⟩
  · split at h
    · simp only [Prod.mk.injEq] at h; exact ⟨h.1.symm, h.2.1.symm⟩
    · split at h
      · simp only [Prod.mk.injEq] at h; exact ⟨h.1.symm, h.2.1.symm⟩
      · split at h
        · simp only [Prod.mk.injEq] at h; exact absurd h.2.2.symm hk
        · split at h <;> (simp only [Prod.mk.injEq] at h; exact absurd h.2.2.symm hk)
theorem chk_iff {l : LE} : chk l = 0 ↔ okB l = true ∧ okS l = true ∧ okD l = true ∧ l.q.length ≤ 64 := by
  refine ⟨chk_zero, fun ⟨h1, h2, h3, h4⟩ => ?_⟩
  unfold chk
  simp [h1, h2, h3]
  omega
theorem okSeq_mk {x : Int} (h : 0 ≤ x ∧ x < 16) : okSeq x = true := by unfold okSeq; simpa using h
/-- an end behind an acknowledgement is in order -/
theorem ack_ok {l : LE} {f : Fr} {now : Int} {n : Nat} (h : RecvOk l f now n) (x : Int) (o : Bool) (hx : 0 ≤ x ∧ x < 16) : chk { ackE l n now with o := o, x := x } = 0 := by
  obtain ⟨hB, hS, hD, h64⟩ := chk_zero h.chk
  have hb : 0 ≤ l.b ∧ l.b < 16 := okSeq_range (by unfold okB at hB; simp at hB; exact hB.1)
  obtain ⟨⟨⟨hs0, hs1⟩, hs2⟩, hq⟩ : ((0 ≤ l.s ∧ l.s ≤ 7) ∧ l.s ≤ (l.q.length : Int)) ∧ l.q.all shortB = true := by
    unfold okS at hS
    simpa only [Bool.and_eq_true, decide_eq_true_eq] using hS
  have ht : 0 ≤ now ∧ now ≤ 1099511627776 := by have := h.time; unfold inTimeB at this; simpa using this
  have hle := h.le
  have hnq : n ≤ l.q.length := by omega
  rw [chk_iff]
  refine ⟨?_, ?_, ?_, ?_⟩
  · unfold okB
    simp only [Bool.and_eq_true]
    exact ⟨okSeq_mk (sPlus_range (by omega)), okSeq_mk hx⟩
  · unfold okS ackE
    simp only [Bool.and_eq_true, decide_eq_true_eq]
    refine ⟨⟨⟨by omega, by omega⟩, by simp; omega⟩, ?_⟩
    rw [List.all_eq_true] at hq ⊢
    exact fun p hp => hq p (List.mem_of_mem_drop hp)
  · unfold okD ackE
    simp only
    by_cases hn : 0 < n
    · rw [if_pos hn]
      by_cases h1 : 0 < l.s - (n : Int)
      · rw [if_neg (by omega), if_pos h1]; simp; omega
      · rw [if_pos (by omega), if_neg h1]; rfl
    · rw [if_neg hn]
      have hn0 : n = 0 := by omega
      subst hn0
      unfold okD at hD
      simpa using hD
  · unfold ackE
    simp
    omega
/-- the second acknowledgement acknowledges nothing more -/
theorem ack_again {l : LE} {f : Fr} {now : Int} {n : Nat} (h : RecvOk l f now n) : sPlus f.a (-(sPlus l.b n)) = 0 ∧ sPlus (sPlus l.b n) 0 = sPlus l.b n := by
  obtain ⟨hB, _, _, _⟩ := chk_zero h.chk
  have hb : 0 ≤ l.b ∧ l.b < 16 := okSeq_range (by unfold okB at hB; simp at hB; exact hB.1)
  have ho := h.ok
  have ha : 0 ≤ f.a ∧ f.a < 16 := okSeq_range (by unfold okF at ho; simp only [List.all_cons, List.all_nil, Bool.and_true, Bool.and_eq_true] at ho; exact ho.1.1.2)
  have hn := h.num
  rw [sPlus_mod (by omega)] at hn
  have e1 : sPlus l.b n = (l.b + n) % 16 := sPlus_mod (by omega)
  have e2 : (l.b + (n : Int)) % 16 = f.a := by omega
  rw [e1, e2]
  refine ⟨?_, ?_⟩
  · rw [sPlus_mod (by omega)]; omega
  · rw [sPlus_mod (by omega)]; omega
theorem ack_zero {x : LE} {now : Int} (hb : sPlus x.b 0 = x.b) : ackE x 0 now = x := by
  unfold ackE
  obtain ⟨q, b, s, e, o, d⟩ := x
  simp only at hb
  simp [hb]
/-- a frame received twice -/
theorem dup_law {l x y : LE} {f : Fr} {now later : Int} {got more : List (List UInt8)} {k : Nat} (h1 : recvE l f now = (x, got, 0)) (h2 : recvE x f later = (y, more, k)) :
    (k ≠ 0 → k = 1 ∧ (later < 0 ∨ 1099511627776 < later)) ∧ (k = 0 → got.length ≤ 1 ∧ (f.d = true ∨ got.length = 0) ∧ more = [] ∧ y = x ∧ chk x = 0) := by
  obtain ⟨n, h⟩ := recv_zero h1
  have hg := recv_go (f := f) (now := now) h.chk (by simp [h.time, h.ok]) (by have := h.num; have := h.le; omega) (show (sPlus f.a (-l.b)).toNat = n by rw [h.num]; simp)
  obtain ⟨hB, _, _, _⟩ := chk_zero h.chk
  have hxr : 0 ≤ l.x ∧ l.x < 16 := okSeq_range (by unfold okB at hB; simp at hB; exact hB.2)
  obtain ⟨a1, a2⟩ := ack_again h
  have hs0 : 0 ≤ (ackE l n now).s := by have := h.le; unfold ackE; simp; omega
  -- whatever the first reception leaves: an end whose second reception changes nothing
  have second : ∀ (e : Int) (o : Bool), 0 ≤ e ∧ e < 16 → (f.d = true → o = true ∧ f.s ≠ e) → x = { ackE l n now with o := o, x := e } →
      (k ≠ 0 → k = 1 ∧ (later < 0 ∨ 1099511627776 < later)) ∧ (k = 0 → more = [] ∧ y = x ∧ chk x = 0) := by
    intro e o he hd hx
    have hc : chk x = 0 := by rw [hx]; exact ack_ok h e o he
    have hxb : x.b = sPlus l.b n := by rw [hx]; rfl
    have hxs : 0 ≤ x.s := by rw [hx]; exact hs0
    have hxx : x.x = e := by rw [hx]
    have hxo : x.o = o := by rw [hx]
    have hz : sPlus f.a (-x.b) = 0 := by rw [hxb]; exact a1
    have hack : ackE x 0 later = x := ack_zero (by rw [hxb]; exact a2)
    by_cases ht : inTimeB later = false
    · rw [recv_arg hc (.inl ht)] at h2
      simp only [Prod.mk.injEq] at h2
      refine ⟨fun _ => ⟨h2.2.2.symm, ?_⟩, fun e => by rw [e] at h2; simp at h2⟩
      unfold inTimeB at ht
      simp at ht
      omega
    · have hg2 := recv_go (f := f) (now := later) hc (by simp [ht, h.ok]) (by rw [hz]; omega) (show (sPlus f.a (-x.b)).toNat = 0 by rw [hz]; rfl)
      have fin : recvE x f later = (x, [], 0) := by
        cases hfd : f.d with
        | false => rw [hg2.out0 hfd, hack]
        | true =>
          obtain ⟨ho, hne⟩ := hd hfd
          rw [hg2.out1 hfd (by rw [hxx]; exact hne), hack]
          have : ({ x with o := true } : LE) = x := by rw [← ho, ← hxo]
          rw [this]
      rw [fin] at h2
      simp only [Prod.mk.injEq] at h2
      exact ⟨fun e => absurd h2.2.2.symm e, fun _ => ⟨h2.2.1.symm, h2.1.symm, hc⟩⟩
  cases hfd : f.d with
  | false =>
    rw [hg.out0 hfd] at h1
    simp only [Prod.mk.injEq] at h1
    obtain ⟨p1, p2⟩ := second l.x l.o hxr (fun e => by rw [hfd] at e; cases e) h1.1.symm
    exact ⟨p1, fun e => ⟨by rw [← h1.2.1]; simp, .inr (by rw [← h1.2.1]; rfl), p2 e⟩⟩
  | true =>
    by_cases hsx : f.s = l.x
    · rw [hg.out3 hfd hsx] at h1
      simp only [Prod.mk.injEq] at h1
      have hp : sPlus l.x 1 = (l.x + 1) % 16 := sPlus_mod (by omega)
      obtain ⟨p1, p2⟩ := second (sPlus l.x 1) true (sPlus_range (by omega)) (fun _ => ⟨rfl, by rw [hp, hsx]; omega⟩) h1.1.symm
      exact ⟨p1, fun e => ⟨by rw [← h1.2.1]; simp, .inl rfl, p2 e⟩⟩
    · rw [hg.out1 hfd hsx] at h1
      simp only [Prod.mk.injEq] at h1
      obtain ⟨p1, p2⟩ := second l.x true hxr (fun _ => ⟨rfl, hsx⟩) h1.1.symm
      exact ⟨p1, fun e => ⟨by rw [← h1.2.1]; simp, .inl rfl, p2 e⟩⟩
end Go.Proofs.Ytpeahilkmlffkaa
