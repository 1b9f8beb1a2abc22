import Derived.Test.YtpeahilkmlffkaaQPoll
import Derived.Test.YtpeahilkmlffkaaQDupL
set_option linter.unusedSimpArgs false
set_option linter.unusedVariables false
namespace Go.Proofs.Ytpeahilkmlffkaa
open Go Go.RowKit Hd Go.Mem

theorem unsGo_at (l : LE) : ∀ (k i j : Nat) (hj : j < (unsGo l k i).length), (unsGo l k i)[j] = ⟨true, sPlus l.b ((i + j : Nat) : Int), l.x, l.q.getD (i + j) []⟩
  | 0, _, j, hj => by simp [unsGo] at hj
  | k + 1, i, 0, _ => by simp [unsGo]
  | k + 1, i, j + 1, hj => by
    have h1 : j < (unsGo l k (i + 1)).length := by simpa [unsGo] using hj
    have := unsGo_at l k (i + 1) j h1
    simp only [unsGo, List.getElem_cons_succ]
    rw [this, show i + 1 + j = i + (j + 1) from by omega]
structure PollLaw (l x : LE) (fs : List Fr) (now : Int) : Prop where
  each : ∀ i (hi : i < fs.length), fs[i].a = l.x ∧ (fs[i].d = true ∨ fs.length = 1)
  next : ∀ i (hi : i + 1 < fs.length), fs[i + 1].s = (fs[i].s + 1) % 16 ∧ 0 ≤ fs[i].s ∧ fs[i].s < 16
  len : fs.length ≤ 7
  owed : x.o = false
  base : x.b = l.b
  queue : x.q = l.q
  sent : x.s = (min l.q.length 7 : Nat)
  chk : chk x = 0
  again : pollE x now = (x, [], 0)
theorem poll_err {l x : LE} {now : Int} {fs : List Fr} {k : Nat} (h : pollE l now = (x, fs, k)) (hk : k ≠ 0) : x = leZ ∧ fs = [] := by
  unfold pollE at h
  split at h
  · simp only [Prod.mk.injEq] at h; exact ⟨h.1.symm, h.2.1.symm⟩
  · split at h
    · simp only [Prod.mk.injEq] at h; exact ⟨h.1.symm, h.2.1.symm⟩
    · split at h
      · simp only [Prod.mk.injEq] at h; exact absurd h.2.2.symm hk
      · split at h <;> (simp only [Prod.mk.injEq] at h; exact absurd h.2.2.symm hk)
theorem poll_law {l x : LE} {fs : List Fr} {now : Int} (h : pollE l now = (x, fs, 0)) : PollLaw l x fs now := by
  by_cases hk : chk l = 0
  · by_cases hT : inTimeB now = false
    · rw [poll_arg hk hT] at h
      simp at h
    · have hT1 : inTimeB now = true := by simpa using hT
      have ht : 0 ≤ now ∧ now ≤ 1099511627776 := by unfold inTimeB at hT1; simpa using hT1
      have hpe : ∀ (z : LE), chk z = 0 → pollE z now = if 0 < min z.q.length 7 - sentE z now then ({ z with s := (min z.q.length 7 : Nat), d := now + 3, o := false }, framesE z now, 0)
          else if z.o then ({ z with s := sentE z now, o := false }, [⟨false, 0, z.x, []⟩], 0) else ({ z with s := sentE z now, o := false }, [], 0) := fun z hz => by
        unfold pollE; rw [if_neg (by simp [hz]), if_neg hT]
      obtain ⟨hB, hS, hD, h64⟩ := chk_zero hk
      have hb : 0 ≤ l.b ∧ l.b < 16 := okSeq_range (by unfold okB at hB; simp at hB; exact hB.1)
      obtain ⟨⟨⟨hs0, hs1⟩, hs2⟩, hq⟩ : ((0 ≤ l.s ∧ l.s ≤ 7) ∧ l.s ≤ (l.q.length : Int)) ∧ l.q.all shortB = true := by
        unfold okS at hS
        simpa only [Bool.and_eq_true, decide_eq_true_eq] using hS
      rw [hpe l hk] at h
      by_cases hn : 0 < min l.q.length 7 - sentE l now
      · rw [if_pos hn] at h
        simp only [Prod.mk.injEq] at h
        obtain ⟨rfl, rfl, _⟩ := h
        have hc : chk ({ l with s := ((min l.q.length 7 : Nat) : Int), d := now + 3, o := false } : LE) = 0 := by
          rw [chk_iff]
          refine ⟨hB, ?_, ?_, h64⟩
          · unfold okS
            simp only [Bool.and_eq_true, decide_eq_true_eq]
            exact ⟨⟨⟨by omega, by omega⟩, by omega⟩, hq⟩
          · unfold okD
            simp only
            rw [if_neg (by omega)]
            simp
            omega
        have hlen : (framesE l now).length = min l.q.length 7 - sentE l now := unsGo_len _ _ _
        refine ⟨fun i hi => ?_, fun i hi => ?_, by omega, rfl, rfl, rfl, rfl, hc, ?_⟩
        · unfold framesE at hi ⊢
          rw [unsGo_at]
          exact ⟨rfl, .inl rfl⟩
        · unfold framesE at hi ⊢
          rw [unsGo_at, unsGo_at l _ _ i (by omega)]
          simp only
          have hlen2 := unsGo_len l (min l.q.length 7 - sentE l now) (sentE l now)
          have e1 : sPlus l.b ((sentE l now + (i + 1) : Nat) : Int) = (l.b + ((sentE l now + (i + 1) : Nat) : Int)) % 16 := sPlus_mod (by omega)
          have e2 : sPlus l.b ((sentE l now + i : Nat) : Int) = (l.b + ((sentE l now + i : Nat) : Int)) % 16 := sPlus_mod (by omega)
          rw [e1, e2]
          omega
        · rw [hpe _ hc]
          have hse : sentE ({ l with s := ((min l.q.length 7 : Nat) : Int), d := now + 3, o := false } : LE) now = min l.q.length 7 := by
            unfold sentE
            simp only
            rw [if_neg (by omega)]
            exact Int.toNat_natCast _
          rw [hse, if_neg (by simp only; omega)]
          rfl
      · rw [if_neg hn] at h
        have hnx : ¬ (0 ≤ l.d ∧ l.d ≤ now) := by
          intro he
          have hse : sentE l now = 0 := by unfold sentE; rw [if_pos he]
          rw [hse] at hn
          unfold okD at hD
          rw [if_pos (by omega)] at hD
          simp at hD
          omega
        have hse : sentE l now = l.s.toNat := by unfold sentE; rw [if_neg hnx]
        have hsM : l.s.toNat = min l.q.length 7 := by omega
        have hx : x = { l with o := false } := by
          have e : ((sentE l now : Nat) : Int) = l.s := by rw [hse]; omega
          rw [e] at h
          split at h <;> (simp only [Prod.mk.injEq] at h; exact h.1.symm)
        subst hx
        have hc : chk ({ l with o := false } : LE) = 0 := by
          rw [chk_iff]
          exact ⟨hB, hS, hD, h64⟩
        have hag : pollE ({ l with o := false } : LE) now = ({ l with o := false }, [], 0) := by
          rw [hpe _ hc]
          have hse2 : sentE ({ l with o := false } : LE) now = l.s.toNat := by unfold sentE; rw [if_neg hnx]
          rw [hse2, if_neg (by simp only; omega), if_neg (by simp)]
          have e : ((l.s.toNat : Nat) : Int) = l.s := by omega
          rw [e]
        have hs3 : l.s = ((min l.q.length 7 : Nat) : Int) := by omega
        split at h
        · simp only [Prod.mk.injEq] at h
          obtain ⟨_, rfl, _⟩ := h
          refine ⟨fun i hi => ?_, fun i hi => by simp at hi, by simp, rfl, rfl, rfl, hs3, hc, hag⟩
          have hi0 : i = 0 := by simpa using hi
          subst hi0
          exact ⟨rfl, .inr rfl⟩
        · simp only [Prod.mk.injEq] at h
          obtain ⟨_, rfl, _⟩ := h
          exact ⟨fun i hi => by simp at hi, fun i hi => by simp at hi, by simp, rfl, rfl, rfl, hs3, hc, hag⟩
  · rw [poll_chk hk] at h
    simp only [Prod.mk.injEq] at h
    exact absurd h.2.2 hk
end Go.Proofs.Ytpeahilkmlffkaa
