import Derived.Test.YtaoiklfkkipcaaaHdlcLaws
namespace Hd

/-! pieces -/
/-- the machine's state after b says where the last flag stands, and what came behind it -/
theorem scan_state (b : List UInt8) : match scanSt none 0 b with
    | none => (0x7e : UInt8) ∉ b ∧ scan b = ([], b.length)
    | some (c, a) => (0x7e : UInt8) ∉ c ∧ b.drop a = 0x7e :: c ∧ a < b.length ∧ (scan b).2 = a := by
  have eA : ∀ (a b : List UInt8) st pos, scanSt st pos (a ++ b) = scanSt (scanSt st pos a) (pos + a.length) b := by
    intro a
    induction a with
    | nil => intro b st pos; simp [scanSt]
    | cons x a iha => intro b st pos; simp only [List.cons_append, scanSt, iha, List.length_cons]; rw [show pos + 1 + a.length = pos + (a.length + 1) from by omega]
  have key : ∀ (n : Nat) (b : List UInt8), b.length = n → match scanSt none 0 b with
    | none => (0x7e : UInt8) ∉ b ∧ scan b = ([], b.length)
    | some (c, a) => (0x7e : UInt8) ∉ c ∧ b.drop a = 0x7e :: c ∧ a < b.length ∧ (scan b).2 = a := by
    intro n
    induction n with
    | zero => intro b hb; have : b = [] := by simpa using hb
              subst this; simp [scanSt, scan, scanGo]
    | succ n ih =>
      intro b hb
      obtain ⟨d, x, rfl⟩ : ∃ d x, b = d ++ [x] := by
        have hne : b ≠ [] := by intro e; simp [e] at hb
        exact ⟨b.dropLast, b.getLast hne, (List.dropLast_concat_getLast hne).symm⟩
      have hd : d.length = n := by simpa using hb
      have := ih d hd
      rw [eA]
      simp only [scanSt, Nat.zero_add]
      unfold scan at this ⊢
      rw [scanGo_append]
      simp only [Nat.zero_add]
      cases hst : scanSt none 0 d with
      | none =>
        rw [hst] at this
        by_cases hx : x = 0x7e
        · subst hx
          simp [scanGo]
        · rw [if_neg hx]
          simp only [Option.map_none]
          rw [scanGo_cons_other _ _ _ hx]
          simp only [Option.map_none, scanGo, this.2]
          simp [this.1]
          exact fun e => hx e.symm
      | some s =>
        obtain ⟨c, a⟩ := s
        rw [hst] at this
        by_cases hx : x = 0x7e
        · subst hx
          rw [scanGo_cons_flag_some]
          simp [scanGo]
        · rw [if_neg hx]
          simp only [Option.map_some]
          rw [scanGo_cons_other _ _ _ hx]
          simp only [Option.map_some, scanGo]
          obtain ⟨h1, h2, h3, h4⟩ := this
          refine ⟨?_, ?_, by simp; omega, trivial⟩
          · simp [h1]; exact fun e => hx e.symm
          · rw [List.drop_append_of_le_length (by omega), h2]; simp
  exact key b.length b rfl
theorem pieces_law (b : List UInt8) (cut : Nat) (hc : cut ≤ b.length) :
    (scan (b.take cut)).2 ≤ cut ∧
    ((scan (b.take cut)).1 ++ (scan (b.drop (scan (b.take cut)).2)).1, (scan (b.take cut)).2 + (scan (b.drop (scan (b.take cut)).2)).2) = scan b := by
  have hst := scan_state (b.take cut)
  have hl : (b.take cut).length = cut := by simp; omega
  have hsplit : scan b = ((scan (b.take cut)).1 ++ (scanGo (scanSt none 0 (b.take cut)) cut (b.drop cut)).1, (scanGo (scanSt none 0 (b.take cut)) cut (b.drop cut)).2) := by
    have := scanGo_append (b.take cut) none 0 (b.drop cut)
    rw [List.take_append_drop, hl, Nat.zero_add] at this
    exact this
  cases h : scanSt none 0 (b.take cut) with
  | none =>
    rw [h] at hst hsplit
    obtain ⟨h1, h2⟩ := hst
    rw [hl] at h2
    rw [h2] at hsplit ⊢
    refine ⟨Nat.le_refl _, ?_⟩
    rw [hsplit]
    have := scanGo_shift cut (b.drop cut) none 0
    simp only [Option.map_none, Nat.zero_add] at this
    rw [this]
    simp only [scan, List.nil_append]
    rw [Nat.add_comm]
  | some s =>
    obtain ⟨c, a⟩ := s
    rw [h] at hst hsplit
    obtain ⟨h1, h2, h3, h4⟩ := hst
    rw [hl] at h3
    refine ⟨by omega, ?_⟩
    rw [h4, hsplit]
    have hda : b.drop a = 0x7e :: (c ++ b.drop cut) := by
      have : b.drop a = (b.take cut).drop a ++ b.drop cut := by
        conv => lhs; rw [← List.take_append_drop cut b]
        rw [List.drop_append_of_le_length (by omega)]
      rw [this, h2]; rfl
    have hlen : a + 1 + c.length = cut := by
      have := congrArg List.length h2
      simp only [List.length_drop, hl, List.length_cons] at this
      omega
    rw [hda]
    unfold scan
    rw [scanGo_cons_flag_none, scanGo_append, (scanGo_noflag c h1 _ _).1, (scanGo_noflag c h1 _ _).2]
    simp only [Option.map_some, List.nil_append]
    have := scanGo_shift a (b.drop cut) (some (c, 0)) (0 + 1 + c.length)
    simp only [Option.map_some, Nat.zero_add] at this
    rw [show 1 + c.length + a = cut from by omega] at this
    rw [this]
    rw [Nat.add_comm a]

/-! noise between two frames -/
theorem scan_last (st : Option (List UInt8 × Nat)) (p : List UInt8) (hp : p.length ≤ 4096) (pos : Nat) : ∃ l, (scanGo st pos (frame p)).1 = l ++ [p] := by
  unfold frame
  rw [sealed_eq]
  have ho := outs_body p hp
  cases st with
  | none => rw [scanGo_cons_flag_none, scanGo_content _ (body_noflag _ _)]; exact ⟨[], by simp [ho, scanGo]⟩
  | some s =>
    obtain ⟨c, a⟩ := s
    rw [scanGo_cons_flag_some, scanGo_content _ (body_noflag _ _)]
    exact ⟨outs c, by simp [ho, scanGo]⟩
theorem resync_law (a noise c : List UInt8) (ha : a.length ≤ 4096) (hc : c.length ≤ 4096) :
    2 ≤ (scan (frame a ++ noise ++ frame c)).1.length ∧ (scan (frame a ++ noise ++ frame c)).1.head? = some a ∧ (scan (frame a ++ noise ++ frame c)).1.getLast? = some c := by
  have h1 : scan (frame a ++ noise ++ frame c) = (a :: (scanGo (some ([], (frame a).length - 1)) (frame a).length (noise ++ frame c)).1, (scanGo (some ([], (frame a).length - 1)) (frame a).length (noise ++ frame c)).2) := by
    unfold scan frame
    rw [sealed_eq a]
    simp only [List.cons_append, List.append_assoc, List.nil_append]
    rw [scanGo_cons_flag_none, scanGo_content _ (body_noflag _ _)]
    simp only [List.nil_append, outs_body a ha, List.length_cons, List.length_append, List.length_nil]
    rw [show 0 + 1 + (body a (fcs a)).length = (body a (fcs a)).length + (0 + 1) from by omega]
    simp
  rw [h1]
  rw [scanGo_append]
  obtain ⟨l, hl⟩ := scan_last (scanSt (some ([], (frame a).length - 1)) (frame a).length noise) c hc ((frame a).length + noise.length)
  simp only [hl]
  refine ⟨by simp; omega, rfl, ?_⟩
  generalize (scanGo (some ([], (frame a).length - 1)) (frame a).length noise).fst = k
  have : a :: (k ++ (l ++ [c])) = (a :: k ++ l) ++ [c] := by simp
  rw [this, List.getLast?_concat]
end Hd
