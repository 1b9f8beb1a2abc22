import Derived.Test.YtaoiklfkkipcaaaJLaw2
namespace Hd

/-- records, each in its frame -/
def framesR (rs : List Rc) : List UInt8 := rs.flatMap fun r => frame (encRec r)
def goodR (rs : List Rc) : Prop := ∀ r ∈ rs, r.ok ∧ r.payer.length ≤ 15
theorem framesR_append (a b : List Rc) : framesR (a ++ b) = framesR a ++ framesR b := by simp [framesR]
theorem framesR_one (r : Rc) : framesR [r] = frame (encRec r) := by simp [framesR]
theorem recs_frames : ∀ (rs : List Rc), goodR rs → recsR (framesR rs) = rs ∧ recsN (framesR rs) = (framesR rs).length
  | [], _ => ⟨rfl, rfl⟩
  | r :: rs, h => by
    have h1 := h r (List.mem_cons_self ..)
    have h2 := recs_frames rs fun x hx => h x (List.mem_cons_of_mem _ hx)
    have h3 := recsR_push (l := []) recsN_nil h1.1 h1.2
    rw [List.nil_append, recsR_nil, List.nil_append] at h3
    have h4 := recs_join h3.2 h2.2
    have e : framesR (r :: rs) = frame (encRec r) ++ framesR rs := by simp [framesR]
    rw [e]
    refine ⟨?_, h4.2⟩
    rw [h4.1, h3.1, h2.1]
    rfl
theorem framesR_len : ∀ (rs : List Rc), goodR rs → (framesR rs).length ≤ 3000 * rs.length
  | [], _ => by simp [framesR]
  | r :: rs, h => by
    have h1 := h r (List.mem_cons_self ..)
    have h2 := framesR_len rs fun x hx => h x (List.mem_cons_of_mem _ hx)
    have h3 := (sealed_length (encRec r) (fcs (encRec r))).2
    have h4 := encRec_len r h1.1 (by omega)
    have e : framesR (r :: rs) = frame (encRec r) ++ framesR rs := by simp [framesR]
    rw [e, List.length_append, List.length_cons]
    unfold frame
    omega
theorem goodR.take {rs : List Rc} (h : goodR rs) (k : Nat) : goodR (rs.take k) := fun r hr => h r (List.mem_of_mem_take hr)
theorem goodR.drop {rs : List Rc} (h : goodR rs) (k : Nat) : goodR (rs.drop k) := fun r hr => h r (List.mem_of_mem_drop hr)
end Hd
namespace Go.Proofs.Ytaoiklfkkipcaaa
open Hd
/-- the disk behind k records, of which the first safe ones were synced -/
def wdisk (rs : List Rc) (safe : Int) (k : Nat) : Dk := if 1 ≤ safe ∧ safe ≤ (k : Int) then ⟨framesR (rs.take safe.toNat), framesR ((rs.take k).drop safe.toNat)⟩ else ⟨[], framesR (rs.take k)⟩
theorem frames_read {a b : List Rc} (ha : goodR a) (hb : goodR b) (hn : a.length + b.length ≤ 1024) : readE ⟨framesR a, framesR b⟩ = .ok (a, b) := by
  have h1 := recs_frames a ha
  have h2 := recs_frames b hb
  unfold readE
  simp only
  rw [h1.1, h1.2, h2.1, h2.2, if_neg (by simp), if_neg (by omega)]
theorem frames_app {a b : List Rc} {r : Rc} (ha : goodR a) (hb : goodR b) (hr : r.ok ∧ r.payer.length ≤ 15) (hn : a.length + b.length < 1024) : appE ⟨framesR a, framesR b⟩ r = (⟨framesR a, framesR (b ++ [r])⟩, 0) := by
  unfold appE
  rw [frames_read ha hb (by omega)]
  simp only
  rw [if_neg (by omega), if_neg (by omega), framesR_append, framesR_one]
theorem frames_sync {a b : List Rc} (ha : goodR a) (hb : goodR b) (hn : a.length + b.length ≤ 1024) : syncE ⟨framesR a, framesR b⟩ = (⟨framesR (a ++ b), framesR []⟩, 0) := by
  unfold syncE
  rw [frames_read ha hb hn, framesR_append]
  rfl
/-- one round of writing -/
theorem wdisk_round {rs : List Rc} {safe : Int} {k : Nat} (h : goodR rs) (hk : k < rs.length) (hn : rs.length ≤ 10) :
    ∃ x, appE (wdisk rs safe k) rs[k] = (x, 0) ∧ ((((k : Int) + 1 = safe) ∧ syncE x = (wdisk rs safe (k + 1), 0)) ∨ ((k : Int) + 1 ≠ safe ∧ x = wdisk rs safe (k + 1))) ∧ x.dur.length ≤ 100000 ∧ x.vol.length ≤ 100000 := by
  have hr := h rs[k] (List.getElem_mem hk)
  have htk : rs.take (k + 1) = rs.take k ++ [rs[k]] := List.take_succ_eq_append_getElem hk
  have hb : ∀ a b : List Rc, goodR a → goodR b → a.length ≤ 10 → b.length ≤ 11 → (framesR a).length ≤ 100000 ∧ (framesR b).length ≤ 100000 := fun a b ha hb h1 h2 => by
    have := framesR_len a ha
    have := framesR_len b hb
    omega
  by_cases hs : 1 ≤ safe ∧ safe ≤ (k : Int)
  · have e0 : wdisk rs safe k = ⟨framesR (rs.take safe.toNat), framesR ((rs.take k).drop safe.toNat)⟩ := by unfold wdisk; rw [if_pos hs]
    have e1 : wdisk rs safe (k + 1) = ⟨framesR (rs.take safe.toNat), framesR ((rs.take k).drop safe.toNat ++ [rs[k]])⟩ := by
      unfold wdisk
      rw [if_pos (by omega), htk, List.drop_append_of_le_length (by simp; omega)]
    have hg := h.take safe.toNat
    have hg2 := (h.take k).drop safe.toNat
    have hg3 : goodR ((rs.take k).drop safe.toNat ++ [rs[k]]) := fun x hx => by
      rcases List.mem_append.1 hx with hx | hx
      · exact hg2 x hx
      · rw [List.mem_singleton.1 hx]; exact hr
    have hbb := hb _ _ hg hg3 (by simp; omega) (by simp; omega)
    refine ⟨_, by rw [e0]; exact frames_app hg hg2 hr (by simp; omega), .inr ⟨by omega, e1.symm⟩, hbb.1, hbb.2⟩
  · have e0 : wdisk rs safe k = ⟨framesR [], framesR (rs.take k)⟩ := by unfold wdisk; rw [if_neg hs]; rfl
    have hg0 : goodR [] := fun x hx => by cases hx
    have hg1 := h.take (k + 1)
    have ha := frames_app hg0 (h.take k) hr (by simp; omega)
    rw [← htk] at ha
    have hbb := hb _ _ hg0 hg1 (by simp) (by simp; omega)
    refine ⟨_, by rw [e0]; exact ha, ?_, hbb.1, hbb.2⟩
    by_cases hk1 : (k : Int) + 1 = safe
    · refine .inl ⟨hk1, ?_⟩
      rw [frames_sync hg0 hg1 (by simp; omega)]
      have e2 : safe.toNat = k + 1 := by omega
      unfold wdisk
      rw [if_pos (by omega), e2]
      simp [framesR]
    · refine .inr ⟨hk1, ?_⟩
      unfold wdisk
      rw [if_neg (by omega)]
      rfl
end Go.Proofs.Ytaoiklfkkipcaaa
