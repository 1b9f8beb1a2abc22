import Derived.Test.YtaoiklfkkipcaaaHdlc
namespace Hd

def idxFlag (l : List UInt8) : Option Nat := l.findIdx? (· == 0x7e)
theorem idxFlag_split (m r : List UInt8) (h : (0x7e : UInt8) ∉ m) : idxFlag (m ++ 0x7e :: r) = some m.length := by
  unfold idxFlag
  rw [List.findIdx?_append]
  have : m.findIdx? (fun x => x == 0x7e) = none := by
    rw [List.findIdx?_eq_none_iff]
    intro x hx
    simp only [beq_eq_false_iff_ne, ne_eq]
    exact fun e => h (e ▸ hx)
  rw [this]
  simp [List.findIdx?_cons]
/-- Decode at a place: the payload and the offset behind the frame, or the error's number -/
def decN (b : List UInt8) (at_ : Nat) : Except Nat (List UInt8 × Nat) :=
  if b.length ≤ at_ then .error 1
  else if b.getD at_ 0 ≠ 0x7e then .error 20
  else match idxFlag (b.drop (at_ + 1)) with
    | none => .error 10
    | some n => match opened ((b.drop (at_ + 1)).take n) with
      | .ok p => .ok (p, at_ + n + 2)
      | .error e => .error e
def decE (b : List UInt8) (at_ : Int) : Except Nat (List UInt8 × Nat) := if at_ < 0 then .error 1 else decN b at_.toNat
theorem decode_at (a m r : List UInt8) (h : (0x7e : UInt8) ∉ m) : decN (a ++ 0x7e :: (m ++ 0x7e :: r)) a.length =
    match opened m with | .ok p => .ok (p, a.length + m.length + 2) | .error e => .error e := by
  unfold decN
  have hd : (a ++ 0x7e :: (m ++ 0x7e :: r)).drop (a.length + 1) = m ++ 0x7e :: r := by
    rw [List.drop_append]; simp
  rw [if_neg (by simp), if_neg (by simp), hd, idxFlag_split m r h]
  simp
theorem idxFlag_some {l : List UInt8} {n : Nat} (h : idxFlag l = some n) : n < l.length := by
  unfold idxFlag at h
  exact (List.findIdx?_eq_some_iff_findIdx_eq.1 h).1
def body (p : List UInt8) (n : UInt16) : List UInt8 := stuff (p ++ tail2 n)
theorem sealed_eq (p : List UInt8) (n : UInt16) : sealed p n = 0x7e :: (body p n ++ [0x7e]) := rfl
theorem body_noflag (p : List UInt8) (n : UInt16) : (0x7e : UInt8) ∉ body p n := stuff_noflag _
theorem body_length (p : List UInt8) (n : UInt16) : 2 ≤ (body p n).length ∧ (body p n).length ≤ 2 * p.length + 4 := by
  have := stuff_length (p ++ tail2 n)
  simp [tail2] at this
  unfold body tail2
  omega
theorem sealed_length (p : List UInt8) (n : UInt16) : 4 ≤ (sealed p n).length ∧ (sealed p n).length ≤ 2 * p.length + 6 := by
  have := body_length p n
  rw [sealed_eq]
  simp
  omega
theorem opened_body (p : List UInt8) (h : p.length ≤ 4096) : opened (body p (fcs p)) = .ok p := by
  unfold body
  rw [opened_sealed, if_neg (by omega), if_pos rfl]
theorem opened_body_bad (p : List UInt8) (n : UInt16) (h : p.length ≤ 4096) (hn : fcs p ≠ n) : opened (body p n) = .error 21 := by
  unfold body
  rw [opened_sealed, if_neg (by omega), if_neg hn]
theorem outs_body (p : List UInt8) (h : p.length ≤ 4096) : outs (body p (fcs p)) = [p] := by unfold outs; rw [opened_body p h]
theorem outs_nil : outs [] = [] := by decide
theorem decode_frame (p : List UInt8) (h : p.length ≤ 4096) : decN (frame p) 0 = .ok (p, (frame p).length) := by
  have := decode_at [] (body p (fcs p)) [] (body_noflag _ _)
  rw [opened_body p h] at this
  simp only [List.nil_append, List.length_nil] at this
  unfold frame
  rw [sealed_eq, this]
  simp
/-- a frame in the middle of a stream -/
theorem decode_frame_at (a p r : List UInt8) (h : p.length ≤ 4096) : decN (a ++ (frame p ++ r)) a.length = .ok (p, a.length + (frame p).length) := by
  have := decode_at a (body p (fcs p)) r (body_noflag _ _)
  rw [opened_body p h] at this
  unfold frame
  rw [sealed_eq]
  simp only [List.cons_append, List.append_assoc, List.nil_append, this]
  simp
  omega
theorem flags_only_at_ends (p : List UInt8) (i : Nat) (hi : i < (frame p).length) : ((frame p).getD i 0 = 0x7e) ↔ (i = 0 ∨ i = (frame p).length - 1) := by
  unfold frame at *
  rw [sealed_eq] at *
  have hb := body_noflag p (fcs p)
  generalize body p (fcs p) = m at *
  simp only [List.length_cons, List.length_append, List.length_nil] at *
  cases i with
  | zero => simp
  | succ i =>
    simp only [List.getD_cons_succ]
    by_cases h : i < m.length
    · constructor
      · intro e
        rw [List.getD_eq_getElem?_getD, List.getElem?_append_left h, List.getElem?_eq_getElem h] at e
        exact absurd (e ▸ List.getElem_mem h) hb
      · intro e; omega
    · have : i = m.length := by omega
      subst this
      simp

/-! detection -/
theorem burst_decode (l r : List UInt8) (x y a b : UInt8) (h : ¬ (a = 0 ∧ b = 0)) (hl : (l ++ x :: y :: r).length ≤ 4096) :
    opened (body (l ++ (x ^^^ a) :: (y ^^^ b) :: r) (fcs (l ++ x :: y :: r))) = .error 21 :=
  opened_body_bad _ _ (by simpa using hl) (burst l r x y a b h)
theorem scan_sealed (p : List UInt8) (n : UInt16) : scan (sealed p n) = (outs (body p n), (sealed p n).length - 1) := by
  rw [sealed_eq]
  unfold scan
  rw [scanGo_cons_flag_none, scanGo_content _ (body_noflag p n)]
  simp [scanGo]
  omega

/-! streams -/
def streamTo (sh : Bool) (out : List UInt8) : List (List UInt8) → List UInt8
  | [] => out
  | p :: r => streamTo sh (out ++ if sh && !out.isEmpty then (frame p).drop 1 else frame p) r
theorem stream_scan (sh : Bool) (l : List (List UInt8)) (hl : ∀ p ∈ l, p.length ≤ 4096) : ∀ (out : List UInt8) (ps : List (List UInt8)),
    (out = [] ∧ ps = []) ∨ (scanGo none 0 out = (ps, out.length - 1) ∧ scanSt none 0 out = some ([], out.length - 1) ∧ out ≠ []) →
    scan (streamTo sh out l) = (ps ++ l, (streamTo sh out l).length - 1) ∧ (out.length ≤ (streamTo sh out l).length) := by
  induction l with
  | nil =>
    intro out ps h
    simp only [streamTo, List.append_nil, scan]
    rcases h with ⟨rfl, rfl⟩ | h
    · exact ⟨by simp [scanGo], Nat.le_refl _⟩
    · exact ⟨h.1, Nat.le_refl _⟩
  | cons p l ih =>
    intro out ps h
    have hp := hl p (by simp)
    have hb := body_noflag p (fcs p)
    have ho := outs_body p hp
    simp only [streamTo]
    have key : ∀ out' : List UInt8, (scanGo none 0 out' = (ps ++ [p], out'.length - 1) ∧ scanSt none 0 out' = some ([], out'.length - 1) ∧ out' ≠ []) → out.length ≤ out'.length →
        scan (streamTo sh out' l) = (ps ++ p :: l, (streamTo sh out' l).length - 1) ∧ (out.length ≤ (streamTo sh out' l).length) := by
      intro out' h' hle
      have := ih (fun q hq => hl q (by simp [hq])) out' (ps ++ [p]) (.inr h')
      exact ⟨by rw [this.1]; simp, Nat.le_trans hle this.2⟩
    rcases h with ⟨rfl, rfl⟩ | ⟨h1, h2, h3⟩
    · simp only [List.isEmpty_nil, Bool.not_true, Bool.and_false, Bool.false_eq_true, if_false, List.nil_append]
      refine key _ ?_ (by simp)
      unfold frame
      rw [sealed_eq]
      refine ⟨?_, ?_, by simp⟩
      · rw [scanGo_cons_flag_none, scanGo_content _ hb]
        simp only [List.nil_append, ho, scanGo]
        simp
        omega
      · rw [scanSt, if_pos rfl]
        have e : ∀ st pos, scanSt st pos (body p (fcs p) ++ [0x7e]) = some ([], pos + (body p (fcs p)).length) := by
          generalize body p (fcs p) = m
          induction m with
          | nil => intro st pos; simp [scanSt]
          | cons x m ihm => intro st pos; simp only [List.cons_append, scanSt, ihm, List.length_cons]; congr 2; omega
        rw [e]
        simp
        omega
    · have hne : out.isEmpty = false := by cases out <;> simp at h3 ⊢
      have hpos : 0 < out.length := by cases out <;> simp at h3 ⊢
      have e : ∀ (m : List UInt8) st pos, scanSt st pos (m ++ [0x7e]) = some ([], pos + m.length) := by
        intro m
        induction m with
        | nil => intro st pos; simp [scanSt]
        | cons x m ihm => intro st pos; simp only [List.cons_append, scanSt, ihm, List.length_cons]; congr 2; omega
      have eA : ∀ (a b : List UInt8) st pos, scanSt st pos (a ++ b) = scanSt (scanSt st pos a) (pos + a.length) b := by
        intro a
        induction a with
        | nil => intro b st pos; simp [scanSt]
        | cons x a iha => intro b st pos; simp only [List.cons_append, scanSt, iha, List.length_cons]; rw [show pos + 1 + a.length = pos + (a.length + 1) from by omega]
      cases sh with
      | true =>
        simp only [hne, Bool.not_false, Bool.and_true, if_true]
        refine key _ ?_ (by simp)
        unfold frame
        rw [sealed_eq]
        simp only [List.drop_succ_cons, List.drop_zero]
        refine ⟨?_, ?_, by simp⟩
        · rw [scanGo_append, h1, h2, scanGo_content _ hb]
          simp only [List.nil_append, ho, scanGo]
          simp
        · rw [eA, h2, e]; simp
      | false =>
        simp only [Bool.false_and, Bool.false_eq_true, if_false]
        refine key _ ?_ (by simp)
        unfold frame
        rw [sealed_eq]
        refine ⟨?_, ?_, by simp⟩
        · rw [scanGo_append, h1, h2, scanGo_cons_flag_some, scanGo_content _ hb]
          simp only [List.nil_append, ho, outs_nil, scanGo]
          simp
          omega
        · rw [eA, h2, scanSt, if_pos rfl, e]; simp; omega
theorem stream_law (sh : Bool) (l : List (List UInt8)) (hl : ∀ p ∈ l, p.length ≤ 4096) : scan (streamTo sh [] l) = (l, (streamTo sh [] l).length - 1) := by
  have := (stream_scan sh l hl [] [] (.inl ⟨rfl, rfl⟩)).1
  simpa using this
end Hd
