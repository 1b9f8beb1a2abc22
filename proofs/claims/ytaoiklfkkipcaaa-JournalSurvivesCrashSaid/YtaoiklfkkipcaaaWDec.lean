import Derived.Test.YtaoiklfkkipcaaaWOpen
namespace Go.Proofs.Ytaoiklfkkipcaaa
open Go Go.RowKit Hd Go.Mem

theorem opened_error {l : List UInt8} {k : Nat} (h : opened l = .error k) : k = 20 ∨ k = 21 := by
  unfold opened check2 at h
  split at h
  · split at h
    · cases h; exact .inl rfl
    · split at h
      · cases h
      · cases h; exact .inr rfl
  · cases h; exact .inl rfl
theorem open_ok (A : Option Addr) (c : Nat) (l p : List UInt8) (w : World) (hl : l.length ≤ 140737488351232) (hr : Rd w A l) (h : opened l = .ok p) :
    Calls Try.prog 36 #[.slice A l.length c] w fun e w' => ∃ A c, e = .returned (.tuple #[.slice A p.length c, .int .i64 0]) ∧ p.length ≤ c ∧ c ≤ maxLen ∧ (A = none → c = 0) ∧ RdP (w.heap.size ≤ ·) w' A (p.map B) ∧ p.length ≤ l.length ∧ Below w.heap.size w w' :=
  (open_any A c l w hl hr).mono fun e w' hp => by
    obtain ⟨hb, hp⟩ := hp
    rw [h] at hp
    obtain ⟨A, c, h1, h2, h3, h4, h5, h6⟩ := hp
    exact ⟨A, c, h1, h2, h3, h4, h5, h6, hb⟩
theorem open_err (A : Option Addr) (c : Nat) (l : List UInt8) (k : Nat) (w : World) (hl : l.length ≤ 140737488351232) (hr : Rd w A l) (h : opened l = .error k) :
    Calls Try.prog 36 #[.slice A l.length c] w fun e w' => e = .returned (.tuple #[.slice none 0 0, .int .i64 (k : Int)]) ∧ Below w.heap.size w w' :=
  (open_any A c l w hl hr).mono fun e w' hp => by
    obtain ⟨hb, hp⟩ := hp
    rw [h] at hp
    exact ⟨hp, hb⟩
theorem u8_sz : (Try.prog.info? 5).map (·.size) = some 1 := by kernel_rfl
/-- what Decode comes to -/
def DecPost (l : List UInt8) (at_ : Int) (w : World) (e : Ending) (w' : World) : Prop :=
  Below w.heap.size w w' ∧ match decE l at_ with
    | .ok (p, n) => ∃ A c, e = .returned (.tuple #[.slice A p.length c, .int .i64 (n : Int), .int .i64 0]) ∧ p.length ≤ c ∧ c ≤ maxLen ∧ (A = none → c = 0) ∧ RdP (w.heap.size ≤ ·) w' A (p.map B) ∧ p.length ≤ l.length ∧ n ≤ l.length
    | .error k => e = .returned (.tuple #[.slice none 0 0, .int .i64 0, .int .i64 (k : Int)])
theorem DecPost.err {l : List UInt8} {at_ : Int} {w w' : World} {k : Nat} (hb : Below w.heap.size w w') (h : decE l at_ = .error k) : DecPost l at_ w (.returned (.tuple #[.slice none 0 0, .int .i64 0, .int .i64 (k : Int)])) w' := by
  refine ⟨hb, ?_⟩
  rw [h]
theorem DecPost.ok {l p : List UInt8} {at_ : Int} {n : Nat} {w w' : World} {A : Option Addr} {c : Nat} (hb : Below w.heap.size w w') (h : decE l at_ = .ok (p, n)) (h1 : p.length ≤ c) (h2 : c ≤ maxLen) (h3 : A = none → c = 0) (h4 : RdP (w.heap.size ≤ ·) w' A (p.map B)) (h5 : p.length ≤ l.length) (h6 : n ≤ l.length) :
    DecPost l at_ w (.returned (.tuple #[.slice A p.length c, .int .i64 (n : Int), .int .i64 0])) w' := by
  refine ⟨hb, ?_⟩
  rw [h]
  exact ⟨A, c, rfl, h1, h2, h3, h4, h5, h6⟩
theorem decE_out {l : List UInt8} {at_ : Int} (h : at_ < 0 ∨ (l.length : Int) ≤ at_) : decE l at_ = .error 1 := by
  unfold decE decN
  by_cases h0 : at_ < 0
  · rw [if_pos h0]
  · rw [if_neg h0, if_pos (by omega)]
theorem decE_noflag {l : List UInt8} {k : Nat} (h : k < l.length) (hx : l[k] ≠ 0x7e) : decE l k = .error 20 := by
  unfold decE decN
  rw [if_neg (by omega), if_neg (by simpa using h), if_pos (by simpa [List.getD, h] using hx)]
theorem decE_flag {l : List UInt8} {k : Nat} (h : k < l.length) (hx : l[k] = 0x7e) : decE l k = match idxFlag (l.drop (k + 1)) with
    | none => .error 10
    | some n => match opened ((l.drop (k + 1)).take n) with
      | .ok p => .ok (p, k + n + 2)
      | .error e => .error e := by
  unfold decE decN
  rw [if_neg (by omega), if_neg (by simpa using h), if_neg (by simp [List.getD, h, hx])]
  rfl
theorem x7e_yes (x : UInt8) (h : x = 0x7e) : ((x.toNat : Int) != 126) = false := by subst h; rfl
theorem x7e_no (x : UInt8) (h : ¬ x = 0x7e) : ((x.toNat : Int) != 126) = true := by
  rw [bne_iff_ne]
  intro e
  exact h (UInt8.toNat_inj.1 (by simpa using Int.ofNat.inj e))
theorem dec_out (A : Option Addr) (c : Nat) (l : List UInt8) (at_ : Int) (w : World) (h : at_ < 0 ∨ (l.length : Int) ≤ at_) :
    Calls Try.prog 72 #[.slice A l.length c, .int .i64 at_] w (DecPost l at_ w) := by
  have Hp := Lib.hid (DecPost.err (w := w) (w' := w) (Below.refl _ _) (decE_out h))
  by_cases h0 : at_ < 0
  · have hd : decide (at_ < 0) = true := by simpa using h0
    clear h h0
    go_enter Try.func72, Try.ntmps72
    go_wp2_with fail
    go_ret3
    exact Hp.out
  · have hd : decide (at_ < 0) = false := by simpa using h0
    have hd2 : decide ((l.length : Int) ≤ at_) = true := by simp; omega
    clear h
    go_enter Try.func72, Try.ntmps72
    go_wp2_with fail
    go_ret3
    exact Hp.out
theorem dec_in (A : Option Addr) (c : Nat) (l : List UInt8) (k : Nat) (w : World) (hl : l.length ≤ 140737488351232) (h : k < l.length) (hr : Rd w A l) (hc : l.length ≤ c) :
    Calls Try.prog 72 #[.slice A l.length c, .int .i64 (k : Int)] w (DecPost l k w) := by
  obtain ⟨b, off, rfl, hcell⟩ := hr.at k h
  have hd1 : decide ((k : Int) < 0) = false := by simp
  have hd2 : decide ((l.length : Int) ≤ (k : Int)) = false := by simp; omega
  by_cases hx : l[k] = 0x7e
  · have hx1 := x7e_yes l[k] hx
    have Hde := Lib.hid (decE_flag h hx)
    clear hx
    generalize l[k] = x at *
    have hlt := h
    have s1 := slc_l 25 5 Try.underlying25 u8_sz (some ⟨b, off, none⟩) l.length c ((k : Int) + 1) (k + 1) (by omega) (by omega)
    have hr1 := hr.drop (k + 1) c hc
    have e1 : l.length - (k + 1) = (l.drop (k + 1)).length := by simp
    have hA1 : adv (some ⟨b, off, none⟩) c (k + 1) = none → l.drop (k + 1) = [] := by
      intro e; unfold adv at e; split at e <;> simp at e
    rw [e1] at s1
    cases hidx : idxFlag (l.drop (k + 1)) with
    | none =>
      rw [hidx] at Hde
      have Hp := Lib.hid (DecPost.err (w := w) (w' := w) (Below.refl _ _) Hde.out)
      have hI : idxI (l.drop (k + 1)) = -1 := by unfold idxI; rw [hidx]
      generalize adv (some ⟨b, off, none⟩) c (k + 1) = A1 at *
      have Hc := Lib.hid (fun w => idx_any A1 (c - (k + 1)) (l.drop (k + 1)) w)
      generalize l.drop (k + 1) = l1 at *
      clear hidx e1 Hde
      have HI := Lib.hid hI
      clear hI
      go_enter Try.func72, Try.ntmps72
      go_wp2_with (go_at_call 34; refine (Hc.out _ hr1 hA1).mono ?_; rw [HI.out]; rintro e w' ⟨rfl, rfl⟩)
      go_ret3
      exact Hp.out
    | some n =>
      rw [hidx] at Hde
      have hn := idxFlag_some hidx
      have hI : idxI (l.drop (k + 1)) = (n : Int) := by unfold idxI; rw [hidx]
      have hnl : k + 1 + n < l.length := by simp at hn; omega
      have s2 := slc_lh 25 5 Try.underlying25 u8_sz (some ⟨b, off, none⟩) l.length c ((k : Int) + 1) ((k : Int) + 1 + (n : Int)) (k + 1) (k + 1 + n) (by omega) (by omega) (by omega) (by omega)
      have e2 : k + 1 + n - (k + 1) = ((l.drop (k + 1)).take n).length := by simp; omega
      rw [e2] at s2
      have hr2 := hr1.take n
      have hn2 : ((l.drop (k + 1)).take n).length ≤ 140737488351232 := by simp; omega
      have hn3 : ((l.drop (k + 1)).take n).length ≤ l.length := by simp; omega
      have hz : ((n : Int) < 0) = False := by simp
      clear e2 e1
      generalize adv (some ⟨b, off, none⟩) c (k + 1) = A1 at *
      have Hc := Lib.hid (fun w => idx_any A1 (c - (k + 1)) (l.drop (k + 1)) w)
      simp only at Hde
      generalize hl2 : (l.drop (k + 1)).take n = l2 at *
      generalize l.drop (k + 1) = l1 at *
      clear hl2 hidx
      have HI := Lib.hid hI
      clear hI
      cases hop : opened l2 with
      | error m =>
        rw [hop] at Hde
        have Ho := Lib.hid (fun c => open_err A1 c l2 m w hn2 hr2 hop)
        have hm0 : ((m : Int) != 0) = true := by
          rcases opened_error hop with rfl | rfl <;> rfl
        clear hop
        go_enter Try.func72, Try.ntmps72
        go_wp2_with (first | (go_at_call 34; refine (Hc.out _ hr1 hA1).mono ?_; rw [HI.out]; rintro e w' ⟨rfl, rfl⟩) | (go_at_call 36; refine (Ho.out _).mono ?_; rintro e w1 ⟨rfl, hb1⟩))
        go_ret3
        exact DecPost.err hb1 Hde.out
      | ok p =>
        rw [hop] at Hde
        have Ho := Lib.hid (fun c => open_ok A1 c l2 p w hn2 hr2 hop)
        clear hop
        go_enter Try.func72, Try.ntmps72
        go_wp2_with (first | (go_at_call 34; refine (Hc.out _ hr1 hA1).mono ?_; rw [HI.out]; rintro e w' ⟨rfl, rfl⟩) | (go_at_call 36; refine (Ho.out _).mono ?_; rintro e w1 ⟨A2, c2, rfl, q1, q2, q3, q4, q5, hb1⟩))
        go_ret3
        have hk2 : k + n + 2 ≤ l.length := by omega
        exact DecPost.ok hb1 Hde.out q1 q2 q3 q4 (by omega) hk2
  · have hx1 := x7e_no l[k] hx
    have Hp := Lib.hid (DecPost.err (w := w) (w' := w) (Below.refl _ _) (decE_noflag h hx))
    clear hx
    generalize l[k] = x at *
    go_enter Try.func72, Try.ntmps72
    go_wp2_with fail
    go_ret3
    exact Hp.out
end Go.Proofs.Ytaoiklfkkipcaaa
