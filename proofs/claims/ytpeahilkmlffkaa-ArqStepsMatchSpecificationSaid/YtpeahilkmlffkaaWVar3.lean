import Derived.Test.YtpeahilkmlffkaaWVar2
import Derived.Test.YtpeahilkmlffkaaWDec
namespace Go.Proofs.Ytpeahilkmlffkaa
open Go Go.RowKit Hd Go.Mem

theorem uint_out (A : Option Addr) (c : Nat) (l : List UInt8) (at_ : Int) (w : World) (h : at_ < 0 ∨ (l.length : Int) < at_) :
    Calls Try.prog 37 #[.slice A l.length c, .int .i64 at_] w (UPost l at_ w) := by
  have Hp := Lib.hid (UPost.err (l := l) (at_ := at_) (w := w) (k := 1) (by unfold uintE; rw [if_pos h]))
  by_cases h0 : at_ < 0
  · have hd : decide (at_ < 0) = true := by simpa using h0
    clear h h0
    go_enter Try.func37, Try.ntmps37
    go_wp2_with fail
    go_ret3
    exact Hp.out
  · have hd : decide (at_ < 0) = false := by simpa using h0
    have hd2 : decide ((l.length : Int) < at_) = true := by simp; omega
    clear h
    go_enter Try.func37, Try.ntmps37
    go_wp2_with fail
    go_ret3
    exact Hp.out
theorem uint_any (A : Option Addr) (c : Nat) (l : List UInt8) (at_ : Int) (w : World) (hl : l.length ≤ 140737488351232) (hr : Rd w A l) :
    Calls Try.prog 37 #[.slice A l.length c, .int .i64 at_] w (UPost l at_ w) := by
  by_cases h : at_ < 0 ∨ (l.length : Int) < at_
  · exact uint_out A c l at_ w h
  · obtain ⟨k, rfl⟩ : ∃ k : Nat, at_ = (k : Int) := ⟨at_.toNat, by omega⟩
    exact uint_in A c l k w hl (by omega) hr
theorem uintGo_errs : ∀ (l : List UInt8) (k acc e : Nat), uintGo l k acc = .error e → e = 10 ∨ e = 11 ∨ e = 12 := by
  intro l
  induction l with
  | nil => intro k acc e h; rw [uintGo] at h; split at h <;> cases h <;> simp
  | cons c r ih =>
    intro k acc e h
    rw [uintGo] at h
    split at h
    · cases h; simp
    · split at h
      · exact ih _ _ _ h
      · split at h
        · cases h; simp
        · split at h
          · cases h; simp
          · cases h
theorem uintE_errs {l : List UInt8} {at_ : Int} {e : Nat} (h : uintE l at_ = .error e) : e = 1 ∨ e = 10 ∨ e = 11 ∨ e = 12 := by
  unfold uintE at h
  split at h
  · cases h; simp
  · split at h
    · cases h
    · rename_i e' he
      cases h
      exact .inr (uintGo_errs _ _ _ _ he)
/-- what reading a sequence comes to -/
def SPost (l : List UInt8) (at_ : Int) (m : Nat) (w : World) (e : Ending) (w' : World) : Prop :=
  Below w.heap.size w w' ∧ match seqE l at_ m with
    | .ok (p, n) => ∃ A c, e = .returned (.tuple #[.slice A p.length c, .int .i64 (n : Int), .int .i64 0]) ∧ p.length ≤ c ∧ c ≤ maxLen ∧ (A = none → c = 0) ∧ RdP (w.heap.size ≤ ·) w' A (p.map B) ∧ p.length ≤ l.length ∧ n ≤ l.length
    | .error k => e = .returned (.tuple #[.slice none 0 0, .int .i64 0, .int .i64 (k : Int)])
theorem SPost.err {l : List UInt8} {at_ : Int} {m : Nat} {w w' : World} {k : Nat} (hb : Below w.heap.size w w') (h : seqE l at_ m = .error k) : SPost l at_ m w (.returned (.tuple #[.slice none 0 0, .int .i64 0, .int .i64 (k : Int)])) w' := by
  refine ⟨hb, ?_⟩
  rw [h]
theorem SPost.ok {l p : List UInt8} {at_ : Int} {m n : Nat} {w w' : World} {A : Option Addr} {c : Nat} {i : Int} (hb : Below w.heap.size w w') (h : seqE l at_ m = .ok (p, n)) (hi : i = (n : Int)) (h1 : p.length ≤ c) (h2 : c ≤ maxLen) (h3 : A = none → c = 0) (h4 : RdP (w.heap.size ≤ ·) w' A (p.map B)) (h5 : p.length ≤ l.length) (h6 : n ≤ l.length) :
    SPost l at_ m w (.returned (.tuple #[.slice A p.length c, .int .i64 i, .int .i64 0])) w' := by
  subst hi
  refine ⟨hb, ?_⟩
  rw [h]
  exact ⟨A, c, rfl, h1, h2, h3, h4, h5, h6⟩
theorem own_rdp' {w : World} {b b0 : Nat} {e : TypeId} {n c : Nat} {A : Option Addr} {xs : List Value} (h : w.ownsRow b e 1 (.slice A n c) n xs) (hb : b0 ≤ b) : RdP (b0 ≤ ·) w A xs := by
  obtain ⟨A', c', e1, _, _, _, hR⟩ := own_form h
  cases e1
  rcases hR with hR | ⟨k, off, rfl, hc⟩
  · exact .inl hR
  · rcases h.2 with ⟨h1, _⟩ | ⟨g, cap, cur, h1, h2, _⟩
    · cases h1
    · cases h1
      exact .inr ⟨_, _, rfl, Nat.le_trans hb h2, hc⟩
set_option maxRecDepth 100000 in
set_option maxHeartbeats 800000 in
theorem seq_any (A : Option Addr) (c : Nat) (l : List UInt8) (at_ : Int) (m : Nat) (w : World) (hl : l.length ≤ 140737488351232) (hm : m ≤ 1000000) (hr : Rd w A l) (hA : A = none → c = 0) (hc : l.length ≤ c) :
    Calls Try.prog 57 #[.slice A l.length c, .int .i64 at_, .int .i64 (m : Int)] w (SPost l at_ m w) := by
  have HU := Lib.hid (uint_any A c l at_ w hl hr)
  have Hr := Lib.hid hr
  have HA := Lib.hid hA
  have hd0 : decide ((m : Int) < 0) = false := by simp
  have hwm : IntKind.u64.wrap (m : Int) = (m : Int) := by rw [u64_wrap]; congr 1; omega
  clear hr hA
  go_enter Try.func57, Try.ntmps57
  go_wp2_with fail
  refine HU.out.mono ?_
  rintro e w1 ⟨rfl, hp⟩
  clear HU
  have hse : seqE l at_ m = match uintE l at_ with
    | .error e => .error e
    | .ok (n, next) => if m < n then .error 2 else if l.length - next < n then .error 10 else .ok ((l.drop next).take n, next + n) := rfl
  cases hu : uintE l at_ with
  | error e =>
    rw [hu] at hp hse
    subst hp
    have he := uintE_errs hu
    have hd1 : ((e : Int) != 0) = true := by rcases he with rfl | rfl | rfl | rfl <;> rfl
    have Hse := Lib.hid hse
    clear hse hu he
    go_wp2_with fail
    go_ret3
    exact SPost.err (Below.refl _ _) Hse.out
  | ok s =>
    obtain ⟨n, next⟩ := s
    rw [hu] at hp hse
    obtain ⟨rfl, hn64, hnl⟩ := hp
    simp only at hse
    clear hu
    by_cases h1 : m < n
    · rw [if_pos h1] at hse
      have Hse := Lib.hid hse
      have hd1 : (m < n) = True := eq_true h1
      clear hse
      go_wp2_with fail
      go_ret3
      exact SPost.err (Below.refl _ _) Hse.out
    · have hd1 : (m < n) = False := eq_false h1
      rw [if_neg h1] at hse
      obtain ⟨k, hk⟩ : ∃ k, l.length - next = k := ⟨_, rfl⟩
      have hlk : l.length = next + k := by omega
      rw [hk] at hse
      have hsub : (l.length : Int) - (next : Int) = (k : Int) := by omega
      have hwk : IntKind.u64.wrap (k : Int) = (k : Int) := by rw [u64_wrap]; congr 1; omega
      have hnm : n ≤ 1000000 := by omega
      by_cases h2 : k < n
      · rw [if_pos h2] at hse
        have Hse := Lib.hid hse
        have hd2 : (k < n) = True := eq_true h2
        clear hse hk hlk
        go_wp2_with fail
        go_ret3
        exact SPost.err (Below.refl _ _) Hse.out
      · rw [if_neg h2] at hse
        have Hse := Lib.hid hse
        have hd2 : (k < n) = False := eq_false h2
        have hwn : IntKind.i64.wrap (n : Int) = (n : Int) := by rw [IntKind.wrap_i64]; omega
        have hsl := slc_lh 22 5 Try.underlying22 u8_sz A l.length c (next : Int) ((next : Int) + (n : Int)) next (next + n) (by omega) (by omega) (by omega) (by omega)
        rw [show next + n - next = n by omega] at hsl
        have hq : ((l.drop next).take n).length = n := by simp; omega
        have hAq : adv A c next = none → c - next = 0 := fun e => by
          unfold adv at e
          split at e
          · rename_i h; have := HA.out e; omega
          · have : A = none := by simpa using e
            have := HA.out this; omega
        have Hcl := Lib.hid (clone_any (adv A c next) (c - next) ((l.drop next).take n) w (by omega) ((Rd.drop Hr.out next c hc).take n) hAq (by omega))
        rw [hq] at Hcl
        generalize (l.drop next).take n = q at *
        subst hq
        have Hnl := Lib.hid (show next + q.length ≤ l.length ∧ q.length ≤ l.length by omega)
        clear hse hk hAq h1 h2 hlk
        generalize adv A c next = A2 at *
        go_wp2_with (go_at_call 55; refine Hcl.out.mono ?_; rintro e w2 ⟨v2, rfl, hO2, hb2⟩; obtain ⟨A4, c4, rfl, hA4, hc4, hm4, hR4⟩ := own_form hO2; have HA4 := Lib.hid hA4; clear hA4 hR4)
        go_ret3
        exact SPost.ok hb2 Hse.out (by omega) hc4 hm4 HA4.out (own_rdp' hO2 (Nat.le_refl _)) Hnl.out.2 Hnl.out.1
theorem bytes_any (A : Option Addr) (c : Nat) (l : List UInt8) (at_ : Int) (m : Nat) (w : World) (hl : l.length ≤ 140737488351232) (hm : m ≤ 1000000) (hr : Rd w A l) (hA : A = none → c = 0) (hc : l.length ≤ c) :
    Calls Try.prog 38 #[.slice A l.length c, .int .i64 at_, .int .i64 (m : Int)] w (SPost l at_ m w) := by
  have HS := Lib.hid (seq_any A c l at_ m w hl hm hr hA hc)
  clear hr hA
  go_enter Try.func38, Try.ntmps38
  go_wp2_with fail
  refine HS.out.mono ?_
  rintro e w1 ⟨hb, hp⟩
  clear HS
  cases hs : seqE l at_ m with
  | error k =>
    rw [hs] at hp
    subst hp
    have Hs := Lib.hid hs
    clear hs
    go_wp2_with fail
    go_ret3
    exact SPost.err hb Hs.out
  | ok s =>
    obtain ⟨p, n⟩ := s
    rw [hs] at hp
    obtain ⟨A1, c1, rfl, k1, k2, k3, k4, k5, k6⟩ := hp
    have Hs := Lib.hid hs
    have K3 := Lib.hid k3
    have K4 := Lib.hid k4
    clear hs k3 k4
    go_wp2_with fail
    go_ret3
    exact SPost.ok hb Hs.out rfl k1 k2 K3.out K4.out k5 k6
set_option maxRecDepth 100000 in
set_option maxHeartbeats 400000 in
theorem aseq_any (A A' : Option Addr) (c c' : Nat) (l p : List UInt8) (w : World) (hl : l.length ≤ 1000000000) (hp : p.length ≤ 1000000000) (hr : Rd w A l) (hA : A = none → c = 0) (hc : l.length ≤ c) (hr' : Rd w A' p) (hA' : A' = none → c' = 0) :
    Calls Try.prog 56 #[.slice A l.length c, .slice A' p.length c'] w fun e w' => ∃ v', e = .returned v' ∧ OwnB w' w.heap.size 5 v' (l ++ encB p) ∧ Below w.heap.size w w' := by
  have hwp : IntKind.u64.wrap (p.length : Int) = (p.length : Int) := by rw [u64_wrap]; congr 1; omega
  have Hau := Lib.hid (auint_any A c l p.length w (by omega) (by omega) hr hA hc)
  have Hr' := Lib.hid hr'
  have HA' := Lib.hid hA'
  have hlen : (l ++ enc p.length).length + p.length ≤ 140737488355328 := by have := enc_len64 (v := p.length) (by omega); simp; omega
  clear hr hA hr' hA'
  go_enter Try.func56, Try.ntmps56
  go_wp2_with fail
  refine Hau.out.mono ?_
  rintro e w1 ⟨v1, rfl, hO1, hb1⟩
  go_wp2_with (at_builtin; refine app_bytes _ rfl (.tmp 9) (.tmp 10) 22 rfl w w.heap.size 5 Try.underlying22 info_u8 v1 _ rfl hO1 A' c' p rfl HA'.out (Hr'.out.below hb1) hlen hb1 hb1.size ?_; intro v' w' hO3 hB3 hg3 hat3 hsz3)
  go_ret
  exact ⟨_, rfl, by unfold encB; rw [← List.append_assoc]; exact hO3, hB3⟩
theorem abytes_any (A A' : Option Addr) (c c' : Nat) (l p : List UInt8) (w : World) (hl : l.length ≤ 1000000000) (hp : p.length ≤ 1000000000) (hr : Rd w A l) (hA : A = none → c = 0) (hc : l.length ≤ c) (hr' : Rd w A' p) (hA' : A' = none → c' = 0) :
    Calls Try.prog 36 #[.slice A l.length c, .slice A' p.length c'] w fun e w' => ∃ v', e = .returned v' ∧ OwnB w' w.heap.size 5 v' (l ++ encB p) ∧ Below w.heap.size w w' := by
  have HS := Lib.hid (aseq_any A A' c c' l p w hl hp hr hA hc hr' hA')
  clear hr hA hr' hA'
  go_enter Try.func36, Try.ntmps36
  go_wp2_with fail
  refine HS.out.mono ?_
  rintro e w1 ⟨v1, rfl, hO1, hb1⟩
  go_wp2_with fail
  go_ret
  exact ⟨_, rfl, hO1, hb1⟩
end Go.Proofs.Ytpeahilkmlffkaa
