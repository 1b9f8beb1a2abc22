import Derived.Test.YtaoiklfkkipcaaaWVar2
import Derived.Test.YtaoiklfkkipcaaaWDec
import Derived.Test.YtaoiklfkkipcaaaJPure
import Derived.Lib.AppendStr
import Derived.Laws.BitsAllLaws
import Derived.Laws.Bits64
import Derived.Test.YtaoiklfkkipcaaaWArg
set_option linter.unusedSimpArgs false
set_option linter.unusedVariables false
namespace Go.Proofs.Ytaoiklfkkipcaaa
open Go Go.RowKit Hd Go.Mem

theorem uint_out (A : Option Addr) (c : Nat) (l : List UInt8) (at_ : Int) (w : World) (h : at_ < 0 ∨ (l.length : Int) < at_) :
    Calls Try.prog 74 #[.slice A l.length c, .int .i64 at_] w (UPost l at_ w) := by
  have Hp := Lib.hid (UPost.err (l := l) (at_ := at_) (w := w) (k := 1) (by unfold uintE; rw [if_pos h]))
  by_cases h0 : at_ < 0
  · have hd : decide (at_ < 0) = true := by simpa using h0
    clear h h0
    go_enter Try.func74, Try.ntmps74
    go_wp2_with fail
    go_ret3
    exact Hp.out
  · have hd : decide (at_ < 0) = false := by simpa using h0
    have hd2 : decide ((l.length : Int) < at_) = true := by simp; omega
    clear h
    go_enter Try.func74, Try.ntmps74
    go_wp2_with fail
    go_ret3
    exact Hp.out
theorem uint_any (A : Option Addr) (c : Nat) (l : List UInt8) (at_ : Int) (w : World) (hl : l.length ≤ 140737488351232) (hr : Rd w A l) :
    Calls Try.prog 74 #[.slice A l.length c, .int .i64 at_] w (UPost l at_ w) := by
  by_cases h : at_ < 0 ∨ (l.length : Int) < at_
  · exact uint_out A c l at_ w h
  · obtain ⟨k, rfl⟩ : ∃ k : Nat, at_ = (k : Int) := ⟨at_.toNat, by omega⟩
    exact uint_in A c l k w hl (by omega) hr
theorem uintGo_errs : ∀ (l : List UInt8) (k acc e : Nat), uintGo l k acc = .error e → e = 10 ∨ e = 11 ∨ e = 12 := by
  intro l
  induction l with
  | nil => intro k acc e h; rw [uintGo] at h; split at h <;> cases h <;> simp
  | cons c r ih =>
    intro k acc e h
    rw [uintGo] at h
    split at h
    · cases h; simp
    · split at h
      · exact ih _ _ _ h
      · split at h
        · cases h; simp
        · split at h
          · cases h; simp
          · cases h
theorem uintE_errs {l : List UInt8} {at_ : Int} {e : Nat} (h : uintE l at_ = .error e) : e = 1 ∨ e = 10 ∨ e = 11 ∨ e = 12 := by
  unfold uintE at h
  split at h
  · cases h; simp
  · split at h
    · cases h
    · rename_i e' he
      cases h
      exact .inr (uintGo_errs _ _ _ _ he)
theorem own_rdp' {w : World} {b b0 : Nat} {e : TypeId} {n c : Nat} {A : Option Addr} {xs : List Value} (h : w.ownsRow b e 1 (.slice A n c) n xs) (hb : b0 ≤ b) : RdP (b0 ≤ ·) w A xs := by
  obtain ⟨A', c', e1, _, _, _, hR⟩ := own_form h
  cases e1
  rcases hR with hR | ⟨k, off, rfl, hc⟩
  · exact .inl hR
  · rcases h.2 with ⟨h1, _⟩ | ⟨g, cap, cur, h1, h2, _⟩
    · cases h1
    · cases h1
      exact .inr ⟨_, _, rfl, Nat.le_trans hb h2, hc⟩

/-- a string's value -/
def Str (p : List UInt8) : Value := .string ⟨p.toArray⟩
theorem str_cells (p : List UInt8) : Lib.strCells ⟨p.toArray⟩ = p.map B := by simp [Lib.strCells, B]
theorem xor_ones (a : Nat) (h : a < 18446744073709551616) : a ^^^ 18446744073709551615 = 18446744073709551615 - a := by
  have h1 : (BitVec.ofNat 64 a ^^^ BitVec.allOnes 64).toNat = (~~~ BitVec.ofNat 64 a).toNat := by rw [BitVec.xor_allOnes]
  rw [BitVec.toNat_xor, BitVec.toNat_not, BitVec.toNat_ofNat, BitVec.toNat_allOnes, Nat.mod_eq_of_lt (by omega)] at h1
  exact h1
theorem zig_bits (v : Int) (hv : i64B v) : bits .xor .u64 (IntKind.u64.wrap (IntKind.u64.wrap v * 2)) (IntKind.u64.wrap (v / 9223372036854775808)) = (zig v : Int) := by
  obtain ⟨h1, h2⟩ := hv
  rw [IntKind.wrap_u64, IntKind.wrap_u64, IntKind.wrap_u64]
  by_cases h : 0 ≤ v
  · rw [show v / 9223372036854775808 = 0 by omega]
    obtain ⟨n, rfl⟩ := Int.eq_ofNat_of_zero_le h
    have e1 : ((n : Int) % 18446744073709551616 * 2) % 18446744073709551616 = ((2 * n : Nat) : Int) := by omega
    rw [e1]
    show bits .xor .u64 ((2 * n : Nat) : Int) ((0 : Nat) : Int) = _
    rw [bits_xor_u64_nat _ _ (by omega) (by decide), Nat.xor_zero]
    unfold zig
    rw [if_pos h]
    simp
  · rw [show v / 9223372036854775808 = -1 by omega]
    obtain ⟨n, hn⟩ : ∃ n : Nat, v = -(n : Int) - 1 := ⟨(-v - 1).toNat, by omega⟩
    subst hn
    have e1 : ((-(n : Int) - 1) % 18446744073709551616 * 2) % 18446744073709551616 = ((18446744073709551614 - 2 * n : Nat) : Int) := by omega
    rw [e1]
    show bits .xor .u64 ((18446744073709551614 - 2 * n : Nat) : Int) ((18446744073709551615 : Nat) : Int) = _
    rw [bits_xor_u64_nat _ _ (by omega) (by decide), xor_ones _ (by omega)]
    unfold zig
    rw [if_neg h]
    omega
theorem bits_xor_i64_zero (a : Nat) (h : a < 9223372036854775808) : bits .xor .i64 (a : Int) 0 = (a : Int) := by
  unfold bits
  have : (BitVec.ofInt 64 (a : Int) ^^^ BitVec.ofInt 64 0).toNat = a := by
    rw [show BitVec.ofInt 64 0 = 0#64 from rfl, BitVec.xor_zero, BitVec.ofInt_natCast, BitVec.toNat_ofNat, Nat.mod_eq_of_lt (by omega)]
  show IntKind.i64.wrap ((BitVec.ofInt 64 (a : Int) ^^^ BitVec.ofInt 64 0).toNat : Int) = _
  rw [this, IntKind.wrap_i64]
  omega
theorem bits_xor_i64_ones (a : Nat) (h : a < 9223372036854775808) : bits .xor .i64 (a : Int) (-1) = -(a : Int) - 1 := by
  unfold bits
  have : (BitVec.ofInt 64 (a : Int) ^^^ BitVec.ofInt 64 (-1)).toNat = 18446744073709551615 - a := by
    rw [show BitVec.ofInt 64 (-1) = BitVec.allOnes 64 by decide, BitVec.xor_allOnes, BitVec.toNat_not, BitVec.ofInt_natCast, BitVec.toNat_ofNat, Nat.mod_eq_of_lt (by omega)]
  show IntKind.i64.wrap ((BitVec.ofInt 64 (a : Int) ^^^ BitVec.ofInt 64 (-1)).toNat : Int) = _
  rw [this, IntKind.wrap_i64]
  omega
theorem aint_any (A : Option Addr) (c : Nat) (l : List UInt8) (v : Int) (w : World) (hl : l.length ≤ 100000000000) (hv : i64B v) (hr : Rd w A l) (hA : A = none → c = 0) (hc : l.length ≤ c) :
    Calls Try.prog 41 #[.slice A l.length c, .int .i64 v] w fun e w' => ∃ v', e = .returned v' ∧ OwnB w' w.heap.size 5 v' (l ++ enc (zig v)) ∧ Below w.heap.size w w' := by
  have Hau := Lib.hid (auint_any A c l (zig v) w hl (zig_lt hv.1 hv.2) hr hA hc)
  have Hz := Lib.hid (zig_bits v hv)
  clear hr hA
  go_enter Try.func41, Try.ntmps41
  go_wp2_with fail
  rw [Hz.out]
  refine Hau.out.mono ?_
  rintro e w1 ⟨v1, rfl, hO1, hb1⟩
  go_wp2_with fail
  go_ret
  exact ⟨_, rfl, hO1, hb1⟩
theorem unz_bits (n : Nat) (h : n < 2 ^ 64) : bits .xor .i64 ((n : Int) / 2) (wrap64 (-wrap64 (bits .and .u64 (n : Int) 1))) = unz n := by
  have h64 : (2 : Nat) ^ 64 = 18446744073709551616 := by decide
  rw [h64] at h
  have h3 : ((2 : Int) ^ 64) = 18446744073709551616 := by decide
  have hm : bits .and .u64 (n : Int) 1 = (n : Int) % 2 := by
    have := bits_mask .u64 64 (by decide) (fun m h1 h2 => by rw [IntKind.wrap_u64]; exact Int.emod_eq_of_lt h1 h2) 1 (by decide) (n : Int) (by omega) (by rw [h3]; omega)
    simpa using this
  rw [hm]
  unfold unz
  have e2 : ((n : Int) / 2) = ((n / 2 : Nat) : Int) := by omega
  by_cases h2 : n % 2 = 0
  · rw [if_pos h2, show (n : Int) % 2 = 0 by omega, e2]
    rw [show wrap64 (-wrap64 0) = 0 by decide +kernel]
    exact bits_xor_i64_zero _ (by omega)
  · rw [if_neg h2, show (n : Int) % 2 = 1 by omega, e2]
    rw [show wrap64 (-wrap64 1) = -1 by decide +kernel]
    exact bits_xor_i64_ones _ (by omega)
theorem unz_bits0 : bits .xor .i64 0 (wrap64 (-wrap64 (bits .and .u64 0 1))) = 0 := by decide +kernel
theorem int_any (A : Option Addr) (c : Nat) (l : List UInt8) (at_ : Int) (w : World) (hl : l.length ≤ 140737488351232) (hr : Rd w A l) :
    Calls Try.prog 59 #[.slice A l.length c, .int .i64 at_] w fun e w' => w' = w ∧ e = .returned (.tuple #[.int .i64 (rdInt l (at_, 0)).1, .int .i64 (rdInt l (at_, 0)).2.1, .int .i64 ((rdInt l (at_, 0)).2.2 : Int)]) := by
  have HU := Lib.hid (uint_any A c l at_ w hl hr)
  clear hr
  have hri : rdInt l (at_, 0) = match uintE l at_ with | .ok (u, n) => (unz u, ((n : Int), 0)) | .error k => (0, (0, k)) := by unfold rdInt; rw [if_neg (by simp)]; rfl
  cases hu : uintE l at_ with
  | error e =>
    have HU2 := Lib.hid hu
    rw [hu] at hri
    have Hri := Lib.hid hri
    clear hu hri
    go_enter Try.func59, Try.ntmps59
    go_wp2_with fail
    refine HU.out.mono ?_
    rintro e w1 ⟨rfl, hp⟩
    rw [HU2.out] at hp
    subst hp
    go_wp2_with fail
    go_ret3
    rw [Hri.out, unz_bits0]
    exact ⟨rfl, rfl⟩
  | ok s =>
    obtain ⟨n, next⟩ := s
    have HU2 := Lib.hid hu
    rw [hu] at hri
    have Hri := Lib.hid hri
    clear hu hri
    go_enter Try.func59, Try.ntmps59
    go_wp2_with fail
    refine HU.out.mono ?_
    rintro e w1 ⟨rfl, hp⟩
    rw [HU2.out] at hp
    obtain ⟨rfl, hn64, hnl⟩ := hp
    go_wp2_with fail
    go_ret3
    rw [Hri.out, unz_bits n hn64]
    exact ⟨rfl, rfl⟩
set_option maxRecDepth 100000 in
set_option maxHeartbeats 400000 in
theorem aseqs_any (A : Option Addr) (c : Nat) (l p : List UInt8) (w : World) (hl : l.length ≤ 1000000000) (hp : p.length ≤ 1000000000) (hr : Rd w A l) (hA : A = none → c = 0) (hc : l.length ≤ c) :
    Calls Try.prog 64 #[.slice A l.length c, Str p] w fun e w' => ∃ v', e = .returned v' ∧ OwnB w' w.heap.size 5 v' (l ++ encB p) ∧ Below w.heap.size w w' := by
  have hwp : IntKind.u64.wrap (p.length : Int) = (p.length : Int) := by rw [u64_wrap]; congr 1; omega
  have Hau := Lib.hid (auint_any A c l p.length w (by omega) (by omega) hr hA hc)
  have hlen : (l ++ enc p.length).length + p.length ≤ 140737488355328 := by have := enc_len64 (v := p.length) (by omega); simp; omega
  have hsz : (⟨p.toArray⟩ : ByteArray).size = p.length := by simp [ByteArray.size]
  obtain ⟨i0, hi0, hz0, hz1, hz2⟩ := info_parts info_u8
  unfold Str
  clear hr hA
  go_enter Try.func64, Try.ntmps64
  go_wp2_with fail
  refine Hau.out.mono ?_
  rintro e w1 ⟨v1, rfl, hO1, hb1⟩
  go_wp2_with (at_builtin; refine Lib.wpList_append_own_string _ rfl (.tmp 9) (.tmp 10) 25 9 rfl w.heap.size 5 i0 Try.underlying25 Try.underlying9 hi0 hz0 hz1 hz2 v1 _ _ rfl hO1 ⟨p.toArray⟩ rfl (by rw [hsz]; unfold maxLen; omega) (by rw [hsz]; omega) hb1.size ?_; intro v' w' hO3 hg3 _)
  go_ret
  refine ⟨_, rfl, ?_, hb1.grown hg3 hb1.size (own_base hO1)⟩
  unfold OwnB
  unfold encB
  rw [← List.append_assoc, List.map_append, ← str_cells p]
  have e : (l ++ enc p.length ++ p).length = (l ++ enc p.length).length + (⟨p.toArray⟩ : ByteArray).size := by rw [hsz]; simp; omega
  rw [e]
  exact hO3
theorem astr_any (A : Option Addr) (c : Nat) (l p : List UInt8) (w : World) (hl : l.length ≤ 1000000000) (hp : p.length ≤ 1000000000) (hr : Rd w A l) (hA : A = none → c = 0) (hc : l.length ≤ c) :
    Calls Try.prog 42 #[.slice A l.length c, Str p] w fun e w' => ∃ v', e = .returned v' ∧ OwnB w' w.heap.size 5 v' (l ++ encB p) ∧ Below w.heap.size w w' := by
  have HS := Lib.hid (aseqs_any A c l p w hl hp hr hA hc)
  clear hr hA
  go_enter Try.func42, Try.ntmps42
  go_wp2_with fail
  refine HS.out.mono ?_
  rintro e w1 ⟨v1, rfl, hO1, hb1⟩
  go_wp2_with fail
  go_ret
  exact ⟨_, rfl, hO1, hb1⟩
/-- what reading a string comes to -/
def TPost (l : List UInt8) (at_ : Int) (m : Nat) (w : World) (e : Ending) (w' : World) : Prop :=
  Below w.heap.size w w' ∧ match seqE l at_ m with
    | .ok (p, n) => e = .returned (.tuple #[Str p, .int .i64 (n : Int), .int .i64 0]) ∧ p.length ≤ l.length ∧ n ≤ l.length
    | .error k => e = .returned (.tuple #[Str [], .int .i64 0, .int .i64 (k : Int)])
theorem TPost.err {l : List UInt8} {at_ : Int} {m : Nat} {w w' : World} {k : Nat} (hb : Below w.heap.size w w') (h : seqE l at_ m = .error k) : TPost l at_ m w (.returned (.tuple #[Str [], .int .i64 0, .int .i64 (k : Int)])) w' := by
  refine ⟨hb, ?_⟩
  rw [h]
theorem TPost.ok {l p : List UInt8} {at_ : Int} {m n : Nat} {w w' : World} {i : Int} (hb : Below w.heap.size w w') (h : seqE l at_ m = .ok (p, n)) (hi : i = (n : Int)) (h5 : p.length ≤ l.length) (h6 : n ≤ l.length) :
    TPost l at_ m w (.returned (.tuple #[Str p, .int .i64 i, .int .i64 0])) w' := by
  subst hi
  refine ⟨hb, ?_⟩
  rw [h]
  exact ⟨rfl, h5, h6⟩
set_option maxRecDepth 100000 in
set_option maxHeartbeats 800000 in
theorem seqs_any (A : Option Addr) (c : Nat) (l : List UInt8) (at_ : Int) (m : Nat) (w : World) (hl : l.length ≤ 140737488351232) (hm : m ≤ 1000000) (hr : Rd w A l) (hA : A = none → c = 0) (hc : l.length ≤ c) :
    Calls Try.prog 75 #[.slice A l.length c, .int .i64 at_, .int .i64 (m : Int)] w (TPost l at_ m w) := by
  have HU := Lib.hid (uint_any A c l at_ w hl hr)
  have Hr := Lib.hid hr
  have HA := Lib.hid hA
  have hd0 : decide ((m : Int) < 0) = false := by simp
  have hwm : IntKind.u64.wrap (m : Int) = (m : Int) := by rw [u64_wrap]; congr 1; omega
  clear hr hA
  go_enter Try.func75, Try.ntmps75
  go_wp2_with fail
  refine HU.out.mono ?_
  rintro e w1 ⟨rfl, hp⟩
  clear HU
  have hse : seqE l at_ m = match uintE l at_ with
    | .error e => .error e
    | .ok (n, next) => if m < n then .error 2 else if l.length - next < n then .error 10 else .ok ((l.drop next).take n, next + n) := rfl
  cases hu : uintE l at_ with
  | error e =>
    rw [hu] at hp hse
    subst hp
    have he := uintE_errs hu
    have hd1 : ((e : Int) != 0) = true := by rcases he with rfl | rfl | rfl | rfl <;> rfl
    have Hse := Lib.hid hse
    clear hse hu he
    go_wp2_with fail
    go_ret3
    exact TPost.err (Below.refl _ _) Hse.out
  | ok s =>
    obtain ⟨n, next⟩ := s
    rw [hu] at hp hse
    obtain ⟨rfl, hn64, hnl⟩ := hp
    simp only at hse
    clear hu
    by_cases h1 : m < n
    · rw [if_pos h1] at hse
      have Hse := Lib.hid hse
      have hd1 : (m < n) = True := eq_true h1
      clear hse
      go_wp2_with fail
      go_ret3
      exact TPost.err (Below.refl _ _) Hse.out
    · have hd1 : (m < n) = False := eq_false h1
      rw [if_neg h1] at hse
      obtain ⟨k, hk⟩ : ∃ k, l.length - next = k := ⟨_, rfl⟩
      have hlk : l.length = next + k := by omega
      rw [hk] at hse
      have hsub : (l.length : Int) - (next : Int) = (k : Int) := by omega
      have hwk : IntKind.u64.wrap (k : Int) = (k : Int) := by rw [u64_wrap]; congr 1; omega
      have hnm : n ≤ 1000000 := by omega
      by_cases h2 : k < n
      · rw [if_pos h2] at hse
        have Hse := Lib.hid hse
        have hd2 : (k < n) = True := eq_true h2
        clear hse hk hlk
        go_wp2_with fail
        go_ret3
        exact TPost.err (Below.refl _ _) Hse.out
      · rw [if_neg h2] at hse
        have Hse := Lib.hid hse
        have hd2 : (k < n) = False := eq_false h2
        have hwn : IntKind.i64.wrap (n : Int) = (n : Int) := by rw [IntKind.wrap_i64]; omega
        have hsl := slc_lh 25 5 Try.underlying25 u8_sz A l.length c (next : Int) ((next : Int) + (n : Int)) next (next + n) (by omega) (by omega) (by omega) (by omega)
        rw [show next + n - next = n by omega] at hsl
        have hq : ((l.drop next).take n).length = n := by simp; omega
        have hAq : adv A c next = none → c - next = 0 := fun e => by
          unfold adv at e
          split at e
          · rename_i h; have := HA.out e; omega
          · have : A = none := by simpa using e
            have := HA.out this; omega
        have Hcl := Lib.hid (clone_any (adv A c next) (c - next) ((l.drop next).take n) w (by omega) ((Rd.drop Hr.out next c hc).take n) hAq (by omega))
        rw [hq] at Hcl
        generalize (l.drop next).take n = q at *
        subst hq
        have Hnl := Lib.hid (show next + q.length ≤ l.length ∧ q.length ≤ l.length by omega)
        clear hse hk hAq h1 h2 hlk
        generalize adv A c next = A2 at *
        go_wp2_with (go_at_call 46; refine Hcl.out.mono ?_; rintro e w2 ⟨v2, rfl, hO2, hb2⟩; obtain ⟨A4, c4, rfl, hA4, hc4, hm4, hR4⟩ := own_form hO2; have hcv := conv_str A4 c4 _ w2 hR4; clear hA4 hR4)
        go_ret3
        exact TPost.ok hb2 Hse.out (by omega) Hnl.out.2 Hnl.out.1
theorem str_any (A : Option Addr) (c : Nat) (l : List UInt8) (at_ : Int) (w : World) (hl : l.length ≤ 140737488351232) (hr : Rd w A l) (hA : A = none → c = 0) (hc : l.length ≤ c) :
    Calls Try.prog 60 #[.slice A l.length c, .int .i64 at_, .int .i64 15] w fun e w' => Below w.heap.size w w' ∧ e = .returned (.tuple #[Str (rdStr l (at_, 0)).1, .int .i64 (rdStr l (at_, 0)).2.1, .int .i64 ((rdStr l (at_, 0)).2.2 : Int)]) := by
  have HS := Lib.hid (seqs_any A c l at_ 15 w hl (by decide) hr hA hc)
  clear hr hA
  have hri : rdStr l (at_, 0) = match seqE l at_ 15 with | .ok (p, n) => (p, ((n : Int), 0)) | .error k => ([], (0, k)) := by unfold rdStr; rw [if_neg (by simp)]; rfl
  cases hu : seqE l at_ 15 with
  | error e =>
    have HU2 := Lib.hid hu
    rw [hu] at hri
    have Hri := Lib.hid hri
    clear hu hri
    go_enter Try.func60, Try.ntmps60
    go_wp2_with fail
    refine HS.out.mono ?_
    rintro e w1 ⟨hb, hp⟩
    rw [HU2.out] at hp
    subst hp
    go_wp2_with fail
    go_ret3
    rw [Hri.out]
    exact ⟨hb, rfl⟩
  | ok s =>
    obtain ⟨n, next⟩ := s
    have HU2 := Lib.hid hu
    rw [hu] at hri
    have Hri := Lib.hid hri
    clear hu hri
    go_enter Try.func60, Try.ntmps60
    go_wp2_with fail
    refine HS.out.mono ?_
    rintro e w1 ⟨hb, hp⟩
    rw [HU2.out] at hp
    obtain ⟨rfl, hn64, hnl⟩ := hp
    go_wp2_with fail
    go_ret3
    rw [Hri.out]
    exact ⟨hb, rfl⟩
end Go.Proofs.Ytaoiklfkkipcaaa
