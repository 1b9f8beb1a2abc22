import Derived.Test.YtaoiklfkkipcaaaVar
import Derived.Test.YtaoiklfkkipcaaaHdlcLaws
namespace Hd

/-! the journal, in plain Lean -/
def zig (v : Int) : Nat := if 0 ≤ v then 2 * v.toNat else 2 * (-v - 1).toNat + 1
def unz (u : Nat) : Int := if u % 2 = 0 then ((u / 2 : Nat) : Int) else -((u / 2 : Nat) : Int) - 1
theorem unz_zig (v : Int) : unz (zig v) = v := by
  unfold zig unz
  split <;> split <;> omega
theorem zig_lt {v : Int} (h : -9223372036854775808 ≤ v) (h2 : v < 9223372036854775808) : zig v < 2 ^ 64 := by
  have : (2 : Nat) ^ 64 = 18446744073709551616 := by decide
  rw [this]
  unfold zig
  split <;> omega
/-- a record -/
structure Rc where
  ref : Int
  role : Int
  peer : Int
  payer : List UInt8
  frm : Int
  to_ : Int
  rate : Int
  units : Int
def rcZ : Rc := ⟨0, 0, 0, [], 0, 0, 0, 0⟩
def encRec (r : Rc) : List UInt8 := enc (zig r.ref) ++ (enc (zig r.role) ++ (enc (zig r.peer) ++ (encB r.payer ++ (enc (zig r.frm) ++ (enc (zig r.to_) ++ (enc (zig r.rate) ++ enc (zig r.units)))))))
def i64B (v : Int) : Prop := -9223372036854775808 ≤ v ∧ v < 9223372036854775808
structure Rc.ok (r : Rc) : Prop where
  ref : i64B r.ref
  role : i64B r.role
  peer : i64B r.peer
  frm : i64B r.frm
  to_ : i64B r.to_
  rate : i64B r.rate
  units : i64B r.units
/-- the reader: where it stands, and its error -/
def rdInt (l : List UInt8) (s : Int × Nat) : Int × (Int × Nat) := if s.2 ≠ 0 then (0, s) else match uintE l s.1 with | .ok (u, n) => (unz u, ((n : Int), 0)) | .error k => (0, (0, k))
def rdStr (l : List UInt8) (s : Int × Nat) : List UInt8 × (Int × Nat) := if s.2 ≠ 0 then ([], s) else match seqE l s.1 15 with | .ok (p, n) => (p, ((n : Int), 0)) | .error k => ([], (0, k))
def rdAll (l : List UInt8) (s : Int × Nat) : Rc × (Int × Nat) :=
  let (v1, s1) := rdInt l s
  let (v2, s2) := rdInt l s1
  let (v3, s3) := rdInt l s2
  let (v4, s4) := rdStr l s3
  let (v5, s5) := rdInt l s4
  let (v6, s6) := rdInt l s5
  let (v7, s7) := rdInt l s6
  let (v8, s8) := rdInt l s7
  (⟨v1, v2, v3, v4, v5, v6, v7, v8⟩, s8)
/-- Record: the record and the offset behind it, or an error -/
@[irreducible] def recE (l : List UInt8) (at_ : Int) : Except Nat (Rc × Int) := if (rdAll l (at_, 0)).2.2 ≠ 0 then .error (rdAll l (at_, 0)).2.2 else .ok ((rdAll l (at_, 0)).1, (rdAll l (at_, 0)).2.1)
theorem rdInt_err {l : List UInt8} {s : Int × Nat} (h : s.2 ≠ 0) : rdInt l s = (0, s) := by unfold rdInt; rw [if_pos h]
theorem rdStr_err {l : List UInt8} {s : Int × Nat} (h : s.2 ≠ 0) : rdStr l s = ([], s) := by unfold rdStr; rw [if_pos h]
theorem rdInt_at {l : List UInt8} (a r : List UInt8) {v : Int} (h : i64B v) (e : l = a ++ (enc (zig v) ++ r)) {k : Nat} (hk : k = a.length) : rdInt l ((k : Int), 0) = (v, (((k + (enc (zig v)).length : Nat) : Int), 0)) := by
  subst hk e
  unfold rdInt
  rw [if_neg (by simp), uintE_enc _ _ _ (zig_lt h.1 h.2)]
  simp [unz_zig]
theorem rdStr_at {l : List UInt8} (a r : List UInt8) {p : List UInt8} (h : p.length ≤ 15) (e : l = a ++ (encB p ++ r)) {k : Nat} (hk : k = a.length) : rdStr l ((k : Int), 0) = (p, (((k + (encB p).length : Nat) : Int), 0)) := by
  subst hk e
  unfold rdStr
  rw [if_neg (by simp), seqE_enc _ _ _ _ (by omega) h]
/-- a record is read back from its encoding -/
theorem rdAll_enc (a b : List UInt8) (r : Rc) (hr : r.ok) (hp : r.payer.length ≤ 15) : rdAll (a ++ (encRec r ++ b)) ((a.length : Int), 0) = (r, (((a.length + (encRec r).length : Nat) : Int), 0)) := by
  obtain ⟨h1, h2, h3, h5, h6, h7, h8⟩ := hr
  obtain ⟨ref, role, peer, payer, frm, to_, rate, units⟩ := r
  simp only at h1 h2 h3 h5 h6 h7 h8 hp
  obtain ⟨l, hl⟩ : ∃ l, a ++ (encRec ⟨ref, role, peer, payer, frm, to_, rate, units⟩ ++ b) = l := ⟨_, rfl⟩
  have hn : (encRec ⟨ref, role, peer, payer, frm, to_, rate, units⟩).length = (enc (zig ref)).length + (enc (zig role)).length + (enc (zig peer)).length + (encB payer).length + (enc (zig frm)).length + (enc (zig to_)).length + (enc (zig rate)).length + (enc (zig units)).length := by simp [encRec]; omega
  rw [hl, hn]
  unfold rdAll
  rw [rdInt_at a _ h1 (by rw [← hl]; simp [encRec]; rfl) rfl]
  simp only
  rw [rdInt_at (a ++ enc (zig ref)) _ h2 (by rw [← hl]; simp [encRec]; rfl) (by simp)]
  simp only
  rw [rdInt_at (a ++ enc (zig ref) ++ enc (zig role)) _ h3 (by rw [← hl]; simp [encRec]; rfl) (by simp; omega)]
  simp only
  rw [rdStr_at (a ++ enc (zig ref) ++ enc (zig role) ++ enc (zig peer)) _ hp (by rw [← hl]; simp [encRec]; rfl) (by simp; omega)]
  simp only
  rw [rdInt_at (a ++ enc (zig ref) ++ enc (zig role) ++ enc (zig peer) ++ encB payer) _ h5 (by rw [← hl]; simp [encRec]; rfl) (by simp; omega)]
  simp only
  rw [rdInt_at (a ++ enc (zig ref) ++ enc (zig role) ++ enc (zig peer) ++ encB payer ++ enc (zig frm)) _ h6 (by rw [← hl]; simp [encRec]; rfl) (by simp; omega)]
  simp only
  rw [rdInt_at (a ++ enc (zig ref) ++ enc (zig role) ++ enc (zig peer) ++ encB payer ++ enc (zig frm) ++ enc (zig to_)) _ h7 (by rw [← hl]; simp [encRec]; rfl) (by simp; omega)]
  simp only
  rw [rdInt_at (a ++ enc (zig ref) ++ enc (zig role) ++ enc (zig peer) ++ encB payer ++ enc (zig frm) ++ enc (zig to_) ++ enc (zig rate)) b h8 (by rw [← hl]; simp [encRec]) (by simp; omega)]
  simp only [Prod.mk.injEq, true_and, and_true]
  omega
theorem recE_enc (a b : List UInt8) (r : Rc) (hr : r.ok) (hp : r.payer.length ≤ 15) : recE (a ++ (encRec r ++ b)) (a.length : Int) = .ok (r, ((a.length + (encRec r).length : Nat) : Int)) := by
  unfold recE
  rw [rdAll_enc a b r hr hp]
  simp
theorem zig_enc {v : Int} (h : i64B v) : 1 ≤ (enc (zig v)).length ∧ (enc (zig v)).length ≤ 10 := ⟨enc_len_pos _, enc_len64 (zig_lt h.1 h.2)⟩
theorem encRec_len (r : Rc) (hr : r.ok) (hp : r.payer.length ≤ 1000) : (encRec r).length ≤ 1100 := by
  obtain ⟨h1, h2, h3, h5, h6, h7, h8⟩ := hr
  have := (zig_enc h1).2
  have := (zig_enc h2).2
  have := (zig_enc h3).2
  have := (zig_enc h5).2
  have := (zig_enc h6).2
  have := (zig_enc h7).2
  have := (zig_enc h8).2
  have h9 : (enc r.payer.length).length ≤ 10 := enc_len64 (Nat.lt_of_le_of_lt hp (by decide))
  simp only [encRec, encB, List.length_append]
  omega

end Hd
