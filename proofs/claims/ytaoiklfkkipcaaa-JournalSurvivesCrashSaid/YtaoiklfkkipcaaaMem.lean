import Derived.WalkKit
import Derived.WalkLawsBesides
import Derived.WalkSpells
import Derived.Lib.Hide
import Derived.Laws.CopyOwn
import Derived.Laws.AppendOwnNone
import Derived.Maps.AppendAt
import Derived.RangeFuncOwn
namespace Go.Mem
open Go Go.RowKit

/-- a byte as a cell's value -/
abbrev B (x : UInt8) : Value := .int .u8 (x.toNat : Int)
/-- where a slice's address leads: its first cells hold xs -/
def RdC (w : World) (A : Option Addr) (xs : List Value) : Prop :=
  xs = [] ∨ ∃ b off, A = some ⟨b, off, none⟩ ∧ ∀ i (h : i < xs.length), w.cell? ⟨b, off + i, none⟩ = some xs[i]
theorem RdC.nil (w : World) (A : Option Addr) : RdC w A [] := .inl rfl
theorem RdC.at {w : World} {A : Option Addr} {xs : List Value} (h : RdC w A xs) (i : Nat) (hi : i < xs.length) :
    ∃ b off, A = some ⟨b, off, none⟩ ∧ w.cell? ⟨b, off + i, none⟩ = some xs[i] := by
  rcases h with rfl | ⟨b, off, rfl, hc⟩
  · simp at hi
  · exact ⟨b, off, rfl, hc i hi⟩
theorem RdC.mono {w w' : World} {A : Option Addr} {xs : List Value} (h : RdC w A xs) (hw : ∀ a v, w.cell? a = some v → w'.cell? a = some v) : RdC w' A xs := by
  rcases h with h | ⟨b, off, rfl, hc⟩
  · exact .inl h
  · exact .inr ⟨b, off, rfl, fun i hi => hw _ _ (hc i hi)⟩
theorem RdC.below {w w' : World} {A : Option Addr} {xs : List Value} (h : RdC w A xs) (hb : Below w.heap.size w w') : RdC w' A xs :=
  h.mono fun a _ hv => (hb.cell (World.block_lt_of_cell? w a hv)).trans hv
theorem RdC.take {w : World} {A : Option Addr} {xs : List Value} (h : RdC w A xs) (n : Nat) : RdC w A (xs.take n) := by
  rcases h with rfl | ⟨b, off, rfl, hc⟩
  · exact .inl (by simp)
  · refine .inr ⟨b, off, rfl, fun i hi => ?_⟩
    have hi' : i < xs.length := by simp at hi; omega
    rw [hc i hi']
    simp
/-- the address behind i elements, as a slice expression makes it -/
def adv (A : Option Addr) (c i : Nat) : Option Addr := if c = i then A else A.map (·.add i)
theorem RdC.drop {w : World} {A : Option Addr} {xs : List Value} (h : RdC w A xs) (i c : Nat) (hc : xs.length ≤ c) : RdC w (adv A c i) (xs.drop i) := by
  by_cases hi : xs.length ≤ i
  · exact .inl (by simp [hi])
  · rcases h with rfl | ⟨b, off, rfl, hcell⟩
    · exact .inl (by simp)
    · refine .inr ⟨b, off + i, ?_, fun j hj => ?_⟩
      · unfold adv
        rw [if_neg (by omega)]
        simp [Addr.add]
      · simp at hj
        have := hcell (i + j) (by omega)
        rw [show off + i + j = off + (i + j) from by omega, this]
        simp
theorem RdC.new (w : World) (cs : Array Value) (e : TypeId) (fr : Nat × Nat) : RdC (w.alloc (.cells cs e fr)) (some ⟨w.heap.size, 0, none⟩) cs.toList :=
  .inr ⟨_, 0, rfl, fun i hi => by
    rw [cell_of_row _ _ _ cs e fr (heap_alloc_new _ _)]
    simp at hi
    simp [hi]⟩
theorem RdC.cells {w : World} {ad : Addr} {xs : List Value} (h : RdC w (some ad) xs) : ∀ j u, xs[j]? = some u → w.cell? (ad.add j) = some u := by
  intro j u hu
  rcases h with rfl | ⟨b, off, e, hc⟩
  · simp at hu
  · simp only [Option.some.injEq] at e
    subst e
    obtain ⟨hj, rfl⟩ := List.getElem?_eq_some_iff.1 hu
    have : (⟨b, off, none⟩ : Addr).add j = ⟨b, off + j, none⟩ := by unfold Addr.add; split <;> simp_all
    rw [this]
    exact hc j hj
theorem RdC.of_cells {w : World} {ad : Addr} {xs : List Value} (h : ∀ j u, xs[j]? = some u → w.cell? (ad.add j) = some u) : RdC w (some ad) xs := by
  by_cases hx : xs = []
  · exact .inl hx
  · have hpos : 0 < xs.length := List.length_pos_iff.2 hx
    obtain ⟨b, off, sp⟩ := ad
    have h0 := h 0 _ (List.getElem?_eq_getElem hpos)
    have hsp : sp = none := by simpa [Addr.add] using World.cell?_spot h0
    subst hsp
    refine .inr ⟨b, off, rfl, fun i hi => ?_⟩
    have := h i _ (List.getElem?_eq_getElem hi)
    have e : (⟨b, off, none⟩ : Addr).add i = ⟨b, off + i, none⟩ := by unfold Addr.add; split <;> simp_all
    rwa [e] at this
    
/-- the same, the block being one of those that ok names -/
def RdP (ok : Nat → Prop) (w : World) (A : Option Addr) (xs : List Value) : Prop :=
  xs = [] ∨ ∃ b off, A = some ⟨b, off, none⟩ ∧ ok b ∧ ∀ i (h : i < xs.length), w.cell? ⟨b, off + i, none⟩ = some xs[i]
theorem RdP.c {ok : Nat → Prop} {w : World} {A : Option Addr} {xs : List Value} (h : RdP ok w A xs) : RdC w A xs := by
  rcases h with h | ⟨b, off, e, _, hc⟩
  · exact .inl h
  · exact .inr ⟨b, off, e, hc⟩
theorem RdP.move {ok ok' : Nat → Prop} {w w' : World} {A : Option Addr} {xs : List Value} (h : RdP ok w A xs) (hw : ∀ b, ok b → b < w.heap.size → w'.heap[b]? = w.heap[b]?) (hi : ∀ b, ok b → b < w.heap.size → ok' b) : RdP ok' w' A xs := by
  by_cases hx : xs = []
  · exact .inl hx
  · rcases h with h | ⟨b, off, e, ho, hc⟩
    · exact absurd h hx
    · have hlt : b < w.heap.size := World.block_lt_of_cell? w _ (hc 0 (List.length_pos_iff.2 hx))
      exact .inr ⟨b, off, e, hi b ho hlt, fun i h => by rw [World.cell?_of_block (a := ⟨b, off + i, none⟩) (hw b ho hlt)]; exact hc i h⟩
theorem RdP.below {ok : Nat → Prop} {w w' : World} {A : Option Addr} {xs : List Value} (h : RdP ok w A xs) (hb : Below w.heap.size w w') : RdP ok w' A xs :=
  h.move (fun b _ hl => hb.block b hl) (fun _ h _ => h)
theorem RdP.imp {ok ok' : Nat → Prop} {w : World} {A : Option Addr} {xs : List Value} (h : RdP ok w A xs) (hi : ∀ b, ok b → b < w.heap.size → ok' b) : RdP ok' w A xs :=
  h.move (fun _ _ _ => rfl) hi
theorem RdC.p {w : World} {A : Option Addr} {xs : List Value} (h : RdC w A xs) : RdP (· < w.heap.size) w A xs := by
  by_cases hx : xs = []
  · exact .inl hx
  · rcases h with h | ⟨b, off, e, hc⟩
    · exact absurd h hx
    · exact .inr ⟨b, off, e, World.block_lt_of_cell? w _ (hc 0 (List.length_pos_iff.2 hx)), hc⟩
theorem RdP.cells {ok : Nat → Prop} {w : World} {ad : Addr} {xs : List Value} (h : ok ad.block) (hc : RdC w (some ad) xs) : RdP ok w (some ad) xs := by
  rcases hc with hc | ⟨b, off, e, hc⟩
  · exact .inl hc
  · simp only [Option.some.injEq] at e
    subst e
    exact .inr ⟨b, off, rfl, h, hc⟩

/-! a world that only grew -/
theorem fw_trans {a b c : World} (h : Below a.heap.size a b) (k : Below b.heap.size b c) : Below a.heap.size a c := h.trans (k.mono h.size)
theorem fw_al {a b : World} (h : Below a.heap.size a b) (o : Obj) : Below a.heap.size a (b.alloc o) := h.alloc h.size o
theorem fw_new (a : World) (o : Obj) : Below a.heap.size a (a.alloc o) := (Below.refl _ a).alloc (Nat.le_refl _) o
theorem fw_drew {a b : World} (h : Below a.heap.size a b) : Below a.heap.size a b.drew := ⟨h.os, h.tape, h.output, h.size, h.block⟩
/-- the bytes l -/
def Rd (w : World) (A : Option Addr) (l : List UInt8) : Prop := RdC w A (l.map B)
theorem Rd.nil (w : World) (A : Option Addr) : Rd w A [] := .inl rfl
theorem Rd.at {w : World} {A : Option Addr} {l : List UInt8} (h : Rd w A l) (i : Nat) (hi : i < l.length) :
    ∃ b off, A = some ⟨b, off, none⟩ ∧ w.cell? ⟨b, off + i, none⟩ = some (B l[i]) := by
  obtain ⟨b, off, e, hc⟩ := RdC.at h i (by simpa using hi)
  exact ⟨b, off, e, by rw [hc]; simp⟩
theorem Rd.below {w w' : World} {A : Option Addr} {l : List UInt8} (h : Rd w A l) (hb : Below w.heap.size w w') : Rd w' A l := RdC.below h hb
theorem Rd.take {w : World} {A : Option Addr} {l : List UInt8} (h : Rd w A l) (n : Nat) : Rd w A (l.take n) := by
  have := RdC.take h n
  unfold Rd; rwa [List.map_take]
theorem Rd.drop {w : World} {A : Option Addr} {l : List UInt8} (h : Rd w A l) (i c : Nat) (hc : l.length ≤ c) : Rd w (adv A c i) (l.drop i) := by
  have := RdC.drop h i c (by simpa using hc)
  unfold Rd; rwa [List.map_drop]

/-! slice expressions over elements of one cell -/
section
variable {P : Program}
theorem slc_sized (t e : TypeId) (ht : P.underlying t = some (.slice e)) {i : TypeInfo} (hi : P.info? e = some i) (hs : i.size = 1) (A : Option Addr) (n c : Nat) (lo hi' : Option Value) (l h : Nat) (hb : ∀ W, (Instr.sliceBounds true n c lo hi' none).run P W = .ok (l, h, c) W) :
    ∀ W, (Instr.slice t (.slice A n c) lo hi' none).run P W = .ok (.slice (adv A c l) (h - l) (c - l)) W := by
  intro W
  simp only [Instr.slice, Sem.run_bind, run_underlying ht, Result.andThen, hb]
  simp [sizeOf, typeInfo, hi, hs, adv]
theorem slc_l (t e : TypeId) (ht : P.underlying t = some (.slice e)) (hs : (P.info? e).map (·.size) = some 1) (A : Option Addr) (n c : Nat) (lo : Int) (l : Nat) (hl : lo = l) (h : l ≤ n) :
    ∀ W, (Instr.slice t (.slice A n c) (some (.int .i64 lo)) none none).run P W = .ok (.slice (adv A c l) (n - l) (c - l)) W := by
  obtain ⟨i, hi, hsz⟩ := Option.map_eq_some_iff.1 hs
  subst hl
  exact slc_sized t e ht hi hsz A n c _ _ l n (fun W => by
    simp [Instr.sliceBounds, run_sliceBound, (by omega : (l : Int) ≤ n)])
theorem slc_lh (t e : TypeId) (ht : P.underlying t = some (.slice e)) (hs : (P.info? e).map (·.size) = some 1) (A : Option Addr) (n c : Nat) (lo hi : Int) (l h : Nat) (hl : lo = l) (hh : hi = h) (hlh : l ≤ h) (hc : h ≤ c) :
    ∀ W, (Instr.slice t (.slice A n c) (some (.int .i64 lo)) (some (.int .i64 hi)) none).run P W = .ok (.slice (adv A c l) (h - l) (c - l)) W := by
  obtain ⟨i, hi, hsz⟩ := Option.map_eq_some_iff.1 hs
  subst hl hh
  exact slc_sized t e ht hi hsz A n c _ _ l h (fun W => by
    simp [Instr.sliceBounds, run_sliceBound, (by omega : (l : Int) ≤ h), (by omega : (h : Int) ≤ c)])
theorem slc_h (t e : TypeId) (ht : P.underlying t = some (.slice e)) (hs : (P.info? e).map (·.size) = some 1) (A : Option Addr) (n c : Nat) (hi : Int) (h : Nat) (hh : hi = h) (hc : h ≤ c) :
    ∀ W, (Instr.slice t (.slice A n c) none (some (.int .i64 hi)) none).run P W = .ok (.slice A h c) W := by
  obtain ⟨i, hi, hsz⟩ := Option.map_eq_some_iff.1 hs
  subst hh
  intro W
  have := slc_sized t e ht hi hsz A n c none (some (.int .i64 h)) 0 h (fun W => by
    simp [Instr.sliceBounds, run_sliceBound, (by omega : (h : Int) ≤ c)]) W
  rw [this]
  have ha : adv A c 0 = A := by
    unfold adv
    split
    · rfl
    · cases A <;> simp [Addr.add]
  rw [ha]
  rfl
end

/-! rows of the call's own -/
theorem own_lower {w : World} {b b' : Nat} {e : TypeId} {s n : Nat} {v : Value} {xs : List Value} (h : w.ownsRow b e s v n xs) (hb : b' ≤ b) : w.ownsRow b' e s v n xs := by
  refine ⟨h.1, ?_⟩
  rcases h.2 with h2 | ⟨g, cap, cur, h1, h2, h3⟩
  · exact .inl h2
  · exact .inr ⟨g, cap, cur, h1, Nat.le_trans hb h2, h3⟩
theorem own_base {w : World} {b : Nat} {e : TypeId} {s n : Nat} {v : Value} {xs : List Value} (h : w.ownsRow b e s v n xs) : ∀ k, v.ownBlock = some k → b ≤ k := fun k hk => (h.lt k hk).1
theorem own_below {w w' : World} {b : Nat} {e : TypeId} {s n : Nat} {v : Value} {xs : List Value} (h : w.ownsRow b e s v n xs) (hb : Below w.heap.size w w') : w'.ownsRow b e s v n xs := by
  refine ⟨h.1, ?_⟩
  rcases h.2 with h2 | ⟨g, cap, cur, h1, h2, h3, h4⟩
  · exact .inl h2
  · refine .inr ⟨g, cap, cur, h1, h2, ?_, h4⟩
    have hlt : g < w.heap.size := by
      rcases Nat.lt_or_ge g w.heap.size with h | h
      · exact h
      · simp [Array.getElem?_eq_none h] at h3
    rw [hb.block g hlt]
    exact h3
theorem own_form {w : World} {b : Nat} {e : TypeId} {s n : Nat} {v : Value} {xs : List Value} (h : w.ownsRow b e s v n xs) :
    ∃ A c, v = .slice A n c ∧ (A = none → c = 0) ∧ n ≤ c ∧ c ≤ maxLen ∧ RdC w A xs := by
  rcases h.2 with ⟨rfl, rfl⟩ | ⟨g, cap, cur, rfl, h2, h3, h4, h5, h6, h7⟩
  · have : xs = [] := List.eq_nil_of_length_eq_zero (by simpa using h.1)
    subst this
    exact ⟨none, 0, rfl, fun _ => rfl, Nat.le_refl _, Nat.zero_le _, .inl rfl⟩
  · refine ⟨_, cap, rfl, (fun e => by cases e), h4, h5, RdC.of_cells ?_⟩
    exact h.cells rfl
/-- what the call owns reads as bytes -/
abbrev OwnB (w : World) (b : Nat) (e : TypeId) (v : Value) (l : List UInt8) : Prop := w.ownsRow b e 1 v l.length (l.map B)
theorem own_fresh (w : World) (b : Nat) (cs : Array Value) (e : TypeId) (h : b ≤ w.heap.size) (hm : cs.size ≤ maxLen) : (w.alloc (.cells cs e)).ownsRow b e 1 (.slice (some ⟨w.heap.size, 0, none⟩) cs.size cs.size) cs.size cs.toList :=
  ⟨by simp, .inr ⟨_, _, cs, rfl, h, heap_alloc_new _ _, Nat.le_refl _, hm, by simp, by simp [List.take_of_length_le]⟩⟩

theorem rd_new (w : World) (e : TypeId) (l : List UInt8) (cs : Array Value) (h : cs.toList = l.map B) : Rd (w.alloc (.cells cs e)) (some ⟨w.heap.size, 0, none⟩) l := by
  have := RdC.new w cs e (0, 0)
  rw [h] at this
  exact this
theorem rd_new' (w : World) (e : TypeId) (l : List UInt8) (cs : Array Value) (fr : Nat × Nat) (h : cs.toList = l.map B) : Rd (w.alloc (.cells cs e fr)) (some ⟨w.heap.size, 0, none⟩) l := by
  have := RdC.new w cs e fr
  rw [h] at this
  exact this
/-- a block stands through an append elsewhere -/
theorem blk_grown {W w' : World} {v : Value} {T : Nat} {o : Obj} (hg : W.grownBy w' v.ownBlock) (h : W.heap[T]? = some o) (hne : v.ownBlock ≠ some T) : w'.heap[T]? = some o := by
  have hlt : T < W.heap.size := by
    rcases Nat.lt_or_ge T W.heap.size with h1 | h1
    · exact h1
    · simp [Array.getElem?_eq_none h1] at h
  rw [hg.block T hlt (fun e => hne e.symm)]
  exact h
theorem blk_lt {W : World} {T : Nat} {o : Obj} (h : W.heap[T]? = some o) : T < W.heap.size := by
  rcases Nat.lt_or_ge T W.heap.size with h1 | h1
  · exact h1
  · simp [Array.getElem?_eq_none h1] at h
theorem alloc_blk {W : World} {T : Nat} {o : Obj} (O : Obj) (h : W.heap[T]? = some o) : (W.alloc O).heap[T]? = some o := by
  rw [heap_alloc_old _ _ (blk_lt h)]; exact h
theorem ne_after {W : World} {v v' : Value} {T : Nat} {o : Obj} (hat : v'.ownBlock = v.ownBlock ∨ v'.ownBlock = some W.heap.size) (h : W.heap[T]? = some o) (hne : v.ownBlock ≠ some T) : v'.ownBlock ≠ some T := by
  have := blk_lt h
  rcases hat with e | e
  · rw [e]; exact hne
  · rw [e]; simp; omega
theorem rd_blk {W : World} {T e : Nat} {cs : Array Value} {fr : Nat × Nat} {l : List UInt8} (h : W.heap[T]? = some (.cells cs e fr)) (hc : cs.toList = l.map B) : Rd W (some ⟨T, 0, none⟩) l := by
  refine .inr ⟨T, 0, rfl, fun i hi => ?_⟩
  rw [cell_of_row _ _ _ cs e fr h]
  have : cs[0 + i]? = cs.toList[i]? := by simp
  rw [this, hc]
  simp at hi
  simp [hi]
section
variable {P : Program} {ops : Array Oper} {rest : List Oper} {o : Oper} {a : Act} {Q : Exit → Act → World → Prop}
/-- append of whatever slice onto a row of the call's own -/
theorem app_own (W : World) (hgd : o.guard = none) (s x : Operand) (t : TypeId)
    (ho : o.op = .call { callee := .builtin .append, args := #[s, x], argTypes := #[t, t] })
    (base : Nat) (e : TypeId) (z : Value) (size bytes : Nat) (ht : P.underlying t = some (.slice e)) (hinfo : (P.info? e).map (fun i => (i.zero, i.size, i.bytes)) = some (some z, size, bytes))
    (hzs : z.cells.size = size) (hsz : 0 < size) (hb0 : 0 < bytes)
    (v : Value) (n : Nat) (xs : List Value) (hs : a.eval s = v) (hown : W.ownsRow base e size v n xs)
    (A : Option Addr) (m c : Nat) (news : List Value) (hx : a.eval x = .slice A m c) (hl : news.length = m * size) (hA : A = none → c = 0) (hnews : RdC W A news) (h1 : ∀ u ∈ news, u.oneCell' = true)
    (hbytes : (n + m) * bytes ≤ 140737488355328) (hbase : base ≤ W.heap.size)
    (h : ∀ v' w', w'.ownsRow base e size v' (n + m) (xs ++ news) → W.grownBy w' v.ownBlock → (v'.ownBlock = v.ownBlock ∨ v'.ownBlock = some W.heap.size) → wpList P ops Q rest (a.put o.dst v') w') : wpList P ops Q (o :: rest) a W := by
  obtain ⟨i0, hi, hzz⟩ := Option.map_eq_some_iff.1 hinfo
  simp only [Prod.mk.injEq] at hzz
  obtain ⟨hz0, hz1, hz2⟩ := hzz
  have h63 : n + m ≤ maxLen := by
    have := Nat.le_trans (Nat.le_mul_of_pos_right _ hb0) hbytes
    simp only [maxLen]; omega
  cases A with
  | none =>
    have hn : news = [] := by
      rcases hnews with h | ⟨b, off, e, _⟩
      · exact h
      · cases e
    subst hn
    have hm : m = 0 := by
      rcases Nat.eq_zero_or_pos m with h | h
      · exact h
      · have : 0 < m * size := Nat.mul_pos h hsz
        simp at hl; omega
    subst hm
    rw [hA rfl] at hx
    refine wpList_append_own_none hgd s x t ho base e i0 size ht hi v n xs hs hown hx ?_
    have := h v W (by simpa using hown) ⟨rfl, rfl, rfl, Nat.le_refl _, fun _ _ _ => rfl⟩ (.inl rfl)
    exact this
  | some ad =>
    exact wpList_append_own_at W hgd s x t ho base e i0 z size bytes ht hi hz0 hz1 hz2 hzs hsz v n xs hs hown ad m c news hx hl hnews.cells h1 h63 hbytes hbase
      fun v' w' h2 h3 _ h5 => h v' w' h2 h3 h5
/-- .. of bytes -/
theorem app_bytes (W : World) (hgd : o.guard = none) (s x : Operand) (t : TypeId)
    (ho : o.op = .call { callee := .builtin .append, args := #[s, x], argTypes := #[t, t] })
    (w0 : World) (base : Nat) (e : TypeId) (ht : P.underlying t = some (.slice e)) (hinfo : (P.info? e).map (fun i => (i.zero, i.size, i.bytes)) = some (some (.int .u8 0), 1, 1))
    (v : Value) (l : List UInt8) (hs : a.eval s = v) (hown : OwnB W base e v l)
    (A : Option Addr) (c : Nat) (m : List UInt8) (hx : a.eval x = .slice A m.length c) (hA : A = none → c = 0) (hnews : Rd W A m)
    (hbytes : l.length + m.length ≤ 140737488355328) (hB : Below base w0 W) (hbase : base ≤ W.heap.size)
    (h : ∀ v' w', OwnB w' base e v' (l ++ m) → Below base w0 w' → W.grownBy w' v.ownBlock → (v'.ownBlock = v.ownBlock ∨ v'.ownBlock = some W.heap.size) → base ≤ w'.heap.size → wpList P ops Q rest (a.put o.dst v') w') : wpList P ops Q (o :: rest) a W :=
  app_own W hgd s x t ho base e (.int .u8 0) 1 1 ht hinfo rfl (by decide) (by decide) v l.length (l.map B) hs hown A m.length c (m.map B) hx (by simp) hA hnews
    (by intro u hu; simp only [List.mem_map] at hu; obtain ⟨x, _, rfl⟩ := hu; rfl) (by simpa using hbytes) hbase
    fun v' w' h2 h3 h5 => h v' w' (by unfold OwnB; simpa using h2) (hB.grown h3 hbase (own_base hown)) h3 h5 (Nat.le_trans hbase h3.size)
end

/-! lists of byte strings in a row of the call's own -/
/-- one cell: a slice that reads as p, in blocks that ok names -/
def El (ok : Nat → Prop) (w : World) (v : Value) (p : List UInt8) : Prop :=
  ∃ A c, v = .slice A p.length c ∧ p.length ≤ c ∧ c ≤ maxLen ∧ (A = none → c = 0) ∧ RdP ok w A (p.map B)
theorem El.move {ok ok' : Nat → Prop} {w w' : World} {v : Value} {p : List UInt8} (h : El ok w v p) (hw : ∀ b, ok b → b < w.heap.size → w'.heap[b]? = w.heap[b]?) (hi : ∀ b, ok b → b < w.heap.size → ok' b) : El ok' w' v p := by
  obtain ⟨A, c, h1, h2, h3, h4, h5⟩ := h
  exact ⟨A, c, h1, h2, h3, h4, h5.move hw hi⟩
def Els (ok : Nat → Prop) (w : World) : List Value → List (List UInt8) → Prop
  | [], [] => True
  | v :: vs, p :: ps => El ok w v p ∧ Els ok w vs ps
  | _, _ => False
theorem Els.length {ok : Nat → Prop} {w : World} : ∀ {vs : List Value} {ps : List (List UInt8)}, Els ok w vs ps → vs.length = ps.length
  | [], [], _ => rfl
  | _ :: _, _ :: _, h => by simp [Els.length h.2]
  | [], _ :: _, h => h.elim
  | _ :: _, [], h => h.elim
theorem Els.move {ok ok' : Nat → Prop} {w w' : World} (hw : ∀ b, ok b → b < w.heap.size → w'.heap[b]? = w.heap[b]?) (hi : ∀ b, ok b → b < w.heap.size → ok' b) : ∀ {vs : List Value} {ps : List (List UInt8)}, Els ok w vs ps → Els ok' w' vs ps
  | [], [], _ => trivial
  | _ :: _, _ :: _, h => ⟨h.1.move hw hi, Els.move hw hi h.2⟩
  | [], _ :: _, h => h.elim
  | _ :: _, [], h => h.elim
theorem Els.append {ok : Nat → Prop} {w : World} : ∀ {vs us : List Value} {ps qs : List (List UInt8)}, Els ok w vs ps → Els ok w us qs → Els ok w (vs ++ us) (ps ++ qs)
  | [], _, [], _, _, h => h
  | _ :: _, _, _ :: _, _, h, k => ⟨h.1, Els.append h.2 k⟩
  | [], _, _ :: _, _, h, _ => h.elim
  | _ :: _, _, [], _, h, _ => h.elim
theorem Els.at {ok : Nat → Prop} {w : World} : ∀ {vs : List Value} {ps : List (List UInt8)}, Els ok w vs ps → ∀ (i : Nat) (h : i < ps.length), ∃ v, vs[i]? = some v ∧ El ok w v ps[i]
  | v :: _, p :: _, h, 0, _ => ⟨v, rfl, h.1⟩
  | _ :: vs, _ :: ps, h, i + 1, hi => by
    obtain ⟨v, h1, h2⟩ := Els.at h.2 i (by simpa using hi)
    exact ⟨v, by simpa using h1, by simpa using h2⟩
  | [], _ :: _, h, _, _ => h.elim
  | _, [], _, _, hi => by simp at hi
theorem Els.one {ok : Nat → Prop} {w : World} : ∀ {vs : List Value} {ps : List (List UInt8)}, Els ok w vs ps → ∀ u ∈ vs, u.oneCell' = true
  | [], [], _, u, hu => by simp at hu
  | v :: vs, p :: ps, h, u, hu => by
    rcases List.mem_cons.1 hu with e | hu
    · subst e
      obtain ⟨A, c, rfl, _⟩ := h.1
      rfl
    · exact Els.one h.2 u hu
  | [], _ :: _, h, _, _ => h.elim
  | _ :: _, [], h, _, _ => h.elim
/-- a row of the call's own whose elements read as ps; no element lies in the row's own block -/
def RowB (w : World) (base : Nat) (e : TypeId) (v : Value) (ps : List (List UInt8)) : Prop :=
  ∃ vs, w.ownsRow base e 1 v ps.length vs ∧ Els (fun b => base ≤ b ∧ v.ownBlock ≠ some b) w vs ps
theorem RowB.nil (w : World) (base : Nat) (e : TypeId) : RowB w base e (.slice none 0 0) [] := ⟨[], World.ownsRow_nil _ _ _ _, trivial⟩
theorem own_move {w w' : World} {b : Nat} {e : TypeId} {s n : Nat} {v : Value} {xs : List Value} (h : w.ownsRow b e s v n xs) (hw : ∀ k, b ≤ k → k < w.heap.size → w'.heap[k]? = w.heap[k]?) : w'.ownsRow b e s v n xs := by
  refine ⟨h.1, ?_⟩
  rcases h.2 with h2 | ⟨g, cap, cur, h1, h2, h3, h4⟩
  · exact .inl h2
  · exact .inr ⟨g, cap, cur, h1, h2, (hw g h2 (blk_lt h3)).trans h3, h4⟩
theorem RowB.move {w w' : World} {base : Nat} {e : TypeId} {v : Value} {ps : List (List UInt8)} (h : RowB w base e v ps) (hw : ∀ k, base ≤ k → k < w.heap.size → w'.heap[k]? = w.heap[k]?) : RowB w' base e v ps := by
  obtain ⟨vs, h1, h2⟩ := h
  exact ⟨vs, own_move h1 hw, h2.move (fun b hb hl => hw b hb.1 hl) (fun b hb _ => hb)⟩
theorem RowB.below {w w' : World} {base : Nat} {e : TypeId} {v : Value} {ps : List (List UInt8)} (h : RowB w base e v ps) (hb : Below w.heap.size w w') : RowB w' base e v ps :=
  h.move fun k _ hk => hb.block k hk
/-- whatever is cells lies as it lay -/
theorem els_cells {w w' : World} {ok ok' : Nat → Prop} (hc : ∀ (b : Nat) (cs : Array Value) (t : Nat) (fr : Nat × Nat), w.heap[b]? = some (.cells cs t fr) → w'.heap[b]? = w.heap[b]?) : ∀ {us : List Value} {qs : List (List UInt8)}, Els ok w us qs → (∀ b, ok b → ok' b) → Els ok' w' us qs := by
  intro us qs h hi
  have hE : ∀ {u : Value} {p : List UInt8}, El ok w u p → El ok' w' u p := by
    intro u p hu
    obtain ⟨A, c, k1, k2, k3, k4, k5⟩ := hu
    refine ⟨A, c, k1, k2, k3, k4, ?_⟩
    rcases k5 with k5 | ⟨b, off, e1, ho, hcell⟩
    · exact .inl k5
    · refine .inr ⟨b, off, e1, hi b ho, fun i hl => ?_⟩
      have hci := hcell i hl
      rw [World.cell?_of_block (w := w) (w' := w') (a := ⟨b, off + i, none⟩)]
      · exact hci
      · unfold World.cell? at hci
        split at hci
        · rename_i h; exact hc _ _ _ _ h
        · cases hci
  induction us generalizing qs with
  | nil => cases qs with | nil => trivial | cons => exact h.elim
  | cons u us ih => cases qs with | nil => exact h.elim | cons q qs => exact ⟨hE h.1, ih h.2⟩
/-- a turn of a block that is no cells -/
theorem RowB.kept {w w' : World} {base : Nat} {e : TypeId} {v : Value} {ps : List (List UInt8)} (h : RowB w base e v ps) {row : Option Nat} (hg : w.grownBy w' row) (hr : ∀ r, row = some r → ∃ o : Obj, w.heap[r]? = some o ∧ o.isCells = false) : RowB w' base e v ps := by
  obtain ⟨vs, h1, h2⟩ := h
  have hc : ∀ {b : Nat} {cs : Array Value} {t : Nat} {fr : Nat × Nat}, w.heap[b]? = some (.cells cs t fr) → w'.heap[b]? = w.heap[b]? := by
    intro b cs t fr hb
    refine hg.block b (blk_lt hb) fun e => ?_
    obtain ⟨o, ho, hn⟩ := hr b e.symm
    rw [hb] at ho
    cases ho
    cases hn
  refine ⟨vs, ⟨h1.1, ?_⟩, ?_⟩
  · rcases h1.2 with h2 | ⟨g, cap, cur, k1, k2, k3, k4⟩
    · exact .inl h2
    · exact .inr ⟨g, cap, cur, k1, k2, (hc k3).trans k3, k4⟩
  · clear h1
    generalize (fun b => base ≤ b ∧ v.ownBlock ≠ some b) = ok at h2 ⊢
    have hE : ∀ {u : Value} {p : List UInt8}, El ok w u p → El ok w' u p := by
      intro u p hu
      obtain ⟨A, c, k1, k2, k3, k4, k5⟩ := hu
      refine ⟨A, c, k1, k2, k3, k4, ?_⟩
      rcases k5 with k5 | ⟨b, off, e1, ho, hcell⟩
      · exact .inl k5
      · refine .inr ⟨b, off, e1, ho, fun i hi => ?_⟩
        have hci := hcell i hi
        rw [World.cell?_of_block (w := w) (w' := w') (a := ⟨b, off + i, none⟩)]
        · exact hci
        · unfold World.cell? at hci
          split at hci
          · rename_i h; exact hc h
          · cases hci
    have : ∀ {us : List Value} {qs : List (List UInt8)}, Els ok w us qs → Els ok w' us qs := by
      intro us
      induction us with
      | nil => intro qs h; cases qs with | nil => trivial | cons => exact h.elim
      | cons u us ih => intro qs h; cases qs with | nil => exact h.elim | cons q qs => exact ⟨hE h.1, ih h.2⟩
    exact this h2
theorem ownBlock_lt {w : World} {base : Nat} {e : TypeId} {v : Value} {n : Nat} {vs : List Value} (h : w.ownsRow base e 1 v n vs) : ∀ k, v.ownBlock = some k → k < w.heap.size := fun k hk => (h.lt k hk).2
/-- behind an append of elements that read as qs -/
theorem RowB.pushed {W w' : World} {base : Nat} {e : TypeId} {v v' : Value} {ps qs : List (List UInt8)} {vs us : List Value} {m : Nat}
    (hE : Els (fun b => base ≤ b ∧ v.ownBlock ≠ some b) W vs ps) (hU : Els (fun b => base ≤ b ∧ v.ownBlock ≠ some b) W us qs) (hm : m = (ps ++ qs).length)
    (ho : w'.ownsRow base e 1 v' m (vs ++ us)) (hg : W.grownBy w' v.ownBlock) (hat : v'.ownBlock = v.ownBlock ∨ v'.ownBlock = some W.heap.size) : RowB w' base e v' (ps ++ qs) := by
  subst hm
  refine ⟨vs ++ us, ho, (Els.append hE hU).move (fun b hb hl => hg.block b hl (fun e => hb.2 e.symm)) (fun b hb hl => ⟨hb.1, ?_⟩)⟩
  rcases hat with e | e
  · rw [e]; exact hb.2
  · rw [e]; simp; omega
end Go.Mem
