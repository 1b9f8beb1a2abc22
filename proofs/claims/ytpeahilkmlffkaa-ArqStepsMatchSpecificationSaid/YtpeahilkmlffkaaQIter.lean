import Derived.Test.YtpeahilkmlffkaaQHeld
import Derived.Test.YtpeahilkmlffkaaQValid
import Derived.RangeFuncNested
import Derived.RangeFuncBound
import Derived.RangeFuncCalls
import Derived.RangeFuncLeaves
import Derived.RangeFuncBox
set_option linter.unusedSimpArgs false
set_option linter.unusedVariables false
namespace Go.Proofs.Ytpeahilkmlffkaa
open Go Go.RowKit Hd Go.Mem

/-- what a loop's round keeps for the function that it ranges over -/
structure KpS (S : Nat → Prop) (W W' : World) : Prop where
  size : W.heap.size ≤ W'.heap.size
  blk : ∀ k, S k → k < W.heap.size → W'.heap[k]? = W.heap[k]?
theorem KpS.trans {S : Nat → Prop} {A B C : World} (h : KpS S A B) (k : KpS S B C) : KpS S A C :=
  ⟨Nat.le_trans h.size k.size, fun i hi hl => (k.blk i hi (Nat.lt_of_lt_of_le hl h.size)).trans (h.blk i hi hl)⟩
theorem KpS.put {S : Nat → Prop} {W : World} {l : Nat} {o o' : Obj} (hl : W.heap[l]? = some o) (hS : ¬ S l) : KpS S W (W.putObj l o') := by
  have h := grownBy_putObj' W l o'
  exact ⟨h.size, fun k hk hlt => h.block k hlt fun e => hS (by cases e; exact hk)⟩
/-- a frame that a round is handed, and where its payload lies -/
structure FrE where
  f : Fr
  A : Option Addr
  c : Nat
def FrE.cells (x : FrE) : Array Value := frCells x.A x.c x.f
structure FrOk (ok : Nat → Prop) (W : World) (x : FrE) : Prop where
  nil : x.A = none → x.c = 0
  le : x.f.p.length ≤ x.c
  cap : x.c ≤ maxLen
  rd : RdP ok W x.A (x.f.p.map B)
theorem FrOk.move {ok ok' : Nat → Prop} {w w' : World} {x : FrE} (h : FrOk ok w x) (hw : ∀ b, ok b → b < w.heap.size → w'.heap[b]? = w.heap[b]?) (hi : ∀ b, ok b → b < w.heap.size → ok' b) : FrOk ok' w' x :=
  ⟨h.nil, h.le, h.cap, h.rd.move hw hi⟩
/-- the word of a function that hands frames to a loop's rounds: each payload lies in memory of its own -/
def SeqF (P : Program) (m : Nat) (gf : Nat) (lb : Array Value) (Kp : World → World → Prop) (S : List FrE → Prop) (N : Nat) (w : World) : Prop :=
  ∀ (l : Nat) (J : List FrE → World → Prop) (W : World), Below w.heap.size w W →
    (∀ pre x W0 W1, J pre W0 → Below W0.heap.size W0 W1 → FrOk (W0.heap.size ≤ ·) W1 x → pre.length < N → YieldAt Fence.wide (m - 1) P l #[.agg x.cells] W1 fun e W' => e = .returned (.bool true) ∧ J (pre ++ [x]) W' ∧ Kp W1 W') →
    J [] W → CallsIn Fence.wide m P gf (#[.func (.yield l) #[] #[]] ++ lb) W fun e W' => (∃ v, e = .returned v) ∧ ∃ xs, S xs ∧ J xs W'

/-- a loop over such a function: every round goes on -/
theorem range_fr {P : Program} {n p : Nat} {g : Operand} {assign body : Code} {Q : Exit → Act → World → Prop} {a : Act} {w : World} (h1 : 1 ≤ n) {gf : Nat} {lb : Array Value} (hg : a.eval g = .func (.func gf) #[] lb)
    (eg : ∀ args w, (callFunc gf args).run P w = .ok (.enter gf args) w) {Kp : World → World → Prop} {S : List FrE → Prop} {N : Nat} {w0 : World} (hseq : SeqF P (n - 1) gf lb Kp S N w0) (hb0 : Below w0.heap.size w0 w)
    (hKt : ∀ {A B C : World}, Kp A B → Kp B C → Kp A C) (hKb : ∀ (W : World) (l : Nat) (o o' : Obj), w.heap.size ≤ l → W.heap[l]? = some o → Kp W (W.putObj l o'))
    (I : List FrE → World → Prop) (hI : OwnFrom w.heap.size I) (h0 : I [] w) (I2 : List FrE → FrE × Nat → World → Prop) (hI2 : ∀ pre, OwnFrom w.heap.size (I2 pre)) (a₁ : FrE → Nat → Act)
    (hassign : ∀ (l : Nat) (pre : List FrE) (x : FrE) (W0 W1 : World) (K : Act → World → Prop), I pre W0 → Below W0.heap.size W0 W1 → FrOk (W0.heap.size ≤ ·) W1 x → pre.length < N →
      (∀ b W', I2 pre (x, b) W' → KeepsFrom w.heap.size W1 W' → Kp W1 W' → K (a₁ x b) W') →
      assign.wpIn (Fence.wide.inRound l) (n - 1 - 1) P (Exit.then K (fun _ _ _ => False)) { tmps := (#[p].zip #[Value.agg x.cells]).foldl (fun t (p, v) => t.setIfInBounds p v) a.tmps, defers := [] } W1)
    (hbody : ∀ (l : Nat) (pre : List FrE) (x : FrE) (b : Nat) (W : World), I2 pre (x, b) W → pre.length < N →
      body.wpIn (Fence.wide.inRound l) (n - 1 - 1) P (fun e _ W' => e = .normal ∧ KeepsFrom w.heap.size W W' ∧ Kp W W' ∧ I (pre ++ [x]) W') (a₁ x b) W)
    (hdone : ∀ (xs : List FrE) (W : World), S xs → I xs W → W.heap[w.heap.size]? = some (.deferred (some [])) → Q .normal { a with defers := { target := .collected w.heap.size, args := #[] } :: a.defers } W) :
    (Code.rangeFunc g #[p] assign body).wpIn Fence.wide n P Q a w := by
  refine wpIn_rangeFunc fun fn hfn => ?_
  obtain ⟨rec, hrec⟩ : ∃ rec : LoopState → Option Code → Loop, rec = fun st pe => { state := st, pending := pe, fn, tmps := a.tmps, params := #[p], assign, body, defers := w.heap.size } := ⟨_, rfl⟩
  obtain ⟨W1, hW1⟩ : ∃ W1, (w.alloc (.deferred (some []))).alloc (.loop (rec .ready none)) = W1 := ⟨_, rfl⟩
  have hb1 : Below w.heap.size w W1 := by rw [← hW1]; exact fw_al (fw_new _ _) _
  have hL1 : W1.heap[w.heap.size + 1]? = some (.loop (rec .ready none)) := by rw [← hW1]; exact heap_alloc2_new _ _ _
  have hD1 : W1.heap[w.heap.size]? = some (.deferred (some [])) := by rw [← hW1]; exact blk_second _ _ _
  have hI1 : I [] W1 := by rw [← hW1]; exact hI.alloc _ (hI.alloc _ h0)
  refine ⟨w.heap.size + 1, [{ target := .collected w.heap.size, args := #[] }], W1, { target := .fn (.func gf) lb, args := #[.func (.yield (w.heap.size + 1)) #[] #[]] }, W1, gf,
    #[.func (.yield (w.heap.size + 1)) #[] #[]] ++ lb, W1, ?_, ?_, fun f' _ => trivial, ?_, fun _ => h1, ?_⟩
  · rw [← hW1, hrec]; exact run_enterLoop_outer _ _ _ _ _
  · simp only [resolve, hg]
    simp [go_sem]
  · simp [invoke, go_sem, eg]
  · refine (hseq (w.heap.size + 1) (fun pre W => I pre W ∧ W.heap[w.heap.size + 1]? = some (.loop (rec .ready none)) ∧ W.heap[w.heap.size]? = some (.deferred (some []))) W1 (fw_trans hb0 hb1) ?_ ⟨hI1, hL1, hD1⟩).mono ?_
    · rintro pre x W0 V ⟨hi, hl, hk⟩ hb hf hlen
      have hl' := (hb.block _ (blk_lt hl)).trans hl
      have hk' := (hb.block _ (blk_lt hk)).trans hk
      have hy := run_yield (P := P) (args := #[.agg x.cells]) hl' (by rw [hrec]; rfl)
      rw [hrec] at hy
      refine ⟨fn, _, assign, body, hy, roundIn_of_wpIn hfn (hassign _ pre x W0 V _ hi hb hf hlen fun b V2 hi2 hkf hkp => ?_)⟩
      have hl2 := hkf.same _ _ (by omega) hl' rfl
      have hk2 := hkf.same _ _ (Nat.le_refl _) hk' rfl
      refine ⟨_, run_beginRound hl2 (by rw [hrec]), ?_⟩
      obtain ⟨V3, hV3⟩ : ∃ V3, V2.putObj (w.heap.size + 1) (.loop { rec .ready none with state := .busy }) = V3 := ⟨_, rfl⟩
      have hl3 : V3.heap[w.heap.size + 1]? = some (.loop { rec .ready none with state := .busy }) := by rw [← hV3]; exact World.putObj_heap_same (blk_lt hl2)
      have hk3 : V3.heap[w.heap.size]? = some (.deferred (some [])) := by rw [← hV3]; exact (World.putObj_heap_other (by omega)).trans hk2
      have hi3 : I2 pre (x, b) V3 := by rw [← hV3]; exact (hI2 pre).putObj _ hi2 (by omega) hl2 rfl
      have hp3 : Kp V V3 := by rw [← hV3]; exact hKt hkp (hKb _ _ _ _ (by omega) hl2)
      rw [hV3]
      refine wpIn_mono (hbody _ pre x b V3 hi3 hlen) ?_
      rintro e a4 V4 ⟨rfl, hkf4, hkp4, hi4⟩
      have hl4 := hkf4.same _ _ (by omega) hl3 rfl
      have hk4 := hkf4.same _ _ (Nat.le_refl _) hk3 rfl
      have hr := run_endRound (P := P) none hl4
      rw [hrec] at hr
      refine ⟨_, _, hr, rfl, ⟨hI.putObj _ hi4 (by omega) hl4 rfl, ?_, (World.putObj_heap_other (by omega)).trans hk4⟩, hKt (hKt hp3 hkp4) (hKb _ _ _ _ (by omega) hl4)⟩
      rw [World.putObj_heap_same (blk_lt hl4), hrec]
      rfl
    · rintro e W2 ⟨⟨v, rfl⟩, xs, hS, hi, hl, hk⟩
      have hr := run_endLoop (P := P) hl (by rw [hrec]; simp)
      rw [hrec] at hr
      exact ⟨none, _, hr, hdone xs _ hS (hI.putObj _ hi (by omega) hl rfl) ((World.putObj_heap_other (by omega)).trans hk)⟩
end Go.Proofs.Ytpeahilkmlffkaa
