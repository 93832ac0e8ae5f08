/- Part 2 of what the law's proof needs: words, walks of functions and plain facts. -/
import Derived.RangeFuncNested
import Derived.RangeFuncBound
import Derived.RangeFuncCalls
import Derived.RangeFuncLeaves
import Derived.Shelf.Abstract
import Derived.Shelf.RegionOpen
import Derived.OwnWalkIn
import Derived.TacticsInMore
import Derived.LoopNIn
import Derived.LoopIn
import Derived.WalkKit
import Derived.ArgAppend
import Derived.Shelf.SortM.Plain
import Derived.Shelf.SortM.SortNone
import Derived.Ground.SlgmProg
import Derived.Test.YtlmglnobdcgbeaaGreatProg
import Derived.Lib.SlKeysI
import Derived.Shelf.SlicesQ.Load
import Derived.Lib.Hide
import Derived.Lib.BufferMore
import Derived.Lib.LazyBuf
import Derived.Test.YtlmglnobdcgbeaaGreatE01
set_option linter.unusedVariables false
set_option linter.unusedSimpArgs false
namespace Go.Proofs.YtlmglnobdcgbeaaGreat.R
open Go.RowKit Go.Shelf
structure IStep (B lo c : Nat) (W W' : World) : Prop where
  os : W'.os = W.os
  tape : W'.tape = W.tape
  output : W'.output = W.output
  size : W.heap.size ≤ W'.heap.size
  same : ∀ (k : Nat) (o : Obj), W.heap[k]? = some o → ¬ (lo ≤ k ∧ k < lo + c) → (B ≤ k → o.isCells = true) → W'.heap[k]? = some o
theorem IStep.refl (B lo c : Nat) (W : World) : IStep B lo c W W := ⟨rfl, rfl, rfl, Nat.le_refl _, fun _ _ h _ _ => h⟩
theorem IStep.trans {B lo c : Nat} {X Y Z : World} (h : IStep B lo c X Y) (k : IStep B lo c Y Z) : IStep B lo c X Z :=
  ⟨k.os.trans h.os, k.tape.trans h.tape, k.output.trans h.output, Nat.le_trans h.size k.size, fun j o ho h1 h2 => k.same j o (h.same j o ho h1 h2) h1 h2⟩
theorem IStep.of_below {B lo c : Nat} {W W' : World} (h : Below W.heap.size W W') : IStep B lo c W W' :=
  ⟨h.os, h.tape, h.output, h.size, fun k o ho _ _ => (h.block k (Array.getElem?_eq_some_iff.1 ho).1).trans ho⟩
theorem IStep.lower {B B' lo c : Nat} {W W' : World} (h : IStep B' lo c W W') (hB : B ≤ B') : IStep B lo c W W' :=
  ⟨h.os, h.tape, h.output, h.size, fun k o ho h1 h2 => h.same k o ho h1 (fun h3 => h2 (by omega))⟩
theorem IStep.none_ {B lo lo' : Nat} {W W' : World} (h : IStep B lo 0 W W') : IStep B lo' 0 W W' :=
  ⟨h.os, h.tape, h.output, h.size, fun k o ho h1 h2 => h.same k o ho (fun h3 => by omega) h2⟩
def Stab {β : Type} (B lo c : Nat) (J : β → World → Prop) : Prop := ∀ i W W', J i W → IStep B lo c W W' → J i W'
structure RKeep (n₀ : Nat) (Ex : Nat → Prop) (B : Nat) (E : Nat → Prop) (W W' : World) : Prop where
  size : W.heap.size ≤ W'.heap.size
  same : ∀ k, k < W.heap.size → (k < n₀ ∧ ¬ Ex k ∨ B ≤ k ∧ E (k - B)) → W'.heap[k]? = W.heap[k]?
  book : ∀ (k : Nat) (o : Obj), B ≤ k → W.heap[k]? = some o → o.isCells = false → W'.heap[k]? = some o
theorem RKeep.refl (n₀ : Nat) (Ex : Nat → Prop) (B : Nat) (E : Nat → Prop) (W : World) : RKeep n₀ Ex B E W W := ⟨Nat.le_refl _, fun _ _ _ => rfl, fun _ _ _ h _ => h⟩
theorem RKeep.trans {n₀ : Nat} {Ex : Nat → Prop} {B : Nat} {E : Nat → Prop} {X Y Z : World} (h : RKeep n₀ Ex B E X Y) (k : RKeep n₀ Ex B E Y Z) : RKeep n₀ Ex B E X Z :=
  ⟨Nat.le_trans h.size k.size, fun j hj h1 => (k.same j (Nat.lt_of_lt_of_le hj h.size) h1).trans (h.same j hj h1), fun j o hB ho hc => k.book j o hB (h.book j o hB ho hc) hc⟩
theorem RKeep.of_below {n₀ : Nat} {Ex : Nat → Prop} {B : Nat} {E : Nat → Prop} {W W' : World} (h : Below W.heap.size W W') : RKeep n₀ Ex B E W W' :=
  ⟨h.size, fun k hk _ => h.block k hk, fun k o _ ho _ => (h.block k (Array.getElem?_eq_some_iff.1 ho).1).trans ho⟩
def IterC {α : Type} (F : Fence) (n : Nat) (P : Program) (g : Nat) (lb : Array Value) (xs : List α) (Rv : α → Array Value → World → Prop) (Ex : Nat → Prop) (c : Nat) (E : Nat → Prop) (w : World) : Prop :=
  ∀ (l : Nat) (J Jx : Nat → World → Prop) (W : World), Below w.heap.size w W → Stab W.heap.size W.heap.size c J → Stab W.heap.size W.heap.size c Jx →
    (∀ i x vs W1, xs[i]? = some x → J i W1 → Rv x vs W1 → W.heap.size + c ≤ W1.heap.size → YieldAt F (n - 1) P l vs W1 fun e W' =>
      (e = .returned (.bool true) ∧ J (i + 1) W' ∧ RKeep w.heap.size Ex W.heap.size E W1 W') ∨ (e = .returned (.bool false) ∧ Jx (i + 1) W' ∧ RKeep w.heap.size Ex W.heap.size E W1 W')) →
    J 0 W →
    CallsIn F n P g (#[.func (.yield l) #[] #[]] ++ lb) W fun e W' => (∃ v, e = .returned v) ∧ (J xs.length W' ∨ ∃ i, i ≤ xs.length ∧ Jx i W')
structure BKeep (n₀ : Nat) (Ex : Nat → Prop) (B0 B : Nat) (E : Nat → Prop) (W W' : World) : Prop where
  book : ∀ (k : Nat) (o : Obj), B0 ≤ k → W.heap[k]? = some o → o.isCells = false → W'.heap[k]? = some o
  keep : RKeep n₀ Ex B E W W'
theorem BKeep.refl (n₀ : Nat) (Ex : Nat → Prop) (B0 B : Nat) (E : Nat → Prop) (W : World) : BKeep n₀ Ex B0 B E W W := ⟨fun _ _ _ h _ => h, RKeep.refl _ _ _ _ _⟩
theorem BKeep.trans {n₀ : Nat} {Ex : Nat → Prop} {B0 B : Nat} {E : Nat → Prop} {X Y Z : World} (h : BKeep n₀ Ex B0 B E X Y) (k : BKeep n₀ Ex B0 B E Y Z) : BKeep n₀ Ex B0 B E X Z :=
  ⟨fun j o hB ho hc => k.book j o hB (h.book j o hB ho hc) hc, h.keep.trans k.keep⟩
theorem BKeep.of_below {n₀ : Nat} {Ex : Nat → Prop} {B0 B : Nat} {E : Nat → Prop} {W W' : World} (h : Below W.heap.size W W') : BKeep n₀ Ex B0 B E W W' :=
  ⟨fun k o _ ho _ => (h.block k (Array.getElem?_eq_some_iff.1 ho).1).trans ho, RKeep.of_below h⟩
theorem BKeep.of_block {n₀ : Nat} {Ex : Nat → Prop} {B0 B : Nat} {E : Nat → Prop} {W W' : World} (b : Nat) (hs : W.heap.size ≤ W'.heap.size) (hsame : ∀ k, k < W.heap.size → k ≠ b → W'.heap[k]? = W.heap[k]?)
    (hcell : ∃ o, W.heap[b]? = some o ∧ o.isCells = true) (hex : b < n₀ → Ex b) (hpr : ¬ (B ≤ b ∧ E (b - B))) : BKeep n₀ Ex B0 B E W W' :=
  ⟨fun k o _ ho hc => (hsame k (Array.getElem?_eq_some_iff.1 ho).1 (fun e => by subst e; obtain ⟨o', h1, h2⟩ := hcell; rw [ho] at h1; cases h1; rw [hc] at h2; cases h2)).trans ho,
   ⟨hs, fun k hk h1 => hsame k hk (fun e => by subst e; rcases h1 with h1 | h1; exact h1.2 (hex h1.1); exact hpr h1),
    fun k o _ ho hc => (hsame k (Array.getElem?_eq_some_iff.1 ho).1 (fun e => by subst e; obtain ⟨o', h1, h2⟩ := hcell; rw [ho] at h1; cases h1; rw [hc] at h2; cases h2)).trans ho⟩⟩
def bPost (n₀ : Nat) (Ex : Nat → Prop) (B0 B : Nat) (E : Nat → Prop) (I : Nat → World → Prop) (Ix : Code → Nat → World → Prop) (j : Nat) (W : World) : Exit → Act → World → Prop
  | .normal, _, W' => BKeep n₀ Ex B0 B E W W' ∧ I j W'
  | .ret, _, W' => BKeep n₀ Ex B0 B E W W' ∧ Ix .ret j W'
  | .exit id, _, W' => BKeep n₀ Ex B0 B E W W' ∧ Ix (.exit id) j W'
  | .goto t, _, W' => BKeep n₀ Ex B0 B E W W' ∧ Ix (.goto t) j W'
  | .panic _, _, _ => False
  | .outgrown, _, _ => False
variable {F : Fence} {n : Nat} {P : Program}
theorem istep_putObj {B lo c : Nat} {W : World} {l : Nat} {o : Obj} (o' : Obj) (hl : W.heap[l]? = some o) (ho : o.isCells = false) (hB : B ≤ l) : IStep B lo c W (W.putObj l o') :=
  ⟨rfl, rfl, rfl, by simp, fun k o2 h2 _ h3 => by
    have hne : k ≠ l := fun e => by subst e; rw [hl] at h2; cases h2; rw [h3 hB] at ho; cases ho
    exact (World.putObj_heap_other hne).trans h2⟩
theorem rkeep_putObj {n₀ : Nat} {Ex : Nat → Prop} {B : Nat} {E : Nat → Prop} {W : World} {l : Nat} (o' : Obj) (h0 : n₀ ≤ l) (hB : l < B) : RKeep n₀ Ex B E W (W.putObj l o') :=
  ⟨by simp, fun k _ h1 => World.putObj_heap_other (fun e => by omega), fun k o hk ho _ => (World.putObj_heap_other (fun e => by omega)).trans ho⟩
theorem range_outer {α : Type} {g : Operand} {ps : Array Tmp} {assign body : Code} {Q : Exit → Act → World → Prop} {a : Act} {w : World}
    (hro : F.round = none) (h1 : F.depth.isSome = true → 1 ≤ n) {gf : Nat} {lb : Array Value} (hg : a.eval g = .func (.func gf) #[] lb) (hFg : F.fn gf) (eg : ∀ args w, (callFunc gf args).run P w = .ok (.enter gf args) w)
    {xs : List α} {Rv : α → Array Value → World → Prop} {Ex : Nat → Prop} {c : Nat} {E : Nat → Prop} {w0 : World} (hseq : IterC F (n - 1) P gf lb xs Rv Ex c E w0) (hb0 : Below w0.heap.size w0 w)
    (hps : ∀ x vs W, Rv x vs W → vs.size = ps.size)
    (I : Nat → World → Prop) (Ix : Code → Nat → World → Prop) (hI : Stab w.heap.size (w.heap.size + 2) c I) (hIx : ∀ cd, Stab w.heap.size (w.heap.size + 2) c (Ix cd)) (h0 : I 0 w)
    (Ax : Nat → α → Act → World → Prop) (hAx : ∀ i x a', Stab w.heap.size (w.heap.size + 2) c (fun (_ : Unit) W => Ax i x a' W))
    (hassign : ∀ (l i : Nat) (x : α) (vs : Array Value) (W : World) (K : Act → World → Prop), xs[i]? = some x → I i W → Rv x vs W → w.heap.size + 2 + c ≤ W.heap.size → (∀ a' W', Below W.heap.size W W' → Ax i x a' W' → K a' W') →
      assign.wpIn (F.inRound l) (n - 1 - 1) P (Exit.then K (fun _ _ _ => False)) { tmps := (ps.zip vs).foldl (fun t (p, v) => t.setIfInBounds p v) a.tmps, defers := [] } W)
    (hbody : ∀ (l i : Nat) (x : α) (a' : Act) (W : World), l = w.heap.size + 1 → (∃ r, W.heap[l]? = some (.loop r)) → xs[i]? = some x → Ax i x a' W → w.heap.size + 2 + c ≤ W.heap.size →
      body.wpIn (F.inRound l) (n - 1 - 1) P (bPost w0.heap.size Ex w.heap.size (w.heap.size + 2) E I Ix (i + 1) W) a' W)
    (hdone : ∀ (D : Nat) (W : World), w.heap.size ≤ D → I xs.length W → W.heap[D]? = some (.deferred (some [])) → Q .normal { a with defers := { target := .collected D, args := #[] } :: a.defers } W)
    (hstop : ∀ (D : Nat) (cd : Code) (i : Nat) (W : World), w.heap.size ≤ D → i ≤ xs.length → Ix cd i W → W.heap[D]? = some (.deferred (some [])) → cd.wpIn F n P Q { a with defers := { target := .collected D, args := #[] } :: a.defers } W) :
    (Code.rangeFunc g ps assign body).wpIn F n P Q a w := by
  refine wpIn_rangeFunc ?_
  intro fn hfn
  rw [hro]
  obtain ⟨rec, hrec⟩ : ∃ rec : LoopState → Option Code → Loop, rec = fun st pe => { state := st, pending := pe, fn, tmps := a.tmps, params := ps, assign, body, defers := w.heap.size } := ⟨_, rfl⟩
  obtain ⟨W1, hW1⟩ : ∃ W1, (w.alloc (.deferred (some []))).alloc (.loop (rec .ready none)) = W1 := ⟨_, rfl⟩
  have hsz : W1.heap.size = w.heap.size + 2 := by rw [← hW1]; simp
  have hL1 : W1.heap[w.heap.size + 1]? = some (.loop (rec .ready none)) := by
    rw [← hW1]; have := World.alloc_heap_new (w.alloc (.deferred (some []))) (.loop (rec .ready none)); rwa [World.size_alloc] at this
  have hK1 : W1.heap[w.heap.size]? = some (.deferred (some [])) := by
    rw [← hW1]; exact (Below.heap_alloc _ _ _ (by simp)).trans (World.alloc_heap_new w _)
  have hbW : Below w.heap.size w W1 := by rw [← hW1]; exact ((Below.refl _ w).alloc (Nat.le_refl _) _).alloc (by simp) _
  have hI1 : I 0 W1 := hI 0 w W1 h0 (IStep.of_below hbW)
  have hb1 : Below w0.heap.size w0 W1 := hb0.trans (hbW.mono hb0.size)
  have hn0 : w0.heap.size ≤ w.heap.size := hb0.size
  refine ⟨w.heap.size + 1, [{ target := .collected w.heap.size, args := #[] }], W1, { target := .fn (.func gf) lb, args := #[.func (.yield (w.heap.size + 1)) #[] #[]] }, W1, gf,
    #[.func (.yield (w.heap.size + 1)) #[] #[]] ++ lb, W1, ?_, ?_, ?_, ?_, h1, ?_⟩
  · rw [← hW1, hrec]; exact run_enterLoop_outer _ _ _ _ _
  · simp only [resolve, hg]
    simp [go_sem]
  · intro f' hf'; simp [Target.leads] at hf'; subst hf'; exact hFg
  · simp [invoke, go_sem, eg]
  · have hst : ∀ {J : Nat → World → Prop}, Stab w.heap.size (w.heap.size + 2) c J → Stab W1.heap.size W1.heap.size c J := fun hJ i A B h hs => hJ i A B h (by rw [hsz] at hs; exact hs.lower (by omega))
    have hrecs : ∀ {A B : World} {k : Nat} {o : Obj}, IStep W1.heap.size W1.heap.size c A B → k < w.heap.size + 2 → A.heap[k]? = some o → B.heap[k]? = some o := fun hs hk ho => hs.same _ _ ho (by omega) (fun h => by omega)
    refine (hseq (w.heap.size + 1)
      (fun i W => I i W ∧ W.heap[w.heap.size + 1]? = some (.loop (rec .ready none)) ∧ W.heap[w.heap.size]? = some (.deferred (some [])))
      (fun i W => ∃ cd, Ix cd i W ∧ W.heap[w.heap.size + 1]? = some (.loop (rec .done (some cd))) ∧ W.heap[w.heap.size]? = some (.deferred (some [])))
      W1 hb1 (fun i A B h hs => ⟨hst hI i A B h.1 hs, hrecs hs (by omega) h.2.1, hrecs hs (by omega) h.2.2⟩)
      (fun i A B h hs => by obtain ⟨cd, hc, hl, hk⟩ := h; exact ⟨cd, hst (hIx cd) i A B hc hs, hrecs hs (by omega) hl, hrecs hs (by omega) hk⟩)
      ?_ ⟨hI1, hL1, hK1⟩).mono ?_
    · rintro i x vs W hx ⟨hi, hl, hk⟩ hrv hsize
      have hlt : w.heap.size + 1 < W.heap.size := (Array.getElem?_eq_some_iff.1 hl).1
      have hy := run_yield (P := P) (args := vs) hl (by rw [hrec]; exact hps x vs W hrv)
      rw [hrec] at hy
      refine ⟨fn, _, assign, body, hy, roundIn_of_wpIn hfn (hassign _ i x vs W _ hx hi hrv (by omega) ?_)⟩
      clear hy
      intro a' Wa hba hax
      have hla := (hba.block _ hlt).trans hl
      have hka := (hba.block _ (show w.heap.size < W.heap.size by omega)).trans hk
      have hlta : w.heap.size + 1 < Wa.heap.size := (Array.getElem?_eq_some_iff.1 hla).1
      refine ⟨_, run_beginRound hla (by rw [hrec]), ?_⟩
      obtain ⟨W2, hW2⟩ : ∃ W2, Wa.putObj (w.heap.size + 1) (.loop { rec .ready none with state := .busy }) = W2 := ⟨_, rfl⟩
      rw [hW2]
      have hl2 : W2.heap[w.heap.size + 1]? = some (.loop { rec .ready none with state := .busy }) := by rw [← hW2]; exact World.putObj_heap_same hlta
      have hk2 : W2.heap[w.heap.size]? = some (.deferred (some [])) := by rw [← hW2]; exact (World.putObj_heap_other (by omega)).trans hka
      have hs2 : W2.heap.size = Wa.heap.size := by rw [← hW2]; simp
      have hax2 : Ax i x a' W2 := by rw [← hW2]; exact hAx i x a' () _ _ hax (istep_putObj _ hla rfl (by omega))
      have hkp2 : RKeep w0.heap.size Ex W1.heap.size E W W2 := (RKeep.of_below hba).trans (by rw [← hW2]; exact rkeep_putObj _ (by omega) (by omega))
      have hba' := hba.size
      refine wpIn_mono (hbody _ i x a' W2 rfl ⟨_, hl2⟩ hx hax2 (by omega)) ?_
      have fin : ∀ (jump : Option Code) (W3 : World), BKeep w0.heap.size Ex w.heap.size (w.heap.size + 2) E W2 W3 →
          (Instr.endRound (w.heap.size + 1) jump).run P W3 = .ok (.bool jump.isNone) (W3.putObj (w.heap.size + 1) (.loop (rec (if jump.isNone then .ready else .done) jump))) ∧
          W3.heap[w.heap.size + 1]? = some (.loop { rec .ready none with state := .busy }) ∧
          (W3.putObj (w.heap.size + 1) (.loop (rec (if jump.isNone then .ready else .done) jump))).heap[w.heap.size + 1]? = some (.loop (rec (if jump.isNone then .ready else .done) jump)) ∧
          (W3.putObj (w.heap.size + 1) (.loop (rec (if jump.isNone then .ready else .done) jump))).heap[w.heap.size]? = some (.deferred (some [])) := fun jump W3 hk3 => by
        have hl3 := hk3.book _ _ (by omega) hl2 rfl
        have := run_endRound (P := P) jump hl3
        rw [hrec] at this ⊢
        exact ⟨this, by rw [hrec] at hl3; exact hl3, World.putObj_heap_same (Array.getElem?_eq_some_iff.1 hl3).1, (World.putObj_heap_other (by omega)).trans (hk3.book _ _ (Nat.le_refl _) hk2 rfl)⟩
      rintro e a3 W3 hp
      cases e with
      | normal =>
        obtain ⟨hk3, hi3⟩ := hp
        obtain ⟨hr, hl3, hl4, hk4⟩ := fin none W3 hk3
        refine ⟨_, _, hr, .inl ⟨rfl, ⟨hI _ _ _ hi3 (istep_putObj _ hl3 rfl (by omega)), hl4, hk4⟩, ?_⟩⟩
        have hk3' := hk3.keep
        rw [← hsz] at hk3'
        exact hkp2.trans (hk3'.trans (rkeep_putObj _ (by omega) (by omega)))
      | ret =>
        obtain ⟨hk3, hi3⟩ := hp
        obtain ⟨hr, hl3, hl4, hk4⟩ := fin (some .ret) W3 hk3
        have hk3' := hk3.keep
        rw [← hsz] at hk3'
        exact ⟨_, _, hr, .inr ⟨rfl, ⟨.ret, hIx _ _ _ _ hi3 (istep_putObj _ hl3 rfl (by omega)), hl4, hk4⟩, hkp2.trans (hk3'.trans (rkeep_putObj _ (by omega) (by omega)))⟩⟩
      | exit id =>
        obtain ⟨hk3, hi3⟩ := hp
        obtain ⟨hr, hl3, hl4, hk4⟩ := fin (some (.exit id)) W3 hk3
        have hk3' := hk3.keep
        rw [← hsz] at hk3'
        exact ⟨_, _, hr, .inr ⟨rfl, ⟨.exit id, hIx _ _ _ _ hi3 (istep_putObj _ hl3 rfl (by omega)), hl4, hk4⟩, hkp2.trans (hk3'.trans (rkeep_putObj _ (by omega) (by omega)))⟩⟩
      | goto t =>
        obtain ⟨hk3, hi3⟩ := hp
        obtain ⟨hr, hl3, hl4, hk4⟩ := fin (some (.goto t)) W3 hk3
        have hk3' := hk3.keep
        rw [← hsz] at hk3'
        exact ⟨_, _, hr, .inr ⟨rfl, ⟨.goto t, hIx _ _ _ _ hi3 (istep_putObj _ hl3 rfl (by omega)), hl4, hk4⟩, hkp2.trans (hk3'.trans (rkeep_putObj _ (by omega) (by omega)))⟩⟩
      | panic ch => exact hp.elim
      | outgrown => exact hp.elim
    · rintro e W2 ⟨⟨v, rfl⟩, (⟨hi, hl, hk⟩ | ⟨i, hle, cd, hi, hl, hk⟩)⟩
      · exact ⟨none, _, by have := run_endLoop (P := P) hl (by rw [hrec]; simp); rw [hrec] at this; exact this, hdone _ _ (Nat.le_refl _) (hI _ _ _ hi (istep_putObj _ hl rfl (by omega))) ((World.putObj_heap_other (by omega)).trans hk)⟩
      · exact ⟨some cd, _, by have := run_endLoop (P := P) hl (by rw [hrec]; simp); rw [hrec] at this; exact this, hstop _ cd i _ (Nat.le_refl _) hle (hIx _ _ _ _ hi (istep_putObj _ hl rfl (by omega))) ((World.putObj_heap_other (by omega)).trans hk)⟩
end Go.Proofs.YtlmglnobdcgbeaaGreat.R
namespace Go.Proofs.YtlmglnobdcgbeaaGreat.R
open Go.RowKit Go.Shelf YtlmglnobdcgbeaaGreatW.PrintWords YtlmglnobdcgbeaaGreatW.PrintLast YtlmglnobdcgbeaaGreatW.PrintMore
def Op.noDefer : Op → Bool
  | .defer _ => false
  | _ => true
theorem Op.noDefer_spec {o : Op} (h : Op.noDefer o = true) : ∀ c, o ≠ .defer c := fun c e => by subst e; simp [Op.noDefer] at h
abbrev RF (l : Nat) : Fence := Fence.wide.inRound l
theorem rows_in {n l : Nat} {P : Program} {row : String} {args : Array Value} {w : World} {R : Value → World → Prop} (h : Rows P row args w R) : RowsIn (RF l) n P row args w R :=
  fun c cs _ => let ⟨v, w', r, s⟩ := h c cs; ⟨v, w', r, stepsIn_wide.2 s⟩
theorem upon_in {n l : Nat} {P : Program} {o : Oper} {a : Act} {next next' : Act → World → Prop} {Q : Exit → Act → World → Prop} (hn : ∀ a w, next a w → next' a w) :
    ∀ {r : Result Next}, o.upon P a next Q r → o.uponIn (RF l) n P a next' Q r := by
  intro r h
  cases r with
  | ok x w =>
    cases x with
    | value v => exact hn _ _ h
    | skip => exact hn _ _ h
    | defer d => exact hn _ _ h
    | enter f args =>
      refine ⟨(fun h0 => by cases h0), CallsIn.inRound l (callsIn_wide.2 (Calls.mono h ?_))⟩
      intro e w' h'
      cases e with
      | returned v => exact hn _ _ h'
      | panicked c => exact h'
      | outgrown => exact h'
    | row r args => exact ⟨(fun h0 => by cases h0), rows_in (Rows.mono h fun v w' h' => hn _ _ h')⟩
    | round => exact h.elim
    | _ => exact h.elim
  | halt x w =>
    cases x with
    | panic v => exact h
    | _ => exact h.elim
theorem oper_in {n l : Nat} {P : Program} {o : Oper} {a : Act} {w : World} {next next' : Act → World → Prop} {Q : Exit → Act → World → Prop} (hd : Op.noDefer o.op = true) (hn : ∀ a w, next a w → next' a w)
    (h : o.wp P a w next Q) : o.wpIn (RF l) n P a w next' Q := by
  refine ⟨fun _ _ => trivial, ?_⟩
  have e : o.semAt (RF l).round a.eval = execOp a.eval o := Oper.semAt_some l _ _ (Op.noDefer_spec hd)
  rw [e]
  exact upon_in hn h
theorem ops_in {n l : Nat} {P : Program} {ops : Array Oper} {Q : Exit → Act → World → Prop} (hd : ∀ (i : Nat) (o : Oper), ops[i]? = some o → Op.noDefer o.op = true) (hQ : ¬ LetsOut Q) :
    ∀ (is : List Nat) (a : Act) (w : World), wpOps P ops Q is a w → wpOpsIn (RF l) n P ops Q is a w
  | [], _, _, h => h
  | i :: is, a, w, h => by
    unfold wpOps at h
    unfold wpOpsIn
    cases ho : ops[i]? with
    | none => rw [ho] at h; exact ops_in hd hQ is a w h
    | some o =>
      rw [ho] at h
      simp only [] at h ⊢
      by_cases hw : Region.wanted o (yielded ops a.tmps) = true
      · rw [if_pos hw] at h ⊢
        rcases h with h | h
        · exact oper_in (hd i o ho) (ops_in hd hQ is) h
        · exact absurd h.2 hQ
      · rw [if_neg hw] at h ⊢
        exact ⟨fun _ _ => trivial, ops_in hd hQ is _ _ h⟩
def noDeferL (l : List Oper) : Bool := l.all fun o => Op.noDefer o.op
theorem noDeferL_spec {l : List Oper} (h : noDeferL l = true) : ∀ (i : Nat) (o : Oper), l.toArray[i]? = some o → Op.noDefer o.op = true := fun i o ho => by
  have h1 : l[i]? = some o := by simpa using ho
  exact List.all_eq_true.1 h o (List.mem_of_getElem? h1)
theorem regIn_lit_ {n r id : Nat} {P : Program} {l : List Oper} {Q : Exit → Act → World → Prop} {a : Act} {w : World} (hd : noDeferL l = true) (hQ : ¬ LetsOut Q) (h : wpList P l.toArray Q l a w) :
    (Code.region id l.toArray false).wpIn (RF r) n P Q a w := by
  refine wpIn_region (ops_in (noDeferL_spec hd) hQ _ _ _ ?_)
  have := wpOps_eq_wpList (P := P) (ops := l.toArray) (Q := Q) l 0 (by intro j; simp)
  simp only [List.size_toArray]
  rw [List.range_eq_range', this]
  exact h
def Lifts (F : Fence) : Prop := ∀ (n : Nat) (P : Program) (o : Oper) (a : Act) (w : World) (next next' : Act → World → Prop) (Q : Exit → Act → World → Prop), Op.noDefer o.op = true → (∀ a w, next a w → next' a w) → o.wp P a w next Q → o.wpIn F n P a w next' Q
theorem lifts_in (l : Nat) : Lifts (RF l) := fun _ _ _ _ _ _ _ _ hd hn h => oper_in hd hn h
def blank (o : Oper) : Oper := { o with dst := none, op := .move (.const (.bool true)), guard := none }
theorem anyIn_last_absurd {ops : Array Oper} {y : Nat} {listed : Array Bool} (hon : ∀ (i : Nat) (o : Oper), ops[i]? = some o → ∀ e ∈ o.after, e.on < i) (hylt : y < ops.size) (hsz : listed.size = ops.size)
    (hyl : listed.getD y true = false) (hr : Region.ready .any ops listed = []) : False := by
  have hall : ∀ i, i < ops.size → listed.getD i true = true := by
    intro i
    induction i using Nat.strongRecOn with
    | _ i ih =>
      intro hi
      by_cases hl : listed.getD i true = true
      · exact hl
      · exfalso
        have hm : i ∈ Region.ready .any ops listed := by
          unfold Region.ready
          refine List.mem_filter.2 ⟨List.mem_range.2 hi, ?_⟩
          simp only [Bool.and_eq_true, Bool.not_eq_true', Bool.not_eq_true] at hl ⊢
          refine ⟨hl, ?_⟩
          rw [Array.getElem?_eq_getElem hi]
          simp only [Option.map_some, Option.getD_some]
          refine Array.all_eq_true_iff_forall_mem.2 fun e he => ?_
          have h1 := hon i ops[i] (Array.getElem?_eq_getElem hi) e he
          have h2 := ih e.on h1 (by omega)
          have hb : e.on < listed.size := by omega
          simp only [Array.getD, hb, dif_pos] at h2 ⊢
          have h3 : listed[e.on]'hb = true := h2
          simp [h3]
        rw [hr] at hm; cases hm
  rw [hall y hylt] at hyl; cases hyl
theorem oper_panic_mono {F : Fence} {n : Nat} {P : Program} {o : Oper} {a : Act} {w : World} {K : Act → World → Prop} {Q Q' : Exit → Act → World → Prop} (hp : ∀ c a w, Q' (.panic c) a w → Q (.panic c) a w) (ho : ¬ LetsOut Q')
    (h : o.wpIn F n P a w K Q') : o.wpIn F n P a w K Q := by
  refine ⟨h.1, ?_⟩
  have h2 := h.2
  revert h2
  generalize (o.semAt F.round a.eval).run P w = r
  intro h2
  cases r with
  | ok x w =>
    cases x with
    | value v => exact h2
    | skip => exact h2
    | defer d => exact h2
    | enter f args =>
      refine ⟨h2.1, h2.2.mono ?_⟩
      intro e w' h'
      cases e with
      | returned v => exact h'
      | panicked c => exact hp _ _ _ h'
      | outgrown => exact absurd h' ho
    | row r args => exact h2
    | round l f t c d =>
      refine ⟨h2.1, h2.2.mono ?_⟩
      intro e w' h'
      cases e with
      | returned v => exact h'
      | panicked c => exact hp _ _ _ h'
      | outgrown => exact absurd h' ho
    | _ => exact h2.elim
  | halt x w =>
    cases x with
    | panic v => exact hp _ _ _ h2
    | _ => exact h2.elim
theorem yield_any {F : Fence} (hd : F.depth = none) {n n' : Nat} {P : Program} {l : Nat} {vs : Array Value} {W : World} {R : Ending → World → Prop} (h : YieldAt F n P l vs W R) : YieldAt F n' P l vs W R := by
  obtain ⟨fn, tmps, assign, body, hr, hR⟩ := h
  exact ⟨fn, tmps, assign, body, hr, hR.1, fun c cs _ => hR.2 c cs (fun d hh => by rw [hd] at hh; cases hh)⟩
theorem yield_in {F : Fence} {n : Nat} {P : Program} {l : Nat} {vs : Array Value} {W : World} {R : Ending → World → Prop} (l' : Nat) (h : YieldAt F n P l vs W R) : YieldAt (F.inRound l') n P l vs W R := h
theorem oper_yield {F : Fence} {n l : Nat} {P : Program} {o : Oper} {a : Act} {w : World} {K : Act → World → Prop} {Q : Exit → Act → World → Prop} {x : Operand} {ys : Array Operand} {ts : Array TypeId} {vs : Array Value} (hd : F.depth = none) (hF : ∀ f, F.fn f)
    (ho : o.op = .call { callee := .value x, args := ys, argTypes := ts }) (hx : a.eval x = .func (.yield l) #[] #[]) (hy : ys.map a.eval = vs)
    (h : YieldAt F (n - 1) P l vs w fun e w' => (∃ v, e = .returned v ∧ K (a.put o.dst v) w')) : o.wpIn F n P a w K Q := by
  obtain ⟨fn, tmps, assign, body, hr, hR⟩ := h
  refine ⟨fun f _ => hF f, ?_⟩
  have e : o.semAt F.round a.eval = execOp a.eval o := by
    cases hr : F.round with
    | none => rfl
    | some l => exact Oper.semAt_some l _ _ (fun c hc => by rw [ho] at hc; cases hc)
  have hs : (execOp a.eval o).run P w = .ok (.round l fn tmps assign body) w := by
    unfold execOp
    simp [ho, resolve, Deferred.ofValue, invoke, hx, hy, hr]
  rw [e, hs]
  refine ⟨fun h0 => (by rw [hd] at h0; cases h0), hR.mono ?_⟩
  rintro e w' ⟨v, rfl, hk⟩
  exact hk
end Go.Proofs.YtlmglnobdcgbeaaGreat.R
namespace Go.Proofs.YtlmglnobdcgbeaaGreat.P
open Go.RowKit Go.Shelf Go.Proofs.YtlmglnobdcgbeaaGreatW.PrintWords Go.Proofs.YtlmglnobdcgbeaaGreatW.PrintLast Go.Proofs.YtlmglnobdcgbeaaGreatW.PrintMore Go.Proofs.YtlmglnobdcgbeaaGreat.R
theorem regW_lit_ {n id : Nat} {P : Program} {l : List Oper} {Q : Exit → Act → World → Prop} {a : Act} {w : World} (h : wpList P l.toArray Q l a w) :
    (Code.region id l.toArray false).wpIn Fence.wide n P Q a w := wpIn_wide.2 (wp_region_lit h)
theorem slice_of_own {w : World} {base n : Nat} {v : Value} {xs : List Value} (h : w.ownsRow base 3 1 v n xs) : (v = .slice none 0 0 ∧ n = 0 ∧ xs = []) ∨ ∃ g c cells, v = .slice (some ⟨g, 0, none⟩) n c ∧ base ≤ g ∧ w.heap[g]? = some (.cells cells 3 (0, 0)) ∧ n ≤ c ∧ c ≤ maxLen ∧ cells.size = c * 1 ∧ cells.toList.take xs.length = xs := by
  obtain ⟨h1, h2⟩ := h
  rcases h2 with ⟨h2, h3⟩ | ⟨g, cap, cur, rfl, hg, hh, r⟩
  · exact .inl ⟨h2, h3, by subst h3; simpa using h1⟩
  · exact .inr ⟨g, cap, cur, rfl, hg, hh, r.1, r.2.1, r.2.2.1, by rw [h1]; exact r.2.2.2⟩
def mk (D : Nat) : Deferred := { target := .collected D, args := #[] }
inductive Marks (lo : Nat) : List Nat → World → Prop
  | nil (W : World) : Marks lo [] W
  | cons {D : Nat} {Ds : List Nat} {W : World} (h : W.heap[D]? = some (.deferred (some []))) (hlo : lo ≤ D) (hd : ∀ E ∈ Ds, E ≠ D) (t : Marks lo Ds W) : Marks lo (D :: Ds) W
theorem Marks.keep {lo : Nat} {Ds : List Nat} {W W' : World} (h : Marks lo Ds W) (hk : ∀ D ∈ Ds, lo ≤ D → W.heap[D]? = some (.deferred (some [])) → W'.heap[D]? = some (.deferred (some []))) : Marks lo Ds W' := by
  induction h with
  | nil => exact .nil _
  | cons h hlo hd t ih => exact .cons (hk _ (List.mem_cons_self ..) hlo h) hlo hd (ih fun D hD => hk D (List.mem_cons_of_mem _ hD))
theorem Marks.leaves {lo n : Nat} {P : Program} {fn : Func} {tmps : Array Value} {R : Ending → World → Prop} {Ds : List Nat} :
    ∀ {W : World}, Marks lo Ds W → (∀ W', IStep lo lo 0 W W' → ∃ v, (results fn tmps).run P W' = .ok v W' ∧ R (.returned v) W') → LeavesInM Fence.wide n P fn tmps R (Ds.map mk) .returning W := by
  induction Ds with
  | nil =>
    intro W h hR
    exact hR _ (IStep.refl _ _ _ _)
  | cons D Ds ih =>
    intro W h hR
    cases h with
    | cons h hlo hd t =>
      refine ⟨by simp, .inl ⟨D, _, rfl, run_takeDeferred h, ?_⟩⟩
      refine ih (t.keep fun E hE _ he => (World.putObj_heap_other (hd E hE)).trans he) fun W' hs => hR W' ((istep_putObj _ h rfl hlo).trans hs)
theorem Marks.lt {lo : Nat} {Ds : List Nat} {W : World} (h : Marks lo Ds W) : ∀ D ∈ Ds, D < W.heap.size := by
  induction h with
  | nil => intro D hD; cases hD
  | cons h hlo hd t ih => intro D hD; rcases List.mem_cons.1 hD with rfl | hD; exact (Array.getElem?_eq_some_iff.1 h).1; exact ih D hD
theorem own_C {w : World} {base n : Nat} {A : Option Addr} {c : Nat} {xs : List Int} (h : w.ownsRow base 3 1 (.slice A n c) n (nums .i64 xs)) : Kd.C (Kd.int .i64) w A n xs := by
  obtain ⟨A', c', e, hr⟩ := own_reads_of (enc := Value.int .i64) (d := (0 : Int)) h
  cases e
  exact Kd.C_of_reads hr
theorem R_istep {W W' : World} {b lo base : Nat} {v : Value} {xs : List Int} (h : Kd.R (Kd.int .i64) 3 W base (fun _ => True) v xs) (k : IStep b lo 0 W W') : Kd.R (Kd.int .i64) 3 W' base (fun _ => True) v xs := by
  refine Kd.R_mono (Kd.R_move (Kd.R_tight rfl h) fun g hg => ?_) (fun _ _ => trivial)
  obtain ⟨_, inner, ho, _⟩ := h
  obtain ⟨cells, hc⟩ := own_typed ho g hg.symm
  rw [hc]
  exact k.same g _ hc (fun h3 => by omega) (fun _ => rfl)
theorem Below_istep {n : Nat} {w W W' : World} {b lo : Nat} (h : Below n w W) (hw : n ≤ w.heap.size) (k : IStep b lo 0 W W') (hb : n ≤ b) : Below n w W' := by
  refine h.trans ⟨k.os, k.tape, k.output, k.size, fun j hj => ?_⟩
  have hjW : j < W.heap.size := Nat.lt_of_lt_of_le (Nat.lt_of_lt_of_le hj hw) h.size
  rw [k.same j _ (Array.getElem?_eq_getElem hjW) (fun h3 => by omega) (fun h3 => by omega), Array.getElem?_eq_getElem hjW]
def RvI (x : Int) (vs : Array Value) (W : World) : Prop := vs = #[.int .i64 x]
set_option maxHeartbeats 4000000 in
set_option maxRecDepth 100000 in
theorem values_iter (zs : List Int) (A : Option Addr) (c n : Nat) (w : World) (B : Nat) (Ex E : Nat → Prop) (hn : 1 ≤ n)
    (hC : ∀ W', w.heap.size ≤ W'.heap.size → (∀ k, k < w.heap.size → ¬ Ex k → W'.heap[k]? = w.heap[k]?) → W'.heap[B]? = some (.cells #[.slice A zs.length c] 23 (0, 0)) ∧ Kd.C (Kd.int .i64) W' A zs.length zs) :
    IterC Fence.wide n Tryz.prog 118 #[.pointer (some ⟨B, 0, none⟩)] zs RvI Ex 0 E w := by
  intro l J Jx W hW hJ hJx hY h0
  have hcap := hC W hW.size (fun k hk _ => hW.block k hk)
  have hbig : zs.length ≤ 9223372036854775807 := hcap.2.2.1
  have hc0 : W.cell? ⟨B, 0, none⟩ = some (.slice A zs.length c) := (blk_cell hcap.1 0).trans rfl
  have HC := Aside0.mk hC
  have HJ := Aside0.mk hJ
  have HY := Aside0.mk hY
  have HW := Aside0.mk hW
  clear hC hJ hJx hY hcap hW
  refine callsIn_of_wp Tryz.func118 rfl trivial ?_ rfl
  simp only [Tryz.ntmps118, List.size_toArray, List.length_cons, List.length_nil, Nat.reduceAdd, Nat.reduceSub, Array.replicate_succ, Array.replicate_zero, List.push_toArray, List.append_toArray, List.nil_append, List.cons_append]
  gi_wp2
  gi_loopw [7] (fun i wr => ∃ k : Nat, k ≤ zs.length ∧ i = .int .i64 k ∧ J k wr ∧ Aside0 (W.heap.size ≤ wr.heap.size) ∧ Aside0 (∀ j, j < w.heap.size → ¬ Ex j → wr.heap[j]? = W.heap[j]?))
    (fun i _ => zs.length - (intOf i).toNat)
  case atStart => exact ⟨0, Nat.zero_le _, rfl, h0, ⟨Nat.le_refl _⟩, ⟨fun _ _ _ => rfl⟩⟩
  case round =>
    obtain ⟨k, hk, rfl, hJs, HS, HK⟩ := hrel
    by_cases hlt : k < zs.length
    · have hread := (HC.out wr (Nat.le_trans HW.out.size HS.out) (fun j hj hx => (HK.out j hj hx).trans (HW.out.block j hj))).2
      obtain ⟨ad, rfl, hcell⟩ := Kd.at_int hread (k : Int) (by omega) (by omega)
      rw [Int.toNat_natCast] at hcell
      have hrd : rd zs (k : Int) = zs[k] := by simp [rd, List.getD_eq_getElem?_getD, List.getElem?_eq_getElem hlt]
      rw [hrd] at hcell
      obtain ⟨fn, tmps, assign, body, hy, hR⟩ := HY.out k zs[k] #[.int .i64 zs[k]] wr (List.getElem?_eq_getElem hlt) hJs rfl HS.out
      have HR := Aside0.mk hR
      clear hread hrd hR hc0 hJs h0
      generalize zs[k] = x at hcell hy HR
      gi_wp2
      refine HR.out.mono ?_
      rintro e W3 (⟨rfl, hJ3, hk3⟩ | ⟨rfl, hJx3, hk3⟩)
      · have H3 := Aside0.mk hk3
        clear hk3
        gi_wp2
        go_roundw
        case rel =>
          exact ⟨k + 1, by omega, by simp, hJ3, ⟨Nat.le_trans HS.out H3.out.size⟩, ⟨fun j hj hx => (H3.out.same j (Nat.lt_of_lt_of_le hj (Nat.le_trans HW.out.size HS.out)) (.inl ⟨hj, hx⟩)).trans (HK.out j hj hx)⟩⟩
        case measure => simp [intOf]; omega
      · clear hk3
        gi_wp2
        refine bodyPost_ret (results_none rfl _ _ _) rfl ?_
        exact ⟨⟨_, rfl⟩, .inr ⟨_, by omega, hJx3⟩⟩
    · obtain rfl : k = zs.length := by omega
      gi_wp2
      go_end0
      exact ⟨⟨_, rfl⟩, .inl hJs⟩
set_option maxHeartbeats 1000000 in
theorem values_calls (A : Option Addr) (n c : Nat) (w : World) : Calls Tryz.prog 95 #[.slice A n c] w fun e w' => e = .returned (.func (.func 118) #[] #[.pointer (some ⟨w.heap.size, 0, none⟩)]) ∧ w' = w.alloc (.cells #[.slice A n c] 23) := by
  go_enter Tryz.func95, Tryz.ntmps95
  go_wp2
  go_ret
  exact ⟨rfl, rfl⟩
theorem bkeep_append {n0 gb B0 B : Nat} {W W1 : World} {v u : Value} {cs : Array Value} {t : TypeId} (hcs : W.heap[gb]? = some (.cells cs t (0, 0))) (hg : W.grownBy W1 v.ownBlock) (hv : ∀ k, v.ownBlock = some k → n0 ≤ k ∧ ∃ cells, W.heap[k]? = some (.cells cells 3 (0, 0))) :
    BKeep n0 (fun k => k = gb) B0 B (fun _ => False) W (W1.setCell ⟨gb, 0, none⟩ u) := by
  have hsame : ∀ k, k < W.heap.size → k ≠ gb → v.ownBlock ≠ some k → (W1.setCell ⟨gb, 0, none⟩ u).heap[k]? = W.heap[k]? := fun k hk h1 h2 => (Below.heap_setCell W1 ⟨gb, 0, none⟩ u k h1).trans (hg.block k hk (fun e => h2 e.symm))
  have hsz : W.heap.size ≤ (W1.setCell ⟨gb, 0, none⟩ u).heap.size := by simpa [World.setCell] using hg.size
  have hbk : ∀ (k : Nat) (o : Obj), W.heap[k]? = some o → o.isCells = false → (W1.setCell ⟨gb, 0, none⟩ u).heap[k]? = some o := fun k o ho hc =>
    (hsame k (Array.getElem?_eq_some_iff.1 ho).1 (fun e => by subst e; rw [hcs] at ho; cases ho; cases hc) (fun e => by obtain ⟨cells, h⟩ := (hv k e).2; rw [h] at ho; cases ho; cases hc)).trans ho
  refine ⟨fun k o _ ho hc => hbk k o ho hc, hsz, fun k hk h1 => ?_, fun k o _ ho hc => hbk k o ho hc⟩
  rcases h1 with ⟨h1, h2⟩ | ⟨_, h2⟩
  · exact hsame k hk h2 (fun e => by have := (hv k e).1; omega)
  · exact h2.elim
set_option maxHeartbeats 16000000 in
set_option maxRecDepth 100000 in
theorem appendSeq_calls (zs : List Int) (A : Option Addr) (c : Nat) (B : Nat) (w : World) (hB : w.heap[B]? = some (.cells #[.slice A zs.length c] 23 (0, 0))) (hr : Kd.C (Kd.int .i64) w A zs.length zs) (hlen : zs.length ≤ 1000000) :
    Calls Tryz.prog 124 #[.slice none 0 0, .func (.func 118) #[] #[.pointer (some ⟨B, 0, none⟩)]] w fun e w' => ∃ v, e = .returned v ∧ Kd.R (Kd.int .i64) 3 w' w.heap.size (fun _ => True) v zs ∧ Below w.heap.size w w' := by
  refine (callsIn_wide (n := 5)).1 (callsIn_of_wp_marks Tryz.func124 rfl trivial ?_ rfl)
  simp only [Tryz.ntmps124, List.size_toArray, List.length_cons, List.length_nil, Nat.reduceAdd, Nat.reduceSub, Array.replicate_succ, Array.replicate_zero, List.push_toArray, List.append_toArray, List.nil_append, List.cons_append]
  have Ab := Aside0.mk hB
  have Ar := Aside0.mk hr
  have Al := Aside0.mk hlen
  clear hB hr hlen
  go_wp2_with (first
    | ((with_reducible refine gate_dst (N := 2) rfl ?_); refine box_event ?hg (N := 2) ?hd (cs := #[.slice none 0 0]) (t := 23) ?hr ?_; (case hd => rfl); (case hg => rfl); (case hr => first | (go_simp; done) | (go_simp; rfl)); intro gb102 hg2 w2 hx2 hb2; have HG2 := Aside0.mk hg2; clear hg2)
    | (with_reducible refine regW_lit_ ?_) | gi_step)
  have hs2 := hb2.size
  have g2 := HG2.out
  have hgl := (Array.getElem?_eq_some_iff.1 hx2).1
  have hBl := (Array.getElem?_eq_some_iff.1 Ab.out).1
  have hseq := values_iter zs A c 4 w2 B (fun k => k = gb102) (fun _ => False) (by omega) (by
    intro W' hsz hsame
    refine ⟨(hsame _ (by omega) (by omega)).trans ((hb2.block _ (by omega)).trans Ab.out), ?_⟩
    exact Kd.C_F (Kd.heap_int _) Ar.out W' (fun k hk _ => (hsame k (by omega) (by omega)).trans (hb2.block k hk)))
  refine range_outer (xs := zs) (Rv := RvI) (Ex := fun k => k = gb102) (c := 0) (E := fun _ => False) (w0 := w2) rfl (fun h0 => by cases h0) (gf := 118) rfl trivial (fun args w => enters_ Tryz.func118 (by kernel_rfl) rfl args w) hseq (Below.refl _ _) (fun x vs W h => by subst h; rfl)
    (fun i W' => ∃ v, W'.heap[gb102]? = some (.cells #[v] 23 (0, 0)) ∧ Kd.R (Kd.int .i64) 3 W' w2.heap.size (fun _ => True) v (zs.take i) ∧ Below w.heap.size w W')
    (fun _ _ _ => False) ?hI (fun _ _ _ _ h _ => h) ⟨.slice none 0 0, hx2, Kd.R_nil _ _ _ _ _, below_step (Below.refl _ _) hb2⟩
    (fun i x a' W' => a' = { tmps := #[.slice none 0 0, .func (.func 118) #[] #[.pointer (some ⟨B, 0, none⟩)], .pointer (some ⟨gb102, 0, none⟩), undef, .slice none 0 0, .int .i64 x, .func (.func 118) #[] #[.pointer (some ⟨B, 0, none⟩)], .int .i64 x, undef, undef, undef, undef, undef], defers := [] } ∧ ∃ v, W'.heap[gb102]? = some (.cells #[v] 23 (0, 0)) ∧ Kd.R (Kd.int .i64) 3 W' w2.heap.size (fun _ => True) v (zs.take i) ∧ Below w.heap.size w W')
    ?hAx ?assign ?body ?done (fun _ _ _ _ _ _ h => h.elim)
  case hI =>
    rintro i X Y ⟨v, h1, h2, h3⟩ hs
    exact ⟨v, hs.same _ _ h1 (by omega) (fun _ => rfl), R_istep h2 hs, Below_istep h3 (Nat.le_refl _) hs (by omega)⟩
  case hAx =>
    rintro i x a' _ X Y ⟨ha, v, h1, h2, h3⟩ hs
    exact ⟨ha, v, hs.same _ _ h1 (by omega) (fun _ => rfl), R_istep h2 hs, Below_istep h3 (Nat.le_refl _) hs (by omega)⟩
  case assign =>
    rintro l' i x vs W' K hx hi rfl hsz hK
    simp only [List.zip_toArray, List.zip_cons_cons, List.zip_nil_right, List.zip_nil_left, List.size_toArray, List.foldl_toArray', List.foldl_cons, List.foldl_nil, List.setIfInBounds_toArray, List.set_cons_zero, List.set_cons_succ, List.length_cons, List.length_nil]
    clear hseq
    have Hi := Aside0.mk hi
    clear hi hx2 g2
    go_wp2_with (first | ((with_reducible refine regIn_lit_ ?hnd ?hlo ?_); (case hnd => kernel_rfl); (case hlo => rintro ⟨_, _, h⟩; exact h)) | gi_step)
    exact hK _ _ (Below.refl _ _) ⟨rfl, Hi.out⟩
  case body =>
    rintro l' i x a' W' hl' hloop hx ⟨rfl, v, h1, h2, h3⟩ hsz
    obtain ⟨hlt, hxe⟩ := List.getElem?_eq_some_iff.1 hx
    have hsn : zs.take i ++ [x] = zs.take (i + 1) := by rw [← hxe, List.take_succ_eq_append_getElem hlt]
    have hll : (zs.take i).length ≤ 1000000 := by have := Al.out; have := List.length_take_le i zs; omega
    obtain ⟨A2, c2, rfl⟩ := Kd.R_slice h2
    have hty := Kd.R_bound h2
    have hRt := Kd.R_types h2 h1 (by decide)
    have hne := Kd.R_ne h2 h1 (by decide)
    have hbase := Kd.R_base h2
    have hc : W'.cell? ⟨gb102, 0, none⟩ = some (.slice A2 (zs.take i).length c2) := (blk_cell h1 0).trans rfl
    have Hsn := Aside0.mk hsn
    have Hll := Aside0.mk hll
    have Hrt := Aside0.mk hRt
    have Hty := Aside0.mk hty
    have Hne := Aside0.mk hne
    have Hba := Aside0.mk hbase
    have H1 := Aside0.mk h1
    have H3 := Aside0.mk h3
    have Hsz := Aside0.mk hsz
    clear hsn hll hRt hty hne hbase h1 h2 h3 hsz hx hxe hseq hloop hlt hx2 g2 hl'
    generalize zs.take i = ys at *
    go_wp2_with (first
      | ((with_reducible refine regIn_lit_ ?hnd ?hlo ?_); (case hnd => kernel_rfl); (case hlo => rintro ⟨_, _, h⟩; exact h))
      | ((with_reducible refine gate_builtin (b := .append) (xs := #[.tmp 8, .tmp 10]) rfl ?_); at_builtin; refine Kd.R_append (Kd.int .i64) (w0 := W') w2.heap.size rfl (.tmp 8) (.tmp 10) 23 3 (.int .i64 0) 8 rfl Tryz.underlying23 info3 rfl (by decide) (by omega) (.slice A2 ys.length c2) ys x [.int .i64 x] (fun k_ => True ∧ k_ ≠ gb102) (fun _ => False) rfl (by first | (go_simp; done) | (go_simp; rfl)) ?aP (fun _ hk => hk.elim) ?aF ?aO ?aB ?aS ?aL ?_; (case aP => exact rfl); (case aB => exact ⟨rfl, rfl, rfl, Nat.le_refl _, fun _ _ => rfl⟩); (case aF => exact (fun k_ hk => ⟨trivial, by have := Hsz.out; omega⟩)); (case aO => exact Hrt.out); (case aS => have := Hsz.out; omega); (case aL => have := Hll.out; omega); intro v1 w3 ho hb hg hat; have ho3 := Aside0.mk ho; have hb3 := Aside0.mk hb; have hg3 := Aside0.mk hg; have h13 := Aside0.mk (blk_grown H1.out hg Hne.out); have hc3 : w3.cell? ⟨gb102, 0, none⟩ = some (.slice A2 ys.length c2) := (blk_cell h13.out 0).trans rfl; have hf3 := blk_frozen h13.out 0; obtain ⟨A3, c3, rfl⟩ := Kd.R_slice ho; clear ho hb hg hat hc)
      | gi_step)
    refine ⟨bkeep_append (v := .slice A2 ys.length c2) H1.out hg3.out (fun k e => ⟨Hba.out k e, ?_⟩), _, blk_put (cs := #[.slice A2 ys.length c2]) h13.out 0 _ rfl, ?_, ?_⟩
    · obtain ⟨_, _, _, q, hq, cells, hcl⟩ := Hty.out.1 k e
      have hq3 : q = 3 := by
        rcases List.mem_cons.1 hq with h | h
        · exact h
        · exact absurd (show q ∈ ([] : List Nat) from h) (by simp)
      subst hq3
      exact ⟨cells, hcl⟩
    · rw [← Hsn.out]
      exact Kd.R_mono (Kd.R_far (p := ⟨gb102, 0, none⟩) (show Kd.R (Kd.int .i64) 3 w3 w2.heap.size (fun k_ => True ∧ k_ ≠ gb102) (.slice A3 (ys.length + 1) c3) (ys ++ [x]) from by have h_ := ho3.out; rw [List.length_append] at h_; exact h_) (fun k hk => hk.2) _) (fun _ _ => trivial)
    · exact (H3.out.trans (hb3.out.mono (by omega))).setCell (p := ⟨gb102, 0, none⟩) (by show w.heap.size ≤ gb102; have := HG2.out; omega) _
  case done =>
    rintro D W' hD ⟨v, h1, h2, h3⟩ hmk
    rw [List.take_length] at h2
    obtain ⟨A2, c2, rfl⟩ := Kd.R_slice h2
    have hc : W'.cell? ⟨gb102, 0, none⟩ = some (.slice A2 zs.length c2) := (blk_cell h1 0).trans rfl
    have H2 := Aside0.mk h2
    have H3 := Aside0.mk h3
    have HD := Aside0.mk hD
    have HM := Aside0.mk hmk
    clear hseq h1 h2 h3 hmk hD hx2 g2
    simp only [Exit.inBlock, Exit.then, Act.put, List.setIfInBounds_toArray, List.set_cons_zero, List.set_cons_succ]
    go_wp2_with (first | (with_reducible refine regW_lit_ ?_) | gi_step)
    refine Marks.leaves (lo := w2.heap.size) (Ds := [D]) (.cons (show W'.heap[D]? = _ from HM.out) HD.out (fun E hE => by cases hE) (.nil _)) fun W2 hs => ⟨.slice A2 zs.length c2, ?res, _, rfl, Kd.R_lower (R_istep H2.out hs) (by omega), Below_istep H3.out (Nat.le_refl _) hs (by omega)⟩
    have hr : Tryz.f124.results = #[.tmp 4] := rfl
    unfold results
    rw [hr]
    simp [go_sem]
set_option maxHeartbeats 1000000 in
theorem collect_calls (zs : List Int) (A : Option Addr) (c : Nat) (B : Nat) (w : World) (hB : w.heap[B]? = some (.cells #[.slice A zs.length c] 23 (0, 0))) (hr : Kd.C (Kd.int .i64) w A zs.length zs) (hlen : zs.length ≤ 1000000) :
    Calls Tryz.prog 117 #[.func (.func 118) #[] #[.pointer (some ⟨B, 0, none⟩)]] w fun e w' => ∃ v, e = .returned v ∧ Kd.R (Kd.int .i64) 3 w' w.heap.size (fun _ => True) v zs ∧ Below w.heap.size w w' := by
  have H := Aside0.mk (appendSeq_calls zs A c B w hB hr hlen)
  clear hB hr hlen
  go_enter Tryz.func117, Tryz.ntmps117
  go_wp2_with (first | (go_at_call 124; refine H.out.mono ?_; rintro e w' ⟨v, rfl, h1, h2⟩; have H1 := Aside0.mk h1; have H2 := Aside0.mk h2; clear h1 h2))
  go_ret
  exact ⟨_, rfl, H1.out, H2.out⟩
end Go.Proofs.YtlmglnobdcgbeaaGreat.P
namespace Go.Proofs
open Go.Shelf
def Tryz.sortA_ren : Go.Shelf.Ren := ⟨fun | 5 => 100 | 8 => 120 | 7 => 121 | 19 => 133 | 20 => 134 | 10 => 135 | 11 => 136 | 12 => 137 | 13 => 138 | 14 => 139 | 15 => 140 | 16 => 141 | 17 => 142 | 18 => 143 | 30 => 150 | 31 => 146 | 32 => 147 | 33 => 151 | 34 => 152 | 35 => 153 | 40 => 155 | n => n, fun | 23 => 23 | 25 => 3 | 3 => 3 | 32 => 90 | 22 => 23 | 0 => 0 | 44 => 161 | 46 => 163 | 4 => 4 | 36 => 154 | 35 => 153 | 41 => 158 | 5 => 5 | 9 => 9 | 53 => 168 | 57 => 172 | 63 => 176 | 64 => 49 | n => n, fun | n => n⟩
theorem Tryz.sortA : Go.Proofs.SlLaysM.n5 Tryz.prog Tryz.sortA_ren := {
  mixed := by kernel_rfl
  f5 := ⟨Tryz.f100.name, by decide, Tryz.func100.trans (congrArg some (by kernel_rfl))⟩
  f7 := ⟨Tryz.f121.name, by decide, Tryz.func121.trans (congrArg some (by kernel_rfl))⟩
  f8 := Tryz.func120.trans (congrArg some (by kernel_rfl))
  f10 := ⟨Tryz.f135.name, by decide, Tryz.func135.trans (congrArg some (by kernel_rfl))⟩
  f11 := ⟨Tryz.f136.name, by decide, Tryz.func136.trans (congrArg some (by kernel_rfl))⟩
  f12 := ⟨Tryz.f137.name, by decide, Tryz.func137.trans (congrArg some (by kernel_rfl))⟩
  f13 := ⟨Tryz.f138.name, by decide, Tryz.func138.trans (congrArg some (by kernel_rfl))⟩
  f14 := ⟨Tryz.f139.name, by decide, Tryz.func139.trans (congrArg some (by kernel_rfl))⟩
  f15 := ⟨Tryz.f140.name, by decide, Tryz.func140.trans (congrArg some (by kernel_rfl))⟩
  f16 := ⟨Tryz.f141.name, by decide, Tryz.func141.trans (congrArg some (by kernel_rfl))⟩
  f17 := ⟨Tryz.f142.name, by decide, Tryz.func142.trans (congrArg some (by kernel_rfl))⟩
  f18 := ⟨Tryz.f143.name, by decide, Tryz.func143.trans (congrArg some (by kernel_rfl))⟩
  f19 := Tryz.func133.trans (congrArg some (by kernel_rfl))
  f20 := Tryz.func134.trans (congrArg some (by kernel_rfl))
  f30 := ⟨Tryz.f150.name, by decide, Tryz.func150.trans (congrArg some (by kernel_rfl))⟩
  f31 := Tryz.func146.trans (congrArg some (by kernel_rfl))
  f32 := Tryz.func147.trans (congrArg some (by kernel_rfl))
  f33 := ⟨Tryz.f151.name, by decide, Tryz.func151.trans (congrArg some (by kernel_rfl))⟩
  f34 := ⟨Tryz.f152.name, by decide, Tryz.func152.trans (congrArg some (by kernel_rfl))⟩
  f35 := ⟨Tryz.f153.name, by decide, Tryz.func153.trans (congrArg some (by kernel_rfl))⟩
  f40 := ⟨Tryz.f155.name, by decide, Tryz.func155.trans (congrArg some (by kernel_rfl))⟩
  t0 := Tryz.underlying0
  a0 := Tryz.isAgg0
  z0 := Tryz.sizeOf0
  v0 := Tryz.zeroValue0
  t3 := Tryz.underlying3
  a3 := Tryz.isAgg3
  z3 := Tryz.sizeOf3
  v3 := Tryz.zeroValue3
  t4 := Tryz.underlying4
  a4 := Tryz.isAgg4
  z4 := Tryz.sizeOf4
  v4 := Tryz.zeroValue4
  t5 := Tryz.underlying5
  a5 := Tryz.isAgg5
  z5 := Tryz.sizeOf5
  v5 := Tryz.zeroValue5
  t9 := Tryz.underlying9
  a9 := Tryz.isAgg9
  z9 := Tryz.sizeOf9
  v9 := Tryz.zeroValue9
  t22 := Tryz.underlying23
  a22 := Tryz.isAgg23
  z22 := Tryz.sizeOf23
  v22 := Tryz.zeroValue23
  t23 := Tryz.underlying23
  a23 := Tryz.isAgg23
  z23 := Tryz.sizeOf23
  v23 := Tryz.zeroValue23
  t25 := Tryz.underlying3
  a25 := Tryz.isAgg3
  z25 := Tryz.sizeOf3
  v25 := Tryz.zeroValue3
  t32 := Tryz.underlying90
  a32 := Tryz.isAgg90
  z32 := Tryz.sizeOf90
  v32 := Tryz.zeroValue90
  t35 := Tryz.underlying153
  a35 := Tryz.isAgg153
  z35 := Tryz.sizeOf153
  v35 := Tryz.zeroValue153
  t36 := Tryz.underlying154
  a36 := Tryz.isAgg154
  z36 := Tryz.sizeOf154
  v36 := Tryz.zeroValue154
  t41 := Tryz.underlying158
  a41 := Tryz.isAgg158
  z41 := Tryz.sizeOf158
  v41 := Tryz.zeroValue158
  t44 := Tryz.underlying161
  a44 := Tryz.isAgg161
  z44 := Tryz.sizeOf161
  v44 := Tryz.zeroValue161
  t46 := Tryz.underlying163
  a46 := Tryz.isAgg163
  z46 := Tryz.sizeOf163
  v46 := Tryz.zeroValue163
  t53 := Tryz.underlying168
  a53 := Tryz.isAgg168
  z53 := Tryz.sizeOf168
  v53 := Tryz.zeroValue168
  t57 := Tryz.underlying172
  a57 := Tryz.isAgg172
  z57 := Tryz.sizeOf172
  v57 := Tryz.zeroValue172
  t63 := Tryz.underlying176
  a63 := Tryz.isAgg176
  z63 := Tryz.sizeOf176
  v63 := Tryz.zeroValue176
  t64 := Tryz.underlying49
  a64 := Tryz.isAgg49
  z64 := Tryz.sizeOf49
  v64 := Tryz.zeroValue49 }
end Go.Proofs
namespace Go.Proofs.YtlmglnobdcgbeaaGreat.P
open Go.RowKit Go.Shelf Go.Sort Go.Proofs.YtlmglnobdcgbeaaGreatW.PrintWords Go.Proofs.YtlmglnobdcgbeaaGreatW.PrintLast Go.Proofs.YtlmglnobdcgbeaaGreatW.PrintMore Go.Proofs.YtlmglnobdcgbeaaGreat.R
def srt (l : List Int) : List Int := l.mergeSort fun x y => decide (x ≤ y)
theorem srt_length (l : List Int) : (srt l).length = l.length := by simp [srt]
theorem R_block {w : World} {base : Nat} {ok : Nat → Prop} {v : Value} {xs : List Int} (h : Kd.R (Kd.int .i64) 3 w base ok v xs) :
    (v = .slice none 0 0 ∧ xs = []) ∨ ∃ g cap cur, v = .slice (some ⟨g, 0, none⟩) xs.length cap ∧ base ≤ g ∧ w.heap[g]? = some (.cells cur 3 (0, 0)) ∧ xs.length ≤ cap ∧ cap ≤ maxLen ∧ cur.size = cap * 1 ∧ cur.toList.take xs.length = xs.map encZ := by
  have ho := Kd.own_of_R h
  rcases slice_of_own ho with ⟨h1, h2, h3⟩ | ⟨g, c, cells, h1, h2, h3, h4, h5, h6, h7⟩
  · exact .inl ⟨h1, List.eq_nil_of_length_eq_zero h2⟩
  · exact .inr ⟨g, c, cells, h1, h2, h3, h4, h5, h6, by have e : (encs (Value.int .i64) xs).length = xs.length := encs_length _; rw [e] at h7; exact h7⟩
set_option maxHeartbeats 2000000 in
theorem sort_calls {W : World} {base : Nat} {v : Value} {xs : List Int} (h : Kd.R (Kd.int .i64) 3 W base (fun _ => True) v xs) (hlen : xs.length ≤ 1000000) :
    Calls Tryz.prog 100 #[v] W fun e w' => e = .returned (.tuple #[]) ∧ Kd.R (Kd.int .i64) 3 w' base (fun _ => True) v (srt xs) ∧ W.grownBy w' v.ownBlock := by
  rcases R_block h with ⟨rfl, rfl⟩ | ⟨g, cap, cur, rfl, hb, hg, h1, h2, h3, h4⟩
  · refine (AnyM.slices_Sort_int_none Tryz.sortA none 0 W).mono ?_
    rintro e w' ⟨rfl, rfl⟩
    exact ⟨rfl, by simpa [srt] using h, World.grownBy.refl _ _⟩
  · have hH : Holds encZ W g 0 xs.toArray := holds_of_block_i hg h4
    refine (AnyM.slices_Sort_int Tryz.sortA g 0 cap xs W hH (Array.getElem?_eq_some_iff.1 hg).1 (by omega)).mono ?_
    rintro e w' ⟨rfl, n, os, rfl⟩
    refine ⟨rfl, ?_, grownBy_sorted_i _⟩
    have ho := ownsRow_sorted_i (n := n) (os := os) (ts := srt xs) (srt_length xs) hb hg h1 h2 h3
    have hl := srt_length xs
    refine Kd.R_of_own (h1 := fun _ => rfl) (enc := Value.int .i64) (xs := srt xs) ?_ (fun _ _ => trivial)
    rw [hl]
    exact ho
set_option maxHeartbeats 2000000 in
theorem sorted_calls (zs : List Int) (A : Option Addr) (c : Nat) (B : Nat) (w : World) (hB : w.heap[B]? = some (.cells #[.slice A zs.length c] 23 (0, 0))) (hr : Kd.C (Kd.int .i64) w A zs.length zs) (hlen : zs.length ≤ 1000000) :
    Calls Tryz.prog 94 #[.func (.func 118) #[] #[.pointer (some ⟨B, 0, none⟩)]] w fun e w' => ∃ v, e = .returned v ∧ Kd.R (Kd.int .i64) 3 w' w.heap.size (fun _ => True) v (srt zs) ∧ Below w.heap.size w w' := by
  have H := Aside0.mk (collect_calls zs A c B w hB hr hlen)
  have HL := Aside0.mk hlen
  clear hB hr hlen
  go_enter Tryz.func94, Tryz.ntmps94
  go_wp2_with (first
    | (go_at_call 117; refine H.out.mono ?_; rintro e w1 ⟨v, rfl, h1, h2⟩; have H1 := Aside0.mk h1; have H2 := Aside0.mk h2; clear h1 h2)
    | (go_at_call 100; refine (sort_calls H1.out HL.out).mono ?_; rintro e w2 ⟨rfl, h3, h4⟩; have H3 := Aside0.mk h3; have H4 := Aside0.mk h4; clear h3 h4))
  go_ret
  exact ⟨_, rfl, H3.out, H2.out.grown H4.out H2.out.size (Kd.R_base H1.out)⟩
end Go.Proofs.YtlmglnobdcgbeaaGreat.P
namespace Go.Proofs.YtlmglnobdcgbeaaGreat.P
open Go.RowKit Go.Shelf Go.Sort Go.Proofs.YtlmglnobdcgbeaaGreatW.PrintWords Go.Proofs.YtlmglnobdcgbeaaGreatW.PrintLast Go.Proofs.YtlmglnobdcgbeaaGreatW.PrintMore Go.Proofs.YtlmglnobdcgbeaaGreat.R
attribute [local go_sem] max2_int min2_int max_two min_two max_three min_three max_four min_four
def turn_isOrder.l0 : Nat → List Int → Int → List Int → Int → Int → Option (Bool)
  | 0, _, _, _, _, _ => none
  | k + 1, x0, x1, x11, x12, x13 => if x13 < x12 then (if 0 ≤ x13 then (if x13 < (x11.length : Int) then (if x13 = (rd x11 x13) then (turn_isOrder.l0 k x0 x1 x11 x12 (wrap64 (x13 + 1))) else (some false)) else (none)) else (none)) else (some ((x0.length : Int) == x1))
def turn_isOrder.f (l0 : List Int) (a1 : Int) : Option (Bool) := if l0.length ≤ 1000000 then turn_isOrder.l0 (l0.length + 2) l0 a1 (srt l0) ((srt l0).length : Int) 0 else none
set_option maxHeartbeats 8000000 in
set_option maxRecDepth 100000 in
theorem turn_isOrder.calls (A0 : Option Addr) (c0 : Nat) (l0 : List Int) (a1 : Int) (r : Bool) (w : World) (hr0 : Kd.C (Kd.int .i64) w A0 l0.length l0) (hc0 : l0.length ≤ c0) (h : turn_isOrder.f l0 a1 = some r) :
    Calls Tryz.prog 60 #[.slice A0 l0.length c0, .int .i64 a1] w fun e w' => e = .returned (.bool r) ∧ Below w.heap.size w w' := by
  unfold turn_isOrder.f at h
  by_cases hlen : l0.length ≤ 1000000
  case neg => rw [if_neg hlen] at h; cases h
  rw [if_pos hlen] at h
  generalize l0.length + 2 = k at h
  obtain ⟨w1, hw1⟩ : ∃ w1, w.alloc (.cells #[.slice A0 l0.length c0] 23) = w1 := ⟨_, rfl⟩
  have hb1 : Below w.heap.size w w1 := by rw [← hw1]; exact (Below.refl _ w).alloc (Nat.le_refl _) _
  have hs := sorted_calls l0 A0 c0 w.heap.size w1 (by rw [← hw1]; exact World.alloc_heap_new w _) (Kd.C_below hr0 hb1) hlen
  have hv := values_calls A0 l0.length c0 w
  rw [hw1] at hv
  have HS := Aside0.mk hs
  have HV := Aside0.mk hv
  have HB1 := Aside0.mk hb1
  have HC0 := Aside0.mk hc0
  clear hr0 hc0 hs hv hb1 hw1
  have H' := Aside0.mk h
  clear h
  go_enter Tryz.func60, Tryz.ntmps60
  go_wp2_with (first
    | (go_at_call 95; refine HV.out.mono ?_; rintro e w_ ⟨rfl, rfl⟩)
    | (go_at_call 94; refine HS.out.mono ?_; rintro e w2 ⟨v, rfl, h1, h2⟩; obtain ⟨A2, c2, rfl⟩ := Kd.R_slice h1
       have HR2 := Aside0.mk (own_C (Kd.own_of_R h1)); have HB2 := Aside0.mk (HB1.out.trans (h2.mono HB1.out.size)); clear h1 h2; generalize srt l0 = ls at H' HR2 ⊢))
  go_loopg [13] k (fun kq v13 w' => ∃ (x13_1 : Int), v13 = .int .i64 x13_1 ∧ Aside0 (turn_isOrder.l0 kq l0 a1 ls (ls.length : Int) x13_1 = some r) ∧ Aside0 (kq ≤ k) ∧ Drawn0 w2 w')
  case atStart => exact ⟨(0), (by first | rfl | (simp; done) | (simp [*]; done)), H', ⟨Nat.le_refl _⟩, by repeat (first | exact Drawn0.refl _ | apply Drawn0.step)⟩
  case round =>
    clear H'
    try clear p2
    obtain ⟨x13_1, rfl, HA, HK1, ⟨m1, rfl⟩⟩ := hrel
    cases gk with
    | zero => exact absurd HA.out (by simp [turn_isOrder.l0])
    | succ k1 =>
      have H := HA.out
      clear HA
      simp only [turn_isOrder.l0] at H
      by_cases c3 : x13_1 < (ls.length : Int)
      · rw [if_pos c3] at H
        have c3b0 : decide (x13_1 < (ls.length : Int)) = true := decide_eq_true c3
        clear c3
        by_cases c4 : 0 ≤ x13_1
        · rw [if_pos c4] at H
          have c4b0 : decide (0 ≤ x13_1) = true := decide_eq_true c4
          clear c4
          by_cases c5 : x13_1 < (ls.length : Int)
          · rw [if_pos c5] at H
            have c5b0 : decide (x13_1 < (ls.length : Int)) = true := decide_eq_true c5
            clear c5
            by_cases c6 : x13_1 = (rd ls x13_1)
            · rw [if_pos c6] at H
              have c6b0 : (x13_1 == (rd ls x13_1)) = true := beq_iff_eq.mpr c6
              have c6b1 : (x13_1 != (rd ls x13_1)) = false := bne_eq_false_iff_eq.mpr c6
              clear c6
              have H' := Aside0.mk H
              clear H
              have p101 : 0 ≤ (x13_1 : Int) := of_decide_eq_true (by first | (with_reducible assumption) | assumption)
              have q101 : x13_1 < (ls.length : Int) := of_decide_eq_true (by first | (with_reducible assumption) | assumption)
              obtain ⟨ad101, e101, hx101_0⟩ := Kd.at_int HR2.out x13_1 p101 q101
              cases e101
              replace p101 := eq_true p101
              replace q101 := eq_true q101
              go_wp2
              go_roundg k1
              case measure => have := HK1.out; omega
              case rel => exact ⟨(wrap64 (x13_1 + 1)), (by first | rfl | (simp; done) | (simp [*]; done)), H', ⟨by have := HK1.out; omega⟩, by repeat (first | exact Drawn0.refl _ | apply Drawn0.step)⟩
            · rw [if_neg c6] at H
              have c6b0 : (x13_1 == (rd ls x13_1)) = false := beq_eq_false_iff_ne.mpr c6
              have c6b1 : (x13_1 != (rd ls x13_1)) = true := bne_iff_ne.mpr c6
              obtain rfl := Option.some.inj H
              have p101 : 0 ≤ (x13_1 : Int) := of_decide_eq_true (by first | (with_reducible assumption) | assumption)
              have q101 : x13_1 < (ls.length : Int) := of_decide_eq_true (by first | (with_reducible assumption) | assumption)
              obtain ⟨ad101, e101, hx101_0⟩ := Kd.at_int HR2.out x13_1 p101 q101
              cases e101
              replace p101 := eq_true p101
              replace q101 := eq_true q101
              go_wp2
              go_ret
              exact ⟨by first | rfl | (simp; done) | (simp [*]; done), HB2.out.trans ⟨rfl, rfl, rfl, Nat.le_refl _, fun _ _ => rfl⟩⟩
          · rw [if_neg c5] at H
            exact absurd H (by simp)
        · rw [if_neg c4] at H
          exact absurd H (by simp)
      · rw [if_neg c3] at H
        have c3b0 : decide (x13_1 < (ls.length : Int)) = false := decide_eq_false c3
        clear c3
        obtain rfl := Option.some.inj H
        go_wp2
        go_ret
        exact ⟨by first | rfl | (simp; done) | (simp [*]; done), HB2.out.trans ⟨rfl, rfl, rfl, Nat.le_refl _, fun _ _ => rfl⟩⟩
end Go.Proofs.YtlmglnobdcgbeaaGreat.P
namespace Go.Proofs.YtlmglnobdcgbeaaGreat.P
open Go.RowKit Go.Proofs.YtlmglnobdcgbeaaGreatW.PrintWords Go.Proofs.YtlmglnobdcgbeaaGreatW.PrintLast Go.Proofs.YtlmglnobdcgbeaaGreatW.PrintMore
attribute [local go_sem] max2_int min2_int max_two min_two max_three min_three max_four min_four
def turn_Check.j0 : Nat → Bool → List (S67) → List Int → Option (Int)
 | 0, _, _, _ => none
 | k + 1, x5, x102000, x102001 => if x5 = true then (some 4) else (if (x102000.length : Int) > 10 then (some 5) else ((any_at_turn_Check_1.f x102000 x102000 x102001).bind fun t107 => (if t107 = true then (some 2) else (some 0))))
def turn_Check.f (k : Nat) (l0_0 : List (S67)) (l0_1 : List Int) : Option (Int) := (turn_within.f 1 6 (([(l0_1.length : Int)] : List Int))).bind fun t105 => (if t105 = true then ((turn_isOrder.f l0_1 (l0_1.length : Int)).bind fun t106 => (turn_Check.j0 k (!t106) l0_0 l0_1)) else (turn_Check.j0 k (!t105) l0_0 l0_1))
theorem turn_Check.mono_l : ∀ k, (∀ y0 y1 y2, LeO (turn_Check.j0 k y0 y1 y2) (turn_Check.j0 (k + 1) y0 y1 y2))
 | 0 => fun _ _ _ r h => by simp [turn_Check.j0] at h
 | k + 1 => by
  have ih0 := turn_Check.mono_l k
  ·intro y0 y1 y2
   unfold turn_Check.j0
   repeat' first
   | (with_reducible exact ih0 _ _ _)
   | (with_reducible exact LeO.refl _)
   | (with_reducible exact LeO.none _)
   | (with_reducible refine LeO.ite ?_ ?_)
   | (with_reducible refine LeO.bind ?_ (fun _ => ?_))
   | exact ih0 _ _ _
   | exact LeO.none _
   | refine LeO.ite ?_ ?_
   | refine LeO.bind ?_ (fun _ => ?_)
theorem turn_Check.mono : ∀ a0 a1 k, LeO (turn_Check.f k a0 a1) (turn_Check.f (k + 1) a0 a1) := by
 intro a0 a1 k
 have ih0 := turn_Check.mono_l k
 unfold turn_Check.f
 repeat' first
   | (with_reducible exact ih0 _ _ _)
   | (with_reducible exact LeO.refl _)
   | (with_reducible exact LeO.none _)
   | (with_reducible refine LeO.ite ?_ ?_)
   | (with_reducible refine LeO.bind ?_ (fun _ => ?_))
   | exact ih0 _ _ _
   | exact LeO.none _
   | refine LeO.ite ?_ ?_
   | refine LeO.bind ?_ (fun _ => ?_)
set_option maxHeartbeats 8000000 in
set_option maxRecDepth 100000 in
theorem turn_Check.calls (k : Nat) (A0_0 : Option Addr) (c0_0 : Nat) (l0_0 : List (S67)) (A0_1 : Option Addr) (c0_1 : Nat) (l0_1 : List Int) (r : Int) (w : World) (hr0_0 : Kd.C k67 w A0_0 l0_0.length l0_0) (hc0_0 : l0_0.length ≤ c0_0) (hr0_1 : Kd.C (Kd.int .i64) w A0_1 l0_1.length l0_1) (hc0_1 : l0_1.length ≤ c0_1) (h : turn_Check.f k l0_0 l0_1 = some r) :
  Calls Tryz.prog 19 #[.agg #[.slice A0_0 l0_0.length c0_0, .slice A0_1 l0_1.length c0_1]] w fun e w' => e = .returned (.int .i64 r) ∧ Below w.heap.size w w' := by
 have hu25 := Tryz.underlying25
 have HR0_0 := Aside0.mk hr0_0
 have HC0_0 := Aside0.mk hc0_0
 clear hr0_0 hc0_0
 have HR0_1 := Aside0.mk hr0_1
 have HC0_1 := Aside0.mk hc0_1
 clear hr0_1 hc0_1
 have HB := Aside0.mk (Below.refl w.heap.size w)
 have H : ((turn_within.f 1 6 (([(l0_1.length : Int)] : List Int))).bind fun t105 => (if t105 = true then ((turn_isOrder.f l0_1 (l0_1.length : Int)).bind fun t106 => (turn_Check.j0 k (!t106) l0_0 l0_1)) else (turn_Check.j0 k (!t105) l0_0 l0_1))) = some r := h
 clear h
 obtain ⟨y102, hy102⟩ : ∃ y_ : List Int, y_ = (([(l0_1.length : Int)] : List Int)) := ⟨_, rfl⟩
 replace H : Option.bind (turn_within.f 1 6 y102) _ = some r := yy hy102 H
 have Ny102 := Aside0.mk hy102
 clear hy102
 obtain ⟨t105, A2, H⟩ := bi H
 have HC3 := Aside0.mk H
 clear H
 go_enter Tryz.func19, Tryz.ntmps19
 go_upto_if 5 with (first | ((with_reducible refine gate_dst (N := 1) rfl ?_); refine bx 1 #[.slice A0_0 l0_0.length c0_0, .slice A0_1 l0_1.length c0_1] 25 ?_; intro gb101 hg w4 hbox hb; have BK101 := hbox; have GW101 := gs HB hg; have GE101 := gs HB hg; replace HB := bs HB hb; clear hb hbox hg; obtain ⟨hcz5_0, hcz5_1, hfz5_0, hfz5_1⟩ := cf2 BK101) | ((with_reducible refine gate_dst (N := 9) rfl ?_); refine Kd.R_lit (Kd.int .i64) _ 3 ?hg (N := 9) ?hd (xs := ([(l0_1.length : Int)] : List Int)) (inner := [.int .i64 (l0_1.length : Int)]) (ok := fun _ => True) (okp := fun _ => True) ?hr ?hp (fun _ hk => hk) trivial (Below.refl _ _) (Nat.le_refl _) (by simp) ?_; (case hd => rfl); (case hg => rfl); (case hr => first | (go_simp; done) | (go_simp; rfl)); (case hp => exact (Reps.one (show Kd.M (Kd.int .i64) _ _ _ (l0_1.length : Int) [.int .i64 (l0_1.length : Int)] from rfl) (Reps.none _ _))); intro v103 w6 ho7 hb hg_ hnew_; clear hg_ hnew_; (first | rw [← Ny102.out] at ho7 | (simp only [Int.reduceToNat] at ho7; rw [← Ny102.out] at ho7)); have HO104 := rl ho7 HB; replace BK101 := bb BK101 hb; replace HB := bs HB hb; clear hb ho7; obtain ⟨Ao8, co8, eo8⟩ := Kd.R_slice HO104.out; subst eo8) | ((with_reducible refine gc 59 rfl ?_); refine gL 10 Tryz.func59 #[.int .i64 1, .int .i64 6, .slice Ao8 y102.length co8] ?_; (with_reducible refine (turn_within.calls 1 6 _ _ y102 t105 _ ?side1 ?side2 A2.out).mono ?_); (case side1 => exact pC (Kd.R_reads' HO104.out).2.2); (case side2 => exact (Kd.R_reads' HO104.out).2.1); rintro e w9 ⟨rfl, hb⟩; refine ⟨_, rfl, ?_⟩; replace HO104 := rb HO104 hb; replace BK101 := bb BK101 hb; replace HB := bs HB hb; clear hb))
 (try simp only [Act.put, List.setIfInBounds_toArray, List.set_cons_zero, List.set_cons_succ])
 go_cut [5] (fun v5 wc => ∃ (kq : Nat) (x5_2 : Bool), v5 = .bool x5_2 ∧ Aside0 (turn_Check.j0 kq x5_2 l0_0 l0_1 = some r) ∧ Aside0 (kq ≤ k) ∧ Aside0 (wc.heap[gb101]? = some (.cells #[(.slice A0_0 l0_0.length c0_0), (.slice A0_1 l0_1.length c0_1)] 25 (0, 0))) ∧ Aside0 (Below w.heap.size w wc))
 case first =>
  have H := HC3.out
  clear HC3
  by_cases c10 : t105 = true
  ·subst c10
   rw [if_pos rfl] at H
   obtain ⟨t106, A11, H⟩ := bi H
   have H' := Aside0.mk H
   clear H
   obtain ⟨hcz12_0, hcz12_1, hfz12_0, hfz12_1⟩ := cf2 BK101
   go_wp2_with (first | ((with_reducible refine gc 60 rfl ?_); refine gL 17 Tryz.func60 #[.slice A0_1 l0_1.length c0_1, .int .i64 (l0_1.length : Int)] ?_; (with_reducible refine (turn_isOrder.calls _ _ l0_1 (l0_1.length : Int) t106 _ ?side1 ?side2 A11.out).mono ?_); (case side1 => exact pC (Kd.C_below HR0_1.out HB.out)); (case side2 => exact HC0_1.out); rintro e w13 ⟨rfl, hb⟩; refine ⟨_, rfl, ?_⟩; replace HO104 := rb HO104 hb; replace BK101 := bb BK101 hb; replace HB := bs HB hb; clear hb))
   go_meet
   case rel => exact ⟨_, (!t106), (by first | rfl | (simp; done) | (simp [*]; done)), H', ⟨by first | omega | exact Nat.le_refl _⟩, ⟨pB BK101.out⟩, ⟨pE HB⟩⟩
  ·replace c10 := Bool.eq_false_iff.mpr c10
   subst c10
   rw [if_neg (show ¬ (false = true) by decide)] at H
   have H' := Aside0.mk H
   clear H
   go_wp2
   go_meet
   case rel => exact ⟨_, (!false), (by first | rfl | (simp; done) | (simp [*]; done)), H', ⟨by first | omega | exact Nat.le_refl _⟩, ⟨pB BK101.out⟩, ⟨pE HB⟩⟩
 case rest =>
  clear HC3
  try clear c1
  try clear p2
  try clear c5
  try clear c6
  try clear c10
  try clear hcz12_0
  try clear hcz12_1
  try clear hcz5_0
  try clear hcz5_1
  try clear hfz12_0
  try clear hfz12_1
  try clear hfz5_0
  try clear hfz5_1
  obtain ⟨kq, x5_2, rfl, HA, HJ2, BK101, HB⟩ := hcut
  cases kq with
  | zero => exact absurd HA.out (by simp [turn_Check.j0])
  | succ kj2 =>
   have H := HA.out
   clear HA
   simp only [turn_Check.j0] at H
   by_cases c14 : x5_2 = true
   ·subst c14
    rw [if_pos rfl] at H
    obtain rfl := Option.some.inj H
    go_wp2
    go_ret
    exact ⟨eT, pE HB⟩
   ·replace c14 := Bool.eq_false_iff.mpr c14
    subst c14
    rw [if_neg (show ¬ (false = true) by decide)] at H
    by_cases c15 : (l0_0.length : Int) > 10
    ·rw [if_pos c15] at H
     have c15b0 : decide (10 < (l0_0.length : Int)) = true := decide_eq_true c15
     have c15b1 : decide (10 < l0_0.length) = true := decide_eq_true (by omega)
     clear c15
     obtain rfl := Option.some.inj H
     obtain ⟨_, _, _, _⟩ := cf2 BK101
     go_wp2
     go_ret
     exact ⟨eT, pE HB⟩
    ·rw [if_neg c15] at H
     have c15b0 : decide (10 < (l0_0.length : Int)) = false := decide_eq_false c15
     have c15b1 : decide (10 < l0_0.length) = false := decide_eq_false (by omega)
     clear c15
     obtain ⟨t107, A17, H⟩ := bi H
     by_cases c18 : t107 = true
     ·subst c18
      rw [if_pos rfl] at H
      obtain rfl := Option.some.inj H
      obtain ⟨_, _, _, _⟩ := cf2 BK101
      go_wp2_with (first | ((with_reducible refine gc 61 rfl ?_); refine gL 28 Tryz.func61 #[.slice A0_0 l0_0.length c0_0, .func (.func 58) #[] #[.pointer (some ⟨gb101, 0, none⟩)]] ?_; (with_reducible refine (any_at_turn_Check_1.calls _ _ l0_0 gb101 A0_0 c0_0 l0_0 A0_1 c0_1 l0_1 true _ ?side1 ?side2 ?side3 ?side4 ?side5 ?side6 ?side7 A17.out).mono ?_); (case side1 => exact pC (Kd.C_below HR0_0.out HB.out)); (case side2 => exact HC0_0.out); (case side3 => exact pB BK101.out); (case side4 => exact pC (Kd.C_below HR0_0.out HB.out)); (case side5 => exact HC0_0.out); (case side6 => exact pC (Kd.C_below HR0_1.out HB.out)); (case side7 => exact HC0_1.out); rintro e w20 ⟨rfl, hb⟩; refine ⟨_, rfl, ?_⟩; replace BK101 := bb BK101 hb; replace HB := bs HB hb; clear hb))
      go_ret
      exact ⟨eT, pE HB⟩
     ·replace c18 := Bool.eq_false_iff.mpr c18
      subst c18
      rw [if_neg (show ¬ (false = true) by decide)] at H
      obtain rfl := Option.some.inj H
      obtain ⟨_, _, _, _⟩ := cf2 BK101
      go_wp2_with (first | ((with_reducible refine gc 61 rfl ?_); refine gL 28 Tryz.func61 #[.slice A0_0 l0_0.length c0_0, .func (.func 58) #[] #[.pointer (some ⟨gb101, 0, none⟩)]] ?_; (with_reducible refine (any_at_turn_Check_1.calls _ _ l0_0 gb101 A0_0 c0_0 l0_0 A0_1 c0_1 l0_1 false _ ?side1 ?side2 ?side3 ?side4 ?side5 ?side6 ?side7 A17.out).mono ?_); (case side1 => exact pC (Kd.C_below HR0_0.out HB.out)); (case side2 => exact HC0_0.out); (case side3 => exact pB BK101.out); (case side4 => exact pC (Kd.C_below HR0_0.out HB.out)); (case side5 => exact HC0_0.out); (case side6 => exact pC (Kd.C_below HR0_1.out HB.out)); (case side7 => exact HC0_1.out); rintro e w22 ⟨rfl, hb⟩; refine ⟨_, rfl, ?_⟩; replace BK101 := bb BK101 hb; replace HB := bs HB hb; clear hb))
      go_ret
      exact ⟨eT, pE HB⟩
def walkmillref04_Find.l0 : Nat → List Int → Int → Int → Option (Int)
 | 0, _, _, _ => none
 | k + 1, x0, x1, x5 => if x5 < (x0.length : Int) then (if 0 ≤ x5 then (if (rd x0 x5) = x1 then (some x5) else (walkmillref04_Find.l0 k x0 x1 (wrap64 (x5 + 1)))) else (none)) else (some (-1))
def walkmillref04_Find.f (k : Nat) (l0 : List Int) (a1 : Int) : Option (Int) := walkmillref04_Find.l0 k l0 a1 0
theorem walkmillref04_Find.mono_l : ∀ k, (∀ y0 y1 y2, LeO (walkmillref04_Find.l0 k y0 y1 y2) (walkmillref04_Find.l0 (k + 1) y0 y1 y2))
 | 0 => fun _ _ _ r h => by simp [walkmillref04_Find.l0] at h
 | k + 1 => by
  have ih0 := walkmillref04_Find.mono_l k
  ·intro y0 y1 y2
   unfold walkmillref04_Find.l0
   repeat' first
   | (with_reducible exact ih0 _ _ _)
   | (with_reducible exact LeO.refl _)
   | (with_reducible exact LeO.none _)
   | (with_reducible refine LeO.ite ?_ ?_)
   | (with_reducible refine LeO.bind ?_ (fun _ => ?_))
   | exact ih0 _ _ _
   | exact LeO.none _
   | refine LeO.ite ?_ ?_
   | refine LeO.bind ?_ (fun _ => ?_)
theorem walkmillref04_Find.mono : ∀ a0 a1 k, LeO (walkmillref04_Find.f k a0 a1) (walkmillref04_Find.f (k + 1) a0 a1) := by
 intro a0 a1 k
 have ih0 := walkmillref04_Find.mono_l k
 unfold walkmillref04_Find.f
 repeat' first
   | (with_reducible exact ih0 _ _ _)
   | (with_reducible exact LeO.refl _)
   | (with_reducible exact LeO.none _)
   | (with_reducible refine LeO.ite ?_ ?_)
   | (with_reducible refine LeO.bind ?_ (fun _ => ?_))
   | exact ih0 _ _ _
   | exact LeO.none _
   | refine LeO.ite ?_ ?_
   | refine LeO.bind ?_ (fun _ => ?_)
set_option maxHeartbeats 8000000 in
set_option maxRecDepth 100000 in
theorem walkmillref04_Find.calls (k : Nat) (A0 : Option Addr) (c0 : Nat) (l0 : List Int) (a1 : Int) (r : Int) (w : World) (hr0 : Kd.C (Kd.int .i64) w A0 l0.length l0) (hc0 : l0.length ≤ c0) (h : walkmillref04_Find.f k l0 a1 = some r) :
  Calls Tryz.prog 81 #[.slice A0 l0.length c0, .int .i64 a1] w fun e w' => e = .returned (.int .i64 r) ∧ Drawn0 w w' := by
 have HR0 := Aside0.mk hr0
 have HC0 := Aside0.mk hc0
 clear hr0 hc0
 have H : (walkmillref04_Find.l0 k l0 a1 0) = some r := h
 clear h
 have H' := Aside0.mk H
 clear H
 go_enter Tryz.func81, Tryz.ntmps81
 go_wp2
 go_loopg [5] k (fun kq v5 w' => ∃ (x5_1 : Int), v5 = .int .i64 x5_1 ∧ Aside0 (walkmillref04_Find.l0 kq l0 a1 x5_1 = some r) ∧ Aside0 (kq ≤ k) ∧ Drawn0 w w')
 case atStart => exact ⟨(0), (by first | rfl | (simp; done) | (simp [*]; done)), H', ⟨Nat.le_refl _⟩, by repeat (first | exact Drawn0.refl _ | apply Drawn0.step)⟩
 case round =>
  clear H'
  try clear p2
  obtain ⟨x5_1, rfl, HA, HK1, ⟨m1, rfl⟩⟩ := hrel
  cases gk with
  | zero => exact absurd HA.out (by simp [walkmillref04_Find.l0])
  | succ k1 =>
   have H := HA.out
   clear HA
   simp only [walkmillref04_Find.l0] at H
   by_cases c3 : x5_1 < (l0.length : Int)
   ·rw [if_pos c3] at H
    have c3b0 : decide (x5_1 < (l0.length : Int)) = true := decide_eq_true c3
    clear c3
    by_cases c4 : 0 ≤ x5_1
    ·rw [if_pos c4] at H
     have c4b0 : decide (0 ≤ x5_1) = true := decide_eq_true c4
     clear c4
     by_cases c5 : (rd l0 x5_1) = a1
     ·rw [if_pos c5] at H
      have c5b0 : ((rd l0 x5_1) == a1) = true := beq_iff_eq.mpr c5
      have c5b1 : ((rd l0 x5_1) != a1) = false := bne_eq_false_iff_eq.mpr c5
      clear c5
      obtain rfl := Option.some.inj H
      have p101 : 0 ≤ (x5_1 : Int) := dT
      have q101 : x5_1 < (l0.length : Int) := dT
      obtain ⟨ad101, e101, hx101_0⟩ := Kd.at_int HR0.out x5_1 p101 q101
      cases e101
      replace p101 := eq_true p101
      replace q101 := eq_true q101
      go_wp2
      go_ret
      exact ⟨by first | rfl | (simp; done) | (simp [*]; done), by repeat (first | exact Drawn0.refl _ | apply Drawn0.step)⟩
     ·rw [if_neg c5] at H
      have c5b0 : ((rd l0 x5_1) == a1) = false := beq_eq_false_iff_ne.mpr c5
      have c5b1 : ((rd l0 x5_1) != a1) = true := bne_iff_ne.mpr c5
      have H' := Aside0.mk H
      clear H
      have p101 : 0 ≤ (x5_1 : Int) := dT
      have q101 : x5_1 < (l0.length : Int) := dT
      obtain ⟨ad101, e101, hx101_0⟩ := Kd.at_int HR0.out x5_1 p101 q101
      cases e101
      replace p101 := eq_true p101
      replace q101 := eq_true q101
      go_wp2
      go_roundg k1
      case measure => have := HK1.out; omega
      case rel => exact ⟨(wrap64 (x5_1 + 1)), (by first | rfl | (simp; done) | (simp [*]; done)), H', ⟨by have := HK1.out; omega⟩, by repeat (first | exact Drawn0.refl _ | apply Drawn0.step)⟩
    ·rw [if_neg c4] at H
     exact absurd H (by simp)
   ·rw [if_neg c3] at H
    have c3b0 : decide (x5_1 < (l0.length : Int)) = false := decide_eq_false c3
    clear c3
    obtain rfl := Option.some.inj H
    go_wp2
    go_ret
    exact ⟨by first | rfl | (simp; done) | (simp [*]; done), by repeat (first | exact Drawn0.refl _ | apply Drawn0.step)⟩
def walkmillref04_Once.l0 : Nat → List Int → Int → Int → Option (Bool)
 | 0, _, _, _ => none
 | k + 1, x0, x1, x5 => if x5 < x1 then ((walkmillref04_Find.f k x0 x5).bind fun t101 => (if t101 < 0 then (some false) else (walkmillref04_Once.l0 k x0 x1 (wrap64 (x5 + 1))))) else (some true)
def walkmillref04_Once.f (k : Nat) (l0 : List Int) (a1 : Int) : Option (Bool) := if (l0.length : Int) = a1 then (walkmillref04_Once.l0 k l0 a1 0) else (some false)
theorem walkmillref04_Once.mono_l : ∀ k, (∀ y0 y1 y2, LeO (walkmillref04_Once.l0 k y0 y1 y2) (walkmillref04_Once.l0 (k + 1) y0 y1 y2))
 | 0 => fun _ _ _ r h => by simp [walkmillref04_Once.l0] at h
 | k + 1 => by
  have ih0 := walkmillref04_Once.mono_l k
  ·intro y0 y1 y2
   unfold walkmillref04_Once.l0
   repeat' first
   | (with_reducible exact ih0 _ _ _)
   | (with_reducible exact walkmillref04_Find.mono _ _ _)
   | (with_reducible exact LeO.refl _)
   | (with_reducible exact LeO.none _)
   | (with_reducible refine LeO.ite ?_ ?_)
   | (with_reducible refine LeO.bind ?_ (fun _ => ?_))
   | exact ih0 _ _ _
   | exact walkmillref04_Find.mono _ _ _
   | exact LeO.none _
   | refine LeO.ite ?_ ?_
   | refine LeO.bind ?_ (fun _ => ?_)
theorem walkmillref04_Once.mono : ∀ a0 a1 k, LeO (walkmillref04_Once.f k a0 a1) (walkmillref04_Once.f (k + 1) a0 a1) := by
 intro a0 a1 k
 have ih0 := walkmillref04_Once.mono_l k
 unfold walkmillref04_Once.f
 repeat' first
   | (with_reducible exact ih0 _ _ _)
   | (with_reducible exact walkmillref04_Find.mono _ _ _)
   | (with_reducible exact LeO.refl _)
   | (with_reducible exact LeO.none _)
   | (with_reducible refine LeO.ite ?_ ?_)
   | (with_reducible refine LeO.bind ?_ (fun _ => ?_))
   | exact ih0 _ _ _
   | exact walkmillref04_Find.mono _ _ _
   | exact LeO.none _
   | refine LeO.ite ?_ ?_
   | refine LeO.bind ?_ (fun _ => ?_)
set_option maxHeartbeats 8000000 in
set_option maxRecDepth 100000 in
theorem walkmillref04_Once.calls (k : Nat) (A0 : Option Addr) (c0 : Nat) (l0 : List Int) (a1 : Int) (r : Bool) (w : World) (hr0 : Kd.C (Kd.int .i64) w A0 l0.length l0) (hc0 : l0.length ≤ c0) (h : walkmillref04_Once.f k l0 a1 = some r) :
  Calls Tryz.prog 38 #[.slice A0 l0.length c0, .int .i64 a1] w fun e w' => e = .returned (.bool r) ∧ Drawn0 w w' := by
 have HR0 := Aside0.mk hr0
 have HC0 := Aside0.mk hc0
 clear hr0 hc0
 have H : (if (l0.length : Int) = a1 then (walkmillref04_Once.l0 k l0 a1 0) else (some false)) = some r := h
 clear h
 by_cases c3 : (l0.length : Int) = a1
 ·rw [if_pos c3] at H
  have c3b0 : ((l0.length : Int) == a1) = true := beq_iff_eq.mpr c3
  have c3b1 : ((l0.length : Int) != a1) = false := bne_eq_false_iff_eq.mpr c3
  clear c3
  have H' := Aside0.mk H
  clear H
  go_enter Tryz.func38, Tryz.ntmps38
  go_wp2
  go_loopg [5] k (fun kq v5 w' => ∃ (x5_1 : Int), v5 = .int .i64 x5_1 ∧ Aside0 (walkmillref04_Once.l0 kq l0 a1 x5_1 = some r) ∧ Aside0 (kq ≤ k) ∧ Drawn0 w w')
  case atStart => exact ⟨(0), (by first | rfl | (simp; done) | (simp [*]; done)), H', ⟨Nat.le_refl _⟩, by repeat (first | exact Drawn0.refl _ | apply Drawn0.step)⟩
  case round =>
   clear H'
   try clear p2
   try clear c3
   try clear c3b0
   try clear c3b1
   obtain ⟨x5_1, rfl, HA, HK1, ⟨m1, rfl⟩⟩ := hrel
   cases gk with
   | zero => exact absurd HA.out (by simp [walkmillref04_Once.l0])
   | succ k1 =>
    have H := HA.out
    clear HA
    simp only [walkmillref04_Once.l0] at H
    by_cases c4 : x5_1 < a1
    ·rw [if_pos c4] at H
     have c4b0 : decide (x5_1 < a1) = true := decide_eq_true c4
     clear c4
     obtain ⟨t101, A5, H⟩ := bi H
     by_cases c6 : t101 < 0
     ·rw [if_pos c6] at H
      have c6b0 : decide (t101 < 0) = true := decide_eq_true c6
      clear c6
      obtain rfl := Option.some.inj H
      go_wp2_with (first | ((with_reducible refine gc 81 rfl ?_); refine gL 17 Tryz.func81 #[.slice A0 l0.length c0, .int .i64 x5_1] ?_; (with_reducible refine (walkmillref04_Find.calls k1 _ _ l0 x5_1 t101 _ ?side1 ?side2 A5.out).mono ?_); (case side1 => exact pC HR0.out); (case side2 => exact HC0.out); rintro e w' ⟨rfl, ⟨nd, rfl⟩⟩; refine ⟨_, rfl, ?_⟩))
      go_ret
      exact ⟨by first | rfl | (simp; done) | (simp [*]; done), by repeat (first | exact Drawn0.refl _ | apply Drawn0.step)⟩
     ·rw [if_neg c6] at H
      have c6b0 : decide (t101 < 0) = false := decide_eq_false c6
      clear c6
      have H' := Aside0.mk H
      clear H
      go_wp2_with (first | ((with_reducible refine gc 81 rfl ?_); refine gL 17 Tryz.func81 #[.slice A0 l0.length c0, .int .i64 x5_1] ?_; (with_reducible refine (walkmillref04_Find.calls k1 _ _ l0 x5_1 t101 _ ?side1 ?side2 A5.out).mono ?_); (case side1 => exact pC HR0.out); (case side2 => exact HC0.out); rintro e w' ⟨rfl, ⟨nd, rfl⟩⟩; refine ⟨_, rfl, ?_⟩))
      go_roundg k1
      case measure => have := HK1.out; omega
      case rel => exact ⟨(wrap64 (x5_1 + 1)), (by first | rfl | (simp; done) | (simp [*]; done)), H', ⟨by have := HK1.out; omega⟩, by repeat (first | exact Drawn0.refl _ | apply Drawn0.step)⟩
    ·rw [if_neg c4] at H
     have c4b0 : decide (x5_1 < a1) = false := decide_eq_false c4
     clear c4
     obtain rfl := Option.some.inj H
     go_wp2
     go_ret
     exact ⟨by first | rfl | (simp; done) | (simp [*]; done), by repeat (first | exact Drawn0.refl _ | apply Drawn0.step)⟩
 ·rw [if_neg c3] at H
  have c3b0 : ((l0.length : Int) == a1) = false := beq_eq_false_iff_ne.mpr c3
  have c3b1 : ((l0.length : Int) != a1) = true := bne_iff_ne.mpr c3
  obtain rfl := Option.some.inj H
  go_enter Tryz.func38, Tryz.ntmps38
  go_wp2
  go_ret
  exact ⟨by first | rfl | (simp; done) | (simp [*]; done), by repeat (first | exact Drawn0.refl _ | apply Drawn0.step)⟩
def walkmillref04_In.f (a0 : Int) (a1 : Int) (a2 : Int) : Option (Bool) := if a0 ≥ a1 then (some (decide (a0 ≤ a2))) else (some false)
set_option maxHeartbeats 8000000 in
set_option maxRecDepth 100000 in
theorem walkmillref04_In.calls (a0 : Int) (a1 : Int) (a2 : Int) (r : Bool) (w : World) (h : walkmillref04_In.f a0 a1 a2 = some r) :
    Calls Tryz.prog 41 #[.int .i64 a0, .int .i64 a1, .int .i64 a2] w fun e w' => e = .returned (.bool r) ∧ Drawn0 w w' := by
  have H : (if a0 ≥ a1 then (some (decide (a0 ≤ a2))) else (some false)) = some r := h
  clear h
  by_cases c4 : a0 ≥ a1
  · rw [if_pos c4] at H
    have c4b0 : decide (a1 ≤ a0) = true := decide_eq_true c4
    clear c4
    obtain rfl := Option.some.inj H
    go_enter Tryz.func41, Tryz.ntmps41
    go_wp2
    go_ret
    exact ⟨by first | rfl | (simp; done) | (simp [*]; done), by repeat (first | exact Drawn0.refl _ | apply Drawn0.step)⟩
  · rw [if_neg c4] at H
    have c4b0 : decide (a1 ≤ a0) = false := decide_eq_false c4
    clear c4
    obtain rfl := Option.some.inj H
    go_enter Tryz.func41, Tryz.ntmps41
    go_wp2
    go_ret
    exact ⟨by first | rfl | (simp; done) | (simp [*]; done), by repeat (first | exact Drawn0.refl _ | apply Drawn0.step)⟩
mutual
def walkmillref04_Check.j0 : Nat → Bool → List (S67) → List Int → Option (Int)
 | 0, _, _, _ => none
 | k + 1, x18, x102000, x102001 => if x18 = true then (some 4) else (if (x102000.length : Int) > 10 then (some 5) else (walkmillref04_Check.l0 k 0 x102000 x102001))
def walkmillref04_Check.l0 : Nat → Int → List (S67) → List Int → Option (Int)
 | 0, _, _, _ => none
 | k + 1, x3, x102000, x102001 => if x3 < (x102000.length : Int) then (if 0 ≤ x3 then ((walkmillref04_In.f ((rd_T67 x102000 x3).f0) 0 (wrap64 ((x102001.length : Int) - 1))).bind fun t106 => (if t106 = true then ((walkmillref04_In.f ((rd_T67 x102000 x3).f1) 0 200).bind fun t107 => (if t107 = true then ((walkmillref04_In.f ((rd_T67 x102000 x3).f2.f0) 1 ((rd_T67 x102000 x3).f2.f1)).bind fun t108 => (if t108 = true then (walkmillref04_Check.j2 k x3 (decide (((rd_T67 x102000 x3).f2.f1) > 20)) x102000 x102001) else (walkmillref04_Check.j2 k x3 true x102000 x102001))) else (walkmillref04_Check.j2 k x3 true x102000 x102001))) else (walkmillref04_Check.j2 k x3 true x102000 x102001))) else (none)) else (some 0)
def walkmillref04_Check.j2 : Nat → Int → Bool → List (S67) → List Int → Option (Int)
 | 0, _, _, _, _ => none
 | k + 1, x3, x64, x102000, x102001 => if x64 = true then (some 2) else (walkmillref04_Check.l0 k (wrap64 (x3 + 1)) x102000 x102001)
end
def walkmillref04_Check.f (k : Nat) (l0_0 : List (S67)) (l0_1 : List Int) : Option (Int) := (walkmillref04_In.f (l0_1.length : Int) 1 6).bind fun t102 => (if t102 = true then ((walkmillref04_Once.f k l0_1 (l0_1.length : Int)).bind fun t103 => (walkmillref04_Check.j0 k (!t103) l0_0 l0_1)) else (walkmillref04_Check.j0 k true l0_0 l0_1))
theorem walkmillref04_Check.mono_l : ∀ k, (∀ y0 y1 y2, LeO (walkmillref04_Check.j0 k y0 y1 y2) (walkmillref04_Check.j0 (k + 1) y0 y1 y2)) ∧ (∀ y0 y1 y2, LeO (walkmillref04_Check.l0 k y0 y1 y2) (walkmillref04_Check.l0 (k + 1) y0 y1 y2)) ∧ (∀ y0 y1 y2 y3, LeO (walkmillref04_Check.j2 k y0 y1 y2 y3) (walkmillref04_Check.j2 (k + 1) y0 y1 y2 y3))
 | 0 => ⟨fun _ _ _ r h => by simp [walkmillref04_Check.j0] at h, fun _ _ _ r h => by simp [walkmillref04_Check.l0] at h, fun _ _ _ _ r h => by simp [walkmillref04_Check.j2] at h⟩
 | k + 1 => by
  obtain ⟨ih0, ih1, ih2⟩ := walkmillref04_Check.mono_l k
  refine ⟨?_, ?_, ?_⟩
  ·intro y0 y1 y2
   unfold walkmillref04_Check.j0
   repeat' first
   | (with_reducible exact ih0 _ _ _)
   | (with_reducible exact ih1 _ _ _)
   | (with_reducible exact ih2 _ _ _ _)
   | (with_reducible exact walkmillref04_Once.mono _ _ _)
   | (with_reducible exact LeO.refl _)
   | (with_reducible exact LeO.none _)
   | (with_reducible refine LeO.ite ?_ ?_)
   | (with_reducible refine LeO.bind ?_ (fun _ => ?_))
   | exact ih0 _ _ _
   | exact ih1 _ _ _
   | exact ih2 _ _ _ _
   | exact walkmillref04_Once.mono _ _ _
   | exact LeO.none _
   | refine LeO.ite ?_ ?_
   | refine LeO.bind ?_ (fun _ => ?_)
  ·intro y0 y1 y2
   unfold walkmillref04_Check.l0
   repeat' first
   | (with_reducible exact ih0 _ _ _)
   | (with_reducible exact ih1 _ _ _)
   | (with_reducible exact ih2 _ _ _ _)
   | (with_reducible exact walkmillref04_Once.mono _ _ _)
   | (with_reducible exact LeO.refl _)
   | (with_reducible exact LeO.none _)
   | (with_reducible refine LeO.ite ?_ ?_)
   | (with_reducible refine LeO.bind ?_ (fun _ => ?_))
   | exact ih0 _ _ _
   | exact ih1 _ _ _
   | exact ih2 _ _ _ _
   | exact walkmillref04_Once.mono _ _ _
   | exact LeO.none _
   | refine LeO.ite ?_ ?_
   | refine LeO.bind ?_ (fun _ => ?_)
  ·intro y0 y1 y2 y3
   unfold walkmillref04_Check.j2
   repeat' first
   | (with_reducible exact ih0 _ _ _)
   | (with_reducible exact ih1 _ _ _)
   | (with_reducible exact ih2 _ _ _ _)
   | (with_reducible exact walkmillref04_Once.mono _ _ _)
   | (with_reducible exact LeO.refl _)
   | (with_reducible exact LeO.none _)
   | (with_reducible refine LeO.ite ?_ ?_)
   | (with_reducible refine LeO.bind ?_ (fun _ => ?_))
   | exact ih0 _ _ _
   | exact ih1 _ _ _
   | exact ih2 _ _ _ _
   | exact walkmillref04_Once.mono _ _ _
   | exact LeO.none _
   | refine LeO.ite ?_ ?_
   | refine LeO.bind ?_ (fun _ => ?_)
theorem walkmillref04_Check.mono : ∀ a0 a1 k, LeO (walkmillref04_Check.f k a0 a1) (walkmillref04_Check.f (k + 1) a0 a1) := by
 intro a0 a1 k
 obtain ⟨ih0, ih1, ih2⟩ := walkmillref04_Check.mono_l k
 unfold walkmillref04_Check.f
 repeat' first
   | (with_reducible exact ih0 _ _ _)
   | (with_reducible exact ih1 _ _ _)
   | (with_reducible exact ih2 _ _ _ _)
   | (with_reducible exact walkmillref04_Once.mono _ _ _)
   | (with_reducible exact LeO.refl _)
   | (with_reducible exact LeO.none _)
   | (with_reducible refine LeO.ite ?_ ?_)
   | (with_reducible refine LeO.bind ?_ (fun _ => ?_))
   | exact ih0 _ _ _
   | exact ih1 _ _ _
   | exact ih2 _ _ _ _
   | exact walkmillref04_Once.mono _ _ _
   | exact LeO.none _
   | refine LeO.ite ?_ ?_
   | refine LeO.bind ?_ (fun _ => ?_)
set_option maxHeartbeats 8000000 in
set_option maxRecDepth 100000 in
theorem walkmillref04_Check.calls (k : Nat) (A0_0 : Option Addr) (c0_0 : Nat) (l0_0 : List (S67)) (A0_1 : Option Addr) (c0_1 : Nat) (l0_1 : List Int) (r : Int) (w : World) (hr0_0 : Kd.C k67 w A0_0 l0_0.length l0_0) (hc0_0 : l0_0.length ≤ c0_0) (hr0_1 : Kd.C (Kd.int .i64) w A0_1 l0_1.length l0_1) (hc0_1 : l0_1.length ≤ c0_1) (h : walkmillref04_Check.f k l0_0 l0_1 = some r) :
  Calls Tryz.prog 21 #[.agg #[.slice A0_0 l0_0.length c0_0, .slice A0_1 l0_1.length c0_1]] w fun e w' => e = .returned (.int .i64 r) ∧ Below w.heap.size w w' := by
 have hu25 := Tryz.underlying25
 have hu67 := Tryz.underlying67
 have HR0_0 := Aside0.mk hr0_0
 have HC0_0 := Aside0.mk hc0_0
 clear hr0_0 hc0_0
 have HR0_1 := Aside0.mk hr0_1
 have HC0_1 := Aside0.mk hc0_1
 clear hr0_1 hc0_1
 have HB := Aside0.mk (Below.refl w.heap.size w)
 have H : ((walkmillref04_In.f (l0_1.length : Int) 1 6).bind fun t102 => (if t102 = true then ((walkmillref04_Once.f k l0_1 (l0_1.length : Int)).bind fun t103 => (walkmillref04_Check.j0 k (!t103) l0_0 l0_1)) else (walkmillref04_Check.j0 k true l0_0 l0_1))) = some r := h
 clear h
 have HC2 := Aside0.mk H
 clear H
 go_enter Tryz.func21, Tryz.ntmps21
 go_upto_region 1 with (first | ((with_reducible refine gate_dst (N := 1) rfl ?_); (try (refine gate_guard (by rfl) ?_; dsimp only)); refine bx 1 #[.slice A0_0 l0_0.length c0_0, .slice A0_1 l0_1.length c0_1] 25 ?_; intro gb101 hg w3 hbox hb; have BK101 := hbox; have GW101 := gs HB hg; have GE101 := gs HB hg; replace HB := bs HB hb; clear hb hbox hg))
 (try simp only [Act.put, List.setIfInBounds_toArray, List.set_cons_zero, List.set_cons_succ])
 go_cut [18] (fun v18 wc => ∃ (kq : Nat) (x18_1 : Bool), v18 = .bool x18_1 ∧ Aside0 (walkmillref04_Check.j0 kq x18_1 l0_0 l0_1 = some r) ∧ Aside0 (kq ≤ k) ∧ Aside0 (wc.heap[gb101]? = some (.cells #[(.slice A0_0 l0_0.length c0_0), (.slice A0_1 l0_1.length c0_1)] 25 (0, 0))) ∧ Aside0 (Below w.heap.size w wc))
 case first =>
  have H := HC2.out
  clear HC2
  obtain ⟨t102, A4, H⟩ := bi H
  by_cases c5 : t102 = true
  ·subst c5
   rw [if_pos rfl] at H
   obtain ⟨t103, A6, H⟩ := bi H
   have H' := Aside0.mk H
   clear H
   obtain ⟨hcz7_0, hcz7_1, hfz7_0, hfz7_1⟩ := cf2 BK101
   go_wp2_with (first | ((with_reducible refine gc 41 rfl ?_); refine gL 8 Tryz.func41 #[.int .i64 (l0_1.length : Int), .int .i64 1, .int .i64 6] ?_; (with_reducible refine (walkmillref04_In.calls (l0_1.length : Int) 1 6 true _ A4.out).mono ?_); rintro e w' ⟨rfl, ⟨nd, rfl⟩⟩; refine ⟨_, rfl, ?_⟩) | (go_at_call 38; (with_reducible refine (walkmillref04_Once.calls k _ _ l0_1 (l0_1.length : Int) t103 _ ?side1 ?side2 A6.out).mono ?_); (case side1 => exact pC (Kd.C_below HR0_1.out (pE HB))); (case side2 => exact HC0_1.out); rintro e w' ⟨rfl, ⟨nd, rfl⟩⟩))
   go_meet
   case rel => exact ⟨_, (!t103), (by first | rfl | (simp; done) | (simp [*]; done)), H', ⟨by first | omega | exact Nat.le_refl _⟩, ⟨pB BK101.out⟩, ⟨pE HB⟩⟩
  ·replace c5 := Bool.eq_false_iff.mpr c5
   subst c5
   rw [if_neg (show ¬ (false = true) by decide)] at H
   have H' := Aside0.mk H
   clear H
   obtain ⟨hcz8_0, hcz8_1, hfz8_0, hfz8_1⟩ := cf2 BK101
   go_wp2_with (first | ((with_reducible refine gc 41 rfl ?_); refine gL 8 Tryz.func41 #[.int .i64 (l0_1.length : Int), .int .i64 1, .int .i64 6] ?_; (with_reducible refine (walkmillref04_In.calls (l0_1.length : Int) 1 6 false _ A4.out).mono ?_); rintro e w' ⟨rfl, ⟨nd, rfl⟩⟩; refine ⟨_, rfl, ?_⟩))
   go_meet
   case rel => exact ⟨_, (true), (by first | rfl | (simp; done) | (simp [*]; done)), H', ⟨by first | omega | exact Nat.le_refl _⟩, ⟨pB BK101.out⟩, ⟨pE HB⟩⟩
 case rest =>
  clear HC2
  try clear c2
  try clear p2
  try clear c4
  try clear c5
  try clear hcz7_0
  try clear hcz7_1
  try clear hcz8_0
  try clear hcz8_1
  try clear hfz7_0
  try clear hfz7_1
  try clear hfz8_0
  try clear hfz8_1
  obtain ⟨kq, x18_1, rfl, HA, HJ1, BK101, HB⟩ := hcut
  cases kq with
  | zero => exact absurd HA.out (by simp [walkmillref04_Check.j0])
  | succ kj1 =>
   have H := HA.out
   clear HA
   simp only [walkmillref04_Check.j0] at H
   by_cases c9 : x18_1 = true
   ·subst c9
    rw [if_pos rfl] at H
    obtain rfl := Option.some.inj H
    go_wp2
    go_ret
    exact ⟨eT, pE HB⟩
   ·replace c9 := Bool.eq_false_iff.mpr c9
    subst c9
    rw [if_neg (show ¬ (false = true) by decide)] at H
    by_cases c10 : (l0_0.length : Int) > 10
    ·rw [if_pos c10] at H
     have c10b0 : decide (10 < (l0_0.length : Int)) = true := decide_eq_true c10
     have c10b1 : decide (10 < l0_0.length) = true := decide_eq_true (by omega)
     clear c10
     obtain rfl := Option.some.inj H
     obtain ⟨hcz11_0, hcz11_1, hfz11_0, hfz11_1⟩ := cf2 BK101
     go_wp2
     go_ret
     exact ⟨eT, pE HB⟩
    ·rw [if_neg c10] at H
     have c10b0 : decide (10 < (l0_0.length : Int)) = false := decide_eq_false c10
     have c10b1 : decide (10 < l0_0.length) = false := decide_eq_false (by omega)
     clear c10
     have H' := Aside0.mk H
     clear H
     obtain ⟨hcz12_0, hcz12_1, hfz12_0, hfz12_1⟩ := cf2 BK101
     go_wp2
     go_loopg [3] kj1 (fun kq v3 w' => ∃ (x3_2 : Int), v3 = .int .i64 x3_2 ∧ Aside0 (walkmillref04_Check.l0 kq x3_2 l0_0 l0_1 = some r) ∧ Aside0 (kq ≤ kj1) ∧ Aside0 (w'.heap[gb101]? = some (.cells #[(.slice A0_0 l0_0.length c0_0), (.slice A0_1 l0_1.length c0_1)] 25 (0, 0))) ∧ Aside0 (Below w.heap.size w w'))
     case atStart => exact ⟨(0), (by first | rfl | (simp; done) | (simp [*]; done)), H', ⟨Nat.le_refl _⟩, ⟨pB BK101.out⟩, ⟨pE HB⟩⟩
     case round =>
      clear H'
      try clear c1
      try clear c2
      try clear p2
      try clear c4
      try clear c5
      try clear c9
      try clear c10
      try clear c10b0
      try clear c10b1
      try clear hcz11_0
      try clear hcz11_1
      try clear hcz12_0
      try clear hcz12_1
      try clear hcz7_0
      try clear hcz7_1
      try clear hcz8_0
      try clear hcz8_1
      try clear hfz11_0
      try clear hfz11_1
      try clear hfz12_0
      try clear hfz12_1
      try clear hfz7_0
      try clear hfz7_1
      try clear hfz8_0
      try clear hfz8_1
      try clear p2
      obtain ⟨x3_2, rfl, HA, HK2, BK101, HB⟩ := hrel
      cases gk with
      | zero => exact absurd HA.out (by simp [walkmillref04_Check.l0])
      | succ k2 =>
       have H := HA.out
       clear HA
       simp only [walkmillref04_Check.l0] at H
       by_cases c13 : x3_2 < (l0_0.length : Int)
       ·rw [if_pos c13] at H
        have c13b0 : decide (x3_2 < (l0_0.length : Int)) = true := decide_eq_true c13
        clear c13
        by_cases c14 : 0 ≤ x3_2
        ·rw [if_pos c14] at H
         have c14b0 : decide (0 ≤ x3_2) = true := decide_eq_true c14
         clear c14
         have HC15 := Aside0.mk H
         clear H
         obtain ⟨hcz16_0, hcz16_1, hfz16_0, hfz16_1⟩ := cf2 BK101
         have p104 : 0 ≤ (x3_2 : Int) := dT
         have q104 : x3_2 < (l0_0.length : Int) := dT
         obtain ⟨ad104, e104, hx104_0, hx104_1, hx104_2, hx104_3⟩ := at_T67 HR0_0.out x3_2 p104 q104
         cases e104
         replace hx104_0 := cut_ HB hx104_0
         replace hx104_1 := cut_ HB hx104_1
         replace hx104_2 := cut_ HB hx104_2
         replace hx104_3 := cut_ HB hx104_3
         replace p104 := eq_true p104
         replace q104 := eq_true q104
         go_upto_region 9 with (first | ((with_reducible refine gate_dst (N := 4) rfl ?_); (try (refine gate_guard (by rfl) ?_; dsimp only)); refine bx 4 #[.int .i64 0, .int .i64 0, .int .i64 0, .int .i64 0] 67 ?_; intro gb105 hg w17 hbox hb; have BK105 := hbox; have GW105 := gs HB hg; have GE105 := gs HB hg; replace HB := bs HB hb; have NB101_105 := nl BK101 hg; have NB105_101 := nr BK101 hg; replace BK101 := bb BK101 hb; clear hb hbox hg; have hnb18 := NB105_101.out; have hnc18 := NB101_105.out; obtain ⟨hcz19_0, hcz19_1, hcz19_2, hcz19_3, hfz19_0, hfz19_1, hfz19_2, hfz19_3⟩ := cf4 BK105))
         (try simp only [Act.put, List.setIfInBounds_toArray, List.set_cons_zero, List.set_cons_succ])
         go_cut [64] (fun v64 wc => ∃ (kq : Nat) (x64_14 : Bool), v64 = .bool x64_14 ∧ Aside0 (walkmillref04_Check.j2 kq x3_2 x64_14 l0_0 l0_1 = some r) ∧ Aside0 (kq ≤ k2) ∧ Aside0 (wc.heap[gb101]? = some (.cells #[(.slice (some ad104) l0_0.length c0_0), (.slice A0_1 l0_1.length c0_1)] 25 (0, 0))) ∧ Aside0 (wc.heap[gb105]? = some (.cells #[.int .i64 ((rd_T67 l0_0 x3_2).f0), .int .i64 ((rd_T67 l0_0 x3_2).f1), .int .i64 ((rd_T67 l0_0 x3_2).f2.f0), .int .i64 ((rd_T67 l0_0 x3_2).f2.f1)] 67 (0, 0))) ∧ Aside0 (Below w.heap.size w wc))
         case first =>
          have H := HC15.out
          clear HC15
          obtain ⟨t106, A20, H⟩ := bi H
          by_cases c21 : t106 = true
          ·subst c21
           rw [if_pos rfl] at H
           obtain ⟨t107, A22, H⟩ := bi H
           by_cases c23 : t107 = true
           ·subst c23
            rw [if_pos rfl] at H
            obtain ⟨t108, A24, H⟩ := bi H
            by_cases c25 : t108 = true
            ·subst c25
             rw [if_pos rfl] at H
             have H' := Aside0.mk H
             clear H
             have hnb26 := NB105_101.out
             have hnc26 := NB101_105.out
             obtain ⟨hcz27_0, hcz27_1, hcz27_2, hcz27_3, hfz27_0, hfz27_1, hfz27_2, hfz27_3⟩ := cf4 BK105
             obtain ⟨hcz28_0, hcz28_1, hfz28_0, hfz28_1⟩ := cf2 BK101
             go_wp2_with (first | ((with_reducible refine gc 41 rfl ?_); refine gL 41 Tryz.func41 #[.int .i64 ((rd_T67 l0_0 x3_2).f0), .int .i64 0, .int .i64 (wrap64 ((l0_1.length : Int) - 1))] ?_; (with_reducible refine (walkmillref04_In.calls ((rd_T67 l0_0 x3_2).f0) 0 (wrap64 ((l0_1.length : Int) - 1)) true _ A20.out).mono ?_); rintro e w' ⟨rfl, ⟨nd, rfl⟩⟩; refine ⟨_, rfl, ?_⟩) | (go_at_call 41; (with_reducible refine (walkmillref04_In.calls ((rd_T67 l0_0 x3_2).f1) 0 200 true _ A22.out).mono ?_); rintro e w' ⟨rfl, ⟨nd, rfl⟩⟩) | (go_at_call 41; (with_reducible refine (walkmillref04_In.calls ((rd_T67 l0_0 x3_2).f2.f0) 1 ((rd_T67 l0_0 x3_2).f2.f1) true _ A24.out).mono ?_); rintro e w' ⟨rfl, ⟨nd, rfl⟩⟩))
             go_meet
             case rel => exact ⟨_, (decide (((rd_T67 l0_0 x3_2).f2.f1) > 20)), (by first | rfl | (simp; done) | (simp [*]; done)), H', ⟨by have := HJ1.out; have := HK2.out; first | omega | exact Nat.le_refl _⟩, ⟨pF BK101⟩, ⟨by refine pB ?_; refine blk_put (cs := #[.int .i64 ((rd_T67 l0_0 x3_2).f0), .int .i64 ((rd_T67 l0_0 x3_2).f1), .int .i64 ((rd_T67 l0_0 x3_2).f2.f0), .int .i64 0]) ?_ 3 _ rfl; refine pB ?_; refine blk_put (cs := #[.int .i64 ((rd_T67 l0_0 x3_2).f0), .int .i64 ((rd_T67 l0_0 x3_2).f1), .int .i64 0, .int .i64 0]) ?_ 2 _ rfl; refine pB ?_; refine blk_put (cs := #[.int .i64 ((rd_T67 l0_0 x3_2).f0), .int .i64 0, .int .i64 0, .int .i64 0]) ?_ 1 _ rfl; refine pB ?_; refine blk_put (cs := #[.int .i64 0, .int .i64 0, .int .i64 0, .int .i64 0]) ?_ 0 _ rfl; exact pB BK105.out⟩, ⟨pE HB⟩⟩
            ·replace c25 := Bool.eq_false_iff.mpr c25
             subst c25
             rw [if_neg (show ¬ (false = true) by decide)] at H
             have H' := Aside0.mk H
             clear H
             have hnb29 := NB105_101.out
             have hnc29 := NB101_105.out
             obtain ⟨hcz30_0, hcz30_1, hcz30_2, hcz30_3, hfz30_0, hfz30_1, hfz30_2, hfz30_3⟩ := cf4 BK105
             obtain ⟨hcz31_0, hcz31_1, hfz31_0, hfz31_1⟩ := cf2 BK101
             go_wp2_with (first | ((with_reducible refine gc 41 rfl ?_); refine gL 41 Tryz.func41 #[.int .i64 ((rd_T67 l0_0 x3_2).f0), .int .i64 0, .int .i64 (wrap64 ((l0_1.length : Int) - 1))] ?_; (with_reducible refine (walkmillref04_In.calls ((rd_T67 l0_0 x3_2).f0) 0 (wrap64 ((l0_1.length : Int) - 1)) true _ A20.out).mono ?_); rintro e w' ⟨rfl, ⟨nd, rfl⟩⟩; refine ⟨_, rfl, ?_⟩) | (go_at_call 41; (with_reducible refine (walkmillref04_In.calls ((rd_T67 l0_0 x3_2).f1) 0 200 true _ A22.out).mono ?_); rintro e w' ⟨rfl, ⟨nd, rfl⟩⟩) | (go_at_call 41; (with_reducible refine (walkmillref04_In.calls ((rd_T67 l0_0 x3_2).f2.f0) 1 ((rd_T67 l0_0 x3_2).f2.f1) false _ A24.out).mono ?_); rintro e w' ⟨rfl, ⟨nd, rfl⟩⟩))
             go_meet
             case rel => exact ⟨_, (true), (by first | rfl | (simp; done) | (simp [*]; done)), H', ⟨by have := HJ1.out; have := HK2.out; first | omega | exact Nat.le_refl _⟩, ⟨pF BK101⟩, ⟨by refine pB ?_; refine blk_put (cs := #[.int .i64 ((rd_T67 l0_0 x3_2).f0), .int .i64 ((rd_T67 l0_0 x3_2).f1), .int .i64 ((rd_T67 l0_0 x3_2).f2.f0), .int .i64 0]) ?_ 3 _ rfl; refine pB ?_; refine blk_put (cs := #[.int .i64 ((rd_T67 l0_0 x3_2).f0), .int .i64 ((rd_T67 l0_0 x3_2).f1), .int .i64 0, .int .i64 0]) ?_ 2 _ rfl; refine pB ?_; refine blk_put (cs := #[.int .i64 ((rd_T67 l0_0 x3_2).f0), .int .i64 0, .int .i64 0, .int .i64 0]) ?_ 1 _ rfl; refine pB ?_; refine blk_put (cs := #[.int .i64 0, .int .i64 0, .int .i64 0, .int .i64 0]) ?_ 0 _ rfl; exact pB BK105.out⟩, ⟨pE HB⟩⟩
           ·replace c23 := Bool.eq_false_iff.mpr c23
            subst c23
            rw [if_neg (show ¬ (false = true) by decide)] at H
            have H' := Aside0.mk H
            clear H
            have hnb32 := NB105_101.out
            have hnc32 := NB101_105.out
            obtain ⟨hcz33_0, hcz33_1, hcz33_2, hcz33_3, hfz33_0, hfz33_1, hfz33_2, hfz33_3⟩ := cf4 BK105
            obtain ⟨hcz34_0, hcz34_1, hfz34_0, hfz34_1⟩ := cf2 BK101
            go_wp2_with (first | ((with_reducible refine gc 41 rfl ?_); refine gL 41 Tryz.func41 #[.int .i64 ((rd_T67 l0_0 x3_2).f0), .int .i64 0, .int .i64 (wrap64 ((l0_1.length : Int) - 1))] ?_; (with_reducible refine (walkmillref04_In.calls ((rd_T67 l0_0 x3_2).f0) 0 (wrap64 ((l0_1.length : Int) - 1)) true _ A20.out).mono ?_); rintro e w' ⟨rfl, ⟨nd, rfl⟩⟩; refine ⟨_, rfl, ?_⟩) | (go_at_call 41; (with_reducible refine (walkmillref04_In.calls ((rd_T67 l0_0 x3_2).f1) 0 200 false _ A22.out).mono ?_); rintro e w' ⟨rfl, ⟨nd, rfl⟩⟩))
            go_meet
            case rel => exact ⟨_, (true), (by first | rfl | (simp; done) | (simp [*]; done)), H', ⟨by have := HJ1.out; have := HK2.out; first | omega | exact Nat.le_refl _⟩, ⟨pF BK101⟩, ⟨by refine pB ?_; refine blk_put (cs := #[.int .i64 ((rd_T67 l0_0 x3_2).f0), .int .i64 ((rd_T67 l0_0 x3_2).f1), .int .i64 ((rd_T67 l0_0 x3_2).f2.f0), .int .i64 0]) ?_ 3 _ rfl; refine pB ?_; refine blk_put (cs := #[.int .i64 ((rd_T67 l0_0 x3_2).f0), .int .i64 ((rd_T67 l0_0 x3_2).f1), .int .i64 0, .int .i64 0]) ?_ 2 _ rfl; refine pB ?_; refine blk_put (cs := #[.int .i64 ((rd_T67 l0_0 x3_2).f0), .int .i64 0, .int .i64 0, .int .i64 0]) ?_ 1 _ rfl; refine pB ?_; refine blk_put (cs := #[.int .i64 0, .int .i64 0, .int .i64 0, .int .i64 0]) ?_ 0 _ rfl; exact pB BK105.out⟩, ⟨pE HB⟩⟩
          ·replace c21 := Bool.eq_false_iff.mpr c21
           subst c21
           rw [if_neg (show ¬ (false = true) by decide)] at H
           have H' := Aside0.mk H
           clear H
           have hnb35 := NB105_101.out
           have hnc35 := NB101_105.out
           obtain ⟨hcz36_0, hcz36_1, hcz36_2, hcz36_3, hfz36_0, hfz36_1, hfz36_2, hfz36_3⟩ := cf4 BK105
           obtain ⟨hcz37_0, hcz37_1, hfz37_0, hfz37_1⟩ := cf2 BK101
           go_wp2_with (first | ((with_reducible refine gc 41 rfl ?_); refine gL 41 Tryz.func41 #[.int .i64 ((rd_T67 l0_0 x3_2).f0), .int .i64 0, .int .i64 (wrap64 ((l0_1.length : Int) - 1))] ?_; (with_reducible refine (walkmillref04_In.calls ((rd_T67 l0_0 x3_2).f0) 0 (wrap64 ((l0_1.length : Int) - 1)) false _ A20.out).mono ?_); rintro e w' ⟨rfl, ⟨nd, rfl⟩⟩; refine ⟨_, rfl, ?_⟩))
           go_meet
           case rel => exact ⟨_, (true), (by first | rfl | (simp; done) | (simp [*]; done)), H', ⟨by have := HJ1.out; have := HK2.out; first | omega | exact Nat.le_refl _⟩, ⟨pF BK101⟩, ⟨by refine pB ?_; refine blk_put (cs := #[.int .i64 ((rd_T67 l0_0 x3_2).f0), .int .i64 ((rd_T67 l0_0 x3_2).f1), .int .i64 ((rd_T67 l0_0 x3_2).f2.f0), .int .i64 0]) ?_ 3 _ rfl; refine pB ?_; refine blk_put (cs := #[.int .i64 ((rd_T67 l0_0 x3_2).f0), .int .i64 ((rd_T67 l0_0 x3_2).f1), .int .i64 0, .int .i64 0]) ?_ 2 _ rfl; refine pB ?_; refine blk_put (cs := #[.int .i64 ((rd_T67 l0_0 x3_2).f0), .int .i64 0, .int .i64 0, .int .i64 0]) ?_ 1 _ rfl; refine pB ?_; refine blk_put (cs := #[.int .i64 0, .int .i64 0, .int .i64 0, .int .i64 0]) ?_ 0 _ rfl; exact pB BK105.out⟩, ⟨pE HB⟩⟩
         case rest =>
          clear HC15
          try clear c1
          try clear p1
          try clear q1
          try clear hx1
          try clear c2
          try clear p2
          try clear c3
          try clear c4
          try clear c5
          try clear p6
          try clear c9
          try clear c10
          try clear c10b0
          try clear c10b1
          try clear p10
          try clear q10
          try clear hx10
          try clear c13
          try clear c13b0
          try clear c14
          try clear c14b0
          try clear c18
          try clear c21
          try clear c23
          try clear c25
          try clear c26
          try clear c29
          try clear c32
          try clear c35
          try clear hcz11_0
          try clear hcz11_1
          try clear hcz12_0
          try clear hcz12_1
          try clear hcz16_0
          try clear hcz16_1
          try clear hcz19_0
          try clear hcz19_1
          try clear hcz19_2
          try clear hcz19_3
          try clear hcz27_0
          try clear hcz27_1
          try clear hcz27_2
          try clear hcz27_3
          try clear hcz28_0
          try clear hcz28_1
          try clear hcz30_0
          try clear hcz30_1
          try clear hcz30_2
          try clear hcz30_3
          try clear hcz31_0
          try clear hcz31_1
          try clear hcz33_0
          try clear hcz33_1
          try clear hcz33_2
          try clear hcz33_3
          try clear hcz34_0
          try clear hcz34_1
          try clear hcz36_0
          try clear hcz36_1
          try clear hcz36_2
          try clear hcz36_3
          try clear hcz37_0
          try clear hcz37_1
          try clear hcz7_0
          try clear hcz7_1
          try clear hcz8_0
          try clear hcz8_1
          try clear hfz11_0
          try clear hfz11_1
          try clear hfz12_0
          try clear hfz12_1
          try clear hfz16_0
          try clear hfz16_1
          try clear hfz19_0
          try clear hfz19_1
          try clear hfz19_2
          try clear hfz19_3
          try clear hfz27_0
          try clear hfz27_1
          try clear hfz27_2
          try clear hfz27_3
          try clear hfz28_0
          try clear hfz28_1
          try clear hfz30_0
          try clear hfz30_1
          try clear hfz30_2
          try clear hfz30_3
          try clear hfz31_0
          try clear hfz31_1
          try clear hfz33_0
          try clear hfz33_1
          try clear hfz33_2
          try clear hfz33_3
          try clear hfz34_0
          try clear hfz34_1
          try clear hfz36_0
          try clear hfz36_1
          try clear hfz36_2
          try clear hfz36_3
          try clear hfz37_0
          try clear hfz37_1
          try clear hfz7_0
          try clear hfz7_1
          try clear hfz8_0
          try clear hfz8_1
          try clear hx104_0
          try clear hx104_1
          try clear hx104_2
          try clear hx104_3
          try clear p104
          try clear p2
          try clear q104
          obtain ⟨kq, x64_14, rfl, HA, HJ14, BK101, BK105, HB⟩ := hcut
          cases kq with
          | zero => exact absurd HA.out (by simp [walkmillref04_Check.j2])
          | succ kj14 =>
           have H := HA.out
           clear HA
           simp only [walkmillref04_Check.j2] at H
           by_cases c38 : x64_14 = true
           ·subst c38
            rw [if_pos rfl] at H
            obtain rfl := Option.some.inj H
            go_wp2
            go_ret
            exact ⟨eT, pE HB⟩
           ·replace c38 := Bool.eq_false_iff.mpr c38
            subst c38
            rw [if_neg (show ¬ (false = true) by decide)] at H
            have H' := Aside0.mk H
            clear H
            go_wp2
            go_roundg kj14
            case measure => have := HJ1.out; have := HK2.out; have := HJ14.out; omega
            case rel => exact ⟨(wrap64 (x3_2 + 1)), (by first | rfl | (simp; done) | (simp [*]; done)), H', ⟨by have := HJ1.out; have := HK2.out; have := HJ14.out; omega⟩, ⟨pB BK101.out⟩, ⟨pE HB⟩⟩
        ·rw [if_neg c14] at H
         exact absurd H (by simp)
       ·rw [if_neg c13] at H
        have c13b0 : decide (x3_2 < (l0_0.length : Int)) = false := decide_eq_false c13
        clear c13
        obtain rfl := Option.some.inj H
        obtain ⟨_, _, _, _⟩ := cf2 BK101
        go_wp2
        go_ret
        exact ⟨eT, pE HB⟩
end Go.Proofs.YtlmglnobdcgbeaaGreat.P
namespace Go.Proofs.YtlmglnobdcgbeaaGreat.P
open Go.RowKit Go.Proofs.YtlmglnobdcgbeaaGreatW.PrintWords Go.Proofs.YtlmglnobdcgbeaaGreatW.PrintLast Go.Proofs.YtlmglnobdcgbeaaGreatW.PrintMore
theorem anyO_pure {α : Type} (q : α → Option Bool) (p : α → Bool) (h : ∀ x, q x = some (p x)) : ∀ l, anyO q l = some (l.any p)
  | [] => rfl
  | x :: r => by
    unfold anyO
    rw [h x, anyO_pure q p h r]
    cases hp : p x <;> simp [hp]
theorem w64_of {n : Int} (h0 : -9223372036854775808 ≤ n) (h1 : n < 9223372036854775808) : wrap64 n = n := by unfold wrap64; omega
theorem nx (i : Nat) (h : i < 1000000) : wrap64 ((i : Int) + 1) = ((i + 1 : Nat) : Int) := by rw [w64_of (by omega) (by omega)]; simp
def isIn (a b n : Int) : Bool := decide (a ≤ n) && decide (n ≤ b)
theorem within1_eq (a b x : Int) : turn_within_1.f x a b = some (!isIn a b x) := by
  unfold turn_within_1.f isIn
  by_cases h : x < a
  · rw [if_pos h]; simp [show ¬ a ≤ x by omega]
  · rw [if_neg h]
    by_cases h2 : x ≤ b
    · simp [show a ≤ x by omega, h2]
    · simp [h2]; omega
theorem within_eq (a b : Int) (l : List Int) : turn_within.f a b l = some (l.all (isIn a b)) := by
  unfold turn_within.f any_at_turn_within_1.f
  rw [anyO_pure _ (fun x => !isIn a b x) (fun x => within1_eq a b x)]
  simp [List.any_eq_not_all_not]
theorem rIn_eq (a b n : Int) : walkmillref04_In.f n a b = some (isIn a b n) := by
  unfold walkmillref04_In.f isIn
  by_cases h : n ≥ a
  · rw [if_pos h]; simp [show a ≤ n from h]
  · rw [if_neg h]; simp [show ¬ a ≤ n from h]
theorem rd_at (l : List Int) (i : Nat) (h : i < l.length) : rd l (i : Int) = l[i] := by
  unfold rd; simp [List.getD_eq_getElem?_getD, List.getElem?_eq_getElem h]
theorem rd67_at (l : List S67) (i : Nat) (h : i < l.length) : rd_T67 l (i : Int) = l[i] := by
  unfold rd_T67; simp [List.getD_eq_getElem?_getD, List.getElem?_eq_getElem h]
def rng (n : Nat) : List Int := (List.range n).map (fun i : Nat => (i : Int))
theorem mem_rng {n : Nat} {x : Int} : x ∈ rng n ↔ 0 ≤ x ∧ x < (n : Int) := by
  unfold rng
  simp only [List.mem_map, List.mem_range]
  constructor
  · rintro ⟨i, h, rfl⟩; omega
  · exact fun h => ⟨x.toNat, by omega, by omega⟩
theorem rng_length (n : Nat) : (rng n).length = n := by simp [rng]
theorem rng_getElem (n i : Nat) (h : i < (rng n).length) : (rng n)[i] = (i : Int) := by simp [rng]
theorem rng_succ (n : Nat) : rng (n + 1) = rng n ++ [(n : Int)] := by unfold rng; rw [List.range_succ, List.map_append]; rfl
theorem rng_lt (n : Nat) : (rng n).Pairwise (fun a b => a < b) := by
  refine List.pairwise_iff_getElem.2 fun i j hi hj hij => ?_
  rw [rng_getElem, rng_getElem]; omega
theorem rng_nodup (n : Nat) : (rng n).Nodup := List.nodup_iff_pairwise_ne.2 ((rng_lt n).imp fun h e => by omega)
theorem perm_of_sub : ∀ (r l : List Int), r.Nodup → (∀ x ∈ r, x ∈ l) → l.length ≤ r.length → r.Perm l
  | [], l, _, _, h => by
    obtain rfl : l = [] := List.eq_nil_of_length_eq_zero (by simpa using h)
    exact List.Perm.refl _
  | a :: r, l, hn, hs, h => by
    have ha := hs a (by simp)
    obtain ⟨h1, h2⟩ := List.nodup_cons.1 hn
    have := perm_of_sub r (l.erase a) h2 (fun x hx => (List.mem_erase_of_ne (by rintro rfl; exact h1 hx)).2 (hs x (by simp [hx]))) (by rw [List.length_erase_of_mem ha]; simp at h ⊢; omega)
    exact (this.cons a).trans (List.perm_cons_erase ha).symm
theorem sorted_key {g : Int → Int} : ∀ (p q : List Int), p.Perm q → p.Pairwise (fun a b => g a ≤ g b) → q.Pairwise (fun a b => g a ≤ g b) → (∀ a ∈ p, ∀ b ∈ p, g a = g b → a = b) → p = q
  | [], q, h, _, _, _ => (List.Perm.nil_eq h)
  | a :: p, [], h, _, _, _ => absurd h.length_eq (by simp)
  | a :: p, b :: q, h, hp, hq, hi => by
    obtain ⟨p1, p2⟩ := List.pairwise_cons.1 hp
    obtain ⟨q1, q2⟩ := List.pairwise_cons.1 hq
    have hb : b ∈ a :: p := h.mem_iff.2 (by simp)
    have ha : a ∈ b :: q := h.mem_iff.1 (by simp)
    have e : a = b := by
      rcases List.mem_cons.1 hb with e | hb'
      · exact e.symm
      rcases List.mem_cons.1 ha with e | ha'
      · exact e
      exact hi a (by simp) b hb (Int.le_antisymm (p1 b hb') (q1 a ha'))
    subst e
    rw [sorted_key p q (List.Perm.cons_inv h) p2 q2 (fun x hx y hy => hi x (by simp [hx]) y (by simp [hy]))]
theorem srt_perm (l : List Int) : (srt l).Perm l := List.mergeSort_perm _ _
theorem srt_sorted (l : List Int) : (srt l).Pairwise (fun a b => a ≤ b) := by
  have := List.pairwise_mergeSort (le := fun x y : Int => decide (x ≤ y)) (fun a b c h1 h2 => by simp at *; omega) (fun a b => by simp; omega) l
  exact this.imp (fun h => by simpa using h)
theorem isOrder_l (x0 s : List Int) (x1 : Int) (hs : s.length ≤ 1000) : ∀ (d i k : Nat), i + d = s.length → d < k →
    turn_isOrder.l0 k x0 x1 s (s.length : Int) i = some (decide (∀ j (h : j < s.length), i ≤ j → s[j] = (j : Int)) && ((x0.length : Int) == x1))
  | 0, i, k, hd, hk => by
    obtain ⟨k, rfl⟩ : ∃ m, k = m + 1 := ⟨k - 1, by omega⟩
    rw [turn_isOrder.l0, if_neg (by omega), decide_eq_true (fun j hj hij => by omega)]; simp
  | d + 1, i, k, hd, hk => by
    obtain ⟨k, rfl⟩ : ∃ m, k = m + 1 := ⟨k - 1, by omega⟩
    rw [turn_isOrder.l0, if_pos (by omega), if_pos (by omega), if_pos (by omega), rd_at s i (by omega)]
    by_cases h : (i : Int) = s[i]
    · rw [if_pos h, nx i (by omega), isOrder_l x0 s x1 hs d (i + 1) k (by omega) (by omega)]
      congr 2
      refine decide_eq_decide.2 ⟨fun h2 j hj hij => ?_, fun h2 j hj hij => h2 j hj (by omega)⟩
      rcases Nat.eq_or_lt_of_le hij with e | e
      · subst e; exact h.symm
      · exact h2 j hj (by omega)
    · rw [if_neg h, decide_eq_false (fun h2 => h (h2 i (by omega) (Nat.le_refl _)).symm)]; rfl
theorem isOrder_eq (l : List Int) (n : Nat) (hl : l.length ≤ 1000) : turn_isOrder.f l (n : Int) = some (decide (l.Perm (rng n))) := by
  unfold turn_isOrder.f
  have hsl : (srt l).length = l.length := (srt_perm l).length_eq
  rw [if_pos (by omega)]
  have := isOrder_l l (srt l) n (by omega) (srt l).length 0 (l.length + 2) (by omega) (by omega)
  simp only [Int.ofNat_zero] at this
  rw [show turn_isOrder.l0 (l.length + 2) l n (srt l) ((srt l).length : Int) 0 = _ from this]
  congr 1
  have e : ((l.length : Int) == (n : Int)) = decide (l.length = n) := by
    by_cases h : l.length = n
    · simp [h]
    · rw [decide_eq_false h, beq_eq_false_iff_ne]; omega
  rw [e, ← Bool.decide_and]
  refine decide_eq_decide.2 ⟨?_, fun h => ?_⟩
  · rintro ⟨h1, h2⟩
    have : srt l = rng n := List.ext_getElem (by rw [rng_length, hsl, h2]) (fun i hi hj => by rw [h1 i hi (by omega), rng_getElem])
    rw [← this]; exact (srt_perm l).symm
  · have hln : l.length = n := by rw [h.length_eq, rng_length]
    have : srt l = rng n := sorted_key (g := id) _ _ ((srt_perm l).trans h) (srt_sorted l) ((rng_lt n).imp fun h => Int.le_of_lt h) (fun a _ b _ h => h)
    refine ⟨fun j hj _ => ?_, hln⟩
    have h2 : j < (rng n).length := by rw [rng_length]; omega
    have : (srt l)[j] = (rng n)[j] := by simp only [this]
    rw [this, rng_getElem]
theorem find_l (l : List Int) (x : Int) (hl : l.length ≤ 1000) : ∀ (d i k : Nat), i + d = l.length → d < k → ∃ t, walkmillref04_Find.l0 k l x i = some t ∧ (t < 0 ↔ x ∉ l.drop i)
  | 0, i, k, hd, hk => by
    obtain ⟨k, rfl⟩ : ∃ m, k = m + 1 := ⟨k - 1, by omega⟩
    exact ⟨-1, by rw [walkmillref04_Find.l0, if_neg (by omega)], by rw [List.drop_of_length_le (by omega)]; simp⟩
  | d + 1, i, k, hd, hk => by
    obtain ⟨k, rfl⟩ : ∃ m, k = m + 1 := ⟨k - 1, by omega⟩
    have hlt : i < l.length := by omega
    rw [walkmillref04_Find.l0, if_pos (by omega), if_pos (by omega), rd_at l i hlt]
    have hdr := List.drop_eq_getElem_cons hlt
    by_cases h : l[i] = x
    · rw [if_pos h]; exact ⟨i, rfl, by rw [hdr]; simp [h]⟩
    · rw [if_neg h, nx i (by omega)]
      obtain ⟨t, h1, h2⟩ := find_l l x hl d (i + 1) k (by omega) (by omega)
      exact ⟨t, h1, h2.trans (by rw [hdr]; exact ⟨fun a b => (List.mem_cons.1 b).elim (fun e => h e.symm) a, fun a b => a (List.mem_cons_of_mem _ b)⟩)⟩
theorem find_eq (l : List Int) (x : Int) (hl : l.length ≤ 1000) (k : Nat) (hk : l.length < k) : ∃ t, walkmillref04_Find.f k l x = some t ∧ (t < 0 ↔ x ∉ l) := by
  have := find_l l x hl l.length 0 k (by omega) hk
  simpa [walkmillref04_Find.f] using this
theorem once_l (l : List Int) (n : Nat) (hl : l.length ≤ 1000) (hn : n ≤ 1000) : ∀ (d i k : Nat), i + d = n → d + l.length + 1 < k →
    walkmillref04_Once.l0 k l n i = some (decide (∀ j : Nat, j < n → i ≤ j → (j : Int) ∈ l))
  | 0, i, k, hd, hk => by
    obtain ⟨k, rfl⟩ : ∃ m, k = m + 1 := ⟨k - 1, by omega⟩
    rw [walkmillref04_Once.l0, if_neg (by omega), decide_eq_true (fun j h1 h2 => by omega)]
  | d + 1, i, k, hd, hk => by
    obtain ⟨k, rfl⟩ : ∃ m, k = m + 1 := ⟨k - 1, by omega⟩
    rw [walkmillref04_Once.l0, if_pos (by omega)]
    obtain ⟨t, h1, h2⟩ := find_eq l i hl k (by omega)
    rw [h1, Option.bind_some]
    by_cases h : t < 0
    · rw [if_pos h, decide_eq_false (fun h3 => h2.1 h (h3 i (by omega) (Nat.le_refl _)))]
    · rw [if_neg h, nx i (by omega), once_l l n hl hn d (i + 1) k (by omega) (by omega)]
      have hm : (i : Int) ∈ l := Decidable.by_contra fun h3 => h (h2.2 h3)
      congr 1
      refine decide_eq_decide.2 ⟨fun h3 j hjn hj => ?_, fun h3 j hjn hj => h3 j hjn (by omega)⟩
      rcases Nat.eq_or_lt_of_le hj with e | e
      · subst e; exact hm
      · exact h3 j hjn (by omega)
theorem once_eq (l : List Int) (n : Nat) (hl : l.length ≤ 1000) (hn : n ≤ 1000) (k : Nat) (hk : n + l.length + 1 < k) : walkmillref04_Once.f k l (n : Int) = some (decide (l.Perm (rng n))) := by
  unfold walkmillref04_Once.f
  by_cases h : l.length = n
  · rw [if_pos (by omega)]
    have := once_l l n hl hn n 0 k (by omega) (by omega)
    rw [show walkmillref04_Once.l0 k l n 0 = _ from this]
    congr 1
    refine decide_eq_decide.2 ⟨fun h2 => ?_, fun h2 j hj _ => h2.mem_iff.2 (mem_rng.2 (by omega))⟩
    refine (perm_of_sub (rng n) l (rng_nodup n) (fun x hx => ?_) (by rw [rng_length]; omega)).symm
    obtain ⟨h3, h4⟩ := mem_rng.1 hx
    have := h2 x.toNat (by omega) (by omega)
    rwa [show ((x.toNat : Nat) : Int) = x by omega] at this
  · rw [if_neg (by omega), decide_eq_false (fun h2 => h (by rw [h2.length_eq, rng_length]))]
def clothOk (n : Int) (c : S67) : Bool := isIn 0 (n - 1) c.f0 && (isIn 0 200 c.f1 && (isIn 1 20 c.f2.f0 && isIn 1 20 c.f2.f1 && decide (c.f2.f0 ≤ c.f2.f1)))
def chk (cl : List S67) (rk : List Int) : Int := if (isIn 1 6 (rk.length : Int) && decide (rk.Perm (rng rk.length))) = false then 4 else if (cl.length : Int) > 10 then 5 else if cl.all (clothOk rk.length) = true then 0 else 2
theorem Check1_eq (c : S67) (l0 : List S67) (rk : List Int) (hr : rk.length ≤ 1000) : turn_Check_1.f c.f0 c.f1 c.f2.f0 c.f2.f1 l0 rk = some (!clothOk rk.length c) := by
  unfold turn_Check_1.f clothOk
  rw [within_eq, within_eq, within_eq, w64_of (by omega) (by omega)]
  simp only [Option.bind_some, List.all_cons, List.all_nil, Bool.and_true]
  cases isIn 0 ((rk.length : Int) - 1) c.f0 <;> cases isIn 0 200 c.f1 <;> cases (isIn 1 20 c.f2.f0 && isIn 1 20 c.f2.f1) <;> simp
  by_cases h : c.f2.f0 ≤ c.f2.f1
  · simp [h]
  · simp [h]; omega
theorem tCheck_eq (cl : List S67) (rk : List Int) (hr : rk.length ≤ 1000) (k : Nat) (hk : 0 < k) : turn_Check.f k cl rk = some (chk cl rk) := by
  obtain ⟨k, rfl⟩ : ∃ m, k = m + 1 := ⟨k - 1, by omega⟩
  unfold turn_Check.f chk
  rw [within_eq, isOrder_eq rk rk.length hr]
  simp only [Option.bind_some, List.all_cons, List.all_nil, Bool.and_true]
  have hj : ∀ b, turn_Check.j0 (k + 1) b cl rk = some (if b = true then 4 else if (cl.length : Int) > 10 then 5 else if cl.all (clothOk rk.length) = true then 0 else 2) := fun b => by
    rw [turn_Check.j0]
    unfold any_at_turn_Check_1.f
    rw [anyO_pure _ (fun x => !clothOk rk.length x) (fun x => Check1_eq x cl rk hr)]
    have ha : (cl.any fun x => !clothOk rk.length x) = !cl.all (clothOk rk.length) := by simp [List.any_eq_not_all_not]
    rw [ha, Option.bind_some]
    split
    · rfl
    split
    · rfl
    cases cl.all (clothOk rk.length) <;> rfl
  rw [hj, hj]
  cases isIn 1 6 (rk.length : Int) <;> cases decide (rk.Perm (rng rk.length)) <;> simp
theorem rCheck_l (cl : List S67) (rk : List Int) (hc : cl.length ≤ 1000) (hr : rk.length ≤ 1000) : ∀ (d i k : Nat), i + d = cl.length → 2 * d < k → walkmillref04_Check.l0 k i cl rk = some (if (cl.drop i).all (clothOk rk.length) = true then 0 else 2)
  | 0, i, k, hd, hk => by
    obtain ⟨k, rfl⟩ : ∃ m, k = m + 1 := ⟨k - 1, by omega⟩
    rw [walkmillref04_Check.l0, if_neg (by omega), List.drop_of_length_le (by omega)]; rfl
  | d + 1, i, k, hd, hk => by
    obtain ⟨k, rfl⟩ : ∃ m, k = m + 1 := ⟨k - 1, by omega⟩
    have hlt : i < cl.length := by omega
    rw [walkmillref04_Check.l0, if_pos (by omega), if_pos (by omega), rd67_at cl i hlt, rIn_eq, rIn_eq, rIn_eq, w64_of (by omega) (by omega), List.drop_eq_getElem_cons hlt]
    obtain ⟨k, rfl⟩ : ∃ m, k = m + 1 := ⟨k - 1, by omega⟩
    have ih := rCheck_l cl rk hc hr d (i + 1) k (by omega) (by omega)
    have hj : ∀ b, walkmillref04_Check.j2 (k + 1) i b cl rk = some (if (!b && (cl.drop (i + 1)).all (clothOk rk.length)) = true then 0 else 2) := fun b => by
      rw [walkmillref04_Check.j2, nx i (by omega), ih]
      cases b <;> simp
    simp only [Option.bind_some, hj, List.all_cons]
    have hcl : clothOk rk.length cl[i] = (isIn 0 ((rk.length : Int) - 1) cl[i].f0 && (isIn 0 200 cl[i].f1 && (isIn 1 cl[i].f2.f1 cl[i].f2.f0 && decide (cl[i].f2.f1 ≤ 20)))) := by
      unfold clothOk isIn
      congr 2
      by_cases h1 : 1 ≤ cl[i].f2.f0 <;> by_cases h2 : cl[i].f2.f0 ≤ cl[i].f2.f1 <;> by_cases h3 : cl[i].f2.f1 ≤ 20 <;> simp [h1, h2, h3] <;> omega
    have hd20 : decide (cl[i].f2.f1 > 20) = !decide (cl[i].f2.f1 ≤ 20) := by
      by_cases h : cl[i].f2.f1 ≤ 20
      · simp [h]
      · simp [h]; omega
    simp only [hcl, hd20]
    cases isIn 0 ((rk.length : Int) - 1) cl[i].f0 <;> cases isIn 0 200 cl[i].f1 <;> cases isIn 1 cl[i].f2.f1 cl[i].f2.f0 <;> cases decide (cl[i].f2.f1 ≤ 20) <;> simp
theorem rCheck_eq (cl : List S67) (rk : List Int) (hc : cl.length ≤ 1000) (hr : rk.length ≤ 1000) (k : Nat) (hk : 2 * cl.length + 2 * rk.length + 5 < k) : walkmillref04_Check.f k cl rk = some (chk cl rk) := by
  unfold walkmillref04_Check.f chk
  rw [rIn_eq, once_eq rk rk.length hr hr k (by omega)]
  obtain ⟨k, rfl⟩ : ∃ m, k = m + 1 := ⟨k - 1, by omega⟩
  simp only [Option.bind_some]
  have hl := rCheck_l cl rk hc hr cl.length 0 k (by omega) (by omega)
  simp only [Int.ofNat_zero, List.drop_zero] at hl
  have hj : ∀ b, walkmillref04_Check.j0 (k + 1) b cl rk = some (if b = true then 4 else if (cl.length : Int) > 10 then 5 else if cl.all (clothOk rk.length) = true then 0 else 2) := fun b => by
    rw [walkmillref04_Check.j0, show walkmillref04_Check.l0 k 0 cl rk = _ from hl]
    split
    · rfl
    split
    · rfl
    rfl
  rw [hj, hj]
  cases isIn 1 6 (rk.length : Int) <;> cases decide (rk.Perm (rng rk.length)) <;> simp
structure Valid (cl : List S67) (rk : List Int) : Prop where
  r1 : 1 ≤ rk.length
  r6 : rk.length ≤ 6
  perm : rk.Perm (rng rk.length)
  c10 : cl.length ≤ 10
  ok : ∀ c ∈ cl, 0 ≤ c.f0 ∧ c.f0 < rk.length ∧ 0 ≤ c.f1 ∧ c.f1 ≤ 200 ∧ 1 ≤ c.f2.f0 ∧ c.f2.f0 ≤ c.f2.f1 ∧ c.f2.f1 ≤ 600
theorem valid_of {cl : List S67} {rk : List Int} (h : chk cl rk = 0) : Valid cl rk := by
  unfold chk at h
  split at h
  · cases h
  rename_i h1
  split at h
  · cases h
  rename_i h2
  split at h
  · rename_i h3
    simp only [Bool.not_eq_false, Bool.and_eq_true, decide_eq_true_eq] at h1
    have h1' := h1.1
    simp only [isIn, Bool.and_eq_true, decide_eq_true_eq] at h1'
    refine ⟨by omega, by omega, h1.2, by omega, fun c hc => ?_⟩
    have := List.all_eq_true.1 h3 c hc
    simp only [clothOk, isIn, Bool.and_eq_true, decide_eq_true_eq] at this
    omega
  · cases h
end Go.Proofs.YtlmglnobdcgbeaaGreat.P
namespace Go.Proofs.YtlmglnobdcgbeaaGreat.P
open Go.RowKit Go.Proofs.YtlmglnobdcgbeaaGreatW.PrintWords Go.Proofs.YtlmglnobdcgbeaaGreatW.PrintLast Go.Proofs.YtlmglnobdcgbeaaGreatW.PrintMore
attribute [local go_sem] max2_int min2_int max_two min_two max_three min_three max_four min_four
def cmp_Or_int.l0 : Nat → Int → List Int → Int → Int → Option (Int)
 | 0, _, _, _, _ => none
 | k + 1, x3, x6, x7, x8 => if x8 < x7 then (if 0 ≤ x8 then (if x8 < (x6.length : Int) then (if (rd x6 x8) = x3 then (cmp_Or_int.l0 k x3 x6 x7 (wrap64 (x8 + 1))) else (some (rd x6 x8))) else (none)) else (none)) else (some x3)
def cmp_Or_int.f (k : Nat) (l0 : List Int) : Option (Int) := cmp_Or_int.l0 k 0 l0 (l0.length : Int) 0
theorem cmp_Or_int.mono_l : ∀ k, (∀ y0 y1 y2 y3, LeO (cmp_Or_int.l0 k y0 y1 y2 y3) (cmp_Or_int.l0 (k + 1) y0 y1 y2 y3))
 | 0 => fun _ _ _ _ r h => by simp [cmp_Or_int.l0] at h
 | k + 1 => by
  have ih0 := cmp_Or_int.mono_l k
  ·intro y0 y1 y2 y3
   unfold cmp_Or_int.l0
   repeat' first
   | (with_reducible exact ih0 _ _ _ _)
   | (with_reducible exact LeO.refl _)
   | (with_reducible exact LeO.none _)
   | (with_reducible refine LeO.ite ?_ ?_)
   | (with_reducible refine LeO.bind ?_ (fun _ => ?_))
   | exact ih0 _ _ _ _
   | exact LeO.none _
   | refine LeO.ite ?_ ?_
   | refine LeO.bind ?_ (fun _ => ?_)
theorem cmp_Or_int.mono : ∀ a0 k, LeO (cmp_Or_int.f k a0) (cmp_Or_int.f (k + 1) a0) := by
 intro a0 k
 have ih0 := cmp_Or_int.mono_l k
 unfold cmp_Or_int.f
 repeat' first
   | (with_reducible exact ih0 _ _ _ _)
   | (with_reducible exact LeO.refl _)
   | (with_reducible exact LeO.none _)
   | (with_reducible refine LeO.ite ?_ ?_)
   | (with_reducible refine LeO.bind ?_ (fun _ => ?_))
   | exact ih0 _ _ _ _
   | exact LeO.none _
   | refine LeO.ite ?_ ?_
   | refine LeO.bind ?_ (fun _ => ?_)
set_option maxHeartbeats 8000000 in
set_option maxRecDepth 100000 in
theorem cmp_Or_int.calls (k : Nat) (A0 : Option Addr) (c0 : Nat) (l0 : List Int) (r : Int) (w : World) (hr0 : Kd.C (Kd.int .i64) w A0 l0.length l0) (hc0 : l0.length ≤ c0) (h : cmp_Or_int.f k l0 = some r) :
  Calls Tryz.prog 109 #[.slice A0 l0.length c0] w fun e w' => e = .returned (.int .i64 r) ∧ Drawn0 w w' := by
 have HR0 := Aside0.mk hr0
 have HC0 := Aside0.mk hc0
 clear hr0 hc0
 have H : (cmp_Or_int.l0 k 0 l0 (l0.length : Int) 0) = some r := h
 clear h
 have H' := Aside0.mk H
 clear H
 go_enter Tryz.func109, Tryz.ntmps109
 go_wp2
 go_loopg [8] k (fun kq v8 w' => ∃ (x8_1 : Int), v8 = .int .i64 x8_1 ∧ Aside0 (cmp_Or_int.l0 kq 0 l0 (l0.length : Int) x8_1 = some r) ∧ Aside0 (kq ≤ k) ∧ Drawn0 w w')
 case atStart => exact ⟨(0), (by first | rfl | (simp; done) | (simp [*]; done)), H', ⟨Nat.le_refl _⟩, by repeat (first | exact Drawn0.refl _ | apply Drawn0.step)⟩
 case round =>
  clear H'
  try clear c1
  obtain ⟨x8_1, rfl, HA, HK1, ⟨m1, rfl⟩⟩ := hrel
  cases gk with
  | zero => exact absurd HA.out (by simp [cmp_Or_int.l0])
  | succ k1 =>
   have H := HA.out
   clear HA
   simp only [cmp_Or_int.l0] at H
   by_cases c2 : x8_1 < (l0.length : Int)
   ·rw [if_pos c2] at H
    have c2b0 : decide (x8_1 < (l0.length : Int)) = true := decide_eq_true c2
    clear c2
    by_cases c3 : 0 ≤ x8_1
    ·rw [if_pos c3] at H
     have c3b0 : decide (0 ≤ x8_1) = true := decide_eq_true c3
     clear c3
     by_cases c4 : x8_1 < (l0.length : Int)
     ·rw [if_pos c4] at H
      have c4b0 : decide (x8_1 < (l0.length : Int)) = true := decide_eq_true c4
      clear c4
      by_cases c5 : (rd l0 x8_1) = 0
      ·rw [if_pos c5] at H
       have c5b0 : ((rd l0 x8_1) == 0) = true := beq_iff_eq.mpr c5
       have c5b1 : ((rd l0 x8_1) != 0) = false := bne_eq_false_iff_eq.mpr c5
       clear c5
       have H' := Aside0.mk H
       clear H
       have p101 : 0 ≤ (x8_1 : Int) := dT
       have q101 : x8_1 < (l0.length : Int) := dT
       obtain ⟨ad101, e101, hx101_0⟩ := Kd.at_int HR0.out x8_1 p101 q101
       cases e101
       replace p101 := eq_true p101
       replace q101 := eq_true q101
       go_wp2
       go_roundg k1
       case measure => have := HK1.out; omega
       case rel => exact ⟨(wrap64 (x8_1 + 1)), (by first | rfl | (simp; done) | (simp [*]; done)), H', ⟨by have := HK1.out; omega⟩, by repeat (first | exact Drawn0.refl _ | apply Drawn0.step)⟩
      ·rw [if_neg c5] at H
       have c5b0 : ((rd l0 x8_1) == 0) = false := beq_eq_false_iff_ne.mpr c5
       have c5b1 : ((rd l0 x8_1) != 0) = true := bne_iff_ne.mpr c5
       obtain rfl := Option.some.inj H
       have p101 : 0 ≤ (x8_1 : Int) := dT
       have q101 : x8_1 < (l0.length : Int) := dT
       obtain ⟨ad101, e101, hx101_0⟩ := Kd.at_int HR0.out x8_1 p101 q101
       cases e101
       replace p101 := eq_true p101
       replace q101 := eq_true q101
       go_wp2
       go_ret
       exact ⟨by first | rfl | (simp; done) | (simp [*]; done), by repeat (first | exact Drawn0.refl _ | apply Drawn0.step)⟩
     ·rw [if_neg c4] at H
      exact absurd H (by simp)
    ·rw [if_neg c3] at H
     exact absurd H (by simp)
   ·rw [if_neg c2] at H
    have c2b0 : decide (x8_1 < (l0.length : Int)) = false := decide_eq_false c2
    clear c2
    obtain rfl := Option.some.inj H
    go_wp2
    go_ret
    exact ⟨by first | rfl | (simp; done) | (simp [*]; done), by repeat (first | exact Drawn0.refl _ | apply Drawn0.step)⟩
mutual
def turn_day_nth.l0 : Nat → Int → List (S67) → Int → Int → Int → Int → Int → Int → Option (Int)
 | 0, _, _, _, _, _, _, _, _ => none
 | k + 1, x4, x18, x19, x20, x104000, x104001, x104002, x104003 => if x20 < x19 then (if 0 ≤ x20 then (if x20 < (x18.length : Int) then (if ((rd_T67 x18 x20).f0) = x104000 then (turn_day_nth.j1 k x4 x18 x19 x20 (((rd_T67 x18 x20).f1) == x104001) x104000 x104001 x104002 x104003) else (turn_day_nth.j1 k x4 x18 x19 x20 false x104000 x104001 x104002 x104003)) else (none)) else (none)) else (some x4)
def turn_day_nth.j1 : Nat → Int → List (S67) → Int → Int → Bool → Int → Int → Int → Int → Option (Int)
 | 0, _, _, _, _, _, _, _, _, _ => none
 | k + 1, x4, x18, x19, x20, x35, x104000, x104001, x104002, x104003 => if x35 = true then (turn_day_nth.l0 k (wrap64 (x4 + 1)) x18 x19 (wrap64 (x20 + 1)) x104000 x104001 x104002 x104003) else (turn_day_nth.l0 k x4 x18 x19 (wrap64 (x20 + 1)) x104000 x104001 x104002 x104003)
end
def turn_day_nth.f (k : Nat) (l0_0 : List (S67)) (l0_1 : List Int) (a1 : Int) : Option (Int) := if 0 ≤ a1 then (if a1 < (l0_0.length : Int) then (if a1 ≤ (l0_0.length : Int) then ((some (l0_0.take (a1 : Int).toNat : List (S67))).bind fun y104 => (turn_day_nth.l0 k 0 y104 (y104.length : Int) 0 ((rd_T67 l0_0 a1).f0) ((rd_T67 l0_0 a1).f1) ((rd_T67 l0_0 a1).f2.f0) ((rd_T67 l0_0 a1).f2.f1))) else (none)) else (none)) else (none)
theorem turn_day_nth.mono_l : ∀ k, (∀ y0 y1 y2 y3 y4 y5 y6 y7, LeO (turn_day_nth.l0 k y0 y1 y2 y3 y4 y5 y6 y7) (turn_day_nth.l0 (k + 1) y0 y1 y2 y3 y4 y5 y6 y7)) ∧ (∀ y0 y1 y2 y3 y4 y5 y6 y7 y8, LeO (turn_day_nth.j1 k y0 y1 y2 y3 y4 y5 y6 y7 y8) (turn_day_nth.j1 (k + 1) y0 y1 y2 y3 y4 y5 y6 y7 y8))
 | 0 => ⟨fun _ _ _ _ _ _ _ _ r h => by simp [turn_day_nth.l0] at h, fun _ _ _ _ _ _ _ _ _ r h => by simp [turn_day_nth.j1] at h⟩
 | k + 1 => by
  obtain ⟨ih0, ih1⟩ := turn_day_nth.mono_l k
  refine ⟨?_, ?_⟩
  ·intro y0 y1 y2 y3 y4 y5 y6 y7
   unfold turn_day_nth.l0
   repeat' first
   | (with_reducible exact ih0 _ _ _ _ _ _ _ _)
   | (with_reducible exact ih1 _ _ _ _ _ _ _ _ _)
   | (with_reducible exact LeO.refl _)
   | (with_reducible exact LeO.none _)
   | (with_reducible refine LeO.ite ?_ ?_)
   | (with_reducible refine LeO.bind ?_ (fun _ => ?_))
   | exact ih0 _ _ _ _ _ _ _ _
   | exact ih1 _ _ _ _ _ _ _ _ _
   | exact LeO.none _
   | refine LeO.ite ?_ ?_
   | refine LeO.bind ?_ (fun _ => ?_)
  ·intro y0 y1 y2 y3 y4 y5 y6 y7 y8
   unfold turn_day_nth.j1
   repeat' first
   | (with_reducible exact ih0 _ _ _ _ _ _ _ _)
   | (with_reducible exact ih1 _ _ _ _ _ _ _ _ _)
   | (with_reducible exact LeO.refl _)
   | (with_reducible exact LeO.none _)
   | (with_reducible refine LeO.ite ?_ ?_)
   | (with_reducible refine LeO.bind ?_ (fun _ => ?_))
   | exact ih0 _ _ _ _ _ _ _ _
   | exact ih1 _ _ _ _ _ _ _ _ _
   | exact LeO.none _
   | refine LeO.ite ?_ ?_
   | refine LeO.bind ?_ (fun _ => ?_)
theorem turn_day_nth.mono : ∀ a0 a1 a2 k, LeO (turn_day_nth.f k a0 a1 a2) (turn_day_nth.f (k + 1) a0 a1 a2) := by
 intro a0 a1 a2 k
 obtain ⟨ih0, ih1⟩ := turn_day_nth.mono_l k
 unfold turn_day_nth.f
 repeat' first
   | (with_reducible exact ih0 _ _ _ _ _ _ _ _)
   | (with_reducible exact ih1 _ _ _ _ _ _ _ _ _)
   | (with_reducible exact LeO.refl _)
   | (with_reducible exact LeO.none _)
   | (with_reducible refine LeO.ite ?_ ?_)
   | (with_reducible refine LeO.bind ?_ (fun _ => ?_))
   | exact ih0 _ _ _ _ _ _ _ _
   | exact ih1 _ _ _ _ _ _ _ _ _
   | exact LeO.none _
   | refine LeO.ite ?_ ?_
   | refine LeO.bind ?_ (fun _ => ?_)
set_option maxHeartbeats 8000000 in
set_option maxRecDepth 100000 in
theorem turn_day_nth.calls (k : Nat) (A0_0 : Option Addr) (c0_0 : Nat) (l0_0 : List (S67)) (A0_1 : Option Addr) (c0_1 : Nat) (l0_1 : List Int) (a1 : Int) (r : Int) (w : World) (hr0_0 : Kd.C k67 w A0_0 l0_0.length l0_0) (hc0_0 : l0_0.length ≤ c0_0) (hr0_1 : Kd.C (Kd.int .i64) w A0_1 l0_1.length l0_1) (hc0_1 : l0_1.length ≤ c0_1) (h : turn_day_nth.f k l0_0 l0_1 a1 = some r) :
  Calls Tryz.prog 110 #[.agg #[.slice A0_0 l0_0.length c0_0, .slice A0_1 l0_1.length c0_1], .int .i64 a1] w fun e w' => e = .returned (.int .i64 r) ∧ Below w.heap.size w w' := by
 have hu99 := Tryz.underlying99
 have hu67 := Tryz.underlying67
 have HR0_0 := Aside0.mk hr0_0
 have HC0_0 := Aside0.mk hc0_0
 clear hr0_0 hc0_0
 have HR0_1 := Aside0.mk hr0_1
 have HC0_1 := Aside0.mk hc0_1
 clear hr0_1 hc0_1
 have HB := Aside0.mk (Below.refl w.heap.size w)
 have H : (if 0 ≤ a1 then (if a1 < (l0_0.length : Int) then (if a1 ≤ (l0_0.length : Int) then ((some (l0_0.take (a1 : Int).toNat : List (S67))).bind fun y104 => (turn_day_nth.l0 k 0 y104 (y104.length : Int) 0 ((rd_T67 l0_0 a1).f0) ((rd_T67 l0_0 a1).f1) ((rd_T67 l0_0 a1).f2.f0) ((rd_T67 l0_0 a1).f2.f1))) else (none)) else (none)) else (none)) = some r := h
 clear h
 by_cases c3 : 0 ≤ a1
 ·rw [if_pos c3] at H
  have c3b0 : decide (0 ≤ a1) = true := decide_eq_true c3
  clear c3
  by_cases c4 : a1 < (l0_0.length : Int)
  ·rw [if_pos c4] at H
   have c4b0 : decide (a1 < (l0_0.length : Int)) = true := decide_eq_true c4
   clear c4
   have c5b0 := eq_true (dT : 0 ≤ a1)
   by_cases c6 : a1 ≤ (l0_0.length : Int)
   ·rw [if_pos c6] at H
    have c6b0 := eq_true c6
    have c6b1 : decide (a1 ≤ (l0_0.length : Int)) = true := decide_eq_true c6
    clear c6
    obtain ⟨y104, hy104⟩ : ∃ y_ : List (S67), y_ = (l0_0.take (a1 : Int).toNat) := ⟨_, rfl⟩
    replace H : (turn_day_nth.l0 k 0 y104 (y104.length : Int) 0 ((rd_T67 l0_0 a1).f0) ((rd_T67 l0_0 a1).f1) ((rd_T67 l0_0 a1).f2.f0) ((rd_T67 l0_0 a1).f2.f1)) = some r := yy hy104 H
    have Ny104 := Aside0.mk hy104
    clear hy104
    have H' := Aside0.mk H
    clear H
    go_enter Tryz.func110, Tryz.ntmps110
    go_wp2_with (first | ((with_reducible refine gate_dst (N := 2) rfl ?_); refine bx 2 #[.slice A0_0 l0_0.length c0_0, .slice A0_1 l0_1.length c0_1] 99 ?_; intro gb101 hg w7 hbox hb; have BK101 := hbox; have GW101 := gs HB hg; have GE101 := gs HB hg; replace HB := bs HB hb; clear hb hbox hg; obtain ⟨hcz8_0, hcz8_1, hfz8_0, hfz8_1⟩ := cf2 BK101; have p102 : 0 ≤ (a1 : Int) := dT; have q102 : a1 < (l0_0.length : Int) := dT; obtain ⟨ad102, e102, hx102_0, hx102_1, hx102_2, hx102_3⟩ := at_T67 HR0_0.out a1 p102 q102; cases e102; replace hx102_0 := cut_ HB hx102_0; replace hx102_1 := cut_ HB hx102_1; replace hx102_2 := cut_ HB hx102_2; replace hx102_3 := cut_ HB hx102_3; replace p102 := eq_true p102; replace q102 := eq_true q102) | ((with_reducible refine gate_dst (N := 5) rfl ?_); refine bx 5 #[.int .i64 0, .int .i64 0, .int .i64 0, .int .i64 0] 67 ?_; intro gb103 hg w9 hbox hb; have BK103 := hbox; have GW103 := gs HB hg; have GE103 := gs HB hg; replace HB := bs HB hb; have NB101_103 := nl BK101 hg; have NB103_101 := nr BK101 hg; replace BK101 := bb BK101 hb; clear hb hbox hg; have hnb10 := NB103_101.out; have hnc10 := NB101_103.out; obtain ⟨hcz11_0, hcz11_1, hcz11_2, hcz11_3, hfz11_0, hfz11_1, hfz11_2, hfz11_3⟩ := cf4 BK103) | ((with_reducible refine gate_store (t := 67) (p := 5) rfl ?_); refine store_event (t := 67) (p := 5) (v := ?vo_w12) (w1 := ((((w9.setCell ⟨gb103, 0, none⟩ (.int .i64 ((rd_T67 l0_0 a1).f0))).setCell ⟨gb103, 1, none⟩ (.int .i64 ((rd_T67 l0_0 a1).f1))).setCell ⟨gb103, 2, none⟩ (.int .i64 ((rd_T67 l0_0 a1).f2.f0))).setCell ⟨gb103, 3, none⟩ (.int .i64 ((rd_T67 l0_0 a1).f2.f1)))) ?hg ?ho ?hn ?hr ?_; (case ho => rfl); (case hg => rfl); (case hn => rfl); (case hr => first | (go_simp; done) | (go_simp; rfl)); intro w12 hw; have n0_ : Aside0 (w12.heap[gb101]? = some (.cells #[.slice (some ad102) l0_0.length c0_0, .slice A0_1 l0_1.length c0_1] 99 (0, 0))) := ⟨(by rw [hw]; exact (pF BK101))⟩; have n1_ : Aside0 (w12.heap[gb103]? = some (.cells #[.int .i64 ((rd_T67 l0_0 a1).f0), .int .i64 ((rd_T67 l0_0 a1).f1), .int .i64 ((rd_T67 l0_0 a1).f2.f0), .int .i64 ((rd_T67 l0_0 a1).f2.f1)] 67 (0, 0))) := ⟨(by rw [hw]; exact (by refine pB ?_; refine blk_put (cs := #[.int .i64 ((rd_T67 l0_0 a1).f0), .int .i64 ((rd_T67 l0_0 a1).f1), .int .i64 ((rd_T67 l0_0 a1).f2.f0), .int .i64 0]) ?_ 3 _ rfl; refine pB ?_; refine blk_put (cs := #[.int .i64 ((rd_T67 l0_0 a1).f0), .int .i64 ((rd_T67 l0_0 a1).f1), .int .i64 0, .int .i64 0]) ?_ 2 _ rfl; refine pB ?_; refine blk_put (cs := #[.int .i64 ((rd_T67 l0_0 a1).f0), .int .i64 0, .int .i64 0, .int .i64 0]) ?_ 1 _ rfl; refine pB ?_; refine blk_put (cs := #[.int .i64 0, .int .i64 0, .int .i64 0, .int .i64 0]) ?_ 0 _ rfl; exact pB BK103.out))⟩; have n2_ : Aside0 (Below w.heap.size w w12) := ⟨(by rw [hw]; exact (pE HB))⟩; clear hw; clear BK101; clear BK103; clear HB; have BK101 := n0_; have BK103 := n1_; have HB := n2_; clear n0_ n1_ n2_; obtain ⟨hcz13_0, hcz13_1, hfz13_0, hfz13_1⟩ := cf2 BK101; have q14 : (a1 : Int) ≤ ((l0_0.length : Int) : Int) := dT; obtain ⟨i014, hi014, _, hsz14, _⟩ := info_parts info67; have hroom14 : l0_0.length ≤ c0_0 := HC0_0.out; have hC14 : Kd.C k67 _ (some ad102) l0_0.length l0_0 := HR0_0.out; have hcut14 := cut_to (P := Tryz.prog) 22 67 .i64 Tryz.underlying22 hi014 (some ad102) l0_0.length c0_0 a1 (dT) q14 hroom14; have hr14 := Kd.C_take (m := (a1 : Int).toNat) hC14 (by omega); have hy14 : y104.length = (a1 : Int).toNat := (by rw [Ny104.out, List.length_take]; omega); rw [← Ny104.out] at hr14; rw [← hy14] at hcut14; have HR107 := Aside0.mk hr14; have HC107 := Aside0.mk (show y104.length ≤ c0_0 from by omega); clear hr14 hC14 hroom14 hi014 hsz14; have KY14 := Aside0.mk hy14; clear hy14; replace q14 := eq_true q14))
    go_loopg [4, 20] k (fun kq v4 v20 w' => ∃ (x4_1 : Int) (x20_1 : Int), v4 = .int .i64 x4_1 ∧ v20 = .int .i64 x20_1 ∧ Aside0 (turn_day_nth.l0 kq x4_1 y104 (y104.length : Int) x20_1 ((rd_T67 l0_0 a1).f0) ((rd_T67 l0_0 a1).f1) ((rd_T67 l0_0 a1).f2.f0) ((rd_T67 l0_0 a1).f2.f1) = some r) ∧ Aside0 (kq ≤ k) ∧ Aside0 (w'.heap[gb101]? = some (.cells #[(.slice (some ad102) l0_0.length c0_0), (.slice A0_1 l0_1.length c0_1)] 99 (0, 0))) ∧ Aside0 (w'.heap[gb103]? = some (.cells #[.int .i64 ((rd_T67 l0_0 a1).f0), .int .i64 ((rd_T67 l0_0 a1).f1), .int .i64 ((rd_T67 l0_0 a1).f2.f0), .int .i64 ((rd_T67 l0_0 a1).f2.f1)] 67 (0, 0))) ∧ Aside0 (Below w.heap.size w w'))
    case atStart => exact ⟨(0), (0), (by first | rfl | (simp; done) | (simp [*]; done)), (by first | rfl | (simp; done) | (simp [*]; done)), H', ⟨Nat.le_refl _⟩, ⟨pB BK101.out⟩, ⟨pB BK103.out⟩, ⟨pE HB⟩⟩
    case round =>
     clear H'
     try clear c1
     try clear p1
     try clear q1
     try clear hx1
     try clear p2
     try clear c3
     try clear c3b0
     try clear c4
     try clear c4b0
     try clear c5
     try clear c5b0
     try clear c6
     try clear c6b0
     try clear c6b1
     try clear c10
     try clear p10
     try clear q10
     try clear hx10
     try clear c11
     try clear q14
     try clear hcz11_0
     try clear hcz11_1
     try clear hcz11_2
     try clear hcz11_3
     try clear hcz13_0
     try clear hcz13_1
     try clear hcz8_0
     try clear hcz8_1
     try clear hfz11_0
     try clear hfz11_1
     try clear hfz11_2
     try clear hfz11_3
     try clear hfz13_0
     try clear hfz13_1
     try clear hfz8_0
     try clear hfz8_1
     try clear hx102_0
     try clear hx102_1
     try clear hx102_2
     try clear hx102_3
     try clear p102
     try clear q102
     try clear q14
     obtain ⟨x4_1, x20_1, rfl, rfl, HA, HK1, BK101, BK103, HB⟩ := hrel
     cases gk with
     | zero => exact absurd HA.out (by simp [turn_day_nth.l0])
     | succ k1 =>
      have H := HA.out
      clear HA
      simp only [turn_day_nth.l0] at H
      by_cases c15 : x20_1 < (y104.length : Int)
      ·rw [if_pos c15] at H
       have c15b0 : decide (x20_1 < (y104.length : Int)) = true := decide_eq_true c15
       clear c15
       by_cases c16 : 0 ≤ x20_1
       ·rw [if_pos c16] at H
        have c16b0 : decide (0 ≤ x20_1) = true := decide_eq_true c16
        clear c16
        by_cases c17 : x20_1 < (y104.length : Int)
        ·rw [if_pos c17] at H
         have c17b0 : decide (x20_1 < (y104.length : Int)) = true := decide_eq_true c17
         clear c17
         have HC18 := Aside0.mk H
         clear H
         have p108 : 0 ≤ (x20_1 : Int) := dT
         have q108 : x20_1 < (y104.length : Int) := dT
         obtain ⟨ad108, e108, hx108_0, hx108_1, hx108_2, hx108_3⟩ := at_T67 HR107.out x20_1 p108 q108
         obtain rfl : ad102 = ad108 := (by injection e108)
         replace hx108_0 := cut_ HB hx108_0
         replace hx108_1 := cut_ HB hx108_1
         replace hx108_2 := cut_ HB hx108_2
         replace hx108_3 := cut_ HB hx108_3
         replace p108 := eq_true p108
         replace q108 := eq_true q108
         go_upto_region 5 with (first | ((with_reducible refine gate_dst (N := 7) rfl ?_); refine bx 7 #[.int .i64 0, .int .i64 0, .int .i64 0, .int .i64 0] 67 ?_; intro gb109 hg w19 hbox hb; have BK109 := hbox; have GW109 := gs HB hg; have GE109 := gs HB hg; replace HB := bs HB hb; have NB101_109 := nl BK101 hg; have NB109_101 := nr BK101 hg; replace BK101 := bb BK101 hb; have NB103_109 := nl BK103 hg; have NB109_103 := nr BK103 hg; replace BK103 := bb BK103 hb; clear hb hbox hg; have hnb20 := NB109_101.out; have hnc20 := NB101_109.out; have hnb21 := NB109_103.out; have hnc21 := NB103_109.out; obtain ⟨hcz22_0, hcz22_1, hcz22_2, hcz22_3, hfz22_0, hfz22_1, hfz22_2, hfz22_3⟩ := cf4 BK109))
         (try simp only [Act.put, List.setIfInBounds_toArray, List.set_cons_zero, List.set_cons_succ])
         go_cut [35] (fun v35 wc => ∃ (kq : Nat) (x35_17 : Bool), v35 = .bool x35_17 ∧ Aside0 (turn_day_nth.j1 kq x4_1 y104 (y104.length : Int) x20_1 x35_17 ((rd_T67 l0_0 a1).f0) ((rd_T67 l0_0 a1).f1) ((rd_T67 l0_0 a1).f2.f0) ((rd_T67 l0_0 a1).f2.f1) = some r) ∧ Aside0 (kq ≤ k1) ∧ Aside0 (wc.heap[gb101]? = some (.cells #[(.slice (some ad102) l0_0.length c0_0), (.slice A0_1 l0_1.length c0_1)] 99 (0, 0))) ∧ Aside0 (wc.heap[gb103]? = some (.cells #[.int .i64 ((rd_T67 l0_0 a1).f0), .int .i64 ((rd_T67 l0_0 a1).f1), .int .i64 ((rd_T67 l0_0 a1).f2.f0), .int .i64 ((rd_T67 l0_0 a1).f2.f1)] 67 (0, 0))) ∧ Aside0 (wc.heap[gb109]? = some (.cells #[.int .i64 ((rd_T67 y104 x20_1).f0), .int .i64 ((rd_T67 y104 x20_1).f1), .int .i64 ((rd_T67 y104 x20_1).f2.f0), .int .i64 ((rd_T67 y104 x20_1).f2.f1)] 67 (0, 0))) ∧ Aside0 (Below w.heap.size w wc))
         case first =>
          have H := HC18.out
          clear HC18
          by_cases c23 : ((rd_T67 y104 x20_1).f0) = ((rd_T67 l0_0 a1).f0)
          ·rw [if_pos c23] at H
           have c23b0 : (((rd_T67 y104 x20_1).f0) == ((rd_T67 l0_0 a1).f0)) = true := beq_iff_eq.mpr c23
           have c23b1 : (((rd_T67 y104 x20_1).f0) != ((rd_T67 l0_0 a1).f0)) = false := bne_eq_false_iff_eq.mpr c23
           clear c23
           (first | rw [c23b0] | (simp only [i64_w, i32_w]; rw [c23b0]) | skip)
           have H' := Aside0.mk H
           clear H
           have hnb24 := NB109_101.out
           have hnc24 := NB101_109.out
           have hnb25 := NB109_103.out
           have hnc25 := NB103_109.out
           obtain ⟨hcz26_0, hcz26_1, hcz26_2, hcz26_3, hfz26_0, hfz26_1, hfz26_2, hfz26_3⟩ := cf4 BK109
           have hnb27 := NB103_101.out
           have hnc27 := NB101_103.out
           obtain ⟨hcz28_0, hcz28_1, hcz28_2, hcz28_3, hfz28_0, hfz28_1, hfz28_2, hfz28_3⟩ := cf4 BK103
           go_wp2
           go_meet
           case rel => exact ⟨_, ((((rd_T67 y104 x20_1).f1) == ((rd_T67 l0_0 a1).f1))), (by first | rfl | (simp; done) | (simp [*]; done)), H', ⟨by have := HK1.out; first | omega | exact Nat.le_refl _⟩, ⟨pF BK101⟩, ⟨pF BK103⟩, ⟨by refine pB ?_; refine blk_put (cs := #[.int .i64 ((rd_T67 y104 x20_1).f0), .int .i64 ((rd_T67 y104 x20_1).f1), .int .i64 ((rd_T67 y104 x20_1).f2.f0), .int .i64 0]) ?_ 3 _ rfl; refine pB ?_; refine blk_put (cs := #[.int .i64 ((rd_T67 y104 x20_1).f0), .int .i64 ((rd_T67 y104 x20_1).f1), .int .i64 0, .int .i64 0]) ?_ 2 _ rfl; refine pB ?_; refine blk_put (cs := #[.int .i64 ((rd_T67 y104 x20_1).f0), .int .i64 0, .int .i64 0, .int .i64 0]) ?_ 1 _ rfl; refine pB ?_; refine blk_put (cs := #[.int .i64 0, .int .i64 0, .int .i64 0, .int .i64 0]) ?_ 0 _ rfl; exact pB BK109.out⟩, ⟨pE HB⟩⟩
          ·rw [if_neg c23] at H
           have c23b0 : (((rd_T67 y104 x20_1).f0) == ((rd_T67 l0_0 a1).f0)) = false := beq_eq_false_iff_ne.mpr c23
           have c23b1 : (((rd_T67 y104 x20_1).f0) != ((rd_T67 l0_0 a1).f0)) = true := bne_iff_ne.mpr c23
           (first | rw [c23b0] | (simp only [i64_w, i32_w]; rw [c23b0]) | skip)
           have H' := Aside0.mk H
           clear H
           have hnb29 := NB109_101.out
           have hnc29 := NB101_109.out
           have hnb30 := NB109_103.out
           have hnc30 := NB103_109.out
           obtain ⟨hcz31_0, hcz31_1, hcz31_2, hcz31_3, hfz31_0, hfz31_1, hfz31_2, hfz31_3⟩ := cf4 BK109
           have hnb32 := NB103_101.out
           have hnc32 := NB101_103.out
           obtain ⟨hcz33_0, hcz33_1, hcz33_2, hcz33_3, hfz33_0, hfz33_1, hfz33_2, hfz33_3⟩ := cf4 BK103
           go_wp2
           go_meet
           case rel => exact ⟨_, (false), (by first | rfl | (simp; done) | (simp [*]; done)), H', ⟨by have := HK1.out; first | omega | exact Nat.le_refl _⟩, ⟨pF BK101⟩, ⟨pF BK103⟩, ⟨by refine pB ?_; refine blk_put (cs := #[.int .i64 ((rd_T67 y104 x20_1).f0), .int .i64 ((rd_T67 y104 x20_1).f1), .int .i64 ((rd_T67 y104 x20_1).f2.f0), .int .i64 0]) ?_ 3 _ rfl; refine pB ?_; refine blk_put (cs := #[.int .i64 ((rd_T67 y104 x20_1).f0), .int .i64 ((rd_T67 y104 x20_1).f1), .int .i64 0, .int .i64 0]) ?_ 2 _ rfl; refine pB ?_; refine blk_put (cs := #[.int .i64 ((rd_T67 y104 x20_1).f0), .int .i64 0, .int .i64 0, .int .i64 0]) ?_ 1 _ rfl; refine pB ?_; refine blk_put (cs := #[.int .i64 0, .int .i64 0, .int .i64 0, .int .i64 0]) ?_ 0 _ rfl; exact pB BK109.out⟩, ⟨pE HB⟩⟩
         case rest =>
          clear HC18
          try clear c1
          try clear p1
          try clear q1
          try clear hx1
          try clear c2
          try clear p2
          try clear c3
          try clear c3b0
          try clear c4
          try clear c4b0
          try clear c5
          try clear c5b0
          try clear c6
          try clear c6b0
          try clear c6b1
          try clear c10
          try clear p10
          try clear q10
          try clear hx10
          try clear c11
          try clear q14
          try clear c15
          try clear c15b0
          try clear c16
          try clear c16b0
          try clear c17
          try clear c17b0
          try clear c20
          try clear c21
          try clear c23
          try clear c23b0
          try clear c23b1
          try clear c24
          try clear c25
          try clear c27
          try clear c29
          try clear c30
          try clear c32
          try clear hcz11_0
          try clear hcz11_1
          try clear hcz11_2
          try clear hcz11_3
          try clear hcz13_0
          try clear hcz13_1
          try clear hcz22_0
          try clear hcz22_1
          try clear hcz22_2
          try clear hcz22_3
          try clear hcz26_0
          try clear hcz26_1
          try clear hcz26_2
          try clear hcz26_3
          try clear hcz28_0
          try clear hcz28_1
          try clear hcz28_2
          try clear hcz28_3
          try clear hcz31_0
          try clear hcz31_1
          try clear hcz31_2
          try clear hcz31_3
          try clear hcz33_0
          try clear hcz33_1
          try clear hcz33_2
          try clear hcz33_3
          try clear hcz8_0
          try clear hcz8_1
          try clear hfz11_0
          try clear hfz11_1
          try clear hfz11_2
          try clear hfz11_3
          try clear hfz13_0
          try clear hfz13_1
          try clear hfz22_0
          try clear hfz22_1
          try clear hfz22_2
          try clear hfz22_3
          try clear hfz26_0
          try clear hfz26_1
          try clear hfz26_2
          try clear hfz26_3
          try clear hfz28_0
          try clear hfz28_1
          try clear hfz28_2
          try clear hfz28_3
          try clear hfz31_0
          try clear hfz31_1
          try clear hfz31_2
          try clear hfz31_3
          try clear hfz33_0
          try clear hfz33_1
          try clear hfz33_2
          try clear hfz33_3
          try clear hfz8_0
          try clear hfz8_1
          try clear hx102_0
          try clear hx102_1
          try clear hx102_2
          try clear hx102_3
          try clear hx108_0
          try clear hx108_1
          try clear hx108_2
          try clear hx108_3
          try clear p1
          try clear p10
          try clear p102
          try clear p108
          try clear p2
          try clear q1
          try clear q10
          try clear q102
          try clear q108
          try clear q14
          obtain ⟨kq, x35_17, rfl, HA, HJ17, BK101, BK103, BK109, HB⟩ := hcut
          cases kq with
          | zero => exact absurd HA.out (by simp [turn_day_nth.j1])
          | succ kj17 =>
           have H := HA.out
           clear HA
           simp only [turn_day_nth.j1] at H
           by_cases c34 : x35_17 = true
           ·subst c34
            rw [if_pos rfl] at H
            have H' := Aside0.mk H
            clear H
            go_wp2
            go_roundg kj17
            case measure => have := HK1.out; have := HJ17.out; omega
            case rel => exact ⟨(wrap64 (x4_1 + 1)), (wrap64 (x20_1 + 1)), (by first | rfl | (simp; done) | (simp [*]; done)), (by first | rfl | (simp; done) | (simp [*]; done)), H', ⟨by have := HK1.out; have := HJ17.out; omega⟩, ⟨pB BK101.out⟩, ⟨pB BK103.out⟩, ⟨pE HB⟩⟩
           ·replace c34 := Bool.eq_false_iff.mpr c34
            subst c34
            rw [if_neg (show ¬ (false = true) by decide)] at H
            have H' := Aside0.mk H
            clear H
            go_wp2
            go_roundg kj17
            case measure => have := HK1.out; have := HJ17.out; omega
            case rel => exact ⟨(x4_1), (wrap64 (x20_1 + 1)), (by first | rfl | (simp; done) | (simp [*]; done)), (by first | rfl | (simp; done) | (simp [*]; done)), H', ⟨by have := HK1.out; have := HJ17.out; omega⟩, ⟨pB BK101.out⟩, ⟨pB BK103.out⟩, ⟨pE HB⟩⟩
        ·rw [if_neg c17] at H
         exact absurd H (by simp)
       ·rw [if_neg c16] at H
        exact absurd H (by simp)
      ·rw [if_neg c15] at H
       have c15b0 : decide (x20_1 < (y104.length : Int)) = false := decide_eq_false c15
       clear c15
       obtain rfl := Option.some.inj H
       go_wp2
       go_ret
       exact ⟨eT, pE HB⟩
   ·rw [if_neg c6] at H
    exact absurd H (by simp)
  ·rw [if_neg c4] at H
   exact absurd H (by simp)
 ·rw [if_neg c3] at H
  exact absurd H (by simp)
def turn_day_before.f (k : Nat) (l0_0 : List (S67)) (l0_1 : List Int) (a1 : Int) (a2 : Int) : Option (Int) := if 0 ≤ a1 then (if a1 < (l0_0.length : Int) then (if 0 ≤ a2 then (if a2 < (l0_0.length : Int) then ((turn_day_nth.f k l0_0 l0_1 a1).bind fun t106 => ((turn_day_nth.f k l0_0 l0_1 a2).bind fun t107 => (if 0 ≤ ((rd_T67 l0_0 a1).f0) then (if ((rd_T67 l0_0 a1).f0) < (l0_1.length : Int) then (if 0 ≤ ((rd_T67 l0_0 a2).f0) then (if ((rd_T67 l0_0 a2).f0) < (l0_1.length : Int) then ((cmp_Or_int.f k (([wrap64 (((rd_T67 l0_0 a1).f1) - ((rd_T67 l0_0 a2).f1)), wrap64 (t106 - t107), wrap64 ((rd l0_1 ((rd_T67 l0_0 a1).f0)) - (rd l0_1 ((rd_T67 l0_0 a2).f0))), wrap64 (a1 - a2)] : List Int))).bind fun t113 => (some t113)) else (none)) else (none)) else (none)) else (none)))) else (none)) else (none)) else (none)) else (none)
theorem turn_day_before.mono : ∀ a0 a1 a2 a3 k, LeO (turn_day_before.f k a0 a1 a2 a3) (turn_day_before.f (k + 1) a0 a1 a2 a3) := by
 intro a0 a1 a2 a3 k
 unfold turn_day_before.f
 repeat' first
   | (with_reducible exact cmp_Or_int.mono _ _)
   | (with_reducible exact turn_day_nth.mono _ _ _ _)
   | (with_reducible exact LeO.refl _)
   | (with_reducible exact LeO.none _)
   | (with_reducible refine LeO.ite ?_ ?_)
   | (with_reducible refine LeO.bind ?_ (fun _ => ?_))
   | exact cmp_Or_int.mono _ _
   | exact turn_day_nth.mono _ _ _ _
   | exact LeO.none _
   | refine LeO.ite ?_ ?_
   | refine LeO.bind ?_ (fun _ => ?_)
def turn_day_before.T1 : Bool × List (List Nat × List Nat) := (true, [([], []), ([0], [0]), ([1], [1]), ([], []), ([2, 3], [2, 3]), ([4], [4]), ([], []), ([6], [6]), ([7], [7]), ([], []), ([8, 9], [8, 9]), ([10], [10]), ([], []), ([], []), ([12, 5, 0, 1, 2, 3, 4, 5, 12, 13], [5, 12]), ([13, 11, 14, 0, 1, 2, 3, 4, 5, 6, 7, 8, 9, 10, 11, 12, 13, 14], [11, 13])])
def turn_day_before.B1 : List Nat := [0, 1, 3, 0, 15, 31, 0, 64, 192, 0, 960, 1984, 0, 0, 12351, 32767]
theorem turn_day_before.tab1 : rtab .any (opsOf Tryz.f80 1) = turn_day_before.T1 := by kernel_rfl
theorem turn_day_before.bits1 : waitsOk turn_day_before.T1.2 turn_day_before.B1 = true := by kernel_rfl
def turn_day_before.T2 : Bool × List (List Nat × List Nat) := (true, [([], []), ([0], [0]), ([], []), ([2], [2]), ([1, 3], [1, 3]), ([], []), ([], []), ([5, 6], [5, 6]), ([], []), ([], []), ([8, 9, 7], [8, 9]), ([7, 10], [7, 10]), ([], []), ([12], [12]), ([13], [13]), ([], []), ([15], [15]), ([14, 16], [14, 16]), ([17], [17]), ([], []), ([19], [19]), ([20], [20]), ([], []), ([22], [22]), ([21, 23], [21, 23]), ([24], [24]), ([18, 25], [18, 25]), ([], []), ([], []), ([27, 28], [27, 28]), ([4, 11, 26, 29], [4, 11, 26, 29]), ([30, 10], [30]), ([31, 31, 0, 1, 2, 3, 4, 5, 6, 7, 8, 9, 10, 11, 12, 13, 14, 15, 16, 17, 18, 19, 20, 21, 22, 23, 24, 25, 26, 27, 28, 29, 30, 31], [31])])
def turn_day_before.B2 : List Nat := [0, 1, 0, 4, 15, 0, 0, 96, 0, 0, 992, 2016, 0, 4096, 12288, 0, 32768, 126976, 258048, 0, 524288, 1572864, 0, 4194304, 16252928, 33030144, 67104768, 0, 0, 402653184, 1073741823, 2147483647, 4294967295]
theorem turn_day_before.tab2 : rtab .any (opsOf Tryz.f80 2) = turn_day_before.T2 := by kernel_rfl
theorem turn_day_before.bits2 : waitsOk turn_day_before.T2.2 turn_day_before.B2 = true := by kernel_rfl
set_option maxHeartbeats 8000000 in
set_option maxRecDepth 100000 in
theorem turn_day_before.calls (k : Nat) (A0_0 : Option Addr) (c0_0 : Nat) (l0_0 : List (S67)) (A0_1 : Option Addr) (c0_1 : Nat) (l0_1 : List Int) (a1 : Int) (a2 : Int) (r : Int) (w : World) (hr0_0 : Kd.C k67 w A0_0 l0_0.length l0_0) (hc0_0 : l0_0.length ≤ c0_0) (hr0_1 : Kd.C (Kd.int .i64) w A0_1 l0_1.length l0_1) (hc0_1 : l0_1.length ≤ c0_1) (h : turn_day_before.f k l0_0 l0_1 a1 a2 = some r) :
  Calls Tryz.prog 80 #[.agg #[.slice A0_0 l0_0.length c0_0, .slice A0_1 l0_1.length c0_1], .int .i64 a1, .int .i64 a2] w fun e w' => e = .returned (.int .i64 r) ∧ Below w.heap.size w w' := by
 have hu99 := Tryz.underlying99
 have hu67 := Tryz.underlying67
 have HR0_0 := Aside0.mk hr0_0
 have HC0_0 := Aside0.mk hc0_0
 clear hr0_0 hc0_0
 have HR0_1 := Aside0.mk hr0_1
 have HC0_1 := Aside0.mk hc0_1
 clear hr0_1 hc0_1
 have HB := Aside0.mk (Below.refl w.heap.size w)
 have H : (if 0 ≤ a1 then (if a1 < (l0_0.length : Int) then (if 0 ≤ a2 then (if a2 < (l0_0.length : Int) then ((turn_day_nth.f k l0_0 l0_1 a1).bind fun t106 => ((turn_day_nth.f k l0_0 l0_1 a2).bind fun t107 => (if 0 ≤ ((rd_T67 l0_0 a1).f0) then (if ((rd_T67 l0_0 a1).f0) < (l0_1.length : Int) then (if 0 ≤ ((rd_T67 l0_0 a2).f0) then (if ((rd_T67 l0_0 a2).f0) < (l0_1.length : Int) then ((cmp_Or_int.f k (([wrap64 (((rd_T67 l0_0 a1).f1) - ((rd_T67 l0_0 a2).f1)), wrap64 (t106 - t107), wrap64 ((rd l0_1 ((rd_T67 l0_0 a1).f0)) - (rd l0_1 ((rd_T67 l0_0 a2).f0))), wrap64 (a1 - a2)] : List Int))).bind fun t113 => (some t113)) else (none)) else (none)) else (none)) else (none)))) else (none)) else (none)) else (none)) else (none)) = some r := h
 clear h
 by_cases c4 : 0 ≤ a1
 ·rw [if_pos c4] at H
  have c4b0 : decide (0 ≤ a1) = true := decide_eq_true c4
  clear c4
  by_cases c5 : a1 < (l0_0.length : Int)
  ·rw [if_pos c5] at H
   have c5b0 : decide (a1 < (l0_0.length : Int)) = true := decide_eq_true c5
   clear c5
   by_cases c6 : 0 ≤ a2
   ·rw [if_pos c6] at H
    have c6b0 : decide (0 ≤ a2) = true := decide_eq_true c6
    clear c6
    by_cases c7 : a2 < (l0_0.length : Int)
    ·rw [if_pos c7] at H
     have c7b0 : decide (a2 < (l0_0.length : Int)) = true := decide_eq_true c7
     clear c7
     obtain ⟨t106, A8, H⟩ := bi H
     obtain ⟨t107, A9, H⟩ := bi H
     by_cases c10 : 0 ≤ ((rd_T67 l0_0 a1).f0)
     ·rw [if_pos c10] at H
      have c10b0 : decide (0 ≤ ((rd_T67 l0_0 a1).f0)) = true := decide_eq_true c10
      clear c10
      by_cases c11 : ((rd_T67 l0_0 a1).f0) < (l0_1.length : Int)
      ·rw [if_pos c11] at H
       have c11b0 : decide (((rd_T67 l0_0 a1).f0) < (l0_1.length : Int)) = true := decide_eq_true c11
       clear c11
       by_cases c12 : 0 ≤ ((rd_T67 l0_0 a2).f0)
       ·rw [if_pos c12] at H
        have c12b0 : decide (0 ≤ ((rd_T67 l0_0 a2).f0)) = true := decide_eq_true c12
        clear c12
        by_cases c13 : ((rd_T67 l0_0 a2).f0) < (l0_1.length : Int)
        ·rw [if_pos c13] at H
         have c13b0 : decide (((rd_T67 l0_0 a2).f0) < (l0_1.length : Int)) = true := decide_eq_true c13
         clear c13
         obtain ⟨y110, hy110⟩ : ∃ y_ : List Int, y_ = (([wrap64 (((rd_T67 l0_0 a1).f1) - ((rd_T67 l0_0 a2).f1)), wrap64 (t106 - t107), wrap64 ((rd l0_1 ((rd_T67 l0_0 a1).f0)) - (rd l0_1 ((rd_T67 l0_0 a2).f0))), wrap64 (a1 - a2)] : List Int)) := ⟨_, rfl⟩
         replace H : Option.bind (cmp_Or_int.f k y110) _ = some r := yy hy110 H
         have Ny110 := Aside0.mk hy110
         clear hy110
         obtain ⟨t113, A14, H⟩ := bi H
         obtain rfl := Option.some.inj H
         go_enter Tryz.func80, Tryz.ntmps80
         try go_wp2_with (first | ((with_reducible refine gate_dst (N := 3) rfl ?_); refine bx 3 #[.slice A0_0 l0_0.length c0_0, .slice A0_1 l0_1.length c0_1] 99 ?_; intro gb101 hg w15 hbox hb; have BK101 := hbox; have GW101 := gs HB hg; have GE101 := gs HB hg; replace HB := bs HB hb; clear hb hbox hg))
         replace BK101 := Aside0.mk (blk_drew BK101.out)
         replace HB := Aside0.mk (below_drew1 HB.out)
         have p102 : 0 ≤ (a1 : Int) := dT
         have q102 : a1 < (l0_0.length : Int) := dT
         obtain ⟨ad102, e102, hx102_0, hx102_1, hx102_2, hx102_3⟩ := at_T67 HR0_0.out a1 p102 q102
         have hw102_3 := hx102_3
         have hw102_2 := hx102_2
         have hw102_1 := hx102_1
         have hw102_0 := hx102_0
         cases e102
         replace hx102_0 := cut_ HB hx102_0
         replace hx102_1 := cut_ HB hx102_1
         replace hx102_2 := cut_ HB hx102_2
         replace hx102_3 := cut_ HB hx102_3
         replace p102 := eq_true p102
         replace q102 := eq_true q102
         have p103 : 0 ≤ (a2 : Int) := dT
         have q103 : a2 < (l0_0.length : Int) := dT
         obtain ⟨ad103, e103, hx103_0, hx103_1, hx103_2, hx103_3⟩ := at_T67 HR0_0.out a2 p103 q103
         have hw103_3 := hx103_3
         have hw103_2 := hx103_2
         have hw103_1 := hx103_1
         have hw103_0 := hx103_0
         obtain rfl : ad102 = ad103 := (by injection e103)
         replace hx103_0 := cut_ HB hx103_0
         replace hx103_1 := cut_ HB hx103_1
         replace hx103_2 := cut_ HB hx103_2
         replace hx103_3 := cut_ HB hx103_3
         replace p103 := eq_true p103
         replace q103 := eq_true q103
         refine start_ (n := 16) (S := fun w' => w'.cell? ⟨gb101, 0, none⟩ = some (.slice (some ad102) l0_0.length c0_0) ∧ w'.cell? ⟨gb101, 1, none⟩ = some (.slice A0_1 l0_1.length c0_1) ∧ w'.cell? (ad102.add ((a1).toNat * 4)) = some (.int .i64 ((rd_T67 l0_0 a1).f0)) ∧ w'.cell? ⟨(ad102.add ((a1).toNat * 4)).block, (ad102.add ((a1).toNat * 4)).off + 1, none⟩ = some (.int .i64 ((rd_T67 l0_0 a1).f1)) ∧ w'.cell? ⟨(ad102.add ((a1).toNat * 4)).block, (ad102.add ((a1).toNat * 4)).off + 2, none⟩ = some (.int .i64 ((rd_T67 l0_0 a1).f2.f0)) ∧ w'.cell? ⟨(ad102.add ((a1).toNat * 4)).block, (ad102.add ((a1).toNat * 4)).off + 3, none⟩ = some (.int .i64 ((rd_T67 l0_0 a1).f2.f1)) ∧ w'.cell? (ad102.add ((a2).toNat * 4)) = some (.int .i64 ((rd_T67 l0_0 a2).f0)) ∧ w'.cell? ⟨(ad102.add ((a2).toNat * 4)).block, (ad102.add ((a2).toNat * 4)).off + 1, none⟩ = some (.int .i64 ((rd_T67 l0_0 a2).f1)) ∧ w'.cell? ⟨(ad102.add ((a2).toNat * 4)).block, (ad102.add ((a2).toNat * 4)).off + 2, none⟩ = some (.int .i64 ((rd_T67 l0_0 a2).f2.f0)) ∧ w'.cell? ⟨(ad102.add ((a2).toNat * 4)).block, (ad102.add ((a2).toNat * 4)).off + 3, none⟩ = some (.int .i64 ((rd_T67 l0_0 a2).f2.f1))) (ds := []) #[false, false, false, false, false, false, false, false, false, false, false, false, false, false, false, false] (by kernel_rfl) rfl rfl ⟨(blk_cell BK101.out 0).trans rfl, (blk_cell BK101.out 1).trans rfl, (cB HB hw102_0), (cB HB hw102_1), (cB HB hw102_2), (cB HB hw102_3), (cB HB hw103_0), (cB HB hw103_1), (cB HB hw103_2), (cB HB hw103_3)⟩ (fun hHeld => ?_); refine with_tabW turn_day_before.tab1 turn_day_before.bits1 (fun HT_ HW_ => ?_)
         generalize w15.drew = w16 at BK101 HB hx102_0 hx102_1 hx102_2 hx102_3 hx103_0 hx103_1 hx103_2 hx103_3 hHeld ⊢
         refine pu 0 9 ?_
         refine pu 1 10 ?_
         refine pu 3 12 ?_
         refine pu 6 15 ?_
         refine pu 7 16 ?_
         refine pu 9 18 ?_
         refine tk 2 11 hHeld ?_
         refine pu 4 13 ?_
         refine tk 5 14 hHeld ?_
         refine tk 8 17 hHeld ?_
         refine pu 10 19 ?_
         refine tk 11 20 hHeld ?_
         refine join_ (σ := Nat × Nat) 2 #[true, true, true, true, true, true, true, true, true, true, true, true, true, true, false, false] (fun s_ => [(7, .pointer (some ⟨s_.1, 0, none⟩)), (8, .pointer (some ⟨s_.2, 0, none⟩))]) (fun s_ w' => (w'.cell? ⟨gb101, 0, none⟩ = some (.slice (some ad102) l0_0.length c0_0) ∧ w'.cell? ⟨gb101, 1, none⟩ = some (.slice A0_1 l0_1.length c0_1) ∧ w'.cell? (ad102.add ((a1).toNat * 4)) = some (.int .i64 ((rd_T67 l0_0 a1).f0)) ∧ w'.cell? ⟨(ad102.add ((a1).toNat * 4)).block, (ad102.add ((a1).toNat * 4)).off + 1, none⟩ = some (.int .i64 ((rd_T67 l0_0 a1).f1)) ∧ w'.cell? ⟨(ad102.add ((a1).toNat * 4)).block, (ad102.add ((a1).toNat * 4)).off + 2, none⟩ = some (.int .i64 ((rd_T67 l0_0 a1).f2.f0)) ∧ w'.cell? ⟨(ad102.add ((a1).toNat * 4)).block, (ad102.add ((a1).toNat * 4)).off + 3, none⟩ = some (.int .i64 ((rd_T67 l0_0 a1).f2.f1)) ∧ w'.cell? (ad102.add ((a2).toNat * 4)) = some (.int .i64 ((rd_T67 l0_0 a2).f0)) ∧ w'.cell? ⟨(ad102.add ((a2).toNat * 4)).block, (ad102.add ((a2).toNat * 4)).off + 1, none⟩ = some (.int .i64 ((rd_T67 l0_0 a2).f1)) ∧ w'.cell? ⟨(ad102.add ((a2).toNat * 4)).block, (ad102.add ((a2).toNat * 4)).off + 2, none⟩ = some (.int .i64 ((rd_T67 l0_0 a2).f2.f0)) ∧ w'.cell? ⟨(ad102.add ((a2).toNat * 4)).block, (ad102.add ((a2).toNat * 4)).off + 3, none⟩ = some (.int .i64 ((rd_T67 l0_0 a2).f2.f1))) ∧ (w'.heap[gb101]? = some (.cells #[.slice (some ad102) l0_0.length c0_0, .slice A0_1 l0_1.length c0_1] 99 (0, 0))) ∧ (w'.heap[s_.1]? = some (.cells #[.int .i64 0, .int .i64 0, .int .i64 0, .int .i64 0] 67 (0, 0))) ∧ (w'.heap[s_.2]? = some (.cells #[.int .i64 0, .int .i64 0, .int .i64 0, .int .i64 0] 67 (0, 0))) ∧ (w.heap.size ≤ s_.1) ∧ (w.heap.size ≤ s_.1) ∧ (gb101 ≠ s_.1) ∧ (s_.1 ≠ gb101) ∧ (s_.2 ≠ s_.1) ∧ (s_.1 ≠ s_.2) ∧ (w.heap.size ≤ s_.2) ∧ (w.heap.size ≤ s_.2) ∧ (gb101 ≠ s_.2) ∧ (s_.2 ≠ gb101) ∧ (Below w.heap.size w w')) ?_ ?_
         rotate_left
         ·intro hCont
          refine two_ (i := 12) (j := 13) (Ni := some 7) (Nj := some 8) #[true, true, true, true, true, true, true, true, true, true, true, true, true, false, false, false] #[true, true, true, true, true, true, true, true, true, true, true, true, false, true, false, false] rfl rfl rfl rfl (two_of HT_.out (by kernel_rfl)) (by decide) (by decide) (fun K hK => ?_) (fun K hK => ?_)
          ·skip
           refine box_step ?hg (N := 7) ?hd (cs := #[.int .i64 0, .int .i64 0, .int .i64 0, .int .i64 0]) (t := 67) ?hr ?_; (case hd => rfl); (case hg => rfl); (case hr => first | (go_simp; done) | (go_simp; rfl))
           intro gb104 hg w17 hbox hb
           have BK104 := Aside0.mk (hbox)
           have GW104 := gs HB hg
           have GE104 := gs HB hg
           replace HB := bs HB hb
           have NB101_104 := nl BK101 hg
           have NB104_101 := nr BK101 hg
           replace BK101 := bb BK101 hb
           clear hb hbox hg
           refine hK.out _ _ ⟨(blk_cell BK101.out 0).trans rfl, (blk_cell BK101.out 1).trans rfl, (cB HB hw102_0), (cB HB hw102_1), (cB HB hw102_2), (cB HB hw102_3), (cB HB hw103_0), (cB HB hw103_1), (cB HB hw103_2), (cB HB hw103_3)⟩ (fun hHeld => ?_)
           clear hK K
           refine norm_ (a' := ?_) ?_ ?_
           rotate_left
           ·show Act.put _ (some 7) _ = _
            simp only [Act.put, List.setIfInBounds_toArray, List.set_cons_zero, List.set_cons_succ, i64_w, i32_w]
            rfl
           refine on 13 (fun K hK => ?_)
           refine box_step ?hg (N := 8) ?hd (cs := #[.int .i64 0, .int .i64 0, .int .i64 0, .int .i64 0]) (t := 67) ?hr ?_; (case hd => rfl); (case hg => rfl); (case hr => first | (go_simp; done) | (go_simp; rfl))
           intro gb105 hg w18 hbox hb
           have BK105 := Aside0.mk (hbox)
           have GW105 := gs HB hg
           have GE105 := gs HB hg
           replace HB := bs HB hb
           have NB101_105 := nl BK101 hg
           have NB105_101 := nr BK101 hg
           replace BK101 := bb BK101 hb
           have NB104_105 := nl BK104 hg
           have NB105_104 := nr BK104 hg
           replace BK104 := bb BK104 hb
           clear hb hbox hg
           refine hK.out _ _ ⟨(blk_cell BK101.out 0).trans rfl, (blk_cell BK101.out 1).trans rfl, (cB HB hw102_0), (cB HB hw102_1), (cB HB hw102_2), (cB HB hw102_3), (cB HB hw103_0), (cB HB hw103_1), (cB HB hw103_2), (cB HB hw103_3)⟩ (fun hHeld => ?_)
           clear hK K
           refine norm_ (a' := ?_) ?_ ?_
           rotate_left
           ·show Act.put _ (some 8) _ = _
            simp only [Act.put, List.setIfInBounds_toArray, List.set_cons_zero, List.set_cons_succ, i64_w, i32_w]
            rfl
           exact norm_ (by simp only [putAll, Act.put, List.setIfInBounds_toArray, List.set_cons_zero, List.set_cons_succ]) (hCont (gb104, gb105) _ ⟨hHeld, (pB BK101.out), (pB BK104.out), (pB BK105.out), GW104.out, GE104.out, NB101_104.out, NB104_101.out, NB105_104.out, NB104_105.out, GW105.out, GE105.out, NB101_105.out, NB105_101.out, (pE HB)⟩)
          ·skip
           refine box_step ?hg (N := 8) ?hd (cs := #[.int .i64 0, .int .i64 0, .int .i64 0, .int .i64 0]) (t := 67) ?hr ?_; (case hd => rfl); (case hg => rfl); (case hr => first | (go_simp; done) | (go_simp; rfl))
           intro gb105 hg w17 hbox hb
           have BK105 := Aside0.mk (hbox)
           have GW105 := gs HB hg
           have GE105 := gs HB hg
           replace HB := bs HB hb
           have NB101_105 := nl BK101 hg
           have NB105_101 := nr BK101 hg
           replace BK101 := bb BK101 hb
           clear hb hbox hg
           refine hK.out _ _ ⟨(blk_cell BK101.out 0).trans rfl, (blk_cell BK101.out 1).trans rfl, (cB HB hw102_0), (cB HB hw102_1), (cB HB hw102_2), (cB HB hw102_3), (cB HB hw103_0), (cB HB hw103_1), (cB HB hw103_2), (cB HB hw103_3)⟩ (fun hHeld => ?_)
           clear hK K
           refine norm_ (a' := ?_) ?_ ?_
           rotate_left
           ·show Act.put _ (some 8) _ = _
            simp only [Act.put, List.setIfInBounds_toArray, List.set_cons_zero, List.set_cons_succ, i64_w, i32_w]
            rfl
           refine on 12 (fun K hK => ?_)
           refine box_step ?hg (N := 7) ?hd (cs := #[.int .i64 0, .int .i64 0, .int .i64 0, .int .i64 0]) (t := 67) ?hr ?_; (case hd => rfl); (case hg => rfl); (case hr => first | (go_simp; done) | (go_simp; rfl))
           intro gb104 hg w18 hbox hb
           have BK104 := Aside0.mk (hbox)
           have GW104 := gs HB hg
           have GE104 := gs HB hg
           replace HB := bs HB hb
           have NB101_104 := nl BK101 hg
           have NB104_101 := nr BK101 hg
           replace BK101 := bb BK101 hb
           have NB105_104 := nl BK105 hg
           have NB104_105 := nr BK105 hg
           replace BK105 := bb BK105 hb
           clear hb hbox hg
           refine hK.out _ _ ⟨(blk_cell BK101.out 0).trans rfl, (blk_cell BK101.out 1).trans rfl, (cB HB hw102_0), (cB HB hw102_1), (cB HB hw102_2), (cB HB hw102_3), (cB HB hw103_0), (cB HB hw103_1), (cB HB hw103_2), (cB HB hw103_3)⟩ (fun hHeld => ?_)
           clear hK K
           refine norm_ (a' := ?_) ?_ ?_
           rotate_left
           ·show Act.put _ (some 7) _ = _
            simp only [Act.put, List.setIfInBounds_toArray, List.set_cons_zero, List.set_cons_succ, i64_w, i32_w]
            rfl
           exact norm_ (by simp only [putAll, Act.put, List.setIfInBounds_toArray, List.set_cons_zero, List.set_cons_succ]) (hCont (gb104, gb105) _ ⟨hHeld, (pB BK101.out), (pB BK104.out), (pB BK105.out), GW104.out, GE104.out, NB101_104.out, NB104_101.out, NB105_104.out, NB104_105.out, GW105.out, GE105.out, NB101_105.out, NB105_101.out, (pE HB)⟩)
         rintro ⟨gb104, gb105⟩ w19 ⟨hS_, h0_, h1_, h2_, h3_, h4_, h5_, h6_, h7_, h8_, h9_, h10_, h11_, h12_, h13_⟩
         have n0_ : Aside0 (w19.heap[gb101]? = some (.cells #[.slice (some ad102) l0_0.length c0_0, .slice A0_1 l0_1.length c0_1] 99 (0, 0))) := ⟨h0_⟩
         have n1_ : Aside0 (w19.heap[gb104]? = some (.cells #[.int .i64 0, .int .i64 0, .int .i64 0, .int .i64 0] 67 (0, 0))) := ⟨h1_⟩
         have n2_ : Aside0 (w19.heap[gb105]? = some (.cells #[.int .i64 0, .int .i64 0, .int .i64 0, .int .i64 0] 67 (0, 0))) := ⟨h2_⟩
         have n3_ : Aside0 (w.heap.size ≤ gb104) := ⟨h3_⟩
         have n4_ : Aside0 (w.heap.size ≤ gb104) := ⟨h4_⟩
         have n5_ : Aside0 (gb101 ≠ gb104) := ⟨h5_⟩
         have n6_ : Aside0 (gb104 ≠ gb101) := ⟨h6_⟩
         have n7_ : Aside0 (gb105 ≠ gb104) := ⟨h7_⟩
         have n8_ : Aside0 (gb104 ≠ gb105) := ⟨h8_⟩
         have n9_ : Aside0 (w.heap.size ≤ gb105) := ⟨h9_⟩
         have n10_ : Aside0 (w.heap.size ≤ gb105) := ⟨h10_⟩
         have n11_ : Aside0 (gb101 ≠ gb105) := ⟨h11_⟩
         have n12_ : Aside0 (gb105 ≠ gb101) := ⟨h12_⟩
         have n13_ : Aside0 (Below w.heap.size w w19) := ⟨h13_⟩
         clear BK101 HB h0_ h1_ h2_ h3_ h4_ h5_ h6_ h7_ h8_ h9_ h10_ h11_ h12_ h13_
         have BK101 := n0_
         have BK104 := n1_
         have BK105 := n2_
         have GW104 := n3_
         have GE104 := n4_
         have NB101_104 := n5_
         have NB104_101 := n6_
         have NB105_104 := n7_
         have NB104_105 := n8_
         have GW105 := n9_
         have GE105 := n10_
         have NB101_105 := n11_
         have NB105_101 := n12_
         have HB := n13_
         clear n0_ n1_ n2_ n3_ n4_ n5_ n6_ n7_ n8_ n9_ n10_ n11_ n12_ n13_
         have hHeld : w19.cell? ⟨gb101, 0, none⟩ = some (.slice (some ad102) l0_0.length c0_0) ∧ w19.cell? ⟨gb101, 1, none⟩ = some (.slice A0_1 l0_1.length c0_1) ∧ w19.cell? (ad102.add ((a1).toNat * 4)) = some (.int .i64 ((rd_T67 l0_0 a1).f0)) ∧ w19.cell? ⟨(ad102.add ((a1).toNat * 4)).block, (ad102.add ((a1).toNat * 4)).off + 1, none⟩ = some (.int .i64 ((rd_T67 l0_0 a1).f1)) ∧ w19.cell? ⟨(ad102.add ((a1).toNat * 4)).block, (ad102.add ((a1).toNat * 4)).off + 2, none⟩ = some (.int .i64 ((rd_T67 l0_0 a1).f2.f0)) ∧ w19.cell? ⟨(ad102.add ((a1).toNat * 4)).block, (ad102.add ((a1).toNat * 4)).off + 3, none⟩ = some (.int .i64 ((rd_T67 l0_0 a1).f2.f1)) ∧ w19.cell? (ad102.add ((a2).toNat * 4)) = some (.int .i64 ((rd_T67 l0_0 a2).f0)) ∧ w19.cell? ⟨(ad102.add ((a2).toNat * 4)).block, (ad102.add ((a2).toNat * 4)).off + 1, none⟩ = some (.int .i64 ((rd_T67 l0_0 a2).f1)) ∧ w19.cell? ⟨(ad102.add ((a2).toNat * 4)).block, (ad102.add ((a2).toNat * 4)).off + 2, none⟩ = some (.int .i64 ((rd_T67 l0_0 a2).f2.f0)) ∧ w19.cell? ⟨(ad102.add ((a2).toNat * 4)).block, (ad102.add ((a2).toNat * 4)).off + 3, none⟩ = some (.int .i64 ((rd_T67 l0_0 a2).f2.f1)) := hS_
         refine norm_ (a' := ?_) ?_ ?_
         rotate_left
         ·simp only [putAll, Act.put, List.setIfInBounds_toArray, List.set_cons_zero, List.set_cons_succ]
          rfl
         refine on 14 (fun K hK => ?_)
         have hs20 : w19.cell? ⟨gb104, 0, none⟩ = some (.int .i64 0) := (blk_cell BK104.out 0).trans rfl
         have hfs20 := blk_frozen BK104.out 0
         have hns20_0 := NB101_104.out
         have hns20_2 := NB105_104.out
         have hms20_0 := NB104_101.out
         have hms20_2 := NB104_105.out
         have hs21 : w19.cell? ⟨gb104, 1, none⟩ = some (.int .i64 0) := (blk_cell BK104.out 1).trans rfl
         have hfs21 := blk_frozen BK104.out 1
         have hns21_0 := NB101_104.out
         have hns21_2 := NB105_104.out
         have hms21_0 := NB104_101.out
         have hms21_2 := NB104_105.out
         have hs22 : w19.cell? ⟨gb104, 2, none⟩ = some (.int .i64 0) := (blk_cell BK104.out 2).trans rfl
         have hfs22 := blk_frozen BK104.out 2
         have hns22_0 := NB101_104.out
         have hns22_2 := NB105_104.out
         have hms22_0 := NB104_101.out
         have hms22_2 := NB104_105.out
         have hs23 : w19.cell? ⟨gb104, 3, none⟩ = some (.int .i64 0) := (blk_cell BK104.out 3).trans rfl
         have hfs23 := blk_frozen BK104.out 3
         have hns23_0 := NB101_104.out
         have hns23_2 := NB105_104.out
         have hms23_0 := NB104_101.out
         have hms23_2 := NB104_105.out
         refine skip_ (w1 := ?_) (by rfl) rfl ?_ ?_
         rotate_left
         ·go_simp
          rfl
         refine hK.out _ _ ⟨(cq NB101_104.out hHeld.1), (cq NB101_104.out hHeld.2.1), (cq (nF hw102_0 GW104) hHeld.2.2.1), (cq (nF hw102_1 GW104) hHeld.2.2.2.1), (cq (nF hw102_2 GW104) hHeld.2.2.2.2.1), (cq (nF hw102_3 GW104) hHeld.2.2.2.2.2.1), (cq (nF hw103_0 GW104) hHeld.2.2.2.2.2.2.1), (cq (nF hw103_1 GW104) hHeld.2.2.2.2.2.2.2.1), (cq (nF hw103_2 GW104) hHeld.2.2.2.2.2.2.2.2.1), (cq (nF hw103_3 GW104) hHeld.2.2.2.2.2.2.2.2.2)⟩ (fun hHeld => ?_)
         clear hK K
         refine on 15 (fun K hK => ?_)
         have hs24 : w19.cell? ⟨gb105, 0, none⟩ = some (.int .i64 0) := (blk_cell BK105.out 0).trans rfl
         have hfs24 := blk_frozen BK105.out 0
         have hns24_0 := NB101_105.out
         have hns24_1 := NB104_105.out
         have hms24_0 := NB105_101.out
         have hms24_1 := NB105_104.out
         have hs25 : w19.cell? ⟨gb105, 1, none⟩ = some (.int .i64 0) := (blk_cell BK105.out 1).trans rfl
         have hfs25 := blk_frozen BK105.out 1
         have hns25_0 := NB101_105.out
         have hns25_1 := NB104_105.out
         have hms25_0 := NB105_101.out
         have hms25_1 := NB105_104.out
         have hs26 : w19.cell? ⟨gb105, 2, none⟩ = some (.int .i64 0) := (blk_cell BK105.out 2).trans rfl
         have hfs26 := blk_frozen BK105.out 2
         have hns26_0 := NB101_105.out
         have hns26_1 := NB104_105.out
         have hms26_0 := NB105_101.out
         have hms26_1 := NB105_104.out
         have hs27 : w19.cell? ⟨gb105, 3, none⟩ = some (.int .i64 0) := (blk_cell BK105.out 3).trans rfl
         have hfs27 := blk_frozen BK105.out 3
         have hns27_0 := NB101_105.out
         have hns27_1 := NB104_105.out
         have hms27_0 := NB105_101.out
         have hms27_1 := NB105_104.out
         refine skip_ (w1 := ?_) (by rfl) rfl ?_ ?_
         rotate_left
         ·go_simp
          rfl
         refine hK.out _ _ ⟨(cq NB101_105.out hHeld.1), (cq NB101_105.out hHeld.2.1), (cq (nF hw102_0 GW105) hHeld.2.2.1), (cq (nF hw102_1 GW105) hHeld.2.2.2.1), (cq (nF hw102_2 GW105) hHeld.2.2.2.2.1), (cq (nF hw102_3 GW105) hHeld.2.2.2.2.2.1), (cq (nF hw103_0 GW105) hHeld.2.2.2.2.2.2.1), (cq (nF hw103_1 GW105) hHeld.2.2.2.2.2.2.2.1), (cq (nF hw103_2 GW105) hHeld.2.2.2.2.2.2.2.2.1), (cq (nF hw103_3 GW105) hHeld.2.2.2.2.2.2.2.2.2)⟩ (fun hHeld => ?_)
         clear hK K
         refine done_ (done_of HT_.out (by kernel_rfl)) ?_
         try go_wp2
         have n0_ : Aside0 (((((((((w19.setCell ⟨gb104, 0, none⟩ (.int .i64 ((rd_T67 l0_0 a1).f0))).setCell ⟨gb104, 1, none⟩ (.int .i64 ((rd_T67 l0_0 a1).f1))).setCell ⟨gb104, 2, none⟩ (.int .i64 ((rd_T67 l0_0 a1).f2.f0))).setCell ⟨gb104, 3, none⟩ (.int .i64 ((rd_T67 l0_0 a1).f2.f1))).setCell ⟨gb105, 0, none⟩ (.int .i64 ((rd_T67 l0_0 a2).f0))).setCell ⟨gb105, 1, none⟩ (.int .i64 ((rd_T67 l0_0 a2).f1))).setCell ⟨gb105, 2, none⟩ (.int .i64 ((rd_T67 l0_0 a2).f2.f0))).setCell ⟨gb105, 3, none⟩ (.int .i64 ((rd_T67 l0_0 a2).f2.f1))).heap[gb101]? = some (.cells #[.slice (some ad102) l0_0.length c0_0, .slice A0_1 l0_1.length c0_1] 99 (0, 0))) := ⟨pF BK101⟩
         have n1_ : Aside0 (((((((((w19.setCell ⟨gb104, 0, none⟩ (.int .i64 ((rd_T67 l0_0 a1).f0))).setCell ⟨gb104, 1, none⟩ (.int .i64 ((rd_T67 l0_0 a1).f1))).setCell ⟨gb104, 2, none⟩ (.int .i64 ((rd_T67 l0_0 a1).f2.f0))).setCell ⟨gb104, 3, none⟩ (.int .i64 ((rd_T67 l0_0 a1).f2.f1))).setCell ⟨gb105, 0, none⟩ (.int .i64 ((rd_T67 l0_0 a2).f0))).setCell ⟨gb105, 1, none⟩ (.int .i64 ((rd_T67 l0_0 a2).f1))).setCell ⟨gb105, 2, none⟩ (.int .i64 ((rd_T67 l0_0 a2).f2.f0))).setCell ⟨gb105, 3, none⟩ (.int .i64 ((rd_T67 l0_0 a2).f2.f1))).heap[gb104]? = some (.cells #[.int .i64 ((rd_T67 l0_0 a1).f0), .int .i64 ((rd_T67 l0_0 a1).f1), .int .i64 ((rd_T67 l0_0 a1).f2.f0), .int .i64 ((rd_T67 l0_0 a1).f2.f1)] 67 (0, 0))) := ⟨by refine pB ?_; refine blk_far ?_ NB104_105.out _; refine pB ?_; refine blk_far ?_ NB104_105.out _; refine pB ?_; refine blk_far ?_ NB104_105.out _; refine pB ?_; refine blk_far ?_ NB104_105.out _; refine pB ?_; refine blk_put (cs := #[.int .i64 ((rd_T67 l0_0 a1).f0), .int .i64 ((rd_T67 l0_0 a1).f1), .int .i64 ((rd_T67 l0_0 a1).f2.f0), .int .i64 0]) ?_ 3 _ rfl; refine pB ?_; refine blk_put (cs := #[.int .i64 ((rd_T67 l0_0 a1).f0), .int .i64 ((rd_T67 l0_0 a1).f1), .int .i64 0, .int .i64 0]) ?_ 2 _ rfl; refine pB ?_; refine blk_put (cs := #[.int .i64 ((rd_T67 l0_0 a1).f0), .int .i64 0, .int .i64 0, .int .i64 0]) ?_ 1 _ rfl; refine pB ?_; refine blk_put (cs := #[.int .i64 0, .int .i64 0, .int .i64 0, .int .i64 0]) ?_ 0 _ rfl; exact pB BK104.out⟩
         have n2_ : Aside0 (((((((((w19.setCell ⟨gb104, 0, none⟩ (.int .i64 ((rd_T67 l0_0 a1).f0))).setCell ⟨gb104, 1, none⟩ (.int .i64 ((rd_T67 l0_0 a1).f1))).setCell ⟨gb104, 2, none⟩ (.int .i64 ((rd_T67 l0_0 a1).f2.f0))).setCell ⟨gb104, 3, none⟩ (.int .i64 ((rd_T67 l0_0 a1).f2.f1))).setCell ⟨gb105, 0, none⟩ (.int .i64 ((rd_T67 l0_0 a2).f0))).setCell ⟨gb105, 1, none⟩ (.int .i64 ((rd_T67 l0_0 a2).f1))).setCell ⟨gb105, 2, none⟩ (.int .i64 ((rd_T67 l0_0 a2).f2.f0))).setCell ⟨gb105, 3, none⟩ (.int .i64 ((rd_T67 l0_0 a2).f2.f1))).heap[gb105]? = some (.cells #[.int .i64 ((rd_T67 l0_0 a2).f0), .int .i64 ((rd_T67 l0_0 a2).f1), .int .i64 ((rd_T67 l0_0 a2).f2.f0), .int .i64 ((rd_T67 l0_0 a2).f2.f1)] 67 (0, 0))) := ⟨by refine pB ?_; refine blk_put (cs := #[.int .i64 ((rd_T67 l0_0 a2).f0), .int .i64 ((rd_T67 l0_0 a2).f1), .int .i64 ((rd_T67 l0_0 a2).f2.f0), .int .i64 0]) ?_ 3 _ rfl; refine pB ?_; refine blk_put (cs := #[.int .i64 ((rd_T67 l0_0 a2).f0), .int .i64 ((rd_T67 l0_0 a2).f1), .int .i64 0, .int .i64 0]) ?_ 2 _ rfl; refine pB ?_; refine blk_put (cs := #[.int .i64 ((rd_T67 l0_0 a2).f0), .int .i64 0, .int .i64 0, .int .i64 0]) ?_ 1 _ rfl; refine pB ?_; refine blk_put (cs := #[.int .i64 0, .int .i64 0, .int .i64 0, .int .i64 0]) ?_ 0 _ rfl; refine pB ?_; refine blk_far ?_ NB105_104.out _; refine pB ?_; refine blk_far ?_ NB105_104.out _; refine pB ?_; refine blk_far ?_ NB105_104.out _; refine pB ?_; refine blk_far ?_ NB105_104.out _; exact pB BK105.out⟩
         have n3_ : Aside0 (Below w.heap.size w ((((((((w19.setCell ⟨gb104, 0, none⟩ (.int .i64 ((rd_T67 l0_0 a1).f0))).setCell ⟨gb104, 1, none⟩ (.int .i64 ((rd_T67 l0_0 a1).f1))).setCell ⟨gb104, 2, none⟩ (.int .i64 ((rd_T67 l0_0 a1).f2.f0))).setCell ⟨gb104, 3, none⟩ (.int .i64 ((rd_T67 l0_0 a1).f2.f1))).setCell ⟨gb105, 0, none⟩ (.int .i64 ((rd_T67 l0_0 a2).f0))).setCell ⟨gb105, 1, none⟩ (.int .i64 ((rd_T67 l0_0 a2).f1))).setCell ⟨gb105, 2, none⟩ (.int .i64 ((rd_T67 l0_0 a2).f2.f0))).setCell ⟨gb105, 3, none⟩ (.int .i64 ((rd_T67 l0_0 a2).f2.f1)))) := ⟨pE HB⟩
         (try clear BK101)
         (try clear BK104)
         (try clear BK105)
         (try clear HB)
         generalize ((((((((w19.setCell ⟨gb104, 0, none⟩ (.int .i64 ((rd_T67 l0_0 a1).f0))).setCell ⟨gb104, 1, none⟩ (.int .i64 ((rd_T67 l0_0 a1).f1))).setCell ⟨gb104, 2, none⟩ (.int .i64 ((rd_T67 l0_0 a1).f2.f0))).setCell ⟨gb104, 3, none⟩ (.int .i64 ((rd_T67 l0_0 a1).f2.f1))).setCell ⟨gb105, 0, none⟩ (.int .i64 ((rd_T67 l0_0 a2).f0))).setCell ⟨gb105, 1, none⟩ (.int .i64 ((rd_T67 l0_0 a2).f1))).setCell ⟨gb105, 2, none⟩ (.int .i64 ((rd_T67 l0_0 a2).f2.f0))).setCell ⟨gb105, 3, none⟩ (.int .i64 ((rd_T67 l0_0 a2).f2.f1))) = w28 at n0_ n1_ n2_ n3_ ⊢
         have BK101 := n0_
         have BK104 := n1_
         have BK105 := n2_
         have HB := n3_
         clear n0_ n1_ n2_ n3_
         replace BK101 := Aside0.mk (blk_drew BK101.out)
         replace BK104 := Aside0.mk (blk_drew BK104.out)
         replace BK105 := Aside0.mk (blk_drew BK105.out)
         replace HB := Aside0.mk (below_drew1 HB.out)
         have p108 : 0 ≤ (((rd_T67 l0_0 a1).f0) : Int) := dT
         have q108 : ((rd_T67 l0_0 a1).f0) < (l0_1.length : Int) := dT
         obtain ⟨ad108, e108, hx108_0⟩ := Kd.at_int HR0_1.out ((rd_T67 l0_0 a1).f0) p108 q108
         have hw108_0 := hx108_0
         cases e108
         replace hx108_0 := cut_ HB hx108_0
         replace p108 := eq_true p108
         replace q108 := eq_true q108
         have p109 : 0 ≤ (((rd_T67 l0_0 a2).f0) : Int) := dT
         have q109 : ((rd_T67 l0_0 a2).f0) < (l0_1.length : Int) := dT
         obtain ⟨ad109, e109, hx109_0⟩ := Kd.at_int HR0_1.out ((rd_T67 l0_0 a2).f0) p109 q109
         have hw109_0 := hx109_0
         obtain rfl : ad108 = ad109 := (by injection e109)
         replace hx109_0 := cut_ HB hx109_0
         replace p109 := eq_true p109
         replace q109 := eq_true q109
         refine start_ (n := 33) (S := fun w' => w'.cell? ⟨gb104, 0, none⟩ = some (.int .i64 ((rd_T67 l0_0 a1).f0)) ∧ w'.cell? ⟨gb104, 1, none⟩ = some (.int .i64 ((rd_T67 l0_0 a1).f1)) ∧ w'.cell? ⟨gb104, 2, none⟩ = some (.int .i64 ((rd_T67 l0_0 a1).f2.f0)) ∧ w'.cell? ⟨gb104, 3, none⟩ = some (.int .i64 ((rd_T67 l0_0 a1).f2.f1)) ∧ w'.cell? ⟨gb105, 0, none⟩ = some (.int .i64 ((rd_T67 l0_0 a2).f0)) ∧ w'.cell? ⟨gb105, 1, none⟩ = some (.int .i64 ((rd_T67 l0_0 a2).f1)) ∧ w'.cell? ⟨gb105, 2, none⟩ = some (.int .i64 ((rd_T67 l0_0 a2).f2.f0)) ∧ w'.cell? ⟨gb105, 3, none⟩ = some (.int .i64 ((rd_T67 l0_0 a2).f2.f1)) ∧ w'.cell? ⟨gb101, 0, none⟩ = some (.slice (some ad102) l0_0.length c0_0) ∧ w'.cell? ⟨gb101, 1, none⟩ = some (.slice (some ad108) l0_1.length c0_1) ∧ w'.cell? (ad108.add (((rd_T67 l0_0 a1).f0)).toNat) = some (.int .i64 (rd l0_1 ((rd_T67 l0_0 a1).f0))) ∧ w'.cell? (ad108.add (((rd_T67 l0_0 a2).f0)).toNat) = some (.int .i64 (rd l0_1 ((rd_T67 l0_0 a2).f0)))) (ds := []) #[false, false, false, false, false, false, false, false, false, false, false, false, false, false, false, false, false, false, false, false, false, false, false, false, false, false, false, false, false, false, false, false, false] (by kernel_rfl) rfl rfl ⟨(blk_cell BK104.out 0).trans rfl, (blk_cell BK104.out 1).trans rfl, (blk_cell BK104.out 2).trans rfl, (blk_cell BK104.out 3).trans rfl, (blk_cell BK105.out 0).trans rfl, (blk_cell BK105.out 1).trans rfl, (blk_cell BK105.out 2).trans rfl, (blk_cell BK105.out 3).trans rfl, (blk_cell BK101.out 0).trans rfl, (blk_cell BK101.out 1).trans rfl, (cB HB hw108_0), (cB HB hw109_0)⟩ (fun hHeld => ?_); refine with_tabW turn_day_before.tab2 turn_day_before.bits2 (fun HT_ HW_ => ?_)
         generalize w28.drew = w29 at BK101 BK104 BK105 HB hx108_0 hx109_0 hHeld ⊢
         refine pu 0 21 ?_
         refine pu 2 23 ?_
         refine pu 6 27 ?_
         refine pu 9 30 ?_
         refine pu 12 33 ?_
         refine pu 13 34 ?_
         refine pu 15 36 ?_
         refine pu 19 40 ?_
         refine pu 20 41 ?_
         refine pu 22 43 ?_
         refine pu 27 48 ?_
         refine pu 28 49 ?_
         refine pu 29 50 ?_
         refine tk 1 22 hHeld ?_
         refine tk 3 24 hHeld ?_
         refine pu 4 25 ?_
         refine tk 5 26 hHeld ?_
         refine tk 8 29 hHeld ?_
         refine tk 14 35 hHeld ?_
         refine tk 16 37 hHeld ?_
         refine pu 17 38 ?_
         refine tk 18 39 hHeld ?_
         refine tk 21 42 hHeld ?_
         refine tk 23 44 hHeld ?_
         refine pu 24 45 ?_
         refine tk 25 46 hHeld ?_
         refine pu 26 47 ?_
         refine on 7 (fun K hK => ?_)
         refine gO Tryz.func110 #[.agg #[.slice (some ad102) l0_0.length c0_0, .slice (some ad108) l0_1.length c0_1], .int .i64 a1] ?_
         with_reducible refine (turn_day_nth.calls k _ _ l0_0 _ _ l0_1 a1 t106 _ ?side1 ?side2 ?side3 ?side4 A8.out).mono ?_
         (case side1 => exact pC (Kd.C_below HR0_0.out HB.out))
         (case side2 => exact HC0_0.out)
         (case side3 => exact pC (Kd.C_below HR0_1.out HB.out))
         (case side4 => exact HC0_1.out)
         rintro e w30 ⟨rfl, hb⟩
         refine ⟨_, rfl, ?_⟩
         replace BK101 := bb BK101 hb
         replace BK104 := bb BK104 hb
         replace BK105 := bb BK105 hb
         replace HB := bs HB hb
         (try clear hb)
         (try clear hb2)
         (try clear hk)
         (try clear hi)
         refine hK.out _ _ ⟨(blk_cell BK104.out 0).trans rfl, (blk_cell BK104.out 1).trans rfl, (blk_cell BK104.out 2).trans rfl, (blk_cell BK104.out 3).trans rfl, (blk_cell BK105.out 0).trans rfl, (blk_cell BK105.out 1).trans rfl, (blk_cell BK105.out 2).trans rfl, (blk_cell BK105.out 3).trans rfl, (blk_cell BK101.out 0).trans rfl, (blk_cell BK101.out 1).trans rfl, (cB HB hw108_0), (cB HB hw109_0)⟩ (fun hHeld => ?_)
         clear hK K
         refine norm_ (a' := ?_) ?_ ?_
         rotate_left
         ·show Act.put _ (some 28) _ = _
          simp only [Act.put, List.setIfInBounds_toArray, List.set_cons_zero, List.set_cons_succ, i64_w, i32_w]
          rfl
         refine on 10 (fun K hK => ?_)
         refine gO Tryz.func110 #[.agg #[.slice (some ad102) l0_0.length c0_0, .slice (some ad108) l0_1.length c0_1], .int .i64 a2] ?_
         with_reducible refine (turn_day_nth.calls k _ _ l0_0 _ _ l0_1 a2 t107 _ ?side1 ?side2 ?side3 ?side4 A9.out).mono ?_
         (case side1 => exact pC (Kd.C_below HR0_0.out HB.out))
         (case side2 => exact HC0_0.out)
         (case side3 => exact pC (Kd.C_below HR0_1.out HB.out))
         (case side4 => exact HC0_1.out)
         rintro e w31 ⟨rfl, hb⟩
         refine ⟨_, rfl, ?_⟩
         replace BK101 := bb BK101 hb
         replace BK104 := bb BK104 hb
         replace BK105 := bb BK105 hb
         replace HB := bs HB hb
         (try clear hb)
         (try clear hb2)
         (try clear hk)
         (try clear hi)
         refine hK.out _ _ ⟨(blk_cell BK104.out 0).trans rfl, (blk_cell BK104.out 1).trans rfl, (blk_cell BK104.out 2).trans rfl, (blk_cell BK104.out 3).trans rfl, (blk_cell BK105.out 0).trans rfl, (blk_cell BK105.out 1).trans rfl, (blk_cell BK105.out 2).trans rfl, (blk_cell BK105.out 3).trans rfl, (blk_cell BK101.out 0).trans rfl, (blk_cell BK101.out 1).trans rfl, (cB HB hw108_0), (cB HB hw109_0)⟩ (fun hHeld => ?_)
         clear hK K
         refine norm_ (a' := ?_) ?_ ?_
         rotate_left
         ·show Act.put _ (some 31) _ = _
          simp only [Act.put, List.setIfInBounds_toArray, List.set_cons_zero, List.set_cons_succ, i64_w, i32_w]
          rfl
         refine pu 11 32 ?_
         refine on 30 (fun K hK => ?_)
         refine Kd.R_lit_step (Kd.int .i64) _ 3 ?hg (N := 51) ?hd (xs := ([wrap64 (((rd_T67 l0_0 a1).f1) - ((rd_T67 l0_0 a2).f1)), wrap64 (t106 - t107), wrap64 ((rd l0_1 ((rd_T67 l0_0 a1).f0)) - (rd l0_1 ((rd_T67 l0_0 a2).f0))), wrap64 (a1 - a2)] : List Int)) (inner := [.int .i64 (wrap64 (((rd_T67 l0_0 a1).f1) - ((rd_T67 l0_0 a2).f1))), .int .i64 (wrap64 (t106 - t107)), .int .i64 (wrap64 ((rd l0_1 ((rd_T67 l0_0 a1).f0)) - (rd l0_1 ((rd_T67 l0_0 a2).f0)))), .int .i64 (wrap64 (a1 - a2))]) (ok := fun _ => True) (okp := fun _ => True) ?hr ?hp (fun _ hk => hk) trivial (Below.refl _ _) (Nat.le_refl _) (by simp) ?_; (case hd => rfl); (case hg => rfl); (case hr => first | (go_simp; done) | (go_simp; rfl)); (case hp => exact (Reps.one (show Kd.M (Kd.int .i64) _ _ _ (wrap64 (((rd_T67 l0_0 a1).f1) - ((rd_T67 l0_0 a2).f1))) [.int .i64 (wrap64 (((rd_T67 l0_0 a1).f1) - ((rd_T67 l0_0 a2).f1)))] from rfl) (Reps.one (show Kd.M (Kd.int .i64) _ _ _ (wrap64 (t106 - t107)) [.int .i64 (wrap64 (t106 - t107))] from rfl) (Reps.one (show Kd.M (Kd.int .i64) _ _ _ (wrap64 ((rd l0_1 ((rd_T67 l0_0 a1).f0)) - (rd l0_1 ((rd_T67 l0_0 a2).f0)))) [.int .i64 (wrap64 ((rd l0_1 ((rd_T67 l0_0 a1).f0)) - (rd l0_1 ((rd_T67 l0_0 a2).f0))))] from rfl) (Reps.one (show Kd.M (Kd.int .i64) _ _ _ (wrap64 (a1 - a2)) [.int .i64 (wrap64 (a1 - a2))] from rfl) (Reps.none _ _))))))
         intro v111 w32 ho33 hb hg_ hnew_
         clear hg_ hnew_
         (first | rw [← Ny110.out] at ho33 | (simp only [Int.reduceToNat] at ho33; rw [← Ny110.out] at ho33))
         have HO112 := rl ho33 HB
         replace BK101 := bb BK101 hb
         replace BK104 := bb BK104 hb
         replace BK105 := bb BK105 hb
         replace HB := bs HB hb
         clear hb ho33
         obtain ⟨Ao34, co34, eo34⟩ := Kd.R_slice HO112.out
         (first | subst eo34 | (injection eo34 with f1_ f2_ f3_; have f4_ := f1_.symm; have f5_ := f3_.symm; clear f1_ f2_ f3_; subst f4_; subst f5_))
         refine hK.out _ _ ⟨(blk_cell BK104.out 0).trans rfl, (blk_cell BK104.out 1).trans rfl, (blk_cell BK104.out 2).trans rfl, (blk_cell BK104.out 3).trans rfl, (blk_cell BK105.out 0).trans rfl, (blk_cell BK105.out 1).trans rfl, (blk_cell BK105.out 2).trans rfl, (blk_cell BK105.out 3).trans rfl, (blk_cell BK101.out 0).trans rfl, (blk_cell BK101.out 1).trans rfl, (cB HB hw108_0), (cB HB hw109_0)⟩ (fun hHeld => ?_)
         clear hK K
         refine norm_ (a' := ?_) ?_ ?_
         rotate_left
         ·show Act.put _ (some 51) _ = _
          simp only [Act.put, List.setIfInBounds_toArray, List.set_cons_zero, List.set_cons_succ, i64_w, i32_w]
          rfl
         refine on 31 (fun K hK => ?_)
         refine gO Tryz.func109 #[.slice Ao34 y110.length co34] ?_
         with_reducible refine (cmp_Or_int.calls k _ _ y110 t113 _ ?side1 ?side2 A14.out).mono ?_
         (case side1 => exact pC (Kd.R_reads' HO112.out).2.2)
         (case side2 => exact (Kd.R_reads' HO112.out).2.1)
         rintro e w' ⟨rfl, ⟨nd, rfl⟩⟩
         refine ⟨_, rfl, ?_⟩
         refine hK.out _ _ ⟨(blk_cell BK104.out 0).trans rfl, (blk_cell BK104.out 1).trans rfl, (blk_cell BK104.out 2).trans rfl, (blk_cell BK104.out 3).trans rfl, (blk_cell BK105.out 0).trans rfl, (blk_cell BK105.out 1).trans rfl, (blk_cell BK105.out 2).trans rfl, (blk_cell BK105.out 3).trans rfl, (blk_cell BK101.out 0).trans rfl, (blk_cell BK101.out 1).trans rfl, (cB HB hw108_0), (cB HB hw109_0)⟩ (fun hHeld => ?_)
         clear hK K
         refine norm_ (a' := ?_) ?_ ?_
         rotate_left
         ·show Act.put _ (some 52) _ = _
          simp only [Act.put, List.setIfInBounds_toArray, List.set_cons_zero, List.set_cons_succ, i64_w, i32_w]
          rfl
         refine pu 32 6 ?_
         refine done_ (done_of HT_.out (by kernel_rfl)) ?_
         try go_wp2
         go_ret
         exact ⟨eT, pE HB⟩
        ·rw [if_neg c13] at H
         exact absurd H (by simp)
       ·rw [if_neg c12] at H
        exact absurd H (by simp)
      ·rw [if_neg c11] at H
       exact absurd H (by simp)
     ·rw [if_neg c10] at H
      exact absurd H (by simp)
    ·rw [if_neg c7] at H
     exact absurd H (by simp)
   ·rw [if_neg c6] at H
    exact absurd H (by simp)
  ·rw [if_neg c5] at H
   exact absurd H (by simp)
 ·rw [if_neg c4] at H
  exact absurd H (by simp)
mutual
def walkmillref04_Earlier.l0 : Nat → Int → Int → Int → List (S67) → List Int → Option (Int)
 | 0, _, _, _, _, _ => none
 | k + 1, x1, x5, x6, x102000, x102001 => if x6 < x1 then (if 0 ≤ x6 then (if x6 < (x102000.length : Int) then (if 0 ≤ x1 then (if x1 < (x102000.length : Int) then (if ((rd_T67 x102000 x6).f0) = ((rd_T67 x102000 x1).f0) then (walkmillref04_Earlier.j1 k x1 x5 x6 (((rd_T67 x102000 x6).f1) == ((rd_T67 x102000 x1).f1)) x102000 x102001) else (walkmillref04_Earlier.j1 k x1 x5 x6 false x102000 x102001)) else (none)) else (none)) else (none)) else (none)) else (some x5)
def walkmillref04_Earlier.j1 : Nat → Int → Int → Int → Bool → List (S67) → List Int → Option (Int)
 | 0, _, _, _, _, _, _ => none
 | k + 1, x1, x5, x6, x39, x102000, x102001 => if x39 = true then (walkmillref04_Earlier.l0 k x1 (wrap64 (x5 + 1)) (wrap64 (x6 + 1)) x102000 x102001) else (walkmillref04_Earlier.l0 k x1 x5 (wrap64 (x6 + 1)) x102000 x102001)
end
def walkmillref04_Earlier.f (k : Nat) (l0_0 : List (S67)) (l0_1 : List Int) (a1 : Int) : Option (Int) := walkmillref04_Earlier.l0 k a1 0 0 l0_0 l0_1
theorem walkmillref04_Earlier.mono_l : ∀ k, (∀ y0 y1 y2 y3 y4, LeO (walkmillref04_Earlier.l0 k y0 y1 y2 y3 y4) (walkmillref04_Earlier.l0 (k + 1) y0 y1 y2 y3 y4)) ∧ (∀ y0 y1 y2 y3 y4 y5, LeO (walkmillref04_Earlier.j1 k y0 y1 y2 y3 y4 y5) (walkmillref04_Earlier.j1 (k + 1) y0 y1 y2 y3 y4 y5))
 | 0 => ⟨fun _ _ _ _ _ r h => by simp [walkmillref04_Earlier.l0] at h, fun _ _ _ _ _ _ r h => by simp [walkmillref04_Earlier.j1] at h⟩
 | k + 1 => by
  obtain ⟨ih0, ih1⟩ := walkmillref04_Earlier.mono_l k
  refine ⟨?_, ?_⟩
  ·intro y0 y1 y2 y3 y4
   unfold walkmillref04_Earlier.l0
   repeat' first
   | (with_reducible exact ih0 _ _ _ _ _)
   | (with_reducible exact ih1 _ _ _ _ _ _)
   | (with_reducible exact LeO.refl _)
   | (with_reducible exact LeO.none _)
   | (with_reducible refine LeO.ite ?_ ?_)
   | (with_reducible refine LeO.bind ?_ (fun _ => ?_))
   | exact ih0 _ _ _ _ _
   | exact ih1 _ _ _ _ _ _
   | exact LeO.none _
   | refine LeO.ite ?_ ?_
   | refine LeO.bind ?_ (fun _ => ?_)
  ·intro y0 y1 y2 y3 y4 y5
   unfold walkmillref04_Earlier.j1
   repeat' first
   | (with_reducible exact ih0 _ _ _ _ _)
   | (with_reducible exact ih1 _ _ _ _ _ _)
   | (with_reducible exact LeO.refl _)
   | (with_reducible exact LeO.none _)
   | (with_reducible refine LeO.ite ?_ ?_)
   | (with_reducible refine LeO.bind ?_ (fun _ => ?_))
   | exact ih0 _ _ _ _ _
   | exact ih1 _ _ _ _ _ _
   | exact LeO.none _
   | refine LeO.ite ?_ ?_
   | refine LeO.bind ?_ (fun _ => ?_)
theorem walkmillref04_Earlier.mono : ∀ a0 a1 a2 k, LeO (walkmillref04_Earlier.f k a0 a1 a2) (walkmillref04_Earlier.f (k + 1) a0 a1 a2) := by
 intro a0 a1 a2 k
 obtain ⟨ih0, ih1⟩ := walkmillref04_Earlier.mono_l k
 unfold walkmillref04_Earlier.f
 repeat' first
   | (with_reducible exact ih0 _ _ _ _ _)
   | (with_reducible exact ih1 _ _ _ _ _ _)
   | (with_reducible exact LeO.refl _)
   | (with_reducible exact LeO.none _)
   | (with_reducible refine LeO.ite ?_ ?_)
   | (with_reducible refine LeO.bind ?_ (fun _ => ?_))
   | exact ih0 _ _ _ _ _
   | exact ih1 _ _ _ _ _ _
   | exact LeO.none _
   | refine LeO.ite ?_ ?_
   | refine LeO.bind ?_ (fun _ => ?_)
set_option maxHeartbeats 8000000 in
set_option maxRecDepth 100000 in
theorem walkmillref04_Earlier.calls (k : Nat) (A0_0 : Option Addr) (c0_0 : Nat) (l0_0 : List (S67)) (A0_1 : Option Addr) (c0_1 : Nat) (l0_1 : List Int) (a1 : Int) (r : Int) (w : World) (hr0_0 : Kd.C k67 w A0_0 l0_0.length l0_0) (hc0_0 : l0_0.length ≤ c0_0) (hr0_1 : Kd.C (Kd.int .i64) w A0_1 l0_1.length l0_1) (hc0_1 : l0_1.length ≤ c0_1) (h : walkmillref04_Earlier.f k l0_0 l0_1 a1 = some r) :
  Calls Tryz.prog 98 #[.agg #[.slice A0_0 l0_0.length c0_0, .slice A0_1 l0_1.length c0_1], .int .i64 a1] w fun e w' => e = .returned (.int .i64 r) ∧ Below w.heap.size w w' := by
 have hu25 := Tryz.underlying25
 have HR0_0 := Aside0.mk hr0_0
 have HC0_0 := Aside0.mk hc0_0
 clear hr0_0 hc0_0
 have HR0_1 := Aside0.mk hr0_1
 have HC0_1 := Aside0.mk hc0_1
 clear hr0_1 hc0_1
 have HB := Aside0.mk (Below.refl w.heap.size w)
 have H : (walkmillref04_Earlier.l0 k a1 0 0 l0_0 l0_1) = some r := h
 clear h
 have H' := Aside0.mk H
 clear H
 go_enter Tryz.func98, Tryz.ntmps98
 go_wp2_with (first | ((with_reducible refine gate_dst (N := 2) rfl ?_); refine bx 2 #[.slice A0_0 l0_0.length c0_0, .slice A0_1 l0_1.length c0_1] 25 ?_; intro gb101 hg w3 hbox hb; have BK101 := hbox; have GW101 := gs HB hg; have GE101 := gs HB hg; replace HB := bs HB hb; clear hb hbox hg))
 repeat (go_quiet (first | ((with_reducible refine gate_dst (N := 2) rfl ?_); refine bx 2 #[.slice A0_0 l0_0.length c0_0, .slice A0_1 l0_1.length c0_1] 25 ?_; intro gb101 hg w3 hbox hb; have BK101 := hbox; have GW101 := gs HB hg; have GE101 := gs HB hg; replace HB := bs HB hb; clear hb hbox hg)); try go_wp2_with (first | ((with_reducible refine gate_dst (N := 2) rfl ?_); refine bx 2 #[.slice A0_0 l0_0.length c0_0, .slice A0_1 l0_1.length c0_1] 25 ?_; intro gb101 hg w3 hbox hb; have BK101 := hbox; have GW101 := gs HB hg; have GE101 := gs HB hg; replace HB := bs HB hb; clear hb hbox hg)))
 go_loopg [5, 6] k (fun kq v5 v6 w' => ∃ (x5_1 : Int) (x6_1 : Int), v5 = .int .i64 x5_1 ∧ v6 = .int .i64 x6_1 ∧ Aside0 (walkmillref04_Earlier.l0 kq a1 x5_1 x6_1 l0_0 l0_1 = some r) ∧ Aside0 (kq ≤ k) ∧ Aside0 (w'.heap[gb101]? = some (.cells #[(.slice A0_0 l0_0.length c0_0), (.slice A0_1 l0_1.length c0_1)] 25 (0, 0))) ∧ Aside0 (Below w.heap.size w w'))
 case atStart => exact ⟨(0), (0), (by first | rfl | (simp; done) | (simp [*]; done)), (by first | rfl | (simp; done) | (simp [*]; done)), H', ⟨Nat.le_refl _⟩, ⟨pB BK101.out⟩, ⟨pE HB⟩⟩
 case round =>
  clear H'
  try clear p2
  obtain ⟨x5_1, x6_1, rfl, rfl, HA, HK1, BK101, HB⟩ := hrel
  cases gk with
  | zero => exact absurd HA.out (by simp [walkmillref04_Earlier.l0])
  | succ k1 =>
   have H := HA.out
   clear HA
   simp only [walkmillref04_Earlier.l0] at H
   by_cases c4 : x6_1 < a1
   ·rw [if_pos c4] at H
    have c4b0 : decide (x6_1 < a1) = true := decide_eq_true c4
    clear c4
    have HC5 := Aside0.mk H
    clear H
    go_upto_region 5 with (fail)
    repeat (go_quiet (fail); go_upto_region 5 with (fail))
    go_cut [39] (fun v39 wc => ∃ (kq : Nat) (x39_4 : Bool), v39 = .bool x39_4 ∧ Aside0 (walkmillref04_Earlier.j1 kq a1 x5_1 x6_1 x39_4 l0_0 l0_1 = some r) ∧ Aside0 (kq ≤ k1) ∧ Aside0 (wc.heap[gb101]? = some (.cells #[(.slice A0_0 l0_0.length c0_0), (.slice A0_1 l0_1.length c0_1)] 25 (0, 0))) ∧ Aside0 (Below w.heap.size w wc))
    case first =>
     have H := HC5.out
     clear HC5
     by_cases c6 : 0 ≤ x6_1
     ·rw [if_pos c6] at H
      have c6b0 : decide (0 ≤ x6_1) = true := decide_eq_true c6
      clear c6
      (first | rw [c6b0] | (simp only [i64_w, i32_w]; rw [c6b0]) | skip)
      by_cases c7 : x6_1 < (l0_0.length : Int)
      ·rw [if_pos c7] at H
       have c7b0 : decide (x6_1 < (l0_0.length : Int)) = true := decide_eq_true c7
       clear c7
       by_cases c8 : 0 ≤ a1
       ·rw [if_pos c8] at H
        have c8b0 : decide (0 ≤ a1) = true := decide_eq_true c8
        clear c8
        by_cases c9 : a1 < (l0_0.length : Int)
        ·rw [if_pos c9] at H
         have c9b0 : decide (a1 < (l0_0.length : Int)) = true := decide_eq_true c9
         clear c9
         by_cases c10 : ((rd_T67 l0_0 x6_1).f0) = ((rd_T67 l0_0 a1).f0)
         ·rw [if_pos c10] at H
          have c10b0 : (((rd_T67 l0_0 x6_1).f0) == ((rd_T67 l0_0 a1).f0)) = true := beq_iff_eq.mpr c10
          have c10b1 : (((rd_T67 l0_0 x6_1).f0) != ((rd_T67 l0_0 a1).f0)) = false := bne_eq_false_iff_eq.mpr c10
          clear c10
          have H' := Aside0.mk H
          clear H
          obtain ⟨hcz11_0, hcz11_1, hfz11_0, hfz11_1⟩ := cf2 BK101
          have p102 : 0 ≤ (x6_1 : Int) := dT
          have q102 : x6_1 < (l0_0.length : Int) := dT
          obtain ⟨ad102, e102, hx102_0, hx102_1, hx102_2, hx102_3⟩ := at_T67 HR0_0.out x6_1 p102 q102
          cases e102
          replace hx102_0 := cut_ HB hx102_0
          replace hx102_1 := cut_ HB hx102_1
          replace hx102_2 := cut_ HB hx102_2
          replace hx102_3 := cut_ HB hx102_3
          replace p102 := eq_true p102
          replace q102 := eq_true q102
          have p103 : 0 ≤ (a1 : Int) := dT
          have q103 : a1 < (l0_0.length : Int) := dT
          obtain ⟨ad103, e103, hx103_0, hx103_1, hx103_2, hx103_3⟩ := at_T67 HR0_0.out a1 p103 q103
          obtain rfl : ad102 = ad103 := (by injection e103)
          replace hx103_0 := cut_ HB hx103_0
          replace hx103_1 := cut_ HB hx103_1
          replace hx103_2 := cut_ HB hx103_2
          replace hx103_3 := cut_ HB hx103_3
          replace p103 := eq_true p103
          replace q103 := eq_true q103
          have p104 : 0 ≤ (x6_1 : Int) := dT
          have q104 : x6_1 < (l0_0.length : Int) := dT
          obtain ⟨ad104, e104, hx104_0, hx104_1, hx104_2, hx104_3⟩ := at_T67 HR0_0.out x6_1 p104 q104
          obtain rfl : ad102 = ad104 := (by injection e104)
          replace hx104_0 := cut_ HB hx104_0
          replace hx104_1 := cut_ HB hx104_1
          replace hx104_2 := cut_ HB hx104_2
          replace hx104_3 := cut_ HB hx104_3
          replace p104 := eq_true p104
          replace q104 := eq_true q104
          have p105 : 0 ≤ (a1 : Int) := dT
          have q105 : a1 < (l0_0.length : Int) := dT
          obtain ⟨ad105, e105, hx105_0, hx105_1, hx105_2, hx105_3⟩ := at_T67 HR0_0.out a1 p105 q105
          obtain rfl : ad102 = ad105 := (by injection e105)
          replace hx105_0 := cut_ HB hx105_0
          replace hx105_1 := cut_ HB hx105_1
          replace hx105_2 := cut_ HB hx105_2
          replace hx105_3 := cut_ HB hx105_3
          replace p105 := eq_true p105
          replace q105 := eq_true q105
          go_wp2
          repeat (go_quiet (fail); try go_wp2)
          go_meet
          case rel => exact ⟨_, ((((rd_T67 l0_0 x6_1).f1) == ((rd_T67 l0_0 a1).f1))), (by first | rfl | (simp; done) | (simp [*]; done)), H', ⟨by have := HK1.out; first | omega | exact Nat.le_refl _⟩, ⟨pB BK101.out⟩, ⟨pE HB⟩⟩
         ·rw [if_neg c10] at H
          have c10b0 : (((rd_T67 l0_0 x6_1).f0) == ((rd_T67 l0_0 a1).f0)) = false := beq_eq_false_iff_ne.mpr c10
          have c10b1 : (((rd_T67 l0_0 x6_1).f0) != ((rd_T67 l0_0 a1).f0)) = true := bne_iff_ne.mpr c10
          have H' := Aside0.mk H
          clear H
          obtain ⟨hcz12_0, hcz12_1, hfz12_0, hfz12_1⟩ := cf2 BK101
          have p102 : 0 ≤ (x6_1 : Int) := dT
          have q102 : x6_1 < (l0_0.length : Int) := dT
          obtain ⟨ad102, e102, hx102_0, hx102_1, hx102_2, hx102_3⟩ := at_T67 HR0_0.out x6_1 p102 q102
          cases e102
          replace hx102_0 := cut_ HB hx102_0
          replace hx102_1 := cut_ HB hx102_1
          replace hx102_2 := cut_ HB hx102_2
          replace hx102_3 := cut_ HB hx102_3
          replace p102 := eq_true p102
          replace q102 := eq_true q102
          have p103 : 0 ≤ (a1 : Int) := dT
          have q103 : a1 < (l0_0.length : Int) := dT
          obtain ⟨ad103, e103, hx103_0, hx103_1, hx103_2, hx103_3⟩ := at_T67 HR0_0.out a1 p103 q103
          obtain rfl : ad102 = ad103 := (by injection e103)
          replace hx103_0 := cut_ HB hx103_0
          replace hx103_1 := cut_ HB hx103_1
          replace hx103_2 := cut_ HB hx103_2
          replace hx103_3 := cut_ HB hx103_3
          replace p103 := eq_true p103
          replace q103 := eq_true q103
          go_wp2
          repeat (go_quiet (fail); try go_wp2)
          go_meet
          case rel => exact ⟨_, (false), (by first | rfl | (simp; done) | (simp [*]; done)), H', ⟨by have := HK1.out; first | omega | exact Nat.le_refl _⟩, ⟨pB BK101.out⟩, ⟨pE HB⟩⟩
        ·rw [if_neg c9] at H
         exact absurd H (by simp)
       ·rw [if_neg c8] at H
        exact absurd H (by simp)
      ·rw [if_neg c7] at H
       exact absurd H (by simp)
     ·rw [if_neg c6] at H
      exact absurd H (by simp)
    case rest =>
     clear HC5
     try clear c1
     try clear p1
     try clear q1
     try clear hx1
     try clear p2
     try clear c4
     try clear c4b0
     try clear c6
     try clear c6b0
     try clear c7
     try clear c7b0
     try clear c8
     try clear c8b0
     try clear c9
     try clear c9b0
     try clear c10
     try clear c10b0
     try clear c10b1
     try clear p10
     try clear q10
     try clear hx10
     try clear hcz11_0
     try clear hcz11_1
     try clear hcz12_0
     try clear hcz12_1
     try clear hfz11_0
     try clear hfz11_1
     try clear hfz12_0
     try clear hfz12_1
     try clear hx102_0
     try clear hx102_1
     try clear hx102_2
     try clear hx102_3
     try clear hx103_0
     try clear hx103_1
     try clear hx103_2
     try clear hx103_3
     try clear hx104_0
     try clear hx104_1
     try clear hx104_2
     try clear hx104_3
     try clear hx105_0
     try clear hx105_1
     try clear hx105_2
     try clear hx105_3
     try clear p102
     try clear p103
     try clear p104
     try clear p105
     try clear p2
     try clear q102
     try clear q103
     try clear q104
     try clear q105
     obtain ⟨kq, x39_4, rfl, HA, HJ4, BK101, HB⟩ := hcut
     cases kq with
     | zero => exact absurd HA.out (by simp [walkmillref04_Earlier.j1])
     | succ kj4 =>
      have H := HA.out
      clear HA
      simp only [walkmillref04_Earlier.j1] at H
      by_cases c13 : x39_4 = true
      ·subst c13
       rw [if_pos rfl] at H
       have H' := Aside0.mk H
       clear H
       go_wp2
       repeat (go_quiet (fail); try go_wp2)
       go_roundg kj4
       case measure => have := HK1.out; have := HJ4.out; omega
       case rel => exact ⟨(wrap64 (x5_1 + 1)), (wrap64 (x6_1 + 1)), (by first | rfl | (simp; done) | (simp [*]; done)), (by first | rfl | (simp; done) | (simp [*]; done)), H', ⟨by have := HK1.out; have := HJ4.out; omega⟩, ⟨pB BK101.out⟩, ⟨pE HB⟩⟩
      ·replace c13 := Bool.eq_false_iff.mpr c13
       subst c13
       rw [if_neg (show ¬ (false = true) by decide)] at H
       have H' := Aside0.mk H
       clear H
       go_wp2
       repeat (go_quiet (fail); try go_wp2)
       go_roundg kj4
       case measure => have := HK1.out; have := HJ4.out; omega
       case rel => exact ⟨(x5_1), (wrap64 (x6_1 + 1)), (by first | rfl | (simp; done) | (simp [*]; done)), (by first | rfl | (simp; done) | (simp [*]; done)), H', ⟨by have := HK1.out; have := HJ4.out; omega⟩, ⟨pB BK101.out⟩, ⟨pE HB⟩⟩
   ·rw [if_neg c4] at H
    have c4b0 : decide (x6_1 < a1) = false := decide_eq_false c4
    clear c4
    obtain rfl := Option.some.inj H
    go_wp2
    repeat (go_quiet (fail); try go_wp2)
    go_ret
    exact ⟨eT, pE HB⟩
def walkmillref04_Before.f (k : Nat) (l0_0 : List (S67)) (l0_1 : List Int) (a1 : Int) (a2 : Int) : Option (Bool) := if 0 ≤ a1 then (if a1 < (l0_0.length : Int) then (if 0 ≤ a2 then (if a2 < (l0_0.length : Int) then (if ((rd_T67 l0_0 a1).f1) = ((rd_T67 l0_0 a2).f1) then ((walkmillref04_Earlier.f k l0_0 l0_1 a1).bind fun t106 => ((walkmillref04_Earlier.f k l0_0 l0_1 a2).bind fun t107 => (if t106 = t107 then (if 0 ≤ ((rd_T67 l0_0 a1).f0) then (if ((rd_T67 l0_0 a1).f0) < (l0_1.length : Int) then (if 0 ≤ ((rd_T67 l0_0 a2).f0) then (if ((rd_T67 l0_0 a2).f0) < (l0_1.length : Int) then (some (decide ((rd l0_1 ((rd_T67 l0_0 a1).f0)) < (rd l0_1 ((rd_T67 l0_0 a2).f0))))) else (none)) else (none)) else (none)) else (none)) else (some (decide (t106 < t107)))))) else (some (decide (((rd_T67 l0_0 a1).f1) < ((rd_T67 l0_0 a2).f1))))) else (none)) else (none)) else (none)) else (none)
theorem walkmillref04_Before.mono : ∀ a0 a1 a2 a3 k, LeO (walkmillref04_Before.f k a0 a1 a2 a3) (walkmillref04_Before.f (k + 1) a0 a1 a2 a3) := by
 intro a0 a1 a2 a3 k
 unfold walkmillref04_Before.f
 repeat' first
   | (with_reducible exact walkmillref04_Earlier.mono _ _ _ _)
   | (with_reducible exact LeO.refl _)
   | (with_reducible exact LeO.none _)
   | (with_reducible refine LeO.ite ?_ ?_)
   | (with_reducible refine LeO.bind ?_ (fun _ => ?_))
   | exact walkmillref04_Earlier.mono _ _ _ _
   | exact LeO.none _
   | refine LeO.ite ?_ ?_
   | refine LeO.bind ?_ (fun _ => ?_)
def walkmillref04_Before.T1 : Bool × List (List Nat × List Nat) := (true, [([], []), ([0], [0]), ([], []), ([1, 2], [1, 2]), ([3], [3]), ([], []), ([5], [5]), ([], []), ([6, 7], [6, 7]), ([8], [8]), ([], []), ([], []), ([10, 4, 0, 1, 2, 3, 4, 10, 11], [4, 10]), ([11, 9, 12, 0, 1, 2, 3, 4, 5, 6, 7, 8, 9, 10, 11, 12], [9, 11])])
def walkmillref04_Before.B1 : List Nat := [0, 1, 0, 7, 15, 0, 32, 0, 224, 480, 0, 0, 3103, 8191]
theorem walkmillref04_Before.tab1 : rtab .any (opsOf Tryz.f64 1) = walkmillref04_Before.T1 := by kernel_rfl
theorem walkmillref04_Before.bits1 : waitsOk walkmillref04_Before.T1.2 walkmillref04_Before.B1 = true := by kernel_rfl
def walkmillref04_Before.T4 : Bool × List (List Nat × List Nat) := (true, [([], []), ([], []), ([0, 1], [0, 1]), ([], []), ([], []), ([3, 4, 2], [3, 4]), ([2, 5, 0, 1, 2], [2]), ([5, 6, 0, 1, 2, 3, 4, 5, 6], [5])])
def walkmillref04_Before.B4 : List Nat := [0, 0, 3, 0, 0, 31, 63, 127]
theorem walkmillref04_Before.tab4 : rtab .any (opsOf Tryz.f64 4) = walkmillref04_Before.T4 := by kernel_rfl
theorem walkmillref04_Before.bits4 : waitsOk walkmillref04_Before.T4.2 walkmillref04_Before.B4 = true := by kernel_rfl
def walkmillref04_Before.T7 : Bool × List (List Nat × List Nat) := (true, [([], []), ([0], [0]), ([], []), ([2], [2]), ([1, 3], [1, 3]), ([4], [4]), ([], []), ([6], [6]), ([], []), ([8], [8]), ([7, 9], [7, 9]), ([10], [10]), ([5, 11], [5, 11]), ([12, 0, 1, 2, 3, 4, 5, 6, 7, 8, 9, 10, 11, 12], [12])])
def walkmillref04_Before.B7 : List Nat := [0, 1, 0, 4, 15, 31, 0, 64, 0, 256, 960, 1984, 4095, 8191]
theorem walkmillref04_Before.tab7 : rtab .any (opsOf Tryz.f64 7) = walkmillref04_Before.T7 := by kernel_rfl
theorem walkmillref04_Before.bits7 : waitsOk walkmillref04_Before.T7.2 walkmillref04_Before.B7 = true := by kernel_rfl
set_option maxHeartbeats 8000000 in
set_option maxRecDepth 100000 in
theorem walkmillref04_Before.calls (k : Nat) (A0_0 : Option Addr) (c0_0 : Nat) (l0_0 : List (S67)) (A0_1 : Option Addr) (c0_1 : Nat) (l0_1 : List Int) (a1 : Int) (a2 : Int) (r : Bool) (w : World) (hr0_0 : Kd.C k67 w A0_0 l0_0.length l0_0) (hc0_0 : l0_0.length ≤ c0_0) (hr0_1 : Kd.C (Kd.int .i64) w A0_1 l0_1.length l0_1) (hc0_1 : l0_1.length ≤ c0_1) (h : walkmillref04_Before.f k l0_0 l0_1 a1 a2 = some r) :
  Calls Tryz.prog 64 #[.agg #[.slice A0_0 l0_0.length c0_0, .slice A0_1 l0_1.length c0_1], .int .i64 a1, .int .i64 a2] w fun e w' => e = .returned (.bool r) ∧ Below w.heap.size w w' := by
 have hu25 := Tryz.underlying25
 have hu67 := Tryz.underlying67
 have HR0_0 := Aside0.mk hr0_0
 have HC0_0 := Aside0.mk hc0_0
 clear hr0_0 hc0_0
 have HR0_1 := Aside0.mk hr0_1
 have HC0_1 := Aside0.mk hc0_1
 clear hr0_1 hc0_1
 have HB := Aside0.mk (Below.refl w.heap.size w)
 have H : (if 0 ≤ a1 then (if a1 < (l0_0.length : Int) then (if 0 ≤ a2 then (if a2 < (l0_0.length : Int) then (if ((rd_T67 l0_0 a1).f1) = ((rd_T67 l0_0 a2).f1) then ((walkmillref04_Earlier.f k l0_0 l0_1 a1).bind fun t106 => ((walkmillref04_Earlier.f k l0_0 l0_1 a2).bind fun t107 => (if t106 = t107 then (if 0 ≤ ((rd_T67 l0_0 a1).f0) then (if ((rd_T67 l0_0 a1).f0) < (l0_1.length : Int) then (if 0 ≤ ((rd_T67 l0_0 a2).f0) then (if ((rd_T67 l0_0 a2).f0) < (l0_1.length : Int) then (some (decide ((rd l0_1 ((rd_T67 l0_0 a1).f0)) < (rd l0_1 ((rd_T67 l0_0 a2).f0))))) else (none)) else (none)) else (none)) else (none)) else (some (decide (t106 < t107)))))) else (some (decide (((rd_T67 l0_0 a1).f1) < ((rd_T67 l0_0 a2).f1))))) else (none)) else (none)) else (none)) else (none)) = some r := h
 clear h
 by_cases c4 : 0 ≤ a1
 ·
  rw [if_pos c4] at H
  have c4b0 : decide (0 ≤ a1) = true := decide_eq_true c4
  clear c4
  by_cases c5 : a1 < (l0_0.length : Int)
  ·
   rw [if_pos c5] at H
   have c5b0 : decide (a1 < (l0_0.length : Int)) = true := decide_eq_true c5
   clear c5
   by_cases c6 : 0 ≤ a2
   ·
    rw [if_pos c6] at H
    have c6b0 : decide (0 ≤ a2) = true := decide_eq_true c6
    clear c6
    by_cases c7 : a2 < (l0_0.length : Int)
    ·
     rw [if_pos c7] at H
     have c7b0 : decide (a2 < (l0_0.length : Int)) = true := decide_eq_true c7
     clear c7
     have HH_ := Aside0.mk H
     clear H
     go_enter Tryz.func64, Tryz.ntmps64
     try go_wp2_with (first | ((with_reducible refine gate_dst (N := 3) rfl ?_); refine bx 3 #[.slice A0_0 l0_0.length c0_0, .slice A0_1 l0_1.length c0_1] 25 ?_; intro gb101 hg w16 hbox hb; have BK101 := hbox; have GW101 := gs HB hg; have GE101 := gs HB hg; replace HB := bs HB hb; clear hb hbox hg))
     replace BK101 := Aside0.mk (blk_drew BK101.out)
     replace HB := Aside0.mk (below_drew1 HB.out)
     have p102 : 0 ≤ (a1 : Int) := dT
     have q102 : a1 < (l0_0.length : Int) := dT
     obtain ⟨ad102, e102, hx102_0, hx102_1, hx102_2, hx102_3⟩ := at_T67 HR0_0.out a1 p102 q102
     have hw102_3 := hx102_3
     have hw102_2 := hx102_2
     have hw102_1 := hx102_1
     have hw102_0 := hx102_0
     cases e102
     replace hx102_0 := cut_ HB hx102_0
     replace hx102_1 := cut_ HB hx102_1
     replace hx102_2 := cut_ HB hx102_2
     replace hx102_3 := cut_ HB hx102_3
     replace p102 := eq_true p102
     replace q102 := eq_true q102
     have p103 : 0 ≤ (a2 : Int) := dT
     have q103 : a2 < (l0_0.length : Int) := dT
     obtain ⟨ad103, e103, hx103_0, hx103_1, hx103_2, hx103_3⟩ := at_T67 HR0_0.out a2 p103 q103
     have hw103_3 := hx103_3
     have hw103_2 := hx103_2
     have hw103_1 := hx103_1
     have hw103_0 := hx103_0
     obtain rfl : ad102 = ad103 := (by injection e103)
     replace hx103_0 := cut_ HB hx103_0
     replace hx103_1 := cut_ HB hx103_1
     replace hx103_2 := cut_ HB hx103_2
     replace hx103_3 := cut_ HB hx103_3
     replace p103 := eq_true p103
     replace q103 := eq_true q103
     refine start_ (n := 14) (S := fun w' => w'.cell? ⟨gb101, 0, none⟩ = some (.slice (some ad102) l0_0.length c0_0) ∧ w'.cell? ⟨gb101, 1, none⟩ = some (.slice A0_1 l0_1.length c0_1) ∧ w'.cell? (ad102.add ((a1).toNat * 4)) = some (.int .i64 ((rd_T67 l0_0 a1).f0)) ∧ w'.cell? ⟨(ad102.add ((a1).toNat * 4)).block, (ad102.add ((a1).toNat * 4)).off + 1, none⟩ = some (.int .i64 ((rd_T67 l0_0 a1).f1)) ∧ w'.cell? ⟨(ad102.add ((a1).toNat * 4)).block, (ad102.add ((a1).toNat * 4)).off + 2, none⟩ = some (.int .i64 ((rd_T67 l0_0 a1).f2.f0)) ∧ w'.cell? ⟨(ad102.add ((a1).toNat * 4)).block, (ad102.add ((a1).toNat * 4)).off + 3, none⟩ = some (.int .i64 ((rd_T67 l0_0 a1).f2.f1)) ∧ w'.cell? (ad102.add ((a2).toNat * 4)) = some (.int .i64 ((rd_T67 l0_0 a2).f0)) ∧ w'.cell? ⟨(ad102.add ((a2).toNat * 4)).block, (ad102.add ((a2).toNat * 4)).off + 1, none⟩ = some (.int .i64 ((rd_T67 l0_0 a2).f1)) ∧ w'.cell? ⟨(ad102.add ((a2).toNat * 4)).block, (ad102.add ((a2).toNat * 4)).off + 2, none⟩ = some (.int .i64 ((rd_T67 l0_0 a2).f2.f0)) ∧ w'.cell? ⟨(ad102.add ((a2).toNat * 4)).block, (ad102.add ((a2).toNat * 4)).off + 3, none⟩ = some (.int .i64 ((rd_T67 l0_0 a2).f2.f1))) (ds := []) #[false, false, false, false, false, false, false, false, false, false, false, false, false, false] (by kernel_rfl) rfl rfl ⟨(blk_cell BK101.out 0).trans rfl, (blk_cell BK101.out 1).trans rfl, (cB HB hw102_0), (cB HB hw102_1), (cB HB hw102_2), (cB HB hw102_3), (cB HB hw103_0), (cB HB hw103_1), (cB HB hw103_2), (cB HB hw103_3)⟩ (fun hHeld => ?_); refine with_tabW walkmillref04_Before.tab1 walkmillref04_Before.bits1 (fun HT_ HW_ => ?_)
     generalize w16.drew = w17 at BK101 HB hx102_0 hx102_1 hx102_2 hx102_3 hx103_0 hx103_1 hx103_2 hx103_3 hHeld ⊢
     refine pu 0 11 ?_
     refine pu 2 13 ?_
     refine pu 5 16 ?_
     refine pu 7 18 ?_
     refine tk 1 12 hHeld ?_
     refine pu 3 14 ?_
     refine tk 4 15 hHeld ?_
     refine tk 6 17 hHeld ?_
     refine pu 8 19 ?_
     refine tk 9 20 hHeld ?_
     refine join_ (σ := Nat × Nat) 2 #[true, true, true, true, true, true, true, true, true, true, true, true, false, false] (fun s_ => [(7, .pointer (some ⟨s_.1, 0, none⟩)), (8, .pointer (some ⟨s_.2, 0, none⟩))]) (fun s_ w' => (w'.cell? ⟨gb101, 0, none⟩ = some (.slice (some ad102) l0_0.length c0_0) ∧ w'.cell? ⟨gb101, 1, none⟩ = some (.slice A0_1 l0_1.length c0_1) ∧ w'.cell? (ad102.add ((a1).toNat * 4)) = some (.int .i64 ((rd_T67 l0_0 a1).f0)) ∧ w'.cell? ⟨(ad102.add ((a1).toNat * 4)).block, (ad102.add ((a1).toNat * 4)).off + 1, none⟩ = some (.int .i64 ((rd_T67 l0_0 a1).f1)) ∧ w'.cell? ⟨(ad102.add ((a1).toNat * 4)).block, (ad102.add ((a1).toNat * 4)).off + 2, none⟩ = some (.int .i64 ((rd_T67 l0_0 a1).f2.f0)) ∧ w'.cell? ⟨(ad102.add ((a1).toNat * 4)).block, (ad102.add ((a1).toNat * 4)).off + 3, none⟩ = some (.int .i64 ((rd_T67 l0_0 a1).f2.f1)) ∧ w'.cell? (ad102.add ((a2).toNat * 4)) = some (.int .i64 ((rd_T67 l0_0 a2).f0)) ∧ w'.cell? ⟨(ad102.add ((a2).toNat * 4)).block, (ad102.add ((a2).toNat * 4)).off + 1, none⟩ = some (.int .i64 ((rd_T67 l0_0 a2).f1)) ∧ w'.cell? ⟨(ad102.add ((a2).toNat * 4)).block, (ad102.add ((a2).toNat * 4)).off + 2, none⟩ = some (.int .i64 ((rd_T67 l0_0 a2).f2.f0)) ∧ w'.cell? ⟨(ad102.add ((a2).toNat * 4)).block, (ad102.add ((a2).toNat * 4)).off + 3, none⟩ = some (.int .i64 ((rd_T67 l0_0 a2).f2.f1))) ∧ (w'.heap[gb101]? = some (.cells #[.slice (some ad102) l0_0.length c0_0, .slice A0_1 l0_1.length c0_1] 25 (0, 0))) ∧ (w'.heap[s_.1]? = some (.cells #[.int .i64 0, .int .i64 0, .int .i64 0, .int .i64 0] 67 (0, 0))) ∧ (w'.heap[s_.2]? = some (.cells #[.int .i64 0, .int .i64 0, .int .i64 0, .int .i64 0] 67 (0, 0))) ∧ (w.heap.size ≤ s_.1) ∧ (w.heap.size ≤ s_.1) ∧ (gb101 ≠ s_.1) ∧ (s_.1 ≠ gb101) ∧ (s_.2 ≠ s_.1) ∧ (s_.1 ≠ s_.2) ∧ (w.heap.size ≤ s_.2) ∧ (w.heap.size ≤ s_.2) ∧ (gb101 ≠ s_.2) ∧ (s_.2 ≠ gb101) ∧ (Below w.heap.size w w')) ?_ ?_
     rotate_left
     ·
      intro hCont
      refine two_ (i := 10) (j := 11) (Ni := some 7) (Nj := some 8) #[true, true, true, true, true, true, true, true, true, true, true, false, false, false] #[true, true, true, true, true, true, true, true, true, true, false, true, false, false] rfl rfl rfl rfl (two_of HT_.out (by kernel_rfl)) (by decide) (by decide) (fun K hK => ?_) (fun K hK => ?_)
      ·
       skip
       refine box_step ?hg (N := 7) ?hd (cs := #[.int .i64 0, .int .i64 0, .int .i64 0, .int .i64 0]) (t := 67) ?hr ?_; (case hd => rfl); (case hg => rfl); (case hr => first | (go_simp; done) | (go_simp; rfl))
       intro gb104 hg w18 hbox hb
       have BK104 := Aside0.mk (hbox)
       have GW104 := gs HB hg
       have GE104 := gs HB hg
       replace HB := bs HB hb
       have NB101_104 := nl BK101 hg
       have NB104_101 := nr BK101 hg
       replace BK101 := bb BK101 hb
       clear hb hbox hg
       refine hK.out _ _ ⟨(blk_cell BK101.out 0).trans rfl, (blk_cell BK101.out 1).trans rfl, (cB HB hw102_0), (cB HB hw102_1), (cB HB hw102_2), (cB HB hw102_3), (cB HB hw103_0), (cB HB hw103_1), (cB HB hw103_2), (cB HB hw103_3)⟩ (fun hHeld => ?_)
       clear hK K
       refine norm_ (a' := ?_) ?_ ?_
       rotate_left
       ·
        show Act.put _ (some 7) _ = _
        simp only [Act.put, List.setIfInBounds_toArray, List.set_cons_zero, List.set_cons_succ, i64_w, i32_w]
        rfl
       refine on 11 (fun K hK => ?_)
       refine box_step ?hg (N := 8) ?hd (cs := #[.int .i64 0, .int .i64 0, .int .i64 0, .int .i64 0]) (t := 67) ?hr ?_; (case hd => rfl); (case hg => rfl); (case hr => first | (go_simp; done) | (go_simp; rfl))
       intro gb105 hg w19 hbox hb
       have BK105 := Aside0.mk (hbox)
       have GW105 := gs HB hg
       have GE105 := gs HB hg
       replace HB := bs HB hb
       have NB101_105 := nl BK101 hg
       have NB105_101 := nr BK101 hg
       replace BK101 := bb BK101 hb
       have NB104_105 := nl BK104 hg
       have NB105_104 := nr BK104 hg
       replace BK104 := bb BK104 hb
       clear hb hbox hg
       refine hK.out _ _ ⟨(blk_cell BK101.out 0).trans rfl, (blk_cell BK101.out 1).trans rfl, (cB HB hw102_0), (cB HB hw102_1), (cB HB hw102_2), (cB HB hw102_3), (cB HB hw103_0), (cB HB hw103_1), (cB HB hw103_2), (cB HB hw103_3)⟩ (fun hHeld => ?_)
       clear hK K
       refine norm_ (a' := ?_) ?_ ?_
       rotate_left
       ·
        show Act.put _ (some 8) _ = _
        simp only [Act.put, List.setIfInBounds_toArray, List.set_cons_zero, List.set_cons_succ, i64_w, i32_w]
        rfl
       exact norm_ (by simp only [putAll, Act.put, List.setIfInBounds_toArray, List.set_cons_zero, List.set_cons_succ]) (hCont (gb104, gb105) _ ⟨hHeld, (pB BK101.out), (pB BK104.out), (pB BK105.out), GW104.out, GE104.out, NB101_104.out, NB104_101.out, NB105_104.out, NB104_105.out, GW105.out, GE105.out, NB101_105.out, NB105_101.out, (pE HB)⟩)
      ·
       skip
       refine box_step ?hg (N := 8) ?hd (cs := #[.int .i64 0, .int .i64 0, .int .i64 0, .int .i64 0]) (t := 67) ?hr ?_; (case hd => rfl); (case hg => rfl); (case hr => first | (go_simp; done) | (go_simp; rfl))
       intro gb105 hg w18 hbox hb
       have BK105 := Aside0.mk (hbox)
       have GW105 := gs HB hg
       have GE105 := gs HB hg
       replace HB := bs HB hb
       have NB101_105 := nl BK101 hg
       have NB105_101 := nr BK101 hg
       replace BK101 := bb BK101 hb
       clear hb hbox hg
       refine hK.out _ _ ⟨(blk_cell BK101.out 0).trans rfl, (blk_cell BK101.out 1).trans rfl, (cB HB hw102_0), (cB HB hw102_1), (cB HB hw102_2), (cB HB hw102_3), (cB HB hw103_0), (cB HB hw103_1), (cB HB hw103_2), (cB HB hw103_3)⟩ (fun hHeld => ?_)
       clear hK K
       refine norm_ (a' := ?_) ?_ ?_
       rotate_left
       ·
        show Act.put _ (some 8) _ = _
        simp only [Act.put, List.setIfInBounds_toArray, List.set_cons_zero, List.set_cons_succ, i64_w, i32_w]
        rfl
       refine on 10 (fun K hK => ?_)
       refine box_step ?hg (N := 7) ?hd (cs := #[.int .i64 0, .int .i64 0, .int .i64 0, .int .i64 0]) (t := 67) ?hr ?_; (case hd => rfl); (case hg => rfl); (case hr => first | (go_simp; done) | (go_simp; rfl))
       intro gb104 hg w19 hbox hb
       have BK104 := Aside0.mk (hbox)
       have GW104 := gs HB hg
       have GE104 := gs HB hg
       replace HB := bs HB hb
       have NB101_104 := nl BK101 hg
       have NB104_101 := nr BK101 hg
       replace BK101 := bb BK101 hb
       have NB105_104 := nl BK105 hg
       have NB104_105 := nr BK105 hg
       replace BK105 := bb BK105 hb
       clear hb hbox hg
       refine hK.out _ _ ⟨(blk_cell BK101.out 0).trans rfl, (blk_cell BK101.out 1).trans rfl, (cB HB hw102_0), (cB HB hw102_1), (cB HB hw102_2), (cB HB hw102_3), (cB HB hw103_0), (cB HB hw103_1), (cB HB hw103_2), (cB HB hw103_3)⟩ (fun hHeld => ?_)
       clear hK K
       refine norm_ (a' := ?_) ?_ ?_
       rotate_left
       ·
        show Act.put _ (some 7) _ = _
        simp only [Act.put, List.setIfInBounds_toArray, List.set_cons_zero, List.set_cons_succ, i64_w, i32_w]
        rfl
       exact norm_ (by simp only [putAll, Act.put, List.setIfInBounds_toArray, List.set_cons_zero, List.set_cons_succ]) (hCont (gb104, gb105) _ ⟨hHeld, (pB BK101.out), (pB BK104.out), (pB BK105.out), GW104.out, GE104.out, NB101_104.out, NB104_101.out, NB105_104.out, NB104_105.out, GW105.out, GE105.out, NB101_105.out, NB105_101.out, (pE HB)⟩)
     rintro ⟨gb104, gb105⟩ w20 ⟨hS_, h0_, h1_, h2_, h3_, h4_, h5_, h6_, h7_, h8_, h9_, h10_, h11_, h12_, h13_⟩
     have n0_ : Aside0 (w20.heap[gb101]? = some (.cells #[.slice (some ad102) l0_0.length c0_0, .slice A0_1 l0_1.length c0_1] 25 (0, 0))) := ⟨h0_⟩
     have n1_ : Aside0 (w20.heap[gb104]? = some (.cells #[.int .i64 0, .int .i64 0, .int .i64 0, .int .i64 0] 67 (0, 0))) := ⟨h1_⟩
     have n2_ : Aside0 (w20.heap[gb105]? = some (.cells #[.int .i64 0, .int .i64 0, .int .i64 0, .int .i64 0] 67 (0, 0))) := ⟨h2_⟩
     have n3_ : Aside0 (w.heap.size ≤ gb104) := ⟨h3_⟩
     have n4_ : Aside0 (w.heap.size ≤ gb104) := ⟨h4_⟩
     have n5_ : Aside0 (gb101 ≠ gb104) := ⟨h5_⟩
     have n6_ : Aside0 (gb104 ≠ gb101) := ⟨h6_⟩
     have n7_ : Aside0 (gb105 ≠ gb104) := ⟨h7_⟩
     have n8_ : Aside0 (gb104 ≠ gb105) := ⟨h8_⟩
     have n9_ : Aside0 (w.heap.size ≤ gb105) := ⟨h9_⟩
     have n10_ : Aside0 (w.heap.size ≤ gb105) := ⟨h10_⟩
     have n11_ : Aside0 (gb101 ≠ gb105) := ⟨h11_⟩
     have n12_ : Aside0 (gb105 ≠ gb101) := ⟨h12_⟩
     have n13_ : Aside0 (Below w.heap.size w w20) := ⟨h13_⟩
     clear BK101 HB h0_ h1_ h2_ h3_ h4_ h5_ h6_ h7_ h8_ h9_ h10_ h11_ h12_ h13_
     have BK101 := n0_
     have BK104 := n1_
     have BK105 := n2_
     have GW104 := n3_
     have GE104 := n4_
     have NB101_104 := n5_
     have NB104_101 := n6_
     have NB105_104 := n7_
     have NB104_105 := n8_
     have GW105 := n9_
     have GE105 := n10_
     have NB101_105 := n11_
     have NB105_101 := n12_
     have HB := n13_
     clear n0_ n1_ n2_ n3_ n4_ n5_ n6_ n7_ n8_ n9_ n10_ n11_ n12_ n13_
     have hHeld : w20.cell? ⟨gb101, 0, none⟩ = some (.slice (some ad102) l0_0.length c0_0) ∧ w20.cell? ⟨gb101, 1, none⟩ = some (.slice A0_1 l0_1.length c0_1) ∧ w20.cell? (ad102.add ((a1).toNat * 4)) = some (.int .i64 ((rd_T67 l0_0 a1).f0)) ∧ w20.cell? ⟨(ad102.add ((a1).toNat * 4)).block, (ad102.add ((a1).toNat * 4)).off + 1, none⟩ = some (.int .i64 ((rd_T67 l0_0 a1).f1)) ∧ w20.cell? ⟨(ad102.add ((a1).toNat * 4)).block, (ad102.add ((a1).toNat * 4)).off + 2, none⟩ = some (.int .i64 ((rd_T67 l0_0 a1).f2.f0)) ∧ w20.cell? ⟨(ad102.add ((a1).toNat * 4)).block, (ad102.add ((a1).toNat * 4)).off + 3, none⟩ = some (.int .i64 ((rd_T67 l0_0 a1).f2.f1)) ∧ w20.cell? (ad102.add ((a2).toNat * 4)) = some (.int .i64 ((rd_T67 l0_0 a2).f0)) ∧ w20.cell? ⟨(ad102.add ((a2).toNat * 4)).block, (ad102.add ((a2).toNat * 4)).off + 1, none⟩ = some (.int .i64 ((rd_T67 l0_0 a2).f1)) ∧ w20.cell? ⟨(ad102.add ((a2).toNat * 4)).block, (ad102.add ((a2).toNat * 4)).off + 2, none⟩ = some (.int .i64 ((rd_T67 l0_0 a2).f2.f0)) ∧ w20.cell? ⟨(ad102.add ((a2).toNat * 4)).block, (ad102.add ((a2).toNat * 4)).off + 3, none⟩ = some (.int .i64 ((rd_T67 l0_0 a2).f2.f1)) := hS_
     refine norm_ (a' := ?_) ?_ ?_
     rotate_left
     ·
      simp only [putAll, Act.put, List.setIfInBounds_toArray, List.set_cons_zero, List.set_cons_succ]
      rfl
     refine on 12 (fun K hK => ?_)
     have hs21 : w20.cell? ⟨gb104, 0, none⟩ = some (.int .i64 0) := (blk_cell BK104.out 0).trans rfl
     have hfs21 := blk_frozen BK104.out 0
     have hns21_0 := NB101_104.out
     have hns21_2 := NB105_104.out
     have hms21_0 := NB104_101.out
     have hms21_2 := NB104_105.out
     have hs22 : w20.cell? ⟨gb104, 1, none⟩ = some (.int .i64 0) := (blk_cell BK104.out 1).trans rfl
     have hfs22 := blk_frozen BK104.out 1
     have hns22_0 := NB101_104.out
     have hns22_2 := NB105_104.out
     have hms22_0 := NB104_101.out
     have hms22_2 := NB104_105.out
     have hs23 : w20.cell? ⟨gb104, 2, none⟩ = some (.int .i64 0) := (blk_cell BK104.out 2).trans rfl
     have hfs23 := blk_frozen BK104.out 2
     have hns23_0 := NB101_104.out
     have hns23_2 := NB105_104.out
     have hms23_0 := NB104_101.out
     have hms23_2 := NB104_105.out
     have hs24 : w20.cell? ⟨gb104, 3, none⟩ = some (.int .i64 0) := (blk_cell BK104.out 3).trans rfl
     have hfs24 := blk_frozen BK104.out 3
     have hns24_0 := NB101_104.out
     have hns24_2 := NB105_104.out
     have hms24_0 := NB104_101.out
     have hms24_2 := NB104_105.out
     refine skip_ (w1 := ?_) (by rfl) rfl ?_ ?_
     rotate_left
     ·
      go_simp
      rfl
     refine hK.out _ _ ⟨(cq NB101_104.out hHeld.1), (cq NB101_104.out hHeld.2.1), (cq (nF hw102_0 GW104) hHeld.2.2.1), (cq (nF hw102_1 GW104) hHeld.2.2.2.1), (cq (nF hw102_2 GW104) hHeld.2.2.2.2.1), (cq (nF hw102_3 GW104) hHeld.2.2.2.2.2.1), (cq (nF hw103_0 GW104) hHeld.2.2.2.2.2.2.1), (cq (nF hw103_1 GW104) hHeld.2.2.2.2.2.2.2.1), (cq (nF hw103_2 GW104) hHeld.2.2.2.2.2.2.2.2.1), (cq (nF hw103_3 GW104) hHeld.2.2.2.2.2.2.2.2.2)⟩ (fun hHeld => ?_)
     clear hK K
     refine on 13 (fun K hK => ?_)
     have hs25 : w20.cell? ⟨gb105, 0, none⟩ = some (.int .i64 0) := (blk_cell BK105.out 0).trans rfl
     have hfs25 := blk_frozen BK105.out 0
     have hns25_0 := NB101_105.out
     have hns25_1 := NB104_105.out
     have hms25_0 := NB105_101.out
     have hms25_1 := NB105_104.out
     have hs26 : w20.cell? ⟨gb105, 1, none⟩ = some (.int .i64 0) := (blk_cell BK105.out 1).trans rfl
     have hfs26 := blk_frozen BK105.out 1
     have hns26_0 := NB101_105.out
     have hns26_1 := NB104_105.out
     have hms26_0 := NB105_101.out
     have hms26_1 := NB105_104.out
     have hs27 : w20.cell? ⟨gb105, 2, none⟩ = some (.int .i64 0) := (blk_cell BK105.out 2).trans rfl
     have hfs27 := blk_frozen BK105.out 2
     have hns27_0 := NB101_105.out
     have hns27_1 := NB104_105.out
     have hms27_0 := NB105_101.out
     have hms27_1 := NB105_104.out
     have hs28 : w20.cell? ⟨gb105, 3, none⟩ = some (.int .i64 0) := (blk_cell BK105.out 3).trans rfl
     have hfs28 := blk_frozen BK105.out 3
     have hns28_0 := NB101_105.out
     have hns28_1 := NB104_105.out
     have hms28_0 := NB105_101.out
     have hms28_1 := NB105_104.out
     refine skip_ (w1 := ?_) (by rfl) rfl ?_ ?_
     rotate_left
     ·
      go_simp
      rfl
     refine hK.out _ _ ⟨(cq NB101_105.out hHeld.1), (cq NB101_105.out hHeld.2.1), (cq (nF hw102_0 GW105) hHeld.2.2.1), (cq (nF hw102_1 GW105) hHeld.2.2.2.1), (cq (nF hw102_2 GW105) hHeld.2.2.2.2.1), (cq (nF hw102_3 GW105) hHeld.2.2.2.2.2.1), (cq (nF hw103_0 GW105) hHeld.2.2.2.2.2.2.1), (cq (nF hw103_1 GW105) hHeld.2.2.2.2.2.2.2.1), (cq (nF hw103_2 GW105) hHeld.2.2.2.2.2.2.2.2.1), (cq (nF hw103_3 GW105) hHeld.2.2.2.2.2.2.2.2.2)⟩ (fun hHeld => ?_)
     clear hK K
     refine done_ (done_of HT_.out (by kernel_rfl)) ?_
     have hnb29 := NB104_101.out
     have hnc29 := NB101_104.out
     have hnb30 := NB104_105.out
     have hnc30 := NB105_104.out
     obtain ⟨_, _, _, _, _, _, _, _⟩ := cf4 BK104
     have hnb32 := NB105_101.out
     have hnc32 := NB101_105.out
     obtain ⟨_, _, _, _, _, _, _, _⟩ := cf4 BK105
     have H := HH_.out
     clear HH_
     by_cases c8 : ((rd_T67 l0_0 a1).f1) = ((rd_T67 l0_0 a2).f1)
     ·
      rw [if_pos c8] at H
      have c8b0 : (((rd_T67 l0_0 a1).f1) == ((rd_T67 l0_0 a2).f1)) = true := beq_iff_eq.mpr c8
      have c8b1 : (((rd_T67 l0_0 a1).f1) != ((rd_T67 l0_0 a2).f1)) = false := bne_eq_false_iff_eq.mpr c8
      clear c8
      obtain ⟨t106, A9, H⟩ := bi H
      obtain ⟨t107, A10, H⟩ := bi H
      have HH_ := Aside0.mk H
      clear H
      try go_wp2
      have n0_ : Aside0 (((((((((w20.setCell ⟨gb104, 0, none⟩ (.int .i64 ((rd_T67 l0_0 a1).f0))).setCell ⟨gb104, 1, none⟩ (.int .i64 ((rd_T67 l0_0 a1).f1))).setCell ⟨gb104, 2, none⟩ (.int .i64 ((rd_T67 l0_0 a1).f2.f0))).setCell ⟨gb104, 3, none⟩ (.int .i64 ((rd_T67 l0_0 a1).f2.f1))).setCell ⟨gb105, 0, none⟩ (.int .i64 ((rd_T67 l0_0 a2).f0))).setCell ⟨gb105, 1, none⟩ (.int .i64 ((rd_T67 l0_0 a2).f1))).setCell ⟨gb105, 2, none⟩ (.int .i64 ((rd_T67 l0_0 a2).f2.f0))).setCell ⟨gb105, 3, none⟩ (.int .i64 ((rd_T67 l0_0 a2).f2.f1))).heap[gb101]? = some (.cells #[.slice (some ad102) l0_0.length c0_0, .slice A0_1 l0_1.length c0_1] 25 (0, 0))) := ⟨pF BK101⟩
      have n1_ : Aside0 (((((((((w20.setCell ⟨gb104, 0, none⟩ (.int .i64 ((rd_T67 l0_0 a1).f0))).setCell ⟨gb104, 1, none⟩ (.int .i64 ((rd_T67 l0_0 a1).f1))).setCell ⟨gb104, 2, none⟩ (.int .i64 ((rd_T67 l0_0 a1).f2.f0))).setCell ⟨gb104, 3, none⟩ (.int .i64 ((rd_T67 l0_0 a1).f2.f1))).setCell ⟨gb105, 0, none⟩ (.int .i64 ((rd_T67 l0_0 a2).f0))).setCell ⟨gb105, 1, none⟩ (.int .i64 ((rd_T67 l0_0 a2).f1))).setCell ⟨gb105, 2, none⟩ (.int .i64 ((rd_T67 l0_0 a2).f2.f0))).setCell ⟨gb105, 3, none⟩ (.int .i64 ((rd_T67 l0_0 a2).f2.f1))).heap[gb104]? = some (.cells #[.int .i64 ((rd_T67 l0_0 a1).f0), .int .i64 ((rd_T67 l0_0 a1).f1), .int .i64 ((rd_T67 l0_0 a1).f2.f0), .int .i64 ((rd_T67 l0_0 a1).f2.f1)] 67 (0, 0))) := ⟨by refine pB ?_; refine blk_far ?_ NB104_105.out _; refine pB ?_; refine blk_far ?_ NB104_105.out _; refine pB ?_; refine blk_far ?_ NB104_105.out _; refine pB ?_; refine blk_far ?_ NB104_105.out _; refine pB ?_; refine blk_put (cs := #[.int .i64 ((rd_T67 l0_0 a1).f0), .int .i64 ((rd_T67 l0_0 a1).f1), .int .i64 ((rd_T67 l0_0 a1).f2.f0), .int .i64 0]) ?_ 3 _ rfl; refine pB ?_; refine blk_put (cs := #[.int .i64 ((rd_T67 l0_0 a1).f0), .int .i64 ((rd_T67 l0_0 a1).f1), .int .i64 0, .int .i64 0]) ?_ 2 _ rfl; refine pB ?_; refine blk_put (cs := #[.int .i64 ((rd_T67 l0_0 a1).f0), .int .i64 0, .int .i64 0, .int .i64 0]) ?_ 1 _ rfl; refine pB ?_; refine blk_put (cs := #[.int .i64 0, .int .i64 0, .int .i64 0, .int .i64 0]) ?_ 0 _ rfl; exact pB BK104.out⟩
      have n2_ : Aside0 (((((((((w20.setCell ⟨gb104, 0, none⟩ (.int .i64 ((rd_T67 l0_0 a1).f0))).setCell ⟨gb104, 1, none⟩ (.int .i64 ((rd_T67 l0_0 a1).f1))).setCell ⟨gb104, 2, none⟩ (.int .i64 ((rd_T67 l0_0 a1).f2.f0))).setCell ⟨gb104, 3, none⟩ (.int .i64 ((rd_T67 l0_0 a1).f2.f1))).setCell ⟨gb105, 0, none⟩ (.int .i64 ((rd_T67 l0_0 a2).f0))).setCell ⟨gb105, 1, none⟩ (.int .i64 ((rd_T67 l0_0 a2).f1))).setCell ⟨gb105, 2, none⟩ (.int .i64 ((rd_T67 l0_0 a2).f2.f0))).setCell ⟨gb105, 3, none⟩ (.int .i64 ((rd_T67 l0_0 a2).f2.f1))).heap[gb105]? = some (.cells #[.int .i64 ((rd_T67 l0_0 a2).f0), .int .i64 ((rd_T67 l0_0 a2).f1), .int .i64 ((rd_T67 l0_0 a2).f2.f0), .int .i64 ((rd_T67 l0_0 a2).f2.f1)] 67 (0, 0))) := ⟨by refine pB ?_; refine blk_put (cs := #[.int .i64 ((rd_T67 l0_0 a2).f0), .int .i64 ((rd_T67 l0_0 a2).f1), .int .i64 ((rd_T67 l0_0 a2).f2.f0), .int .i64 0]) ?_ 3 _ rfl; refine pB ?_; refine blk_put (cs := #[.int .i64 ((rd_T67 l0_0 a2).f0), .int .i64 ((rd_T67 l0_0 a2).f1), .int .i64 0, .int .i64 0]) ?_ 2 _ rfl; refine pB ?_; refine blk_put (cs := #[.int .i64 ((rd_T67 l0_0 a2).f0), .int .i64 0, .int .i64 0, .int .i64 0]) ?_ 1 _ rfl; refine pB ?_; refine blk_put (cs := #[.int .i64 0, .int .i64 0, .int .i64 0, .int .i64 0]) ?_ 0 _ rfl; refine pB ?_; refine blk_far ?_ NB105_104.out _; refine pB ?_; refine blk_far ?_ NB105_104.out _; refine pB ?_; refine blk_far ?_ NB105_104.out _; refine pB ?_; refine blk_far ?_ NB105_104.out _; exact pB BK105.out⟩
      have n3_ : Aside0 (Below w.heap.size w ((((((((w20.setCell ⟨gb104, 0, none⟩ (.int .i64 ((rd_T67 l0_0 a1).f0))).setCell ⟨gb104, 1, none⟩ (.int .i64 ((rd_T67 l0_0 a1).f1))).setCell ⟨gb104, 2, none⟩ (.int .i64 ((rd_T67 l0_0 a1).f2.f0))).setCell ⟨gb104, 3, none⟩ (.int .i64 ((rd_T67 l0_0 a1).f2.f1))).setCell ⟨gb105, 0, none⟩ (.int .i64 ((rd_T67 l0_0 a2).f0))).setCell ⟨gb105, 1, none⟩ (.int .i64 ((rd_T67 l0_0 a2).f1))).setCell ⟨gb105, 2, none⟩ (.int .i64 ((rd_T67 l0_0 a2).f2.f0))).setCell ⟨gb105, 3, none⟩ (.int .i64 ((rd_T67 l0_0 a2).f2.f1)))) := ⟨pE HB⟩
      (try clear BK101)
      (try clear BK104)
      (try clear BK105)
      (try clear HB)
      generalize ((((((((w20.setCell ⟨gb104, 0, none⟩ (.int .i64 ((rd_T67 l0_0 a1).f0))).setCell ⟨gb104, 1, none⟩ (.int .i64 ((rd_T67 l0_0 a1).f1))).setCell ⟨gb104, 2, none⟩ (.int .i64 ((rd_T67 l0_0 a1).f2.f0))).setCell ⟨gb104, 3, none⟩ (.int .i64 ((rd_T67 l0_0 a1).f2.f1))).setCell ⟨gb105, 0, none⟩ (.int .i64 ((rd_T67 l0_0 a2).f0))).setCell ⟨gb105, 1, none⟩ (.int .i64 ((rd_T67 l0_0 a2).f1))).setCell ⟨gb105, 2, none⟩ (.int .i64 ((rd_T67 l0_0 a2).f2.f0))).setCell ⟨gb105, 3, none⟩ (.int .i64 ((rd_T67 l0_0 a2).f2.f1))) = w34 at n0_ n1_ n2_ n3_ ⊢
      have BK101 := n0_
      have BK104 := n1_
      have BK105 := n2_
      have HB := n3_
      clear n0_ n1_ n2_ n3_
      replace BK101 := Aside0.mk (blk_drew BK101.out)
      replace BK104 := Aside0.mk (blk_drew BK104.out)
      replace BK105 := Aside0.mk (blk_drew BK105.out)
      replace HB := Aside0.mk (below_drew1 HB.out)
      refine start_ (n := 8) (S := fun w' => w'.cell? ⟨gb101, 0, none⟩ = some (.slice (some ad102) l0_0.length c0_0) ∧ w'.cell? ⟨gb101, 1, none⟩ = some (.slice A0_1 l0_1.length c0_1)) (ds := []) #[false, false, false, false, false, false, false, false] (by kernel_rfl) rfl rfl ⟨(blk_cell BK101.out 0).trans rfl, (blk_cell BK101.out 1).trans rfl⟩ (fun hHeld => ?_); refine with_tabW walkmillref04_Before.tab4 walkmillref04_Before.bits4 (fun HT_ HW_ => ?_)
      generalize w34.drew = w35 at BK101 BK104 BK105 HB hHeld ⊢
      refine pu 1 32 ?_
      refine pu 4 35 ?_
      refine tk 0 31 hHeld ?_
      refine tk 3 34 hHeld ?_
      refine on 2 (fun K hK => ?_)
      refine gO Tryz.func98 #[.agg #[.slice (some ad102) l0_0.length c0_0, .slice A0_1 l0_1.length c0_1], .int .i64 a1] ?_
      with_reducible refine (walkmillref04_Earlier.calls k _ _ l0_0 _ _ l0_1 a1 t106 _ ?side1 ?side2 ?side3 ?side4 A9.out).mono ?_
      (case side1 => exact pC (Kd.C_below HR0_0.out HB.out))
      (case side2 => exact HC0_0.out)
      (case side3 => exact pC (Kd.C_below HR0_1.out HB.out))
      (case side4 => exact HC0_1.out)
      rintro e w36 ⟨rfl, hb⟩
      refine ⟨_, rfl, ?_⟩
      replace BK101 := bb BK101 hb
      replace BK104 := bb BK104 hb
      replace BK105 := bb BK105 hb
      replace HB := bs HB hb
      (try clear hb)
      (try clear hb2)
      (try clear hk)
      (try clear hi)
      refine hK.out _ _ ⟨(blk_cell BK101.out 0).trans rfl, (blk_cell BK101.out 1).trans rfl⟩ (fun hHeld => ?_)
      clear hK K
      refine norm_ (a' := ?_) ?_ ?_
      rotate_left
      ·
       show Act.put _ (some 33) _ = _
       simp only [Act.put, List.setIfInBounds_toArray, List.set_cons_zero, List.set_cons_succ, i64_w, i32_w]
       rfl
      refine on 5 (fun K hK => ?_)
      refine gO Tryz.func98 #[.agg #[.slice (some ad102) l0_0.length c0_0, .slice A0_1 l0_1.length c0_1], .int .i64 a2] ?_
      with_reducible refine (walkmillref04_Earlier.calls k _ _ l0_0 _ _ l0_1 a2 t107 _ ?side1 ?side2 ?side3 ?side4 A10.out).mono ?_
      (case side1 => exact pC (Kd.C_below HR0_0.out HB.out))
      (case side2 => exact HC0_0.out)
      (case side3 => exact pC (Kd.C_below HR0_1.out HB.out))
      (case side4 => exact HC0_1.out)
      rintro e w37 ⟨rfl, hb⟩
      refine ⟨_, rfl, ?_⟩
      replace BK101 := bb BK101 hb
      replace BK104 := bb BK104 hb
      replace BK105 := bb BK105 hb
      replace HB := bs HB hb
      (try clear hb)
      (try clear hb2)
      (try clear hk)
      (try clear hi)
      refine hK.out _ _ ⟨(blk_cell BK101.out 0).trans rfl, (blk_cell BK101.out 1).trans rfl⟩ (fun hHeld => ?_)
      clear hK K
      refine norm_ (a' := ?_) ?_ ?_
      rotate_left
      ·
       show Act.put _ (some 36) _ = _
       simp only [Act.put, List.setIfInBounds_toArray, List.set_cons_zero, List.set_cons_succ, i64_w, i32_w]
       rfl
      refine pu 6 9 ?_
      refine pu 7 10 ?_
      refine done_ (done_of HT_.out (by kernel_rfl)) ?_
      have H := HH_.out
      clear HH_
      by_cases c11 : t106 = t107
      ·
       rw [if_pos c11] at H
       have c11b0 : (t106 == t107) = true := beq_iff_eq.mpr c11
       have c11b1 : (t106 != t107) = false := bne_eq_false_iff_eq.mpr c11
       clear c11
       by_cases c12 : 0 ≤ ((rd_T67 l0_0 a1).f0)
       ·
        rw [if_pos c12] at H
        have c12b0 : decide (0 ≤ ((rd_T67 l0_0 a1).f0)) = true := decide_eq_true c12
        clear c12
        by_cases c13 : ((rd_T67 l0_0 a1).f0) < (l0_1.length : Int)
        ·
         rw [if_pos c13] at H
         have c13b0 : decide (((rd_T67 l0_0 a1).f0) < (l0_1.length : Int)) = true := decide_eq_true c13
         clear c13
         by_cases c14 : 0 ≤ ((rd_T67 l0_0 a2).f0)
         ·
          rw [if_pos c14] at H
          have c14b0 : decide (0 ≤ ((rd_T67 l0_0 a2).f0)) = true := decide_eq_true c14
          clear c14
          by_cases c15 : ((rd_T67 l0_0 a2).f0) < (l0_1.length : Int)
          ·
           rw [if_pos c15] at H
           have c15b0 : decide (((rd_T67 l0_0 a2).f0) < (l0_1.length : Int)) = true := decide_eq_true c15
           clear c15
           obtain rfl := Option.some.inj H
           try go_wp2
           replace BK101 := Aside0.mk (blk_drew BK101.out)
           replace BK104 := Aside0.mk (blk_drew BK104.out)
           replace BK105 := Aside0.mk (blk_drew BK105.out)
           replace HB := Aside0.mk (below_drew1 HB.out)
           have p108 : 0 ≤ (((rd_T67 l0_0 a1).f0) : Int) := dT
           have q108 : ((rd_T67 l0_0 a1).f0) < (l0_1.length : Int) := dT
           obtain ⟨ad108, e108, hx108_0⟩ := Kd.at_int HR0_1.out ((rd_T67 l0_0 a1).f0) p108 q108
           have hw108_0 := hx108_0
           cases e108
           replace hx108_0 := cut_ HB hx108_0
           replace p108 := eq_true p108
           replace q108 := eq_true q108
           have p109 : 0 ≤ (((rd_T67 l0_0 a2).f0) : Int) := dT
           have q109 : ((rd_T67 l0_0 a2).f0) < (l0_1.length : Int) := dT
           obtain ⟨ad109, e109, hx109_0⟩ := Kd.at_int HR0_1.out ((rd_T67 l0_0 a2).f0) p109 q109
           have hw109_0 := hx109_0
           obtain rfl : ad108 = ad109 := (by injection e109)
           replace hx109_0 := cut_ HB hx109_0
           replace p109 := eq_true p109
           replace q109 := eq_true q109
           refine start_ (n := 14) (S := fun w' => w'.cell? ⟨gb101, 0, none⟩ = some (.slice (some ad102) l0_0.length c0_0) ∧ w'.cell? ⟨gb101, 1, none⟩ = some (.slice (some ad108) l0_1.length c0_1) ∧ w'.cell? ⟨gb104, 0, none⟩ = some (.int .i64 ((rd_T67 l0_0 a1).f0)) ∧ w'.cell? ⟨gb104, 1, none⟩ = some (.int .i64 ((rd_T67 l0_0 a1).f1)) ∧ w'.cell? ⟨gb104, 2, none⟩ = some (.int .i64 ((rd_T67 l0_0 a1).f2.f0)) ∧ w'.cell? ⟨gb104, 3, none⟩ = some (.int .i64 ((rd_T67 l0_0 a1).f2.f1)) ∧ w'.cell? ⟨gb105, 0, none⟩ = some (.int .i64 ((rd_T67 l0_0 a2).f0)) ∧ w'.cell? ⟨gb105, 1, none⟩ = some (.int .i64 ((rd_T67 l0_0 a2).f1)) ∧ w'.cell? ⟨gb105, 2, none⟩ = some (.int .i64 ((rd_T67 l0_0 a2).f2.f0)) ∧ w'.cell? ⟨gb105, 3, none⟩ = some (.int .i64 ((rd_T67 l0_0 a2).f2.f1)) ∧ w'.cell? (ad108.add (((rd_T67 l0_0 a1).f0)).toNat) = some (.int .i64 (rd l0_1 ((rd_T67 l0_0 a1).f0))) ∧ w'.cell? (ad108.add (((rd_T67 l0_0 a2).f0)).toNat) = some (.int .i64 (rd l0_1 ((rd_T67 l0_0 a2).f0)))) (ds := []) #[false, false, false, false, false, false, false, false, false, false, false, false, false, false] (by kernel_rfl) rfl rfl ⟨(blk_cell BK101.out 0).trans rfl, (blk_cell BK101.out 1).trans rfl, (blk_cell BK104.out 0).trans rfl, (blk_cell BK104.out 1).trans rfl, (blk_cell BK104.out 2).trans rfl, (blk_cell BK104.out 3).trans rfl, (blk_cell BK105.out 0).trans rfl, (blk_cell BK105.out 1).trans rfl, (blk_cell BK105.out 2).trans rfl, (blk_cell BK105.out 3).trans rfl, (cB HB hw108_0), (cB HB hw109_0)⟩ (fun hHeld => ?_); refine with_tabW walkmillref04_Before.tab7 walkmillref04_Before.bits7 (fun HT_ HW_ => ?_)
           generalize w37.drew = w38 at BK101 BK104 BK105 HB hx108_0 hx109_0 hHeld ⊢
           refine pu 0 43 ?_
           refine pu 2 45 ?_
           refine pu 6 49 ?_
           refine pu 8 51 ?_
           refine tk 1 44 hHeld ?_
           refine tk 3 46 hHeld ?_
           refine pu 4 47 ?_
           refine tk 5 48 hHeld ?_
           refine tk 7 50 hHeld ?_
           refine tk 9 52 hHeld ?_
           refine pu 10 53 ?_
           refine tk 11 54 hHeld ?_
           refine pu 12 55 ?_
           refine pu 13 6 ?_
           refine done_ (done_of HT_.out (by kernel_rfl)) ?_
           try go_wp2
           go_ret
           exact ⟨eT, pE HB⟩
          ·
           rw [if_neg c15] at H
           exact absurd H (by simp)
         ·
          rw [if_neg c14] at H
          exact absurd H (by simp)
        ·
         rw [if_neg c13] at H
         exact absurd H (by simp)
       ·
        rw [if_neg c12] at H
        exact absurd H (by simp)
      ·
       rw [if_neg c11] at H
       have c11b0 : (t106 == t107) = false := beq_eq_false_iff_ne.mpr c11
       have c11b1 : (t106 != t107) = true := bne_iff_ne.mpr c11
       obtain rfl := Option.some.inj H
       try go_wp2
       go_ret
       exact ⟨eT, pE HB⟩
     ·
      rw [if_neg c8] at H
      have c8b0 : (((rd_T67 l0_0 a1).f1) == ((rd_T67 l0_0 a2).f1)) = false := beq_eq_false_iff_ne.mpr c8
      have c8b1 : (((rd_T67 l0_0 a1).f1) != ((rd_T67 l0_0 a2).f1)) = true := bne_iff_ne.mpr c8
      obtain rfl := Option.some.inj H
      try go_wp2
      go_ret
      exact ⟨eT, pE HB⟩
    ·
     rw [if_neg c7] at H
     exact absurd H (by simp)
   ·
    rw [if_neg c6] at H
    exact absurd H (by simp)
  ·
   rw [if_neg c5] at H
   exact absurd H (by simp)
 ·
  rw [if_neg c4] at H
  exact absurd H (by simp)
end Go.Proofs.YtlmglnobdcgbeaaGreat.P
