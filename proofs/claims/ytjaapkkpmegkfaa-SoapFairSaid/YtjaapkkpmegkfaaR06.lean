/- Part 6 of what the law's proof needs: words, walks of functions and plain facts. -/
import Derived.ArgAppend
import Derived.Test.YtjaapkkpmegkfaaR02
import Derived.Test.YtjaapkkpmegkfaaR04
import Derived.Test.YtjaapkkpmegkfaaR05
set_option linter.unusedVariables false
set_option linter.unusedSimpArgs false
namespace Go.Proofs.Ytjaapkkpmegkfaa.R
open Go.RowKit Go.Shelf YtjaapkkpmegkfaaW.PrintWords YtjaapkkpmegkfaaW.PrintLast YtjaapkkpmegkfaaW.PrintMore
theorem YV {n : Nat} {P : Program} {o : Oper} {a : Act} {w : World} {next next' : Act → World → Prop} {Q : Exit → Act → World → Prop} (hn : ∀ a w, next a w → next' a w)
  (h : o.wp P a w next Q) : o.wpIn Fence.wide n P a w next' Q := by
 refine ⟨fun _ _ => trivial, ?_⟩; have e : o.semAt Fence.wide.round a.eval = execOp a.eval o := rfl; rw [e]; unfold Oper.wp at h
 revert h
 generalize (execOp a.eval o).run P w = r; intro h
 cases r with
 | ok x w =>
  cases x with
  | value v => exact hn _ _ h
  | skip => exact hn _ _ h
  | defer d => exact hn _ _ h
  | enter f args =>
   refine ⟨(fun h0 => by cases h0), callsIn_wide.2 (Calls.mono h ?_)⟩; intro e w' h'
   cases e with
   | returned v => exact hn _ _ h'
   | panicked c => exact h'
   | outgrown => exact h'
  | row r args => exact ⟨(fun h0 => by cases h0), fun c cs _ => let ⟨v, w', r', s⟩ := (Rows.mono h fun v w' h' => hn _ _ h') c cs; ⟨v, w', r', stepsIn_wide.2 s⟩⟩
  | round => exact h.elim
  | _ => exact h.elim
 | halt x w =>
  cases x with
  | panic v => exact h
  | _ => exact h.elim
def YE (F : Fence) : Prop := ∀ (n : Nat) (P : Program) (o : Oper) (a : Act) (w : World) (next next' : Act → World → Prop) (Q : Exit → Act → World → Prop), Op.noDefer o.op = true → (∀ a w, next a w → next' a w) → o.wp P a w next Q → o.wpIn F n P a w next' Q
theorem XB : YE Fence.wide := fun _ _ _ _ _ _ _ _ _ hn h => YV hn h
def X2 (o : Oper) : Oper := { o with dst := none, op := .move (.const (.bool true)), guard := none }
def Y8 (ops : Array Oper) (y : Nat) : Bool :=
 (List.range ops.size).all fun i => (i == y || Region.reachB .any ops i ops.size y) && (match ops[i]? with | some o => ((match o.guard with | some (j, _) => j != y | none => true) && (i == y || Op.noDefer o.op)) && o.after.all (fun e => decide (e.on < i)) | none => true)
theorem ZB {ops : Array Oper} {y : Nat} {listed : Array Bool} (hon : ∀ (i : Nat) (o : Oper), ops[i]? = some o → ∀ e ∈ o.after, e.on < i) (hylt : y < ops.size) (hsz : listed.size = ops.size)
  (hyl : listed.getD y true = false) (hr : Region.ready .any ops listed = []) : False := by
 have hall : ∀ i, i < ops.size → listed.getD i true = true := by
  intro i
  induction i using Nat.strongRecOn with
  | _ i ih =>
   intro hi; by_cases hl : listed.getD i true = true
   ·exact hl
   ·exfalso
    have hm : i ∈ Region.ready .any ops listed := by
     unfold Region.ready; refine List.mem_filter.2 ⟨List.mem_range.2 hi, ?_⟩; simp only [Bool.and_eq_true, Bool.not_eq_true', Bool.not_eq_true] at hl ⊢; refine ⟨hl, ?_⟩; rw [Array.getElem?_eq_getElem hi]; simp only [Option.map_some, Option.getD_some]; refine Array.all_eq_true_iff_forall_mem.2 fun e he => ?_
     have h1 := hon i ops[i] (Array.getElem?_eq_getElem hi) e he; have h2 := ih e.on h1 (by omega); have hb : e.on < listed.size := by omega
     simp only [Array.getD, hb, dif_pos] at h2 ⊢; have h3 : listed[e.on]'hb = true := h2
     simp [h3]
    rw [hr] at hm; cases hm
 rw [hall y hylt] at hyl; cases hyl
theorem Xw {F : Fence} {n : Nat} {P : Program} {o : Oper} {a : Act} {w : World} {K : Act → World → Prop} {Q Q' : Exit → Act → World → Prop} (hp : ∀ c a w, Q' (.panic c) a w → Q (.panic c) a w) (ho : ¬ LetsOut Q')
  (h : o.wpIn F n P a w K Q') : o.wpIn F n P a w K Q := by
 refine ⟨h.1, ?_⟩; have h2 := h.2
 revert h2
 generalize (o.semAt F.round a.eval).run P w = r; intro h2
 cases r with
 | ok x w =>
  cases x with
  | value v => exact h2
  | skip => exact h2
  | defer d => exact h2
  | enter f args =>
   refine ⟨h2.1, h2.2.mono ?_⟩; intro e w' h'
   cases e with
   | returned v => exact h'
   | panicked c => exact hp _ _ _ h'
   | outgrown => exact absurd h' ho
  | row r args => exact h2
  | round l f t c d =>
   refine ⟨h2.1, h2.2.mono ?_⟩; intro e w' h'
   cases e with
   | returned v => exact h'
   | panicked c => exact hp _ _ _ h'
   | outgrown => exact absurd h' ho
  | _ => exact h2.elim
 | halt x w =>
  cases x with
  | panic v => exact hp _ _ _ h2
  | _ => exact h2.elim
theorem YD {F : Fence} {n : Nat} {P : Program} {ops : Array Oper} {y : Nat} {oy : Oper} {Q : Exit → Act → World → Prop} (hF : YE F) (hFf : ∀ f, F.fn f) (hy : ops[y]? = some oy) (hg : oy.guard = none) (hok : Y8 ops y = true)
  (ops' : Array Oper) (hs : ops'.size = ops.size) (hops : ∀ i, i ≠ y → ops'[i]? = ops[i]?) (hyb : ops'[y]? = some (X2 oy))
  (Q' : Exit → Act → World → Prop) (hQ' : ∀ a w, Q' .normal a w → oy.wpIn F n P a w (Q .normal) Q) (hQp : ∀ c a w, Q' (.panic c) a w → Q (.panic c) a w) (hQ'o : ¬ LetsOut Q') :
  ∀ (fuel : Nat) (listed : Array Bool) (a : Act) (w : World), listed.size = ops.size → Jq .any ops listed → listed.getD y true = false →
   wpAny P .any ops' Q' fuel listed a w → wpAnyIn F n P .any ops Q fuel listed a w := by
 have hylt : y < ops.size := (Array.getElem?_eq_some_iff.1 hy).1
 have hr : ∀ listed, Region.ready .any ops' listed = Region.ready .any ops listed := by
  intro listed; unfold Region.ready; rw [hs]; refine List.filter_congr fun i _ => ?_
  by_cases e : i = y
  ·subst e; rw [hyb, hy]; rfl
  ·rw [hops i e]
 have hreach : ∀ i, i < ops.size → i ≠ y → Region.reachB .any ops i ops.size y = true := fun i hi hne => by
  have := List.all_eq_true.1 hok i (List.mem_range.2 hi); simp only [Bool.and_eq_true, Bool.or_eq_true, beq_iff_eq] at this; exact this.1.resolve_left hne
 have hguard : ∀ (i : Nat) (o : Oper), ops[i]? = some o → ∀ j b, o.guard = some (j, b) → j ≠ y := fun i o ho j b hgo => by
  have := List.all_eq_true.1 hok i (List.mem_range.2 (Array.getElem?_eq_some_iff.1 ho).1); simp only [Bool.and_eq_true, ho] at this; have h1 := this.2.1.1; rw [hgo] at h1
  simpa using h1
 have hon : ∀ (i : Nat) (o : Oper), ops[i]? = some o → ∀ e ∈ o.after, e.on < i := fun i o ho e he => by
  have := List.all_eq_true.1 hok i (List.mem_range.2 (Array.getElem?_eq_some_iff.1 ho).1); simp only [Bool.and_eq_true, ho] at this; exact of_decide_eq_true (Array.all_eq_true_iff_forall_mem.1 this.2.2 e he)
 have hnod : ∀ (i : Nat) (o : Oper), ops[i]? = some o → i ≠ y → Op.noDefer o.op = true := fun i o ho hne => by
  have := List.all_eq_true.1 hok i (List.mem_range.2 (Array.getElem?_eq_some_iff.1 ho).1); simp only [Bool.and_eq_true, ho, Bool.or_eq_true, beq_iff_eq] at this; exact this.2.1.2.resolve_left hne
 have hyield : ∀ (t : Array Value) j, j ≠ y → yielded ops' t j = yielded ops t j := fun t j hj => by unfold yielded; rw [hops j hj]
 have hwant : ∀ (i : Nat) (o : Oper) (t : Array Value), ops[i]? = some o → Region.wanted o (yielded ops' t) = Region.wanted o (yielded ops t) := fun i o t ho => by
  unfold Region.wanted
  cases hgo : o.guard with
  | none => rfl
  | some p => obtain ⟨j, b⟩ := p; simp only []; rw [hyield t j (hguard i o ho j b hgo)]
 have hlast : ∀ (listed : Array Bool), listed.size = ops.size → Jq .any ops listed → y ∈ Region.ready .any ops listed → Region.ready .any ops (listed.setIfInBounds y true) = [] := by
  intro listed hsz hc hm; have hc' := Jq.set hc hm; refine List.filter_eq_nil_iff.2 fun i hi => ?_
  have hi' := List.mem_range.1 hi; have hyl : (listed.setIfInBounds y true).getD y false = true := by simp [Array.getD, hsz, hylt]
  have hil : (listed.setIfInBounds y true).getD i false = true := by
   by_cases e : i = y
   ·subst e; exact hyl
   ·exact Region.reach_listed hc' ops.size y (hreach i hi' e) hyl
  have : (listed.setIfInBounds y true).getD i true = true := by
   have hb : i < (listed.setIfInBounds y true).size := by simp [hsz, hi']
   simp only [Array.getD, hb, dif_pos] at hil ⊢; exact hil
  simp [this]
 have hdone : ∀ fuel (listed : Array Bool) a w, Region.ready .any ops listed = [] → Q .normal a w → wpAnyIn F n P .any ops Q fuel listed a w := by
  intro fuel listed a w h0 hq
  cases fuel with
  | zero => exact ⟨h0, hq⟩
  | succ k => exact ⟨fun _ => hq, by rw [h0]; simp⟩
 intro fuel
 induction fuel with
 | zero => 
  intro listed a w hsz hc hyl h; exact (ZB hon hylt hsz hyl ((hr listed).symm.trans h.1)).elim
 | succ fuel ih =>
  intro listed a w hsz hc hyl h; refine ⟨fun h0 => (ZB hon hylt hsz hyl h0).elim, fun i hi => ?_⟩; have h1 := h.2 i (by rw [hr]; exact hi); by_cases e : i = y
  ·subst e
   unfold wpOp at h1; unfold wpOpIn; rw [hyb] at h1; rw [hy]; simp only [] at h1 ⊢; have hw : Region.wanted oy (yielded ops a.tmps) = true := by unfold Region.wanted; rw [hg]
   have hw' : Region.wanted (X2 oy) (yielded ops' a.tmps) = true := rfl; rw [if_pos hw]; rw [if_pos hw'] at h1
   rcases h1 with h1 | h1
   ·have h2 : wpAny P .any ops' Q' fuel (listed.setIfInBounds i true) a w := h1
    have h0 := hlast listed hsz hc hi
    have hq : Q' .normal a w := by
     cases fuel with
     | zero => exact h2.2
     | succ k => exact h2.1 (by rw [hr]; exact h0)
    exact Oper.wpIn_mono (fun a w hq => hdone _ _ a w h0 hq) (hQ' a w hq)
   ·exact absurd h1.2 hQ'o
  ·unfold wpOp at h1
   unfold wpOpIn; rw [hops i e] at h1
   cases ho : ops[i]? with
   | none =>
    have := (mem_ready.1 hi).2; obtain ⟨oi, hoi, _⟩ := this; rw [ho] at hoi; cases hoi
   | some o =>
    rw [ho] at h1; simp only [] at h1 ⊢
    have hnext : ∀ a w, wpAny P .any ops' Q' fuel (listed.setIfInBounds i true) a w → wpAnyIn F n P .any ops Q fuel (listed.setIfInBounds i true) a w := fun a w h => by
     refine ih _ a w (by simp [hsz]) (Jq.set hc hi) ?_ h; rw [getD_set_ne true e]; exact hyl
    by_cases hw : Region.wanted o (yielded ops a.tmps) = true
    ·rw [if_pos hw]
     rw [hwant i o a.tmps ho, if_pos hw] at h1
     rcases h1 with h1 | h1
     ·have h2 : o.wpIn F n P a w (wpAnyIn F n P .any ops Q fuel (listed.setIfInBounds i true)) Q' := hF n P o a w _ _ Q' (hnod i o ho e) hnext h1
      exact Xw hQp hQ'o h2
     ·exact absurd h1.2 hQ'o
    ·rw [if_neg hw]
     rw [hwant i o a.tmps ho, if_neg hw] at h1; exact ⟨fun f _ => hFf f, hnext _ _ h1⟩
theorem Xs {F : Fence} {n0 n id y : Nat} {P : Program} {ops : Array Oper} {oy : Oper} {Q : Exit → Act → World → Prop} {S : World → Prop} {ds : List Nat} {a : Act} {w : World} (Qn : Act → World → Prop) (l : Array Bool)
  (hF : YE F) (hFf : ∀ f, F.fn f) (hm : P.follows .mixedOrders = true) (hy : ops[y]? = some oy) (hg : oy.guard = none) (hok : Y8 ops y = true)
  (hyn : ops.size = y + 1) (hn : y + 1 = n) (hl : Array.replicate n false = l) (hQn : ∀ a w, Qn a w → oy.wpIn F n0 P a w (Q .normal) Q) (hS : S w.drew)
  (h : S w.drew → QF P .any (ops.toList.take y ++ [X2 oy]).toArray (Exit.then Qn (fun _ _ _ => False)) S ds n l a w.drew) : (Code.region id ops true).wpIn F n0 P Q a w := by
 subst hl; obtain ⟨ops', hops'⟩ : ∃ x, x = (ops.toList.take y ++ [X2 oy]).toArray := ⟨_, rfl⟩
 rw [← hops'] at h; have hsz : ops'.size = ops.size := by subst hops'; simp; omega
 refine wpIn_region_any hm (YD (y := y) (oy := oy) hF hFf hy hg hok ops' hsz (fun i hi => ?_) ?_ (Exit.then Qn (fun _ _ _ => False)) (fun a w h => hQn a w h) (fun c a w h => h.elim) (fun ⟨_, _, h⟩ => h.elim) _ _ _ _ (by simp) ?_ (by simp [Array.getD, hyn]) ?_)
 ·subst hops'
  simp only [List.getElem?_toArray]; by_cases e : i < y
  ·rw [List.getElem?_append_left (by simp; omega), List.getElem?_take_of_lt e]; simp
  ·rw [List.getElem?_eq_none (by simp; omega), Array.getElem?_eq_none (by omega)]
 ·subst hops'
  simp only [List.getElem?_toArray]; rw [List.getElem?_append_right (by simp; omega)]; have : (List.take y ops.toList).length = y := by simp; omega
  rw [this]; simp
 ·intro j oj hj hl
  have h0 : (Array.replicate ops.size false).getD j false = false := by
   unfold Array.getD
   split
   ·exact Array.getElem_replicate ..
   ·rfl
  rw [h0] at hl; cases hl
 ·rw [hyn, hn]
  exact Zm _ _ _ _ (h hS)
theorem YK {n : Nat} {P : Program} {o : Oper} {a : Act} {w : World} {K : Act → World → Prop} {Q : Exit → Act → World → Prop} {f : FuncId} {fn : Func} {opr : Array Operand} {ts : Array TypeId} (hf : P.funcs[f]? = some fn) (hname : (fn.name == "runtime.NumGoroutine") = false) (hb : fn.body.isSome = true) (args : Array Value)
  (hop : o.op = .call { callee := .value (.func f), args := opr, argTypes := ts }) (hargs : opr.map a.eval = args) {N : Option Tmp} (hN : o.dst = N) (h : Calls P f args w fun e w' => ∃ v, e = .returned v ∧ K (a.put N v) w') : o.wpIn Fence.wide n P a w K Q := by
 subst hN; have he := Zt hf hname hb args w
 have hrun : (execOp a.eval o).run P w = .ok (.enter f args) w := by
  unfold execOp
  simp [hop, resolve, Deferred.ofValue, invoke, Act.eval, hargs, he]
 refine YV (fun _ _ h => h) ?_; unfold Oper.wp; rw [hrun, Oper.upon_enter]; refine h.mono fun e w'' hh => ?_
 obtain ⟨v, rfl, hk⟩ := hh; exact hk
theorem YX {F : Fence} (hd : F.depth = none) {n n' : Nat} {P : Program} {l : Nat} {vs : Array Value} {W : World} {R : Ending → World → Prop} (h : YieldAt F n P l vs W R) : YieldAt F n' P l vs W R := by
 obtain ⟨fn, tmps, assign, body, hr, hR⟩ := h; exact ⟨fn, tmps, assign, body, hr, hR.1, fun c cs _ => hR.2 c cs (fun d hh => by rw [hd] at hh; cases hh)⟩
theorem Qad {F : Fence} {n : Nat} {P : Program} {l : Nat} {vs : Array Value} {W : World} {R : Ending → World → Prop} (l' : Nat) (h : YieldAt F n P l vs W R) : YieldAt (F.inRound l') n P l vs W R := h
theorem YP {F : Fence} {n l : Nat} {P : Program} {o : Oper} {a : Act} {w : World} {K : Act → World → Prop} {Q : Exit → Act → World → Prop} {x : Operand} {ys : Array Operand} {ts : Array TypeId} {vs : Array Value} (hd : F.depth = none) (hF : ∀ f, F.fn f)
  (ho : o.op = .call { callee := .value x, args := ys, argTypes := ts }) (hx : a.eval x = .func (.yield l) #[] #[]) (hy : ys.map a.eval = vs)
  (h : YieldAt F (n - 1) P l vs w fun e w' => (∃ v, e = .returned v ∧ K (a.put o.dst v) w')) : o.wpIn F n P a w K Q := by
 obtain ⟨fn, tmps, assign, body, hr, hR⟩ := h; refine ⟨fun f _ => hF f, ?_⟩
 have e : o.semAt F.round a.eval = execOp a.eval o := by
  cases hr : F.round with
  | none => rfl
  | some l => exact Oper.semAt_some l _ _ (fun c hc => by rw [ho] at hc; cases hc)
 have hs : (execOp a.eval o).run P w = .ok (.round l fn tmps assign body) w := by
  unfold execOp
  simp [ho, resolve, Deferred.ofValue, invoke, hx, hy, hr]
 rw [e, hs]; refine ⟨fun h0 => (by rw [hd] at h0; cases h0), hR.mono ?_⟩; rintro e w' ⟨v, rfl, hk⟩; exact hk
end Go.Proofs.Ytjaapkkpmegkfaa.R
namespace Go.Proofs.Ytjaapkkpmegkfaa.P
open Go.RowKit Go.Proofs.YtjaapkkpmegkfaaW.PrintWords Go.Proofs.YtjaapkkpmegkfaaW.PrintLast Go.Proofs.YtjaapkkpmegkfaaW.PrintMore
def catO {β : Type} (f : Nat → Option (List β)) : Nat → Option (List β)
 | 0 => some []
 | n + 1 => (catO f n).bind fun a => (f n).bind fun b => some (a ++ b)
set_option maxHeartbeats 1000000 in
theorem ZD (A : Option Addr) (n c : Nat) (h : n ≤ c) (w : World) : Calls Try.prog 75 #[.slice A n c] w fun e w' => e = .returned (.slice A n n) ∧ w' = w := by
 go_enter Try.func75, Try.ntmps75; go_wp2; go_ret; exact ⟨rfl, rfl⟩
theorem Xg {w : World} {base n : Nat} {v : Value} {xs : List Value} (h : w.ownsRow base 3 1 v n xs) : (v = .slice none 0 0 ∧ n = 0 ∧ xs = []) ∨ ∃ g c cells, v = .slice (some ⟨g, 0, none⟩) n c ∧ base ≤ g ∧ w.heap[g]? = some (.cells cells 3 (0, 0)) ∧ n ≤ c ∧ c ≤ maxLen ∧ cells.size = c * 1 ∧ cells.toList.take xs.length = xs := by
 obtain ⟨h1, h2⟩ := h
 rcases h2 with ⟨h2, h3⟩ | ⟨g, cap, cur, rfl, hg, hh, r⟩
 ·exact .inl ⟨h2, h3, by subst h3; simpa using h1⟩
 ·exact .inr ⟨g, cap, cur, rfl, hg, hh, r.1, r.2.1, r.2.2.1, by rw [h1]; exact r.2.2.2⟩
set_option maxRecDepth 100000 in
theorem Yq {W : World} {base n c : Nat} {A : Option Addr} {m : List Int} (ho : W.ownsRow base 3 1 (.slice A n c) n (nums .i64 m)) (hn : m.length = n) (hm : n ≤ 1000) (a : Addr) (p : Int) (hp : W.cell? a = some (.int .i64 p)) (ty : TypeId) :
  ∃ v' w', (Builtin.append_ #[24, 24] ty #[.slice A n n, .slice (some a) 1 1]).run Try.prog W = .ok v' w' ∧ w'.ownsRow W.heap.size 3 1 v' (n + 1) (nums .i64 (m ++ [p])) ∧ W.grownBy w' none := by
 have hu : Try.prog.underlying 24 = some (.slice 3) := Try.underlying24
 obtain ⟨i3, hi3, hz3, hs3, hb3⟩ : ∃ i, Try.prog.info? 3 = some i ∧ i.zero = some (.int .i64 0) ∧ i.size = 1 ∧ i.bytes = 8 := by
  have h := J5
  cases hi : Try.prog.info? 3 with
  | none => rw [hi] at h; cases h
  | some i => rw [hi] at h; simp only [Option.map_some, Option.some.injEq, Prod.mk.injEq] at h; exact ⟨i, rfl, h.1, h.2.1, h.2.2⟩
 have hnews : ∀ (j : Nat) (u : Value), [Value.int .i64 p][j]? = some u → W.cell? (a.add j) = some u := by
  intro j u hj
  match j with
  | 0 => simp at hj; subst hj; exact hp
  | j + 1 => simp at hj
 rcases Xg ho with ⟨hv, hn0, hxs⟩ | ⟨g, c', cells, hv, hb, hh, h1, h2, h3, h4⟩
 ·cases hv
  have hm0 : m = [] := by cases m with | nil => rfl | cons x t => simp at hn
  subst hm0; have := run_append_nil (P := Try.prog) W 24 ty 3 i3 (.int .i64 0) hu hi3 hz3 a 1 1 [.int .i64 p] (by rw [hs3]; rfl) hnews (by omega) (by omega) (by rw [hb3]; decide); refine ⟨_, _, this, ⟨by simp [nums], .inr ⟨W.heap.size, _, _, rfl, Nat.le_refl _, World.alloc_heap_new W.drew _, ?_, ?_, ?_, ?_⟩⟩, ⟨rfl, rfl, rfl, by simp, fun k hk _ => Below.heap_alloc W.drew _ k hk⟩⟩
  ·exact grownCap_ge W 1 0 3
  ·exact grownCap_le_maxLen W 1 0 3 (by decide)
  ·have := grownCap_ge W 1 0 3
   simp only [Array.size_append, List.size_toArray, size_zeroCells, List.length_cons, List.length_nil, Value.cells]
   simp
   omega
  ·simp [nums]
 ·cases hv
  have := run_append_arg_grows (P := Try.prog) W 24 ty 3 i3 (.int .i64 0) 1 8 hu hi3 hz3 hs3 hb3 rfl (by omega) ⟨g, 0, none⟩ n n (nums .i64 m) (by simp [nums, hn]) ?_ a 1 1 [.int .i64 p] (by rfl) hnews (by omega) (by simp only [maxLen]; omega) (by omega)
  ·obtain ⟨v', w', hr, hw, hg⟩ := this
   exact ⟨v', w', hr, by rw [Ym]; exact hw, hg⟩
  ·intro j u hj
   have := ho.cells (g := g) rfl j u hj; exact this
theorem Zc {ops : Array Oper} {oi : Oper} {N : Option Tmp} {a : Act} {W : World} {K : Act → World → Prop} {Q : Exit → Act → World → Prop} {base n c : Nat} {A : Option Addr} {m : List Int} (hw : Region.wanted oi (yielded ops a.tmps) = true) (hN : oi.dst = N) (s x : Operand)
  (ho : oi.op = .call { callee := .builtin .append, args := #[s, x], argTypes := #[24, 24] }) (hs : a.eval s = .slice A n n) (ad : Addr) (hx : a.eval x = .slice (some ad) 1 1)
  (hown : W.ownsRow base 3 1 (.slice A n c) n (nums .i64 m)) (hn : m.length = n) (hm : n ≤ 1000) (p : Int) (hp : W.cell? ad = some (.int .i64 p))
  (h : ∀ v1 w1, w1.ownsRow W.heap.size 3 1 v1 (n + 1) (nums .i64 (m ++ [p])) → Below W.heap.size W w1 → K (a.put N v1) w1) :
  if Region.wanted oi (yielded ops a.tmps) = true then Oper.wp Try.prog oi a W K Q else K (a.put N undef) W := by
 rw [if_pos hw]; obtain ⟨v1, w1, hr, ho1, hg⟩ := Yq hown hn hm ad p hp oi.type; subst hN; unfold Oper.wp execOp; simp only [ho, resolve, invoke, builtin, Sem.run_bind, Sem.run_pure, Result.andThen_ok, List.map_toArray, List.map_cons, List.map_nil, hs, hx, hr]; exact h v1 w1 ho1 ((Below.refl _ W).grown hg (Nat.le_refl _) (fun k hk => by cases hk))
end Go.Proofs.Ytjaapkkpmegkfaa.P
namespace Go.Proofs.Ytjaapkkpmegkfaa.P
open Go.RowKit Go.Shelf Go.Proofs.YtjaapkkpmegkfaaW.PrintWords Go.Proofs.YtjaapkkpmegkfaaW.PrintLast Go.Proofs.YtjaapkkpmegkfaaW.PrintMore Go.Proofs.Ytjaapkkpmegkfaa.R
theorem JN {n id : Nat} {P : Program} {l : List Oper} {Q : Exit → Act → World → Prop} {a : Act} {w : World} (h : wpList P l.toArray Q l a w) :
  (Code.region id l.toArray false).wpIn Fence.wide n P Q a w := wpIn_wide.2 (wp_region_lit h)
def Jm.f (k : Nat) (a0 a1_0 a1_1 a1_2 a1_3 a1_4 : Int) (l1_5 : List S83) (l2_0 : List Int) : Option (Int × Bool) := if 0 ≤ (l2_0.length : Int) then (if (l2_0.length : Int) < (l1_5.length : Int) then ((QP.f a1_0 a1_1 a1_2 a1_3 a1_4 l1_5).bind fun bt104 => ((Qp.f k a1_0 a1_1 a1_2 a1_3 a1_4 l1_5 l2_0).bind fun t106 => ((Qo.f k (wrap64 (((Qf l1_5 (l2_0.length : Int)).f3) + 1)) ((Qf l1_5 (l2_0.length : Int)).f0.f0) ((Qf l1_5 (l2_0.length : Int)).f0.f1) ((Qf l1_5 (l2_0.length : Int)).f1) ((Qf l1_5 (l2_0.length : Int)).f2) ((Qf l1_5 (l2_0.length : Int)).f3) (wrap64 (bt104.2 - t106))).bind fun t108 => (some (t108, decide (t108 ≤ ((Qf l1_5 (l2_0.length : Int)).f3))))))) else (none)) else (none)
theorem Jm.mono : ∀ a0 a1 a2 a3 a4 a5 a6 a7 k, LeO (Jm.f k a0 a1 a2 a3 a4 a5 a6 a7) (Jm.f (k + 1) a0 a1 a2 a3 a4 a5 a6 a7) := by
 intro a0 a1 a2 a3 a4 a5 a6 a7 k; unfold Jm.f
 repeat' first
   | (with_reducible exact Qp.mono _ _ _ _ _ _ _ _)
   | (with_reducible exact Qo.mono _ _ _ _ _ _ _ _)
   | (with_reducible exact LeO.refl _)
   | (with_reducible exact LeO.none _)
   | (with_reducible refine LeO.ite ?_ ?_)
   | (with_reducible refine LeO.bind ?_ (fun _ => ?_))
def Jm.T10 : Bool × List (List Nat × List Nat) := (true, [([], []), ([0], [0]), ([1], [1]), ([], []), ([], []), ([3, 4, 1], [3, 4]), ([2, 5], [2, 5]), ([], []), ([7, 6, 5, 0, 1, 2, 3, 4, 5, 6, 7], [6, 7])])
def Jm.B10 : List Nat := [0, 1, 3, 0, 0, 27, 63, 0, 255]
theorem Jm.tab10 : rtab .any (ZG Try.f74 10) = Jm.T10 := by kernel_rfl
theorem Jm.bits10 : J0 Jm.T10.2 Jm.B10 = true := by kernel_rfl
set_option maxHeartbeats 16000000 in
set_option maxRecDepth 100000 in
theorem YH (k l n base B1 : Nat) (a1_0 a1_1 a1_2 a1_3 a1_4 : Int) (A1_5 : Option Addr) (c1_5 : Nat) (l1_5 : List S83) (B2 : Nat) (A2_0 : Option Addr) (c2_0 : Nat) (l2_0 : List Int) (r1 : Int) (r2 : Bool) (w : World)
  (hb1 : w.heap[B1]? = some (.cells #[.int .i64 a1_0, .int .i64 a1_1, .int .i64 a1_2, .int .i64 a1_3, .int .i64 a1_4, .slice A1_5 l1_5.length c1_5] 75 (0, 0))) (hb2 : w.heap[B2]? = some (.cells #[.slice A2_0 l2_0.length c2_0] 24 (0, 0))) (nb1_2 : B1 ≠ B2)
  (hr1_5 : Kd.C k83 w A1_5 l1_5.length l1_5) (hc1_5 : l1_5.length ≤ c1_5) (hr2_0 : Kd.C (Kd.int .i64) w A2_0 l2_0.length l2_0) (hc2_0 : l2_0.length ≤ c2_0)
  (hown : w.ownsRow base 3 1 (.slice A2_0 l2_0.length c2_0) l2_0.length (nums .i64 l2_0)) (hlen : l2_0.length + 1 = l1_5.length) (h4 : l1_5.length ≤ 4)
  (h : Jm.f k 0 a1_0 a1_1 a1_2 a1_3 a1_4 l1_5 l2_0 = some (r1, r2)) (cnt : Nat) (hcnt : cnt = if r2 then 1 else 0) (J Jx : Nat → World → Prop) (hJ : Stab w.heap.size w.heap.size 0 J) (h0 : J 0 w)
  (hY : r2 = true → ∀ v W1, J 0 W1 → W1.ownsRow 0 3 1 v (l2_0.length + 1) (nums .i64 (l2_0 ++ [r1])) → w.heap.size ≤ W1.heap.size → YieldAt Fence.wide (n - 1) Try.prog l #[v] W1 fun e W' => (e = .returned (.bool true) ∧ J 1 W') ∨ (e = .returned (.bool false) ∧ Jx 1 W')) :
  CallsIn Fence.wide n Try.prog 74 #[.func (.yield l) #[] #[], .pointer (some ⟨B1, 0, none⟩), .pointer (some ⟨B2, 0, none⟩)] w fun e W' => (∃ v, e = .returned v) ∧ (J cnt W' ∨ Jx 1 W' ∧ r2 = true) := by
 have hcond : decide ((l2_0.length : Int) < (l1_5.length : Int) - 1) = false := decide_eq_false (by omega); have hfd36_1 : ∀ (x0_ x1_ : Value) (W_ : World), (Instr.field 36 (.agg #[x0_, x1_]) 1).run Try.prog W_ = .ok (x1_) W_ := fun _ _ _ => by kernel_rfl
 have hu83 := Try.underlying83; have hu75 := Try.underlying75; have HR1_5 := Qa.mk hr1_5; have HC1_5 := Qa.mk hc1_5; clear hr1_5 hc1_5; have HR2_0 := Qa.mk hr2_0; have HC2_0 := Qa.mk hc2_0; clear hr2_0 hc2_0; have BK1 := Qa.mk hb1; clear hb1; have BK2 := Qa.mk hb2; clear hb2; have NB1_2 := Qa.mk nb1_2; have NB2_1 := Qa.mk nb1_2.symm; clear nb1_2; have HB := Qa.mk (Below.refl w.heap.size w); have H : (if 0 ≤ (l2_0.length : Int) then (if (l2_0.length : Int) < (l1_5.length : Int) then ((QP.f a1_0 a1_1 a1_2 a1_3 a1_4 l1_5).bind fun bt104 => ((Qp.f k a1_0 a1_1 a1_2 a1_3 a1_4 l1_5 l2_0).bind fun t106 => ((Qo.f k (wrap64 (((Qf l1_5 (l2_0.length : Int)).f3) + 1)) ((Qf l1_5 (l2_0.length : Int)).f0.f0) ((Qf l1_5 (l2_0.length : Int)).f0.f1) ((Qf l1_5 (l2_0.length : Int)).f1) ((Qf l1_5 (l2_0.length : Int)).f2) ((Qf l1_5 (l2_0.length : Int)).f3) (wrap64 (bt104.2 - t106))).bind fun t108 => (some (t108, decide (t108 ≤ ((Qf l1_5 (l2_0.length : Int)).f3))))))) else (none)) else (none)) = some (r1, r2) := h; clear h; by_cases c4 : 0 ≤ (l2_0.length : Int)
 ·rw [if_pos c4] at H
  have c4b0 : decide (0 ≤ (l2_0.length : Int)) = true := decide_eq_true c4; have c4b1 : decide (0 ≤ l2_0.length) = true := decide_eq_true (by omega); clear c4; by_cases c5 : (l2_0.length : Int) < (l1_5.length : Int)
  ·rw [if_pos c5] at H
   have c5b0 : decide ((l2_0.length : Int) < (l1_5.length : Int)) = true := decide_eq_true c5; have c5b1 : decide (l2_0.length < l1_5.length) = true := decide_eq_true (Int.ofNat_lt.mp c5); clear c5; obtain ⟨⟨t104, t105⟩, A6, H⟩ := bi H; obtain ⟨t106, A7, H⟩ := bi H; obtain ⟨t108, A8, H⟩ := bi H; simp only [Option.some.injEq, Prod.mk.injEq] at H; obtain ⟨rfl, rfl⟩ := H; refine callsIn_of_wp Try.func74 rfl trivial ?_ rfl; simp only [Try.ntmps74, List.size_toArray, List.length_cons, List.length_nil, Nat.reduceAdd, Nat.reduceSub, Array.replicate_succ, Array.replicate_zero, List.push_toArray, List.append_toArray, List.nil_append, List.cons_append]; go_wp2_with (first | (refine bx 3 #[.func (.yield l) #[] #[]] 118 ?_; intro gb101 hg w9 BK101 hb; have GW101 := gs HB hg; replace HB := bs HB hb; have NB1_101 := nl BK1 hg; have NB101_1 := nr BK1 hg; replace BK1 := bb BK1 hb; have NB2_101 := nl BK2 hg; have NB101_2 := nr BK2 hg; replace BK2 := bb BK2 hb; clear hb hg; have hnb10 := NB1_2.out; have hnc10 := NB2_1.out; have hnb11 := NB1_101.out; have hnc11 := NB101_1.out; obtain ⟨_, _, _, _, _, _, _, _, _, _, _, _⟩ := cf6 BK1; have hnb13 := NB2_101.out; have hnc13 := NB101_2.out; obtain ⟨_, _⟩ := cf1 BK2; have p102 : 0 ≤ ((l2_0.length : Int) : Int) := dT; have q102 : (l2_0.length : Int) < (l1_5.length : Int) := dT; obtain ⟨ad102, e102, hx102_0, hx102_1, hx102_2, hx102_3, hx102_4⟩ := Zf HR1_5.out (l2_0.length : Int) p102 q102; cases e102; replace hx102_0 := cut_ HB hx102_0; replace hx102_1 := cut_ HB hx102_1; replace hx102_2 := cut_ HB hx102_2; replace hx102_3 := cut_ HB hx102_3; replace hx102_4 := cut_ HB hx102_4; (try simp only [Go.IntWalk.toNatUp] at hx102_0); (try simp only [Go.IntWalk.toNatUp] at hx102_1); (try simp only [Go.IntWalk.toNatUp] at hx102_2); (try simp only [Go.IntWalk.toNatUp] at hx102_3); (try simp only [Go.IntWalk.toNatUp] at hx102_4); replace p102 := eq_true p102; replace q102 := eq_true q102) | (refine bx 4 #[.int .i64 0, .int .i64 0, .int .i64 0, .int .i64 0, .int .i64 0] 83 ?_; intro gb103 hg w15 BK103 hb; have GW103 := gs HB hg; replace HB := bs HB hb; have NB1_103 := nl BK1 hg; have NB103_1 := nr BK1 hg; replace BK1 := bb BK1 hb; have NB2_103 := nl BK2 hg; have NB103_2 := nr BK2 hg; replace BK2 := bb BK2 hb; have NB101_103 := nl BK101 hg; have NB103_101 := nr BK101 hg; replace BK101 := bb BK101 hb; clear hb hg; have hnb16 := NB103_1.out; have hnc16 := NB1_103.out; have hnb17 := NB103_2.out; have hnc17 := NB2_103.out; have hnb18 := NB103_101.out; have hnc18 := NB101_103.out; obtain ⟨_, _, _, _, _, _, _, _, _, _⟩ := cf5 BK103; obtain ⟨_, _⟩ := cf1 BK2; obtain ⟨_, _, _, _, _, _, _, _, _, _, _, _⟩ := cf6 BK1) | (with_reducible refine JN ?_) | gi_step); have n0_ : Qa ((((((w15.setCell ⟨gb103, 0, none⟩ (.int .i64 ((Qf l1_5 (l2_0.length : Int)).f0.f0))).setCell ⟨gb103, 1, none⟩ (.int .i64 ((Qf l1_5 (l2_0.length : Int)).f0.f1))).setCell ⟨gb103, 2, none⟩ (.int .i64 ((Qf l1_5 (l2_0.length : Int)).f1))).setCell ⟨gb103, 3, none⟩ (.int .i64 ((Qf l1_5 (l2_0.length : Int)).f2))).setCell ⟨gb103, 4, none⟩ (.int .i64 ((Qf l1_5 (l2_0.length : Int)).f3))).heap[B1]? = some (.cells #[.int .i64 a1_0, .int .i64 a1_1, .int .i64 a1_2, .int .i64 a1_3, .int .i64 a1_4, .slice (some ad102) l1_5.length c1_5] 75 (0, 0))) := ⟨pF BK1⟩; have n1_ : Qa ((((((w15.setCell ⟨gb103, 0, none⟩ (.int .i64 ((Qf l1_5 (l2_0.length : Int)).f0.f0))).setCell ⟨gb103, 1, none⟩ (.int .i64 ((Qf l1_5 (l2_0.length : Int)).f0.f1))).setCell ⟨gb103, 2, none⟩ (.int .i64 ((Qf l1_5 (l2_0.length : Int)).f1))).setCell ⟨gb103, 3, none⟩ (.int .i64 ((Qf l1_5 (l2_0.length : Int)).f2))).setCell ⟨gb103, 4, none⟩ (.int .i64 ((Qf l1_5 (l2_0.length : Int)).f3))).heap[B2]? = some (.cells #[.slice A2_0 l2_0.length c2_0] 24 (0, 0))) := ⟨pF BK2⟩; have n2_ : Qa ((((((w15.setCell ⟨gb103, 0, none⟩ (.int .i64 ((Qf l1_5 (l2_0.length : Int)).f0.f0))).setCell ⟨gb103, 1, none⟩ (.int .i64 ((Qf l1_5 (l2_0.length : Int)).f0.f1))).setCell ⟨gb103, 2, none⟩ (.int .i64 ((Qf l1_5 (l2_0.length : Int)).f1))).setCell ⟨gb103, 3, none⟩ (.int .i64 ((Qf l1_5 (l2_0.length : Int)).f2))).setCell ⟨gb103, 4, none⟩ (.int .i64 ((Qf l1_5 (l2_0.length : Int)).f3))).heap[gb101]? = some (.cells #[.func (.yield l) #[] #[]] 118 (0, 0))) := ⟨pF BK101⟩; have n3_ : Qa ((((((w15.setCell ⟨gb103, 0, none⟩ (.int .i64 ((Qf l1_5 (l2_0.length : Int)).f0.f0))).setCell ⟨gb103, 1, none⟩ (.int .i64 ((Qf l1_5 (l2_0.length : Int)).f0.f1))).setCell ⟨gb103, 2, none⟩ (.int .i64 ((Qf l1_5 (l2_0.length : Int)).f1))).setCell ⟨gb103, 3, none⟩ (.int .i64 ((Qf l1_5 (l2_0.length : Int)).f2))).setCell ⟨gb103, 4, none⟩ (.int .i64 ((Qf l1_5 (l2_0.length : Int)).f3))).heap[gb103]? = some (.cells #[.int .i64 ((Qf l1_5 (l2_0.length : Int)).f0.f0), .int .i64 ((Qf l1_5 (l2_0.length : Int)).f0.f1), .int .i64 ((Qf l1_5 (l2_0.length : Int)).f1), .int .i64 ((Qf l1_5 (l2_0.length : Int)).f2), .int .i64 ((Qf l1_5 (l2_0.length : Int)).f3)] 83 (0, 0))) := ⟨by refine pB ?_; refine Qg (cs := #[.int .i64 ((Qf l1_5 (l2_0.length : Int)).f0.f0), .int .i64 ((Qf l1_5 (l2_0.length : Int)).f0.f1), .int .i64 ((Qf l1_5 (l2_0.length : Int)).f1), .int .i64 ((Qf l1_5 (l2_0.length : Int)).f2), .int .i64 0]) ?_ 4 _ rfl; refine pB ?_; refine Qg (cs := #[.int .i64 ((Qf l1_5 (l2_0.length : Int)).f0.f0), .int .i64 ((Qf l1_5 (l2_0.length : Int)).f0.f1), .int .i64 ((Qf l1_5 (l2_0.length : Int)).f1), .int .i64 0, .int .i64 0]) ?_ 3 _ rfl; refine pB ?_; refine Qg (cs := #[.int .i64 ((Qf l1_5 (l2_0.length : Int)).f0.f0), .int .i64 ((Qf l1_5 (l2_0.length : Int)).f0.f1), .int .i64 0, .int .i64 0, .int .i64 0]) ?_ 2 _ rfl; refine pB ?_; refine Qg (cs := #[.int .i64 ((Qf l1_5 (l2_0.length : Int)).f0.f0), .int .i64 0, .int .i64 0, .int .i64 0, .int .i64 0]) ?_ 1 _ rfl; refine pB ?_; refine Qg (cs := #[.int .i64 0, .int .i64 0, .int .i64 0, .int .i64 0, .int .i64 0]) ?_ 0 _ rfl; (with_reducible repeat (first | refine Qt ?_ _ | refine Qh ?_ | refine blk_alloc ?_ _)); exact BK103.out⟩; have n4_ : Qa (Below w.heap.size w (((((w15.setCell ⟨gb103, 0, none⟩ (.int .i64 ((Qf l1_5 (l2_0.length : Int)).f0.f0))).setCell ⟨gb103, 1, none⟩ (.int .i64 ((Qf l1_5 (l2_0.length : Int)).f0.f1))).setCell ⟨gb103, 2, none⟩ (.int .i64 ((Qf l1_5 (l2_0.length : Int)).f1))).setCell ⟨gb103, 3, none⟩ (.int .i64 ((Qf l1_5 (l2_0.length : Int)).f2))).setCell ⟨gb103, 4, none⟩ (.int .i64 ((Qf l1_5 (l2_0.length : Int)).f3)))) := ⟨pE HB⟩
   (try clear BK1)
   (try clear BK2)
   (try clear BK101)
   (try clear BK103)
   (try clear HB)
   generalize (((((w15.setCell ⟨gb103, 0, none⟩ (.int .i64 ((Qf l1_5 (l2_0.length : Int)).f0.f0))).setCell ⟨gb103, 1, none⟩ (.int .i64 ((Qf l1_5 (l2_0.length : Int)).f0.f1))).setCell ⟨gb103, 2, none⟩ (.int .i64 ((Qf l1_5 (l2_0.length : Int)).f1))).setCell ⟨gb103, 3, none⟩ (.int .i64 ((Qf l1_5 (l2_0.length : Int)).f2))).setCell ⟨gb103, 4, none⟩ (.int .i64 ((Qf l1_5 (l2_0.length : Int)).f3))) = w22 at n0_ n1_ n2_ n3_ n4_ ⊢; have BK1 := n0_; have BK2 := n1_; have BK101 := n2_; have BK103 := n3_; have HB := n4_; clear n0_ n1_ n2_ n3_ n4_; replace BK1 := Qa.mk (Qh BK1.out); replace BK2 := Qa.mk (Qh BK2.out); replace BK101 := Qa.mk (Qh BK101.out); replace BK103 := Qa.mk (Qh BK103.out); replace HB := Qa.mk (QM HB.out); refine wpIn_wide.2 (JS (n := 9) (S := fun w' => w'.cell? ⟨B1, 0, none⟩ = some (.int .i64 a1_0) ∧ w'.cell? ⟨B1, 1, none⟩ = some (.int .i64 a1_1) ∧ w'.cell? ⟨B1, 2, none⟩ = some (.int .i64 a1_2) ∧ w'.cell? ⟨B1, 3, none⟩ = some (.int .i64 a1_3) ∧ w'.cell? ⟨B1, 4, none⟩ = some (.int .i64 a1_4) ∧ w'.cell? ⟨B1, 5, none⟩ = some (.slice (some ad102) l1_5.length c1_5) ∧ w'.cell? ⟨B2, 0, none⟩ = some (.slice A2_0 l2_0.length c2_0)) (ds := []) #[false, false, false, false, false, false, false, false, false] (by kernel_rfl) rfl rfl ⟨cz0 BK1, cz1 BK1, cz2 BK1, cz3 BK1, cz4 BK1, cz5 BK1, cz0 BK2⟩ (fun hHeld => ?_)); refine Jk Jm.tab10 Jm.bits10 (fun HT_ HW_ => ?_); generalize w22.drew = w23 at BK1 BK2 BK101 BK103 HB hHeld ⊢; refine tk 0 41 hHeld ?_; refine tk 3 44 hHeld ?_; refine tk 4 45 hHeld ?_; refine join_ (σ := Nat) 1 #[true, true, true, true, true, true, true, true, false] (fun s_ => [(42, .agg #[.int .i64 t104, .int .i64 t105]), (46, .int .i64 t106), (7, .pointer (some ⟨s_, 0, none⟩)), (43, .int .i64 t105), (47, .int .i64 (wrap64 (t105 - t106)))]) (fun s_ w' => (w'.cell? ⟨B1, 0, none⟩ = some (.int .i64 a1_0) ∧ w'.cell? ⟨B1, 1, none⟩ = some (.int .i64 a1_1) ∧ w'.cell? ⟨B1, 2, none⟩ = some (.int .i64 a1_2) ∧ w'.cell? ⟨B1, 3, none⟩ = some (.int .i64 a1_3) ∧ w'.cell? ⟨B1, 4, none⟩ = some (.int .i64 a1_4) ∧ w'.cell? ⟨B1, 5, none⟩ = some (.slice (some ad102) l1_5.length c1_5) ∧ w'.cell? ⟨B2, 0, none⟩ = some (.slice A2_0 l2_0.length c2_0)) ∧ (w'.heap[B1]? = some (.cells #[.int .i64 a1_0, .int .i64 a1_1, .int .i64 a1_2, .int .i64 a1_3, .int .i64 a1_4, .slice (some ad102) l1_5.length c1_5] 75 (0, 0))) ∧ (w'.heap[gb101]? = some (.cells #[.func (.yield l) #[] #[]] 118 (0, 0))) ∧ (w'.heap[gb103]? = some (.cells #[.int .i64 ((Qf l1_5 (l2_0.length : Int)).f0.f0), .int .i64 ((Qf l1_5 (l2_0.length : Int)).f0.f1), .int .i64 ((Qf l1_5 (l2_0.length : Int)).f1), .int .i64 ((Qf l1_5 (l2_0.length : Int)).f2), .int .i64 ((Qf l1_5 (l2_0.length : Int)).f3)] 83 (0, 0))) ∧ (w'.heap[s_]? = some (.cells #[.int .i64 0] 3 (0, 0))) ∧ (w'.heap[B2]? = some (.cells #[.slice A2_0 l2_0.length c2_0] 24 (0, 0))) ∧ (w.heap.size ≤ s_) ∧ (w.heap.size ≤ s_) ∧ (B1 ≠ s_) ∧ (s_ ≠ B1) ∧ (gb101 ≠ s_) ∧ (s_ ≠ gb101) ∧ (gb103 ≠ s_) ∧ (s_ ≠ gb103) ∧ (B2 ≠ s_) ∧ (s_ ≠ B2) ∧ (Below w.heap.size w w')) ?_ ?_
   rotate_left
   ·intro hCont
    refine two_ (i := 1) (j := 7) (Ni := some 42) (Nj := some 7) #[true, true, false, true, true, false, false, false, false] #[true, false, false, true, true, false, false, true, false] rfl rfl rfl rfl (YY HT_.out (by kernel_rfl)) (by decide) (by decide) (fun K hK => ?_) (fun K hK => ?_)
    ·skip
     refine gO Try.func30 #[.agg #[.int .i64 a1_0, .int .i64 a1_1, .int .i64 a1_2, .int .i64 a1_3, .int .i64 a1_4, .slice (some ad102) l1_5.length c1_5]] ?_
     with_reducible refine (QP.calls a1_0 a1_1 a1_2 a1_3 a1_4 _ _ l1_5 t104 t105 _ ?side1 ?side2 A6.out).mono ?_
     (case side1 => exact pC (Kd.C_below HR1_5.out HB.out))
     (case side2 => exact HC1_5.out)
     rintro e w24 ⟨rfl, hb⟩; refine ⟨_, rfl, ?_⟩; replace BK1 := bb BK1 hb; replace BK2 := bb BK2 hb; replace BK101 := bb BK101 hb; replace BK103 := bb BK103 hb; replace HB := bs HB hb
     (try clear hb)
     (try clear hb2)
     (try clear hk)
     (try clear hi)
     refine hK.out _ _ ⟨cz0 BK1, cz1 BK1, cz2 BK1, cz3 BK1, cz4 BK1, cz5 BK1, cz0 BK2⟩ (fun hHeld => ?_); clear hK K; refine QY (a' := ?_) ?_ ?_
     rotate_left
     ·show Act.put _ (some 42) _ = _
      simp only [Act.put, List.setIfInBounds_toArray, List.set_cons_zero, List.set_cons_succ, QR, QU]; rfl
     refine pu 2 43 ?_; refine two_ (i := 5) (j := 7) (Ni := some 46) (Nj := some 7) #[true, true, true, true, true, true, false, false, false] #[true, true, true, true, true, false, false, true, false] rfl rfl rfl rfl (YY HT_.out (by kernel_rfl)) (by decide) (by decide) (fun K hK => ?_) (fun K hK => ?_)
     ·skip
      refine gO Try.func33 #[.agg #[.int .i64 a1_0, .int .i64 a1_1, .int .i64 a1_2, .int .i64 a1_3, .int .i64 a1_4, .slice (some ad102) l1_5.length c1_5], .slice A2_0 l2_0.length c2_0, .func (.func 60) #[] #[]] ?_
      with_reducible refine (Qp.calls k a1_0 a1_1 a1_2 a1_3 a1_4 _ _ l1_5 _ _ l2_0  t106 _ ?side1 ?side2 ?side3 ?side4 A7.out).mono ?_
      (case side1 => exact pC (Kd.C_below HR1_5.out HB.out))
      (case side2 => exact HC1_5.out)
      (case side3 => exact pC (Kd.C_below HR2_0.out HB.out))
      (case side4 => exact HC2_0.out)
      rintro e w25 ⟨rfl, hb⟩; refine ⟨_, rfl, ?_⟩; replace BK1 := bb BK1 hb; replace BK2 := bb BK2 hb; replace BK101 := bb BK101 hb; replace BK103 := bb BK103 hb; replace HB := bs HB hb
      (try clear hb)
      (try clear hb2)
      (try clear hk)
      (try clear hi)
      refine hK.out _ _ ⟨cz0 BK1, cz1 BK1, cz2 BK1, cz3 BK1, cz4 BK1, cz5 BK1, cz0 BK2⟩ (fun hHeld => ?_); clear hK K; refine QY (a' := ?_) ?_ ?_
      rotate_left
      ·show Act.put _ (some 46) _ = _
       simp only [Act.put, List.setIfInBounds_toArray, List.set_cons_zero, List.set_cons_succ, QR, QU]; rfl
      refine pu 6 47 ?_; refine on 7 (fun K hK => ?_); refine Xu ?hg (N := 7) ?hd (cs := #[.int .i64 0]) (t := 3) ?hr ?_; (case hd => rfl); (case hg => rfl); (case hr => first | (go_simp; done) | (go_simp; rfl)); intro gb107 hg w26 hbox hb; have BK107 := Qa.mk (hbox); have GW107 := gs HB hg; have GE107 := gs HB hg; replace HB := bs HB hb; have NB1_107 := nl BK1 hg; have NB107_1 := nr BK1 hg; replace BK1 := bb BK1 hb; have NB2_107 := nl BK2 hg; have NB107_2 := nr BK2 hg; replace BK2 := bb BK2 hb; have NB101_107 := nl BK101 hg; have NB107_101 := nr BK101 hg; replace BK101 := bb BK101 hb; have NB103_107 := nl BK103 hg; have NB107_103 := nr BK103 hg; replace BK103 := bb BK103 hb; clear hb hg; refine hK.out _ _ ⟨cz0 BK1, cz1 BK1, cz2 BK1, cz3 BK1, cz4 BK1, cz5 BK1, cz0 BK2⟩ (fun hHeld => ?_); clear hK K; refine QY (a' := ?_) ?_ ?_
      rotate_left
      ·show Act.put _ (some 7) _ = _
       simp only [Act.put, List.setIfInBounds_toArray, List.set_cons_zero, List.set_cons_succ, QR, QU]; rfl
      exact QY (by simp only [ZP, Act.put, List.setIfInBounds_toArray, List.set_cons_zero, List.set_cons_succ]) (hCont (gb107) _ ⟨hHeld, (pB BK1.out), (pB BK101.out), (pB BK103.out), (pB BK107.out), (pB BK2.out), GW107.out, GE107.out, NB1_107.out, NB107_1.out, NB101_107.out, NB107_101.out, NB103_107.out, NB107_103.out, NB2_107.out, NB107_2.out, (pE HB)⟩)
     ·skip
      refine Xu ?hg (N := 7) ?hd (cs := #[.int .i64 0]) (t := 3) ?hr ?_; (case hd => rfl); (case hg => rfl); (case hr => first | (go_simp; done) | (go_simp; rfl)); intro gb107 hg w25 hbox hb; have BK107 := Qa.mk (hbox); have GW107 := gs HB hg; have GE107 := gs HB hg; replace HB := bs HB hb; have NB1_107 := nl BK1 hg; have NB107_1 := nr BK1 hg; replace BK1 := bb BK1 hb; have NB2_107 := nl BK2 hg; have NB107_2 := nr BK2 hg; replace BK2 := bb BK2 hb; have NB101_107 := nl BK101 hg; have NB107_101 := nr BK101 hg; replace BK101 := bb BK101 hb; have NB103_107 := nl BK103 hg; have NB107_103 := nr BK103 hg; replace BK103 := bb BK103 hb; clear hb hg; refine hK.out _ _ ⟨cz0 BK1, cz1 BK1, cz2 BK1, cz3 BK1, cz4 BK1, cz5 BK1, cz0 BK2⟩ (fun hHeld => ?_); clear hK K; refine QY (a' := ?_) ?_ ?_
      rotate_left
      ·show Act.put _ (some 7) _ = _
       simp only [Act.put, List.setIfInBounds_toArray, List.set_cons_zero, List.set_cons_succ, QR, QU]; rfl
      refine on 5 (fun K hK => ?_); refine gO Try.func33 #[.agg #[.int .i64 a1_0, .int .i64 a1_1, .int .i64 a1_2, .int .i64 a1_3, .int .i64 a1_4, .slice (some ad102) l1_5.length c1_5], .slice A2_0 l2_0.length c2_0, .func (.func 60) #[] #[]] ?_
      with_reducible refine (Qp.calls k a1_0 a1_1 a1_2 a1_3 a1_4 _ _ l1_5 _ _ l2_0  t106 _ ?side1 ?side2 ?side3 ?side4 A7.out).mono ?_
      (case side1 => exact pC (Kd.C_below HR1_5.out HB.out))
      (case side2 => exact HC1_5.out)
      (case side3 => exact pC (Kd.C_below HR2_0.out HB.out))
      (case side4 => exact HC2_0.out)
      rintro e w26 ⟨rfl, hb⟩; refine ⟨_, rfl, ?_⟩; replace BK1 := bb BK1 hb; replace BK2 := bb BK2 hb; replace BK101 := bb BK101 hb; replace BK103 := bb BK103 hb; replace BK107 := bb BK107 hb; replace HB := bs HB hb
      (try clear hb)
      (try clear hb2)
      (try clear hk)
      (try clear hi)
      refine hK.out _ _ ⟨cz0 BK1, cz1 BK1, cz2 BK1, cz3 BK1, cz4 BK1, cz5 BK1, cz0 BK2⟩ (fun hHeld => ?_); clear hK K; refine QY (a' := ?_) ?_ ?_
      rotate_left
      ·show Act.put _ (some 46) _ = _
       simp only [Act.put, List.setIfInBounds_toArray, List.set_cons_zero, List.set_cons_succ, QR, QU]; rfl
      refine pu 6 47 ?_; exact QY (by simp only [ZP, Act.put, List.setIfInBounds_toArray, List.set_cons_zero, List.set_cons_succ]) (hCont (gb107) _ ⟨hHeld, (pB BK1.out), (pB BK101.out), (pB BK103.out), (pB BK107.out), (pB BK2.out), GW107.out, GE107.out, NB1_107.out, NB107_1.out, NB101_107.out, NB107_101.out, NB103_107.out, NB107_103.out, NB2_107.out, NB107_2.out, (pE HB)⟩)
    ·skip
     refine Xu ?hg (N := 7) ?hd (cs := #[.int .i64 0]) (t := 3) ?hr ?_; (case hd => rfl); (case hg => rfl); (case hr => first | (go_simp; done) | (go_simp; rfl)); intro gb107 hg w24 hbox hb; have BK107 := Qa.mk (hbox); have GW107 := gs HB hg; have GE107 := gs HB hg; replace HB := bs HB hb; have NB1_107 := nl BK1 hg; have NB107_1 := nr BK1 hg; replace BK1 := bb BK1 hb; have NB2_107 := nl BK2 hg; have NB107_2 := nr BK2 hg; replace BK2 := bb BK2 hb; have NB101_107 := nl BK101 hg; have NB107_101 := nr BK101 hg; replace BK101 := bb BK101 hb; have NB103_107 := nl BK103 hg; have NB107_103 := nr BK103 hg; replace BK103 := bb BK103 hb; clear hb hg; refine hK.out _ _ ⟨cz0 BK1, cz1 BK1, cz2 BK1, cz3 BK1, cz4 BK1, cz5 BK1, cz0 BK2⟩ (fun hHeld => ?_); clear hK K; refine QY (a' := ?_) ?_ ?_
     rotate_left
     ·show Act.put _ (some 7) _ = _
      simp only [Act.put, List.setIfInBounds_toArray, List.set_cons_zero, List.set_cons_succ, QR, QU]; rfl
     refine on 1 (fun K hK => ?_); refine gO Try.func30 #[.agg #[.int .i64 a1_0, .int .i64 a1_1, .int .i64 a1_2, .int .i64 a1_3, .int .i64 a1_4, .slice (some ad102) l1_5.length c1_5]] ?_
     with_reducible refine (QP.calls a1_0 a1_1 a1_2 a1_3 a1_4 _ _ l1_5 t104 t105 _ ?side1 ?side2 A6.out).mono ?_
     (case side1 => exact pC (Kd.C_below HR1_5.out HB.out))
     (case side2 => exact HC1_5.out)
     rintro e w25 ⟨rfl, hb⟩; refine ⟨_, rfl, ?_⟩; replace BK1 := bb BK1 hb; replace BK2 := bb BK2 hb; replace BK101 := bb BK101 hb; replace BK103 := bb BK103 hb; replace BK107 := bb BK107 hb; replace HB := bs HB hb
     (try clear hb)
     (try clear hb2)
     (try clear hk)
     (try clear hi)
     refine hK.out _ _ ⟨cz0 BK1, cz1 BK1, cz2 BK1, cz3 BK1, cz4 BK1, cz5 BK1, cz0 BK2⟩ (fun hHeld => ?_); clear hK K; refine QY (a' := ?_) ?_ ?_
     rotate_left
     ·show Act.put _ (some 42) _ = _
      simp only [Act.put, List.setIfInBounds_toArray, List.set_cons_zero, List.set_cons_succ, QR, QU]; rfl
     refine pu 2 43 ?_; refine on 5 (fun K hK => ?_); refine gO Try.func33 #[.agg #[.int .i64 a1_0, .int .i64 a1_1, .int .i64 a1_2, .int .i64 a1_3, .int .i64 a1_4, .slice (some ad102) l1_5.length c1_5], .slice A2_0 l2_0.length c2_0, .func (.func 60) #[] #[]] ?_
     with_reducible refine (Qp.calls k a1_0 a1_1 a1_2 a1_3 a1_4 _ _ l1_5 _ _ l2_0  t106 _ ?side1 ?side2 ?side3 ?side4 A7.out).mono ?_
     (case side1 => exact pC (Kd.C_below HR1_5.out HB.out))
     (case side2 => exact HC1_5.out)
     (case side3 => exact pC (Kd.C_below HR2_0.out HB.out))
     (case side4 => exact HC2_0.out)
     rintro e w26 ⟨rfl, hb⟩; refine ⟨_, rfl, ?_⟩; replace BK1 := bb BK1 hb; replace BK2 := bb BK2 hb; replace BK101 := bb BK101 hb; replace BK103 := bb BK103 hb; replace BK107 := bb BK107 hb; replace HB := bs HB hb
     (try clear hb)
     (try clear hb2)
     (try clear hk)
     (try clear hi)
     refine hK.out _ _ ⟨cz0 BK1, cz1 BK1, cz2 BK1, cz3 BK1, cz4 BK1, cz5 BK1, cz0 BK2⟩ (fun hHeld => ?_); clear hK K; refine QY (a' := ?_) ?_ ?_
     rotate_left
     ·show Act.put _ (some 46) _ = _
      simp only [Act.put, List.setIfInBounds_toArray, List.set_cons_zero, List.set_cons_succ, QR, QU]; rfl
     refine pu 6 47 ?_; exact QY (by simp only [ZP, Act.put, List.setIfInBounds_toArray, List.set_cons_zero, List.set_cons_succ]) (hCont (gb107) _ ⟨hHeld, (pB BK1.out), (pB BK101.out), (pB BK103.out), (pB BK107.out), (pB BK2.out), GW107.out, GE107.out, NB1_107.out, NB107_1.out, NB101_107.out, NB107_101.out, NB103_107.out, NB107_103.out, NB2_107.out, NB107_2.out, (pE HB)⟩)
   rintro gb107 w27 ⟨hS_, h0_, h1_, h2_, h3_, h4_, h5_, h6_, h7_, h8_, h9_, h10_, h11_, h12_, h13_, h14_, h15_⟩; have n0_ : Qa (w27.heap[B1]? = some (.cells #[.int .i64 a1_0, .int .i64 a1_1, .int .i64 a1_2, .int .i64 a1_3, .int .i64 a1_4, .slice (some ad102) l1_5.length c1_5] 75 (0, 0))) := ⟨h0_⟩; have n1_ : Qa (w27.heap[gb101]? = some (.cells #[.func (.yield l) #[] #[]] 118 (0, 0))) := ⟨h1_⟩; have n2_ : Qa (w27.heap[gb103]? = some (.cells #[.int .i64 ((Qf l1_5 (l2_0.length : Int)).f0.f0), .int .i64 ((Qf l1_5 (l2_0.length : Int)).f0.f1), .int .i64 ((Qf l1_5 (l2_0.length : Int)).f1), .int .i64 ((Qf l1_5 (l2_0.length : Int)).f2), .int .i64 ((Qf l1_5 (l2_0.length : Int)).f3)] 83 (0, 0))) := ⟨h2_⟩; have n3_ : Qa (w27.heap[gb107]? = some (.cells #[.int .i64 0] 3 (0, 0))) := ⟨h3_⟩; have n4_ : Qa (w27.heap[B2]? = some (.cells #[.slice A2_0 l2_0.length c2_0] 24 (0, 0))) := ⟨h4_⟩; have n5_ : Qa (w.heap.size ≤ gb107) := ⟨h5_⟩; have n6_ : Qa (w.heap.size ≤ gb107) := ⟨h6_⟩; have n7_ : Qa (B1 ≠ gb107) := ⟨h7_⟩; have n8_ : Qa (gb107 ≠ B1) := ⟨h8_⟩; have n9_ : Qa (gb101 ≠ gb107) := ⟨h9_⟩; have n10_ : Qa (gb107 ≠ gb101) := ⟨h10_⟩; have n11_ : Qa (gb103 ≠ gb107) := ⟨h11_⟩; have n12_ : Qa (gb107 ≠ gb103) := ⟨h12_⟩; have n13_ : Qa (B2 ≠ gb107) := ⟨h13_⟩; have n14_ : Qa (gb107 ≠ B2) := ⟨h14_⟩; have n15_ : Qa (Below w.heap.size w w27) := ⟨h15_⟩; clear BK1 BK2 BK101 BK103 HB h0_ h1_ h2_ h3_ h4_ h5_ h6_ h7_ h8_ h9_ h10_ h11_ h12_ h13_ h14_ h15_; have BK1 := n0_; have BK101 := n1_; have BK103 := n2_; have BK107 := n3_; have BK2 := n4_; have GW107 := n5_; have GE107 := n6_; have NB1_107 := n7_; have NB107_1 := n8_; have NB101_107 := n9_; have NB107_101 := n10_; have NB103_107 := n11_; have NB107_103 := n12_; have NB2_107 := n13_; have NB107_2 := n14_; have HB := n15_; clear n0_ n1_ n2_ n3_ n4_ n5_ n6_ n7_ n8_ n9_ n10_ n11_ n12_ n13_ n14_ n15_; have hHeld : w27.cell? ⟨B1, 0, none⟩ = some (.int .i64 a1_0) ∧ w27.cell? ⟨B1, 1, none⟩ = some (.int .i64 a1_1) ∧ w27.cell? ⟨B1, 2, none⟩ = some (.int .i64 a1_2) ∧ w27.cell? ⟨B1, 3, none⟩ = some (.int .i64 a1_3) ∧ w27.cell? ⟨B1, 4, none⟩ = some (.int .i64 a1_4) ∧ w27.cell? ⟨B1, 5, none⟩ = some (.slice (some ad102) l1_5.length c1_5) ∧ w27.cell? ⟨B2, 0, none⟩ = some (.slice A2_0 l2_0.length c2_0) := hS_; refine QY (a' := ?_) ?_ ?_
   rotate_left
   ·simp only [ZP, Act.put, List.setIfInBounds_toArray, List.set_cons_zero, List.set_cons_succ]
    rfl
   refine on 8 (fun K hK => ?_); have hs28 : w27.cell? ⟨gb107, 0, none⟩ = some (.int .i64 0) := (Qb BK107.out 0).trans rfl; have hfs28 := Qq BK107.out 0; have hns28_0 := NB1_107.out; have hns28_1 := NB2_107.out; have hns28_2 := NB101_107.out; have hns28_3 := NB103_107.out; have hms28_0 := NB107_1.out; have hms28_1 := NB107_2.out; have hms28_2 := NB107_101.out; have hms28_3 := NB107_103.out; refine Z7 (w1 := ?_) (by rfl) rfl ?_ ?_
   rotate_left
   ·go_simp
    rfl
   refine hK.out _ _ ⟨((QW (p := ⟨gb107, _, none⟩) NB1_107.out _).trans (hHeld.1)), ((QW (p := ⟨gb107, _, none⟩) NB1_107.out _).trans (hHeld.2.1)), ((QW (p := ⟨gb107, _, none⟩) NB1_107.out _).trans (hHeld.2.2.1)), ((QW (p := ⟨gb107, _, none⟩) NB1_107.out _).trans (hHeld.2.2.2.1)), ((QW (p := ⟨gb107, _, none⟩) NB1_107.out _).trans (hHeld.2.2.2.2.1)), ((QW (p := ⟨gb107, _, none⟩) NB1_107.out _).trans (hHeld.2.2.2.2.2.1)), ((QW (p := ⟨gb107, _, none⟩) NB2_107.out _).trans (hHeld.2.2.2.2.2.2))⟩ (fun hHeld => ?_); clear hK K; refine JD (JM HT_.out (by kernel_rfl)) ?_; have hnb29 := NB103_107.out; have hnc29 := NB107_103.out; have hcz30_0 : w27.cell? ⟨gb103, 0, none⟩ = some (.int .i64 ((Qf l1_5 (l2_0.length : Int)).f0.f0)) := (Qb BK103.out 0).trans rfl; have hcz30_1 : w27.cell? ⟨gb103, 1, none⟩ = some (.int .i64 ((Qf l1_5 (l2_0.length : Int)).f0.f1)) := (Qb BK103.out 1).trans rfl; have hcz30_2 : w27.cell? ⟨gb103, 2, none⟩ = some (.int .i64 ((Qf l1_5 (l2_0.length : Int)).f1)) := (Qb BK103.out 2).trans rfl; have hcz30_3 : w27.cell? ⟨gb103, 3, none⟩ = some (.int .i64 ((Qf l1_5 (l2_0.length : Int)).f2)) := (Qb BK103.out 3).trans rfl; have hcz30_4 : w27.cell? ⟨gb103, 4, none⟩ = some (.int .i64 ((Qf l1_5 (l2_0.length : Int)).f3)) := (Qb BK103.out 4).trans rfl; have hfz30_0 := Qq BK103.out 0; have hfz30_1 := Qq BK103.out 1; have hfz30_2 := Qq BK103.out 2; have hfz30_3 := Qq BK103.out 3; have hfz30_4 := Qq BK103.out 4; by_cases c9 : t108 ≤ ((Qf l1_5 (l2_0.length : Int)).f3)
   ·have c9b0 : decide (t108 ≤ ((Qf l1_5 (l2_0.length : Int)).f3)) = true := decide_eq_true c9
    go_wp2_with (first | ((with_reducible refine gc 42 rfl ?_); refine gL 52 Try.func42 #[.int .i64 (wrap64 (((Qf l1_5 (l2_0.length : Int)).f3) + 1)), .func (.func 76) #[] #[.pointer (some ⟨gb103, 0, none⟩), .pointer (some ⟨gb107, 0, none⟩)]] ?_; (with_reducible refine (Qo.calls k (wrap64 (((Qf l1_5 (l2_0.length : Int)).f3) + 1)) gb103 ((Qf l1_5 (l2_0.length : Int)).f0.f0) ((Qf l1_5 (l2_0.length : Int)).f0.f1) ((Qf l1_5 (l2_0.length : Int)).f1) ((Qf l1_5 (l2_0.length : Int)).f2) ((Qf l1_5 (l2_0.length : Int)).f3) gb107 (wrap64 (t105 - t106)) t108 _ ?side1 ?side2 ?side3 A8.out).mono ?_); (case side1 => exact by refine pB ?_; refine Qx ?_ NB103_107.out _; (with_reducible repeat (first | refine Qt ?_ _ | refine Qh ?_ | refine blk_alloc ?_ _)); exact BK103.out); (case side2 => exact by refine pB ?_; refine Qg (cs := #[.int .i64 0]) ?_ 0 _ rfl; (with_reducible repeat (first | refine Qt ?_ _ | refine Qh ?_ | refine blk_alloc ?_ _)); exact BK107.out); (case side3 => exact NB103_107.out); rintro e w31 ⟨rfl, hb⟩; refine ⟨_, rfl, ?_⟩; replace BK1 := bf BK1 hb; replace BK2 := bf BK2 hb; replace BK101 := bf BK101 hb; replace BK103 := bf BK103 hb; replace BK107 := Qa.mk (QX (g := gb107) (o := .cells #[.int .i64 (wrap64 (t105 - t106))] 3 (0, 0)) (by refine pB ?_; refine Qg (cs := #[.int .i64 0]) ?_ 0 _ rfl; (with_reducible repeat (first | refine Qt ?_ _ | refine Qh ?_ | refine blk_alloc ?_ _)); exact BK107.out) hb); replace HB := bs HB hb; clear hb; have hcz32_0 : w31.cell? ⟨gb103, 0, none⟩ = some (.int .i64 ((Qf l1_5 (l2_0.length : Int)).f0.f0)) := (Qb BK103.out 0).trans rfl; have hcz32_1 : w31.cell? ⟨gb103, 1, none⟩ = some (.int .i64 ((Qf l1_5 (l2_0.length : Int)).f0.f1)) := (Qb BK103.out 1).trans rfl; have hcz32_2 : w31.cell? ⟨gb103, 2, none⟩ = some (.int .i64 ((Qf l1_5 (l2_0.length : Int)).f1)) := (Qb BK103.out 2).trans rfl; have hcz32_3 : w31.cell? ⟨gb103, 3, none⟩ = some (.int .i64 ((Qf l1_5 (l2_0.length : Int)).f2)) := (Qb BK103.out 3).trans rfl; have hcz32_4 : w31.cell? ⟨gb103, 4, none⟩ = some (.int .i64 ((Qf l1_5 (l2_0.length : Int)).f3)) := (Qb BK103.out 4).trans rfl; have hfz32_0 := Qq BK103.out 0; have hfz32_1 := Qq BK103.out 1; have hfz32_2 := Qq BK103.out 2; have hfz32_3 := Qq BK103.out 3; have hfz32_4 := Qq BK103.out 4) | (with_reducible refine JN ?_) | gi_step); refine Xs (n := 7) (y := 6) (S := fun w' => w'.cell? ⟨gb101, 0, none⟩ = some (.func (.yield l) #[] #[]) ∧ w'.cell? ⟨B2, 0, none⟩ = some (.slice A2_0 l2_0.length c2_0)) (ds := []) (fun a' w' => a'.defers = [] ∧ a'.eval (.tmp 57) = .func (.yield l) #[] #[] ∧ ∃ v, a'.eval (.tmp 62) = v ∧ w'.ownsRow w.heap.size 3 1 v (l2_0.length + 1) (nums .i64 (l2_0 ++ [t108])) ∧ Below w.heap.size w w') #[false, false, false, false, false, false, false] XB (fun _ => trivial) (by kernel_rfl) rfl rfl (by kernel_rfl) rfl rfl rfl ?last ⟨cz0 BK101, cz0 BK2⟩ (fun hHeld => ?_)
    case last =>
     rintro a' w' ⟨hd, h57, v, h62, hown', hb'⟩; have hyy := hY c9b0 v w' (hJ _ _ _ h0 (Jg.of_below hb')) (Zb hown' (Nat.zero_le _)) hb'.size; refine YP (x := .tmp 57) (ys := #[.tmp 62]) (vs := #[v]) rfl (fun _ => trivial) rfl h57 (by simp [h62]) (hyy.mono ?_); rintro e w2 (⟨rfl, hj⟩ | ⟨rfl, hj⟩)
     ·refine ⟨_, rfl, ?_⟩
      refine bodyPost_end (results_none rfl _ _ _) hd ⟨⟨_, rfl⟩, .inl ?_⟩; have hc1 : cnt = 1 := by rw [hcnt, c9b0]; rfl
      rw [hc1]; exact hj
     ·refine ⟨_, rfl, ?_⟩
      exact bodyPost_end (results_none rfl _ _ _) hd ⟨⟨_, rfl⟩, .inr ⟨hj, c9b0⟩⟩
    try simp only [List.take_succ_cons, List.take_zero, List.cons_append, List.nil_append]
    have hB0 := QM HB.out; have hown0 : w31.drew.ownsRow base 3 1 (.slice A2_0 l2_0.length c2_0) l2_0.length (nums .i64 l2_0) := J1 hown hB0; generalize w31.drew = w32 at hHeld hB0 hown0 ⊢; refine pu 3 60 ?_; refine tk 0 57 hHeld ?_; refine tk 1 58 hHeld ?_; refine two_ (i := 2) (j := 4) (Ni := some 59) (Nj := some 61) #[true, true, true, true, false, false, false] #[true, true, false, true, true, false, false] rfl rfl rfl rfl (by kernel_rfl) (by decide) (by decide) (fun K hK => ?_) (fun K hK => ?_)
    ·refine Xx Try.func75 (by kernel_rfl) rfl #[.slice A2_0 l2_0.length c2_0] (by rfl) rfl rfl (by (try simp only [List.map_toArray, List.map_cons, List.map_nil]); first | done | rfl) ?_
     refine (ZD _ _ _ HC2_0.out _).mono ?_; rintro e w8 ⟨rfl, hw8⟩; replace hw8 := hw8.symm; subst hw8; refine ⟨_, rfl, ?_⟩; refine hK.out _ _ hHeld (fun hHeld => ?_); clear hK K; refine QY (a' := ?_) ?_ ?_
     rotate_left
     ·show Act.put _ (some 59) _ = _
      simp only [Act.put, List.setIfInBounds_toArray, List.set_cons_zero, List.set_cons_succ, QR, QU]; rfl
     refine on 4 (fun K hK => ?_); refine JR (v := .slice (some ⟨w32.heap.size, 0, none⟩) 1 1) (w1 := w32.alloc (.cells #[.int .i64 t108] 3 (0, 0))) (by rfl) ?hr ?_
     case hr => first | (go_simp; done) | (go_simp; rfl)
     have hb9 : Below w32.heap.size w32 (w32.alloc (.cells #[.int .i64 t108] 3 (0, 0))) := QO (Below.refl _ _) _; have hcell : (w32.alloc (.cells #[.int .i64 t108] 3 (0, 0))).cell? ⟨w32.heap.size, 0, none⟩ = some (.int .i64 t108) := (Qb (World.alloc_heap_new _ _) 0).trans rfl; have hB1 := QV hB0 hb9; have hown1 := J1 hown0 hb9; have hHeld1 : (w32.alloc (.cells #[.int .i64 t108] 3 (0, 0))).cell? ⟨gb101, 0, none⟩ = some (.func (.yield l) #[] #[]) ∧ (w32.alloc (.cells #[.int .i64 t108] 3 (0, 0))).cell? ⟨B2, 0, none⟩ = some (.slice A2_0 l2_0.length c2_0) := ⟨(hb9.cell (World.block_lt_of_cell? _ _ hHeld.1)).trans hHeld.1, (hb9.cell (World.block_lt_of_cell? _ _ hHeld.2)).trans hHeld.2⟩; refine hK.out _ _ hHeld1 (fun hHeld2 => ?_); clear hK K; refine QY (a' := ?_) ?_ ?_
     rotate_left
     ·show Act.put _ (some 61) _ = _
      simp only [Act.put, List.setIfInBounds_toArray, List.set_cons_zero, List.set_cons_succ, QR, QU]; rfl
     refine on 5 (fun K hK => ?_); refine Zc (by rfl) rfl (.tmp 59) (.tmp 61) rfl rfl ⟨w32.heap.size, 0, none⟩ rfl hown1 rfl (by omega) t108 hcell (fun v1 w34 ho34 hb34 => ?_); have hHeld3 : w34.cell? ⟨gb101, 0, none⟩ = some (.func (.yield l) #[] #[]) ∧ w34.cell? ⟨B2, 0, none⟩ = some (.slice A2_0 l2_0.length c2_0) := ⟨(hb34.cell (World.block_lt_of_cell? _ _ hHeld1.1)).trans hHeld1.1, (hb34.cell (World.block_lt_of_cell? _ _ hHeld1.2)).trans hHeld1.2⟩; refine hK.out _ _ hHeld3 (fun hHeld4 => ?_); clear hK K; refine QY (a' := ?_) ?_ ?_
     rotate_left
     ·show Act.put _ (some 62) _ = _
      simp only [Act.put, List.setIfInBounds_toArray, List.set_cons_zero, List.set_cons_succ, QR, QU]; rfl
     refine on 6 (fun K hK => ?_); refine JR (v := .bool true) (w1 := w34) (by rfl) (by rfl) ?_; refine hK.out _ _ hHeld3 (fun hHeld4 => ?_); refine JD (by kernel_rfl) ?_; exact ⟨rfl, rfl, _, rfl, Zb ho34 (Nat.le_trans hB1.size (Nat.le_refl _)), QV hB1 hb34⟩
    ·refine JR (v := .slice (some ⟨w32.heap.size, 0, none⟩) 1 1) (w1 := w32.alloc (.cells #[.int .i64 t108] 3 (0, 0))) (by rfl) ?hr ?_
     case hr => first | (go_simp; done) | (go_simp; rfl)
     have hb9 : Below w32.heap.size w32 (w32.alloc (.cells #[.int .i64 t108] 3 (0, 0))) := QO (Below.refl _ _) _; have hcell : (w32.alloc (.cells #[.int .i64 t108] 3 (0, 0))).cell? ⟨w32.heap.size, 0, none⟩ = some (.int .i64 t108) := (Qb (World.alloc_heap_new _ _) 0).trans rfl; have hB1 := QV hB0 hb9; have hown1 := J1 hown0 hb9; have hHeld1 : (w32.alloc (.cells #[.int .i64 t108] 3 (0, 0))).cell? ⟨gb101, 0, none⟩ = some (.func (.yield l) #[] #[]) ∧ (w32.alloc (.cells #[.int .i64 t108] 3 (0, 0))).cell? ⟨B2, 0, none⟩ = some (.slice A2_0 l2_0.length c2_0) := ⟨(hb9.cell (World.block_lt_of_cell? _ _ hHeld.1)).trans hHeld.1, (hb9.cell (World.block_lt_of_cell? _ _ hHeld.2)).trans hHeld.2⟩; refine hK.out _ _ hHeld1 (fun hHeld2 => ?_); clear hK K; refine QY (a' := ?_) ?_ ?_
     rotate_left
     ·show Act.put _ (some 61) _ = _
      simp only [Act.put, List.setIfInBounds_toArray, List.set_cons_zero, List.set_cons_succ, QR, QU]; rfl
     refine on 2 (fun K hK => ?_); refine Xx Try.func75 (by kernel_rfl) rfl #[.slice A2_0 l2_0.length c2_0] (by rfl) rfl rfl (by (try simp only [List.map_toArray, List.map_cons, List.map_nil]); first | done | rfl) ?_; refine (ZD _ _ _ HC2_0.out _).mono ?_; rintro e w8 ⟨rfl, hw8⟩; replace hw8 := hw8.symm; subst hw8; refine ⟨_, rfl, ?_⟩; refine hK.out _ _ hHeld1 (fun hHeld => ?_); clear hK K; refine QY (a' := ?_) ?_ ?_
     rotate_left
     ·show Act.put _ (some 59) _ = _
      simp only [Act.put, List.setIfInBounds_toArray, List.set_cons_zero, List.set_cons_succ, QR, QU]; rfl
     refine on 5 (fun K hK => ?_); refine Zc (by rfl) rfl (.tmp 59) (.tmp 61) rfl rfl ⟨w32.heap.size, 0, none⟩ rfl hown1 rfl (by omega) t108 hcell (fun v1 w34 ho34 hb34 => ?_); have hHeld3 : w34.cell? ⟨gb101, 0, none⟩ = some (.func (.yield l) #[] #[]) ∧ w34.cell? ⟨B2, 0, none⟩ = some (.slice A2_0 l2_0.length c2_0) := ⟨(hb34.cell (World.block_lt_of_cell? _ _ hHeld1.1)).trans hHeld1.1, (hb34.cell (World.block_lt_of_cell? _ _ hHeld1.2)).trans hHeld1.2⟩; refine hK.out _ _ hHeld3 (fun hHeld4 => ?_); clear hK K; refine QY (a' := ?_) ?_ ?_
     rotate_left
     ·show Act.put _ (some 62) _ = _
      simp only [Act.put, List.setIfInBounds_toArray, List.set_cons_zero, List.set_cons_succ, QR, QU]; rfl
     refine on 6 (fun K hK => ?_); refine JR (v := .bool true) (w1 := w34) (by rfl) (by rfl) ?_; refine hK.out _ _ hHeld3 (fun hHeld4 => ?_); refine JD (by kernel_rfl) ?_; exact ⟨rfl, rfl, _, rfl, Zb ho34 (Nat.le_trans hB1.size (Nat.le_refl _)), QV hB1 hb34⟩
   ·have c9b0 : decide (t108 ≤ ((Qf l1_5 (l2_0.length : Int)).f3)) = false := decide_eq_false c9
    go_wp2_with (first | ((with_reducible refine gc 42 rfl ?_); refine gL 52 Try.func42 #[.int .i64 (wrap64 (((Qf l1_5 (l2_0.length : Int)).f3) + 1)), .func (.func 76) #[] #[.pointer (some ⟨gb103, 0, none⟩), .pointer (some ⟨gb107, 0, none⟩)]] ?_; (with_reducible refine (Qo.calls k (wrap64 (((Qf l1_5 (l2_0.length : Int)).f3) + 1)) gb103 ((Qf l1_5 (l2_0.length : Int)).f0.f0) ((Qf l1_5 (l2_0.length : Int)).f0.f1) ((Qf l1_5 (l2_0.length : Int)).f1) ((Qf l1_5 (l2_0.length : Int)).f2) ((Qf l1_5 (l2_0.length : Int)).f3) gb107 (wrap64 (t105 - t106)) t108 _ ?side1 ?side2 ?side3 A8.out).mono ?_); (case side1 => exact by refine pB ?_; refine Qx ?_ NB103_107.out _; (with_reducible repeat (first | refine Qt ?_ _ | refine Qh ?_ | refine blk_alloc ?_ _)); exact BK103.out); (case side2 => exact by refine pB ?_; refine Qg (cs := #[.int .i64 0]) ?_ 0 _ rfl; (with_reducible repeat (first | refine Qt ?_ _ | refine Qh ?_ | refine blk_alloc ?_ _)); exact BK107.out); (case side3 => exact NB103_107.out); rintro e w31 ⟨rfl, hb⟩; refine ⟨_, rfl, ?_⟩; replace BK1 := bf BK1 hb; replace BK2 := bf BK2 hb; replace BK101 := bf BK101 hb; replace BK103 := bf BK103 hb; replace BK107 := Qa.mk (QX (g := gb107) (o := .cells #[.int .i64 (wrap64 (t105 - t106))] 3 (0, 0)) (by refine pB ?_; refine Qg (cs := #[.int .i64 0]) ?_ 0 _ rfl; (with_reducible repeat (first | refine Qt ?_ _ | refine Qh ?_ | refine blk_alloc ?_ _)); exact BK107.out) hb); replace HB := bs HB hb; clear hb; have hcz32_0 : w31.cell? ⟨gb103, 0, none⟩ = some (.int .i64 ((Qf l1_5 (l2_0.length : Int)).f0.f0)) := (Qb BK103.out 0).trans rfl; have hcz32_1 : w31.cell? ⟨gb103, 1, none⟩ = some (.int .i64 ((Qf l1_5 (l2_0.length : Int)).f0.f1)) := (Qb BK103.out 1).trans rfl; have hcz32_2 : w31.cell? ⟨gb103, 2, none⟩ = some (.int .i64 ((Qf l1_5 (l2_0.length : Int)).f1)) := (Qb BK103.out 2).trans rfl; have hcz32_3 : w31.cell? ⟨gb103, 3, none⟩ = some (.int .i64 ((Qf l1_5 (l2_0.length : Int)).f2)) := (Qb BK103.out 3).trans rfl; have hcz32_4 : w31.cell? ⟨gb103, 4, none⟩ = some (.int .i64 ((Qf l1_5 (l2_0.length : Int)).f3)) := (Qb BK103.out 4).trans rfl; have hfz32_0 := Qq BK103.out 0; have hfz32_1 := Qq BK103.out 1; have hfz32_2 := Qq BK103.out 2; have hfz32_3 := Qq BK103.out 3; have hfz32_4 := Qq BK103.out 4) | (with_reducible refine JN ?_) | gi_step)
    go_end0
    have hc0 : cnt = 0 := by rw [hcnt, c9b0]; rfl
    have hj := hJ _ _ _ h0 (Jg.of_below HB.out)
    first
     | exact ⟨⟨_, rfl⟩, hj⟩
     | exact ⟨⟨_, rfl⟩, .inl hj⟩
     | (rw [hc0]; exact ⟨⟨_, rfl⟩, .inl hj⟩)
     | (rw [hc0]; exact ⟨⟨_, rfl⟩, hj⟩)
  ·rw [if_neg c5] at H
   exact absurd H (by simp)
 ·rw [if_neg c4] at H
  exact absurd H (by simp)
def mk (D : Nat) : Deferred := { target := .collected D, args := #[] }
inductive JQ (lo : Nat) : List Nat → World → Prop
 | nil (W : World) : JQ lo [] W
 | cons {D : Nat} {Ds : List Nat} {W : World} (h : W.heap[D]? = some (.deferred (some []))) (hlo : lo ≤ D) (hd : ∀ E ∈ Ds, E ≠ D) (t : JQ lo Ds W) : JQ lo (D :: Ds) W
theorem JQ.keep {lo : Nat} {Ds : List Nat} {W W' : World} (h : JQ lo Ds W) (hk : ∀ D ∈ Ds, lo ≤ D → W.heap[D]? = some (.deferred (some [])) → W'.heap[D]? = some (.deferred (some []))) : JQ lo Ds W' := by
 induction h with
 | nil => exact .nil _
 | cons h hlo hd t ih => exact .cons (hk _ (List.mem_cons_self ..) hlo h) hlo hd (ih fun D hD => hk D (List.mem_cons_of_mem _ hD))
theorem JQ.leaves {lo n : Nat} {P : Program} {fn : Func} {tmps : Array Value} {R : Ending → World → Prop} {Ds : List Nat} :
  ∀ {W : World}, JQ lo Ds W → (∀ W', Jg lo lo 0 W W' → ∃ v, (results fn tmps).run P W' = .ok v W' ∧ R (.returned v) W') → LeavesInM Fence.wide n P fn tmps R (Ds.map mk) .returning W := by
 induction Ds with
 | nil =>
  intro W h hR; exact hR _ (Jg.refl _ _ _ _)
 | cons D Ds ih =>
  intro W h hR
  cases h with
  | cons h hlo hd t =>
   refine ⟨by simp, .inl ⟨D, _, rfl, run_takeDeferred h, ?_⟩⟩; refine ih (t.keep fun E hE _ he => (World.putObj_heap_other (hd E hE)).trans he) fun W' hs => hR W' ((JV _ h rfl hlo).trans hs)
set_option maxHeartbeats 1000000 in
theorem Xt (a0_0 a0_1 a0_2 a0_3 a0_4 : Int) (A0 : Option Addr) (n0 c0 : Nat) (A1 : Option Addr) (n1 c1 : Nat) (w : World) :
  Calls Try.prog 62 #[.agg #[.int .i64 a0_0, .int .i64 a0_1, .int .i64 a0_2, .int .i64 a0_3, .int .i64 a0_4, .slice A0 n0 c0], .slice A1 n1 c1] w fun e w' => e = .returned (.func (.func 74) #[] #[.pointer (some ⟨w.heap.size, 0, none⟩), .pointer (some ⟨w.heap.size + 1, 0, none⟩)]) ∧
   w' = (w.alloc (.cells #[.int .i64 a0_0, .int .i64 a0_1, .int .i64 a0_2, .int .i64 a0_3, .int .i64 a0_4, .slice A0 n0 c0] 75)).alloc (.cells #[.slice A1 n1 c1] 24) := by
 have hu75 := Try.underlying75; have hu40 := Try.underlying40; go_enter Try.func62, Try.ntmps62; go_wp2; go_ret; exact ⟨rfl, rfl⟩
theorem Yj {β : Type} {fl : Nat → Option (List β)} {H : Nat} {xs : List β} (h : catO fl H = some xs) : ∀ p, p ≤ H → ∃ ys rs, catO fl p = some ys ∧ xs = ys ++ rs := by
  induction H generalizing xs with
  | zero => intro p hp; obtain rfl : p = 0 := by omega
            exact ⟨xs, [], h, by simp⟩
  | succ H ih =>
    intro p hp; simp only [catO] at h; obtain ⟨a, ha, h⟩ := Option.bind_eq_some_iff.1 h; obtain ⟨b, hb, h⟩ := Option.bind_eq_some_iff.1 h; obtain rfl := Option.some.inj h; by_cases e : p = H + 1
    · subst e; exact ⟨a ++ b, [], by simp [catO, ha, hb], by simp⟩
    · obtain ⟨ys, rs, h1, h2⟩ := ih ha p (by omega)
      exact ⟨ys, rs ++ b, h1, by rw [h2]; simp⟩
def RvM (x : List Int) (vs : Array Value) (W : World) : Prop := ∃ v, vs = #[v] ∧ W.ownsRow 0 3 1 v x.length (nums .i64 x)
structure Cap (B1 B2 : Nat) (a0 a1 a2 a3 a4 : Int) (A0 : Option Addr) (c0 : Nat) (l0 : List S83) (A1 : Option Addr) (c1 : Nat) (m : List Int) (W : World) : Prop where
 b1 : W.heap[B1]? = some (.cells #[.int .i64 a0, .int .i64 a1, .int .i64 a2, .int .i64 a3, .int .i64 a4, .slice A0 l0.length c0] 75 (0, 0))
 b2 : W.heap[B2]? = some (.cells #[.slice A1 m.length c1] 24 (0, 0))
 r0 : Kd.C k83 W A0 l0.length l0
 own : W.ownsRow 0 3 1 (.slice A1 m.length c1) m.length (nums .i64 m)
theorem RvM.istep {x : List Int} {vs : Array Value} {W W' : World} {b lo : Nat} (h : RvM x vs W) (k : Jg b lo 0 W W') : RvM x vs W' := by
 obtain ⟨v, hv, ho⟩ := h; refine ⟨v, hv, Xv ho fun g hg => ?_⟩; obtain ⟨cells, hc⟩ := Zp ho g hg; rw [hc]; exact k.same g _ hc (fun h3 => by omega) (fun _ => rfl)
theorem JQ.lt {lo : Nat} {Ds : List Nat} {W : World} (h : JQ lo Ds W) : ∀ D ∈ Ds, D < W.heap.size := by
 induction h with
 | nil => intro D hD; cases hD
 | cons h hlo hd t ih => intro D hD; rcases List.mem_cons.1 hD with rfl | hD; exact (Array.getElem?_eq_some_iff.1 h).1; exact ih D hD
theorem JQ.istep {lo b l2 : Nat} {Ds : List Nat} {W W' : World} (h : JQ lo Ds W) (k : Jg b l2 0 W W') (hb : ∀ D ∈ Ds, D < b) : JQ lo Ds W' :=
 h.keep fun D hD _ ho => k.same D _ ho (fun h3 => by omega) (fun h3 => by have := hb D hD; omega)
def H6 (B1 B2 : Nat) (a0 a1 a2 a3 a4 : Int) (s0 s1 : Value) (w' : World) : Prop := w'.cell? ⟨B1, 0, none⟩ = some (.int .i64 a0) ∧ w'.cell? ⟨B1, 1, none⟩ = some (.int .i64 a1) ∧ w'.cell? ⟨B1, 2, none⟩ = some (.int .i64 a2) ∧ w'.cell? ⟨B1, 3, none⟩ = some (.int .i64 a3) ∧ w'.cell? ⟨B1, 4, none⟩ = some (.int .i64 a4) ∧ w'.cell? ⟨B1, 5, none⟩ = some s0 ∧ w'.cell? ⟨B2, 0, none⟩ = some s1
theorem H6.step {B1 B2 : Nat} {a0 a1 a2 a3 a4 : Int} {s0 s1 : Value} {W W' : World} (h : H6 B1 B2 a0 a1 a2 a3 a4 s0 s1 W) (hb : Below W.heap.size W W') : H6 B1 B2 a0 a1 a2 a3 a4 s0 s1 W' := by
 obtain ⟨h0, h1, h2, h3, h4, h5, h6⟩ := h; have g : ∀ {a : Addr} {v : Value}, W.cell? a = some v → W'.cell? a = some v := fun hc => (hb.cell (World.block_lt_of_cell? _ _ hc)).trans hc
 exact ⟨g h0, g h1, g h2, g h3, g h4, g h5, g h6⟩
attribute [local go_sem] Oper.semAt_some
set_option maxHeartbeats 16000000 in
set_option maxRecDepth 100000 in
theorem YJ (l n B1 : Nat) (a0 a1 a2 a3 a4 : Int) (A0 : Option Addr) (c0 : Nat) (l0 : List S83) (B2 : Nat) (A1 : Option Addr) (c1 : Nat) (m : List Int) (w : World) (n₀ : Nat) (Ex : Nat → Prop) (hn₀ : n₀ ≤ w.heap.size)
    (hC : ∀ W', w.heap.size ≤ W'.heap.size → (∀ k, k < n₀ → ¬ Ex k → W'.heap[k]? = w.heap[k]?) → Cap B1 B2 a0 a1 a2 a3 a4 A0 c0 l0 A1 c1 m W')
    (hc0 : l0.length ≤ c0) (hc1 : m.length ≤ c1) (hlen : m.length + 1 < l0.length) (h4 : l0.length ≤ 4) (h1 : 0 ≤ (Qf l0 m.length).f3) (h2 : (Qf l0 m.length).f3 ≤ 1000)
    (fl : Nat → Option (List (List Int))) (xs : List (List Int)) (h : catO fl ((Qf l0 m.length).f3 + 1).toNat = some xs)
    (IH : ∀ (p : Nat) (xs' : List (List Int)) (n' : Nat) (W : World) (B1' B2' : Nat) (A1' : Option Addr) (c1' : Nat) (Ex' : Nat → Prop), fl p = some xs' → B1' ≠ B2' → (m ++ [(p : Int)]).length ≤ c1' →
      (∀ W', W.heap.size ≤ W'.heap.size → (∀ k, k < W.heap.size → ¬ Ex' k → W'.heap[k]? = W.heap[k]?) → Cap B1' B2' a0 a1 a2 a3 a4 A0 c0 l0 A1' c1' (m ++ [(p : Int)]) W') →
      X1 Fence.wide n' Try.prog 74 #[.pointer (some ⟨B1', 0, none⟩), .pointer (some ⟨B2', 0, none⟩)] xs' RvM Ex' 0 (fun _ => True) W)
    (J Jx : Nat → World → Prop) (hJ : Stab w.heap.size w.heap.size 0 J) (hJx : Stab w.heap.size w.heap.size 0 Jx) (h0 : J 0 w)
    (hY : ∀ i x vs W1, xs[i]? = some x → J i W1 → RvM x vs W1 → w.heap.size ≤ W1.heap.size → YieldAt Fence.wide (n - 1) Try.prog l vs W1 fun e W' => (e = .returned (.bool true) ∧ J (i + 1) W' ∧ JF n₀ Ex w.heap.size (fun _ => True) W1 W') ∨ (e = .returned (.bool false) ∧ Jx (i + 1) W' ∧ JF n₀ Ex w.heap.size (fun _ => True) W1 W')) :
    CallsIn Fence.wide n Try.prog 74 #[.func (.yield l) #[] #[], .pointer (some ⟨B1, 0, none⟩), .pointer (some ⟨B2, 0, none⟩)] w fun e W' => (∃ v, e = .returned v) ∧ (J xs.length W' ∨ ∃ i, i ≤ xs.length ∧ Jx i W') := by
  have hcond : decide ((m.length : Int) < (l0.length : Int) - 1) = true := decide_eq_true (by omega); have hCw := hC w (Nat.le_refl _) (fun _ _ _ => rfl); have hb1 := hCw.b1; have hb2 := hCw.b2; have hr0 := hCw.r0; have hown := hCw.own; have hcz5 : w.cell? ⟨B1, 5, none⟩ = some (.slice A0 l0.length c0) := (Qb hb1 5).trans rfl; have hcz6 : w.cell? ⟨B2, 0, none⟩ = some (.slice A1 m.length c1) := (Qb hb2 0).trans rfl; obtain ⟨ad, hA0, hx0, hx1, hx2, hx3, hx4⟩ := Zf hr0 (m.length : Int) (by omega) (by omega); subst hA0; have p1 : (0 ≤ (m.length : Int)) = True := eq_true (by omega); have q1 : ((m.length : Int) < (l0.length : Int)) = True := eq_true (by omega); simp only [Int.toNat_natCast] at hx0 hx1 hx2 hx3 hx4; have hB := Below.refl w.heap.size w; refine callsIn_of_wp_marks Try.func74 rfl trivial ?_ rfl; simp only [Try.ntmps74, List.size_toArray, List.length_cons, List.length_nil, Nat.reduceAdd, Nat.reduceSub, Array.replicate_succ, Array.replicate_zero, List.push_toArray, List.append_toArray, List.nil_append, List.cons_append]
  go_wp2_with (first
    | ((with_reducible refine gd 3 ?_); refine Jl ?hg (N := 3) ?hd (cs := #[.func (.yield l) #[] #[]]) (t := 118) ?hr ?_; (case hd => rfl); (case hg => rfl); (case hr => first | (go_simp; done) | (go_simp; rfl)); intro gb hg w4 hbox hb
       replace hcz5 := (hb.cell (World.block_lt_of_cell? _ _ hcz5)).trans hcz5; replace hcz6 := (hb.cell (World.block_lt_of_cell? _ _ hcz6)).trans hcz6; replace hx0 := (hb.cell (World.block_lt_of_cell? _ _ hx0)).trans hx0; replace hx1 := (hb.cell (World.block_lt_of_cell? _ _ hx1)).trans hx1; replace hx2 := (hb.cell (World.block_lt_of_cell? _ _ hx2)).trans hx2; replace hx3 := (hb.cell (World.block_lt_of_cell? _ _ hx3)).trans hx3; replace hx4 := (hb.cell (World.block_lt_of_cell? _ _ hx4)).trans hx4; replace hB := QV hB hb)
    | ((with_reducible refine gd 15 ?_)
       obtain ⟨o5, ho5⟩ : ∃ o_ : Obj, o_ = .cells #[.int .i64 (Qf l0 m.length).f0.f0, .int .i64 (Qf l0 m.length).f0.f1, .int .i64 (Qf l0 m.length).f1, .int .i64 (Qf l0 m.length).f2, .int .i64 (Qf l0 m.length).f3] 83 := ⟨_, rfl⟩
       rw [← ho5]; have hb5 : Below w4.heap.size w4 (w4.alloc o5) := QO (Below.refl _ _) _; have hs5 : (w4.alloc o5).heap[w4.heap.size]? = some o5 := World.alloc_heap_new _ _; have hz5 : (w4.alloc o5).heap.size = w4.heap.size + 1 := World.size_alloc _ _; replace hcz5 := (hb5.cell (World.block_lt_of_cell? _ _ hcz5)).trans hcz5; replace hcz6 := (hb5.cell (World.block_lt_of_cell? _ _ hcz6)).trans hcz6; replace hbox := (hb5.block _ (Array.getElem?_eq_some_iff.1 hbox).1).trans hbox; replace hB := QV hB hb5; clear hx0 hx1 hx2 hx3 hx4 hb; generalize w4.alloc o5 = w5 at hcz5 hcz6 hbox hB hs5 hz5 hb5 ⊢; rw [ho5] at hs5; clear ho5; have hsf : w5.cell? ⟨w4.heap.size, 4, none⟩ = some (.int .i64 (Qf l0 m.length).f3) := (Qb hs5 4).trans rfl)
    | (with_reducible refine JN ?_) | gi_step)
  obtain ⟨H, hH⟩ : ∃ H : Nat, H = ((Qf l0 m.length).f3 + 1).toNat := ⟨_, rfl⟩
  rw [← hH] at h; have hcat : ∀ p, p ≤ H → ∃ ys rs, catO fl p = some ys ∧ xs = ys ++ rs := Yj h
  obtain ⟨cnt, hcnt⟩ : ∃ cnt : Nat → Nat, cnt = fun p => ((catO fl p).getD []).length := ⟨_, rfl⟩
  obtain ⟨act, hact⟩ : ∃ act : Value → Value → Value → Value → Value → Value → Value → Value → Value → Value → Value → Value → List Deferred → Act, act = fun x5 x25 x26 x27 x28 x29 x30 x31 x32 x33 x34 x40 ds => { tmps := #[.func (.yield l) #[] #[], .pointer (some ⟨B1, 0, none⟩), .pointer (some ⟨B2, 0, none⟩), .pointer (some ⟨w.heap.size, 0, none⟩), .pointer (some ⟨w4.heap.size, 0, none⟩), x5, undef, undef, undef, .pointer (some ⟨B1, 5, none⟩), .slice (some ad) l0.length c0, .slice A1 m.length c1, .int .i64 (m.length : Int), .pointer (some (ad.add (m.length * 5))), .agg #[.int .i64 (Qf l0 m.length).f0.f0, .int .i64 (Qf l0 m.length).f0.f1, .int .i64 (Qf l0 m.length).f1, .int .i64 (Qf l0 m.length).f2, .int .i64 (Qf l0 m.length).f3], .slice A1 m.length c1, .int .i64 (m.length : Int), .pointer (some ⟨B1, 5, none⟩), .slice (some ad) l0.length c0, .int .i64 (l0.length : Int), .int .i64 ((l0.length : Int) - 1), .bool true, .pointer (some ⟨w4.heap.size, 4, none⟩), .int .i64 (Qf l0 m.length).f3, .int .i64 ((Qf l0 m.length).f3 + 1), x25, x26, x27, x28, x29, x30, x31, x32, x33, x34, undef, undef, undef, undef, undef, x40, undef, undef, undef, undef, undef, undef, undef, undef, undef, undef, undef, undef, undef, undef, undef, undef, undef, undef, undef, undef, undef, undef, undef], defers := ds } := ⟨_, rfl⟩
  have hactE : ∀ x5 x25 x26 x27 x28 x29 x30 x31 x32 x33 x34 x40 ds, act x5 x25 x26 x27 x28 x29 x30 x31 x32 x33 x34 x40 ds = { tmps := #[.func (.yield l) #[] #[], .pointer (some ⟨B1, 0, none⟩), .pointer (some ⟨B2, 0, none⟩), .pointer (some ⟨w.heap.size, 0, none⟩), .pointer (some ⟨w4.heap.size, 0, none⟩), x5, undef, undef, undef, .pointer (some ⟨B1, 5, none⟩), .slice (some ad) l0.length c0, .slice A1 m.length c1, .int .i64 (m.length : Int), .pointer (some (ad.add (m.length * 5))), .agg #[.int .i64 (Qf l0 m.length).f0.f0, .int .i64 (Qf l0 m.length).f0.f1, .int .i64 (Qf l0 m.length).f1, .int .i64 (Qf l0 m.length).f2, .int .i64 (Qf l0 m.length).f3], .slice A1 m.length c1, .int .i64 (m.length : Int), .pointer (some ⟨B1, 5, none⟩), .slice (some ad) l0.length c0, .int .i64 (l0.length : Int), .int .i64 ((l0.length : Int) - 1), .bool true, .pointer (some ⟨w4.heap.size, 4, none⟩), .int .i64 (Qf l0 m.length).f3, .int .i64 ((Qf l0 m.length).f3 + 1), x25, x26, x27, x28, x29, x30, x31, x32, x33, x34, undef, undef, undef, undef, undef, x40, undef, undef, undef, undef, undef, undef, undef, undef, undef, undef, undef, undef, undef, undef, undef, undef, undef, undef, undef, undef, undef, undef, undef], defers := ds } := fun _ _ _ _ _ _ _ _ _ _ _ _ _ => by rw [hact]
  have hJ5 : J 0 w5 := hJ _ _ _ h0 (Jg.of_below hB); have hcell6 : ∀ W, JF n₀ Ex w.heap.size (fun _ => True) w5 W → Cap B1 B2 a0 a1 a2 a3 a4 (some ad) c0 l0 A1 c1 m W := fun W hk => hC W (Nat.le_trans hB.size hk.size) (fun k hk0 hx => (hk.same k (Nat.lt_of_lt_of_le hk0 (Nat.le_trans hn₀ hB.size)) (.inl ⟨hk0, hx⟩)).trans (hB.block k (Nat.lt_of_lt_of_le hk0 hn₀)))
  refine wpIn_loop (fun a' W => ∃ (p : Nat) (ds : List Nat) (x5 x26 x27 x28 x29 x30 x31 x32 x33 x34 x40 : Value), p ≤ H ∧ a' = act x5 (.int .i64 (p : Int)) x26 x27 x28 x29 x30 x31 x32 x33 x34 x40 (ds.map mk) ∧ J (cnt p) W ∧ JF n₀ Ex w.heap.size (fun _ => True) w5 W ∧ JQ w.heap.size ds W) (fun a' _ => H - (intOf (a'.tmps.getD 25 undef)).toNat) ?start ?round
  case start => exact ⟨0, [], undef, undef, undef, undef, undef, undef, undef, undef, undef, undef, undef, Nat.zero_le _, by rw [hactE]; rfl, by rw [hcnt]; exact hJ5, JF.refl _ _ _ _ _, .nil _⟩
  case round =>
    rintro a' W ⟨p, ds, x5, x26, x27, x28, x29, x30, x31, x32, x33, x34, x40, hp, rfl, hj, hk, hm⟩; have hcap := Qa.mk (hcell6 W hk); have AH := Qa.mk hH; have ACnt := Qa.mk hcnt; have Ah := Qa.mk h; have AC := Qa.mk hC; have AIH := Qa.mk IH; have AJ := Qa.mk hJ; have AJx := Qa.mk hJx; have AY := Qa.mk hY; have Acat := Qa.mk hcat; have Ac6 := Qa.mk hcell6; have AE := Qa.mk hactE; have AB := Qa.mk hB; have Aj := Qa.mk hj; have Ak := Qa.mk hk; have Am := Qa.mk hm; have Ap := Qa.mk hp; have G1 := Qa.mk h1; have G2 := Qa.mk h2; have G4 := Qa.mk h4; have Al := Qa.mk hlen; have An := Qa.mk hn₀; have Ac1 := Qa.mk hc1; have Ac0 := Qa.mk hc0; have Abox := Qa.mk (show w5.heap[w.heap.size]? = some (.cells #[.func (.yield l) #[] #[]] 118 (0, 0)) from hg ▸ hbox); clear hcell6 hH hcnt h hC IH hJ hJx hY hcat hactE hB hj hk hm hp h1 h2 h4 hlen hn₀ hc1 hc0 hact hb1 hb2 hr0 hown hcz5 hcz6 hsf hs5 hb5 hz5 hbox hCw h0 hJ5; rw [AE.out]; by_cases hlt : p < H
    · have hd : decide ((p : Int) < (Qf l0 m.length).f3 + 1) = true := decide_eq_true (by have := AH.out; have := G1.out; omega)
      clear hlt; go_wp2_with (first | (with_reducible refine JN ?_) | gi_step); refine Xs (n := 7) (y := 6) (S := H6 B1 B2 a0 a1 a2 a3 a4 (.slice (some ad) l0.length c0) (.slice A1 m.length c1)) (ds := []) (fun a' w' => ∃ x32 v1, a' = act (.int .i64 (p : Int)) (.int .i64 (p : Int)) (.bool true) (.int .i64 (p : Int)) (.agg #[.int .i64 a0, .int .i64 a1, .int .i64 a2, .int .i64 a3, .int .i64 a4, .slice (some ad) l0.length c0]) (.slice A1 m.length c1) (.slice A1 m.length m.length) (.int .i64 (p : Int)) x32 v1 x34 x40 (ds.map mk) ∧ w'.ownsRow W.heap.size 3 1 v1 (m.length + 1) (nums .i64 (m ++ [(p : Int)])) ∧ Below W.heap.size W w') #[false, false, false, false, false, false, false] XB (fun _ => trivial) (by kernel_rfl) rfl rfl (by kernel_rfl) rfl rfl rfl ?last ⟨(Qb hcap.out.b1 0).trans rfl, (Qb hcap.out.b1 1).trans rfl, (Qb hcap.out.b1 2).trans rfl, (Qb hcap.out.b1 3).trans rfl, (Qb hcap.out.b1 4).trans rfl, (Qb hcap.out.b1 5).trans rfl, (Qb hcap.out.b2 0).trans rfl⟩ (fun hHeld => ?_)
      case last =>
        rintro a' w6 ⟨x32, v1, rfl, ho6, hb6⟩; obtain ⟨A6, c6, rfl⟩ := XT ho6; refine YK Try.func62 (by kernel_rfl) rfl #[.agg #[.int .i64 a0, .int .i64 a1, .int .i64 a2, .int .i64 a3, .int .i64 a4, .slice (some ad) l0.length c0], .slice A6 (m.length + 1) c6] rfl (by rw [AE.out]; simp only [List.map_toArray, List.map_cons, List.map_nil]; rfl) (N := some 34) rfl ?_; refine (Xt a0 a1 a2 a3 a4 (some ad) l0.length c0 A6 (m.length + 1) c6 w6).mono ?_; rintro e w7 ⟨rfl, hw7⟩; refine ⟨_, rfl, ?_⟩; rw [AE.out]; simp only [Act.put, List.setIfInBounds_toArray, List.set_cons_zero, List.set_cons_succ, Exit.then]; go_wp2_with (first | (with_reducible refine JN ?_) | gi_step); have hz7 : w7.heap.size = w6.heap.size + 2 := by rw [hw7]; simp
        have hb67 : Below w6.heap.size w6 w7 := by rw [hw7]; exact ((Below.refl _ w6).alloc (Nat.le_refl _) _).alloc (by simp) _
        have hB17 : w7.heap[w6.heap.size]? = some (.cells #[.int .i64 a0, .int .i64 a1, .int .i64 a2, .int .i64 a3, .int .i64 a4, .slice (some ad) l0.length c0] 75 (0, 0)) := by
          rw [hw7]; exact (Below.heap_alloc _ _ _ (by simp)).trans (World.alloc_heap_new _ _)
        have hB27 : w7.heap[w6.heap.size + 1]? = some (.cells #[.slice A6 (m.length + 1) c6] 24 (0, 0)) := by
          rw [hw7]; have := World.alloc_heap_new (w6.alloc (.cells #[.int .i64 a0, .int .i64 a1, .int .i64 a2, .int .i64 a3, .int .i64 a4, .slice (some ad) l0.length c0] 75)) (.cells #[.slice A6 (m.length + 1) c6] 24); rwa [World.size_alloc] at this
        clear hw7; have hb7 := QV hb6 hb67; have ho7 := J1 ho6 hb67; have hwW : w.heap.size ≤ W.heap.size := Nat.le_trans AB.out.size Ak.out.size; have hw67 : W.heap.size ≤ w6.heap.size := hb6.size; obtain ⟨Ex', hEx'⟩ : ∃ Ex' : Nat → Prop, Ex' = fun k => ¬ (k < n₀ ∧ ¬ Ex k ∨ w.heap.size ≤ k) := ⟨_, rfl⟩
        obtain ⟨xs', hxs', hcnt1, hcle, hget⟩ : ∃ xs', fl p = some xs' ∧ cnt (p + 1) = cnt p + xs'.length ∧ cnt p + xs'.length ≤ xs.length ∧ ∀ i x, xs'[i]? = some x → xs[cnt p + i]? = some x := by
          obtain ⟨ys, rs, h1, h2⟩ := Acat.out (p + 1) (by have := of_decide_eq_true hd; have := AH.out; omega); have h3 := h1; simp only [catO] at h3; obtain ⟨a, ha, h3⟩ := Option.bind_eq_some_iff.1 h3; obtain ⟨b, hb, h3⟩ := Option.bind_eq_some_iff.1 h3; obtain rfl := Option.some.inj h3; refine ⟨b, hb, by rw [ACnt.out]; simp only [h1, ha, Option.getD_some, List.length_append], by rw [ACnt.out, h2]; simp only [ha, Option.getD_some, List.length_append]; omega, fun i x hx => ?_⟩; have hca : cnt p = a.length := by rw [ACnt.out]; simp only [ha, Option.getD_some]
          rw [h2, hca, List.append_assoc, List.getElem?_append_right (by omega), Nat.add_sub_cancel_left, List.getElem?_append_left (Array.getElem?_eq_some_iff.1 (by simpa using hx : b.toArray[i]? = some x)).1]; exact hx
        have hcap7 : ∀ W', w7.heap.size ≤ W'.heap.size → (∀ k, k < w7.heap.size → ¬ Ex' k → W'.heap[k]? = w7.heap[k]?) → Cap w6.heap.size (w6.heap.size + 1) a0 a1 a2 a3 a4 (some ad) c0 l0 A6 c6 (m ++ [(p : Int)]) W' := by
          intro W' hsz hsame; have hold : ∀ k, k < w7.heap.size → w.heap.size ≤ k → W'.heap[k]? = w7.heap[k]? := fun k hk hwk => hsame k hk (by rw [hEx']; exact fun hn => hn (.inr hwk))
          have hlenp : (m ++ [(p : Int)]).length = m.length + 1 := by simp
          refine ⟨(hold _ (by omega) (by omega)).trans hB17, ?_, ?_, ?_⟩
          · rw [hlenp]; exact (hold _ (by omega) (by omega)).trans hB27
          · refine (AC.out W' (by have := hb7.size; omega) fun k hk0 hx => ?_).r0
            have hk5 : k < w5.heap.size := Nat.lt_of_lt_of_le hk0 (Nat.le_trans An.out AB.out.size); have hkW : k < W.heap.size := Nat.lt_of_lt_of_le hk5 Ak.out.size; exact (hsame k (Nat.lt_of_lt_of_le hkW hb7.size) (by rw [hEx']; exact fun hn => hn (.inl ⟨hk0, hx⟩))).trans ((hb7.block k hkW).trans ((Ak.out.same k hk5 (.inl ⟨hk0, hx⟩)).trans (AB.out.block k (Nat.lt_of_lt_of_le hk0 An.out))))
          · rw [hlenp]
            exact Xv (Zb ho7 (Nat.zero_le _)) fun g hg => hold g (Yd ho7 g hg) (Nat.le_trans hwW (ZN ho7 g hg))
        have hseq := AIH.out p xs' (n - 1) w7 w6.heap.size (w6.heap.size + 1) A6 c6 Ex' hxs' (by omega) (by have := X7 ho6; simpa using this) hcap7
        refine ZW (xs := xs') (Rv := RvM) (Ex := Ex') (c := 0) (E := fun _ => True) (w0 := w7) rfl (fun h0 => by cases h0) (gf := 74) rfl trivial (fun args w => Zt Try.func74 (by kernel_rfl) rfl args w) hseq (Below.refl _ _) (fun x vs W h => by obtain ⟨v, rfl, _⟩ := h; rfl)
          (fun i W' => J (cnt p + i) W' ∧ JF n₀ Ex w.heap.size (fun _ => True) w5 W' ∧ JQ w.heap.size ds W')
          (fun cd i W' => cd = .ret ∧ Jx (cnt p + i) W' ∧ JQ w.heap.size ds W')
          ?hI ?hIx ?h0
          (fun i x a' W' => ∃ v, a' = { tmps := ((act (.int .i64 (p : Int)) (.int .i64 (p : Int)) (.bool true) (.int .i64 (p : Int)) (.agg #[.int .i64 a0, .int .i64 a1, .int .i64 a2, .int .i64 a3, .int .i64 a4, .slice (some ad) l0.length c0]) (.slice A1 m.length c1) (.slice A1 m.length m.length) (.int .i64 (p : Int)) x32 (.slice A6 (m.length + 1) c6) (.func (.func 74) #[] #[.pointer (some ⟨w6.heap.size, 0, none⟩), .pointer (some ⟨w6.heap.size + 1, 0, none⟩)]) x40 []).tmps.setIfInBounds 35 v).setIfInBounds 6 v, defers := [] } ∧ RvM x #[v] W' ∧ J (cnt p + i) W' ∧ JF n₀ Ex w.heap.size (fun _ => True) w5 W' ∧ JQ w.heap.size ds W')
          ?hAx ?assign ?body ?done ?stop
        case hI => exact fun i X Y h hs => ⟨AJ.out _ _ _ h.1 ((hs.none_ (lo' := w.heap.size)).lower (by omega)), h.2.1.istep hs (by have := Ak.out.size; omega), h.2.2.istep hs (fun D hD => by have := Am.out.lt D hD; omega)⟩
        case hIx => exact fun cd i X Y h hs => ⟨h.1, AJx.out _ _ _ h.2.1 ((hs.none_ (lo' := w.heap.size)).lower (by omega)), h.2.2.istep hs (fun D hD => by have := Am.out.lt D hD; omega)⟩
        case h0 => exact ⟨by rw [Nat.add_zero]; exact AJ.out _ _ _ Aj.out (Jg.of_below hb7), Ak.out.istep (Jg.of_below hb7 (B := w7.heap.size) (lo := 0) (c := 0)) (by have := Ak.out.size; omega), Am.out.istep (Jg.of_below hb7 (B := w7.heap.size) (lo := 0) (c := 0)) (fun D hD => by have := Am.out.lt D hD; omega)⟩
        case hAx =>
          intro i x a' _ X Y h hs; obtain ⟨v, ha, hr, h1, h2, h3⟩ := h; exact ⟨v, ha, hr.istep hs, AJ.out _ _ _ h1 ((hs.none_ (lo' := w.heap.size)).lower (by omega)), h2.istep hs (by have := Ak.out.size; omega), h3.istep hs (fun D hD => by have := Am.out.lt D hD; omega)⟩
        case assign =>
          rintro l' i x vs W' K hx ⟨h1, h2, h3⟩ ⟨v, rfl, hv⟩ hsz hK; simp only [List.zip_toArray, List.zip_cons_cons, List.zip_nil_right, List.zip_nil_left, List.size_toArray, List.foldl_toArray', List.foldl_cons, List.foldl_nil, List.setIfInBounds_toArray, List.set_cons_zero, List.set_cons_succ, List.length_cons, List.length_nil]; go_wp2_with (first | (with_reducible refine JC rfl (by rintro ⟨_, _, h⟩; exact h) ?_) | gi_step); exact hK _ _ (Below.refl _ _) ⟨v, by rw [AE.out]; rfl, ⟨v, rfl, hv⟩, h1, h2, h3⟩
        case body =>
          rintro l' i x a' W' hl' hloop hx ⟨v, rfl, hr, h1, h2, h3⟩ hsz; rw [AE.out]; simp only [List.setIfInBounds_toArray, List.set_cons_zero, List.set_cons_succ]; have hw5 : w.heap.size < w5.heap.size := (Array.getElem?_eq_some_iff.1 Abox.out).1; have hk3 : W'.cell? ⟨w.heap.size, 0, none⟩ = some (.func (.yield l) #[] #[]) := (Qb ((h2.same _ hw5 (.inr ⟨Nat.le_refl _, trivial⟩)).trans Abox.out) 0).trans rfl; obtain ⟨fn, tmps, assign, bod, hy, hR⟩ := Qad l' (YX rfl (n' := n - 1 - 1 - 1) (AY.out (cnt p + i) x #[v] W' (hget i x hx) h1 hr (by have := hb7.size; omega))); have G1 := Qa.mk h1; have G2 := Qa.mk h2; have G3 := Qa.mk h3; clear h1 h2 h3 hr hseq hcap7 hget
          gi_wp2_with (first
            | ((try refine ⟨(fun h0 => (by cases h0)), ?_⟩); refine hR.mono ?_; clear hR; rintro e W2 (⟨rfl, hj2, hk2⟩ | ⟨rfl, hj2, hk2⟩)))
          all_goals
            have hbk : ZR w7.heap.size Ex' w7.heap.size (w7.heap.size + 2) (fun _ => True) W' W2 := by
              have hw7w : w.heap.size ≤ w7.heap.size := Nat.le_trans hwW hb7.size; refine ⟨fun k o hB ho hc => hk2.book k o (by omega) ho hc, hk2.size, fun k hk hh => hk2.same k hk ?_, fun k o hB ho hc => hk2.book k o (by omega) ho hc⟩
              rcases hh with ⟨hk7, hex⟩ | ⟨hk7, _⟩
              · rw [hEx'] at hex
                rcases Classical.not_not.1 hex with h | h
                · exact .inl h
                · exact .inr ⟨h, trivial⟩
              · exact .inr ⟨by omega, trivial⟩
          all_goals have hmk2 : JQ w.heap.size ds W2 := G3.out.keep fun D hD hlo ho => hk2.book D _ hlo ho rfl
          · exact ⟨hbk, by rw [← Nat.add_assoc]; exact hj2, G2.out.trans hk2, hmk2⟩
          · exact ⟨hbk, rfl, by rw [← Nat.add_assoc]; exact hj2, hmk2⟩
        case done =>
          rintro D W' hD ⟨h1, h2, h3⟩ hmk; simp only [Exit.inBlock, Exit.then]
          have hwr : wrap64 ((p : Int) + 1) = (p : Int) + 1 := by
            have := Ap.out; have := AH.out; have := G2.out; unfold wrap64; omega
          go_wp2_with (first | (with_reducible refine JN ?_) | gi_step)
          try simp only [hwr]
          have hlo7 : w.heap.size ≤ D := by have := hb7.size; omega
          have hWD : W.heap.size ≤ D := by have := hb7.size; omega
          have e1 : ((p + 1 : Nat) : Int) = (p : Int) + 1 := by omega
          have hpH : p < H := by have := of_decide_eq_true hd; have := AH.out; omega
          refine ⟨⟨p + 1, D :: ds, .int .i64 (p : Int), .bool true, .int .i64 (p : Int), .agg #[.int .i64 a0, .int .i64 a1, .int .i64 a2, .int .i64 a3, .int .i64 a4, .slice (some ad) l0.length c0], .slice A1 m.length c1, .slice A1 m.length m.length, .int .i64 (p : Int), x32, .slice A6 (m.length + 1) c6, .func (.func 74) #[] #[.pointer (some ⟨w6.heap.size, 0, none⟩), .pointer (some ⟨w6.heap.size + 1, 0, none⟩)], .int .i64 ((p : Int) + 1), by omega, by rw [AE.out, e1]; rfl, by rw [hcnt1]; exact h1, h2, .cons hmk hlo7 (fun E hE => by have := Am.out.lt E hE; omega) h3⟩, ?_⟩; show H - ((p : Int) + 1).toNat < H - ((p : Int)).toNat; omega
        case stop =>
          rintro D cd i W' hD hi ⟨rfl, h1, h3⟩ hmk; go_wp2_with (first | (with_reducible refine JN ?_) | gi_step); have hlo7 : w.heap.size ≤ D := by have := hb7.size; omega
          have hWD : W.heap.size ≤ D := by have := hb7.size; omega
          refine JQ.leaves (Ds := D :: ds) (.cons hmk hlo7 (fun E hE => by have := Am.out.lt E hE; omega) h3) fun W2 hs => ⟨_, results_none rfl _ _ _, ⟨_, rfl⟩, .inr ⟨cnt p + i, by omega, AJx.out _ _ _ h1 hs⟩⟩
      try simp only [List.take_succ_cons, List.take_zero, List.cons_append, List.nil_append]
      have hB0 := QM (Below.refl W.heap.size W); have hown0 : W.drew.ownsRow 0 3 1 (.slice A1 m.length c1) m.length (nums .i64 m) := J1 hcap.out.own hB0; generalize W.drew = w32 at hHeld hB0 hown0 ⊢; refine pu 3 31 ?_; refine tk 0 28 hHeld ?_; refine tk 1 29 hHeld ?_; refine two_ (i := 2) (j := 4) (Ni := some 30) (Nj := some 32) #[true, true, true, true, false, false, false] #[true, true, false, true, true, false, false] rfl rfl rfl rfl (by kernel_rfl) (by decide) (by decide) (fun K hK => ?_) (fun K hK => ?_)
      · refine Xx Try.func75 (by kernel_rfl) rfl #[.slice A1 m.length c1] (by rfl) rfl rfl (by (try simp only [List.map_toArray, List.map_cons, List.map_nil]); first | done | rfl) ?_
        refine (ZD _ _ _ Ac1.out _).mono ?_; rintro e w8 ⟨rfl, hw8⟩; replace hw8 := hw8.symm; subst hw8; refine ⟨_, rfl, ?_⟩; refine hK.out _ _ hHeld (fun hHeld => ?_); clear hK K; refine QY (a' := ?_) ?_ ?_
        rotate_left
        · show Act.put _ (some 30) _ = _
          simp only [Act.put, List.setIfInBounds_toArray, List.set_cons_zero, List.set_cons_succ, QR, QU]; rfl
        refine on 4 (fun K hK => ?_); refine JR (v := .slice (some ⟨w32.heap.size, 0, none⟩) 1 1) (w1 := w32.alloc (.cells #[.int .i64 (p : Int)] 3 (0, 0))) (by rfl) ?hr ?_
        case hr => first | (go_simp; done) | (go_simp; rfl)
        have hb9 : Below w32.heap.size w32 (w32.alloc (.cells #[.int .i64 (p : Int)] 3 (0, 0))) := QO (Below.refl _ _) _; have hcell : (w32.alloc (.cells #[.int .i64 (p : Int)] 3 (0, 0))).cell? ⟨w32.heap.size, 0, none⟩ = some (.int .i64 (p : Int)) := (Qb (World.alloc_heap_new _ _) 0).trans rfl; have hB1 := QV hB0 hb9; have hown1 := J1 hown0 hb9; have hHeld1 := H6.step hHeld hb9; refine hK.out _ _ hHeld1 (fun hHeld2 => ?_); clear hK K; refine QY (a' := ?_) ?_ ?_
        rotate_left
        · show Act.put _ (some 32) _ = _
          simp only [Act.put, List.setIfInBounds_toArray, List.set_cons_zero, List.set_cons_succ, QR, QU]; rfl
        refine on 5 (fun K hK => ?_); refine Zc (by rfl) rfl (.tmp 30) (.tmp 32) rfl rfl ⟨w32.heap.size, 0, none⟩ rfl hown1 rfl (by have := Al.out; have := G4.out; omega) (p : Int) hcell (fun v1 w34 ho34 hb34 => ?_); have hHeld3 := H6.step hHeld1 hb34; refine hK.out _ _ hHeld3 (fun hHeld4 => ?_); clear hK K; refine QY (a' := ?_) ?_ ?_
        rotate_left
        · show Act.put _ (some 33) _ = _
          simp only [Act.put, List.setIfInBounds_toArray, List.set_cons_zero, List.set_cons_succ, QR, QU]; rfl
        refine on 6 (fun K hK => ?_); refine JR (v := .bool true) (w1 := w34) (by rfl) (by rfl) ?_; refine hK.out _ _ hHeld3 (fun hHeld4 => ?_); refine JD (by kernel_rfl) ?_; exact ⟨_, v1, (AE.out ..).symm, Zb ho34 (Nat.le_trans hB0.size hb9.size), QV hB1 hb34⟩
      · refine JR (v := .slice (some ⟨w32.heap.size, 0, none⟩) 1 1) (w1 := w32.alloc (.cells #[.int .i64 (p : Int)] 3 (0, 0))) (by rfl) ?hr ?_
        case hr => first | (go_simp; done) | (go_simp; rfl)
        have hb9 : Below w32.heap.size w32 (w32.alloc (.cells #[.int .i64 (p : Int)] 3 (0, 0))) := QO (Below.refl _ _) _; have hcell : (w32.alloc (.cells #[.int .i64 (p : Int)] 3 (0, 0))).cell? ⟨w32.heap.size, 0, none⟩ = some (.int .i64 (p : Int)) := (Qb (World.alloc_heap_new _ _) 0).trans rfl; have hB1 := QV hB0 hb9; have hown1 := J1 hown0 hb9; have hHeld1 := H6.step hHeld hb9; refine hK.out _ _ hHeld1 (fun hHeld2 => ?_); clear hK K; refine QY (a' := ?_) ?_ ?_
        rotate_left
        · show Act.put _ (some 32) _ = _
          simp only [Act.put, List.setIfInBounds_toArray, List.set_cons_zero, List.set_cons_succ, QR, QU]; rfl
        refine on 2 (fun K hK => ?_); refine Xx Try.func75 (by kernel_rfl) rfl #[.slice A1 m.length c1] (by rfl) rfl rfl (by (try simp only [List.map_toArray, List.map_cons, List.map_nil]); first | done | rfl) ?_; refine (ZD _ _ _ Ac1.out _).mono ?_; rintro e w8 ⟨rfl, hw8⟩; replace hw8 := hw8.symm; subst hw8; refine ⟨_, rfl, ?_⟩; refine hK.out _ _ hHeld1 (fun hHeld => ?_); clear hK K; refine QY (a' := ?_) ?_ ?_
        rotate_left
        · show Act.put _ (some 30) _ = _
          simp only [Act.put, List.setIfInBounds_toArray, List.set_cons_zero, List.set_cons_succ, QR, QU]; rfl
        refine on 5 (fun K hK => ?_); refine Zc (by rfl) rfl (.tmp 30) (.tmp 32) rfl rfl ⟨w32.heap.size, 0, none⟩ rfl hown1 rfl (by have := Al.out; have := G4.out; omega) (p : Int) hcell (fun v1 w34 ho34 hb34 => ?_); have hHeld3 := H6.step hHeld1 hb34; refine hK.out _ _ hHeld3 (fun hHeld4 => ?_); clear hK K; refine QY (a' := ?_) ?_ ?_
        rotate_left
        · show Act.put _ (some 33) _ = _
          simp only [Act.put, List.setIfInBounds_toArray, List.set_cons_zero, List.set_cons_succ, QR, QU]; rfl
        refine on 6 (fun K hK => ?_); refine JR (v := .bool true) (w1 := w34) (by rfl) (by rfl) ?_; refine hK.out _ _ hHeld3 (fun hHeld4 => ?_); refine JD (by kernel_rfl) ?_; exact ⟨_, v1, (AE.out ..).symm, Zb ho34 (Nat.le_trans hB0.size hb9.size), QV hB1 hb34⟩
    · have hd : decide ((p : Int) < (Qf l0 m.length).f3 + 1) = false := decide_eq_false (by have := AH.out; have := G1.out; have := Ap.out; omega)
      go_wp2_with (first | (with_reducible refine JN ?_) | gi_step); have hpH : p = H := by have := Ap.out; omega
      refine JQ.leaves Am.out fun W' hs => ⟨_, results_none rfl _ _ _, ⟨_, rfl⟩, .inl ?_⟩
      have hcx : cnt p = xs.length := by rw [ACnt.out, hpH]; simp only [Ah.out, Option.getD_some]
      rw [← hcx]; exact AJ.out _ _ _ Aj.out hs
end Go.Proofs.Ytjaapkkpmegkfaa.P
