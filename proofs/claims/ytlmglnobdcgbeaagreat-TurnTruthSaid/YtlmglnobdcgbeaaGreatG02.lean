/- Part 2 of what the law's proof needs: words, walks of functions and plain facts. -/
import Derived.ArgAppend
import Derived.Shelf.SortM.Plain
import Derived.Shelf.SortM.SortNone
import Derived.Ground.SlgmProg
import Derived.Test.YtlmglnobdcgbeaaGreatProg
import Derived.Lib.SlKeysI
import Derived.Shelf.SlicesQ.Load
import Derived.Shelf.Abstract
import Derived.Lib.Hide
import Derived.Lib.BufferMore
import Derived.Lib.LazyBuf
import Derived.Test.YtlmglnobdcgbeaaGreatG01
set_option linter.unusedVariables false
set_option linter.unusedSimpArgs false
namespace Go.Proofs.YtlmglnobdcgbeaaGreat.R
open Go.RowKit Go.Shelf YtlmglnobdcgbeaaGreatW.PrintWords YtlmglnobdcgbeaaGreatW.PrintLast YtlmglnobdcgbeaaGreatW.PrintMore
def Op.noDefer : Op → Bool
  | .defer _ => false
  | _ => true
theorem Op.noDefer_spec {o : Op} (h : Op.noDefer o = true) : ∀ c, o ≠ .defer c := fun c e => by subst e; simp [Op.noDefer] at h
abbrev RF (l : Nat) : Fence := Fence.wide.inRound l
theorem rows_in {n l : Nat} {P : Program} {row : String} {args : Array Value} {w : World} {R : Value → World → Prop} (h : Rows P row args w R) : RowsIn (RF l) n P row args w R :=
  fun c cs _ => let ⟨v, w', r, s⟩ := h c cs; ⟨v, w', r, stepsIn_wide.2 s⟩
theorem upon_in {n l : Nat} {P : Program} {o : Oper} {a : Act} {next next' : Act → World → Prop} {Q : Exit → Act → World → Prop} (hn : ∀ a w, next a w → next' a w) :
    ∀ {r : Result Next}, o.upon P a next Q r → o.uponIn (RF l) n P a next' Q r := by
  intro r h
  cases r with
  | ok x w =>
    cases x with
    | value v => exact hn _ _ h
    | skip => exact hn _ _ h
    | defer d => exact hn _ _ h
    | enter f args =>
      refine ⟨(fun h0 => by cases h0), CallsIn.inRound l (callsIn_wide.2 (Calls.mono h ?_))⟩
      intro e w' h'
      cases e with
      | returned v => exact hn _ _ h'
      | panicked c => exact h'
      | outgrown => exact h'
    | row r args => exact ⟨(fun h0 => by cases h0), rows_in (Rows.mono h fun v w' h' => hn _ _ h')⟩
    | round => exact h.elim
    | _ => exact h.elim
  | halt x w =>
    cases x with
    | panic v => exact h
    | _ => exact h.elim
theorem oper_in {n l : Nat} {P : Program} {o : Oper} {a : Act} {w : World} {next next' : Act → World → Prop} {Q : Exit → Act → World → Prop} (hd : Op.noDefer o.op = true) (hn : ∀ a w, next a w → next' a w)
    (h : o.wp P a w next Q) : o.wpIn (RF l) n P a w next' Q := by
  refine ⟨fun _ _ => trivial, ?_⟩
  have e : o.semAt (RF l).round a.eval = execOp a.eval o := Oper.semAt_some l _ _ (Op.noDefer_spec hd)
  rw [e]
  exact upon_in hn h
theorem ops_in {n l : Nat} {P : Program} {ops : Array Oper} {Q : Exit → Act → World → Prop} (hd : ∀ (i : Nat) (o : Oper), ops[i]? = some o → Op.noDefer o.op = true) (hQ : ¬ LetsOut Q) :
    ∀ (is : List Nat) (a : Act) (w : World), wpOps P ops Q is a w → wpOpsIn (RF l) n P ops Q is a w
  | [], _, _, h => h
  | i :: is, a, w, h => by
    unfold wpOps at h
    unfold wpOpsIn
    cases ho : ops[i]? with
    | none => rw [ho] at h; exact ops_in hd hQ is a w h
    | some o =>
      rw [ho] at h
      simp only [] at h ⊢
      by_cases hw : Region.wanted o (yielded ops a.tmps) = true
      · rw [if_pos hw] at h ⊢
        rcases h with h | h
        · exact oper_in (hd i o ho) (ops_in hd hQ is) h
        · exact absurd h.2 hQ
      · rw [if_neg hw] at h ⊢
        exact ⟨fun _ _ => trivial, ops_in hd hQ is _ _ h⟩
def noDeferL (l : List Oper) : Bool := l.all fun o => Op.noDefer o.op
theorem noDeferL_spec {l : List Oper} (h : noDeferL l = true) : ∀ (i : Nat) (o : Oper), l.toArray[i]? = some o → Op.noDefer o.op = true := fun i o ho => by
  have h1 : l[i]? = some o := by simpa using ho
  exact List.all_eq_true.1 h o (List.mem_of_getElem? h1)
theorem regIn_lit_ {n r id : Nat} {P : Program} {l : List Oper} {Q : Exit → Act → World → Prop} {a : Act} {w : World} (hd : noDeferL l = true) (hQ : ¬ LetsOut Q) (h : wpList P l.toArray Q l a w) :
    (Code.region id l.toArray false).wpIn (RF r) n P Q a w := by
  refine wpIn_region (ops_in (noDeferL_spec hd) hQ _ _ _ ?_)
  have := wpOps_eq_wpList (P := P) (ops := l.toArray) (Q := Q) l 0 (by intro j; simp)
  simp only [List.size_toArray]
  rw [List.range_eq_range', this]
  exact h
def Lifts (F : Fence) : Prop := ∀ (n : Nat) (P : Program) (o : Oper) (a : Act) (w : World) (next next' : Act → World → Prop) (Q : Exit → Act → World → Prop), Op.noDefer o.op = true → (∀ a w, next a w → next' a w) → o.wp P a w next Q → o.wpIn F n P a w next' Q
theorem lifts_in (l : Nat) : Lifts (RF l) := fun _ _ _ _ _ _ _ _ hd hn h => oper_in hd hn h
def blank (o : Oper) : Oper := { o with dst := none, op := .move (.const (.bool true)), guard := none }
theorem anyIn_last_absurd {ops : Array Oper} {y : Nat} {listed : Array Bool} (hon : ∀ (i : Nat) (o : Oper), ops[i]? = some o → ∀ e ∈ o.after, e.on < i) (hylt : y < ops.size) (hsz : listed.size = ops.size)
    (hyl : listed.getD y true = false) (hr : Region.ready .any ops listed = []) : False := by
  have hall : ∀ i, i < ops.size → listed.getD i true = true := by
    intro i
    induction i using Nat.strongRecOn with
    | _ i ih =>
      intro hi
      by_cases hl : listed.getD i true = true
      · exact hl
      · exfalso
        have hm : i ∈ Region.ready .any ops listed := by
          unfold Region.ready
          refine List.mem_filter.2 ⟨List.mem_range.2 hi, ?_⟩
          simp only [Bool.and_eq_true, Bool.not_eq_true', Bool.not_eq_true] at hl ⊢
          refine ⟨hl, ?_⟩
          rw [Array.getElem?_eq_getElem hi]
          simp only [Option.map_some, Option.getD_some]
          refine Array.all_eq_true_iff_forall_mem.2 fun e he => ?_
          have h1 := hon i ops[i] (Array.getElem?_eq_getElem hi) e he
          have h2 := ih e.on h1 (by omega)
          have hb : e.on < listed.size := by omega
          simp only [Array.getD, hb, dif_pos] at h2 ⊢
          have h3 : listed[e.on]'hb = true := h2
          simp [h3]
        rw [hr] at hm; cases hm
  rw [hall y hylt] at hyl; cases hyl
theorem oper_panic_mono {F : Fence} {n : Nat} {P : Program} {o : Oper} {a : Act} {w : World} {K : Act → World → Prop} {Q Q' : Exit → Act → World → Prop} (hp : ∀ c a w, Q' (.panic c) a w → Q (.panic c) a w) (ho : ¬ LetsOut Q')
    (h : o.wpIn F n P a w K Q') : o.wpIn F n P a w K Q := by
  refine ⟨h.1, ?_⟩
  have h2 := h.2
  revert h2
  generalize (o.semAt F.round a.eval).run P w = r
  intro h2
  cases r with
  | ok x w =>
    cases x with
    | value v => exact h2
    | skip => exact h2
    | defer d => exact h2
    | enter f args =>
      refine ⟨h2.1, h2.2.mono ?_⟩
      intro e w' h'
      cases e with
      | returned v => exact h'
      | panicked c => exact hp _ _ _ h'
      | outgrown => exact absurd h' ho
    | row r args => exact h2
    | round l f t c d =>
      refine ⟨h2.1, h2.2.mono ?_⟩
      intro e w' h'
      cases e with
      | returned v => exact h'
      | panicked c => exact hp _ _ _ h'
      | outgrown => exact absurd h' ho
    | _ => exact h2.elim
  | halt x w =>
    cases x with
    | panic v => exact hp _ _ _ h2
    | _ => exact h2.elim
theorem yield_any {F : Fence} (hd : F.depth = none) {n n' : Nat} {P : Program} {l : Nat} {vs : Array Value} {W : World} {R : Ending → World → Prop} (h : YieldAt F n P l vs W R) : YieldAt F n' P l vs W R := by
  obtain ⟨fn, tmps, assign, body, hr, hR⟩ := h
  exact ⟨fn, tmps, assign, body, hr, hR.1, fun c cs _ => hR.2 c cs (fun d hh => by rw [hd] at hh; cases hh)⟩
theorem yield_in {F : Fence} {n : Nat} {P : Program} {l : Nat} {vs : Array Value} {W : World} {R : Ending → World → Prop} (l' : Nat) (h : YieldAt F n P l vs W R) : YieldAt (F.inRound l') n P l vs W R := h
theorem oper_yield {F : Fence} {n l : Nat} {P : Program} {o : Oper} {a : Act} {w : World} {K : Act → World → Prop} {Q : Exit → Act → World → Prop} {x : Operand} {ys : Array Operand} {ts : Array TypeId} {vs : Array Value} (hd : F.depth = none) (hF : ∀ f, F.fn f)
    (ho : o.op = .call { callee := .value x, args := ys, argTypes := ts }) (hx : a.eval x = .func (.yield l) #[] #[]) (hy : ys.map a.eval = vs)
    (h : YieldAt F (n - 1) P l vs w fun e w' => (∃ v, e = .returned v ∧ K (a.put o.dst v) w')) : o.wpIn F n P a w K Q := by
  obtain ⟨fn, tmps, assign, body, hr, hR⟩ := h
  refine ⟨fun f _ => hF f, ?_⟩
  have e : o.semAt F.round a.eval = execOp a.eval o := by
    cases hr : F.round with
    | none => rfl
    | some l => exact Oper.semAt_some l _ _ (fun c hc => by rw [ho] at hc; cases hc)
  have hs : (execOp a.eval o).run P w = .ok (.round l fn tmps assign body) w := by
    unfold execOp
    simp [ho, resolve, Deferred.ofValue, invoke, hx, hy, hr]
  rw [e, hs]
  refine ⟨fun h0 => (by rw [hd] at h0; cases h0), hR.mono ?_⟩
  rintro e w' ⟨v, rfl, hk⟩
  exact hk
end Go.Proofs.YtlmglnobdcgbeaaGreat.R
namespace Go.Proofs.YtlmglnobdcgbeaaGreat.P
open Go.RowKit Go.Shelf Go.Proofs.YtlmglnobdcgbeaaGreatW.PrintWords Go.Proofs.YtlmglnobdcgbeaaGreatW.PrintLast Go.Proofs.YtlmglnobdcgbeaaGreatW.PrintMore Go.Proofs.YtlmglnobdcgbeaaGreat.R
theorem regW_lit_ {n id : Nat} {P : Program} {l : List Oper} {Q : Exit → Act → World → Prop} {a : Act} {w : World} (h : wpList P l.toArray Q l a w) :
    (Code.region id l.toArray false).wpIn Fence.wide n P Q a w := wpIn_wide.2 (wp_region_lit h)
theorem slice_of_own {w : World} {base n : Nat} {v : Value} {xs : List Value} (h : w.ownsRow base 3 1 v n xs) : (v = .slice none 0 0 ∧ n = 0 ∧ xs = []) ∨ ∃ g c cells, v = .slice (some ⟨g, 0, none⟩) n c ∧ base ≤ g ∧ w.heap[g]? = some (.cells cells 3 (0, 0)) ∧ n ≤ c ∧ c ≤ maxLen ∧ cells.size = c * 1 ∧ cells.toList.take xs.length = xs := by
  obtain ⟨h1, h2⟩ := h
  rcases h2 with ⟨h2, h3⟩ | ⟨g, cap, cur, rfl, hg, hh, r⟩
  · exact .inl ⟨h2, h3, by subst h3; simpa using h1⟩
  · exact .inr ⟨g, cap, cur, rfl, hg, hh, r.1, r.2.1, r.2.2.1, by rw [h1]; exact r.2.2.2⟩
def mk (D : Nat) : Deferred := { target := .collected D, args := #[] }
inductive Marks (lo : Nat) : List Nat → World → Prop
  | nil (W : World) : Marks lo [] W
  | cons {D : Nat} {Ds : List Nat} {W : World} (h : W.heap[D]? = some (.deferred (some []))) (hlo : lo ≤ D) (hd : ∀ E ∈ Ds, E ≠ D) (t : Marks lo Ds W) : Marks lo (D :: Ds) W
theorem Marks.keep {lo : Nat} {Ds : List Nat} {W W' : World} (h : Marks lo Ds W) (hk : ∀ D ∈ Ds, lo ≤ D → W.heap[D]? = some (.deferred (some [])) → W'.heap[D]? = some (.deferred (some []))) : Marks lo Ds W' := by
  induction h with
  | nil => exact .nil _
  | cons h hlo hd t ih => exact .cons (hk _ (List.mem_cons_self ..) hlo h) hlo hd (ih fun D hD => hk D (List.mem_cons_of_mem _ hD))
theorem Marks.leaves {lo n : Nat} {P : Program} {fn : Func} {tmps : Array Value} {R : Ending → World → Prop} {Ds : List Nat} :
    ∀ {W : World}, Marks lo Ds W → (∀ W', IStep lo lo 0 W W' → ∃ v, (results fn tmps).run P W' = .ok v W' ∧ R (.returned v) W') → LeavesInM Fence.wide n P fn tmps R (Ds.map mk) .returning W := by
  induction Ds with
  | nil =>
    intro W h hR
    exact hR _ (IStep.refl _ _ _ _)
  | cons D Ds ih =>
    intro W h hR
    cases h with
    | cons h hlo hd t =>
      refine ⟨by simp, .inl ⟨D, _, rfl, run_takeDeferred h, ?_⟩⟩
      refine ih (t.keep fun E hE _ he => (World.putObj_heap_other (hd E hE)).trans he) fun W' hs => hR W' ((istep_putObj _ h rfl hlo).trans hs)
theorem Marks.lt {lo : Nat} {Ds : List Nat} {W : World} (h : Marks lo Ds W) : ∀ D ∈ Ds, D < W.heap.size := by
  induction h with
  | nil => intro D hD; cases hD
  | cons h hlo hd t ih => intro D hD; rcases List.mem_cons.1 hD with rfl | hD; exact (Array.getElem?_eq_some_iff.1 h).1; exact ih D hD
theorem own_C {w : World} {base n : Nat} {A : Option Addr} {c : Nat} {xs : List Int} (h : w.ownsRow base 3 1 (.slice A n c) n (nums .i64 xs)) : Kd.C (Kd.int .i64) w A n xs := by
  obtain ⟨A', c', e, hr⟩ := own_reads_of (enc := Value.int .i64) (d := (0 : Int)) h
  cases e
  exact Kd.C_of_reads hr
theorem R_istep {W W' : World} {b lo base : Nat} {v : Value} {xs : List Int} (h : Kd.R (Kd.int .i64) 3 W base (fun _ => True) v xs) (k : IStep b lo 0 W W') : Kd.R (Kd.int .i64) 3 W' base (fun _ => True) v xs := by
  refine Kd.R_mono (Kd.R_move (Kd.R_tight rfl h) fun g hg => ?_) (fun _ _ => trivial)
  obtain ⟨_, inner, ho, _⟩ := h
  obtain ⟨cells, hc⟩ := own_typed ho g hg.symm
  rw [hc]
  exact k.same g _ hc (fun h3 => by omega) (fun _ => rfl)
theorem Below_istep {n : Nat} {w W W' : World} {b lo : Nat} (h : Below n w W) (hw : n ≤ w.heap.size) (k : IStep b lo 0 W W') (hb : n ≤ b) : Below n w W' := by
  refine h.trans ⟨k.os, k.tape, k.output, k.size, fun j hj => ?_⟩
  have hjW : j < W.heap.size := Nat.lt_of_lt_of_le (Nat.lt_of_lt_of_le hj hw) h.size
  rw [k.same j _ (Array.getElem?_eq_getElem hjW) (fun h3 => by omega) (fun h3 => by omega), Array.getElem?_eq_getElem hjW]
def RvI (x : Int) (vs : Array Value) (W : World) : Prop := vs = #[.int .i64 x]
set_option maxHeartbeats 4000000 in
set_option maxRecDepth 100000 in
theorem values_iter (zs : List Int) (A : Option Addr) (c n : Nat) (w : World) (B : Nat) (Ex E : Nat → Prop) (hn : 1 ≤ n)
    (hC : ∀ W', w.heap.size ≤ W'.heap.size → (∀ k, k < w.heap.size → ¬ Ex k → W'.heap[k]? = w.heap[k]?) → W'.heap[B]? = some (.cells #[.slice A zs.length c] 23 (0, 0)) ∧ Kd.C (Kd.int .i64) W' A zs.length zs) :
    IterC Fence.wide n Tryz.prog 118 #[.pointer (some ⟨B, 0, none⟩)] zs RvI Ex 0 E w := by
  intro l J Jx W hW hJ hJx hY h0
  have hcap := hC W hW.size (fun k hk _ => hW.block k hk)
  have hbig : zs.length ≤ 9223372036854775807 := hcap.2.2.1
  have hc0 : W.cell? ⟨B, 0, none⟩ = some (.slice A zs.length c) := (blk_cell hcap.1 0).trans rfl
  have HC := aM hC
  have HJ := aM hJ
  have HY := aM hY
  have HW := aM hW
  clear hC hJ hJx hY hcap hW
  refine callsIn_of_wp Tryz.func118 rfl trivial ?_ rfl
  simp only [Tryz.ntmps118, List.size_toArray, List.length_cons, List.length_nil, Nat.reduceAdd, Nat.reduceSub, Array.replicate_succ, Array.replicate_zero, List.push_toArray, List.append_toArray, List.nil_append, List.cons_append]
  gi_wp2
  gi_loopw [7] (fun i wr => ∃ k : Nat, k ≤ zs.length ∧ i = .int .i64 k ∧ J k wr ∧ Aside0 (W.heap.size ≤ wr.heap.size) ∧ Aside0 (∀ j, j < w.heap.size → ¬ Ex j → wr.heap[j]? = W.heap[j]?))
    (fun i _ => zs.length - (intOf i).toNat)
  case atStart => exact ⟨0, Nat.zero_le _, rfl, h0, ⟨Nat.le_refl _⟩, ⟨fun _ _ _ => rfl⟩⟩
  case round =>
    obtain ⟨k, hk, rfl, hJs, HS, HK⟩ := hrel
    by_cases hlt : k < zs.length
    · have hread := (HC.out wr (Nat.le_trans HW.out.size HS.out) (fun j hj hx => (HK.out j hj hx).trans (HW.out.block j hj))).2
      obtain ⟨ad, rfl, hcell⟩ := Kd.at_int hread (k : Int) (by omega) (by omega)
      rw [Int.toNat_natCast] at hcell
      have hrd : rd zs (k : Int) = zs[k] := by simp [rd, List.getD_eq_getElem?_getD, List.getElem?_eq_getElem hlt]
      rw [hrd] at hcell
      obtain ⟨fn, tmps, assign, body, hy, hR⟩ := HY.out k zs[k] #[.int .i64 zs[k]] wr (List.getElem?_eq_getElem hlt) hJs rfl HS.out
      have HR := aM hR
      clear hread hrd hR hc0 hJs h0
      generalize zs[k] = x at hcell hy HR
      gi_wp2
      refine HR.out.mono ?_
      rintro e W3 (⟨rfl, hJ3, hk3⟩ | ⟨rfl, hJx3, hk3⟩)
      · have H3 := aM hk3
        clear hk3
        gi_wp2
        go_roundw
        case rel =>
          exact ⟨k + 1, by omega, by simp, hJ3, ⟨Nat.le_trans HS.out H3.out.size⟩, ⟨fun j hj hx => (H3.out.same j (Nat.lt_of_lt_of_le hj (Nat.le_trans HW.out.size HS.out)) (.inl ⟨hj, hx⟩)).trans (HK.out j hj hx)⟩⟩
        case measure => simp [intOf]; omega
      · clear hk3
        gi_wp2
        refine bodyPost_ret (results_none rfl _ _ _) rfl ?_
        exact ⟨⟨_, rfl⟩, .inr ⟨_, by omega, hJx3⟩⟩
    · obtain rfl : k = zs.length := by omega
      gi_wp2
      go_end0
      exact ⟨⟨_, rfl⟩, .inl hJs⟩
set_option maxHeartbeats 1000000 in
theorem values_calls (A : Option Addr) (n c : Nat) (w : World) : Calls Tryz.prog 95 #[.slice A n c] w fun e w' => e = .returned (.func (.func 118) #[] #[.pointer (some ⟨w.heap.size, 0, none⟩)]) ∧ w' = w.alloc (.cells #[.slice A n c] 23) := by
  go_enter Tryz.func95, Tryz.ntmps95
  go_wp2
  go_ret
  exact ⟨rfl, rfl⟩
theorem bkeep_append {n0 gb B0 B : Nat} {W W1 : World} {v u : Value} {cs : Array Value} {t : TypeId} (hcs : W.heap[gb]? = some (.cells cs t (0, 0))) (hg : W.grownBy W1 v.ownBlock) (hv : ∀ k, v.ownBlock = some k → n0 ≤ k ∧ ∃ cells, W.heap[k]? = some (.cells cells 3 (0, 0))) :
    BKeep n0 (fun k => k = gb) B0 B (fun _ => False) W (W1.setCell ⟨gb, 0, none⟩ u) := by
  have hsame : ∀ k, k < W.heap.size → k ≠ gb → v.ownBlock ≠ some k → (W1.setCell ⟨gb, 0, none⟩ u).heap[k]? = W.heap[k]? := fun k hk h1 h2 => (Below.heap_setCell W1 ⟨gb, 0, none⟩ u k h1).trans (hg.block k hk (fun e => h2 e.symm))
  have hsz : W.heap.size ≤ (W1.setCell ⟨gb, 0, none⟩ u).heap.size := by simpa [World.setCell] using hg.size
  have hbk : ∀ (k : Nat) (o : Obj), W.heap[k]? = some o → o.isCells = false → (W1.setCell ⟨gb, 0, none⟩ u).heap[k]? = some o := fun k o ho hc =>
    (hsame k (Array.getElem?_eq_some_iff.1 ho).1 (fun e => by subst e; rw [hcs] at ho; cases ho; cases hc) (fun e => by obtain ⟨cells, h⟩ := (hv k e).2; rw [h] at ho; cases ho; cases hc)).trans ho
  refine ⟨fun k o _ ho hc => hbk k o ho hc, hsz, fun k hk h1 => ?_, fun k o _ ho hc => hbk k o ho hc⟩
  rcases h1 with ⟨h1, h2⟩ | ⟨_, h2⟩
  · exact hsame k hk h2 (fun e => by have := (hv k e).1; omega)
  · exact h2.elim
set_option maxHeartbeats 16000000 in
set_option maxRecDepth 100000 in
theorem appendSeq_calls (zs : List Int) (A : Option Addr) (c : Nat) (B : Nat) (w : World) (hB : w.heap[B]? = some (.cells #[.slice A zs.length c] 23 (0, 0))) (hr : Kd.C (Kd.int .i64) w A zs.length zs) (hlen : zs.length ≤ 1000000) :
    Calls Tryz.prog 124 #[.slice none 0 0, .func (.func 118) #[] #[.pointer (some ⟨B, 0, none⟩)]] w fun e w' => ∃ v, e = .returned v ∧ Kd.R (Kd.int .i64) 3 w' w.heap.size (fun _ => True) v zs ∧ Below w.heap.size w w' := by
  refine (callsIn_wide (n := 5)).1 (callsIn_of_wp_marks Tryz.func124 rfl trivial ?_ rfl)
  simp only [Tryz.ntmps124, List.size_toArray, List.length_cons, List.length_nil, Nat.reduceAdd, Nat.reduceSub, Array.replicate_succ, Array.replicate_zero, List.push_toArray, List.append_toArray, List.nil_append, List.cons_append]
  have Ab := aM hB
  have Ar := aM hr
  have Al := aM hlen
  clear hB hr hlen
  go_wp2_with (first
    | ((with_reducible refine gate_dst (N := 2) rfl ?_); refine box_event ?hg (N := 2) ?hd (cs := #[.slice none 0 0]) (t := 23) ?hr ?_; (case hd => rfl); (case hg => rfl); (case hr => first | (go_simp; done) | (go_simp; rfl)); intro aD hg2 w2 hx2 hb2; have HG2 := aM hg2; clear hg2)
    | (with_reducible refine regW_lit_ ?_) | gi_step)
  have hs2 := hb2.size
  have g2 := HG2.out
  have hgl := (Array.getElem?_eq_some_iff.1 hx2).1
  have hBl := (Array.getElem?_eq_some_iff.1 Ab.out).1
  have hseq := values_iter zs A c 4 w2 B (fun k => k = aD) (fun _ => False) (by omega) (by
    intro W' hsz hsame
    refine ⟨(hsame _ (by omega) (by omega)).trans ((hb2.block _ (by omega)).trans Ab.out), ?_⟩
    exact Kd.C_F (Kd.heap_int _) Ar.out W' (fun k hk _ => (hsame k (by omega) (by omega)).trans (hb2.block k hk)))
  refine range_outer (xs := zs) (Rv := RvI) (Ex := fun k => k = aD) (c := 0) (E := fun _ => False) (w0 := w2) rfl (fun h0 => by cases h0) (gf := 118) rfl trivial (fun args w => enters_ Tryz.func118 (by kernel_rfl) rfl args w) hseq (Below.refl _ _) (fun x vs W h => by subst h; rfl)
    (fun i W' => ∃ v, W'.heap[aD]? = some (.cells #[v] 23 (0, 0)) ∧ Kd.R (Kd.int .i64) 3 W' w2.heap.size (fun _ => True) v (zs.take i) ∧ Below w.heap.size w W')
    (fun _ _ _ => False) ?hI (fun _ _ _ _ h _ => h) ⟨.slice none 0 0, hx2, Kd.R_nil _ _ _ _ _, below_step (Below.refl _ _) hb2⟩
    (fun i x a' W' => a' = { tmps := #[.slice none 0 0, .func (.func 118) #[] #[.pointer (some ⟨B, 0, none⟩)], .pointer (some ⟨aD, 0, none⟩), undef, .slice none 0 0, .int .i64 x, .func (.func 118) #[] #[.pointer (some ⟨B, 0, none⟩)], .int .i64 x, undef, undef, undef, undef, undef], defers := [] } ∧ ∃ v, W'.heap[aD]? = some (.cells #[v] 23 (0, 0)) ∧ Kd.R (Kd.int .i64) 3 W' w2.heap.size (fun _ => True) v (zs.take i) ∧ Below w.heap.size w W')
    ?hAx ?assign ?body ?done (fun _ _ _ _ _ _ h => h.elim)
  case hI =>
    rintro i X Y ⟨v, h1, h2, h3⟩ hs
    exact ⟨v, hs.same _ _ h1 (by omega) (fun _ => rfl), R_istep h2 hs, Below_istep h3 (Nat.le_refl _) hs (by omega)⟩
  case hAx =>
    rintro i x a' _ X Y ⟨ha, v, h1, h2, h3⟩ hs
    exact ⟨ha, v, hs.same _ _ h1 (by omega) (fun _ => rfl), R_istep h2 hs, Below_istep h3 (Nat.le_refl _) hs (by omega)⟩
  case assign =>
    rintro l' i x vs W' K hx hi rfl hsz hK
    simp only [List.zip_toArray, List.zip_cons_cons, List.zip_nil_right, List.zip_nil_left, List.size_toArray, List.foldl_toArray', List.foldl_cons, List.foldl_nil, List.setIfInBounds_toArray, List.set_cons_zero, List.set_cons_succ, List.length_cons, List.length_nil]
    clear hseq
    have Hi := aM hi
    clear hi hx2 g2
    go_wp2_with (first | ((with_reducible refine regIn_lit_ ?hnd ?hlo ?_); (case hnd => kernel_rfl); (case hlo => rintro ⟨_, _, h⟩; exact h)) | gi_step)
    exact hK _ _ (Below.refl _ _) ⟨rfl, Hi.out⟩
  case body =>
    rintro l' i x a' W' hl' hloop hx ⟨rfl, v, h1, h2, h3⟩ hsz
    obtain ⟨hlt, hxe⟩ := List.getElem?_eq_some_iff.1 hx
    have hsn : zs.take i ++ [x] = zs.take (i + 1) := by rw [← hxe, List.take_succ_eq_append_getElem hlt]
    have hll : (zs.take i).length ≤ 1000000 := by have := Al.out; have := List.length_take_le i zs; omega
    obtain ⟨A2, c2, rfl⟩ := Kd.R_slice h2
    have hty := Kd.R_bound h2
    have hRt := Kd.R_types h2 h1 (by decide)
    have hne := Kd.R_ne h2 h1 (by decide)
    have hbase := Kd.R_base h2
    have hc : W'.cell? ⟨aD, 0, none⟩ = some (.slice A2 (zs.take i).length c2) := (blk_cell h1 0).trans rfl
    have Hsn := aM hsn
    have Hll := aM hll
    have Hrt := aM hRt
    have Hty := aM hty
    have Hne := aM hne
    have Hba := aM hbase
    have H1 := aM h1
    have H3 := aM h3
    have Hsz := aM hsz
    clear hsn hll hRt hty hne hbase h1 h2 h3 hsz hx hxe hseq hloop hlt hx2 g2 hl'
    generalize zs.take i = ys at *
    go_wp2_with (first
      | ((with_reducible refine regIn_lit_ ?hnd ?hlo ?_); (case hnd => kernel_rfl); (case hlo => rintro ⟨_, _, h⟩; exact h))
      | ((with_reducible refine gate_builtin (b := .append) (xs := #[.tmp 8, .tmp 10]) rfl ?_); at_builtin; refine Kd.R_append (Kd.int .i64) (w0 := W') w2.heap.size rfl (.tmp 8) (.tmp 10) 23 3 (.int .i64 0) 8 rfl Tryz.underlying23 info3 rfl (by decide) (by omega) (.slice A2 ys.length c2) ys x [.int .i64 x] (fun k_ => True ∧ k_ ≠ aD) (fun _ => False) rfl (by first | (go_simp; done) | (go_simp; rfl)) ?aP (fun _ hk => hk.elim) ?aF ?aO ?aB ?aS ?aL ?_; (case aP => exact rfl); (case aB => exact ⟨rfl, rfl, rfl, Nat.le_refl _, fun _ _ => rfl⟩); (case aF => exact (fun k_ hk => ⟨trivial, by have := Hsz.out; omega⟩)); (case aO => exact Hrt.out); (case aS => have := Hsz.out; omega); (case aL => have := Hll.out; omega); intro v1 w3 ho hb hg hat; have qQ := aM ho; have hb3 := aM hb; have hg3 := aM hg; have h13 := aM (blk_grown H1.out hg Hne.out); have hc3 : w3.cell? ⟨aD, 0, none⟩ = some (.slice A2 ys.length c2) := (blk_cell h13.out 0).trans rfl; have hf3 := blk_frozen h13.out 0; obtain ⟨A3, c3, rfl⟩ := Kd.R_slice ho; clear ho hb hg hat hc)
      | gi_step)
    refine ⟨bkeep_append (v := .slice A2 ys.length c2) H1.out hg3.out (fun k e => ⟨Hba.out k e, ?_⟩), _, blk_put (cs := #[.slice A2 ys.length c2]) h13.out 0 _ rfl, ?_, ?_⟩
    · obtain ⟨_, _, _, q, hq, cells, hcl⟩ := Hty.out.1 k e
      have hq3 : q = 3 := by
        rcases List.mem_cons.1 hq with h | h
        · exact h
        · exact absurd (show q ∈ ([] : List Nat) from h) (by simp)
      subst hq3
      exact ⟨cells, hcl⟩
    · rw [← Hsn.out]
      exact Kd.R_mono (Kd.R_far (p := ⟨aD, 0, none⟩) (show Kd.R (Kd.int .i64) 3 w3 w2.heap.size (fun k_ => True ∧ k_ ≠ aD) (.slice A3 (ys.length + 1) c3) (ys ++ [x]) from by have h_ := qQ.out; rw [List.length_append] at h_; exact h_) (fun k hk => hk.2) _) (fun _ _ => trivial)
    · exact (H3.out.trans (hb3.out.mono (by omega))).setCell (p := ⟨aD, 0, none⟩) (by show w.heap.size ≤ aD; have := HG2.out; omega) _
  case done =>
    rintro D W' hD ⟨v, h1, h2, h3⟩ hmk
    rw [List.take_length] at h2
    obtain ⟨A2, c2, rfl⟩ := Kd.R_slice h2
    have hc : W'.cell? ⟨aD, 0, none⟩ = some (.slice A2 zs.length c2) := (blk_cell h1 0).trans rfl
    have H2 := aM h2
    have H3 := aM h3
    have HD := aM hD
    have HM := aM hmk
    clear hseq h1 h2 h3 hmk hD hx2 g2
    simp only [Exit.inBlock, Exit.then, Act.put, List.setIfInBounds_toArray, List.set_cons_zero, List.set_cons_succ]
    go_wp2_with (first | (with_reducible refine regW_lit_ ?_) | gi_step)
    refine Marks.leaves (lo := w2.heap.size) (Ds := [D]) (.cons (show W'.heap[D]? = _ from HM.out) HD.out (fun E hE => by cases hE) (.nil _)) fun W2 hs => ⟨.slice A2 zs.length c2, ?res, _, rfl, Kd.R_lower (R_istep H2.out hs) (by omega), Below_istep H3.out (Nat.le_refl _) hs (by omega)⟩
    have hr : Tryz.f124.results = #[.tmp 4] := rfl
    unfold results
    rw [hr]
    simp [go_sem]
set_option maxHeartbeats 1000000 in
theorem collect_calls (zs : List Int) (A : Option Addr) (c : Nat) (B : Nat) (w : World) (hB : w.heap[B]? = some (.cells #[.slice A zs.length c] 23 (0, 0))) (hr : Kd.C (Kd.int .i64) w A zs.length zs) (hlen : zs.length ≤ 1000000) :
    Calls Tryz.prog 117 #[.func (.func 118) #[] #[.pointer (some ⟨B, 0, none⟩)]] w fun e w' => ∃ v, e = .returned v ∧ Kd.R (Kd.int .i64) 3 w' w.heap.size (fun _ => True) v zs ∧ Below w.heap.size w w' := by
  have H := aM (appendSeq_calls zs A c B w hB hr hlen)
  clear hB hr hlen
  go_enter Tryz.func117, Tryz.ntmps117
  go_wp2_with (first | (go_at_call 124; refine H.out.mono ?_; rintro e w' ⟨v, rfl, h1, h2⟩; have H1 := aM h1; have H2 := aM h2; clear h1 h2))
  go_ret
  exact ⟨_, rfl, H1.out, H2.out⟩
end Go.Proofs.YtlmglnobdcgbeaaGreat.P
namespace Go.Proofs
open Go.Shelf
def Tryz.sortA_ren : Go.Shelf.Ren := ⟨fun | 5 => 100 | 8 => 120 | 7 => 121 | 19 => 133 | 20 => 134 | 10 => 135 | 11 => 136 | 12 => 137 | 13 => 138 | 14 => 139 | 15 => 140 | 16 => 141 | 17 => 142 | 18 => 143 | 30 => 150 | 31 => 146 | 32 => 147 | 33 => 151 | 34 => 152 | 35 => 153 | 40 => 155 | n => n, fun | 23 => 23 | 25 => 3 | 3 => 3 | 32 => 90 | 22 => 23 | 0 => 0 | 44 => 161 | 46 => 163 | 4 => 4 | 36 => 154 | 35 => 153 | 41 => 158 | 5 => 5 | 9 => 9 | 53 => 168 | 57 => 172 | 63 => 176 | 64 => 49 | n => n, fun | n => n⟩
theorem Tryz.sortA : Go.Proofs.SlLaysM.n5 Tryz.prog Tryz.sortA_ren := {
  mixed := by kernel_rfl
  f5 := ⟨Tryz.f100.name, by decide, Tryz.func100.trans (congrArg some (by kernel_rfl))⟩
  f7 := ⟨Tryz.f121.name, by decide, Tryz.func121.trans (congrArg some (by kernel_rfl))⟩
  f8 := Tryz.func120.trans (congrArg some (by kernel_rfl))
  f10 := ⟨Tryz.f135.name, by decide, Tryz.func135.trans (congrArg some (by kernel_rfl))⟩
  f11 := ⟨Tryz.f136.name, by decide, Tryz.func136.trans (congrArg some (by kernel_rfl))⟩
  f12 := ⟨Tryz.f137.name, by decide, Tryz.func137.trans (congrArg some (by kernel_rfl))⟩
  f13 := ⟨Tryz.f138.name, by decide, Tryz.func138.trans (congrArg some (by kernel_rfl))⟩
  f14 := ⟨Tryz.f139.name, by decide, Tryz.func139.trans (congrArg some (by kernel_rfl))⟩
  f15 := ⟨Tryz.f140.name, by decide, Tryz.func140.trans (congrArg some (by kernel_rfl))⟩
  f16 := ⟨Tryz.f141.name, by decide, Tryz.func141.trans (congrArg some (by kernel_rfl))⟩
  f17 := ⟨Tryz.f142.name, by decide, Tryz.func142.trans (congrArg some (by kernel_rfl))⟩
  f18 := ⟨Tryz.f143.name, by decide, Tryz.func143.trans (congrArg some (by kernel_rfl))⟩
  f19 := Tryz.func133.trans (congrArg some (by kernel_rfl))
  f20 := Tryz.func134.trans (congrArg some (by kernel_rfl))
  f30 := ⟨Tryz.f150.name, by decide, Tryz.func150.trans (congrArg some (by kernel_rfl))⟩
  f31 := Tryz.func146.trans (congrArg some (by kernel_rfl))
  f32 := Tryz.func147.trans (congrArg some (by kernel_rfl))
  f33 := ⟨Tryz.f151.name, by decide, Tryz.func151.trans (congrArg some (by kernel_rfl))⟩
  f34 := ⟨Tryz.f152.name, by decide, Tryz.func152.trans (congrArg some (by kernel_rfl))⟩
  f35 := ⟨Tryz.f153.name, by decide, Tryz.func153.trans (congrArg some (by kernel_rfl))⟩
  f40 := ⟨Tryz.f155.name, by decide, Tryz.func155.trans (congrArg some (by kernel_rfl))⟩
  t0 := Tryz.underlying0
  a0 := Tryz.isAgg0
  z0 := Tryz.sizeOf0
  v0 := Tryz.zeroValue0
  t3 := Tryz.underlying3
  a3 := Tryz.isAgg3
  z3 := Tryz.sizeOf3
  v3 := Tryz.zeroValue3
  t4 := Tryz.underlying4
  a4 := Tryz.isAgg4
  z4 := Tryz.sizeOf4
  v4 := Tryz.zeroValue4
  t5 := Tryz.underlying5
  a5 := Tryz.isAgg5
  z5 := Tryz.sizeOf5
  v5 := Tryz.zeroValue5
  t9 := Tryz.underlying9
  a9 := Tryz.isAgg9
  z9 := Tryz.sizeOf9
  v9 := Tryz.zeroValue9
  t22 := Tryz.underlying23
  a22 := Tryz.isAgg23
  z22 := Tryz.sizeOf23
  v22 := Tryz.zeroValue23
  t23 := Tryz.underlying23
  a23 := Tryz.isAgg23
  z23 := Tryz.sizeOf23
  v23 := Tryz.zeroValue23
  t25 := Tryz.underlying3
  a25 := Tryz.isAgg3
  z25 := Tryz.sizeOf3
  v25 := Tryz.zeroValue3
  t32 := Tryz.underlying90
  a32 := Tryz.isAgg90
  z32 := Tryz.sizeOf90
  v32 := Tryz.zeroValue90
  t35 := Tryz.underlying153
  a35 := Tryz.isAgg153
  z35 := Tryz.sizeOf153
  v35 := Tryz.zeroValue153
  t36 := Tryz.underlying154
  a36 := Tryz.isAgg154
  z36 := Tryz.sizeOf154
  v36 := Tryz.zeroValue154
  t41 := Tryz.underlying158
  a41 := Tryz.isAgg158
  z41 := Tryz.sizeOf158
  v41 := Tryz.zeroValue158
  t44 := Tryz.underlying161
  a44 := Tryz.isAgg161
  z44 := Tryz.sizeOf161
  v44 := Tryz.zeroValue161
  t46 := Tryz.underlying163
  a46 := Tryz.isAgg163
  z46 := Tryz.sizeOf163
  v46 := Tryz.zeroValue163
  t53 := Tryz.underlying168
  a53 := Tryz.isAgg168
  z53 := Tryz.sizeOf168
  v53 := Tryz.zeroValue168
  t57 := Tryz.underlying172
  a57 := Tryz.isAgg172
  z57 := Tryz.sizeOf172
  v57 := Tryz.zeroValue172
  t63 := Tryz.underlying176
  a63 := Tryz.isAgg176
  z63 := Tryz.sizeOf176
  v63 := Tryz.zeroValue176
  t64 := Tryz.underlying49
  a64 := Tryz.isAgg49
  z64 := Tryz.sizeOf49
  v64 := Tryz.zeroValue49 }
end Go.Proofs
namespace Go.Proofs.YtlmglnobdcgbeaaGreat.P
open Go.RowKit Go.Shelf Go.Sort Go.Proofs.YtlmglnobdcgbeaaGreatW.PrintWords Go.Proofs.YtlmglnobdcgbeaaGreatW.PrintLast Go.Proofs.YtlmglnobdcgbeaaGreatW.PrintMore Go.Proofs.YtlmglnobdcgbeaaGreat.R
def srt (l : List Int) : List Int := l.mergeSort fun x y => decide (x ≤ y)
theorem srt_length (l : List Int) : (srt l).length = l.length := by simp [srt]
theorem R_block {w : World} {base : Nat} {ok : Nat → Prop} {v : Value} {xs : List Int} (h : Kd.R (Kd.int .i64) 3 w base ok v xs) :
    (v = .slice none 0 0 ∧ xs = []) ∨ ∃ g cap cur, v = .slice (some ⟨g, 0, none⟩) xs.length cap ∧ base ≤ g ∧ w.heap[g]? = some (.cells cur 3 (0, 0)) ∧ xs.length ≤ cap ∧ cap ≤ maxLen ∧ cur.size = cap * 1 ∧ cur.toList.take xs.length = xs.map encZ := by
  have ho := Kd.own_of_R h
  rcases slice_of_own ho with ⟨h1, h2, h3⟩ | ⟨g, c, cells, h1, h2, h3, h4, h5, h6, h7⟩
  · exact .inl ⟨h1, List.eq_nil_of_length_eq_zero h2⟩
  · exact .inr ⟨g, c, cells, h1, h2, h3, h4, h5, h6, by have e : (encs (Value.int .i64) xs).length = xs.length := encs_length _; rw [e] at h7; exact h7⟩
set_option maxHeartbeats 2000000 in
theorem aD7 {W : World} {base : Nat} {v : Value} {xs : List Int} (h : Kd.R (Kd.int .i64) 3 W base (fun _ => True) v xs) (hlen : xs.length ≤ 1000000) :
    Calls Tryz.prog 100 #[v] W fun e w' => e = .returned (.tuple #[]) ∧ Kd.R (Kd.int .i64) 3 w' base (fun _ => True) v (srt xs) ∧ W.grownBy w' v.ownBlock := by
  rcases R_block h with ⟨rfl, rfl⟩ | ⟨g, cap, cur, rfl, hb, hg, h1, h2, h3, h4⟩
  · refine (AnyM.slices_Sort_int_none Tryz.sortA none 0 W).mono ?_
    rintro e w' ⟨rfl, rfl⟩
    exact ⟨rfl, by simpa [srt] using h, World.grownBy.refl _ _⟩
  · have hH : Holds encZ W g 0 xs.toArray := holds_of_block_i hg h4
    refine (AnyM.slices_Sort_int Tryz.sortA g 0 cap xs W hH (Array.getElem?_eq_some_iff.1 hg).1 (by omega)).mono ?_
    rintro e w' ⟨rfl, n, os, rfl⟩
    refine ⟨rfl, ?_, grownBy_sorted_i _⟩
    have ho := ownsRow_sorted_i (n := n) (os := os) (ts := srt xs) (srt_length xs) hb hg h1 h2 h3
    have hl := srt_length xs
    refine Kd.R_of_own (h1 := fun _ => rfl) (enc := Value.int .i64) (xs := srt xs) ?_ (fun _ _ => trivial)
    rw [hl]
    exact ho
set_option maxHeartbeats 2000000 in
theorem sorted_calls (zs : List Int) (A : Option Addr) (c : Nat) (B : Nat) (w : World) (hB : w.heap[B]? = some (.cells #[.slice A zs.length c] 23 (0, 0))) (hr : Kd.C (Kd.int .i64) w A zs.length zs) (hlen : zs.length ≤ 1000000) :
    Calls Tryz.prog 94 #[.func (.func 118) #[] #[.pointer (some ⟨B, 0, none⟩)]] w fun e w' => ∃ v, e = .returned v ∧ Kd.R (Kd.int .i64) 3 w' w.heap.size (fun _ => True) v (srt zs) ∧ Below w.heap.size w w' := by
  have H := aM (collect_calls zs A c B w hB hr hlen)
  have HL := aM hlen
  clear hB hr hlen
  go_enter Tryz.func94, Tryz.ntmps94
  go_wp2_with (first
    | (go_at_call 117; refine H.out.mono ?_; rintro e w1 ⟨v, rfl, h1, h2⟩; have H1 := aM h1; have H2 := aM h2; clear h1 h2)
    | (go_at_call 100; refine (aD7 H1.out HL.out).mono ?_; rintro e w2 ⟨rfl, h3, h4⟩; have H3 := aM h3; have H4 := aM h4; clear h3 h4))
  go_ret
  exact ⟨_, rfl, H3.out, H2.out.grown H4.out H2.out.size (Kd.R_base H1.out)⟩
end Go.Proofs.YtlmglnobdcgbeaaGreat.P
namespace Go.Proofs.YtlmglnobdcgbeaaGreat.P
open Go.RowKit Go.Proofs.YtlmglnobdcgbeaaGreatW.PrintWords Go.Proofs.YtlmglnobdcgbeaaGreatW.PrintLast Go.Proofs.YtlmglnobdcgbeaaGreatW.PrintMore
attribute [local go_sem] max2_int min2_int max_two min_two max_three min_three max_four min_four
def idxO {α : Type} (q : α → Option Bool) : List α → Nat → Option Int
  | [], _ => some (-1)
  | x :: r, i => (q x).bind fun b => if b = true then some (i : Int) else idxO q r (i + 1)
def anyO {α : Type} (q : α → Option Bool) : List α → Option Bool
  | [] => some false
  | x :: r => (q x).bind fun b => if b = true then some true else anyO q r
theorem goesV_ {P : Program} {ops : Array Oper} {Q : Exit → Act → World → Prop} {oi : Oper} {N : Option Tmp} {a : Act} {w : World} {K : Act → World → Prop} {f : FuncId} {fn : Func} {o : Operand} {xs : Array Operand} {ts : Array TypeId} {lb : Array Value} (hf : P.funcs[f]? = some fn) (hname : (fn.name == "runtime.NumGoroutine") = false) (hb : fn.body.isSome = true) (args : Array Value)
    (hw : Region.wanted oi (yielded ops a.tmps) = true) (hN : oi.dst = N) (hop : oi.op = .call { callee := .value o, args := xs, argTypes := ts }) (ho : a.eval o = .func (.func f) #[] lb) (hargs : xs.map a.eval ++ lb = args)
    (h : Calls P f args w fun e w' => ∃ v, e = .returned v ∧ K (a.put N v) w') : if Region.wanted oi (yielded ops a.tmps) = true then Oper.wp P oi a w K Q else K (a.put N undef) w := by
  refine call_ f args hw hN ?_ h
  have he := enters_ hf hname hb args w
  unfold execOp
  simp [hop, resolve, Deferred.ofValue, invoke, ho, hargs, he]
theorem goesW_ {P : Program} {ops : Array Oper} {Q : Exit → Act → World → Prop} {oi : Oper} {N : Option Tmp} {a : Act} {w : World} {K : Act → World → Prop} {f : FuncId} {fn : Func} {o : Operand} {xs : Array Operand} {ts : Array TypeId} {fb : Array Value} (hf : P.funcs[f]? = some fn) (hname : (fn.name == "runtime.NumGoroutine") = false) (hb : fn.body.isSome = true) (args : Array Value)
    (hw : Region.wanted oi (yielded ops a.tmps) = true) (hN : oi.dst = N) (hop : oi.op = .call { callee := .value o, args := xs, argTypes := ts }) (ho : a.eval o = .func (.func f) fb #[]) (hargs : fb ++ xs.map a.eval = args)
    (h : Calls P f args w fun e w' => ∃ v, e = .returned v ∧ K (a.put N v) w') : if Region.wanted oi (yielded ops a.tmps) = true then Oper.wp P oi a w K Q else K (a.put N undef) w := by
  refine call_ f args hw hN ?_ h
  have he := enters_ hf hname hb args w
  unfold execOp
  simp [hop, resolve, Deferred.ofValue, invoke, ho, hargs, he]
theorem idxO_any {α : Type} (q : α → Option Bool) : ∀ (l : List α) (i : Nat) (r : Bool), anyO q l = some r → ∃ j, idxO q l i = some j ∧ decide (j ≥ 0) = r
  | [], i, r, h => ⟨-1, rfl, by simpa [anyO] using h⟩
  | x :: l, i, r, h => by
    unfold anyO at h
    unfold idxO
    obtain ⟨b, hb, h⟩ := Option.bind_eq_some_iff.mp h
    rw [hb]
    cases b with
    | true =>
      simp at h
      subst h
      exact ⟨i, rfl, by simp⟩
    | false =>
      simp at h
      obtain ⟨j, h1, h2⟩ := idxO_any q l (i + 1) r h
      exact ⟨j, by simpa using h1, h2⟩
theorem idxO_drop {α : Type} (q : α → Option Bool) (l : List α) (k : Nat) (h : k < l.length) : idxO q (l.drop k) k = (q l[k]).bind fun b => if b = true then some (k : Int) else idxO q (l.drop (k + 1)) (k + 1) := by
  rw [List.drop_eq_getElem_cons h]; rfl
theorem anyO_le {α : Type} {q q' : α → Option Bool} (h : ∀ x, LeO (q x) (q' x)) : ∀ l, LeO (anyO q l) (anyO q' l)
  | [] => fun _ h => h
  | x :: l => by
    intro r hr
    unfold anyO at hr ⊢
    obtain ⟨b, hb, hr⟩ := Option.bind_eq_some_iff.mp hr
    rw [h x b hb]
    cases b with
    | true => simpa using hr
    | false =>
      simp at hr
      simpa using anyO_le h l r hr
theorem anyO_of {α : Type} {q : α → Option Bool} {p : α → Bool} : ∀ {l : List α}, (∀ x ∈ l, q x = some (p x)) → anyO q l = some (l.any p)
  | [], _ => rfl
  | x :: l, h => by
    unfold anyO
    rw [h x (by simp)]
    have ih := anyO_of (q := q) (p := p) (l := l) (fun y hy => h y (by simp [hy]))
    cases hp : p x <;> simp [hp, ih]
end Go.Proofs.YtlmglnobdcgbeaaGreat.P
namespace Go.Proofs.YtlmglnobdcgbeaaGreat.P
open Go.RowKit Go.Shelf Go.Proofs.YtlmglnobdcgbeaaGreatW.PrintWords Go.Proofs.YtlmglnobdcgbeaaGreatW.PrintLast Go.Proofs.YtlmglnobdcgbeaaGreatW.PrintMore Go.Proofs.YtlmglnobdcgbeaaGreat.R
attribute [local go_sem] max2_int min2_int max_two min_two max_three min_three max_four min_four
def aC6.T5 : Bool × List (List Nat × List Nat) := (true, [([], []), ([], []), ([1], [1]), ([], []), ([3], [3]), ([4], [4]), ([2, 5], [2, 5]), ([0, 6], [0, 6]), ([], []), ([8, 7, 0, 1, 2, 3, 4, 5, 6, 7, 8], [7, 8])])
def aC6.B5 : List Nat := [0, 0, 2, 0, 8, 24, 62, 127, 0, 511]
theorem aC6.tab5 : rtab .any (opsOf Tryz.f99 5) = aC6.T5 := by kernel_rfl
theorem aC6.bits5 : waitsOk aC6.T5.2 aC6.B5 = true := by kernel_rfl
def aC6.T6 : Bool × List (List Nat × List Nat) := (true, [([], []), ([0], [0]), ([], []), ([], []), ([3], [3]), ([2, 4], [2, 4]), ([1, 5], [1, 5]), ([0, 1, 2, 3, 4, 5, 6], []), ([7, 6, 5, 0, 1, 2, 3, 4, 5, 6], [6, 7])])
def aC6.B6 : List Nat := [0, 1, 0, 0, 8, 28, 63, 127, 255]
theorem aC6.tab6 : rtab .any (opsOf Tryz.f99 6) = aC6.T6 := by kernel_rfl
theorem aC6.bits6 : waitsOk aC6.T6.2 aC6.B6 = true := by kernel_rfl
def loopBody : Code → Option Code
  | .seq a b => match loopBody a with | some x => some x | none => loopBody b
  | .block _ c => loopBody c
  | .loop c => some c
  | .cond _ a b => match loopBody a with | some x => some x | none => loopBody b
  | _ => none
def firstBlock : Code → Option Code
  | .seq a b => match firstBlock a with | some x => some x | none => firstBlock b
  | .block _ c => some c
  | .cond _ a b => match firstBlock a with | some x => some x | none => firstBlock b
  | _ => none
def seqL : Code → List Code
  | .seq a b => a :: seqL b
  | c => [c]
structure TurnDone (P0_ : Nat → Prop) (w0 w : World) (u : Value) (l0 : List Int) (x tk dn : Int) (g10 : Nat) (w' : World) : Prop where
  t : w'.heap[g10]? = some (.cells #[.int .i64 x, .int .i64 tk, .int .i64 dn] 107 (0, 0))
  ge : w.heap.size ≤ g10
  row : Kd.R (Kd.int .i64) 3 w' w0.heap.size (fun k_ => (P0_ k_ ∨ w.heap.size ≤ k_)) u (l0.set 0 dn)
  bel : Below w0.heap.size w0 w'
  kept : Kept w w' (fun k_ => P0_ k_)
set_option maxHeartbeats 16000000 in
set_option maxRecDepth 100000 in
theorem aC6 {n : Nat} {Q : Exit → Act → World → Prop} (P0_ : Nat → Prop) (u9000_ : Value) (l0 : List Int) (a1 : Int) (B3 : Nat) (kU : Option Addr) (fW : Nat) (aK : List (S67)) (fX : Option Addr) (fY : Nat) (fZ : List Int) (B4 : Nat) (g : FuncId) (fng : Func) (w0 w : World)
    (hB : Below w0.heap.size w0 w) (oL : Kd.R (Kd.int .i64) 3 w w0.heap.size P0_ u9000_ l0) (hb3 : w.heap[B3]? = some (.cells #[.slice kU aK.length fW, .slice fX fZ.length fY] 99 (0, 0))) (hr3_0 : Kd.C k67 w kU aK.length aK)
    (hb4 : w.heap[B4]? = some (.cells #[.func (.func g) #[] #[]] 135 (0, 0))) (nb3_4 : B3 ≠ B4) (hg1 : Tryz.prog.funcs[g]? = some fng) (hg2 : (fng.name == "runtime.NumGoroutine") = false) (hg3 : fng.body.isSome = true)
    (bF : Int) (hof : ∀ W_, Calls Tryz.prog g #[.agg #[.int .i64 ((aA4 aK a1).f2.f0), .int .i64 ((aA4 aK a1).f2.f1)]] W_ fun e w' => e = .returned (.int .i64 bF) ∧ Below W_.heap.size W_ w')
    (c6 : 0 ≤ a1) (c7 : a1 < (aK.length : Int)) (c8 : 0 < (l0.length : Int)) (y0 y1 y2 y5 y7 y9 qR oM oN oO oP oQ oR oS oT qS qT qU qV qW qX qY qZ rA rB rC rD rE rF rG rH rI rJ rK rL rM rN rO rP rQ rR oU oV oW oX oY oZ pA : Value) (ds : List Deferred) (r4 r5 r6 r7 z : Code) (hc : ((Tryz.f99.body.bind loopBody).bind firstBlock).map (fun c => ((seqL c).drop 1).take 4) = some [r4, r5, r6, r7])
    (hqp : ∀ c a a' w, a.defers = a'.defers → Q (.panic c) a w → Q (.panic c) a' w)
    (hQ : ∀ (g10 : Nat) (w' : World) (z9 z19 z20 z21 z22 z23 z24 z25 z26 z27 z28 z29 z30 z31 z32 z33 z34 z35 z36 z37 z38 z39 z40 z41 z42 z43 z44 : Value), TurnDone P0_ w0 w u9000_ l0 a1 (mx ((aA4 aK a1).f1) (rd l0 0)) (wrap64 ((mx ((aA4 aK a1).f1) (rd l0 0)) + bF)) g10 w' → z.wpIn Fence.wide n Tryz.prog Q { tmps := #[y0, y1, y2, .pointer (some ⟨B3, 0, none⟩), .pointer (some ⟨B4, 0, none⟩), y5, u9000_, y7, .int .i64 a1, z9, .pointer (some ⟨g10, 0, none⟩), oM, oN, oO, oP, oQ, oR, oS, oT, z19, z20, z21, z22, z23, z24, z25, z26, z27, z28, z29, z30, z31, z32, z33, z34, z35, z36, z37, z38, z39, z40, z41, z42, z43, z44, oU, oV, oW, oX, oY, oZ, pA], defers := ds } w') :
    (r4.seq (r5.seq (r6.seq (r7.seq z)))).wpIn Fence.wide n Tryz.prog Q { tmps := #[y0, y1, y2, .pointer (some ⟨B3, 0, none⟩), .pointer (some ⟨B4, 0, none⟩), y5, u9000_, y7, .int .i64 a1, y9, qR, oM, oN, oO, oP, oQ, oR, oS, oT, qS, qT, qU, qV, qW, qX, qY, qZ, rA, rB, rC, rD, rE, rF, rG, rH, rI, rJ, rK, rL, rM, rN, rO, rP, rQ, rR, oU, oV, oW, oX, oY, oZ, pA], defers := ds } w := by
  simp only [Tryz.f99, Option.bind_some, loopBody, firstBlock, seqL, Option.map_some, List.drop_succ_cons, List.drop_zero, List.take_succ_cons, List.take_zero, Option.some.injEq, List.cons.injEq, and_true] at hc
  obtain ⟨rfl, rfl, rfl, rfl⟩ := hc
  have hu67 := Tryz.underlying67
  have hu107 := Tryz.underlying107
  have hu42 := Tryz.underlying42
  have bK := aM (show Kd.R (Kd.int .i64) 3 w w0.heap.size (fun k_ => (P0_ k_ ∨ w.heap.size ≤ k_)) u9000_ l0 from Kd.R_mono oL (fun k_ hk => (.inl hk)))
  have kV := aM hr3_0
  clear hr3_0
  have cG := aM hb3
  clear hb3
  have cF := aM hb4
  clear hb4
  have kW := aM nb3_4
  have kX := aM nb3_4.symm
  clear nb3_4
  have HK := aM (Kept.refl w (fun k_ => P0_ k_))
  have HW0 := aM hB.size
  have HB := aM hB
  clear hB oL
  have HG1 := aM hg1
  have HG2 := aM hg2
  have HG3 := aM hg3
  have HOF := aM hof
  have HQ := aM hQ
  have HQP := aM hqp
  clear hqp hg1 hg2 hg3 hof hQ
  have gA : decide (0 ≤ a1) = true := decide_eq_true c6
  clear c6
  have rS : decide (a1 < (aK.length : Int)) = true := decide_eq_true c7
  clear c7
  have rT : decide (0 < (l0.length : Int)) = true := decide_eq_true c8
  have rU : decide (0 < l0.length) = true := decide_eq_true (by omega)
  clear c8
  obtain ⟨cD, kF⟩ : ∃ j_ : Int, (mx ((aA4 aK a1).f1) (rd l0 0)) = j_ := ⟨_, rfl⟩
  have hji9_ : (if ((aA4 aK a1).f1) < (rd l0 0) then (rd l0 0) else ((aA4 aK a1).f1)) = cD := kF
  obtain ⟨fM, dQ⟩ : ∃ y_ : List Int, y_ = (l0.set (0 : Int).toNat (wrap64 ((cD) + bF))) := ⟨_, rfl⟩
  have cH := aM dQ
  clear dQ
  have pD := kW.out
  have pG := kX.out
  obtain ⟨_, _, _, _⟩ := cf2 cG
  have bR : 0 ≤ (a1 : Int) := dT
  have bS : a1 < (aK.length : Int) := dT
  obtain ⟨cZ, eA, dA, lX, lY, lZ⟩ := aD4 kV.out a1 bR bS
  cases eA
  replace bR := eq_true bR
  replace bS := eq_true bS
  go_wp2_with (first | ((with_reducible refine gate_dst (N := 9) rfl ?_); refine bx 9 #[.int .i64 0, .int .i64 0, .int .i64 0, .int .i64 0] 67 ?_; intro aD hg w14 hbox hb; replace bK := rb bK hb; have aE := hbox; have cI := aM ((by rw [hg]; exact (by first | exact HK.out.1 | exact (show Kept w _ (fun k_ => P0_ k_) from by repeat (first | (with_reducible first | exact HK.out | apply Kept.alloc | apply Kept.drewN | apply Kept.drew | refine Kept.setCell ?_ (.inr jV.out) _ | refine Kept.setCell ?_ (.inr jW.out) _) | exact HK.out)).1) : w.heap.size ≤ aD)); replace HK := aM (Kept.below (S := (fun k_ => P0_ k_)) (by repeat (first | (with_reducible first | exact HK.out | apply Kept.alloc | apply Kept.drewN | apply Kept.drew | refine Kept.setCell ?_ (.inr jV.out) _ | refine Kept.setCell ?_ (.inr jW.out) _) | exact HK.out)) hb); have jX := aM ((by rw [hg]; exact (below_size (pE HB)) : w0.heap.size ≤ aD)); replace HB := bs HB hb; have hU := nl cG hg; have hX := nr cG hg; replace cG := bb cG hb; have hZ := nl cF hg; have iA := nr cF hg; replace cF := bb cF hb; clear hb hbox hg; have pH := hX.out; have pI := hU.out; have pJ := iA.out; have pK := hZ.out; obtain ⟨_, _, _, _, _, _, _, _⟩ := cf4 aE) | (with_reducible refine regW_lit_ ?_) | gi_step)
  have n0_ : Aside0 (Kd.R (Kd.int .i64) 3 ((((w14.setCell ⟨aD, 0, none⟩ (.int .i64 ((aA4 aK a1).f0))).setCell ⟨aD, 1, none⟩ (.int .i64 ((aA4 aK a1).f1))).setCell ⟨aD, 2, none⟩ (.int .i64 ((aA4 aK a1).f2.f0))).setCell ⟨aD, 3, none⟩ (.int .i64 ((aA4 aK a1).f2.f1))) w0.heap.size (fun k_ => (P0_ k_ ∨ w.heap.size ≤ k_)) u9000_ l0) := ⟨by (with_reducible repeat (first | apply Kd.R_alloc | apply Kd.R_drewN | apply Kd.R_drew)); exact Kd.R_mono (Kd.R_far (p := ⟨aD, 3, none⟩) (Kd.R_far (p := ⟨aD, 2, none⟩) (Kd.R_far (p := ⟨aD, 1, none⟩) (Kd.R_far (p := ⟨aD, 0, none⟩) (Kd.R_types bK.out aE.out (by decide)) (fun _ hk => hk.2) (.int .i64 ((aA4 aK a1).f0))) (fun _ hk => hk.2) (.int .i64 ((aA4 aK a1).f1))) (fun _ hk => hk.2) (.int .i64 ((aA4 aK a1).f2.f0))) (fun _ hk => hk.2) (.int .i64 ((aA4 aK a1).f2.f1))) (fun _ hk => hk.1)⟩
  have n1_ : Aside0 (((((w14.setCell ⟨aD, 0, none⟩ (.int .i64 ((aA4 aK a1).f0))).setCell ⟨aD, 1, none⟩ (.int .i64 ((aA4 aK a1).f1))).setCell ⟨aD, 2, none⟩ (.int .i64 ((aA4 aK a1).f2.f0))).setCell ⟨aD, 3, none⟩ (.int .i64 ((aA4 aK a1).f2.f1))).heap[B3]? = some (.cells #[.slice (some cZ) aK.length fW, .slice fX fZ.length fY] 99 (0, 0))) := ⟨pF cG⟩
  have n2_ : Aside0 (((((w14.setCell ⟨aD, 0, none⟩ (.int .i64 ((aA4 aK a1).f0))).setCell ⟨aD, 1, none⟩ (.int .i64 ((aA4 aK a1).f1))).setCell ⟨aD, 2, none⟩ (.int .i64 ((aA4 aK a1).f2.f0))).setCell ⟨aD, 3, none⟩ (.int .i64 ((aA4 aK a1).f2.f1))).heap[B4]? = some (.cells #[.func (.func g) #[] #[]] 135 (0, 0))) := ⟨pF cF⟩
  have n3_ : Aside0 (((((w14.setCell ⟨aD, 0, none⟩ (.int .i64 ((aA4 aK a1).f0))).setCell ⟨aD, 1, none⟩ (.int .i64 ((aA4 aK a1).f1))).setCell ⟨aD, 2, none⟩ (.int .i64 ((aA4 aK a1).f2.f0))).setCell ⟨aD, 3, none⟩ (.int .i64 ((aA4 aK a1).f2.f1))).heap[aD]? = some (.cells #[.int .i64 ((aA4 aK a1).f0), .int .i64 ((aA4 aK a1).f1), .int .i64 ((aA4 aK a1).f2.f0), .int .i64 ((aA4 aK a1).f2.f1)] 67 (0, 0))) := ⟨by refine pB ?_; refine blk_put (cs := #[.int .i64 ((aA4 aK a1).f0), .int .i64 ((aA4 aK a1).f1), .int .i64 ((aA4 aK a1).f2.f0), .int .i64 0]) ?_ 3 _ rfl; refine pB ?_; refine blk_put (cs := #[.int .i64 ((aA4 aK a1).f0), .int .i64 ((aA4 aK a1).f1), .int .i64 0, .int .i64 0]) ?_ 2 _ rfl; refine pB ?_; refine blk_put (cs := #[.int .i64 ((aA4 aK a1).f0), .int .i64 0, .int .i64 0, .int .i64 0]) ?_ 1 _ rfl; refine pB ?_; refine blk_put (cs := #[.int .i64 0, .int .i64 0, .int .i64 0, .int .i64 0]) ?_ 0 _ rfl; exact pB aE.out⟩
  have n4_ : Aside0 (Kept w ((((w14.setCell ⟨aD, 0, none⟩ (.int .i64 ((aA4 aK a1).f0))).setCell ⟨aD, 1, none⟩ (.int .i64 ((aA4 aK a1).f1))).setCell ⟨aD, 2, none⟩ (.int .i64 ((aA4 aK a1).f2.f0))).setCell ⟨aD, 3, none⟩ (.int .i64 ((aA4 aK a1).f2.f1))) (fun k_ => P0_ k_)) := ⟨by repeat (first | (with_reducible first | exact HK.out | apply Kept.alloc | apply Kept.drewN | apply Kept.drew | refine Kept.setCell ?_ (.inr jV.out) _ | refine Kept.setCell ?_ (.inr jW.out) _ | refine Kept.setCell ?_ (.inr cI.out) _) | exact HK.out)⟩
  have n5_ : Aside0 (Below w0.heap.size w0 ((((w14.setCell ⟨aD, 0, none⟩ (.int .i64 ((aA4 aK a1).f0))).setCell ⟨aD, 1, none⟩ (.int .i64 ((aA4 aK a1).f1))).setCell ⟨aD, 2, none⟩ (.int .i64 ((aA4 aK a1).f2.f0))).setCell ⟨aD, 3, none⟩ (.int .i64 ((aA4 aK a1).f2.f1)))) := ⟨pE HB⟩
  (try clear bK)
  (try clear cG)
  (try clear cF)
  (try clear aE)
  (try clear HK)
  (try clear HB)
  generalize ((((w14.setCell ⟨aD, 0, none⟩ (.int .i64 ((aA4 aK a1).f0))).setCell ⟨aD, 1, none⟩ (.int .i64 ((aA4 aK a1).f1))).setCell ⟨aD, 2, none⟩ (.int .i64 ((aA4 aK a1).f2.f0))).setCell ⟨aD, 3, none⟩ (.int .i64 ((aA4 aK a1).f2.f1))) = w18 at n0_ n1_ n2_ n3_ n4_ n5_ ⊢
  have bK := n0_
  have cG := n1_
  have cF := n2_
  have aE := n3_
  have HK := n4_
  have HB := n5_
  clear n0_ n1_ n2_ n3_ n4_ n5_
  replace bK := aM (Kd.R_drew bK.out)
  replace cG := aM (blk_drew cG.out)
  replace cF := aM (blk_drew cF.out)
  replace aE := aM (blk_drew aE.out)
  replace HK := aM (Kept.drew HK.out)
  replace HB := aM (below_drew1 HB.out)
  obtain ⟨nG, iB, iC⟩ := Kd.R_slice bK.out
  (first | subst iC | (injection iC with f1_ f2_ f3_; have f4_ := f1_.symm; have f5_ := f3_.symm; clear f1_ f2_ f3_; subst f4_; subst f5_))
  have kG : 0 ≤ (0 : Int) := (by omega)
  have kH : 0 < (l0.length : Int) := dT
  obtain ⟨gB, nH, cJ⟩ := Kd.at_int (Kd.R_reads' bK.out).2.2 0 kG kH
  cases nH
  have qi103 : (0 < l0.length) = True := eq_true (by omega)
  (try rw [show ((0 : Int)).toNat = 0 from rfl] at cJ)
  (try rw [Addr.add_zero'] at cJ)
  replace kG := eq_true kG
  replace kH := eq_true kH
  refine wpIn_wide.2 (start_ (n := 10) (S := fun w' => w'.cell? ⟨aD, 0, none⟩ = some (.int .i64 ((aA4 aK a1).f0)) ∧ w'.cell? ⟨aD, 1, none⟩ = some (.int .i64 ((aA4 aK a1).f1)) ∧ w'.cell? ⟨aD, 2, none⟩ = some (.int .i64 ((aA4 aK a1).f2.f0)) ∧ w'.cell? ⟨aD, 3, none⟩ = some (.int .i64 ((aA4 aK a1).f2.f1)) ∧ w'.cell? gB = some (.int .i64 (rd l0 0))) (ds := []) #[false, false, false, false, false, false, false, false, false, false] (by kernel_rfl) rfl rfl ⟨(blk_cell aE.out 0).trans rfl, (blk_cell aE.out 1).trans rfl, (blk_cell aE.out 2).trans rfl, (blk_cell aE.out 3).trans rfl, cJ⟩ (fun bH => ?_)); refine with_tabW aC6.tab5 aC6.bits5 (fun HT_ HW_ => ?_)
  generalize w18.drew = w19 at bK cG cF aE HK HB cJ bH ⊢
  refine pu 0 25 ?_ (hQ := (fun c_ a_ w_ h_ => HQP.out c_ _ a_ w_ (by rfl) h_))
  refine pu 1 26 ?_ (hQ := (fun c_ a_ w_ h_ => HQP.out c_ _ a_ w_ (by rfl) h_))
  refine pu 3 28 ?_ (hQ := (fun c_ a_ w_ h_ => HQP.out c_ _ a_ w_ (by rfl) h_))
  refine pu 4 29 ?_ (hQ := (fun c_ a_ w_ h_ => HQP.out c_ _ a_ w_ (by rfl) h_))
  refine tk 2 27 bH ?_ (hQ := (fun c_ a_ w_ h_ => HQP.out c_ _ a_ w_ (by rfl) h_))
  refine tk 5 30 bH ?_ (hQ := (fun c_ a_ w_ h_ => HQP.out c_ _ a_ w_ (by rfl) h_))
  refine pu 6 31 ?_ (hQ := (fun c_ a_ w_ h_ => HQP.out c_ _ a_ w_ (by rfl) h_))
  refine pu 7 32 ?_ (hQ := (fun c_ a_ w_ h_ => HQP.out c_ _ a_ w_ (by rfl) h_))
  refine on 8 (fun K hK => ?_)
  refine box_step ?hg (N := 10) ?hd (cs := #[.int .i64 0, .int .i64 0, .int .i64 0]) (t := 107) ?hr ?_; (case hd => rfl); (case hg => rfl); (case hr => first | (go_simp; done) | (go_simp; rfl))
  intro aG hg w21 hbox hb
  have nI := (hb.cell (World.block_lt_of_cell? _ _ (bH.2.2.2.2))).trans (bH.2.2.2.2)
  replace bK := rb bK hb
  have aJ := aM (hbox)
  have dR := aM ((by rw [hg]; exact (by first | exact HK.out.1 | exact (show Kept w _ (fun k_ => P0_ k_) from by repeat (first | (with_reducible first | exact HK.out | apply Kept.alloc | apply Kept.drewN | apply Kept.drew | refine Kept.setCell ?_ (.inr jV.out) _ | refine Kept.setCell ?_ (.inr jW.out) _ | refine Kept.setCell ?_ (.inr cI.out) _) | exact HK.out)).1) : w.heap.size ≤ aG))
  replace HK := aM (Kept.below (S := (fun k_ => P0_ k_)) (by repeat (first | (with_reducible first | exact HK.out | apply Kept.alloc | apply Kept.drewN | apply Kept.drew | refine Kept.setCell ?_ (.inr jV.out) _ | refine Kept.setCell ?_ (.inr jW.out) _ | refine Kept.setCell ?_ (.inr cI.out) _) | exact HK.out)) hb)
  have kY := aM ((by rw [hg]; exact (below_size (pE HB)) : w0.heap.size ≤ aG))
  replace HB := bs HB hb
  have cK := nl cG hg
  have cL := nr cG hg
  replace cG := bb cG hb
  have cM := nl cF hg
  have cN := nr cF hg
  replace cF := bb cF hb
  have aN := nl aE hg
  have bN := nr aE hg
  replace aE := bb aE hb
  clear hb hbox hg
  refine hK.out _ _ ⟨(blk_cell aE.out 0).trans rfl, (blk_cell aE.out 1).trans rfl, (blk_cell aE.out 2).trans rfl, (blk_cell aE.out 3).trans rfl, nI⟩ (fun bH => ?_)
  clear hK K
  refine norm_ (a' := ?_) ?_ ?_
  rotate_left
  · show Act.put _ (some 10) _ = _
    simp only [Act.put, List.setIfInBounds_toArray, List.set_cons_zero, List.set_cons_succ, i64_w, i32_w]
    rfl
  refine on 9 (fun K hK => ?_)
  have hs22 : w21.cell? ⟨aG, 0, none⟩ = some (.int .i64 0) := (blk_cell aJ.out 0).trans rfl
  have hfs22 := blk_frozen aJ.out 0
  have mA := cK.out
  have mB := cM.out
  have mC := aN.out
  have mD := cL.out
  have mE := cN.out
  have mF := bN.out
  have hs23 : w21.cell? ⟨aG, 1, none⟩ = some (.int .i64 0) := (blk_cell aJ.out 1).trans rfl
  have hfs23 := blk_frozen aJ.out 1
  have mG := cK.out
  have mH := cM.out
  have mI := aN.out
  have mJ := cL.out
  have mK := cN.out
  have mL := bN.out
  have hs24 : w21.cell? ⟨aG, 2, none⟩ = some (.int .i64 0) := (blk_cell aJ.out 2).trans rfl
  have hfs24 := blk_frozen aJ.out 2
  have mM := cK.out
  have mN := cM.out
  have mO := aN.out
  have mP := cL.out
  have mQ := cN.out
  have mR := bN.out
  refine skip_ (w1 := ?_) (by rfl) rfl ?_ ?_
  rotate_left
  · go_simp
    rfl
  refine hK.out _ _ ⟨((cell_far (p := ⟨aG, _, none⟩) aN.out _).trans (((cell_far (p := ⟨aG, _, none⟩) aN.out _).trans (((cell_far (p := ⟨aG, _, none⟩) aN.out _).trans (bH.1)))))), ((cell_far (p := ⟨aG, _, none⟩) aN.out _).trans (((cell_far (p := ⟨aG, _, none⟩) aN.out _).trans (((cell_far (p := ⟨aG, _, none⟩) aN.out _).trans (bH.2.1)))))), ((cell_far (p := ⟨aG, _, none⟩) aN.out _).trans (((cell_far (p := ⟨aG, _, none⟩) aN.out _).trans (((cell_far (p := ⟨aG, _, none⟩) aN.out _).trans (bH.2.2.1)))))), ((cell_far (p := ⟨aG, _, none⟩) aN.out _).trans (((cell_far (p := ⟨aG, _, none⟩) aN.out _).trans (((cell_far (p := ⟨aG, _, none⟩) aN.out _).trans (bH.2.2.2.1)))))), ((cell_far (p := ⟨aG, _, none⟩) (by first | exact Kd.own_blk (Kd.R_ne bK.out aJ.out (by decide)) | (rw [add_block]; exact Kd.own_blk (Kd.R_ne bK.out aJ.out (by decide))) | (show (Addr.add _ _).block ≠ _; rw [add_block]; exact Kd.own_blk (Kd.R_ne bK.out aJ.out (by decide))) | (dsimp only; exact Kd.own_blk (Kd.R_ne bK.out aJ.out (by decide)))) _).trans (((cell_far (p := ⟨aG, _, none⟩) (by first | exact Kd.own_blk (Kd.R_ne bK.out aJ.out (by decide)) | (rw [add_block]; exact Kd.own_blk (Kd.R_ne bK.out aJ.out (by decide))) | (show (Addr.add _ _).block ≠ _; rw [add_block]; exact Kd.own_blk (Kd.R_ne bK.out aJ.out (by decide))) | (dsimp only; exact Kd.own_blk (Kd.R_ne bK.out aJ.out (by decide)))) _).trans (((cell_far (p := ⟨aG, _, none⟩) (by first | exact Kd.own_blk (Kd.R_ne bK.out aJ.out (by decide)) | (rw [add_block]; exact Kd.own_blk (Kd.R_ne bK.out aJ.out (by decide))) | (show (Addr.add _ _).block ≠ _; rw [add_block]; exact Kd.own_blk (Kd.R_ne bK.out aJ.out (by decide))) | (dsimp only; exact Kd.own_blk (Kd.R_ne bK.out aJ.out (by decide)))) _).trans (bH.2.2.2.2))))))⟩ (fun bH => ?_)
  clear hK K
  refine done_ (done_of HT_.out (by kernel_rfl)) ?_
  go_wp2_with (first | (with_reducible refine regW_lit_ ?_) | gi_step)
  have n0_ : Aside0 (Kd.R (Kd.int .i64) 3 (((w21.setCell ⟨aG, 0, none⟩ (.int .i64 a1)).setCell ⟨aG, 1, none⟩ (.int .i64 cD)).setCell ⟨aG, 2, none⟩ (.int .i64 0)) w0.heap.size (fun k_ => (P0_ k_ ∨ w.heap.size ≤ k_)) (.slice (some gB) l0.length iB) l0) := ⟨by (with_reducible repeat (first | apply Kd.R_alloc | apply Kd.R_drewN | apply Kd.R_drew)); exact Kd.R_mono (Kd.R_far (p := ⟨aG, 2, none⟩) (Kd.R_far (p := ⟨aG, 1, none⟩) (Kd.R_far (p := ⟨aG, 0, none⟩) (Kd.R_types bK.out aJ.out (by decide)) (fun _ hk => hk.2) (.int .i64 a1)) (fun _ hk => hk.2) (.int .i64 cD)) (fun _ hk => hk.2) (.int .i64 0)) (fun _ hk => hk.1)⟩
  have n1_ : Aside0 ((((w21.setCell ⟨aG, 0, none⟩ (.int .i64 a1)).setCell ⟨aG, 1, none⟩ (.int .i64 cD)).setCell ⟨aG, 2, none⟩ (.int .i64 0)).heap[B3]? = some (.cells #[.slice (some cZ) aK.length fW, .slice fX fZ.length fY] 99 (0, 0))) := ⟨pF cG⟩
  have n2_ : Aside0 ((((w21.setCell ⟨aG, 0, none⟩ (.int .i64 a1)).setCell ⟨aG, 1, none⟩ (.int .i64 cD)).setCell ⟨aG, 2, none⟩ (.int .i64 0)).heap[B4]? = some (.cells #[.func (.func g) #[] #[]] 135 (0, 0))) := ⟨pF cF⟩
  have n3_ : Aside0 ((((w21.setCell ⟨aG, 0, none⟩ (.int .i64 a1)).setCell ⟨aG, 1, none⟩ (.int .i64 cD)).setCell ⟨aG, 2, none⟩ (.int .i64 0)).heap[aD]? = some (.cells #[.int .i64 ((aA4 aK a1).f0), .int .i64 ((aA4 aK a1).f1), .int .i64 ((aA4 aK a1).f2.f0), .int .i64 ((aA4 aK a1).f2.f1)] 67 (0, 0))) := ⟨pF aE⟩
  have n4_ : Aside0 ((((w21.setCell ⟨aG, 0, none⟩ (.int .i64 a1)).setCell ⟨aG, 1, none⟩ (.int .i64 cD)).setCell ⟨aG, 2, none⟩ (.int .i64 0)).heap[aG]? = some (.cells #[.int .i64 a1, .int .i64 cD, .int .i64 0] 107 (0, 0))) := ⟨by refine pB ?_; refine blk_put (cs := #[.int .i64 a1, .int .i64 cD, .int .i64 0]) ?_ 2 _ rfl; refine pB ?_; refine blk_put (cs := #[.int .i64 a1, .int .i64 0, .int .i64 0]) ?_ 1 _ rfl; refine pB ?_; refine blk_put (cs := #[.int .i64 0, .int .i64 0, .int .i64 0]) ?_ 0 _ rfl; exact pB aJ.out⟩
  have n5_ : Aside0 (Kept w (((w21.setCell ⟨aG, 0, none⟩ (.int .i64 a1)).setCell ⟨aG, 1, none⟩ (.int .i64 cD)).setCell ⟨aG, 2, none⟩ (.int .i64 0)) (fun k_ => P0_ k_)) := ⟨by repeat (first | (with_reducible first | exact HK.out | apply Kept.alloc | apply Kept.drewN | apply Kept.drew | refine Kept.setCell ?_ (.inr jV.out) _ | refine Kept.setCell ?_ (.inr jW.out) _ | refine Kept.setCell ?_ (.inr cI.out) _ | refine Kept.setCell ?_ (.inr dR.out) _) | exact HK.out)⟩
  have n6_ : Aside0 (Below w0.heap.size w0 (((w21.setCell ⟨aG, 0, none⟩ (.int .i64 a1)).setCell ⟨aG, 1, none⟩ (.int .i64 cD)).setCell ⟨aG, 2, none⟩ (.int .i64 0))) := ⟨pE HB⟩
  (try clear bK)
  (try clear cG)
  (try clear cF)
  (try clear aE)
  (try clear aJ)
  (try clear HK)
  (try clear HB)
  generalize (((w21.setCell ⟨aG, 0, none⟩ (.int .i64 a1)).setCell ⟨aG, 1, none⟩ (.int .i64 cD)).setCell ⟨aG, 2, none⟩ (.int .i64 0)) = w25 at n0_ n1_ n2_ n3_ n4_ n5_ n6_ ⊢
  have bK := n0_
  have cG := n1_
  have cF := n2_
  have aE := n3_
  have aJ := n4_
  have HK := n5_
  have HB := n6_
  clear n0_ n1_ n2_ n3_ n4_ n5_ n6_
  replace bK := aM (Kd.R_drew bK.out)
  replace cG := aM (blk_drew cG.out)
  replace cF := aM (blk_drew cF.out)
  replace aE := aM (blk_drew aE.out)
  replace aJ := aM (blk_drew aJ.out)
  replace HK := aM (Kept.drew HK.out)
  replace HB := aM (below_drew1 HB.out)
  refine wpIn_wide.2 (start_ (n := 9) (S := fun w' => w'.cell? ⟨aG, 0, none⟩ = some (.int .i64 a1) ∧ w'.cell? ⟨aG, 1, none⟩ = some (.int .i64 cD) ∧ w'.cell? ⟨aG, 2, none⟩ = some (.int .i64 0) ∧ w'.cell? ⟨B4, 0, none⟩ = some (.func (.func g) #[] #[]) ∧ w'.cell? ⟨aD, 0, none⟩ = some (.int .i64 ((aA4 aK a1).f0)) ∧ w'.cell? ⟨aD, 1, none⟩ = some (.int .i64 ((aA4 aK a1).f1)) ∧ w'.cell? ⟨aD, 2, none⟩ = some (.int .i64 ((aA4 aK a1).f2.f0)) ∧ w'.cell? ⟨aD, 3, none⟩ = some (.int .i64 ((aA4 aK a1).f2.f1))) (ds := [8]) #[false, false, false, false, false, false, false, false, false] (by kernel_rfl) rfl rfl ⟨(blk_cell aJ.out 0).trans rfl, (blk_cell aJ.out 1).trans rfl, (blk_cell aJ.out 2).trans rfl, (blk_cell cF.out 0).trans rfl, (blk_cell aE.out 0).trans rfl, (blk_cell aE.out 1).trans rfl, (blk_cell aE.out 2).trans rfl, (blk_cell aE.out 3).trans rfl⟩ (fun bH => ?_)); refine with_tabW aC6.tab6 aC6.bits6 (fun HT_ HW_ => ?_)
  generalize w25.drew = w26 at bK cG cF aE aJ HK HB bH ⊢
  refine pu 0 33 ?_ (hQ := (fun c_ a_ w_ h_ => HQP.out c_ _ a_ w_ (by rfl) h_))
  refine pu 3 36 ?_ (hQ := (fun c_ a_ w_ h_ => HQP.out c_ _ a_ w_ (by rfl) h_))
  refine tk 1 34 bH ?_ (hQ := (fun c_ a_ w_ h_ => HQP.out c_ _ a_ w_ (by rfl) h_))
  refine tk 2 35 bH ?_ (hQ := (fun c_ a_ w_ h_ => HQP.out c_ _ a_ w_ (by rfl) h_))
  refine tk 4 37 bH ?_ (hQ := (fun c_ a_ w_ h_ => HQP.out c_ _ a_ w_ (by rfl) h_))
  refine on 5 (fun K hK => ?_)
  refine goesV_ HG1.out HG2.out HG3.out #[.agg #[.int .i64 ((aA4 aK a1).f2.f0), .int .i64 ((aA4 aK a1).f2.f1)]] (by rfl) rfl rfl rfl (by (try simp only [List.map_toArray, List.map_cons, List.map_nil]); first | done | rfl | (simp only [List.length_drop, List.length_take]; rfl)) ?_
  with_reducible refine (HOF.out _).mono ?_
  rintro e w27 ⟨rfl, hb⟩
  refine ⟨_, rfl, ?_⟩
  replace bK := rb bK hb
  replace cG := bb cG hb
  replace cF := bb cF hb
  replace aE := bb aE hb
  replace aJ := bb aJ hb
  replace HK := aM (Kept.below (S := (fun k_ => P0_ k_)) (by repeat (first | (with_reducible first | exact HK.out | apply Kept.alloc | apply Kept.drewN | apply Kept.drew | refine Kept.setCell ?_ (.inr jV.out) _ | refine Kept.setCell ?_ (.inr jW.out) _ | refine Kept.setCell ?_ (.inr cI.out) _ | refine Kept.setCell ?_ (.inr dR.out) _) | exact HK.out)) hb)
  replace HB := bs HB hb
  (try clear hb)
  (try clear hb2)
  (try clear hk)
  (try clear hi)
  refine hK.out _ _ ⟨(blk_cell aJ.out 0).trans rfl, (blk_cell aJ.out 1).trans rfl, (blk_cell aJ.out 2).trans rfl, (blk_cell cF.out 0).trans rfl, (blk_cell aE.out 0).trans rfl, (blk_cell aE.out 1).trans rfl, (blk_cell aE.out 2).trans rfl, (blk_cell aE.out 3).trans rfl⟩ (fun bH => ?_)
  clear hK K
  refine norm_ (a' := ?_) ?_ ?_
  rotate_left
  · show Act.put _ (some 38) _ = _
    simp only [Act.put, List.setIfInBounds_toArray, List.set_cons_zero, List.set_cons_succ, i64_w, i32_w]
    rfl
  refine pu 6 39 ?_ (hQ := (fun c_ a_ w_ h_ => HQP.out c_ _ a_ w_ (by rfl) h_))
  refine pu 7 40 ?_ (hQ := (fun c_ a_ w_ h_ => HQP.out c_ _ a_ w_ (by rfl) h_))
  refine last_ (i := 8) (N := none) #[true, true, true, true, true, true, true, true, true] rfl rfl (one_of HT_.out (by kernel_rfl)) (by decide) (fun K hK => ?_)
  have hs28 : w27.cell? ⟨aG, 2, none⟩ = some (.int .i64 0) := (blk_cell aJ.out 2).trans rfl
  have hfs28 := blk_frozen aJ.out 2
  have mS := cK.out
  have mT := cM.out
  have mU := aN.out
  have mV := cL.out
  have mW := cN.out
  have mX := bN.out
  refine skip_ (w1 := ?_) (by rfl) rfl ?_ ?_
  rotate_left
  · go_simp
    rfl
  refine hK.out _ _ ?_
  clear hK K
  refine done_ (done_of HT_.out (by kernel_rfl)) ?_
  have n0_ : Aside0 (Kd.R (Kd.int .i64) 3 (w27.setCell ⟨aG, 2, none⟩ (.int .i64 (wrap64 ((cD) + bF)))) w0.heap.size (fun k_ => (P0_ k_ ∨ w.heap.size ≤ k_)) (.slice (some gB) l0.length iB) l0) := ⟨by (with_reducible repeat (first | apply Kd.R_alloc | apply Kd.R_drewN | apply Kd.R_drew)); exact Kd.R_mono (Kd.R_far (p := ⟨aG, 2, none⟩) (Kd.R_types bK.out aJ.out (by decide)) (fun _ hk => hk.2) (.int .i64 (wrap64 ((cD) + bF)))) (fun _ hk => hk.1)⟩
  have n1_ : Aside0 ((w27.setCell ⟨aG, 2, none⟩ (.int .i64 (wrap64 ((cD) + bF)))).heap[B3]? = some (.cells #[.slice (some cZ) aK.length fW, .slice fX fZ.length fY] 99 (0, 0))) := ⟨pF cG⟩
  have n2_ : Aside0 ((w27.setCell ⟨aG, 2, none⟩ (.int .i64 (wrap64 ((cD) + bF)))).heap[B4]? = some (.cells #[.func (.func g) #[] #[]] 135 (0, 0))) := ⟨pF cF⟩
  have n3_ : Aside0 ((w27.setCell ⟨aG, 2, none⟩ (.int .i64 (wrap64 ((cD) + bF)))).heap[aD]? = some (.cells #[.int .i64 ((aA4 aK a1).f0), .int .i64 ((aA4 aK a1).f1), .int .i64 ((aA4 aK a1).f2.f0), .int .i64 ((aA4 aK a1).f2.f1)] 67 (0, 0))) := ⟨pF aE⟩
  have n4_ : Aside0 ((w27.setCell ⟨aG, 2, none⟩ (.int .i64 (wrap64 ((cD) + bF)))).heap[aG]? = some (.cells #[.int .i64 a1, .int .i64 cD, .int .i64 (wrap64 ((cD) + bF))] 107 (0, 0))) := ⟨by refine pB ?_; refine blk_put (cs := #[.int .i64 a1, .int .i64 cD, .int .i64 0]) ?_ 2 _ rfl; exact pB aJ.out⟩
  have n5_ : Aside0 (Kept w (w27.setCell ⟨aG, 2, none⟩ (.int .i64 (wrap64 ((cD) + bF)))) (fun k_ => P0_ k_)) := ⟨by repeat (first | (with_reducible first | exact HK.out | apply Kept.alloc | apply Kept.drewN | apply Kept.drew | refine Kept.setCell ?_ (.inr jV.out) _ | refine Kept.setCell ?_ (.inr jW.out) _ | refine Kept.setCell ?_ (.inr cI.out) _ | refine Kept.setCell ?_ (.inr dR.out) _) | exact HK.out)⟩
  have n6_ : Aside0 (Below w0.heap.size w0 (w27.setCell ⟨aG, 2, none⟩ (.int .i64 (wrap64 ((cD) + bF))))) := ⟨pE HB⟩
  (try clear bK)
  (try clear cG)
  (try clear cF)
  (try clear aE)
  (try clear aJ)
  (try clear HK)
  (try clear HB)
  generalize (w27.setCell ⟨aG, 2, none⟩ (.int .i64 (wrap64 ((cD) + bF)))) = w29 at n0_ n1_ n2_ n3_ n4_ n5_ n6_ ⊢
  have bK := n0_
  have cG := n1_
  have cF := n2_
  have aE := n3_
  have aJ := n4_
  have HK := n5_
  have HB := n6_
  clear n0_ n1_ n2_ n3_ n4_ n5_ n6_
  have kZ := cL.out
  have lA := cK.out
  have lB := cN.out
  have lC := cM.out
  have lD := bN.out
  have lE := aN.out
  have eO := cz0 aJ
  have eP := cz1 aJ
  have eQ : w29.cell? ⟨aG, 2, none⟩ = some (.int .i64 (wrap64 ((cD) + bF))) := (blk_cell aJ.out 2).trans rfl
  have eR := blk_frozen aJ.out 0
  have eS := blk_frozen aJ.out 1
  have eU := blk_frozen aJ.out 2
  have p11 : 0 ≤ (0 : Int) := (by omega)
  have q11 : (0 : Int) < ((l0.length : Int) : Int) := dT
  have qi11 : (0 < l0.length) = True := eq_true (by omega)
  obtain ⟨gC, rV, lF, lG, gl11, cl11, HG11⟩ := Kd.R_form bK.out (by omega)
  (first | cases lF | (injection lF with ea_ en_ ec_; (first | subst ea_ | (injection ea_ with ea_; subst ea_)); subst ec_; clear en_))
  have nJ := aM lG
  have rW := aM HG11
  clear lG gl11 HG11
  have HMgo11 := aM (show (P0_ gC ∨ w.heap.size ≤ gC) from (bK.out.1 _ rfl))
  (first | simp only [add_plain] at cJ | skip)
  obtain ⟨gD, gE⟩ := Kd.R_celln 0 bK.out (0 : Int) p11 q11
  (try rw [show ((0 : Int)).toNat = 0 from rfl] at gD)
  (try simp only [Nat.reduceMul, Nat.zero_mul, Nat.zero_add, Nat.reduceAdd] at gD)
  (try rw [show ((0 : Int)).toNat = 0 from rfl] at gE)
  (try simp only [Nat.reduceMul, Nat.zero_mul, Nat.zero_add, Nat.reduceAdd] at gE)
  replace p11 := eq_true p11
  replace q11 := eq_true q11
  obtain ⟨hy34_, hz34_⟩ := Kd.R_celln 0 bK.out (0 : Int) (by omega) (dT)
  (try simp only [Int.reduceToNat, Int.toNat_zero, Int.toNat_ofNat, Nat.reduceMul, Nat.zero_mul, Nat.zero_add] at hy34_ hz34_)
  (try rw [show ((0 : Int)).toNat = 0 from rfl] at hy34_)
  (try rw [show ((0 : Int)).toNat = 0 from rfl] at hz34_)
  have HP34 := Kd.R_putg bK.out (0 : Int) (wrap64 ((cD) + bF))
  go_wp2_with (first | ((with_reducible refine gate_store (t := 3) (p := 44) rfl ?_); refine store_event (t := 3) (p := 44) (v := ?vo_w35) (w1 := (w29.setCell ⟨gC, (0 : Int).toNat, none⟩ (.int .i64 (wrap64 ((cD) + bF))))) ?hg ?ho ?hn ?hr ?_; (case ho => rfl); (case hg => rfl); (case hn => rfl); (case hr => first | (go_simp; done) | (go_simp; rfl)); intro w35 hw; have hg : w29.grownBy w35 (some gC) := (by rw [hw]; exact HP34.2); have hp_ : Kd.R (Kd.int .i64) 3 w35 w0.heap.size (fun k_ => (P0_ k_ ∨ w.heap.size ≤ k_)) (.slice (some ⟨gC, 0, none⟩) l0.length iB) fM := (by rw [hw, cH.out]; exact HP34.1); clear HP34; replace cG := aM (blk_grown (g := B3) (o := .cells #[.slice (some cZ) aK.length fW, .slice fX fZ.length fY] 99 (0, 0)) (pB cG.out) hg (Kd.R_ne bK.out cG.out (by decide))); replace cF := aM (blk_grown (g := B4) (o := .cells #[.func (.func g) #[] #[]] 135 (0, 0)) (pB cF.out) hg (Kd.R_ne bK.out cF.out (by decide))); replace aE := aM (blk_grown (g := aD) (o := .cells #[.int .i64 ((aA4 aK a1).f0), .int .i64 ((aA4 aK a1).f1), .int .i64 ((aA4 aK a1).f2.f0), .int .i64 ((aA4 aK a1).f2.f1)] 67 (0, 0)) (pB aE.out) hg (Kd.R_ne bK.out aE.out (by decide))); replace aJ := aM (blk_grown (g := aG) (o := .cells #[.int .i64 a1, .int .i64 cD, .int .i64 (wrap64 ((cD) + bF))] 107 (0, 0)) (pB aJ.out) hg (Kd.R_ne bK.out aJ.out (by decide))); replace HB := aM ((by rw [hw]; exact below_set (HB.out) nJ.out : Below w0.heap.size w0 w35)); replace HK := aM (Kept.of_grown (S := (fun k_ => P0_ k_)) hg (by repeat (first | (with_reducible first | exact HK.out | apply Kept.alloc | apply Kept.drewN | apply Kept.drew | refine Kept.setCell ?_ (.inr jV.out) _ | refine Kept.setCell ?_ (.inr jW.out) _ | refine Kept.setCell ?_ (.inr cI.out) _ | refine Kept.setCell ?_ (.inr dR.out) _) | exact HK.out)) (fun k_ e_ => (bK.out.1 k_ e_))); replace bK := aM (hp_); clear hg hw hp_; have mY := cz0 aJ; have mZ := cz1 aJ; have nA : w35.cell? ⟨aG, 2, none⟩ = some (.int .i64 (wrap64 ((cD) + bF))) := (blk_cell aJ.out 2).trans rfl; have nB := blk_frozen aJ.out 0; have nC := blk_frozen aJ.out 1; have nD := blk_frozen aJ.out 2) | (with_reducible refine regW_lit_ ?_) | gi_step)
  refine HQ.out aG _ _ _ _ _ _ _ _ _ _ _ _ _ _ _ _ _ _ _ _ _ _ _ _ _ _ _ _ ⟨?t, ?ge, ?row, ?bel, ?kept⟩
  case t => rw [kF]; exact aJ.out
  case ge => first | exact dR.out | (rcases dR.out with h_ | h_; exact h_) | exact Nat.le_trans HW0.out kY.out
  case row => rw [kF]; have h_ := bK.out; rw [cH.out] at h_; exact h_
  case bel => exact HB.out
  case kept => exact HK.out
end Go.Proofs.YtlmglnobdcgbeaaGreat.P
namespace Go.Proofs.YtlmglnobdcgbeaaGreat.P
open Go.RowKit Go.Shelf Go.Proofs.YtlmglnobdcgbeaaGreatW.PrintWords Go.Proofs.YtlmglnobdcgbeaaGreatW.PrintLast Go.Proofs.YtlmglnobdcgbeaaGreatW.PrintMore Go.Proofs.YtlmglnobdcgbeaaGreat.R
def takenT (cl : List S67) (fr : List Int) (x : Int) : Int := mx ((aA4 cl x).f1) (rd fr 0)
def doneT (of : Int → Int → Int) (cl : List S67) (fr : List Int) (x : Int) : Int := wrap64 (takenT cl fr x + of ((aA4 cl x).f2.f0) ((aA4 cl x).f2.f1))
def freeT (of : Int → Int → Int) (cl : List S67) : List Int → List Int → List Int
  | fr, [] => fr
  | fr, x :: xs => freeT of cl (srt (fr.set 0 (doneT of cl fr x))) xs
def runT (of : Int → Int → Int) (cl : List S67) : List Int → List Int → List (Int × Int × Int)
  | _, [] => []
  | fr, x :: xs => (x, takenT cl fr x, doneT of cl fr x) :: runT of cl (srt (fr.set 0 (doneT of cl fr x))) xs
theorem freeT_len (of : Int → Int → Int) (cl : List S67) : ∀ (xs fr : List Int), (freeT of cl fr xs).length = fr.length
  | [], _ => rfl
  | x :: xs, fr => by rw [freeT, freeT_len of cl xs]; simp [srt_length]
theorem runT_len (of : Int → Int → Int) (cl : List S67) : ∀ (xs fr : List Int), (runT of cl fr xs).length = xs.length
  | [], _ => rfl
  | x :: xs, fr => by rw [runT, List.length_cons, runT_len of cl xs]; rfl
theorem runT_at (of : Int → Int → Int) (cl : List S67) : ∀ (xs fr : List Int) (k : Nat) (h : k < xs.length), (runT of cl fr xs)[k]? = some (xs[k], takenT cl (freeT of cl fr (xs.take k)) xs[k], doneT of cl (freeT of cl fr (xs.take k)) xs[k])
  | [], _, _, h => by simp at h
  | x :: xs, fr, 0, h => rfl
  | x :: xs, fr, k + 1, h => by
    have := runT_at of cl xs (srt (fr.set 0 (doneT of cl fr x))) k (by simpa using h)
    simpa [runT, freeT] using this
theorem freeT_snoc (of : Int → Int → Int) (cl : List S67) : ∀ (xs fr : List Int) (x : Int), freeT of cl fr (xs ++ [x]) = srt ((freeT of cl fr xs).set 0 (doneT of cl (freeT of cl fr xs) x))
  | [], _, _ => rfl
  | y :: xs, fr, x => freeT_snoc of cl xs _ x
theorem freeT_next (of : Int → Int → Int) (cl : List S67) (xs fr : List Int) (k : Nat) (h : k < xs.length) : freeT of cl fr (xs.take (k + 1)) = srt ((freeT of cl fr (xs.take k)).set 0 (doneT of cl (freeT of cl fr (xs.take k)) xs[k])) := by
  rw [List.take_succ_eq_append_getElem h, freeT_snoc]
def RvT (x : Int × Int × Int) (vs : Array Value) (W : World) : Prop := vs = #[.agg #[.int .i64 x.1, .int .i64 x.2.1, .int .i64 x.2.2]]
structure CapT (B1 B2 B3 B4 : Nat) (m : Nat) (A2 : Option Addr) (c2 : Nat) (ord : List Int) (A3 : Option Addr) (c3 : Nat) (cl : List S67) (A4 : Option Addr) (c4 : Nat) (rk : List Int) (g : FuncId) (W : World) : Prop where
  b1 : W.heap[B1]? = some (.cells #[.int .i64 (m : Int)] 3 (0, 0))
  b2 : W.heap[B2]? = some (.cells #[.slice A2 ord.length c2] 23 (0, 0))
  b3 : W.heap[B3]? = some (.cells #[.slice A3 cl.length c3, .slice A4 rk.length c4] 99 (0, 0))
  b4 : W.heap[B4]? = some (.cells #[.func (.func g) #[] #[]] 135 (0, 0))
  r2 : Kd.C (Kd.int .i64) W A2 ord.length ord
  r3 : Kd.C k67 W A3 cl.length cl
theorem trunc (W : World) (b : Nat) (h : b ≤ W.heap.size) : ∃ w0 : World, w0.heap.size = b ∧ Below w0.heap.size w0 W := by
  refine ⟨{ W with heap := W.heap.extract 0 b }, by simp; omega, rfl, rfl, rfl, by simp; omega, fun k hk => ?_⟩
  have hk' : k < b := by simp at hk; omega
  show W.heap[k]? = (W.heap.extract 0 b)[k]?
  rw [Array.getElem?_extract]
  simp [hk']; omega
theorem R_keepb {W W' : World} {b g n c : Nat} {ok ok' : Nat → Prop} {xs : List Int} (h : Kd.R (Kd.int .i64) 3 W b ok (.slice (some ⟨g, 0, none⟩) n c) xs) (hs : W'.heap[g]? = W.heap[g]?) (ho : ok' g) : Kd.R (Kd.int .i64) 3 W' b ok' (.slice (some ⟨g, 0, none⟩) n c) xs := by
  refine Kd.R_mono (Kd.R_move (Kd.R_tight rfl h) fun k hk => ?_) (fun k hk => ?_)
  · have e : k = g := by simpa [Value.ownBlock] using hk
    subst e; exact hs
  · have e : k = g := by simpa [Value.ownBlock] using hk
    subst e; exact ho
structure Stopped (p : Prop) : Prop where
  out : p
theorem stop_ (k : Nat) {F : Fence} {n : Nat} {P : Program} {Q : Exit → Act → World → Prop} {a : Act} {w : World} {ops : Array Oper} {d : Bool} {c : Code} (h : Stopped ((Code.seq (Code.region k ops d) c).wpIn F n P Q a w)) : (Code.seq (Code.region k ops d) c).wpIn F n P Q a w := h.out
theorem made_form {w1 : World} {b b0 m : Nat} {v : Value} (ho : Kd.R (Kd.int .i64) 3 w1 b (fun k_ => k_ = b0) v (List.replicate m 0)) (hm : 1 ≤ m) : ∃ cp, v = .slice (some ⟨b0, 0, none⟩) m cp ∧ b0 + 1 ≤ w1.heap.size := by
  rcases R_block ho with ⟨_, h2⟩ | ⟨g, cap, cur, h1, h2, h3, _⟩
  · have := congrArg List.length h2; simp at this; omega
  · have e : g = b0 := ho.1 g (by rw [h1]; rfl)
    subst e
    rw [List.length_replicate] at h1
    exact ⟨cap, h1, (Array.getElem?_eq_some_iff.1 h3).1⟩
set_option maxHeartbeats 16000000 in
set_option maxRecDepth 100000 in
theorem turns_iter (of : Int → Int → Int) (B1 B2 B3 B4 m : Nat) (A2 : Option Addr) (c2 : Nat) (ord : List Int) (A3 : Option Addr) (c3 : Nat) (cl : List S67) (A4 : Option Addr) (c4 : Nat) (rk : List Int) (g : FuncId) (fng : Func) (n : Nat) (w : World) (Ex E : Nat → Prop)
    (hg1 : Tryz.prog.funcs[g]? = some fng) (hg2 : (fng.name == "runtime.NumGoroutine") = false) (hg3 : fng.body.isSome = true)
    (hof : ∀ x y W_, Calls Tryz.prog g #[.agg #[.int .i64 x, .int .i64 y]] W_ fun e w' => e = .returned (.int .i64 (of x y)) ∧ Below W_.heap.size W_ w')
    (hm : 1 ≤ m) (hm2 : m ≤ 1000) (hin : ∀ x ∈ ord, 0 ≤ x ∧ x < (cl.length : Int)) (n34 : B3 ≠ B4) (hE : E 0)
    (hC : ∀ W', w.heap.size ≤ W'.heap.size → (∀ k, k < w.heap.size → ¬ Ex k → W'.heap[k]? = w.heap[k]?) → CapT B1 B2 B3 B4 m A2 c2 ord A3 c3 cl A4 c4 rk g W') :
    IterC Fence.wide n Tryz.prog 99 #[.pointer (some ⟨B1, 0, none⟩), .pointer (some ⟨B2, 0, none⟩), .pointer (some ⟨B3, 0, none⟩), .pointer (some ⟨B4, 0, none⟩)] (runT of cl (List.replicate m 0) ord) RvT Ex 1 E w := by
  intro l J Jx W hW hJ hJx hY h0
  have hcap := hC W hW.size (fun k hk _ => hW.block k hk)
  have hbig : ord.length ≤ 9223372036854775807 := hcap.r2.2.1
  have hc1 : W.cell? ⟨B1, 0, none⟩ = some (.int .i64 (m : Int)) := (blk_cell hcap.b1 0).trans rfl
  have hc2 : W.cell? ⟨B2, 0, none⟩ = some (.slice A2 ord.length c2) := (blk_cell hcap.b2 0).trans rfl
  have hB1l := (Array.getElem?_eq_some_iff.1 hcap.b1).1
  have hB2l := (Array.getElem?_eq_some_iff.1 hcap.b2).1
  have hB3l := (Array.getElem?_eq_some_iff.1 hcap.b3).1
  have hB4l := (Array.getElem?_eq_some_iff.1 hcap.b4).1
  have HC := aM hC
  have HJ := aM hJ
  have HJx := aM hJx
  have HY := aM hY
  have HW := aM hW
  have HOF := aM hof
  have HIN := aM hin
  have HCAP := aM hcap
  clear hC hJ hJx hY hcap hW hof hin
  obtain ⟨b0, hb0⟩ : ∃ b0, W.heap.size = b0 := ⟨_, rfl⟩
  have hmi : (0 : Int) ≤ (m : Int) := by omega
  have HM := aM (show (m : Int).toNat = m from Int.toNat_natCast m)
  refine callsIn_of_wp Tryz.func99 rfl trivial ?_ rfl
  simp only [Tryz.ntmps99, List.size_toArray, List.length_cons, List.length_nil, Nat.reduceAdd, Nat.reduceSub, Array.replicate_succ, Array.replicate_zero, List.push_toArray, List.append_toArray, List.nil_append, List.cons_append]
  go_wp2_with (first
    | ((with_reducible refine gate_dst (N := 12) rfl ?_); refine Kd.R_make (Kd.int .i64) _ 3 rfl (N := 12) rfl 23 _ _ rfl (m : Int) rfl rfl Tryz.underlying23 (.int .i64 0) 8 info3 rfl (by decide) (by omega) 0 (w0 := W) (ok := fun k_ => k_ = b0) (okp := fun _ => False) rfl (fun _ hk => hk.elim) hb0 hmi (by rw [HM.out]; omega) (Below.refl _ _) (Nat.le_refl _) ?_; intro vfr w1 nE hb1 hg_ hnew_; clear hg_ hnew_
       rw [HM.out] at nE
       obtain ⟨cp, rfl, hs1⟩ := made_form nE hm
       have hc2' : w1.cell? ⟨B2, 0, none⟩ = some (.slice A2 ord.length c2) := (blk_cell ((hb1.block B2 hB2l).trans HCAP.out.b2) 0).trans rfl
       have hJ1 : J 0 w1 := HJ.out 0 W w1 h0 (IStep.of_below hb1)
       have HB1 := aM hb1
       have pL := aM nE
       clear hb1 nE h0)
    | (with_reducible refine regW_lit_ ?_) | gi_step)
  gi_loopw [15] (fun i wr => ∃ k : Nat, k ≤ ord.length ∧ i = .int .i64 k ∧ J k wr ∧ Aside0 (b0 + 1 ≤ wr.heap.size) ∧ Aside0 (∀ j, j < w.heap.size → ¬ Ex j → wr.heap[j]? = w.heap[j]?) ∧ Aside0 (Kd.R (Kd.int .i64) 3 wr b0 (fun k_ => k_ = b0) (.slice (some ⟨b0, 0, none⟩) m cp) (freeT of cl (List.replicate m 0) (ord.take k))))
    (fun i _ => ord.length - (intOf i).toNat)
  case atStart =>
    refine ⟨0, Nat.zero_le _, rfl, hJ1, ⟨hs1⟩, ⟨fun j hj hx => ?_⟩, ⟨?_⟩⟩
    · have hjW : j < W.heap.size := Nat.lt_of_lt_of_le hj HW.out.size
      exact (HB1.out.block j hjW).trans (HW.out.block j hj)
    · have h_ := pL.out
      rw [hb0] at h_
      exact h_
  case round =>
    obtain ⟨k, hk, rfl, hJs, HS, HK, HF⟩ := hrel
    clear pL HB1 hJ1 hs1 hc1 hc2'
    by_cases hlt : k < ord.length
    · have hcapr := HC.out wr (Nat.le_trans HW.out.size (by rw [hb0]; have := HS.out; omega)) HK.out
      obtain ⟨ad, rfl, hcell⟩ := Kd.at_int hcapr.r2 (k : Int) (by omega) (by omega)
      rw [Int.toNat_natCast] at hcell
      have hrd : rd ord (k : Int) = ord[k] := by simp [rd, List.getD_eq_getElem?_getD, List.getElem?_eq_getElem hlt]
      rw [hrd] at hcell
      have hxi := HIN.out ord[k] (List.getElem_mem hlt)
      have hrun := runT_at of cl ord (List.replicate m 0) k hlt
      have hnext := freeT_next of cl ord (List.replicate m 0) k hlt
      have hfl : (freeT of cl (List.replicate m 0) (ord.take k)).length = m := by rw [freeT_len]; simp
      obtain ⟨w0, hw0, hbw0⟩ := trunc wr b0 (by have := HS.out; omega)
      have hF' : Kd.R (Kd.int .i64) 3 wr w0.heap.size (fun k_ => k_ = b0) (.slice (some ⟨b0, 0, none⟩) m cp) (freeT of cl (List.replicate m 0) (ord.take k)) := by rw [hw0]; exact HF.out
      generalize freeT of cl (List.replicate m 0) (ord.take k) = fr at hrun hnext hfl hF' HF
      generalize ord[k] = x at hcell hrun hnext hxi
      have HCR := aM hcapr
      have HRUN := aM hrun
      have HNEXT := aM hnext
      have HFL := aM hfl
      have HW0 := aM hw0
      have HBW0 := aM hbw0
      have HF2 := aM hF'
      have HX := aM hxi
      clear hcapr hrun hnext hfl hw0 hbw0 hF' hxi hrd
      go_wp2_with (first
        | (with_reducible refine stop_ 4 ?_)
        | (with_reducible refine regW_lit_ ?_) | gi_step)
      refine ⟨aC6 (fun k_ => k_ = b0) (.slice (some ⟨b0, 0, none⟩) m cp) fr x B3 A3 c3 cl A4 c4 rk B4 g fng w0 wr HBW0.out HF2.out HCR.out.b3 HCR.out.r3 HCR.out.b4 n34 hg1 hg2 hg3 (of ((aA4 cl x).f2.f0) ((aA4 cl x).f2.f1)) (fun W_ => HOF.out _ _ W_) HX.out.1 HX.out.2 ?c8 _ _ _ _ _ _ _ _ _ _ _ _ _ _ _ _ _ _ _ _ _ _ _ _ _ _ _ _ _ _ _ _ _ _ _ _ _ _ _ _ _ _ _ _ _ _ _ _ [] _ _ _ _ _ ?hc ?hqp ?hq⟩
      case c8 => have := HFL.out; omega
      case hc => kernel_rfl
      case hqp =>
        intro c_ a1_ a2_ w_ e_ h_
        cases a1_
        cases a2_
        cases e_
        exact h_
      case hq =>
        intro g10 w2 z9 z19 z20 z21 z22 z23 z24 z25 z26 z27 z28 z29 z30 z31 z32 z33 z34 z35 z36 z37 z38 z39 z40 z41 z42 z43 z44 hd
        have hdn : wrap64 (mx (aA4 cl x).f1 (rd fr 0) + of (aA4 cl x).f2.f0 (aA4 cl x).f2.f1) = doneT of cl fr x := rfl
        have htk : mx (aA4 cl x).f1 (rd fr 0) = takenT cl fr x := rfl
        rw [hdn, htk] at hd
        generalize doneT of cl fr x = dn at hd HRUN HNEXT
        generalize takenT cl fr x = tk at hd HRUN
        obtain ⟨t1, t2, t3, t4, t5⟩ := hd
        have ht3 : Kd.R (Kd.int .i64) 3 w2 b0 (fun _ => True) (.slice (some ⟨b0, 0, none⟩) m cp) (fr.set 0 dn) := by rw [HW0.out] at t3; exact Kd.R_mono t3 (fun _ _ => trivial)
        have hsrt := aD7 ht3 (by rw [List.length_set, HFL.out]; omega)
        rw [HNEXT.out.symm] at hsrt
        have HSRT := aM hsrt
        have T1 := aM t1
        have T2 := aM t2
        have T4 := aM t4
        have T5 := aM t5
        clear hsrt t1 t2 t3 t4 t5 ht3 htk hdn
        have hu107 := Tryz.underlying107
        go_wp2_with (first
          | (go_at_call 100; refine HSRT.out.mono ?_; rintro e w3 ⟨rfl, hr3, hg3⟩)
          | (with_reducible refine stop_ 9 ?_)
          | (with_reducible refine regW_lit_ ?_) | gi_step)
        have hgb : w3.heap[g10]? = some (.cells #[.int .i64 x, .int .i64 tk, .int .i64 dn] 107 (0, 0)) := (hg3.block g10 (Array.getElem?_eq_some_iff.1 T1.out).1 (fun e_ => by have h1_ := T2.out; have h2_ := HS.out; have e2 : g10 = b0 := (by simpa [Value.ownBlock] using e_); omega)).trans T1.out
        have hz0 : w3.cell? ⟨g10, 0, none⟩ = some (.int .i64 x) := (blk_cell hgb 0).trans rfl
        have hz1 : w3.cell? ⟨g10, 1, none⟩ = some (.int .i64 tk) := (blk_cell hgb 1).trans rfl
        have hz2 : w3.cell? ⟨g10, 2, none⟩ = some (.int .i64 dn) := (blk_cell hgb 2).trans rfl
        have hsz2 : wr.heap.size ≤ w2.heap.size := T5.out.1
        have hsame : ∀ j, j < wr.heap.size → j ≠ b0 → w3.heap[j]? = wr.heap[j]? := fun j hj hne => (hg3.block j (by omega) (fun e_ => hne (by simpa [Value.ownBlock] using e_))).trans (T5.out.2 j hj hne)
        have hst : IStep W.heap.size W.heap.size 1 wr w3 := ⟨hg3.os.trans (T4.out.os.trans HBW0.out.os.symm), hg3.tape.trans (T4.out.tape.trans HBW0.out.tape.symm), hg3.output.trans (T4.out.output.trans HBW0.out.output.symm), Nat.le_trans hsz2 hg3.size, fun j o ho h1 _ => (hsame j (Array.getElem?_eq_some_iff.1 ho).1 (by omega)).trans ho⟩
        have hsz3 := hg3.size
        obtain ⟨fn, tmps, assign, body, hy, hR⟩ := HY.out k (x, tk, dn) #[.agg #[.int .i64 x, .int .i64 tk, .int .i64 dn]] w3 HRUN.out (HJ.out k wr w3 hJs hst) rfl (by have := HS.out; omega)
        have HR := aM hR
        have HR3 := aM hr3
        have HSM := aM hsame
        have HZ3 := aM (Nat.le_trans hsz2 hsz3)
        clear hR hr3 hsame hst hg3 hgb hsz2 hsz3
        refine ⟨?_⟩
        gi_wp2
        refine ⟨fun h0_ => (by cases h0_), HR.out.mono ?_⟩
        rintro e W3 (⟨rfl, hJ3, hk3⟩ | ⟨rfl, hJx3, hk3⟩)
        · have H3 := aM hk3
          clear hk3
          gi_wp2
          go_roundw
          case rel =>
            refine ⟨k + 1, by omega, by simp, hJ3, ⟨?_⟩, ⟨fun j hj hx => ?_⟩, ⟨?_⟩⟩
            · have h1_ := H3.out.size; have h2_ := HZ3.out; have h3_ := HS.out; omega
            · have hjr : j < wr.heap.size := by have h1_ := HW.out.size; have h2_ := HS.out; omega
              exact (H3.out.same j (by have h1_ := HZ3.out; omega) (.inl ⟨hj, hx⟩)).trans ((HSM.out j hjr (by have h1_ := HW.out.size; omega)).trans (HK.out j hj hx))
            · exact R_keepb HR3.out (H3.out.same b0 (by have h1_ := HZ3.out; have h2_ := HS.out; omega) (.inr ⟨by omega, by rw [hb0, Nat.sub_self]; exact hE⟩)) rfl
          case measure => simp [intOf]; omega
        · clear hk3
          gi_wp2
          refine bodyPost_ret (results_none rfl _ _ _) rfl ?_
          refine ⟨⟨_, rfl⟩, .inr ⟨_, ?_, hJx3⟩⟩
          rw [runT_len]; omega
    · obtain rfl : k = ord.length := by omega
      gi_wp2
      go_end0
      refine ⟨⟨_, rfl⟩, .inl ?_⟩
      rw [runT_len]
      exact hJs
set_option maxHeartbeats 1000000 in
theorem turns_calls (A3 : Option Addr) (n3 c3 : Nat) (A4 : Option Addr) (n4 c4 : Nat) (A2 : Option Addr) (n2 c2 : Nat) (m : Int) (g : FuncId) (w : World) :
    Calls Tryz.prog 65 #[.agg #[.slice A3 n3 c3, .slice A4 n4 c4], .slice A2 n2 c2, .int .i64 m, .func (.func g) #[] #[]] w fun e w' =>
      e = .returned (.func (.func 99) #[] #[.pointer (some ⟨w.heap.size + 2, 0, none⟩), .pointer (some ⟨w.heap.size + 1, 0, none⟩), .pointer (some ⟨w.heap.size, 0, none⟩), .pointer (some ⟨w.heap.size + 3, 0, none⟩)]) ∧
      w' = (((w.alloc (.cells #[.slice A3 n3 c3, .slice A4 n4 c4] 99)).alloc (.cells #[.slice A2 n2 c2] 23)).alloc (.cells #[.int .i64 m] 3)).alloc (.cells #[.func (.func g) #[] #[]] 135) := by
  have hu1 := Tryz.underlying99
  have hu2 := Tryz.underlying25
  have hu3 := Tryz.underlying135
  go_enter Tryz.func65, Tryz.ntmps65
  go_wp2
  go_ret
  exact ⟨rfl, rfl⟩
theorem four_alloc (w : World) (o1 o2 o3 o4 : Obj) : let w' := (((w.alloc o1).alloc o2).alloc o3).alloc o4; Below w.heap.size w w' ∧ w'.heap.size = w.heap.size + 4 ∧ w'.heap[w.heap.size]? = some o1 ∧ w'.heap[w.heap.size + 1]? = some o2 ∧ w'.heap[w.heap.size + 2]? = some o3 ∧ w'.heap[w.heap.size + 3]? = some o4 := by
  intro w'
  have s1 : (w.alloc o1).heap.size = w.heap.size + 1 := World.size_alloc _ _
  have s2 : ((w.alloc o1).alloc o2).heap.size = w.heap.size + 2 := by rw [World.size_alloc, s1]
  have s3 : (((w.alloc o1).alloc o2).alloc o3).heap.size = w.heap.size + 3 := by rw [World.size_alloc, s2]
  have e1 := World.alloc_heap_new w o1
  have e2 := World.alloc_heap_new (w.alloc o1) o2
  have e3 := World.alloc_heap_new ((w.alloc o1).alloc o2) o3
  have e4 := World.alloc_heap_new (((w.alloc o1).alloc o2).alloc o3) o4
  rw [s1] at e2
  rw [s2] at e3
  rw [s3] at e4
  refine ⟨(((Below.refl _ w).alloc (Nat.le_refl _) _).alloc (by omega) _).alloc (by omega) _ |>.alloc (by omega) _, by show (World.alloc _ o4).heap.size = _; rw [World.size_alloc, s3], ?_, ?_, ?_, e4⟩
  · exact (Below.heap_alloc _ _ _ (by omega)).trans ((Below.heap_alloc _ _ _ (by omega)).trans ((Below.heap_alloc _ _ _ (by omega)).trans e1))
  · exact (Below.heap_alloc _ _ _ (by omega)).trans ((Below.heap_alloc _ _ _ (by omega)).trans e2)
  · exact (Below.heap_alloc _ _ _ (by omega)).trans e3
end Go.Proofs.YtlmglnobdcgbeaaGreat.P
namespace Go.Proofs.YtlmglnobdcgbeaaGreat.R
open Go.RowKit Go.Shelf YtlmglnobdcgbeaaGreatW.PrintWords YtlmglnobdcgbeaaGreatW.PrintLast YtlmglnobdcgbeaaGreatW.PrintMore
def last2Ok (ops : Array Oper) (y : Nat) : Bool :=
  ops.size == y + 2 &&
  ((List.range y).all fun i => Region.reachB .any ops i ops.size y && (match ops[i]? with | some o => ((match o.guard with | some (j, _) => j != y && j != y + 1 | none => true) && Op.noDefer o.op) && o.after.all (fun e => decide (e.on < i)) | none => true)) &&
  (match ops[y]?, ops[y + 1]? with | some oy, some oz => oy.guard.isNone && oz.guard.isNone && oy.after.all (fun e => decide (e.on < y)) && oz.after.all (fun e => decide (e.on < y + 1)) && oz.after.any (fun e => Region.binds .any e && e.on == y) | _, _ => false)
theorem anyIn_last2 {F : Fence} {n : Nat} {P : Program} {ops : Array Oper} {y : Nat} {oy oz : Oper} {Q : Exit → Act → World → Prop} (hF : Lifts F) (hFf : ∀ f, F.fn f) (hy : ops[y]? = some oy) (hz : ops[y + 1]? = some oz) (hok : last2Ok ops y = true)
    (ops' : Array Oper) (hs : ops'.size = ops.size) (hops : ∀ i, i < y → ops'[i]? = ops[i]?) (hyb : ops'[y]? = some (blank oy)) (hzb : ops'[y + 1]? = some (blank oz))
    (Q' : Exit → Act → World → Prop) (hQ' : ∀ a w, Q' .normal a w → oy.wpIn F n P a w (fun a w => oz.wpIn F n P a w (Q .normal) Q) Q) (hQp : ∀ c a w, Q' (.panic c) a w → Q (.panic c) a w) (hQ'o : ¬ LetsOut Q') :
    ∀ (fuel : Nat) (listed : Array Bool) (a : Act) (w : World), listed.size = ops.size → ListedClosed .any ops listed → listed.getD y true = false →
      wpAny P .any ops' Q' fuel listed a w → wpAnyIn F n P .any ops Q fuel listed a w := by
  unfold last2Ok at hok
  rw [hy, hz] at hok
  simp only [Bool.and_eq_true, beq_iff_eq] at hok
  obtain ⟨⟨hsize, hpre⟩, ⟨⟨⟨hgy, hgz⟩, hony⟩, honz⟩, hbind⟩ := hok
  have hgy' : oy.guard = none := by simpa using hgy
  have hgz' : oz.guard = none := by simpa using hgz
  have hylt : y < ops.size := by omega
  have hzlt : y + 1 < ops.size := by omega
  have hr : ∀ listed, Region.ready .any ops' listed = Region.ready .any ops listed := by
    intro listed
    unfold Region.ready
    rw [hs]
    refine List.filter_congr fun i hi => ?_
    have hi' := List.mem_range.1 hi
    rcases Nat.lt_trichotomy i y with e | e | e
    · rw [hops i e]
    · subst e; rw [hyb, hy]; rfl
    · obtain rfl : i = y + 1 := by omega
      rw [hzb, hz]; rfl
  have hpre' : ∀ i, i < y → ∀ o, ops[i]? = some o → Region.reachB .any ops i ops.size y = true ∧ (∀ j b, o.guard = some (j, b) → j ≠ y ∧ j ≠ y + 1) ∧ Op.noDefer o.op = true ∧ ∀ e ∈ o.after, e.on < i := fun i hi o ho => by
    have := List.all_eq_true.1 hpre i (List.mem_range.2 hi)
    simp only [Bool.and_eq_true, ho] at this
    refine ⟨this.1, fun j b hgo => ?_, this.2.1.2, fun e he => of_decide_eq_true (Array.all_eq_true_iff_forall_mem.1 this.2.2 e he)⟩
    have h1 := this.2.1.1
    rw [hgo] at h1
    simpa using h1
  have hon : ∀ (i : Nat) (o : Oper), ops[i]? = some o → ∀ e ∈ o.after, e.on < i := fun i o ho e he => by
    rcases Nat.lt_trichotomy i y with h | h | h
    · exact (hpre' i h o ho).2.2.2 e he
    · subst h; rw [hy] at ho; cases ho; exact of_decide_eq_true (Array.all_eq_true_iff_forall_mem.1 hony e he)
    · have := (Array.getElem?_eq_some_iff.1 ho).1
      obtain rfl : i = y + 1 := by omega
      rw [hz] at ho; cases ho; exact of_decide_eq_true (Array.all_eq_true_iff_forall_mem.1 honz e he)
  have hyield : ∀ (t : Array Value) j, j < y → yielded ops' t j = yielded ops t j := fun t j hj => by unfold yielded; rw [hops j hj]
  have hwant : ∀ (i : Nat) (o : Oper) (t : Array Value), i < y → ops[i]? = some o → Region.wanted o (yielded ops' t) = Region.wanted o (yielded ops t) := fun i o t hi ho => by
    unfold Region.wanted
    cases hgo : o.guard with
    | none => rfl
    | some p =>
      obtain ⟨j, b⟩ := p
      obtain ⟨g1, g2⟩ := (hpre' i hi o ho).2.1 j b hgo
      simp only []
      by_cases hj : j < y
      · rw [hyield t j hj]
      · have hj2 : ops[j]? = none := Array.getElem?_eq_none (by omega)
        have hj3 : ops'[j]? = none := Array.getElem?_eq_none (by omega)
        unfold yielded
        rw [hj2, hj3]
  obtain ⟨ez, hez, hez2⟩ := Array.any_eq_true'.1 hbind
  simp only [Bool.and_eq_true, beq_iff_eq] at hez2
  have hz_not : ∀ listed : Array Bool, listed.size = ops.size → listed.getD y true = false → y + 1 ∉ Region.ready .any ops listed := fun listed hsz hyl hm => by
    obtain ⟨_, o, ho, hall⟩ := mem_ready.1 hm
    rw [hz] at ho
    cases ho
    have := hall ez hez hez2.1
    rw [hez2.2] at this
    have hb : y < listed.size := by omega
    simp only [Array.getD, hb, dif_pos] at this hyl
    rw [this] at hyl; cases hyl
  have hdone : ∀ fuel (listed : Array Bool) a w, Region.ready .any ops listed = [] → Q .normal a w → wpAnyIn F n P .any ops Q fuel listed a w := by
    intro fuel listed a w h0 hq
    cases fuel with
    | zero => exact ⟨h0, hq⟩
    | succ k => exact ⟨fun _ => hq, by rw [h0]; simp⟩
  have hafter : ∀ listed : Array Bool, listed.size = ops.size → ListedClosed .any ops listed → listed.getD y true = false → y ∈ Region.ready .any ops listed →
      y + 1 ∈ Region.ready .any ops (listed.setIfInBounds y true) ∧ (∀ i ∈ Region.ready .any ops (listed.setIfInBounds y true), i = y + 1) ∧ Region.ready .any ops ((listed.setIfInBounds y true).setIfInBounds (y + 1) true) = [] := by
    intro listed hsz hc hyl hm
    have hc' := ListedClosed.set hc hm
    have hyl2 : (listed.setIfInBounds y true).getD y false = true := by simp [Array.getD, hsz, hylt]
    have hil : ∀ i, i ≤ y → (listed.setIfInBounds y true).getD i false = true := fun i hi => by
      by_cases e : i = y
      · subst e; exact hyl2
      · exact Region.reach_listed hc' ops.size y (hpre' i (by omega) ops[i] (Array.getElem?_eq_getElem (by omega))).1 hyl2
    have hgd : ∀ (L : Array Bool) i, L.size = ops.size → i < ops.size → L.getD i false = true → L.getD i true = true := fun L i hL hi h => by
      have hb : i < L.size := by omega
      simp only [Array.getD, hb, dif_pos] at h ⊢
      exact h
    have hznl : (listed.setIfInBounds y true).getD (y + 1) true = false := by
      rw [getD_set_ne true (by omega)]
      have hb : y + 1 < listed.size := by omega
      refine Bool.eq_false_iff.2 fun h => ?_
      have h' : listed.getD (y + 1) false = true := by simp only [Array.getD, hb, dif_pos] at h ⊢; exact h
      have hcl := hc (y + 1) oz hz h' ez hez hez2.1
      rw [hez2.2] at hcl
      have hb2 : y < listed.size := by omega
      simp only [Array.getD, hb2, dif_pos] at hcl hyl
      rw [hcl] at hyl; cases hyl
    have hmem : y + 1 ∈ Region.ready .any ops (listed.setIfInBounds y true) := mem_ready.2 ⟨hznl, oz, hz, fun e he _ => by
      have h1 : e.on < y + 1 := of_decide_eq_true (Array.all_eq_true_iff_forall_mem.1 honz e he)
      exact hil e.on (by omega)⟩
    refine ⟨hmem, fun i hi => ?_, ?_⟩
    · obtain ⟨h1, o, ho, _⟩ := mem_ready.1 hi
      have hlt := (Array.getElem?_eq_some_iff.1 ho).1
      by_cases e : i ≤ y
      · rw [hgd _ i (by simp [hsz]) hlt (hil i e)] at h1; cases h1
      · omega
    · refine List.eq_nil_iff_forall_not_mem.2 fun i hi => ?_
      obtain ⟨h1, o, ho, _⟩ := mem_ready.1 hi
      have hlt := (Array.getElem?_eq_some_iff.1 ho).1
      by_cases e : i = y + 1
      · subst e
        have : ((listed.setIfInBounds y true).setIfInBounds (y + 1) true).getD (y + 1) true = true := by simp [Array.getD]
        rw [this] at h1; cases h1
      · rw [getD_set_ne true (by omega)] at h1
        rw [hgd _ i (by simp [hsz]) hlt (hil i (by omega))] at h1; cases h1
  intro fuel
  induction fuel with
  | zero =>
    intro listed a w hsz hc hyl h
    exact (anyIn_last_absurd hon hylt hsz hyl ((hr listed).symm.trans h.1)).elim
  | succ fuel ih =>
    intro listed a w hsz hc hyl h
    refine ⟨fun h0 => (anyIn_last_absurd hon hylt hsz hyl h0).elim, fun i hi => ?_⟩
    have h1 := h.2 i (by rw [hr]; exact hi)
    have hilt : i < ops.size := by obtain ⟨_, o, ho, _⟩ := mem_ready.1 hi; exact (Array.getElem?_eq_some_iff.1 ho).1
    have hnz : i ≠ y + 1 := fun e => by subst e; exact hz_not listed hsz hyl hi
    by_cases e : i = y
    · subst e
      obtain ⟨g1, g2, g3⟩ := hafter listed hsz hc hyl hi
      unfold wpOp at h1
      unfold wpOpIn
      rw [hyb] at h1
      rw [hy]
      simp only [] at h1 ⊢
      have hw : Region.wanted oy (yielded ops a.tmps) = true := by unfold Region.wanted; rw [hgy']
      have hw' : Region.wanted (blank oy) (yielded ops' a.tmps) = true := rfl
      rw [if_pos hw]
      rw [if_pos hw'] at h1
      rcases h1 with h1 | h1
      · have h2 : wpAny P .any ops' Q' fuel (listed.setIfInBounds i true) a w := h1
        cases fuel with
        | zero =>
          have := h2.1
          rw [hr] at this
          rw [this] at g1; cases g1
        | succ k =>
          have h3 := h2.2 (i + 1) (by rw [hr]; exact g1)
          unfold wpOp at h3
          rw [hzb] at h3
          simp only [] at h3
          have hw2 : Region.wanted (blank oz) (yielded ops' a.tmps) = true := rfl
          rw [if_pos hw2] at h3
          rcases h3 with h3 | h3
          · have h4 : wpAny P .any ops' Q' k ((listed.setIfInBounds i true).setIfInBounds (i + 1) true) a w := h3
            have hq : Q' .normal a w := by
              cases k with
              | zero => exact h4.2
              | succ k => exact h4.1 (by rw [hr]; exact g3)
            refine Oper.wpIn_mono (fun a w hq => ?_) (hQ' a w hq)
            refine ⟨fun h0 => (by rw [h0] at g1; cases g1), fun j hj => ?_⟩
            obtain rfl := g2 j hj
            unfold wpOpIn
            rw [hz]
            simp only []
            have hw3 : Region.wanted oz (yielded ops a.tmps) = true := by unfold Region.wanted; rw [hgz']
            rw [if_pos hw3]
            exact Oper.wpIn_mono (fun a w hq => hdone _ _ a w g3 hq) hq
          · exact absurd h3.2 hQ'o
      · exact absurd h1.2 hQ'o
    · have hiy : i < y := by omega
      unfold wpOp at h1
      unfold wpOpIn
      rw [hops i hiy] at h1
      cases ho : ops[i]? with
      | none =>
        obtain ⟨oi, hoi, _⟩ := (mem_ready.1 hi).2
        rw [ho] at hoi; cases hoi
      | some o =>
        rw [ho] at h1
        simp only [] at h1 ⊢
        have hnext : ∀ a w, wpAny P .any ops' Q' fuel (listed.setIfInBounds i true) a w → wpAnyIn F n P .any ops Q fuel (listed.setIfInBounds i true) a w := fun a w h => by
          refine ih _ a w (by simp [hsz]) (ListedClosed.set hc hi) ?_ h
          rw [getD_set_ne true e]; exact hyl
        by_cases hw : Region.wanted o (yielded ops a.tmps) = true
        · rw [if_pos hw]
          rw [hwant i o a.tmps hiy ho, if_pos hw] at h1
          rcases h1 with h1 | h1
          · have h2 : o.wpIn F n P a w (wpAnyIn F n P .any ops Q fuel (listed.setIfInBounds i true)) Q' := hF n P o a w _ _ Q' (hpre' i hiy o ho).2.2.1 hnext h1
            exact oper_panic_mono hQp hQ'o h2
          · exact absurd h1.2 hQ'o
        · rw [if_neg hw]
          rw [hwant i o a.tmps hiy ho, if_neg hw] at h1
          exact ⟨fun f _ => hFf f, hnext _ _ h1⟩
theorem quiet_blank {P : Program} {ops : Array Oper} {C : World → Prop} {Q : Act → Prop} {rest : List Oper} {a : Act} {o : Oper} (h : wpQuiet P ops C Q rest a) : wpQuiet P ops C Q (blank o :: rest) a := by
  unfold wpQuiet
  have hw : Region.wanted (blank o) (yielded ops a.tmps) = true := rfl
  rw [if_pos hw]
  refine ⟨.bool true, fun w hw => ?_, h⟩
  unfold Oper.quietAt
  exact ⟨rfl, rfl⟩
theorem oper_not {P : Program} {o : Oper} {a : Act} {w : World} {K : Act → World → Prop} {Q : Exit → Act → World → Prop} {x : Operand} {t : TypeId} {b : Bool} (ho : o.op = .unOp .not t x) (hx : a.eval x = .bool b) (h : K (a.put o.dst (.bool (!b))) w) : o.wp P a w K Q := by
  unfold Oper.wp
  have e : (execOp a.eval o).run P w = .ok (.value (.bool (!b))) w := by
    unfold execOp
    rw [ho]
    simp only []
    rw [hx]
    first | rfl | simp [go_sem]
  rw [e]
  exact h
theorem quiet_last2_ {F : Fence} {n0 id y : Nat} {P : Program} {l : List Oper} {oy oz : Oper} {Q : Exit → Act → World → Prop} {a : Act} {w : World} (Qn : Act → World → Prop)
    (hF : Lifts F) (hFf : ∀ f, F.fn f) (hm : P.follows .mixedOrders = true) (hy : l.toArray[y]? = some oy) (hz : l.toArray[y + 1]? = some oz) (hok : last2Ok l.toArray y = true)
    (hB : Region.lexB .any (l.take y ++ [blank oy, blank oz]).toArray = true)
    (hQn : ∀ a w, Qn a w → oy.wpIn F n0 P a w (fun a w => oz.wpIn F n0 P a w (Q .normal) Q) Q)
    (h : wpQuiet P (l.take y ++ [blank oy, blank oz]).toArray (fun w' => ∃ n, w' = w.drewN n) (fun a' => ∀ w', (∃ n, w' = w.drewN n) → Qn a' w') (l.take y ++ [blank oy, blank oz]) a) : (Code.region id l.toArray true).wpIn F n0 P Q a w := by
  obtain ⟨ops', hops'⟩ : ∃ x, x = (l.take y ++ [blank oy, blank oz]).toArray := ⟨_, rfl⟩
  have hzl := (Array.getElem?_eq_some_iff.1 hz).1
  have hsize : l.toArray.size = y + 2 := by
    unfold last2Ok at hok
    simp only [Bool.and_eq_true, beq_iff_eq] at hok
    exact hok.1.1
  simp only [List.size_toArray] at hsize hzl
  have hsz : ops'.size = l.toArray.size := by subst hops'; simp; omega
  have hB' := hB
  simp only [Region.lexB, Bool.and_eq_true] at hB'
  have hq : wpAny P .any ops' (Exit.then Qn (fun _ _ _ => False)) ops'.size (Array.replicate ops'.size false) a w.drew := by
    refine wpAny_of_quiet (C := fun w' => ∃ n, w' = w.drewN n) (Q := fun a' => ∀ w', (∃ n, w' = w.drewN n) → Qn a' w') (fun _ w' hw' h => h w' hw') _ _ _ _ ⟨1, rfl⟩ ?_
    subst hops'
    have := wpAnyQ_lex (C := fun w' => ∃ n, w' = w.drewN n) (md := .any) hB'.1 _ 0 (Array.replicate (l.take y ++ [blank oy, blank oz]).toArray.size false) a (by simp) (by simpa using hB'.2) h
    simpa using this
  refine wpIn_region_any hm (anyIn_last2 (y := y) (oy := oy) (oz := oz) hF hFf hy hz hok ops' hsz (fun i hi => ?_) ?_ ?_ (Exit.then Qn (fun _ _ _ => False)) (fun a w h => hQn a w h) (fun c a w h => h.elim) (fun ⟨_, _, h⟩ => h.elim) _ _ _ _ (by simp) ?_ (by simp [Array.getD]; omega) (by rw [hsz] at hq; exact hq))
  · subst hops'
    simp only [List.getElem?_toArray]
    rw [List.getElem?_append_left (by simp; omega), List.getElem?_take_of_lt hi]
  · subst hops'
    simp only [List.getElem?_toArray]
    rw [List.getElem?_append_right (by simp; omega)]
    have : (List.take y l).length = y := by simp; omega
    rw [this]; simp
  · subst hops'
    simp only [List.getElem?_toArray]
    rw [List.getElem?_append_right (by simp; omega)]
    have : (List.take y l).length = y := by simp; omega
    rw [this]; simp
  · intro j oj hj hl
    have h0 : (Array.replicate l.toArray.size false).getD j false = false := by
      unfold Array.getD
      split
      · exact Array.getElem_replicate ..
      · rfl
    rw [h0] at hl; cases hl
theorem IStep.widen {B lo c lo' c' : Nat} {X Y : World} (h : IStep B lo c X Y) (h1 : lo' ≤ lo) (h2 : lo + c ≤ lo' + c') : IStep B lo' c' X Y :=
  ⟨h.os, h.tape, h.output, h.size, fun k o ho h3 h4 => h.same k o ho (fun h5 => h3 (by omega)) h4⟩
theorem RKeep.istep_ {n₀ : Nat} {Ex : Nat → Prop} {B : Nat} {E : Nat → Prop} {X Y Z : World} {b lo c : Nat} (h : RKeep n₀ Ex B E X Y) (k : IStep b lo c Y Z) (hb : X.heap.size ≤ b) (hlo : X.heap.size ≤ lo) : RKeep n₀ Ex B E X Z := by
  have key : ∀ j, j < X.heap.size → ∀ o, Y.heap[j]? = some o → Z.heap[j]? = some o := fun j hj o ho => k.same j o ho (fun h3 => by omega) (fun h3 => by omega)
  have ex : ∀ j, j < X.heap.size → Y.heap[j]? = Z.heap[j]? := fun j hj => by
    have hy : j < Y.heap.size := Nat.lt_of_lt_of_le hj h.size
    rw [key j hj _ (Array.getElem?_eq_getElem hy), Array.getElem?_eq_getElem hy]
  exact ⟨Nat.le_trans h.size k.size, fun j hj h1 => (ex j hj).symm.trans (h.same j hj h1), fun j o hB ho hc => key j (Array.getElem?_eq_some_iff.1 ho).1 o (h.book j o hB ho hc)⟩
end Go.Proofs.YtlmglnobdcgbeaaGreat.R
namespace Go.Proofs.YtlmglnobdcgbeaaGreat.P
open Go.RowKit Go.Proofs.YtlmglnobdcgbeaaGreatW.PrintWords Go.Proofs.YtlmglnobdcgbeaaGreatW.PrintLast Go.Proofs.YtlmglnobdcgbeaaGreatW.PrintMore
attribute [local go_sem] max2_int min2_int max_two min_two max_three min_three max_four min_four
def aD6.f (aZ : Int) (bD : Int) : Option (Int) := some bD
set_option maxHeartbeats 8000000 in
set_option maxRecDepth 100000 in
theorem aD6.calls (aZ : Int) (bD : Int) (r : Int) (w : World) (h : aD6.f aZ bD = some r) :
  Calls Tryz.prog 67 #[.agg #[.int .i64 aZ, .int .i64 bD]] w fun e w' => e = .returned (.int .i64 r) ∧ Below w.heap.size w w' := by
 have hu42 := Tryz.underlying42
 have HB := aM (Below.refl w.heap.size w)
 have H : (some bD) = some r := h
 clear h
 obtain rfl := Option.some.inj H
 go_enter Tryz.func67, Tryz.ntmps67
 go_wp2_with (first | ((with_reducible refine gate_dst (N := 1) rfl ?_); refine bx 1 #[.int .i64 aZ, .int .i64 bD] 42 ?_; intro bE hg w2 hbox hb; have aA := hbox; have cO := gs HB hg; have cP := gs HB hg; replace HB := bs HB hb; clear hb hbox hg; obtain ⟨_, _, _, _⟩ := cf2 aA))
 go_ret
 exact ⟨eT, pE HB⟩
def aD8.f (aZ : Int) (bD : Int) : Option (Int) := some aZ
set_option maxHeartbeats 8000000 in
set_option maxRecDepth 100000 in
theorem aD8.calls (aZ : Int) (bD : Int) (r : Int) (w : World) (h : aD8.f aZ bD = some r) :
  Calls Tryz.prog 66 #[.agg #[.int .i64 aZ, .int .i64 bD]] w fun e w' => e = .returned (.int .i64 r) ∧ Below w.heap.size w w' := by
 have hu42 := Tryz.underlying42
 have HB := aM (Below.refl w.heap.size w)
 have H : (some aZ) = some r := h
 clear h
 obtain rfl := Option.some.inj H
 go_enter Tryz.func66, Tryz.ntmps66
 go_wp2_with (first | ((with_reducible refine gate_dst (N := 1) rfl ?_); refine bx 1 #[.int .i64 aZ, .int .i64 bD] 42 ?_; intro bE hg w2 hbox hb; have aA := hbox; have cO := gs HB hg; have cP := gs HB hg; replace HB := bs HB hb; clear hb hbox hg; obtain ⟨_, _, _, _⟩ := cf2 aA))
 go_ret
 exact ⟨eT, pE HB⟩
end Go.Proofs.YtlmglnobdcgbeaaGreat.P
namespace Go.Proofs.YtlmglnobdcgbeaaGreat.P
open Go.RowKit Go.Shelf Go.Proofs.YtlmglnobdcgbeaaGreatW.PrintWords Go.Proofs.YtlmglnobdcgbeaaGreatW.PrintLast Go.Proofs.YtlmglnobdcgbeaaGreatW.PrintMore Go.Proofs.YtlmglnobdcgbeaaGreat.R
def lowF (x y : Int) : Int := x
def highF (x y : Int) : Int := y
theorem high_calls (x y : Int) (W : World) : Calls Tryz.prog 67 #[.agg #[.int .i64 x, .int .i64 y]] W fun e w' => e = .returned (.int .i64 (highF x y)) ∧ Below W.heap.size W w' := aD6.calls x y y W rfl
theorem low_calls (x y : Int) (W : World) : Calls Tryz.prog 66 #[.agg #[.int .i64 x, .int .i64 y]] W fun e w' => e = .returned (.int .i64 (lowF x y)) ∧ Below W.heap.size W w' := aD8.calls x y x W rfl
def waitT (cl : List S67) (t : Int × Int × Int) : Int × Int := (t.1, wrap64 (t.2.1 - (aA4 cl t.1).f1))
def RvW (x : Int × Int) (vs : Array Value) (W : World) : Prop := vs = #[.int .i64 x.1, .int .i64 x.2]
structure CapW (B1 B2 B3 : Nat) (m : Nat) (A2 : Option Addr) (c2 : Nat) (ord : List Int) (A3 : Option Addr) (c3 : Nat) (cl : List S67) (A4 : Option Addr) (c4 : Nat) (rk : List Int) (W : World) : Prop where
  b1 : W.heap[B1]? = some (.cells #[.slice A3 cl.length c3, .slice A4 rk.length c4] 99 (0, 0))
  b2 : W.heap[B2]? = some (.cells #[.slice A2 ord.length c2] 23 (0, 0))
  b3 : W.heap[B3]? = some (.cells #[.int .i64 (m : Int)] 3 (0, 0))
  r2 : Kd.C (Kd.int .i64) W A2 ord.length ord
  r3 : Kd.C k67 W A3 cl.length cl
theorem box_event_sz {P : Program} {ops : Array Oper} {rest : List Oper} {o : Oper} {a : Act} {Q : Exit → Act → World → Prop} {W : World} (hgd : o.guard = none) {N : Tmp} (_hd : o.dst = some N) {cs : Array Value} {t : TypeId}
    (hrun : (execOp a.eval o).run P W = .ok (.value (.pointer (some ⟨W.heap.size, 0, none⟩))) (W.alloc (.cells cs t (0, 0))))
    (h : ∀ w1, w1.heap.size = W.heap.size + 1 → w1.heap[W.heap.size]? = some (.cells cs t (0, 0)) → Below W.heap.size W w1 → wpList P ops Q rest (a.put o.dst (.pointer (some ⟨W.heap.size, 0, none⟩))) w1) : wpList P ops Q (o :: rest) a W :=
  Kd.event_run hgd hrun (h _ (World.size_alloc _ _) (blk_new W _) (below_alloc (Below.refl _ _) _))
set_option maxHeartbeats 16000000 in
set_option maxRecDepth 100000 in
theorem waits_iter (B1 B2 B3 m : Nat) (A2 : Option Addr) (c2 : Nat) (ord : List Int) (A3 : Option Addr) (c3 : Nat) (cl : List S67) (A4 : Option Addr) (c4 : Nat) (rk : List Int) (n : Nat) (w : World) (Ex : Nat → Prop)
    (hm : 1 ≤ m) (hm2 : m ≤ 1000) (hin : ∀ x ∈ ord, 0 ≤ x ∧ x < (cl.length : Int))
    (hC : ∀ W', w.heap.size ≤ W'.heap.size → (∀ k, k < w.heap.size → ¬ Ex k → W'.heap[k]? = w.heap[k]?) → CapW B1 B2 B3 m A2 c2 ord A3 c3 cl A4 c4 rk W') :
    IterC Fence.wide n Tryz.prog 101 #[.pointer (some ⟨B1, 0, none⟩), .pointer (some ⟨B2, 0, none⟩), .pointer (some ⟨B3, 0, none⟩)] ((runT highF cl (List.replicate m 0) ord).map (waitT cl)) RvW Ex 8 (fun _ => True) w := by
  intro l J Jx W hW hJ hJx hY h0
  have hcap := hC W hW.size (fun k hk _ => hW.block k hk)
  have hB1l := (Array.getElem?_eq_some_iff.1 hcap.b1).1
  have hB2l := (Array.getElem?_eq_some_iff.1 hcap.b2).1
  have hB3l := (Array.getElem?_eq_some_iff.1 hcap.b3).1
  have HCAP := aM hcap
  have HC := aM hC
  have HJ := aM hJ
  have HJx := aM hJx
  have HY := aM hY
  have HW := aM hW
  have HIN := aM hin
  have H0 := aM h0
  have hsw := hW.size
  clear hC hJ hJx hY hcap hW hin h0
  have hu1 := Tryz.underlying99
  have hu2 := Tryz.underlying25
  refine callsIn_of_wp_marks Tryz.func101 rfl trivial ?_ rfl
  simp only [Tryz.ntmps101, List.size_toArray, List.length_cons, List.length_nil, Nat.reduceAdd, Nat.reduceSub, Array.replicate_succ, Array.replicate_zero, List.push_toArray, List.append_toArray, List.nil_append, List.cons_append]
  go_wp2_with (first
    | ((with_reducible refine gate_dst (N := 4) rfl ?_); refine box_event_sz ?hg (N := 4) ?hd (cs := #[.func (.yield l) #[] #[]]) (t := 138) ?hr ?_; (case hd => rfl); (case hg => rfl); (case hr => first | (go_simp; done) | (go_simp; rfl)); intro w1 hs1 hbox hb1
       have hz1 : w1.cell? ⟨B1, 0, none⟩ = some (.slice A3 cl.length c3) := (blk_cell ((hb1.block B1 hB1l).trans HCAP.out.b1) 0).trans rfl
       have hz2 : w1.cell? ⟨B1, 1, none⟩ = some (.slice A4 rk.length c4) := (blk_cell ((hb1.block B1 hB1l).trans HCAP.out.b1) 1).trans rfl
       have hz3 : w1.cell? ⟨B2, 0, none⟩ = some (.slice A2 ord.length c2) := (blk_cell ((hb1.block B2 hB2l).trans HCAP.out.b2) 0).trans rfl
       have hz4 : w1.cell? ⟨B3, 0, none⟩ = some (.int .i64 (m : Int)) := (blk_cell ((hb1.block B3 hB3l).trans HCAP.out.b3) 0).trans rfl)
    | ((with_reducible refine gate_callee (f := 65) rfl ?_); refine goesL_ (some 9) rfl rfl Tryz.func65 (by kernel_rfl) rfl #[.agg #[.slice A3 cl.length c3, .slice A4 rk.length c4], .slice A2 ord.length c2, .int .i64 (m : Int), .func (.func 67) #[] #[]] rfl (by (try simp only [List.map_toArray, List.map_cons, List.map_nil]); first | done | rfl) ?_
       refine (turns_calls A3 cl.length c3 A4 rk.length c4 A2 ord.length c2 (m : Int) 67 w1).mono ?_; rintro e w5 ⟨rfl, hw5⟩; refine ⟨_, rfl, ?_⟩)
    | (with_reducible refine regW_lit_ ?_) | gi_step)
  simp only [Act.put, List.setIfInBounds_toArray, List.set_cons_zero, List.set_cons_succ]
  obtain ⟨q1, q2, q3, q4, q5, q6⟩ := four_alloc w1 (.cells #[.slice A3 cl.length c3, .slice A4 rk.length c4] 99) (.cells #[.slice A2 ord.length c2] 23) (.cells #[.int .i64 (m : Int)] 3) (.cells #[.func (.func 67) #[] #[]] 135)
  rw [← hw5] at q1 q2 q3 q4 q5 q6
  clear hw5 hz1 hz2 hz3 hz4
  obtain ⟨b0, hb0⟩ : ∃ b0, W.heap.size = b0 := ⟨_, rfl⟩
  rw [hb0] at hs1
  have e1 : w1.heap.size = b0 + 1 := hs1
  rw [e1] at q2 q3 q4 q5 q6
  have hbox5 : w5.heap[b0]? = some (.cells #[.func (.yield l) #[] #[]] 138 (0, 0)) := by rw [hb0] at hbox; exact (q1.block b0 (by omega)).trans hbox
  have hb5 : Below b0 W w5 := by rw [hb0] at hb1; exact hb1.trans (q1.mono (by omega))
  clear hbox hb1 q1
  obtain ⟨Ex5, hEx5⟩ : ∃ Ex5 : Nat → Prop, Ex5 = fun k => ¬ (k < w.heap.size ∧ ¬ Ex k ∨ b0 ≤ k) := ⟨_, rfl⟩
  have hcapw : ∀ W', RKeep w.heap.size Ex b0 (fun _ => True) w5 W' → CapW B1 B2 B3 m A2 c2 ord A3 c3 cl A4 c4 rk W' := fun W' hk =>
    HC.out W' (by have := hk.size; omega) (fun k hk0 hx => (hk.same k (by omega) (.inl ⟨hk0, hx⟩)).trans ((hb5.block k (by omega)).trans (HW.out.block k hk0)))
  have hcap5 : ∀ W', w5.heap.size ≤ W'.heap.size → (∀ k, k < w5.heap.size → ¬ Ex5 k → W'.heap[k]? = w5.heap[k]?) → CapT (b0 + 1 + 2) (b0 + 1 + 1) (b0 + 1) (b0 + 1 + 3) m A2 c2 ord A3 c3 cl A4 c4 rk 67 W' := by
    intro W' hsz hsame
    have hold : ∀ k, k < w5.heap.size → b0 ≤ k → W'.heap[k]? = w5.heap[k]? := fun k hk hbk => hsame k hk (by rw [hEx5]; exact fun hn => hn (.inr hbk))
    have hcw := HC.out W' (by omega) (fun k hk0 hx => (hsame k (by omega) (by rw [hEx5]; exact fun hn => hn (.inl ⟨hk0, hx⟩))).trans ((hb5.block k (by omega)).trans (HW.out.block k hk0)))
    exact ⟨(hold _ (by omega) (by omega)).trans q5, (hold _ (by omega) (by omega)).trans q4, (hold _ (by omega) (by omega)).trans q3, (hold _ (by omega) (by omega)).trans q6, hcw.r2, hcw.r3⟩
  have hseq := turns_iter highF (b0 + 1 + 2) (b0 + 1 + 1) (b0 + 1) (b0 + 1 + 3) m A2 c2 ord A3 c3 cl A4 c4 rk 67 Tryz.f67 (n - 1) w5 Ex5 (fun _ => True) Tryz.func67 (by kernel_rfl) rfl high_calls hm hm2 HIN.out (by omega) trivial hcap5
  rw [e1]
  have HS := aM hcapw
  have HB5 := aM hb5
  have HBX := aM hbox5
  clear hcapw hcap5 hb5 hbox5 q3 q4 q5 q6 hs1
  refine range_outer (xs := runT highF cl (List.replicate m 0) ord) (Rv := RvT) (Ex := Ex5) (c := 1) (E := fun _ => True) (w0 := w5) rfl (fun h0 => by cases h0) (gf := 99) rfl trivial (fun args w => enters_ Tryz.func99 (by kernel_rfl) rfl args w) hseq (Below.refl _ _) (fun x vs W h => by unfold RvT at h; subst h; rfl)
    (fun i W' => J i W' ∧ RKeep w.heap.size Ex b0 (fun _ => True) w5 W')
    (fun cd i W' => cd = .ret ∧ Jx i W')
    ?hI ?hIx ?h0
    (fun i x a' W' => ∃ g5, a' = { tmps := #[.func (.yield l) #[] #[], .pointer (some ⟨B1, 0, none⟩), .pointer (some ⟨B2, 0, none⟩), .pointer (some ⟨B3, 0, none⟩), .pointer (some ⟨b0, 0, none⟩), .pointer (some ⟨g5, 0, none⟩), .agg #[.slice A3 cl.length c3, .slice A4 rk.length c4], .slice A2 ord.length c2, .int .i64 (m : Int), .func (.func 99) #[] #[.pointer (some ⟨b0 + 1 + 2, 0, none⟩), .pointer (some ⟨b0 + 1 + 1, 0, none⟩), .pointer (some ⟨b0 + 1, 0, none⟩), .pointer (some ⟨b0 + 1 + 3, 0, none⟩)], .agg #[.int .i64 x.1, .int .i64 x.2.1, .int .i64 x.2.2], undef, undef, undef, undef, undef, undef, undef, undef, undef, undef, undef, undef, undef, undef, undef, undef], defers := [] } ∧
      W'.heap[g5]? = some (.cells #[.int .i64 x.1, .int .i64 x.2.1, .int .i64 x.2.2] 107 (0, 0)) ∧ w5.heap.size + 3 ≤ g5 ∧ J i W' ∧ RKeep w.heap.size Ex b0 (fun _ => True) w5 W')
    ?hAx ?assign ?body ?done ?stop
  case hI => exact fun i X Y h hs => ⟨HJ.out i X Y h.1 (by rw [hb0]; exact (hs.lower (by omega)).widen (by omega) (by omega)), h.2.istep_ hs (Nat.le_refl _) (by omega)⟩
  case hIx => exact fun cd i X Y h hs => ⟨h.1, HJx.out i X Y h.2 (by rw [hb0]; exact (hs.lower (by omega)).widen (by omega) (by omega))⟩
  case h0 => exact ⟨HJ.out 0 W w5 H0.out (IStep.of_below (by rw [hb0]; exact HB5.out)), RKeep.refl _ _ _ _ _⟩
  case hAx =>
    rintro i x a' _ X Y ⟨g5, ha, h1, h2, h3, h4⟩ hs
    exact ⟨g5, ha, hs.same g5 _ h1 (by omega) (fun _ => rfl), h2, HJ.out i X Y h3 (by rw [hb0]; exact (hs.lower (by omega)).widen (by omega) (by omega)), h4.istep_ hs (Nat.le_refl _) (by omega)⟩
  case assign =>
    rintro l' i x vs W' K hx ⟨hi1, hi2⟩ hv hsz hK
    unfold RvT at hv
    subst hv
    simp only [List.zip_toArray, List.zip_cons_cons, List.zip_nil_right, List.zip_nil_left, List.size_toArray, List.foldl_toArray', List.foldl_cons, List.foldl_nil, List.setIfInBounds_toArray, List.set_cons_zero, List.set_cons_succ, List.length_cons, List.length_nil]
    have H1 := aM hi1
    have H2 := aM hi2
    have HK := aM hK
    have HSZ := aM hsz
    clear hseq hi1 hi2 hK hsz
    have hu107 := Tryz.underlying107
    go_wp2_with (first
      | ((with_reducible refine gate_dst (N := 5) rfl ?_); refine box_event_sz ?hg (N := 5) ?hd (cs := #[.int .i64 0, .int .i64 0, .int .i64 0]) (t := 107) ?hr ?_; (case hd => rfl); (case hg => rfl); (case hr => first | (go_simp; done) | (go_simp; rfl)); intro w6 hs6 hx6 hb6
         have hc60 : w6.cell? ⟨W'.heap.size, 0, none⟩ = some (.int .i64 0) := (blk_cell hx6 0).trans rfl
         have hc61 : w6.cell? ⟨W'.heap.size, 1, none⟩ = some (.int .i64 0) := (blk_cell hx6 1).trans rfl
         have hc62 : w6.cell? ⟨W'.heap.size, 2, none⟩ = some (.int .i64 0) := (blk_cell hx6 2).trans rfl
         have hf60 := blk_frozen hx6 0
         have hf61 := blk_frozen hx6 1
         have hf62 := blk_frozen hx6 2
         have HX6 := aM hx6
         have HB6 := aM hb6
         clear hx6 hb6)
      | ((with_reducible refine regIn_lit_ ?hnd ?hlo ?_); (case hnd => kernel_rfl); (case hlo => rintro ⟨_, _, h⟩; exact h)) | gi_step)
    have hbel : Below W'.heap.size W' (((w6.setCell ⟨W'.heap.size, 0, none⟩ (.int .i64 x.1)).setCell ⟨W'.heap.size, 1, none⟩ (.int .i64 x.2.1)).setCell ⟨W'.heap.size, 2, none⟩ (.int .i64 x.2.2)) :=
      ((HB6.out.setCell (p := ⟨W'.heap.size, 0, none⟩) (Nat.le_refl _) _).setCell (p := ⟨W'.heap.size, 1, none⟩) (Nat.le_refl _) _).setCell (p := ⟨W'.heap.size, 2, none⟩) (Nat.le_refl _) _
    exact HK.out _ _ hbel ⟨W'.heap.size, rfl, blk_put (blk_put (blk_put HX6.out 0 _ rfl) 1 _ rfl) 2 _ rfl, by have := HSZ.out; omega, HJ.out i W' _ H1.out (IStep.of_below hbel), H2.out.istep_ (b := w5.heap.size) (lo := w5.heap.size) (c := 0) (IStep.of_below hbel) (Nat.le_refl _) (Nat.le_refl _)⟩
  case body =>
    rintro l' i x a' W' hl' hloop hx ⟨g5, rfl, h1, h2, h3, h4⟩ hsz
    have hlt : i < ord.length := by have := (List.getElem?_eq_some_iff.1 hx).1; rwa [runT_len] at this
    have hxe := runT_at highF cl ord (List.replicate m 0) i hlt
    have hx1 : x.1 = ord[i] := by rw [hx] at hxe; rw [Option.some.inj hxe]
    obtain ⟨p1, p2⟩ := HIN.out x.1 (by rw [hx1]; exact List.getElem_mem hlt)
    have hyx : ((runT highF cl (List.replicate m 0) ord).map (waitT cl))[i]? = some (waitT cl x) := by rw [List.getElem?_map, hx]; rfl
    clear hxe hx1 hx
    obtain ⟨x0, x1, x2⟩ := x
    simp only [] at h1 p1 p2
    have hcx := HS.out W' h4
    have hk4 : W'.cell? ⟨b0, 0, none⟩ = some (.func (.yield l) #[] #[]) := (blk_cell ((h4.same b0 (by omega) (.inr ⟨Nat.le_refl _, trivial⟩)).trans HBX.out) 0).trans rfl
    have hz0 : W'.cell? ⟨g5, 0, none⟩ = some (.int .i64 x0) := (blk_cell h1 0).trans rfl
    have hz1 : W'.cell? ⟨g5, 1, none⟩ = some (.int .i64 x1) := (blk_cell h1 1).trans rfl
    have hd0 : W'.cell? ⟨B1, 0, none⟩ = some (.slice A3 cl.length c3) := (blk_cell hcx.b1 0).trans rfl
    obtain ⟨ad, hA3, hr0, hr1, hr2, hr3⟩ := aD4 hcx.r3 x0 p1 p2
    rw [hA3] at hd0
    replace p1 := eq_true p1
    replace p2 := eq_true p2
    have H1 := aM h1
    have H2 := aM h2
    have H3 := aM h3
    have H4 := aM h4
    have HYX := aM hyx
    have HSZ := aM hsz
    have tA := aM hA3
    clear hseq h1 h2 h3 h4 hyx hsz hcx hlt hA3 hloop hl' hr0 hr2 hr3
    simp only [] 
    go_wp2_with (first | (with_reducible refine stop_ 3 ?_) | gi_step)
    refine ⟨wpIn_seq ?_⟩
    refine quiet_last2_ (y := 14) (fun a2 w2 => ∃ u11 u12 u13 u14 u15 u16 u17 u18 u19 u20 u21 u22 u23 u24 : Value, a2 = { tmps := #[.func (.yield l) #[] #[], .pointer (some ⟨B1, 0, none⟩), .pointer (some ⟨B2, 0, none⟩), .pointer (some ⟨B3, 0, none⟩), .pointer (some ⟨b0, 0, none⟩), .pointer (some ⟨g5, 0, none⟩), .agg #[.slice A3 cl.length c3, .slice A4 rk.length c4], .slice A2 ord.length c2, .int .i64 (m : Int), .func (.func 99) #[] #[.pointer (some ⟨b0 + 1 + 2, 0, none⟩), .pointer (some ⟨b0 + 1 + 1, 0, none⟩), .pointer (some ⟨b0 + 1, 0, none⟩), .pointer (some ⟨b0 + 1 + 3, 0, none⟩)], .agg #[.int .i64 x0, .int .i64 x1, .int .i64 x2], u11, u12, u13, u14, u15, u16, u17, u18, u19, u20, u21, u22, u23, u24, undef, undef], defers := [] } ∧ u11 = .func (.yield l) #[] #[] ∧ u13 = .int .i64 x0 ∧ u24 = .int .i64 (wrap64 (x1 - (aA4 cl x0).f1)) ∧ ∃ nq, w2 = W'.drewN nq) (lifts_in l') (fun _ => trivial) (by kernel_rfl) rfl rfl (by kernel_rfl) (by kernel_rfl) ?hQn ?hq
    case hq =>
      simp only [List.take_succ_cons, List.take_zero, List.cons_append, List.nil_append]
      repeat (first | refine quiet_blank ?_ | quiet_step (fail))
      refine wpQuiet_nil ?_
      rintro w2 ⟨nq, rfl⟩
      exact ⟨_, _, _, _, _, _, _, _, _, _, _, _, _, _, rfl, rfl, rfl, (by rw [i64_w]), nq, rfl⟩
    case hQn =>
      rintro a2 w2 ⟨u11, u12, u13, u14, u15, u16, u17, u18, u19, u20, u21, u22, u23, u24, rfl, rfl, rfl, rfl, nq, rfl⟩
      refine oper_yield (l := l) (vs := #[.int .i64 x0, .int .i64 (wrap64 (x1 - (aA4 cl x0).f1))]) rfl (fun _ => trivial) rfl rfl (by simp only [List.map_toArray, List.map_cons, List.map_nil]; rfl) ?_
      have hbq : Below W'.heap.size W' (W'.drewN nq) := ⟨rfl, rfl, rfl, Nat.le_refl _, fun _ _ => rfl⟩
      refine YieldAt.mono (yield_in l' (yield_any rfl (HY.out i (waitT cl (x0, x1, x2)) _ (W'.drewN nq) HYX.out (HJ.out i W' _ H3.out (IStep.of_below hbq)) rfl (by have := HSZ.out; show W.heap.size + 8 ≤ W'.heap.size; omega)))) ?_
      rintro e W2 (⟨rfl, hJ2, hk2⟩ | ⟨rfl, hJ2, hk2⟩)
      all_goals
        refine ⟨_, rfl, ?_⟩
        refine lifts_in l' _ _ _ _ _ _ _ _ rfl (fun _ _ h => h) ?_
        refine oper_not (t := 4) rfl rfl ?_
        simp only [Act.put, List.setIfInBounds_toArray, List.set_cons_zero, List.set_cons_succ, Bool.not_true, Bool.not_false, Exit.then]
        have hbk : BKeep w5.heap.size Ex5 w5.heap.size (w5.heap.size + 2) (fun _ => True) W' W2 := by
          refine ⟨fun k o hB ho hc => hk2.book k o (by omega) ho hc, hk2.size, fun k hk hh => hk2.same k hk ?_, fun k o hB ho hc => hk2.book k o (by omega) ho hc⟩
          rcases hh with ⟨hk7, hex⟩ | ⟨hk7, _⟩
          · rw [hEx5] at hex
            rcases Classical.not_not.1 hex with h | h
            · exact .inl h
            · exact .inr ⟨by omega, trivial⟩
          · exact .inr ⟨by omega, trivial⟩
        have HBK := aM hbk
        have hk2' : RKeep w.heap.size Ex b0 (fun _ => True) w5 W2 := H4.out.trans (by rw [← hb0]; exact ⟨hk2.size, fun k hk hh => hk2.same k hk hh, fun k o hB ho hc => hk2.book k o hB ho hc⟩)
        have rX := aM hk2'
        have HEX := aM hEx5
        have HQ2 := aM q2
        clear hbk hk2 hk2' hEx5 q2
        go_wp2_with (first | gi_step)
      · exact ⟨HBK.out, hJ2, rX.out⟩
      · exact ⟨HBK.out, rfl, hJ2⟩
  case done =>
    rintro D W' hD ⟨h1, h2⟩ hmk
    simp only [Exit.inBlock, Exit.then]
    go_wp2_with (first | (with_reducible refine regW_lit_ ?_) | gi_step)
    refine Marks.leaves (lo := b0) (Ds := [D]) (.cons hmk (by omega) (fun E hE => by cases hE) (.nil _)) fun W2 hs => ⟨_, results_none rfl _ _ _, ⟨_, rfl⟩, .inl ?_⟩
    rw [List.length_map]
    exact HJ.out _ _ _ h1 (by rw [hb0]; exact hs.widen (Nat.le_refl _) (by omega))
  case stop =>
    rintro D cd i W' hD hi ⟨rfl, h1⟩ hmk
    go_wp2_with (first | (with_reducible refine regW_lit_ ?_) | gi_step)
    refine Marks.leaves (lo := b0) (Ds := [D]) (.cons hmk (by omega) (fun E hE => by cases hE) (.nil _)) fun W2 hs => ⟨_, results_none rfl _ _ _, ⟨_, rfl⟩, .inr ⟨i, ?_, ?_⟩⟩
    · rw [List.length_map]; exact hi
    · exact HJx.out _ _ _ h1 (by rw [hb0]; exact hs.widen (Nat.le_refl _) (by omega))
theorem Below_istep_ {n : Nat} {w W W' : World} {b lo c : Nat} (h : Below n w W) (hw : n ≤ w.heap.size) (k : IStep b lo c W W') (hb : n ≤ b) (hlo : n ≤ lo) : Below n w W' := by
  refine h.trans ⟨k.os, k.tape, k.output, k.size, fun j hj => ?_⟩
  have hjW : j < W.heap.size := Nat.lt_of_lt_of_le (Nat.lt_of_lt_of_le hj hw) h.size
  rw [k.same j _ (Array.getElem?_eq_getElem hjW) (fun h3 => by omega) (fun h3 => by omega), Array.getElem?_eq_getElem hjW]
def okT (cl : List S67) (ord : List Int) (m : Int) : Bool := decide (1 ≤ m) && decide (m ≤ 1000) && ord.all fun x => decide (0 ≤ x) && decide (x < (cl.length : Int))
theorem okT_spec {cl : List S67} {ord : List Int} {m : Int} (h : okT cl ord m = true) : 1 ≤ m ∧ m ≤ 1000 ∧ ∀ x ∈ ord, 0 ≤ x ∧ x < (cl.length : Int) := by
  simp only [okT, Bool.and_eq_true, decide_eq_true_eq, List.all_eq_true] at h
  exact ⟨h.1.1, h.1.2, h.2⟩
def waitsL (cl : List S67) (ord : List Int) (m : Int) : List (Int × Int) := (runT highF cl (List.replicate m.toNat 0) ord).map (waitT cl)
def aD5.f (aC : List S67) (aI : List Int) (l1 : List Int) (a2 : Int) (a3 : Int) : Option Bool :=
  if okT aC l1 a2 = true then some ((waitsL aC l1 a2).any fun t => decide (t.2 > a3)) else none
set_option maxHeartbeats 1000000 in
theorem waits_calls (A3 : Option Addr) (n3 c3 : Nat) (A4 : Option Addr) (n4 c4 : Nat) (A2 : Option Addr) (n2 c2 : Nat) (m : Int) (w : World) :
    Calls Tryz.prog 68 #[.agg #[.slice A3 n3 c3, .slice A4 n4 c4], .slice A2 n2 c2, .int .i64 m] w fun e w' =>
      e = .returned (.func (.func 101) #[] #[.pointer (some ⟨w.heap.size, 0, none⟩), .pointer (some ⟨w.heap.size + 1, 0, none⟩), .pointer (some ⟨w.heap.size + 2, 0, none⟩)]) ∧
      w' = ((w.alloc (.cells #[.slice A3 n3 c3, .slice A4 n4 c4] 99)).alloc (.cells #[.slice A2 n2 c2] 23)).alloc (.cells #[.int .i64 m] 3) := by
  have hu1 := Tryz.underlying99
  have hu2 := Tryz.underlying25
  go_enter Tryz.func68, Tryz.ntmps68
  go_wp2
  go_ret
  exact ⟨rfl, rfl⟩
theorem three_alloc (w : World) (o1 o2 o3 : Obj) : let w' := ((w.alloc o1).alloc o2).alloc o3; Below w.heap.size w w' ∧ w'.heap.size = w.heap.size + 3 ∧ w'.heap[w.heap.size]? = some o1 ∧ w'.heap[w.heap.size + 1]? = some o2 ∧ w'.heap[w.heap.size + 2]? = some o3 := by
  intro w'
  have s1 : (w.alloc o1).heap.size = w.heap.size + 1 := World.size_alloc _ _
  have s2 : ((w.alloc o1).alloc o2).heap.size = w.heap.size + 2 := by rw [World.size_alloc, s1]
  have e1 := World.alloc_heap_new w o1
  have e2 := World.alloc_heap_new (w.alloc o1) o2
  have e3 := World.alloc_heap_new ((w.alloc o1).alloc o2) o3
  rw [s1] at e2
  rw [s2] at e3
  refine ⟨((Below.refl _ w).alloc (Nat.le_refl _) _).alloc (by omega) _ |>.alloc (by omega) _, by show (World.alloc _ o3).heap.size = _; rw [World.size_alloc, s2], ?_, ?_, e3⟩
  · exact (Below.heap_alloc _ _ _ (by omega)).trans ((Below.heap_alloc _ _ _ (by omega)).trans e1)
  · exact (Below.heap_alloc _ _ _ (by omega)).trans e2
theorem waits_made (m : Nat) (A2 : Option Addr) (c2 : Nat) (ord : List Int) (A3 : Option Addr) (c3 : Nat) (cl : List S67) (A4 : Option Addr) (c4 : Nat) (rk : List Int) (n : Nat) (w1 w5 : World) (Ex : Nat → Prop) (hEx : ∀ k, Ex k → k < w1.heap.size)
    (hm : 1 ≤ m) (hm2 : m ≤ 1000) (hin : ∀ x ∈ ord, 0 ≤ x ∧ x < (cl.length : Int))
    (hw5 : w5 = ((w1.alloc (.cells #[.slice A3 cl.length c3, .slice A4 rk.length c4] 99)).alloc (.cells #[.slice A2 ord.length c2] 23)).alloc (.cells #[.int .i64 (m : Int)] 3))
    (hr : ∀ W', w1.heap.size ≤ W'.heap.size → (∀ k, k < w1.heap.size → ¬ Ex k → W'.heap[k]? = w1.heap[k]?) → Kd.C (Kd.int .i64) W' A2 ord.length ord ∧ Kd.C k67 W' A3 cl.length cl) :
    Below w1.heap.size w1 w5 ∧ w5.heap.size = w1.heap.size + 3 ∧ IterC Fence.wide n Tryz.prog 101 #[.pointer (some ⟨w1.heap.size, 0, none⟩), .pointer (some ⟨w1.heap.size + 1, 0, none⟩), .pointer (some ⟨w1.heap.size + 2, 0, none⟩)] (waitsL cl ord m) RvW Ex 8 (fun _ => True) w5 := by
  obtain ⟨q1, q2, q3, q4, q5⟩ := three_alloc w1 (.cells #[.slice A3 cl.length c3, .slice A4 rk.length c4] 99) (.cells #[.slice A2 ord.length c2] 23) (.cells #[.int .i64 (m : Int)] 3)
  rw [← hw5] at q1 q2 q3 q4 q5
  refine ⟨q1, q2, ?_⟩
  unfold waitsL
  rw [Int.toNat_natCast]
  refine waits_iter _ _ _ m A2 c2 ord A3 c3 cl A4 c4 rk n w5 Ex hm hm2 hin fun W' hsz hsame => ?_
  have hold : ∀ k, w1.heap.size ≤ k → k < w5.heap.size → W'.heap[k]? = w5.heap[k]? := fun k h1 h2 => hsame k h2 (fun hx => by have := hEx k hx; omega)
  obtain ⟨r1, r2⟩ := hr W' (by omega) (fun k hk hx => (hsame k (by omega) hx).trans (q1.block k hk))
  exact ⟨(hold _ (by omega) (by omega)).trans q3, (hold _ (by omega) (by omega)).trans q4, (hold _ (by omega) (by omega)).trans q5, r1, r2⟩
def NoLate (a3 : Int) (xs : List (Int × Int)) : Prop := ∀ t ∈ xs, ¬ t.2 > a3
def SomeLate (a3 : Int) (xs : List (Int × Int)) : Prop := ∃ t ∈ xs, t.2 > a3
set_option maxHeartbeats 16000000 in
set_option maxRecDepth 100000 in
theorem aD5.calls (bA : Option Addr) (aW : Nat) (aC : List S67) (bB : Option Addr) (bC : Nat) (aI : List Int) (A1 : Option Addr) (c1 : Nat) (l1 : List Int) (a2 : Int) (a3 : Int) (r : Bool) (w : World)
    (hr0_0 : Kd.C k67 w bA aC.length aC) (dH : aC.length ≤ aW) (hr0_1 : Kd.C (Kd.int .i64) w bB aI.length aI) (dI : aI.length ≤ bC) (hr1 : Kd.C (Kd.int .i64) w A1 l1.length l1) (hc1 : l1.length ≤ c1) (h : aD5.f aC aI l1 a2 a3 = some r) :
    Calls Tryz.prog 71 #[.agg #[.slice bA aC.length aW, .slice bB aI.length bC], .slice A1 l1.length c1, .int .i64 a2, .int .i64 a3] w fun e w' => e = .returned (.bool r) ∧ Below w.heap.size w w' := by
  unfold aD5.f at h
  split at h
  case isFalse => cases h
  rename_i hok
  obtain ⟨hm1, hm2, hin⟩ := okT_spec hok
  obtain ⟨m, rfl⟩ : ∃ m : Nat, a2 = (m : Int) := ⟨a2.toNat, by omega⟩
  have hr := Option.some.inj h
  clear h hok
  obtain ⟨xs, hxs⟩ : ∃ xs, waitsL aC l1 m = xs := ⟨_, rfl⟩
  rw [hxs] at hr
  have AR := aM hr
  have AX := aM hxs
  have R0 := aM hr0_0
  have R1 := aM hr1
  have IN := aM hin
  clear hr hxs hr0_0 hr0_1 hr1 hin dH dI hc1
  refine (callsIn_wide (n := 5)).1 (callsIn_of_wp_marks Tryz.func71 rfl trivial ?_ rfl)
  simp only [Tryz.ntmps71, List.size_toArray, List.length_cons, List.length_nil, Nat.reduceAdd, Nat.reduceSub, Array.replicate_succ, Array.replicate_zero, List.push_toArray, List.append_toArray, List.nil_append, List.cons_append]
  have hu1 := Tryz.underlying99
  have hu2 := Tryz.underlying25
  go_wp2_with (first
    | ((with_reducible refine gate_dst (N := 4) rfl ?_); refine box_event_sz ?hg (N := 4) ?hd (cs := #[.slice bA aC.length aW, .slice bB aI.length bC]) (t := 99) ?hr ?_; (case hd => rfl); (case hg => rfl); (case hr => first | (go_simp; done) | (go_simp; rfl)); intro w1 hs1 hx1 hb1)
    | ((with_reducible refine gate_dst (N := 7) rfl ?_); refine box_event_sz ?hg (N := 7) ?hd (cs := #[.int .i64 a3]) (t := 3) ?hr ?_; (case hd => rfl); (case hg => rfl); (case hr => first | (go_simp; done) | (go_simp; rfl)); intro w2 hs2 hx2 hb2)
    | ((with_reducible refine gate_dst (N := 8) rfl ?_); refine box_event_sz ?hg (N := 8) ?hd (cs := #[.bool false]) (t := 4) ?hr ?_; (case hd => rfl); (case hg => rfl); (case hr => first | (go_simp; done) | (go_simp; rfl)); intro w3 hs3 hx3 hb3
       have hx1' := (hb3.block _ (by omega)).trans ((hb2.block _ (by omega)).trans hx1)
       have hz1 : w3.cell? ⟨w.heap.size, 0, none⟩ = some (.slice bA aC.length aW) := (blk_cell hx1' 0).trans rfl
       have hz2 : w3.cell? ⟨w.heap.size, 1, none⟩ = some (.slice bB aI.length bC) := (blk_cell hx1' 1).trans rfl)
    | ((with_reducible refine gate_callee (f := 68) rfl ?_); refine goesL_ (some 14) rfl rfl Tryz.func68 (by kernel_rfl) rfl #[.agg #[.slice bA aC.length aW, .slice bB aI.length bC], .slice A1 l1.length c1, .int .i64 (m : Int)] rfl (by (try simp only [List.map_toArray, List.map_cons, List.map_nil]); first | done | rfl) ?_
       refine (waits_calls bA aC.length aW bB aI.length bC A1 l1.length c1 (m : Int) w3).mono ?_; rintro e w5 ⟨rfl, hw5⟩; refine ⟨_, rfl, ?_⟩)
    | (with_reducible refine regW_lit_ ?_) | gi_step)
  simp only [Act.put, List.setIfInBounds_toArray, List.set_cons_zero, List.set_cons_succ]
  have hb3w : Below w.heap.size w w3 := hb1.trans ((hb2.mono (by omega)).trans (hb3.mono (by omega)))
  obtain ⟨q1, q2, hseq⟩ := waits_made m A1 c1 l1 bA aW aC bB bC aI 4 w3 w5 (fun k => k = w.heap.size + 1 + 1) (fun k hk => by omega) (by omega) (by omega) IN.out hw5 (fun W' hsz hsame => ⟨Kd.C_F (Kd.heap_int _) R1.out W' (fun k hk _ => (hsame k (by omega) (by omega)).trans (hb3w.block k hk)), Kd.C_F k67_heap R0.out W' (fun k hk _ => (hsame k (by omega) (by omega)).trans (hb3w.block k hk))⟩)
  rw [AX.out] at hseq
  have hx7 : w5.heap[w.heap.size + 1]? = some (.cells #[.int .i64 a3] 3 (0, 0)) := (q1.block _ (by omega)).trans ((hb3.block _ (by omega)).trans (by rw [hs1] at hx2; exact hx2))
  have hx8 : w5.heap[w.heap.size + 1 + 1]? = some (.cells #[.bool false] 4 (0, 0)) := (q1.block _ (by omega)).trans (by rw [hs2, hs1] at hx3; exact hx3)
  have hb5 : Below w.heap.size w w5 := hb3w.trans (q1.mono (by omega))
  clear hw5 hx1 hx2 hx3 hb1 hb2 hb3 hb3w q1 hx1' hz1 hz2
  have e3 : w3.heap.size = w.heap.size + 3 := by omega
  rw [e3] at q2 hseq ⊢
  clear hs1 hs2 hs3 e3
  refine range_outer (xs := xs) (Rv := RvW) (Ex := fun k => k = w.heap.size + 1 + 1) (c := 8) (E := fun _ => True) (w0 := w5) rfl (fun h0 => by cases h0) (gf := 101) rfl trivial (fun args w => enters_ Tryz.func101 (by kernel_rfl) rfl args w) hseq (Below.refl _ _) (fun x vs W h => by unfold RvW at h; subst h; rfl)
    (fun i W' => NoLate a3 (xs.take i) ∧ W'.heap[w.heap.size + 1]? = some (.cells #[.int .i64 a3] 3 (0, 0)) ∧ W'.heap[w.heap.size + 1 + 1]? = some (.cells #[.bool false] 4 (0, 0)) ∧ Below w.heap.size w W')
    (fun cd i W' => cd = .ret ∧ SomeLate a3 xs ∧ W'.heap[w.heap.size + 1 + 1]? = some (.cells #[.bool true] 4 (0, 0)) ∧ Below w.heap.size w W')
    ?hI ?hIx ⟨fun t ht => (by cases ht), hx7, hx8, hb5⟩
    (fun i x a' W' => a' = { tmps := #[.agg #[.slice bA aC.length aW, .slice bB aI.length bC], .slice A1 l1.length c1, .int .i64 (m : Int), .int .i64 a3, .pointer (some ⟨w.heap.size, 0, none⟩), undef, undef, .pointer (some ⟨w.heap.size + 1, 0, none⟩), .pointer (some ⟨w.heap.size + 1 + 1, 0, none⟩), undef, .int .i64 x.2, .agg #[.slice bA aC.length aW, .slice bB aI.length bC], .slice A1 l1.length c1, .int .i64 (m : Int), .func (.func 101) #[] #[.pointer (some ⟨w.heap.size + 3, 0, none⟩), .pointer (some ⟨w.heap.size + 3 + 1, 0, none⟩), .pointer (some ⟨w.heap.size + 3 + 2, 0, none⟩)], .int .i64 x.1, .int .i64 x.2, undef, undef, undef], defers := [] } ∧
      NoLate a3 (xs.take i) ∧ W'.heap[w.heap.size + 1]? = some (.cells #[.int .i64 a3] 3 (0, 0)) ∧ W'.heap[w.heap.size + 1 + 1]? = some (.cells #[.bool false] 4 (0, 0)) ∧ Below w.heap.size w W')
    ?hAx ?assign ?body ?done ?stop
  case hI => exact fun i X Y ⟨h1, h2, h3, h4⟩ hs => ⟨h1, hs.same _ _ h2 (by omega) (fun _ => rfl), hs.same _ _ h3 (by omega) (fun _ => rfl), Below_istep_ h4 (Nat.le_refl _) hs (by omega) (by omega)⟩
  case hIx => exact fun cd i X Y ⟨h1, h2, h3, h4⟩ hs => ⟨h1, h2, hs.same _ _ h3 (by omega) (fun _ => rfl), Below_istep_ h4 (Nat.le_refl _) hs (by omega) (by omega)⟩
  case hAx => exact fun i x a' _ X Y ⟨h0, h1, h2, h3, h4⟩ hs => ⟨h0, h1, hs.same _ _ h2 (by omega) (fun _ => rfl), hs.same _ _ h3 (by omega) (fun _ => rfl), Below_istep_ h4 (Nat.le_refl _) hs (by omega) (by omega)⟩
  case assign =>
    rintro l' i x vs W' K hx hi hv hsz hK
    unfold RvW at hv
    subst hv
    simp only [List.zip_toArray, List.zip_cons_cons, List.zip_nil_right, List.zip_nil_left, List.size_toArray, List.foldl_toArray', List.foldl_cons, List.foldl_nil, List.setIfInBounds_toArray, List.set_cons_zero, List.set_cons_succ, List.length_cons, List.length_nil]
    have Hi := aM hi
    have HK := aM hK
    clear hseq hi hK hx7 hx8 hb5
    go_wp2_with (first | ((with_reducible refine regIn_lit_ ?hnd ?hlo ?_); (case hnd => kernel_rfl); (case hlo => rintro ⟨_, _, h⟩; exact h)) | gi_step)
    exact HK.out _ _ (Below.refl _ _) ⟨rfl, Hi.out⟩
  case body =>
    rintro l' i x a' W' hl' hloop hx ⟨rfl, h1, h2, h3, h4⟩ hsz
    have hc7 : W'.cell? ⟨w.heap.size + 1, 0, none⟩ = some (.int .i64 a3) := (blk_cell h2 0).trans rfl
    have hc8 : W'.cell? ⟨w.heap.size + 1 + 1, 0, none⟩ = some (.bool false) := (blk_cell h3 0).trans rfl
    have hf8 := blk_frozen h3 0
    obtain ⟨hlt, hxe⟩ := List.getElem?_eq_some_iff.1 hx
    have hmem : x ∈ xs := List.mem_of_getElem? hx
    have htk : xs.take (i + 1) = xs.take i ++ [x] := by rw [List.take_succ_eq_append_getElem hlt, hxe]
    have H1 := aM h1
    have H2 := aM h2
    have H3 := aM h3
    have H4 := aM h4
    have HM := aM hmem
    have HT := aM htk
    have Q2 := aM q2
    have HSZ := aM hsz
    clear hseq h1 h2 h3 h4 hx7 hx8 hb5 hx hxe hlt hmem htk hloop hl' q2 hsz
    by_cases hc : x.2 > a3
    · have hcb : decide (x.2 > a3) = true := decide_eq_true hc
      have HC := aM hc
      clear hc
      go_wp2_with (first | ((with_reducible refine regIn_lit_ ?hnd ?hlo ?_); (case hnd => kernel_rfl); (case hlo => rintro ⟨_, _, h⟩; exact h)) | gi_step)
      refine ⟨BKeep.of_block (w.heap.size + 1 + 1) (by simp [World.setCell]) (fun k _ hne => Below.heap_setCell _ _ _ k hne) ⟨_, H3.out, rfl⟩ (fun _ => rfl) (fun hh => by have := Q2.out; have := hh.1; omega), rfl, ⟨x, HM.out, HC.out⟩, blk_put (cs := #[.bool false]) H3.out 0 _ rfl, ?_⟩
      exact H4.out.setCell (p := ⟨w.heap.size + 1 + 1, 0, none⟩) (by show w.heap.size ≤ w.heap.size + 1 + 1; omega) _
    · have hcb : decide (x.2 > a3) = false := decide_eq_false hc
      have HC := aM hc
      clear hc
      go_wp2_with (first | ((with_reducible refine regIn_lit_ ?hnd ?hlo ?_); (case hnd => kernel_rfl); (case hlo => rintro ⟨_, _, h⟩; exact h)) | gi_step)
      refine ⟨BKeep.refl _ _ _ _ _ _, ?_, H2.out, H3.out, H4.out⟩
      rw [HT.out]
      exact fun t ht => (List.mem_append.1 ht).elim (H1.out t) (fun h_ => by rw [List.mem_singleton.1 h_]; have h2_ := HC.out; omega)
  case done =>
    rintro D W' hD ⟨h1, h2, h3, h4⟩ hmk
    rw [List.take_length] at h1
    have hc8 : W'.cell? ⟨w.heap.size + 1 + 1, 0, none⟩ = some (.bool false) := (blk_cell h3 0).trans rfl
    have hf8 := blk_frozen h3 0
    have H1 := aM h1
    have H3 := aM h3
    have H4 := aM h4
    have Q2 := aM q2
    have HD := aM hD
    have HMK := aM hmk
    clear hseq h1 h2 h3 h4 hx7 hx8 hb5 q2 hD hmk
    simp only [Exit.inBlock, Exit.then]
    go_wp2_with (first | (with_reducible refine regW_lit_ ?_) | gi_step)
    have hk' : (W'.setCell ⟨w.heap.size + 1 + 1, 0, none⟩ (.bool false)).heap[D]? = some (.deferred (some [])) := (Below.heap_setCell _ _ _ D (by have := HD.out; have := Q2.out; show D ≠ w.heap.size + 1 + 1; omega)).trans HMK.out
    refine Marks.leaves (lo := w5.heap.size) (Ds := [D]) (.cons hk' HD.out (fun E hE => by cases hE) (.nil _)) fun W2 hs => ⟨.bool r, ?res, rfl, Below_istep_ (H4.out.setCell (p := ⟨w.heap.size + 1 + 1, 0, none⟩) (by show w.heap.size ≤ w.heap.size + 1 + 1; omega) _) (Nat.le_refl _) hs (by have := Q2.out; omega) (by have := Q2.out; omega)⟩
    have hx := hs.same (w.heap.size + 1 + 1) _ (blk_put (cs := #[.bool false]) H3.out 0 (.bool false) rfl) (by omega) (fun _ => rfl)
    have hcx : W2.cell? ⟨w.heap.size + 1 + 1, 0, none⟩ = some (.bool false) := (blk_cell hx 0).trans rfl
    have hrf : r = false := by rw [← AR.out]; exact List.any_eq_false.2 (fun t ht => by simpa using H1.out t ht)
    subst hrf
    have hr : Tryz.f71.results = #[.cell 8 4] := rfl
    unfold results
    rw [hr]
    simp [go_sem, hcx]
  case stop =>
    rintro D cd i W' hD hi ⟨rfl, h1, h3, h4⟩ hmk
    have H1 := aM h1
    have H3 := aM h3
    have H4 := aM h4
    have Q2 := aM q2
    have HD := aM hD
    have HMK := aM hmk
    clear hseq h1 h3 h4 hx7 hx8 hb5 q2 hD hmk
    go_wp2_with (first | (with_reducible refine regW_lit_ ?_) | gi_step)
    refine Marks.leaves (lo := w5.heap.size) (Ds := [D]) (.cons (show W'.heap[D]? = _ from HMK.out) HD.out (fun E hE => by cases hE) (.nil _)) fun W2 hs => ⟨.bool r, ?res3, rfl, Below_istep_ H4.out (Nat.le_refl _) hs (by have := Q2.out; omega) (by have := Q2.out; omega)⟩
    have hx := hs.same (w.heap.size + 1 + 1) _ H3.out (by have := Q2.out; omega) (fun _ => rfl)
    have hcx : W2.cell? ⟨w.heap.size + 1 + 1, 0, none⟩ = some (.bool true) := (blk_cell hx 0).trans rfl
    have hrt : r = true := by
      rw [← AR.out]
      obtain ⟨t, ht, hc⟩ := H1.out
      exact List.any_eq_true.2 ⟨t, ht, decide_eq_true hc⟩
    subst hrt
    have hr : Tryz.f71.results = #[.cell 8 4] := rfl
    unfold results
    rw [hr]
    simp [go_sem, hcx]
end Go.Proofs.YtlmglnobdcgbeaaGreat.P
namespace Go.Proofs.YtlmglnobdcgbeaaGreat.P
open Go.RowKit Go.Proofs.YtlmglnobdcgbeaaGreatW.PrintWords Go.Proofs.YtlmglnobdcgbeaaGreatW.PrintLast Go.Proofs.YtlmglnobdcgbeaaGreatW.PrintMore
attribute [local go_sem] max2_int min2_int max_two min_two max_three min_three max_four min_four
def aD1.f (a0 : Int) (eH : Int) (gF : Int) : Option (Bool) := if a0 < eH then (some true) else (some (decide (a0 > gF)))
set_option maxHeartbeats 8000000 in
set_option maxRecDepth 100000 in
theorem aD1.calls (a0 : Int) (B1 : Nat) (eH : Int) (B2 : Nat) (gF : Int) (r : Bool) (w : World) (hb1 : w.heap[B1]? = some (.cells #[.int .i64 eH] 3 (0, 0))) (hb2 : w.heap[B2]? = some (.cells #[.int .i64 gF] 3 (0, 0))) (nb1_2 : B1 ≠ B2) (h : aD1.f a0 eH gF = some r) :
  Calls Tryz.prog 93 #[.int .i64 a0, .pointer (some ⟨B1, 0, none⟩), .pointer (some ⟨B2, 0, none⟩)] w fun e w' => e = .returned (.bool r) ∧ Drawn0 w w' := by
 have bG := aM hb1
 clear hb1
 have rY := aM hb2
 clear hb2
 have jY := aM nb1_2
 have jZ := aM nb1_2.symm
 clear nb1_2
 have H : (if a0 < eH then (some true) else (some (decide (a0 > gF)))) = some r := h
 clear h
 by_cases c4 : a0 < eH
 ·rw [if_pos c4] at H
  have fN : decide (a0 < eH) = true := decide_eq_true c4
  clear c4
  obtain rfl := Option.some.inj H
  have rZ := jY.out
  have sA := jZ.out
  obtain ⟨_, _⟩ := cf1 bG
  go_enter Tryz.func93, Tryz.ntmps93
  go_wp2
  go_ret
  exact ⟨by first | rfl | (simp; done) | (simp [*]; done), by repeat (first | exact Drawn0.refl _ | apply Drawn0.step)⟩
 ·rw [if_neg c4] at H
  have fN : decide (a0 < eH) = false := decide_eq_false c4
  clear c4
  obtain rfl := Option.some.inj H
  have sB := jY.out
  have sC := jZ.out
  obtain ⟨_, _⟩ := cf1 bG
  obtain ⟨_, _⟩ := cf1 rY
  go_enter Tryz.func93, Tryz.ntmps93
  go_wp2
  go_ret
  exact ⟨by first | rfl | (simp; done) | (simp [*]; done), by repeat (first | exact Drawn0.refl _ | apply Drawn0.step)⟩
set_option maxHeartbeats 4000000 in
set_option maxRecDepth 100000 in
theorem hof116.callsO (q : Int → Option Bool) (g : Nat) (lb : Array Value) (eg : ∀ args w, (callFunc g args).run Tryz.prog w = .ok (.enter g args) w) (Ad : Option Addr) (c : Nat) (l : List Int) (r : Int) (w : World) (hr : Kd.C (Kd.int .i64) w Ad l.length l)
    (hp : ∀ x ∈ l, ∀ b, q x = some b → ∀ (W : World), Below w.heap.size w W → Calls Tryz.prog g (#[.int .i64 x] ++ lb) W fun e w' => e = .returned (.bool b) ∧ Below W.heap.size W w') (h : idxO q l 0 = some r) :
    Calls Tryz.prog 116 #[.slice Ad l.length c, .func (.func g) #[] lb] w fun e w' => e = .returned (.int .i64 r) ∧ Below w.heap.size w w' := by
  have hbig : l.length ≤ 9223372036854775807 := hr.2.1
  have e0 := Lib.hid (idxO_drop q l)
  have hr' := Lib.hid hr
  have hp' := Lib.hid hp
  have H0 : Hid (idxO q (l.drop 0) 0 = some r) := Lib.hid (by rw [List.drop_zero]; exact h)
  clear hr hp h
  go_enter Tryz.func116, Tryz.ntmps116
  go_wp2
  go_loopg [5, 8] l.length (fun gg _ s8 wr => ∃ kk : Nat, kk ≤ l.length ∧ l.length - kk ≤ gg ∧ s8 = .int .i64 kk ∧ Aside (Below w.heap.size w wr) ∧ Aside (idxO q (l.drop kk) kk = some r))
  case atStart => exact ⟨0, Nat.zero_le _, by omega, rfl, Below.refl _ w, H0.out⟩
  case round =>
    obtain ⟨kk, hkk, hg, rfl, BW, HE⟩ := hrel
    by_cases hlt : kk < l.length
    · have hltz : (kk : Int) < (l.length : Int) := by omega
      obtain ⟨ad, rfl, h0_⟩ := Kd.at_int (Kd.C_below hr'.out BW.out) (kk : Int) (by omega) (by omega)
      simp only [Int.toNat_natCast] at h0_
      have hrd : rd l (kk : Int) = l[kk] := by simp [rd, rdOf, List.getD_eq_getElem?_getD, List.getElem?_eq_getElem hlt]
      rw [hrd] at h0_
      clear hrd
      have H1 := HE.out
      rw [e0.out kk hlt] at H1
      obtain ⟨b, hb, H2⟩ := Option.bind_eq_some_iff.mp H1
      have hcall := hp'.out l[kk] (List.getElem_mem hlt) b hb wr BW.out
      generalize hy : l[kk] = y at h0_ hcall
      have H2' := Lib.hid H2
      clear hy H2 H1 hb
      cases b with
      | true =>
        go_wp2_with (go_at_fn g; refine hcall.mono ?_; rintro e w' ⟨rfl, hb'⟩)
        go_ret
        refine ⟨?_, Below.trans BW.out (hb'.mono BW.out.size)⟩
        have H3 := H2'.out
        simp only [if_true] at H3
        rw [← Option.some.inj H3]
        rfl
      | false =>
        go_wp2_with (go_at_fn g; refine hcall.mono ?_; rintro e w' ⟨rfl, hb'⟩)
        go_roundg (l.length - (kk + 1))
        case measure => omega
        case rel =>
          refine ⟨kk + 1, by omega, by omega, by go_num, Below.trans BW.out (hb'.mono BW.out.size), (show Aside _ from ?_)⟩
          have H3 := H2'.out
          have H4 : idxO q (l.drop (kk + 1)) (kk + 1) = some r := by simpa using H3
          exact H4
    · have hltz : ¬ (kk : Int) < (l.length : Int) := by omega
      have HK := Lib.hid (show l.length ≤ kk by omega)
      go_wp2
      go_ret
      refine ⟨?_, BW.out⟩
      have H3 := HE.out
      rw [List.drop_eq_nil_of_le HK.out] at H3
      have H4 : some (-1 : Int) = some r := H3
      rw [← Option.some.inj H4]
      rfl
set_option maxHeartbeats 4000000 in
theorem hof92.callsO (q : Int → Option Bool) (g : Nat) (lb : Array Value) (eg : ∀ args w, (callFunc g args).run Tryz.prog w = .ok (.enter g args) w) (Ad : Option Addr) (c : Nat) (l : List Int) (r : Bool) (w : World) (hr : Kd.C (Kd.int .i64) w Ad l.length l)
    (hp : ∀ x ∈ l, ∀ b, q x = some b → ∀ (W : World), Below w.heap.size w W → Calls Tryz.prog g (#[.int .i64 x] ++ lb) W fun e w' => e = .returned (.bool b) ∧ Below W.heap.size W w') (h : anyO q l = some r) :
    Calls Tryz.prog 92 #[.slice Ad l.length c, .func (.func g) #[] lb] w fun e w' => e = .returned (.bool r) ∧ Below w.heap.size w w' := by
  obtain ⟨j, h1, rfl⟩ := idxO_any q l 0 r h
  have hcon := Lib.hid (hof116.callsO q g lb eg Ad c l j w hr hp h1)
  clear hr hp h1 h
  go_enter Tryz.func92, Tryz.ntmps92
  go_wp2_with (go_at_call 116; refine hcon.out.mono ?_; rintro e w' ⟨rfl, hb'⟩)
  go_ret
  exact ⟨rfl, hb'⟩
def aC7.f (l : List Int) (v0_ : Int) (v1_ : Int) : Option Bool := anyO (fun x => aD1.f x v0_ v1_) l
theorem aC7.calls (Ad : Option Addr) (c : Nat) (l : List Int) (B0 : Nat) (v0_ : Int) (B1 : Nat) (v1_ : Int) (r : Bool) (w : World) (hr : Kd.C (Kd.int .i64) w Ad l.length l) (hc : l.length ≤ c) (hb0 : w.heap[B0]? = some (.cells #[.int .i64 v0_] 3 (0, 0))) (hb1 : w.heap[B1]? = some (.cells #[.int .i64 v1_] 3 (0, 0))) (nb0_1 : B0 ≠ B1) (h : aC7.f l v0_ v1_ = some r) :
    Calls Tryz.prog 92 #[.slice Ad l.length c, .func (.func 93) #[] #[.pointer (some ⟨B0, 0, none⟩), .pointer (some ⟨B1, 0, none⟩)]] w fun e w' => e = .returned (.bool r) ∧ Below w.heap.size w w' :=
  hof92.callsO (fun x => aD1.f x v0_ v1_) 93 _ (enters_of Tryz.func93 (by kernel_rfl) rfl) Ad c l r w hr (fun x hx b hq W hbW => by
    have hcl := aD1.calls x B0 v0_ B1 v1_ b W (blk_below hb0 hbW) (blk_below hb1 hbW) nb0_1 hq
    exact hcl.mono fun e w' h' => ⟨h'.1, h'.2.below⟩) h
def aB7.f (a0 : Int) (a1 : Int) (l2 : List Int) : Option (Bool) := (aC7.f l2 a0 a1).bind fun bL => (some (!bL))
set_option maxHeartbeats 8000000 in
set_option maxRecDepth 100000 in
theorem aB7.calls (a0 : Int) (a1 : Int) (A2 : Option Addr) (c2 : Nat) (l2 : List Int) (r : Bool) (w : World) (hr2 : Kd.C (Kd.int .i64) w A2 l2.length l2) (hc2 : l2.length ≤ c2) (h : aB7.f a0 a1 l2 = some r) :
  Calls Tryz.prog 59 #[.int .i64 a0, .int .i64 a1, .slice A2 l2.length c2] w fun e w' => e = .returned (.bool r) ∧ Below w.heap.size w w' := by
 have HR2 := aM hr2
 have sD := aM hc2
 clear hr2 hc2
 have HB := aM (Below.refl w.heap.size w)
 have H : ((aC7.f l2 a0 a1).bind fun bL => (some (!bL))) = some r := h
 clear h
 obtain ⟨bL, A4, H⟩ := bi H
 obtain rfl := Option.some.inj H
 go_enter Tryz.func59, Tryz.ntmps59
 go_wp2_with (first | ((with_reducible refine gate_dst (N := 3) rfl ?_); refine bx 3 #[.int .i64 a0] 3 ?_; intro bE hg w5 hbox hb; have aA := hbox; have cO := gs HB hg; have cP := gs HB hg; replace HB := bs HB hb; clear hb hbox hg) | ((with_reducible refine gate_dst (N := 4) rfl ?_); refine bx 4 #[.int .i64 a1] 3 ?_; intro aD hg w6 hbox hb; have aE := hbox; have cI := gs HB hg; have jX := gs HB hg; replace HB := bs HB hb; have bO := nl aA hg; have bY := nr aA hg; replace aA := bb aA hb; clear hb hbox hg) | ((with_reducible refine gc 92 rfl ?_); refine gL 9 Tryz.func92 #[.slice A2 l2.length c2, .func (.func 93) #[] #[.pointer (some ⟨bE, 0, none⟩), .pointer (some ⟨aD, 0, none⟩)]] ?_; (with_reducible refine (aC7.calls _ _ l2 bE a0 aD a1 bL _ ?aT ?aU ?dJ ?dK ?eI A4.out).mono ?_); (case aT => exact pC (Kd.C_below HR2.out HB.out)); (case aU => exact sD.out); (case dJ => exact pB aA.out); (case dK => exact pB aE.out); (case eI => exact bO.out); rintro e w7 ⟨rfl, hb⟩; refine ⟨_, rfl, ?_⟩; replace aA := bb aA hb; replace aE := bb aE hb; replace HB := bs HB hb; clear hb))
 go_ret
 exact ⟨eT, pE HB⟩
def aD3.f (aZ : Int) (bD : Int) (bP : Int) (bQ : Int) (fO : List (S67)) (bV : List Int) : Option (Bool) := (aB7.f 0 (wrap64 ((bV.length : Int) - 1)) (([aZ] : List Int))).bind fun bF => (if bF = true then ((aB7.f 0 200 (([bD] : List Int))).bind fun gG => (if gG = true then ((aB7.f 1 20 (([bP, bQ] : List Int))).bind fun gH => (if gH = true then (some (decide (bP > bQ))) else (some true))) else (some true))) else (some true))
set_option maxHeartbeats 8000000 in
set_option maxRecDepth 100000 in
theorem aD3.calls (aZ : Int) (bD : Int) (bP : Int) (bQ : Int) (B1 : Nat) (lH : Option Addr) (lI : Nat) (fO : List (S67)) (lJ : Option Addr) (lK : Nat) (bV : List Int) (r : Bool) (w : World) (hb1 : w.heap[B1]? = some (.cells #[.slice lH fO.length lI, .slice lJ bV.length lK] 25 (0, 0))) (hr1_0 : Kd.C k67 w lH fO.length fO) (kA : fO.length ≤ lI) (hr1_1 : Kd.C (Kd.int .i64) w lJ bV.length bV) (kB : bV.length ≤ lK) (h : aD3.f aZ bD bP bQ fO bV = some r) :
  Calls Tryz.prog 58 #[.agg #[.int .i64 aZ, .int .i64 bD, .int .i64 bP, .int .i64 bQ], .pointer (some ⟨B1, 0, none⟩)] w fun e w' => e = .returned (.bool r) ∧ Below w.heap.size w w' := by
 have hu67 := Tryz.underlying67
 have pM := aM hr1_0
 have pO := aM kA
 clear hr1_0 kA
 have pP := aM hr1_1
 have pQ := aM kB
 clear hr1_1 kB
 have bG := aM hb1
 clear hb1
 have HB := aM (Below.refl w.heap.size w)
 have H : ((aB7.f 0 (wrap64 ((bV.length : Int) - 1)) (([aZ] : List Int))).bind fun bF => (if bF = true then ((aB7.f 0 200 (([bD] : List Int))).bind fun gG => (if gG = true then ((aB7.f 1 20 (([bP, bQ] : List Int))).bind fun gH => (if gH = true then (some (decide (bP > bQ))) else (some true))) else (some true))) else (some true))) = some r := h
 clear h
 obtain ⟨cS, dL⟩ : ∃ y_ : List Int, y_ = (([aZ] : List Int)) := ⟨_, rfl⟩
 replace H : Option.bind (aB7.f 0 (wrap64 ((bV.length : Int) - 1)) cS) _ = some r := yy dL H
 have bW := aM dL
 clear dL
 obtain ⟨bF, A3, H⟩ := bi H
 by_cases c4 : bF = true
 rotate_left
 ·replace c4 := Bool.eq_false_iff.mpr c4
  subst c4
  rw [if_neg (show ¬ (false = true) by decide)] at H
  obtain rfl := Option.some.inj H
  go_enter Tryz.func58, Tryz.ntmps58
  go_wp2_with (first | ((with_reducible refine gate_dst (N := 2) rfl ?_); (try (refine gate_guard (by rfl) ?_; dsimp only)); refine bx 2 #[.int .i64 aZ, .int .i64 bD, .int .i64 bP, .int .i64 bQ] 67 ?_; intro bE hg w59 hbox hb; have aA := hbox; have cO := gs HB hg; have cP := gs HB hg; replace HB := bs HB hb; have bT := nl bG hg; have bU := nr bG hg; replace bG := bb bG hb; clear hb hbox hg; have pS := bT.out; have pT := bU.out; obtain ⟨_, _, _, _⟩ := cf2 bG; obtain ⟨_, _, _, _, _, _, _, _⟩ := cf4 aA) | ((with_reducible refine gate_dst (N := 10) rfl ?_); (try (refine gate_guard (by rfl) ?_; dsimp only)); refine Kd.R_lit (Kd.int .i64) _ 3 ?hg (N := 10) ?hd (xs := ([aZ] : List Int)) (inner := [.int .i64 aZ]) (ok := fun _ => True) (okp := fun _ => True) ?hr ?hp (fun _ hk => hk) trivial (Below.refl _ _) (Nat.le_refl _) (by simp) ?_; (case hd => rfl); (case hg => rfl); (case hr => first | (go_simp; done) | (go_simp; rfl)); (case hp => exact (Reps.one (show Kd.M (Kd.int .i64) _ _ _ aZ [.int .i64 aZ] from rfl) (Reps.none _ _))); intro iD w63 gI hb hg_ hnew_; clear hg_ hnew_; (first | rw [← bW.out] at gI | (simp only [Int.reduceToNat] at gI; rw [← bW.out] at gI)); have aH := rl gI HB; replace bG := bb bG hb; replace aA := bb aA hb; replace HB := bs HB hb; clear hb gI; obtain ⟨nK, nL, nM⟩ := Kd.R_slice aH.out; subst nM) | ((with_reducible refine gc 59 rfl ?_); refine gL 11 Tryz.func59 #[.int .i64 0, .int .i64 (wrap64 ((bV.length : Int) - 1)), .slice nK cS.length nL] ?_; (with_reducible refine (aB7.calls 0 (wrap64 ((bV.length : Int) - 1)) _ _ cS false _ ?aT ?aU A3.out).mono ?_); (case aT => exact pC (Kd.R_reads' aH.out).2.2); (case aU => exact (Kd.R_reads' aH.out).2.1); rintro e w66 ⟨rfl, hb⟩; refine ⟨_, rfl, ?_⟩; replace aH := rb aH hb; replace bG := bb bG hb; replace aA := bb aA hb; replace HB := bs HB hb; clear hb))
  go_ret
  exact ⟨eT, pE HB⟩
 subst c4
 rw [if_pos rfl] at H
 obtain ⟨fM, dQ⟩ : ∃ y_ : List Int, y_ = (([bD] : List Int)) := ⟨_, rfl⟩
 replace H : Option.bind (aB7.f 0 200 fM) _ = some r := yy dQ H
 have cH := aM dQ
 clear dQ
 obtain ⟨gG, A5, H⟩ := bi H
 by_cases c6 : gG = true
 rotate_left
 ·replace c6 := Bool.eq_false_iff.mpr c6
  subst c6
  rw [if_neg (show ¬ (false = true) by decide)] at H
  obtain rfl := Option.some.inj H
  go_enter Tryz.func58, Tryz.ntmps58
  go_wp2_with (first | ((with_reducible refine gate_dst (N := 2) rfl ?_); (try (refine gate_guard (by rfl) ?_; dsimp only)); refine bx 2 #[.int .i64 aZ, .int .i64 bD, .int .i64 bP, .int .i64 bQ] 67 ?_; intro bE hg w46 hbox hb; have aA := hbox; have cO := gs HB hg; have cP := gs HB hg; replace HB := bs HB hb; have bT := nl bG hg; have bU := nr bG hg; replace bG := bb bG hb; clear hb hbox hg; have pU := bT.out; have pW := bU.out; obtain ⟨_, _, _, _⟩ := cf2 bG; obtain ⟨_, _, _, _, _, _, _, _⟩ := cf4 aA) | ((with_reducible refine gate_dst (N := 10) rfl ?_); (try (refine gate_guard (by rfl) ?_; dsimp only)); refine Kd.R_lit (Kd.int .i64) _ 3 ?hg (N := 10) ?hd (xs := ([aZ] : List Int)) (inner := [.int .i64 aZ]) (ok := fun _ => True) (okp := fun _ => True) ?hr ?hp (fun _ hk => hk) trivial (Below.refl _ _) (Nat.le_refl _) (by simp) ?_; (case hd => rfl); (case hg => rfl); (case hr => first | (go_simp; done) | (go_simp; rfl)); (case hp => exact (Reps.one (show Kd.M (Kd.int .i64) _ _ _ aZ [.int .i64 aZ] from rfl) (Reps.none _ _))); intro iD w50 gJ hb hg_ hnew_; clear hg_ hnew_; (first | rw [← bW.out] at gJ | (simp only [Int.reduceToNat] at gJ; rw [← bW.out] at gJ)); have aH := rl gJ HB; replace bG := bb bG hb; replace aA := bb aA hb; replace HB := bs HB hb; clear hb gJ; obtain ⟨nN, nO, nP⟩ := Kd.R_slice aH.out; subst nP) | ((with_reducible refine gc 59 rfl ?_); refine gL 11 Tryz.func59 #[.int .i64 0, .int .i64 (wrap64 ((bV.length : Int) - 1)), .slice nN cS.length nO] ?_; (with_reducible refine (aB7.calls 0 (wrap64 ((bV.length : Int) - 1)) _ _ cS true _ ?aT ?aU A3.out).mono ?_); (case aT => exact pC (Kd.R_reads' aH.out).2.2); (case aU => exact (Kd.R_reads' aH.out).2.1); rintro e w53 ⟨rfl, hb⟩; refine ⟨_, rfl, ?_⟩; replace aH := rb aH hb; replace bG := bb bG hb; replace aA := bb aA hb; replace HB := bs HB hb; clear hb; obtain ⟨_, _, _, _, _, _, _, _⟩ := cf4 aA) | ((with_reducible refine gate_dst (N := 16) rfl ?_); (try (refine gate_guard (by rfl) ?_; dsimp only)); refine Kd.R_lit (Kd.int .i64) _ 3 ?hg (N := 16) ?hd (xs := ([bD] : List Int)) (inner := [.int .i64 bD]) (ok := fun _ => True) (okp := fun _ => True) ?hr ?hp (fun _ hk => hk) trivial (Below.refl _ _) (Nat.le_refl _) (by simp) ?_; (case hd => rfl); (case hg => rfl); (case hr => first | (go_simp; done) | (go_simp; rfl)); (case hp => exact (Reps.one (show Kd.M (Kd.int .i64) _ _ _ bD [.int .i64 bD] from rfl) (Reps.none _ _))); intro lL w55 fP hb hg_ hnew_; clear hg_ hnew_; (first | rw [← cH.out] at fP | (simp only [Int.reduceToNat] at fP; rw [← cH.out] at fP)); have aX := aM (Kd.R_lower (Kd.R_new' fP (Kd.R_lt (pR aH.out))) (below_size (pE HB))); replace aH := re aH fP hb; replace bG := bb bG hb; replace aA := bb aA hb; replace HB := bs HB hb; clear hb fP; obtain ⟨sE, sF, nQ⟩ := Kd.R_slice aX.out; subst nQ) | (go_at_call 59; (with_reducible refine (aB7.calls 0 200 _ _ fM false _ ?aT ?aU A5.out).mono ?_); (case aT => exact pC (Kd.R_reads' aX.out).2.2); (case aU => exact (Kd.R_reads' aX.out).2.1); rintro e w58 ⟨rfl, hb⟩; replace aH := rb aH hb; replace aX := rb aX hb; replace bG := bb bG hb; replace aA := bb aA hb; replace HB := bs HB hb; (try clear hb); (try clear hb2); (try clear hk); (try clear hi)))
  go_ret
  exact ⟨eT, pE HB⟩
 subst c6
 rw [if_pos rfl] at H
 obtain ⟨kI, gK⟩ : ∃ y_ : List Int, y_ = (([bP, bQ] : List Int)) := ⟨_, rfl⟩
 replace H : Option.bind (aB7.f 1 20 kI) _ = some r := yy gK H
 have eV := aM gK
 clear gK
 obtain ⟨gH, A7, H⟩ := bi H
 by_cases c8 : gH = true
 ·subst c8
  rw [if_pos rfl] at H
  obtain rfl := Option.some.inj H
  go_enter Tryz.func58, Tryz.ntmps58
  go_wp2_with (first | ((with_reducible refine gate_dst (N := 2) rfl ?_); (try (refine gate_guard (by rfl) ?_; dsimp only)); refine bx 2 #[.int .i64 aZ, .int .i64 bD, .int .i64 bP, .int .i64 bQ] 67 ?_; intro bE hg w9 hbox hb; have aA := hbox; have cO := gs HB hg; have cP := gs HB hg; replace HB := bs HB hb; have bT := nl bG hg; have bU := nr bG hg; replace bG := bb bG hb; clear hb hbox hg; have lM := bT.out; have lN := bU.out; obtain ⟨_, _, _, _⟩ := cf2 bG; obtain ⟨_, _, _, _, _, _, _, _⟩ := cf4 aA) | ((with_reducible refine gate_dst (N := 10) rfl ?_); (try (refine gate_guard (by rfl) ?_; dsimp only)); refine Kd.R_lit (Kd.int .i64) _ 3 ?hg (N := 10) ?hd (xs := ([aZ] : List Int)) (inner := [.int .i64 aZ]) (ok := fun _ => True) (okp := fun _ => True) ?hr ?hp (fun _ hk => hk) trivial (Below.refl _ _) (Nat.le_refl _) (by simp) ?_; (case hd => rfl); (case hg => rfl); (case hr => first | (go_simp; done) | (go_simp; rfl)); (case hp => exact (Reps.one (show Kd.M (Kd.int .i64) _ _ _ aZ [.int .i64 aZ] from rfl) (Reps.none _ _))); intro iD w13 gM hb hg_ hnew_; clear hg_ hnew_; (first | rw [← bW.out] at gM | (simp only [Int.reduceToNat] at gM; rw [← bW.out] at gM)); have aH := rl gM HB; replace bG := bb bG hb; replace aA := bb aA hb; replace HB := bs HB hb; clear hb gM; obtain ⟨nR, nS, nT⟩ := Kd.R_slice aH.out; subst nT) | ((with_reducible refine gc 59 rfl ?_); refine gL 11 Tryz.func59 #[.int .i64 0, .int .i64 (wrap64 ((bV.length : Int) - 1)), .slice nR cS.length nS] ?_; (with_reducible refine (aB7.calls 0 (wrap64 ((bV.length : Int) - 1)) _ _ cS true _ ?aT ?aU A3.out).mono ?_); (case aT => exact pC (Kd.R_reads' aH.out).2.2); (case aU => exact (Kd.R_reads' aH.out).2.1); rintro e w16 ⟨rfl, hb⟩; refine ⟨_, rfl, ?_⟩; replace aH := rb aH hb; replace bG := bb bG hb; replace aA := bb aA hb; replace HB := bs HB hb; clear hb; obtain ⟨_, _, _, _, _, _, _, _⟩ := cf4 aA) | ((with_reducible refine gate_dst (N := 16) rfl ?_); (try (refine gate_guard (by rfl) ?_; dsimp only)); refine Kd.R_lit (Kd.int .i64) _ 3 ?hg (N := 16) ?hd (xs := ([bD] : List Int)) (inner := [.int .i64 bD]) (ok := fun _ => True) (okp := fun _ => True) ?hr ?hp (fun _ hk => hk) trivial (Below.refl _ _) (Nat.le_refl _) (by simp) ?_; (case hd => rfl); (case hg => rfl); (case hr => first | (go_simp; done) | (go_simp; rfl)); (case hp => exact (Reps.one (show Kd.M (Kd.int .i64) _ _ _ bD [.int .i64 bD] from rfl) (Reps.none _ _))); intro lL w18 fQ hb hg_ hnew_; clear hg_ hnew_; (first | rw [← cH.out] at fQ | (simp only [Int.reduceToNat] at fQ; rw [← cH.out] at fQ)); have aX := aM (Kd.R_lower (Kd.R_new' fQ (Kd.R_lt (pR aH.out))) (below_size (pE HB))); replace aH := re aH fQ hb; replace bG := bb bG hb; replace aA := bb aA hb; replace HB := bs HB hb; clear hb fQ; obtain ⟨nG, iB, iC⟩ := Kd.R_slice aX.out; subst iC) | (go_at_call 59; (with_reducible refine (aB7.calls 0 200 _ _ fM true _ ?aT ?aU A5.out).mono ?_); (case aT => exact pC (Kd.R_reads' aX.out).2.2); (case aU => exact (Kd.R_reads' aX.out).2.1); rintro e w21 ⟨rfl, hb⟩; replace aH := rb aH hb; replace aX := rb aX hb; replace bG := bb bG hb; replace aA := bb aA hb; replace HB := bs HB hb; (try clear hb); (try clear hb2); (try clear hk); (try clear hi); obtain ⟨_, _, _, _, _, _, _, _⟩ := cf4 aA) | ((with_reducible refine gate_dst (N := 27) rfl ?_); (try (refine gate_guard (by rfl) ?_; dsimp only)); refine Kd.R_lit (Kd.int .i64) _ 3 ?hg (N := 27) ?hd (xs := ([bP, bQ] : List Int)) (inner := [.int .i64 bP, .int .i64 bQ]) (ok := fun _ => True) (okp := fun _ => True) ?hr ?hp (fun _ hk => hk) trivial (Below.refl _ _) (Nat.le_refl _) (by simp) ?_; (case hd => rfl); (case hg => rfl); (case hr => first | (go_simp; done) | (go_simp; rfl)); (case hp => exact (Reps.one (show Kd.M (Kd.int .i64) _ _ _ bP [.int .i64 bP] from rfl) (Reps.one (show Kd.M (Kd.int .i64) _ _ _ bQ [.int .i64 bQ] from rfl) (Reps.none _ _)))); intro nU w23 cE hb hg_ hnew_; clear hg_ hnew_; (first | rw [← eV.out] at cE | (simp only [Int.reduceToNat] at cE; rw [← eV.out] at cE)); have bX := aM (Kd.R_lower (Kd.R_new' (Kd.R_new' cE (Kd.R_lt (pR aH.out))) (Kd.R_lt (pR aX.out))) (below_size (pE HB))); replace aH := re aH cE hb; replace aX := re aX cE hb; replace bG := bb bG hb; replace aA := bb aA hb; replace HB := bs HB hb; clear hb cE; obtain ⟨nV, nW, kJ⟩ := Kd.R_slice bX.out; subst kJ) | (go_at_call 59; (with_reducible refine (aB7.calls 1 20 _ _ kI true _ ?aT ?aU A7.out).mono ?_); (case aT => exact pC (Kd.R_reads' bX.out).2.2); (case aU => exact (Kd.R_reads' bX.out).2.1); rintro e w26 ⟨rfl, hb⟩; replace aH := rb aH hb; replace aX := rb aX hb; replace bX := rb bX hb; replace bG := bb bG hb; replace aA := bb aA hb; replace HB := bs HB hb; (try clear hb); (try clear hb2); (try clear hk); (try clear hi); obtain ⟨_, _, _, _, _, _, _, _⟩ := cf4 aA))
  go_ret
  exact ⟨eT, pE HB⟩
 replace c8 := Bool.eq_false_iff.mpr c8
 subst c8
 rw [if_neg (show ¬ (false = true) by decide)] at H
 obtain rfl := Option.some.inj H
 go_enter Tryz.func58, Tryz.ntmps58
 go_wp2_with (first | ((with_reducible refine gate_dst (N := 2) rfl ?_); (try (refine gate_guard (by rfl) ?_; dsimp only)); refine bx 2 #[.int .i64 aZ, .int .i64 bD, .int .i64 bP, .int .i64 bQ] 67 ?_; intro bE hg w28 hbox hb; have aA := hbox; have cO := gs HB hg; have cP := gs HB hg; replace HB := bs HB hb; have bT := nl bG hg; have bU := nr bG hg; replace bG := bb bG hb; clear hb hbox hg; have lO := bT.out; have lP := bU.out; obtain ⟨_, _, _, _⟩ := cf2 bG; obtain ⟨_, _, _, _, _, _, _, _⟩ := cf4 aA) | ((with_reducible refine gate_dst (N := 10) rfl ?_); (try (refine gate_guard (by rfl) ?_; dsimp only)); refine Kd.R_lit (Kd.int .i64) _ 3 ?hg (N := 10) ?hd (xs := ([aZ] : List Int)) (inner := [.int .i64 aZ]) (ok := fun _ => True) (okp := fun _ => True) ?hr ?hp (fun _ hk => hk) trivial (Below.refl _ _) (Nat.le_refl _) (by simp) ?_; (case hd => rfl); (case hg => rfl); (case hr => first | (go_simp; done) | (go_simp; rfl)); (case hp => exact (Reps.one (show Kd.M (Kd.int .i64) _ _ _ aZ [.int .i64 aZ] from rfl) (Reps.none _ _))); intro iD w32 gN hb hg_ hnew_; clear hg_ hnew_; (first | rw [← bW.out] at gN | (simp only [Int.reduceToNat] at gN; rw [← bW.out] at gN)); have aH := rl gN HB; replace bG := bb bG hb; replace aA := bb aA hb; replace HB := bs HB hb; clear hb gN; obtain ⟨nX, nY, nZ⟩ := Kd.R_slice aH.out; subst nZ) | ((with_reducible refine gc 59 rfl ?_); refine gL 11 Tryz.func59 #[.int .i64 0, .int .i64 (wrap64 ((bV.length : Int) - 1)), .slice nX cS.length nY] ?_; (with_reducible refine (aB7.calls 0 (wrap64 ((bV.length : Int) - 1)) _ _ cS true _ ?aT ?aU A3.out).mono ?_); (case aT => exact pC (Kd.R_reads' aH.out).2.2); (case aU => exact (Kd.R_reads' aH.out).2.1); rintro e w35 ⟨rfl, hb⟩; refine ⟨_, rfl, ?_⟩; replace aH := rb aH hb; replace bG := bb bG hb; replace aA := bb aA hb; replace HB := bs HB hb; clear hb; obtain ⟨_, _, _, _, _, _, _, _⟩ := cf4 aA) | ((with_reducible refine gate_dst (N := 16) rfl ?_); (try (refine gate_guard (by rfl) ?_; dsimp only)); refine Kd.R_lit (Kd.int .i64) _ 3 ?hg (N := 16) ?hd (xs := ([bD] : List Int)) (inner := [.int .i64 bD]) (ok := fun _ => True) (okp := fun _ => True) ?hr ?hp (fun _ hk => hk) trivial (Below.refl _ _) (Nat.le_refl _) (by simp) ?_; (case hd => rfl); (case hg => rfl); (case hr => first | (go_simp; done) | (go_simp; rfl)); (case hp => exact (Reps.one (show Kd.M (Kd.int .i64) _ _ _ bD [.int .i64 bD] from rfl) (Reps.none _ _))); intro lL w37 fR hb hg_ hnew_; clear hg_ hnew_; (first | rw [← cH.out] at fR | (simp only [Int.reduceToNat] at fR; rw [← cH.out] at fR)); have aX := aM (Kd.R_lower (Kd.R_new' fR (Kd.R_lt (pR aH.out))) (below_size (pE HB))); replace aH := re aH fR hb; replace bG := bb bG hb; replace aA := bb aA hb; replace HB := bs HB hb; clear hb fR; obtain ⟨sG, sH, oA⟩ := Kd.R_slice aX.out; subst oA) | (go_at_call 59; (with_reducible refine (aB7.calls 0 200 _ _ fM true _ ?aT ?aU A5.out).mono ?_); (case aT => exact pC (Kd.R_reads' aX.out).2.2); (case aU => exact (Kd.R_reads' aX.out).2.1); rintro e w40 ⟨rfl, hb⟩; replace aH := rb aH hb; replace aX := rb aX hb; replace bG := bb bG hb; replace aA := bb aA hb; replace HB := bs HB hb; (try clear hb); (try clear hb2); (try clear hk); (try clear hi); obtain ⟨_, _, _, _, _, _, _, _⟩ := cf4 aA) | ((with_reducible refine gate_dst (N := 27) rfl ?_); (try (refine gate_guard (by rfl) ?_; dsimp only)); refine Kd.R_lit (Kd.int .i64) _ 3 ?hg (N := 27) ?hd (xs := ([bP, bQ] : List Int)) (inner := [.int .i64 bP, .int .i64 bQ]) (ok := fun _ => True) (okp := fun _ => True) ?hr ?hp (fun _ hk => hk) trivial (Below.refl _ _) (Nat.le_refl _) (by simp) ?_; (case hd => rfl); (case hg => rfl); (case hr => first | (go_simp; done) | (go_simp; rfl)); (case hp => exact (Reps.one (show Kd.M (Kd.int .i64) _ _ _ bP [.int .i64 bP] from rfl) (Reps.one (show Kd.M (Kd.int .i64) _ _ _ bQ [.int .i64 bQ] from rfl) (Reps.none _ _)))); intro nU w42 eM hb hg_ hnew_; clear hg_ hnew_; (first | rw [← eV.out] at eM | (simp only [Int.reduceToNat] at eM; rw [← eV.out] at eM)); have bX := aM (Kd.R_lower (Kd.R_new' (Kd.R_new' eM (Kd.R_lt (pR aH.out))) (Kd.R_lt (pR aX.out))) (below_size (pE HB))); replace aH := re aH eM hb; replace aX := re aX eM hb; replace bG := bb bG hb; replace aA := bb aA hb; replace HB := bs HB hb; clear hb eM; obtain ⟨sI, sJ, oB⟩ := Kd.R_slice bX.out; subst oB) | (go_at_call 59; (with_reducible refine (aB7.calls 1 20 _ _ kI false _ ?aT ?aU A7.out).mono ?_); (case aT => exact pC (Kd.R_reads' bX.out).2.2); (case aU => exact (Kd.R_reads' bX.out).2.1); rintro e w45 ⟨rfl, hb⟩; replace aH := rb aH hb; replace aX := rb aX hb; replace bX := rb bX hb; replace bG := bb bG hb; replace aA := bb aA hb; replace HB := bs HB hb; (try clear hb); (try clear hb2); (try clear hk); (try clear hi)))
 go_ret
 exact ⟨eT, pE HB⟩
set_option maxHeartbeats 4000000 in
set_option maxRecDepth 100000 in
theorem hof96.callsO (q : S67 → Option Bool) (g : Nat) (lb : Array Value) (eg : ∀ args w, (callFunc g args).run Tryz.prog w = .ok (.enter g args) w) (Ad : Option Addr) (c : Nat) (l : List S67) (r : Int) (w : World) (hr : Kd.C k67 w Ad l.length l)
    (hp : ∀ x ∈ l, ∀ b, q x = some b → ∀ (W : World), Below w.heap.size w W → Calls Tryz.prog g (#[.agg #[.int .i64 x.f0, .int .i64 x.f1, .int .i64 x.f2.f0, .int .i64 x.f2.f1]] ++ lb) W fun e w' => e = .returned (.bool b) ∧ Below W.heap.size W w') (h : idxO q l 0 = some r) :
    Calls Tryz.prog 96 #[.slice Ad l.length c, .func (.func g) #[] lb] w fun e w' => e = .returned (.int .i64 r) ∧ Below w.heap.size w w' := by
  have hbig : l.length ≤ 9223372036854775807 := hr.2.1
  have e0 := Lib.hid (idxO_drop q l)
  have hr' := Lib.hid hr
  have hp' := Lib.hid hp
  have H0 : Hid (idxO q (l.drop 0) 0 = some r) := Lib.hid (by rw [List.drop_zero]; exact h)
  clear hr hp h
  go_enter Tryz.func96, Tryz.ntmps96
  go_wp2
  go_loopg [5, 8] l.length (fun gg _ s8 wr => ∃ kk : Nat, kk ≤ l.length ∧ l.length - kk ≤ gg ∧ s8 = .int .i64 kk ∧ Aside (Below w.heap.size w wr) ∧ Aside (idxO q (l.drop kk) kk = some r))
  case atStart => exact ⟨0, Nat.zero_le _, by omega, rfl, Below.refl _ w, H0.out⟩
  case round =>
    obtain ⟨kk, hkk, hg, rfl, BW, HE⟩ := hrel
    by_cases hlt : kk < l.length
    · have hltz : (kk : Int) < (l.length : Int) := by omega
      obtain ⟨ad, rfl, h0_, h1_, h2_, h3_⟩ := aD4 (Kd.C_below hr'.out BW.out) (kk : Int) (by omega) (by omega)
      simp only [Int.toNat_natCast] at h0_ h1_ h2_ h3_
      have hrd : aA4 l (kk : Int) = l[kk] := by simp [aA4, List.getD_eq_getElem?_getD, List.getElem?_eq_getElem hlt]
      rw [hrd] at h0_ h1_ h2_ h3_
      clear hrd
      have H1 := HE.out
      rw [e0.out kk hlt] at H1
      obtain ⟨b, hb, H2⟩ := Option.bind_eq_some_iff.mp H1
      have hcall := hp'.out l[kk] (List.getElem_mem hlt) b hb wr BW.out
      generalize hy : l[kk] = y at h0_ h1_ h2_ h3_ hcall
      have H2' := Lib.hid H2
      clear hy H2 H1 hb
      cases b with
      | true =>
        go_wp2_with (go_at_fn g; refine hcall.mono ?_; rintro e w' ⟨rfl, hb'⟩)
        go_ret
        refine ⟨?_, Below.trans BW.out (hb'.mono BW.out.size)⟩
        have H3 := H2'.out
        simp only [if_true] at H3
        rw [← Option.some.inj H3]
        rfl
      | false =>
        go_wp2_with (go_at_fn g; refine hcall.mono ?_; rintro e w' ⟨rfl, hb'⟩)
        go_roundg (l.length - (kk + 1))
        case measure => omega
        case rel =>
          refine ⟨kk + 1, by omega, by omega, by go_num, Below.trans BW.out (hb'.mono BW.out.size), (show Aside _ from ?_)⟩
          have H3 := H2'.out
          have H4 : idxO q (l.drop (kk + 1)) (kk + 1) = some r := by simpa using H3
          exact H4
    · have hltz : ¬ (kk : Int) < (l.length : Int) := by omega
      have HK := Lib.hid (show l.length ≤ kk by omega)
      go_wp2
      go_ret
      refine ⟨?_, BW.out⟩
      have H3 := HE.out
      rw [List.drop_eq_nil_of_le HK.out] at H3
      have H4 : some (-1 : Int) = some r := H3
      rw [← Option.some.inj H4]
      rfl
set_option maxHeartbeats 4000000 in
theorem hof61.callsO (q : S67 → Option Bool) (g : Nat) (lb : Array Value) (eg : ∀ args w, (callFunc g args).run Tryz.prog w = .ok (.enter g args) w) (Ad : Option Addr) (c : Nat) (l : List S67) (r : Bool) (w : World) (hr : Kd.C k67 w Ad l.length l)
    (hp : ∀ x ∈ l, ∀ b, q x = some b → ∀ (W : World), Below w.heap.size w W → Calls Tryz.prog g (#[.agg #[.int .i64 x.f0, .int .i64 x.f1, .int .i64 x.f2.f0, .int .i64 x.f2.f1]] ++ lb) W fun e w' => e = .returned (.bool b) ∧ Below W.heap.size W w') (h : anyO q l = some r) :
    Calls Tryz.prog 61 #[.slice Ad l.length c, .func (.func g) #[] lb] w fun e w' => e = .returned (.bool r) ∧ Below w.heap.size w w' := by
  obtain ⟨j, h1, rfl⟩ := idxO_any q l 0 r h
  have hcon := Lib.hid (hof96.callsO q g lb eg Ad c l j w hr hp h1)
  clear hr hp h1 h
  go_enter Tryz.func61, Tryz.ntmps61
  go_wp2_with (go_at_call 96; refine hcon.out.mono ?_; rintro e w' ⟨rfl, hb'⟩)
  go_ret
  exact ⟨rfl, hb'⟩
def aC9.f (l : List S67) (v0_ : List (S67)) (v1_ : List Int) : Option Bool := anyO (fun x => aD3.f x.f0 x.f1 x.f2.f0 x.f2.f1 v0_ v1_) l
theorem aC9.calls (Ad : Option Addr) (c : Nat) (l : List S67) (B0 : Nat) (Xv0_ : Option Addr) (yv0_ : Nat) (v0_ : List (S67)) (Xv1_ : Option Addr) (yv1_ : Nat) (v1_ : List Int) (r : Bool) (w : World) (hr : Kd.C k67 w Ad l.length l) (hc : l.length ≤ c) (hb0 : w.heap[B0]? = some (.cells #[.slice Xv0_ v0_.length yv0_, .slice Xv1_ v1_.length yv1_] 25 (0, 0))) (hrv0_ : Kd.C k67 w Xv0_ v0_.length v0_) (hcv0_ : v0_.length ≤ yv0_) (hrv1_ : Kd.C (Kd.int .i64) w Xv1_ v1_.length v1_) (hcv1_ : v1_.length ≤ yv1_) (h : aC9.f l v0_ v1_ = some r) :
    Calls Tryz.prog 61 #[.slice Ad l.length c, .func (.func 58) #[] #[.pointer (some ⟨B0, 0, none⟩)]] w fun e w' => e = .returned (.bool r) ∧ Below w.heap.size w w' :=
  hof61.callsO (fun x => aD3.f x.f0 x.f1 x.f2.f0 x.f2.f1 v0_ v1_) 58 _ (enters_of Tryz.func58 (by kernel_rfl) rfl) Ad c l r w hr (fun x hx b hq W hbW => by
    have hcl := aD3.calls x.f0 x.f1 x.f2.f0 x.f2.f1 B0 _ _ v0_ _ _ v1_ b W (blk_below hb0 hbW) (Kd.C_below hrv0_ hbW) hcv0_ (Kd.C_below hrv1_ hbW) hcv1_ hq
    exact hcl) h
end Go.Proofs.YtlmglnobdcgbeaaGreat.P
namespace Go.Proofs.YtlmglnobdcgbeaaGreat.P
open Go.RowKit Go.Shelf Go.Sort Go.Proofs.YtlmglnobdcgbeaaGreatW.PrintWords Go.Proofs.YtlmglnobdcgbeaaGreatW.PrintLast Go.Proofs.YtlmglnobdcgbeaaGreatW.PrintMore Go.Proofs.YtlmglnobdcgbeaaGreat.R
attribute [local go_sem] max2_int min2_int max_two min_two max_three min_three max_four min_four
def aC3.l0 : Nat → List Int → Int → List Int → Int → Int → Option (Bool)
  | 0, _, _, _, _, _ => none
  | k + 1, x0, x1, x11, x12, x13 => if x13 < x12 then (if 0 ≤ x13 then (if x13 < (x11.length : Int) then (if x13 = (rd x11 x13) then (aC3.l0 k x0 x1 x11 x12 (wrap64 (x13 + 1))) else (some false)) else (none)) else (none)) else (some ((x0.length : Int) == x1))
def aC3.f (l0 : List Int) (a1 : Int) : Option (Bool) := if l0.length ≤ 1000000 then aC3.l0 (l0.length + 2) l0 a1 (srt l0) ((srt l0).length : Int) 0 else none
set_option maxHeartbeats 8000000 in
set_option maxRecDepth 100000 in
theorem aC3.calls (A0 : Option Addr) (c0 : Nat) (l0 : List Int) (a1 : Int) (r : Bool) (w : World) (hr0 : Kd.C (Kd.int .i64) w A0 l0.length l0) (hc0 : l0.length ≤ c0) (h : aC3.f l0 a1 = some r) :
    Calls Tryz.prog 60 #[.slice A0 l0.length c0, .int .i64 a1] w fun e w' => e = .returned (.bool r) ∧ Below w.heap.size w w' := by
  unfold aC3.f at h
  by_cases hlen : l0.length ≤ 1000000
  case neg => rw [if_neg hlen] at h; cases h
  rw [if_pos hlen] at h
  generalize l0.length + 2 = k at h
  obtain ⟨w1, hw1⟩ : ∃ w1, w.alloc (.cells #[.slice A0 l0.length c0] 23) = w1 := ⟨_, rfl⟩
  have hb1 : Below w.heap.size w w1 := by rw [← hw1]; exact (Below.refl _ w).alloc (Nat.le_refl _) _
  have hs := sorted_calls l0 A0 c0 w.heap.size w1 (by rw [← hw1]; exact World.alloc_heap_new w _) (Kd.C_below hr0 hb1) hlen
  have hv := values_calls A0 l0.length c0 w
  rw [hw1] at hv
  have HS := aM hs
  have HV := aM hv
  have HB1 := aM hb1
  have sK := aM hc0
  clear hr0 hc0 hs hv hb1 hw1
  have H' := aM h
  clear h
  go_enter Tryz.func60, Tryz.ntmps60
  go_wp2_with (first
    | (go_at_call 95; refine HV.out.mono ?_; rintro e w_ ⟨rfl, rfl⟩)
    | (go_at_call 94; refine HS.out.mono ?_; rintro e w2 ⟨v, rfl, h1, h2⟩; obtain ⟨A2, c2, rfl⟩ := Kd.R_slice h1
       have HR2 := aM (own_C (Kd.own_of_R h1)); have HB2 := aM (HB1.out.trans (h2.mono HB1.out.size)); clear h1 h2; generalize srt l0 = ls at H' HR2 ⊢))
  go_loopg [13] k (fun kq sL w' => ∃ (aY : Int), sL = .int .i64 aY ∧ Aside0 (aC3.l0 kq l0 a1 ls (ls.length : Int) aY = some r) ∧ Aside0 (kq ≤ k) ∧ Drawn0 w2 w')
  case atStart => exact ⟨(0), (by first | rfl | (simp; done) | (simp [*]; done)), H', ⟨Nat.le_refl _⟩, by repeat (first | exact Drawn0.refl _ | apply Drawn0.step)⟩
  case round =>
    clear H'
    try clear p2
    obtain ⟨aY, rfl, HA, fV, ⟨m1, rfl⟩⟩ := hrel
    cases gk with
    | zero => exact absurd HA.out (by simp [aC3.l0])
    | succ k1 =>
      have H := HA.out
      clear HA
      simp only [aC3.l0] at H
      by_cases c3 : aY < (ls.length : Int)
      · rw [if_pos c3] at H
        have gP : decide (aY < (ls.length : Int)) = true := decide_eq_true c3
        clear c3
        by_cases c4 : 0 ≤ aY
        · rw [if_pos c4] at H
          have fN : decide (0 ≤ aY) = true := decide_eq_true c4
          clear c4
          by_cases c5 : aY < (ls.length : Int)
          · rw [if_pos c5] at H
            have gQ : decide (aY < (ls.length : Int)) = true := decide_eq_true c5
            clear c5
            by_cases c6 : aY = (rd ls aY)
            · rw [if_pos c6] at H
              have gA : (aY == (rd ls aY)) = true := beq_iff_eq.mpr c6
              have iE : (aY != (rd ls aY)) = false := bne_eq_false_iff_eq.mpr c6
              clear c6
              have H' := aM H
              clear H
              have bR : 0 ≤ (aY : Int) := of_decide_eq_true (by first | (with_reducible assumption) | assumption)
              have bS : aY < (ls.length : Int) := of_decide_eq_true (by first | (with_reducible assumption) | assumption)
              obtain ⟨cZ, eA, dA⟩ := Kd.at_int HR2.out aY bR bS
              cases eA
              replace bR := eq_true bR
              replace bS := eq_true bS
              go_wp2
              go_roundg k1
              case measure => have := fV.out; omega
              case rel => exact ⟨(wrap64 (aY + 1)), (by first | rfl | (simp; done) | (simp [*]; done)), H', ⟨by have := fV.out; omega⟩, by repeat (first | exact Drawn0.refl _ | apply Drawn0.step)⟩
            · rw [if_neg c6] at H
              have gA : (aY == (rd ls aY)) = false := beq_eq_false_iff_ne.mpr c6
              have iE : (aY != (rd ls aY)) = true := bne_iff_ne.mpr c6
              obtain rfl := Option.some.inj H
              have bR : 0 ≤ (aY : Int) := of_decide_eq_true (by first | (with_reducible assumption) | assumption)
              have bS : aY < (ls.length : Int) := of_decide_eq_true (by first | (with_reducible assumption) | assumption)
              obtain ⟨cZ, eA, dA⟩ := Kd.at_int HR2.out aY bR bS
              cases eA
              replace bR := eq_true bR
              replace bS := eq_true bS
              go_wp2
              go_ret
              exact ⟨by first | rfl | (simp; done) | (simp [*]; done), HB2.out.trans ⟨rfl, rfl, rfl, Nat.le_refl _, fun _ _ => rfl⟩⟩
          · rw [if_neg c5] at H
            exact absurd H (by simp)
        · rw [if_neg c4] at H
          exact absurd H (by simp)
      · rw [if_neg c3] at H
        have gP : decide (aY < (ls.length : Int)) = false := decide_eq_false c3
        clear c3
        obtain rfl := Option.some.inj H
        go_wp2
        go_ret
        exact ⟨by first | rfl | (simp; done) | (simp [*]; done), HB2.out.trans ⟨rfl, rfl, rfl, Nat.le_refl _, fun _ _ => rfl⟩⟩
end Go.Proofs.YtlmglnobdcgbeaaGreat.P
namespace Go.Proofs.YtlmglnobdcgbeaaGreat.P
open Go.RowKit Go.Proofs.YtlmglnobdcgbeaaGreatW.PrintWords Go.Proofs.YtlmglnobdcgbeaaGreatW.PrintLast Go.Proofs.YtlmglnobdcgbeaaGreatW.PrintMore
attribute [local go_sem] max2_int min2_int max_two min_two max_three min_three max_four min_four
def aB8.j0 : Nat → Bool → List (S67) → List Int → Option (Int)
 | 0, _, _, _ => none
 | k + 1, x5, bZ, dB => if x5 = true then (some 4) else (if (bZ.length : Int) > 10 then (some 5) else ((aC9.f bZ bZ dB).bind fun eB => (if eB = true then (some 2) else (some 0))))
def aB8.f (k : Nat) (aC : List (S67)) (aI : List Int) : Option (Int) := (aB7.f 1 6 (([(aI.length : Int)] : List Int))).bind fun bF => (if bF = true then ((aC3.f aI (aI.length : Int)).bind fun fS => (aB8.j0 k (!fS) aC aI)) else (aB8.j0 k (!bF) aC aI))
theorem aB8.mono_l : ∀ k, (∀ y0 y1 y2, LeO (aB8.j0 k y0 y1 y2) (aB8.j0 (k + 1) y0 y1 y2))
 | 0 => fun _ _ _ r h => by simp [aB8.j0] at h
 | k + 1 => by
  have ih0 := aB8.mono_l k
  ·intro y0 y1 y2
   unfold aB8.j0
   repeat' first
   | (with_reducible exact ih0 _ _ _)
   | (with_reducible exact LeO.refl _)
   | (with_reducible exact LeO.none _)
   | (with_reducible refine LeO.ite ?_ ?_)
   | (with_reducible refine LeO.bind ?_ (fun _ => ?_))
   | exact ih0 _ _ _
   | exact LeO.none _
   | refine LeO.ite ?_ ?_
   | refine LeO.bind ?_ (fun _ => ?_)
theorem aB8.mono : ∀ a0 a1 k, LeO (aB8.f k a0 a1) (aB8.f (k + 1) a0 a1) := by
 intro a0 a1 k
 have ih0 := aB8.mono_l k
 unfold aB8.f
 repeat' first
   | (with_reducible exact ih0 _ _ _)
   | (with_reducible exact LeO.refl _)
   | (with_reducible exact LeO.none _)
   | (with_reducible refine LeO.ite ?_ ?_)
   | (with_reducible refine LeO.bind ?_ (fun _ => ?_))
   | exact ih0 _ _ _
   | exact LeO.none _
   | refine LeO.ite ?_ ?_
   | refine LeO.bind ?_ (fun _ => ?_)
set_option maxHeartbeats 8000000 in
set_option maxRecDepth 100000 in
theorem aB8.calls (k : Nat) (bA : Option Addr) (aW : Nat) (aC : List (S67)) (bB : Option Addr) (bC : Nat) (aI : List Int) (r : Int) (w : World) (hr0_0 : Kd.C k67 w bA aC.length aC) (dH : aC.length ≤ aW) (hr0_1 : Kd.C (Kd.int .i64) w bB aI.length aI) (dI : aI.length ≤ bC) (h : aB8.f k aC aI = some r) :
  Calls Tryz.prog 19 #[.agg #[.slice bA aC.length aW, .slice bB aI.length bC]] w fun e w' => e = .returned (.int .i64 r) ∧ Below w.heap.size w w' := by
 have hu25 := Tryz.underlying25
 have dM := aM hr0_0
 have dS := aM dH
 clear hr0_0 dH
 have eW := aM hr0_1
 have eX := aM dI
 clear hr0_1 dI
 have HB := aM (Below.refl w.heap.size w)
 have H : ((aB7.f 1 6 (([(aI.length : Int)] : List Int))).bind fun bF => (if bF = true then ((aC3.f aI (aI.length : Int)).bind fun fS => (aB8.j0 k (!fS) aC aI)) else (aB8.j0 k (!bF) aC aI))) = some r := h
 clear h
 obtain ⟨cS, dL⟩ : ∃ y_ : List Int, y_ = (([(aI.length : Int)] : List Int)) := ⟨_, rfl⟩
 replace H : Option.bind (aB7.f 1 6 cS) _ = some r := yy dL H
 have bW := aM dL
 clear dL
 obtain ⟨bF, A2, H⟩ := bi H
 have oC := aM H
 clear H
 go_enter Tryz.func19, Tryz.ntmps19
 go_upto_if 5 with (first | ((with_reducible refine gate_dst (N := 1) rfl ?_); refine bx 1 #[.slice bA aC.length aW, .slice bB aI.length bC] 25 ?_; intro bE hg w4 hbox hb; have aA := hbox; have cO := gs HB hg; have cP := gs HB hg; replace HB := bs HB hb; clear hb hbox hg; obtain ⟨kK, kL, kM, kN⟩ := cf2 aA) | ((with_reducible refine gate_dst (N := 9) rfl ?_); refine Kd.R_lit (Kd.int .i64) _ 3 ?hg (N := 9) ?hd (xs := ([(aI.length : Int)] : List Int)) (inner := [.int .i64 (aI.length : Int)]) (ok := fun _ => True) (okp := fun _ => True) ?hr ?hp (fun _ hk => hk) trivial (Below.refl _ _) (Nat.le_refl _) (by simp) ?_; (case hd => rfl); (case hg => rfl); (case hr => first | (go_simp; done) | (go_simp; rfl)); (case hp => exact (Reps.one (show Kd.M (Kd.int .i64) _ _ _ (aI.length : Int) [.int .i64 (aI.length : Int)] from rfl) (Reps.none _ _))); intro iD w6 lQ hb hg_ hnew_; clear hg_ hnew_; (first | rw [← bW.out] at lQ | (simp only [Int.reduceToNat] at lQ; rw [← bW.out] at lQ)); have aH := rl lQ HB; replace aA := bb aA hb; replace HB := bs HB hb; clear hb lQ; obtain ⟨sM, sN, sO⟩ := Kd.R_slice aH.out; subst sO) | ((with_reducible refine gc 59 rfl ?_); refine gL 10 Tryz.func59 #[.int .i64 1, .int .i64 6, .slice sM cS.length sN] ?_; (with_reducible refine (aB7.calls 1 6 _ _ cS bF _ ?aT ?aU A2.out).mono ?_); (case aT => exact pC (Kd.R_reads' aH.out).2.2); (case aU => exact (Kd.R_reads' aH.out).2.1); rintro e w9 ⟨rfl, hb⟩; refine ⟨_, rfl, ?_⟩; replace aH := rb aH hb; replace aA := bb aA hb; replace HB := bs HB hb; clear hb))
 (try simp only [Act.put, List.setIfInBounds_toArray, List.set_cons_zero, List.set_cons_succ])
 go_cut [5] (fun v5 wc => ∃ (kq : Nat) (iF : Bool), v5 = .bool iF ∧ Aside0 (aB8.j0 kq iF aC aI = some r) ∧ Aside0 (kq ≤ k) ∧ Aside0 (wc.heap[bE]? = some (.cells #[(.slice bA aC.length aW), (.slice bB aI.length bC)] 25 (0, 0))) ∧ Aside0 (Below w.heap.size w wc))
 case first =>
  have H := oC.out
  clear oC
  by_cases c10 : bF = true
  rotate_left
  ·replace c10 := Bool.eq_false_iff.mpr c10
   subst c10
   rw [if_neg (show ¬ (false = true) by decide)] at H
   have H' := aM H
   clear H
   go_wp2
   go_meet
   case rel => exact ⟨_, (!false), (by first | rfl | (simp; done) | (simp [*]; done)), H', ⟨by first | omega | exact Nat.le_refl _⟩, ⟨pB aA.out⟩, ⟨pE HB⟩⟩
  subst c10
  rw [if_pos rfl] at H
  obtain ⟨fS, sP, H⟩ := bi H
  have H' := aM H
  clear H
  obtain ⟨iG, iH, iI, iJ⟩ := cf2 aA
  go_wp2_with (first | ((with_reducible refine gc 60 rfl ?_); refine gL 17 Tryz.func60 #[.slice bB aI.length bC, .int .i64 (aI.length : Int)] ?_; (with_reducible refine (aC3.calls _ _ aI (aI.length : Int) fS _ ?aT ?aU sP.out).mono ?_); (case aT => exact pC (Kd.C_below eW.out HB.out)); (case aU => exact eX.out); rintro e w13 ⟨rfl, hb⟩; refine ⟨_, rfl, ?_⟩; replace aH := rb aH hb; replace aA := bb aA hb; replace HB := bs HB hb; clear hb))
  go_meet
  case rel => exact ⟨_, (!fS), (by first | rfl | (simp; done) | (simp [*]; done)), H', ⟨by first | omega | exact Nat.le_refl _⟩, ⟨pB aA.out⟩, ⟨pE HB⟩⟩
 case rest =>
  clear oC
  try clear c1
  try clear p2
  try clear c5
  try clear c6
  try clear c10
  try clear iG
  try clear iH
  try clear kK
  try clear kL
  try clear iI
  try clear iJ
  try clear kM
  try clear kN
  obtain ⟨kq, iF, rfl, HA, tB, aA, HB⟩ := hcut
  cases kq with
  | zero => exact absurd HA.out (by simp [aB8.j0])
  | succ kj2 =>
   have H := HA.out
   clear HA
   simp only [aB8.j0] at H
   by_cases c14 : iF = true
   ·subst c14
    rw [if_pos rfl] at H
    obtain rfl := Option.some.inj H
    go_wp2
    go_ret
    exact ⟨eT, pE HB⟩
   ·replace c14 := Bool.eq_false_iff.mpr c14
    subst c14
    rw [if_neg (show ¬ (false = true) by decide)] at H
    by_cases c15 : (aC.length : Int) > 10
    ·rw [if_pos c15] at H
     have eY : decide (10 < (aC.length : Int)) = true := decide_eq_true c15
     have lR : decide (10 < aC.length) = true := decide_eq_true (by omega)
     clear c15
     obtain rfl := Option.some.inj H
     obtain ⟨_, _, _, _⟩ := cf2 aA
     go_wp2
     go_ret
     exact ⟨eT, pE HB⟩
    ·rw [if_neg c15] at H
     have eY : decide (10 < (aC.length : Int)) = false := decide_eq_false c15
     have lR : decide (10 < aC.length) = false := decide_eq_false (by omega)
     clear c15
     obtain ⟨eB, pX, H⟩ := bi H
     by_cases c18 : eB = true
     ·subst c18
      rw [if_pos rfl] at H
      obtain rfl := Option.some.inj H
      obtain ⟨_, _, _, _⟩ := cf2 aA
      go_wp2_with (first | ((with_reducible refine gc 61 rfl ?_); refine gL 28 Tryz.func61 #[.slice bA aC.length aW, .func (.func 58) #[] #[.pointer (some ⟨bE, 0, none⟩)]] ?_; (with_reducible refine (aC9.calls _ _ aC bE bA aW aC bB bC aI true _ ?aT ?aU ?dJ ?dK ?eI ?gR ?gS pX.out).mono ?_); (case aT => exact pC (Kd.C_below dM.out HB.out)); (case aU => exact dS.out); (case dJ => exact pB aA.out); (case dK => exact pC (Kd.C_below dM.out HB.out)); (case eI => exact dS.out); (case gR => exact pC (Kd.C_below eW.out HB.out)); (case gS => exact eX.out); rintro e w20 ⟨rfl, hb⟩; refine ⟨_, rfl, ?_⟩; replace aA := bb aA hb; replace HB := bs HB hb; clear hb))
      go_ret
      exact ⟨eT, pE HB⟩
     ·replace c18 := Bool.eq_false_iff.mpr c18
      subst c18
      rw [if_neg (show ¬ (false = true) by decide)] at H
      obtain rfl := Option.some.inj H
      obtain ⟨_, _, _, _⟩ := cf2 aA
      go_wp2_with (first | ((with_reducible refine gc 61 rfl ?_); refine gL 28 Tryz.func61 #[.slice bA aC.length aW, .func (.func 58) #[] #[.pointer (some ⟨bE, 0, none⟩)]] ?_; (with_reducible refine (aC9.calls _ _ aC bE bA aW aC bB bC aI false _ ?aT ?aU ?dJ ?dK ?eI ?gR ?gS pX.out).mono ?_); (case aT => exact pC (Kd.C_below dM.out HB.out)); (case aU => exact dS.out); (case dJ => exact pB aA.out); (case dK => exact pC (Kd.C_below dM.out HB.out)); (case eI => exact dS.out); (case gR => exact pC (Kd.C_below eW.out HB.out)); (case gS => exact eX.out); rintro e w22 ⟨rfl, hb⟩; refine ⟨_, rfl, ?_⟩; replace aA := bb aA hb; replace HB := bs HB hb; clear hb))
      go_ret
      exact ⟨eT, pE HB⟩
def aB5.j0 : Nat → Int → Bool → List (S67) → List Int → Option ((List (S67)) × List Int × Int)
 | 0, _, _, _, _ => none
 | k + 1, x8, x24, bZ, dB => if x24 = true then (some (bZ, dB, 3)) else (some (bZ, dB, x8))
def aB5.f (k : Nat) (aC : List (S67)) (aI : List Int) (a1 : Int) (a2 : Int) : Option ((List (S67)) × List Int × Int) := (aB8.f k aC aI).bind fun bL => (if bL = 0 then ((aB7.f 1 5 (([a1] : List Int))).bind fun eB => (if eB = true then ((aB7.f 0 500 (([a2] : List Int))).bind fun fT => (aB5.j0 k bL (!fT) aC aI)) else (aB5.j0 k bL true aC aI))) else (aB5.j0 k bL false aC aI))
theorem aB5.mono_l : ∀ k, (∀ y0 y1 y2 y3, LeO (aB5.j0 k y0 y1 y2 y3) (aB5.j0 (k + 1) y0 y1 y2 y3))
 | 0 => fun _ _ _ _ r h => by simp [aB5.j0] at h
 | k + 1 => by
  have ih0 := aB5.mono_l k
  ·intro y0 y1 y2 y3
   unfold aB5.j0
   repeat' first
   | (with_reducible exact ih0 _ _ _ _)
   | (with_reducible exact aB8.mono _ _ _)
   | (with_reducible exact LeO.refl _)
   | (with_reducible exact LeO.none _)
   | (with_reducible refine LeO.ite ?_ ?_)
   | (with_reducible refine LeO.bind ?_ (fun _ => ?_))
   | exact ih0 _ _ _ _
   | exact aB8.mono _ _ _
   | exact LeO.none _
   | refine LeO.ite ?_ ?_
   | refine LeO.bind ?_ (fun _ => ?_)
theorem aB5.mono : ∀ a0 a1 a2 a3 k, LeO (aB5.f k a0 a1 a2 a3) (aB5.f (k + 1) a0 a1 a2 a3) := by
 intro a0 a1 a2 a3 k
 have ih0 := aB5.mono_l k
 unfold aB5.f
 repeat' first
   | (with_reducible exact ih0 _ _ _ _)
   | (with_reducible exact aB8.mono _ _ _)
   | (with_reducible exact LeO.refl _)
   | (with_reducible exact LeO.none _)
   | (with_reducible refine LeO.ite ?_ ?_)
   | (with_reducible refine LeO.bind ?_ (fun _ => ?_))
   | exact ih0 _ _ _ _
   | exact aB8.mono _ _ _
   | exact LeO.none _
   | refine LeO.ite ?_ ?_
   | refine LeO.bind ?_ (fun _ => ?_)
set_option maxHeartbeats 8000000 in
set_option maxRecDepth 100000 in
theorem aB5.calls (k : Nat) (P0_0_ : Nat → Prop) (bA : Option Addr) (aW : Nat) (aC : List (S67)) (P0_1_ : Nat → Prop) (bB : Option Addr) (bC : Nat) (aI : List Int) (a1 : Int) (a2 : Int) (r1 : List (S67)) (r2 : List Int) (r3 : Int) (w : World) (hs0_0 : Kd.V k67 67 w w.heap.size (fun k_ => P0_0_ k_) (.slice bA aC.length aW) aC) (hs0_1 : Kd.V (Kd.int .i64) 3 w w.heap.size (fun k_ => P0_1_ k_) (.slice bB aI.length bC) aI) (h : aB5.f k aC aI a1 a2 = some (r1, r2, r3)) :
  Calls Tryz.prog 62 #[.agg #[.slice bA aC.length aW, .slice bB aI.length bC], .int .i64 a1, .int .i64 a2] w fun e w' => ∃ v0_ v1_ : Value, e = .returned (.tuple #[.agg #[v0_, v1_], .int .i64 r3]) ∧ Kd.V k67 67 w' w.heap.size (fun k_ => ((P0_0_ k_ ∨ P0_1_ k_) ∨ w.heap.size ≤ k_)) v0_ r1 ∧ Kd.V (Kd.int .i64) 3 w' w.heap.size (fun k_ => ((P0_0_ k_ ∨ P0_1_ k_) ∨ w.heap.size ≤ k_)) v1_ r2 ∧ Below w.heap.size w w' := by
 have hu25 := Tryz.underlying25
 have hu99 := Tryz.underlying99
 have HO0_0 := aM (show Kd.V k67 67 w w.heap.size (fun k_ => ((P0_0_ k_ ∨ P0_1_ k_) ∨ w.heap.size ≤ k_)) (.slice bA aC.length aW) aC from Kd.V_mono hs0_0 (fun k_ hk => .inl (.inl hk)))
 have HO0_1 := aM (show Kd.V (Kd.int .i64) 3 w w.heap.size (fun k_ => ((P0_0_ k_ ∨ P0_1_ k_) ∨ w.heap.size ≤ k_)) (.slice bB aI.length bC) aI from Kd.V_mono hs0_1 (fun k_ hk => .inl (.inr hk)))
 have HB := aM (Below.refl w.heap.size w)
 have H : ((aB8.f k aC aI).bind fun bL => (if bL = 0 then ((aB7.f 1 5 (([a1] : List Int))).bind fun eB => (if eB = true then ((aB7.f 0 500 (([a2] : List Int))).bind fun fT => (aB5.j0 k bL (!fT) aC aI)) else (aB5.j0 k bL true aC aI))) else (aB5.j0 k bL false aC aI))) = some (r1, r2, r3) := h
 clear h
 obtain ⟨bL, A4, H⟩ := bi H
 have oD := aM H
 clear H
 go_enter Tryz.func62, Tryz.ntmps62
 go_upto_region 2 with (first | ((with_reducible refine gate_dst (N := 3) rfl ?_); (try (refine gate_guard (by rfl) ?_; dsimp only)); refine bx 3 #[.slice bA aC.length aW, .slice bB aI.length bC] 25 ?_; intro bE hg w6 hbox hb; replace HO0_0 := ve HO0_0 hg hb; replace HO0_1 := ve HO0_1 hg hb; have aA := hbox; have cO := gs HB hg; have cP := gs HB hg; replace HB := bs HB hb; clear hb hbox hg) | ((with_reducible refine gate_dst (N := 6) rfl ?_); (try (refine gate_guard (by rfl) ?_; dsimp only)); refine bx 6 #[.slice none 0 0, .slice none 0 0] 99 ?_; intro aD hg w7 hbox hb; replace HO0_0 := ve HO0_0 hg hb; replace HO0_1 := ve HO0_1 hg hb; have aE := hbox; have cI := gs HB hg; have jX := gs HB hg; replace HB := bs HB hb; have bO := nl aA hg; have bY := nr aA hg; replace aA := bb aA hb; clear hb hbox hg; have sQ := bO.out; have sR := bY.out; obtain ⟨kO, kP, kQ, kR⟩ := cf2 aA) | ((with_reducible refine gc 19 rfl ?_); refine gL 10 Tryz.func19 #[.agg #[.slice bA aC.length aW, .slice bB aI.length bC]] ?_; (with_reducible refine (aB8.calls k _ _ aC _ _ aI bL _ ?aT ?aU ?dJ ?dK A4.out).mono ?_); (case aT => exact pC (Kd.V_reads' HO0_0.out).2.2); (case aU => exact (Kd.V_reads' HO0_0.out).2.1); (case dJ => exact pC (Kd.V_reads' HO0_1.out).2.2); (case dK => exact (Kd.V_reads' HO0_1.out).2.1); rintro e w10 ⟨rfl, hb⟩; refine ⟨_, rfl, ?_⟩; replace HO0_0 := vb HO0_0 hb; replace HO0_1 := vb HO0_1 hb; replace aA := bb aA hb; replace aE := bb aE hb; replace HB := bs HB hb; clear hb))
 (try simp only [Act.put, List.setIfInBounds_toArray, List.set_cons_zero, List.set_cons_succ])
 go_cut [24] (fun sS wc => ∃ (kq : Nat) (eZ : Bool), sS = .bool eZ ∧ Aside0 (aB5.j0 kq bL eZ aC aI = some (r1, r2, r3)) ∧ Aside0 (kq ≤ k) ∧ Aside0 (Kd.V k67 67 wc w.heap.size (fun k_ => ((P0_0_ k_ ∨ P0_1_ k_) ∨ w.heap.size ≤ k_) ∧ k_ ≠ bE ∧ k_ ≠ aD) (.slice bA aC.length aW) aC) ∧ Aside0 (Kd.V (Kd.int .i64) 3 wc w.heap.size (fun k_ => ((P0_0_ k_ ∨ P0_1_ k_) ∨ w.heap.size ≤ k_) ∧ k_ ≠ bE ∧ k_ ≠ aD) (.slice bB aI.length bC) aI) ∧ Aside0 (wc.heap[bE]? = some (.cells #[(.slice bA aC.length aW), (.slice bB aI.length bC)] 25 (0, 0))) ∧ Aside0 (wc.heap[aD]? = some (.cells #[(.slice none 0 0), (.slice none 0 0)] 99 (0, 0))) ∧ Aside0 (Below w.heap.size w wc))
 case first =>
  have H := oD.out
  clear oD
  by_cases c11 : bL = 0
  rotate_left
  ·rw [if_neg c11] at H
   have dU : (bL == 0) = false := beq_eq_false_iff_ne.mpr c11
   have kC : (bL != 0) = true := bne_iff_ne.mpr c11
   (first | rw [dU] | (simp only [i64_w, i32_w]; rw [dU]) | skip)
   have H' := aM H
   clear H
   go_wp2
   go_meet
   case rel => exact ⟨_, (false), (by first | rfl | (simp; done) | (simp [*]; done)), H', ⟨by first | omega | exact Nat.le_refl _⟩, ⟨by (with_reducible repeat (first | apply Kd.V_alloc | apply Kd.V_drewN | apply Kd.V_drew)); exact Kd.V_mono HO0_0.out (fun _ hk => ⟨hk.1.1, ⟨hk.1.2, hk.2⟩⟩)⟩, ⟨by (with_reducible repeat (first | apply Kd.V_alloc | apply Kd.V_drewN | apply Kd.V_drew)); exact Kd.V_mono HO0_1.out (fun _ hk => ⟨hk.1.1, ⟨hk.1.2, hk.2⟩⟩)⟩, ⟨pB aA.out⟩, ⟨pB aE.out⟩, ⟨pE HB⟩⟩
  rw [if_pos c11] at H
  have dU : (bL == 0) = true := beq_iff_eq.mpr c11
  have kC : (bL != 0) = false := bne_eq_false_iff_eq.mpr c11
  clear c11
  (first | rw [dU] | (simp only [i64_w, i32_w]; rw [dU]) | skip)
  obtain ⟨aV, dN⟩ : ∃ y_ : List Int, y_ = (([a1] : List Int)) := ⟨_, rfl⟩
  replace H : Option.bind (aB7.f 1 5 aV) _ = some (r1, r2, r3) := yy dN H
  have dO := aM dN
  clear dN
  obtain ⟨eB, pY, H⟩ := bi H
  by_cases c13 : eB = true
  rotate_left
  ·replace c13 := Bool.eq_false_iff.mpr c13
   subst c13
   rw [if_neg (show ¬ (false = true) by decide)] at H
   have H' := aM H
   clear H
   go_wp2_with (first | ((with_reducible refine gate_dst (N := 15) rfl ?_); (try (refine gate_guard (by rfl) ?_; dsimp only)); refine Kd.R_lit (Kd.int .i64) _ 3 ?hg (N := 15) ?hd (xs := ([a1] : List Int)) (inner := [.int .i64 a1]) (ok := fun _ => True) (okp := fun _ => True) ?hr ?hp (fun _ hk => hk) trivial (Below.refl _ _) (Nat.le_refl _) (by simp) ?_; (case hd => rfl); (case hg => rfl); (case hr => first | (go_simp; done) | (go_simp; rfl)); (case hp => exact (Reps.one (show Kd.M (Kd.int .i64) _ _ _ a1 [.int .i64 a1] from rfl) (Reps.none _ _))); intro oE w23 cE hb hg_ hnew_; clear hg_ hnew_; (first | rw [← dO.out] at cE | (simp only [Int.reduceToNat] at cE; rw [← dO.out] at cE)); replace HO0_0 := aM (Kd.V_elder' (pV HO0_0.out) (Kd.R_base cE) hb); replace HO0_1 := aM (Kd.V_elder' (pV HO0_1.out) (Kd.R_base cE) hb); have bJ := aM (Kd.R_lower (Kd.R_newM (M := fun k_ => (w.heap.size ≤ k_)) cE (below_size (pE HB)) (fun k_ h_ => h_)) (below_size (pE HB))); replace aA := bb aA hb; replace aE := bb aE hb; replace HB := bs HB hb; clear hb cE; obtain ⟨nV, nW, kJ⟩ := Kd.R_slice bJ.out; subst kJ) | (go_at_call 59; (with_reducible refine (aB7.calls 1 5 _ _ aV false _ ?aT ?aU pY.out).mono ?_); (case aT => exact pC (Kd.R_reads' bJ.out).2.2); (case aU => exact (Kd.R_reads' bJ.out).2.1); rintro e w26 ⟨rfl, hb⟩; replace HO0_0 := vb HO0_0 hb; replace HO0_1 := vb HO0_1 hb; replace bJ := rb bJ hb; replace aA := bb aA hb; replace aE := bb aE hb; replace HB := bs HB hb; (try clear hb); (try clear hb2); (try clear hk); (try clear hi)))
   go_meet
   case rel => exact ⟨_, (true), (by first | rfl | (simp; done) | (simp [*]; done)), H', ⟨by first | omega | exact Nat.le_refl _⟩, ⟨by (with_reducible repeat (first | apply Kd.V_alloc | apply Kd.V_drewN | apply Kd.V_drew)); exact Kd.V_mono HO0_0.out (fun _ hk => ⟨hk.1.1.1, ⟨hk.1.1.2, hk.1.2⟩⟩)⟩, ⟨by (with_reducible repeat (first | apply Kd.V_alloc | apply Kd.V_drewN | apply Kd.V_drew)); exact Kd.V_mono HO0_1.out (fun _ hk => ⟨hk.1.1.1, ⟨hk.1.1.2, hk.1.2⟩⟩)⟩, ⟨pB aA.out⟩, ⟨pB aE.out⟩, ⟨pE HB⟩⟩
  subst c13
  rw [if_pos rfl] at H
  obtain ⟨lS, gT⟩ : ∃ y_ : List Int, y_ = (([a2] : List Int)) := ⟨_, rfl⟩
  replace H : Option.bind (aB7.f 0 500 lS) _ = some (r1, r2, r3) := yy gT H
  have kD := aM gT
  clear gT
  obtain ⟨fT, sT, H⟩ := bi H
  have H' := aM H
  clear H
  go_wp2_with (first | ((with_reducible refine gate_dst (N := 15) rfl ?_); (try (refine gate_guard (by rfl) ?_; dsimp only)); refine Kd.R_lit (Kd.int .i64) _ 3 ?hg (N := 15) ?hd (xs := ([a1] : List Int)) (inner := [.int .i64 a1]) (ok := fun _ => True) (okp := fun _ => True) ?hr ?hp (fun _ hk => hk) trivial (Below.refl _ _) (Nat.le_refl _) (by simp) ?_; (case hd => rfl); (case hg => rfl); (case hr => first | (go_simp; done) | (go_simp; rfl)); (case hp => exact (Reps.one (show Kd.M (Kd.int .i64) _ _ _ a1 [.int .i64 a1] from rfl) (Reps.none _ _))); intro oE w15 eN hb hg_ hnew_; clear hg_ hnew_; (first | rw [← dO.out] at eN | (simp only [Int.reduceToNat] at eN; rw [← dO.out] at eN)); replace HO0_0 := aM (Kd.V_elder' (pV HO0_0.out) (Kd.R_base eN) hb); replace HO0_1 := aM (Kd.V_elder' (pV HO0_1.out) (Kd.R_base eN) hb); have bJ := aM (Kd.R_lower (Kd.R_newM (M := fun k_ => (w.heap.size ≤ k_)) eN (below_size (pE HB)) (fun k_ h_ => h_)) (below_size (pE HB))); replace aA := bb aA hb; replace aE := bb aE hb; replace HB := bs HB hb; clear hb eN; obtain ⟨sU, sV, oF⟩ := Kd.R_slice bJ.out; subst oF) | (go_at_call 59; (with_reducible refine (aB7.calls 1 5 _ _ aV true _ ?aT ?aU pY.out).mono ?_); (case aT => exact pC (Kd.R_reads' bJ.out).2.2); (case aU => exact (Kd.R_reads' bJ.out).2.1); rintro e w18 ⟨rfl, hb⟩; replace HO0_0 := vb HO0_0 hb; replace HO0_1 := vb HO0_1 hb; replace bJ := rb bJ hb; replace aA := bb aA hb; replace aE := bb aE hb; replace HB := bs HB hb; (try clear hb); (try clear hb2); (try clear hk); (try clear hi)) | ((with_reducible refine gate_dst (N := 20) rfl ?_); (try (refine gate_guard (by rfl) ?_; dsimp only)); refine Kd.R_lit (Kd.int .i64) _ 3 ?hg (N := 20) ?hd (xs := ([a2] : List Int)) (inner := [.int .i64 a2]) (ok := fun _ => True) (okp := fun _ => True) ?hr ?hp (fun _ hk => hk) trivial (Below.refl _ _) (Nat.le_refl _) (by simp) ?_; (case hd => rfl); (case hg => rfl); (case hr => first | (go_simp; done) | (go_simp; rfl)); (case hp => exact (Reps.one (show Kd.M (Kd.int .i64) _ _ _ a2 [.int .i64 a2] from rfl) (Reps.none _ _))); intro sW w19 eJ hb hg_ hnew_; clear hg_ hnew_; (first | rw [← kD.out] at eJ | (simp only [Int.reduceToNat] at eJ; rw [← kD.out] at eJ)); replace HO0_0 := aM (Kd.V_elder' (pV HO0_0.out) (Kd.R_base eJ) hb); replace HO0_1 := aM (Kd.V_elder' (pV HO0_1.out) (Kd.R_base eJ) hb); have eK := aM (Kd.R_lower (Kd.R_new' (Kd.R_newM (M := fun k_ => (w.heap.size ≤ k_)) eJ (below_size (pE HB)) (fun k_ h_ => h_)) (Kd.R_lt (pR bJ.out))) (below_size (pE HB))); replace bJ := re bJ eJ hb; replace aA := bb aA hb; replace aE := bb aE hb; replace HB := bs HB hb; clear hb eJ; obtain ⟨sX, sY, oG⟩ := Kd.R_slice eK.out; subst oG) | (go_at_call 59; (with_reducible refine (aB7.calls 0 500 _ _ lS fT _ ?aT ?aU sT.out).mono ?_); (case aT => exact pC (Kd.R_reads' eK.out).2.2); (case aU => exact (Kd.R_reads' eK.out).2.1); rintro e w22 ⟨rfl, hb⟩; replace HO0_0 := vb HO0_0 hb; replace HO0_1 := vb HO0_1 hb; replace bJ := rb bJ hb; replace eK := rb eK hb; replace aA := bb aA hb; replace aE := bb aE hb; replace HB := bs HB hb; (try clear hb); (try clear hb2); (try clear hk); (try clear hi)))
  go_meet
  case rel => exact ⟨_, (!fT), (by first | rfl | (simp; done) | (simp [*]; done)), H', ⟨by first | omega | exact Nat.le_refl _⟩, ⟨by (with_reducible repeat (first | apply Kd.V_alloc | apply Kd.V_drewN | apply Kd.V_drew)); exact Kd.V_mono HO0_0.out (fun _ hk => ⟨hk.1.1.1.1, ⟨hk.1.1.1.2, hk.1.1.2⟩⟩)⟩, ⟨by (with_reducible repeat (first | apply Kd.V_alloc | apply Kd.V_drewN | apply Kd.V_drew)); exact Kd.V_mono HO0_1.out (fun _ hk => ⟨hk.1.1.1.1, ⟨hk.1.1.1.2, hk.1.1.2⟩⟩)⟩, ⟨pB aA.out⟩, ⟨pB aE.out⟩, ⟨pE HB⟩⟩
 case rest =>
  clear oD
  try clear c1
  try clear p2
  try clear c6
  try clear c8
  try clear c11
  try clear dU
  try clear kC
  try clear c13
  try clear c19
  try clear kO
  try clear kP
  try clear kQ
  try clear kR
  obtain ⟨kq, eZ, rfl, HA, tC, dV, dW, aA, aE, HB⟩ := hcut
  cases kq with
  | zero => exact absurd HA.out (by simp [aB5.j0])
  | succ kj4 =>
   have H := HA.out
   clear HA
   simp only [aB5.j0] at H
   by_cases c27 : eZ = true
   ·subst c27
    rw [if_pos rfl] at H
    simp only [Option.some.injEq, Prod.mk.injEq] at H
    obtain ⟨rfl, rfl, rfl⟩ := H
    have pZ := bO.out
    have qA := bY.out
    obtain ⟨_, _, _, _⟩ := cf2 aA
    obtain ⟨_, _, _, _⟩ := cf2 aE
    go_wp2
    refine bodyPost_ret (results_ct rfl _ _ aD 99 #[.slice bA aC.length aW, .slice bB aI.length bC] (0, 0) _ rfl (by refine pB ?_; refine blk_put (cs := #[.slice bA aC.length aW, .slice none 0 0]) ?_ 1 _ rfl; refine pB ?_; refine blk_put (cs := #[.slice none 0 0, .slice none 0 0]) ?_ 0 _ rfl; exact pB aE.out) Tryz.underlying99 rfl (by kernel_rfl)) rfl ?_
    exact ⟨_, _, eT, by (with_reducible repeat (first | apply Kd.V_alloc | apply Kd.V_drewN | apply Kd.V_drew)); exact Kd.V_mono (Kd.V_far (p := ⟨aD, 1, none⟩) (Kd.V_far (p := ⟨aD, 0, none⟩) (Kd.V_mono dV.out (fun k_ hk => (⟨hk, hk.2.2⟩ : _ ∧ k_ ≠ aD))) (fun _ hk => hk.2) (.slice bA aC.length aW)) (fun _ hk => hk.2) (.slice bB aI.length bC)) (fun _ hk => hk.1.1), by (with_reducible repeat (first | apply Kd.V_alloc | apply Kd.V_drewN | apply Kd.V_drew)); exact Kd.V_mono (Kd.V_far (p := ⟨aD, 1, none⟩) (Kd.V_far (p := ⟨aD, 0, none⟩) (Kd.V_mono dW.out (fun k_ hk => (⟨hk, hk.2.2⟩ : _ ∧ k_ ≠ aD))) (fun _ hk => hk.2) (.slice bA aC.length aW)) (fun _ hk => hk.2) (.slice bB aI.length bC)) (fun _ hk => hk.1.1), pE HB⟩
   ·replace c27 := Bool.eq_false_iff.mpr c27
    subst c27
    rw [if_neg (show ¬ (false = true) by decide)] at H
    simp only [Option.some.injEq, Prod.mk.injEq] at H
    obtain ⟨rfl, rfl, rfl⟩ := H
    have lB := bO.out
    have lC := bY.out
    obtain ⟨_, _, _, _⟩ := cf2 aA
    obtain ⟨_, _, _, _⟩ := cf2 aE
    go_wp2
    refine bodyPost_ret (results_ct rfl _ _ aD 99 #[.slice bA aC.length aW, .slice bB aI.length bC] (0, 0) _ rfl (by refine pB ?_; refine blk_put (cs := #[.slice bA aC.length aW, .slice none 0 0]) ?_ 1 _ rfl; refine pB ?_; refine blk_put (cs := #[.slice none 0 0, .slice none 0 0]) ?_ 0 _ rfl; exact pB aE.out) Tryz.underlying99 rfl (by kernel_rfl)) rfl ?_
    exact ⟨_, _, eT, by (with_reducible repeat (first | apply Kd.V_alloc | apply Kd.V_drewN | apply Kd.V_drew)); exact Kd.V_mono (Kd.V_far (p := ⟨aD, 1, none⟩) (Kd.V_far (p := ⟨aD, 0, none⟩) (Kd.V_mono dV.out (fun k_ hk => (⟨hk, hk.2.2⟩ : _ ∧ k_ ≠ aD))) (fun _ hk => hk.2) (.slice bA aC.length aW)) (fun _ hk => hk.2) (.slice bB aI.length bC)) (fun _ hk => hk.1.1), by (with_reducible repeat (first | apply Kd.V_alloc | apply Kd.V_drewN | apply Kd.V_drew)); exact Kd.V_mono (Kd.V_far (p := ⟨aD, 1, none⟩) (Kd.V_far (p := ⟨aD, 0, none⟩) (Kd.V_mono dW.out (fun k_ hk => (⟨hk, hk.2.2⟩ : _ ∧ k_ ≠ aD))) (fun _ hk => hk.2) (.slice bA aC.length aW)) (fun _ hk => hk.2) (.slice bB aI.length bC)) (fun _ hk => hk.1.1), pE HB⟩
def aB9.l0 : Nat → Int → List Int → Int → Int → Option (Int)
 | 0, _, _, _, _ => none
 | k + 1, x3, x6, x7, x8 => if x8 < x7 then (if 0 ≤ x8 then (if x8 < (x6.length : Int) then (if (rd x6 x8) = x3 then (aB9.l0 k x3 x6 x7 (wrap64 (x8 + 1))) else (some (rd x6 x8))) else (none)) else (none)) else (some x3)
def aB9.f (k : Nat) (l0 : List Int) : Option (Int) := aB9.l0 k 0 l0 (l0.length : Int) 0
theorem aB9.mono_l : ∀ k, (∀ y0 y1 y2 y3, LeO (aB9.l0 k y0 y1 y2 y3) (aB9.l0 (k + 1) y0 y1 y2 y3))
 | 0 => fun _ _ _ _ r h => by simp [aB9.l0] at h
 | k + 1 => by
  have ih0 := aB9.mono_l k
  ·intro y0 y1 y2 y3
   unfold aB9.l0
   repeat' first
   | (with_reducible exact ih0 _ _ _ _)
   | (with_reducible exact LeO.refl _)
   | (with_reducible exact LeO.none _)
   | (with_reducible refine LeO.ite ?_ ?_)
   | (with_reducible refine LeO.bind ?_ (fun _ => ?_))
   | exact ih0 _ _ _ _
   | exact LeO.none _
   | refine LeO.ite ?_ ?_
   | refine LeO.bind ?_ (fun _ => ?_)
theorem aB9.mono : ∀ a0 k, LeO (aB9.f k a0) (aB9.f (k + 1) a0) := by
 intro a0 k
 have ih0 := aB9.mono_l k
 unfold aB9.f
 repeat' first
   | (with_reducible exact ih0 _ _ _ _)
   | (with_reducible exact LeO.refl _)
   | (with_reducible exact LeO.none _)
   | (with_reducible refine LeO.ite ?_ ?_)
   | (with_reducible refine LeO.bind ?_ (fun _ => ?_))
   | exact ih0 _ _ _ _
   | exact LeO.none _
   | refine LeO.ite ?_ ?_
   | refine LeO.bind ?_ (fun _ => ?_)
set_option maxHeartbeats 8000000 in
set_option maxRecDepth 100000 in
theorem aB9.calls (k : Nat) (A0 : Option Addr) (c0 : Nat) (l0 : List Int) (r : Int) (w : World) (hr0 : Kd.C (Kd.int .i64) w A0 l0.length l0) (hc0 : l0.length ≤ c0) (h : aB9.f k l0 = some r) :
  Calls Tryz.prog 109 #[.slice A0 l0.length c0] w fun e w' => e = .returned (.int .i64 r) ∧ Drawn0 w w' := by
 have HR0 := aM hr0
 have sK := aM hc0
 clear hr0 hc0
 have H : (aB9.l0 k 0 l0 (l0.length : Int) 0) = some r := h
 clear h
 have H' := aM H
 clear H
 go_enter Tryz.func109, Tryz.ntmps109
 go_wp2
 go_loopg [8] k (fun kq v8 w' => ∃ (bM : Int), v8 = .int .i64 bM ∧ Aside0 (aB9.l0 kq 0 l0 (l0.length : Int) bM = some r) ∧ Aside0 (kq ≤ k) ∧ Drawn0 w w')
 case atStart => exact ⟨(0), (by first | rfl | (simp; done) | (simp [*]; done)), H', ⟨Nat.le_refl _⟩, by repeat (first | exact Drawn0.refl _ | apply Drawn0.step)⟩
 case round =>
  clear H'
  try clear c1
  obtain ⟨bM, rfl, HA, fV, ⟨m1, rfl⟩⟩ := hrel
  cases gk with
  | zero => exact absurd HA.out (by simp [aB9.l0])
  | succ k1 =>
   have H := HA.out
   clear HA
   simp only [aB9.l0] at H
   by_cases c2 : bM < (l0.length : Int)
   rotate_left
   ·rw [if_neg c2] at H
    have oH : decide (bM < (l0.length : Int)) = false := decide_eq_false c2
    clear c2
    obtain rfl := Option.some.inj H
    go_wp2
    go_ret
    exact ⟨by first | rfl | (simp; done) | (simp [*]; done), by repeat (first | exact Drawn0.refl _ | apply Drawn0.step)⟩
   rw [if_pos c2] at H
   have oH : decide (bM < (l0.length : Int)) = true := decide_eq_true c2
   clear c2
   by_cases c3 : 0 ≤ bM
   rotate_left
   ·rw [if_neg c3] at H
    exact absurd H (by simp)
   rw [if_pos c3] at H
   have gP : decide (0 ≤ bM) = true := decide_eq_true c3
   clear c3
   by_cases c4 : bM < (l0.length : Int)
   rotate_left
   ·rw [if_neg c4] at H
    exact absurd H (by simp)
   rw [if_pos c4] at H
   have fN : decide (bM < (l0.length : Int)) = true := decide_eq_true c4
   clear c4
   by_cases c5 : (rd l0 bM) = 0
   rotate_left
   ·rw [if_neg c5] at H
    have gQ : ((rd l0 bM) == 0) = false := beq_eq_false_iff_ne.mpr c5
    have oI : ((rd l0 bM) != 0) = true := bne_iff_ne.mpr c5
    obtain rfl := Option.some.inj H
    have bR : 0 ≤ (bM : Int) := dT
    have bS : bM < (l0.length : Int) := dT
    obtain ⟨cZ, eA, dA⟩ := Kd.at_int HR0.out bM bR bS
    cases eA
    replace bR := eq_true bR
    replace bS := eq_true bS
    go_wp2
    go_ret
    exact ⟨by first | rfl | (simp; done) | (simp [*]; done), by repeat (first | exact Drawn0.refl _ | apply Drawn0.step)⟩
   rw [if_pos c5] at H
   have gQ : ((rd l0 bM) == 0) = true := beq_iff_eq.mpr c5
   have oI : ((rd l0 bM) != 0) = false := bne_eq_false_iff_eq.mpr c5
   clear c5
   have H' := aM H
   clear H
   have bR : 0 ≤ (bM : Int) := dT
   have bS : bM < (l0.length : Int) := dT
   obtain ⟨cZ, eA, dA⟩ := Kd.at_int HR0.out bM bR bS
   cases eA
   replace bR := eq_true bR
   replace bS := eq_true bS
   go_wp2
   go_roundg k1
   case measure => have := fV.out; omega
   case rel => exact ⟨(wrap64 (bM + 1)), (by first | rfl | (simp; done) | (simp [*]; done)), H', ⟨by have := fV.out; omega⟩, by repeat (first | exact Drawn0.refl _ | apply Drawn0.step)⟩
mutual
def aB3.l0 : Nat → Int → List (S67) → Int → Int → Int → Int → Int → Int → Option (Int)
 | 0, _, _, _, _, _, _, _, _ => none
 | k + 1, x4, x18, x19, x20, cA, cC, cQ, cR => if x20 < x19 then (if 0 ≤ x20 then (if x20 < (x18.length : Int) then (if ((aA4 x18 x20).f0) = cA then (aB3.j1 k x4 x18 x19 x20 (((aA4 x18 x20).f1) == cC) cA cC cQ cR) else (aB3.j1 k x4 x18 x19 x20 false cA cC cQ cR)) else (none)) else (none)) else (some x4)
def aB3.j1 : Nat → Int → List (S67) → Int → Int → Bool → Int → Int → Int → Int → Option (Int)
 | 0, _, _, _, _, _, _, _, _, _ => none
 | k + 1, x4, x18, x19, x20, x35, cA, cC, cQ, cR => if x35 = true then (aB3.l0 k (wrap64 (x4 + 1)) x18 x19 (wrap64 (x20 + 1)) cA cC cQ cR) else (aB3.l0 k x4 x18 x19 (wrap64 (x20 + 1)) cA cC cQ cR)
end
def aB3.f (k : Nat) (aC : List (S67)) (aI : List Int) (a1 : Int) : Option (Int) := if 0 ≤ a1 then (if a1 < (aC.length : Int) then (if a1 ≤ (aC.length : Int) then ((some (aC.take (a1 : Int).toNat : List (S67))).bind fun aV => (aB3.l0 k 0 aV (aV.length : Int) 0 ((aA4 aC a1).f0) ((aA4 aC a1).f1) ((aA4 aC a1).f2.f0) ((aA4 aC a1).f2.f1))) else (none)) else (none)) else (none)
theorem aB3.mono_l : ∀ k, (∀ y0 y1 y2 y3 y4 y5 y6 y7, LeO (aB3.l0 k y0 y1 y2 y3 y4 y5 y6 y7) (aB3.l0 (k + 1) y0 y1 y2 y3 y4 y5 y6 y7)) ∧ (∀ y0 y1 y2 y3 y4 y5 y6 y7 y8, LeO (aB3.j1 k y0 y1 y2 y3 y4 y5 y6 y7 y8) (aB3.j1 (k + 1) y0 y1 y2 y3 y4 y5 y6 y7 y8))
 | 0 => ⟨fun _ _ _ _ _ _ _ _ r h => by simp [aB3.l0] at h, fun _ _ _ _ _ _ _ _ _ r h => by simp [aB3.j1] at h⟩
 | k + 1 => by
  obtain ⟨ih0, ih1⟩ := aB3.mono_l k
  refine ⟨?_, ?_⟩
  ·intro y0 y1 y2 y3 y4 y5 y6 y7
   unfold aB3.l0
   repeat' first
   | (with_reducible exact ih0 _ _ _ _ _ _ _ _)
   | (with_reducible exact ih1 _ _ _ _ _ _ _ _ _)
   | (with_reducible exact LeO.refl _)
   | (with_reducible exact LeO.none _)
   | (with_reducible refine LeO.ite ?_ ?_)
   | (with_reducible refine LeO.bind ?_ (fun _ => ?_))
   | exact ih0 _ _ _ _ _ _ _ _
   | exact ih1 _ _ _ _ _ _ _ _ _
   | exact LeO.none _
   | refine LeO.ite ?_ ?_
   | refine LeO.bind ?_ (fun _ => ?_)
  ·intro y0 y1 y2 y3 y4 y5 y6 y7 y8
   unfold aB3.j1
   repeat' first
   | (with_reducible exact ih0 _ _ _ _ _ _ _ _)
   | (with_reducible exact ih1 _ _ _ _ _ _ _ _ _)
   | (with_reducible exact LeO.refl _)
   | (with_reducible exact LeO.none _)
   | (with_reducible refine LeO.ite ?_ ?_)
   | (with_reducible refine LeO.bind ?_ (fun _ => ?_))
   | exact ih0 _ _ _ _ _ _ _ _
   | exact ih1 _ _ _ _ _ _ _ _ _
   | exact LeO.none _
   | refine LeO.ite ?_ ?_
   | refine LeO.bind ?_ (fun _ => ?_)
theorem aB3.mono : ∀ a0 a1 a2 k, LeO (aB3.f k a0 a1 a2) (aB3.f (k + 1) a0 a1 a2) := by
 intro a0 a1 a2 k
 obtain ⟨ih0, ih1⟩ := aB3.mono_l k
 unfold aB3.f
 repeat' first
   | (with_reducible exact ih0 _ _ _ _ _ _ _ _)
   | (with_reducible exact ih1 _ _ _ _ _ _ _ _ _)
   | (with_reducible exact LeO.refl _)
   | (with_reducible exact LeO.none _)
   | (with_reducible refine LeO.ite ?_ ?_)
   | (with_reducible refine LeO.bind ?_ (fun _ => ?_))
   | exact ih0 _ _ _ _ _ _ _ _
   | exact ih1 _ _ _ _ _ _ _ _ _
   | exact LeO.none _
   | refine LeO.ite ?_ ?_
   | refine LeO.bind ?_ (fun _ => ?_)
set_option maxHeartbeats 8000000 in
set_option maxRecDepth 100000 in
theorem aB3.calls (k : Nat) (bA : Option Addr) (aW : Nat) (aC : List (S67)) (bB : Option Addr) (bC : Nat) (aI : List Int) (a1 : Int) (r : Int) (w : World) (hr0_0 : Kd.C k67 w bA aC.length aC) (dH : aC.length ≤ aW) (hr0_1 : Kd.C (Kd.int .i64) w bB aI.length aI) (dI : aI.length ≤ bC) (h : aB3.f k aC aI a1 = some r) :
  Calls Tryz.prog 110 #[.agg #[.slice bA aC.length aW, .slice bB aI.length bC], .int .i64 a1] w fun e w' => e = .returned (.int .i64 r) ∧ Below w.heap.size w w' := by
 have hu99 := Tryz.underlying99
 have hu67 := Tryz.underlying67
 have dM := aM hr0_0
 have dS := aM dH
 clear hr0_0 dH
 have eW := aM hr0_1
 have eX := aM dI
 clear hr0_1 dI
 have HB := aM (Below.refl w.heap.size w)
 have H : (if 0 ≤ a1 then (if a1 < (aC.length : Int) then (if a1 ≤ (aC.length : Int) then ((some (aC.take (a1 : Int).toNat : List (S67))).bind fun aV => (aB3.l0 k 0 aV (aV.length : Int) 0 ((aA4 aC a1).f0) ((aA4 aC a1).f1) ((aA4 aC a1).f2.f0) ((aA4 aC a1).f2.f1))) else (none)) else (none)) else (none)) = some r := h
 clear h
 by_cases c3 : 0 ≤ a1
 rotate_left
 ·rw [if_neg c3] at H
  exact absurd H (by simp)
 rw [if_pos c3] at H
 have gP : decide (0 ≤ a1) = true := decide_eq_true c3
 clear c3
 by_cases c4 : a1 < (aC.length : Int)
 rotate_left
 ·rw [if_neg c4] at H
  exact absurd H (by simp)
 rw [if_pos c4] at H
 have fN : decide (a1 < (aC.length : Int)) = true := decide_eq_true c4
 clear c4
 have gQ := eq_true (dT : 0 ≤ a1)
 by_cases c6 : a1 ≤ (aC.length : Int)
 rotate_left
 ·rw [if_neg c6] at H
  exact absurd H (by simp)
 rw [if_pos c6] at H
 have gA := eq_true c6
 have iE : decide (a1 ≤ (aC.length : Int)) = true := decide_eq_true c6
 clear c6
 obtain ⟨aV, dN⟩ : ∃ y_ : List (S67), y_ = (aC.take (a1 : Int).toNat) := ⟨_, rfl⟩
 replace H : (aB3.l0 k 0 aV (aV.length : Int) 0 ((aA4 aC a1).f0) ((aA4 aC a1).f1) ((aA4 aC a1).f2.f0) ((aA4 aC a1).f2.f1)) = some r := yy dN H
 have dO := aM dN
 clear dN
 have H' := aM H
 clear H
 go_enter Tryz.func110, Tryz.ntmps110
 go_wp2_with (first | ((with_reducible refine gate_dst (N := 2) rfl ?_); refine bx 2 #[.slice bA aC.length aW, .slice bB aI.length bC] 99 ?_; intro bE hg w7 hbox hb; have aA := hbox; have cO := gs HB hg; have cP := gs HB hg; replace HB := bs HB hb; clear hb hbox hg; obtain ⟨gU, gV, gW, gX⟩ := cf2 aA; have gY : 0 ≤ (a1 : Int) := dT; have gZ : a1 < (aC.length : Int) := dT; obtain ⟨dX, oJ, dD, dE, dF, dG⟩ := aD4 dM.out a1 gY gZ; cases oJ; replace dD := cut_ HB dD; replace dE := cut_ HB dE; replace dF := cut_ HB dF; replace dG := cut_ HB dG; replace gY := eq_true gY; replace gZ := eq_true gZ) | ((with_reducible refine gate_dst (N := 5) rfl ?_); refine bx 5 #[.int .i64 0, .int .i64 0, .int .i64 0, .int .i64 0] 67 ?_; intro dP hg w9 hbox hb; have bI := hbox; have qB := gs HB hg; have qC := gs HB hg; replace HB := bs HB hb; have cT := nl aA hg; have cU := nr aA hg; replace aA := bb aA hb; clear hb hbox hg; have lM := cU.out; have lN := cT.out; obtain ⟨fA, fB, fC, fD, fE, fF, fG, fH⟩ := cf4 bI) | ((with_reducible refine gate_store (t := 67) (p := 5) rfl ?_); refine store_event (t := 67) (p := 5) (v := ?vo_w12) (w1 := ((((w9.setCell ⟨dP, 0, none⟩ (.int .i64 ((aA4 aC a1).f0))).setCell ⟨dP, 1, none⟩ (.int .i64 ((aA4 aC a1).f1))).setCell ⟨dP, 2, none⟩ (.int .i64 ((aA4 aC a1).f2.f0))).setCell ⟨dP, 3, none⟩ (.int .i64 ((aA4 aC a1).f2.f1)))) ?hg ?ho ?hn ?hr ?_; (case ho => rfl); (case hg => rfl); (case hn => rfl); (case hr => first | (go_simp; done) | (go_simp; rfl)); intro w12 hw; have n0_ : Aside0 (w12.heap[bE]? = some (.cells #[.slice (some dX) aC.length aW, .slice bB aI.length bC] 99 (0, 0))) := ⟨(by rw [hw]; exact (pF aA))⟩; have n1_ : Aside0 (w12.heap[dP]? = some (.cells #[.int .i64 ((aA4 aC a1).f0), .int .i64 ((aA4 aC a1).f1), .int .i64 ((aA4 aC a1).f2.f0), .int .i64 ((aA4 aC a1).f2.f1)] 67 (0, 0))) := ⟨(by rw [hw]; exact (by refine pB ?_; refine blk_put (cs := #[.int .i64 ((aA4 aC a1).f0), .int .i64 ((aA4 aC a1).f1), .int .i64 ((aA4 aC a1).f2.f0), .int .i64 0]) ?_ 3 _ rfl; refine pB ?_; refine blk_put (cs := #[.int .i64 ((aA4 aC a1).f0), .int .i64 ((aA4 aC a1).f1), .int .i64 0, .int .i64 0]) ?_ 2 _ rfl; refine pB ?_; refine blk_put (cs := #[.int .i64 ((aA4 aC a1).f0), .int .i64 0, .int .i64 0, .int .i64 0]) ?_ 1 _ rfl; refine pB ?_; refine blk_put (cs := #[.int .i64 0, .int .i64 0, .int .i64 0, .int .i64 0]) ?_ 0 _ rfl; exact pB bI.out))⟩; have n2_ : Aside0 (Below w.heap.size w w12) := ⟨(by rw [hw]; exact (pE HB))⟩; clear hw; clear aA; clear bI; clear HB; have aA := n0_; have bI := n1_; have HB := n2_; clear n0_ n1_ n2_; obtain ⟨fI, fJ, fK, fL⟩ := cf2 aA; have q14 : (a1 : Int) ≤ ((aC.length : Int) : Int) := dT; obtain ⟨i014, hi014, _, hsz14, _⟩ := info_parts info67; have hroom14 : aC.length ≤ aW := dS.out; have hC14 : Kd.C k67 _ (some dX) aC.length aC := dM.out; have hcut14 := cut_to (P := Tryz.prog) 22 67 .i64 Tryz.underlying22 hi014 (some dX) aC.length aW a1 (dT) q14 hroom14; have hr14 := Kd.C_take (m := (a1 : Int).toNat) hC14 (by omega); have kS : aV.length = (a1 : Int).toNat := (by rw [dO.out, List.length_take]; omega); rw [← dO.out] at hr14; rw [← kS] at hcut14; have HR107 := aM hr14; have qD := aM (show aV.length ≤ aW from by omega); clear hr14 hC14 hroom14 hi014 hsz14; have KY14 := aM kS; clear kS; replace q14 := eq_true q14))
 go_loopg [4, 20] k (fun kq v4 sZ w' => ∃ (fU : Int) (aQ : Int), v4 = .int .i64 fU ∧ sZ = .int .i64 aQ ∧ Aside0 (aB3.l0 kq fU aV (aV.length : Int) aQ ((aA4 aC a1).f0) ((aA4 aC a1).f1) ((aA4 aC a1).f2.f0) ((aA4 aC a1).f2.f1) = some r) ∧ Aside0 (kq ≤ k) ∧ Aside0 (w'.heap[bE]? = some (.cells #[(.slice (some dX) aC.length aW), (.slice bB aI.length bC)] 99 (0, 0))) ∧ Aside0 (w'.heap[dP]? = some (.cells #[.int .i64 ((aA4 aC a1).f0), .int .i64 ((aA4 aC a1).f1), .int .i64 ((aA4 aC a1).f2.f0), .int .i64 ((aA4 aC a1).f2.f1)] 67 (0, 0))) ∧ Aside0 (Below w.heap.size w w'))
 case atStart => exact ⟨(0), (0), (by first | rfl | (simp; done) | (simp [*]; done)), (by first | rfl | (simp; done) | (simp [*]; done)), H', ⟨Nat.le_refl _⟩, ⟨pB aA.out⟩, ⟨pB bI.out⟩, ⟨pE HB⟩⟩
 case round =>
  clear H'
  try clear c1
  try clear p1
  try clear q1
  try clear hx1
  try clear p2
  try clear c3
  try clear gP
  try clear c4
  try clear fN
  try clear c5
  try clear gQ
  try clear c6
  try clear gA
  try clear iE
  try clear c10
  try clear p10
  try clear q10
  try clear hx10
  try clear c11
  try clear q14
  try clear fA
  try clear fB
  try clear fC
  try clear fD
  try clear fI
  try clear fJ
  try clear gU
  try clear gV
  try clear fE
  try clear fF
  try clear fG
  try clear fH
  try clear fK
  try clear fL
  try clear gW
  try clear gX
  try clear dD
  try clear dE
  try clear dF
  try clear dG
  try clear gY
  try clear gZ
  try clear q14
  obtain ⟨fU, aQ, rfl, rfl, HA, fV, aA, bI, HB⟩ := hrel
  cases gk with
  | zero => exact absurd HA.out (by simp [aB3.l0])
  | succ k1 =>
   have H := HA.out
   clear HA
   simp only [aB3.l0] at H
   by_cases c15 : aQ < (aV.length : Int)
   rotate_left
   ·rw [if_neg c15] at H
    have eY : decide (aQ < (aV.length : Int)) = false := decide_eq_false c15
    clear c15
    obtain rfl := Option.some.inj H
    go_wp2
    go_ret
    exact ⟨eT, pE HB⟩
   rw [if_pos c15] at H
   have eY : decide (aQ < (aV.length : Int)) = true := decide_eq_true c15
   clear c15
   by_cases c16 : 0 ≤ aQ
   rotate_left
   ·rw [if_neg c16] at H
    exact absurd H (by simp)
   rw [if_pos c16] at H
   have lT : decide (0 ≤ aQ) = true := decide_eq_true c16
   clear c16
   by_cases c17 : aQ < (aV.length : Int)
   rotate_left
   ·rw [if_neg c17] at H
    exact absurd H (by simp)
   rw [if_pos c17] at H
   have lU : decide (aQ < (aV.length : Int)) = true := decide_eq_true c17
   clear c17
   have kT := aM H
   clear H
   have iK : 0 ≤ (aQ : Int) := dT
   have iL : aQ < (aV.length : Int) := dT
   obtain ⟨lV, oK, eC, eD, eE, eF⟩ := aD4 HR107.out aQ iK iL
   obtain rfl : dX = lV := (by injection oK)
   replace eC := cut_ HB eC
   replace eD := cut_ HB eD
   replace eE := cut_ HB eE
   replace eF := cut_ HB eF
   replace iK := eq_true iK
   replace iL := eq_true iL
   go_upto_region 5 with (first | ((with_reducible refine gate_dst (N := 7) rfl ?_); refine bx 7 #[.int .i64 0, .int .i64 0, .int .i64 0, .int .i64 0] 67 ?_; intro lW hg w19 hbox hb; have dY := hbox; have qE := gs HB hg; have qF := gs HB hg; replace HB := bs HB hb; have cV := nl aA hg; have cW := nr aA hg; replace aA := bb aA hb; have cX := nl bI hg; have cY := nr bI hg; replace bI := bb bI hb; clear hb hbox hg; have qG := cW.out; have qH := cV.out; have qI := cY.out; have qJ := cX.out; obtain ⟨iM, iN, iO, iP, iQ, iR, iS, iT⟩ := cf4 dY))
   (try simp only [Act.put, List.setIfInBounds_toArray, List.set_cons_zero, List.set_cons_succ])
   go_cut [35] (fun v35 wc => ∃ (kq : Nat) (eG : Bool), v35 = .bool eG ∧ Aside0 (aB3.j1 kq fU aV (aV.length : Int) aQ eG ((aA4 aC a1).f0) ((aA4 aC a1).f1) ((aA4 aC a1).f2.f0) ((aA4 aC a1).f2.f1) = some r) ∧ Aside0 (kq ≤ k1) ∧ Aside0 (wc.heap[bE]? = some (.cells #[(.slice (some dX) aC.length aW), (.slice bB aI.length bC)] 99 (0, 0))) ∧ Aside0 (wc.heap[dP]? = some (.cells #[.int .i64 ((aA4 aC a1).f0), .int .i64 ((aA4 aC a1).f1), .int .i64 ((aA4 aC a1).f2.f0), .int .i64 ((aA4 aC a1).f2.f1)] 67 (0, 0))) ∧ Aside0 (wc.heap[lW]? = some (.cells #[.int .i64 ((aA4 aV aQ).f0), .int .i64 ((aA4 aV aQ).f1), .int .i64 ((aA4 aV aQ).f2.f0), .int .i64 ((aA4 aV aQ).f2.f1)] 67 (0, 0))) ∧ Aside0 (Below w.heap.size w wc))
   case first =>
    have H := kT.out
    clear kT
    by_cases c23 : ((aA4 aV aQ).f0) = ((aA4 aC a1).f0)
    rotate_left
    ·rw [if_neg c23] at H
     have dZ : (((aA4 aV aQ).f0) == ((aA4 aC a1).f0)) = false := beq_eq_false_iff_ne.mpr c23
     have kE : (((aA4 aV aQ).f0) != ((aA4 aC a1).f0)) = true := bne_iff_ne.mpr c23
     (first | rw [dZ] | (simp only [i64_w, i32_w]; rw [dZ]) | skip)
     have H' := aM H
     clear H
     have lO := cW.out
     have lP := cV.out
     have kZ := cY.out
     have lA := cX.out
     obtain ⟨iU, iV, iW, iX, iY, iZ, jA, jB⟩ := cf4 dY
     have lD := cU.out
     have lE := cT.out
     obtain ⟨eO, eP, eQ, jC, eR, eS, eU, jD⟩ := cf4 bI
     go_wp2
     go_meet
     case rel => exact ⟨_, (false), (by first | rfl | (simp; done) | (simp [*]; done)), H', ⟨by have := fV.out; first | omega | exact Nat.le_refl _⟩, ⟨pF aA⟩, ⟨pF bI⟩, ⟨by refine pB ?_; refine blk_put (cs := #[.int .i64 ((aA4 aV aQ).f0), .int .i64 ((aA4 aV aQ).f1), .int .i64 ((aA4 aV aQ).f2.f0), .int .i64 0]) ?_ 3 _ rfl; refine pB ?_; refine blk_put (cs := #[.int .i64 ((aA4 aV aQ).f0), .int .i64 ((aA4 aV aQ).f1), .int .i64 0, .int .i64 0]) ?_ 2 _ rfl; refine pB ?_; refine blk_put (cs := #[.int .i64 ((aA4 aV aQ).f0), .int .i64 0, .int .i64 0, .int .i64 0]) ?_ 1 _ rfl; refine pB ?_; refine blk_put (cs := #[.int .i64 0, .int .i64 0, .int .i64 0, .int .i64 0]) ?_ 0 _ rfl; exact pB dY.out⟩, ⟨pE HB⟩⟩
    rw [if_pos c23] at H
    have dZ : (((aA4 aV aQ).f0) == ((aA4 aC a1).f0)) = true := beq_iff_eq.mpr c23
    have kE : (((aA4 aV aQ).f0) != ((aA4 aC a1).f0)) = false := bne_eq_false_iff_eq.mpr c23
    clear c23
    (first | rw [dZ] | (simp only [i64_w, i32_w]; rw [dZ]) | skip)
    have H' := aM H
    clear H
    have qK := cW.out
    have qL := cV.out
    have qM := cY.out
    have qN := cX.out
    obtain ⟨jE, jF, jG, jH, jI, jJ, jK, jL⟩ := cf4 dY
    have qO := cU.out
    have qP := cT.out
    obtain ⟨jM, jN, jO, jP, jQ, jR, jS, jT⟩ := cf4 bI
    go_wp2
    go_meet
    case rel => exact ⟨_, ((((aA4 aV aQ).f1) == ((aA4 aC a1).f1))), (by first | rfl | (simp; done) | (simp [*]; done)), H', ⟨by have := fV.out; first | omega | exact Nat.le_refl _⟩, ⟨pF aA⟩, ⟨pF bI⟩, ⟨by refine pB ?_; refine blk_put (cs := #[.int .i64 ((aA4 aV aQ).f0), .int .i64 ((aA4 aV aQ).f1), .int .i64 ((aA4 aV aQ).f2.f0), .int .i64 0]) ?_ 3 _ rfl; refine pB ?_; refine blk_put (cs := #[.int .i64 ((aA4 aV aQ).f0), .int .i64 ((aA4 aV aQ).f1), .int .i64 0, .int .i64 0]) ?_ 2 _ rfl; refine pB ?_; refine blk_put (cs := #[.int .i64 ((aA4 aV aQ).f0), .int .i64 0, .int .i64 0, .int .i64 0]) ?_ 1 _ rfl; refine pB ?_; refine blk_put (cs := #[.int .i64 0, .int .i64 0, .int .i64 0, .int .i64 0]) ?_ 0 _ rfl; exact pB dY.out⟩, ⟨pE HB⟩⟩
   case rest =>
    clear kT
    try clear c1
    try clear p1
    try clear q1
    try clear hx1
    try clear c2
    try clear p2
    try clear c3
    try clear gP
    try clear c4
    try clear fN
    try clear c5
    try clear gQ
    try clear c6
    try clear gA
    try clear iE
    try clear c10
    try clear p10
    try clear q10
    try clear hx10
    try clear c11
    try clear q14
    try clear c15
    try clear eY
    try clear c16
    try clear lT
    try clear c17
    try clear lU
    try clear c20
    try clear c21
    try clear c23
    try clear dZ
    try clear kE
    try clear c24
    try clear c25
    try clear c27
    try clear c29
    try clear c30
    try clear c32
    try clear fA
    try clear fB
    try clear fC
    try clear fD
    try clear fI
    try clear fJ
    try clear iM
    try clear iN
    try clear iO
    try clear iP
    try clear jE
    try clear jF
    try clear jG
    try clear jH
    try clear jM
    try clear jN
    try clear jO
    try clear jP
    try clear iU
    try clear iV
    try clear iW
    try clear iX
    try clear eO
    try clear eP
    try clear eQ
    try clear jC
    try clear gU
    try clear gV
    try clear fE
    try clear fF
    try clear fG
    try clear fH
    try clear fK
    try clear fL
    try clear iQ
    try clear iR
    try clear iS
    try clear iT
    try clear jI
    try clear jJ
    try clear jK
    try clear jL
    try clear jQ
    try clear jR
    try clear jS
    try clear jT
    try clear iY
    try clear iZ
    try clear jA
    try clear jB
    try clear eR
    try clear eS
    try clear eU
    try clear jD
    try clear gW
    try clear gX
    try clear dD
    try clear dE
    try clear dF
    try clear dG
    try clear eC
    try clear eD
    try clear eE
    try clear eF
    try clear p1
    try clear p10
    try clear gY
    try clear iK
    try clear p2
    try clear q1
    try clear q10
    try clear gZ
    try clear iL
    try clear q14
    obtain ⟨kq, eG, rfl, HA, jU, aA, bI, dY, HB⟩ := hcut
    cases kq with
    | zero => exact absurd HA.out (by simp [aB3.j1])
    | succ kj17 =>
     have H := HA.out
     clear HA
     simp only [aB3.j1] at H
     by_cases c34 : eG = true
     ·subst c34
      rw [if_pos rfl] at H
      have H' := aM H
      clear H
      go_wp2
      go_roundg kj17
      case measure => have := fV.out; have := jU.out; omega
      case rel => exact ⟨(wrap64 (fU + 1)), (wrap64 (aQ + 1)), (by first | rfl | (simp; done) | (simp [*]; done)), (by first | rfl | (simp; done) | (simp [*]; done)), H', ⟨by have := fV.out; have := jU.out; omega⟩, ⟨pB aA.out⟩, ⟨pB bI.out⟩, ⟨pE HB⟩⟩
     replace c34 := Bool.eq_false_iff.mpr c34
     subst c34
     rw [if_neg (show ¬ (false = true) by decide)] at H
     have H' := aM H
     clear H
     go_wp2
     go_roundg kj17
     case measure => have := fV.out; have := jU.out; omega
     case rel => exact ⟨(fU), (wrap64 (aQ + 1)), (by first | rfl | (simp; done) | (simp [*]; done)), (by first | rfl | (simp; done) | (simp [*]; done)), H', ⟨by have := fV.out; have := jU.out; omega⟩, ⟨pB aA.out⟩, ⟨pB bI.out⟩, ⟨pE HB⟩⟩
end Go.Proofs.YtlmglnobdcgbeaaGreat.P
