/- Part 4 of what the law's proof needs: words, walks of functions and plain facts. -/
import Derived.Test.YtlmglnobdcgbeaaGreatE01
import Derived.Test.YtlmglnobdcgbeaaGreatE02
import Derived.Test.YtlmglnobdcgbeaaGreatE03
set_option linter.unusedVariables false
set_option linter.unusedSimpArgs false
namespace Go.Proofs.YtlmglnobdcgbeaaGreat.R
open Go.RowKit Go.Shelf YtlmglnobdcgbeaaGreatW.PrintWords YtlmglnobdcgbeaaGreatW.PrintLast YtlmglnobdcgbeaaGreatW.PrintMore
def last2Ok (ops : Array Oper) (y : Nat) : Bool :=
  ops.size == y + 2 &&
  ((List.range y).all fun i => Region.reachB .any ops i ops.size y && (match ops[i]? with | some o => ((match o.guard with | some (j, _) => j != y && j != y + 1 | none => true) && Op.noDefer o.op) && o.after.all (fun e => decide (e.on < i)) | none => true)) &&
  (match ops[y]?, ops[y + 1]? with | some oy, some oz => oy.guard.isNone && oz.guard.isNone && oy.after.all (fun e => decide (e.on < y)) && oz.after.all (fun e => decide (e.on < y + 1)) && oz.after.any (fun e => Region.binds .any e && e.on == y) | _, _ => false)
theorem anyIn_last2 {F : Fence} {n : Nat} {P : Program} {ops : Array Oper} {y : Nat} {oy oz : Oper} {Q : Exit → Act → World → Prop} (hF : Lifts F) (hFf : ∀ f, F.fn f) (hy : ops[y]? = some oy) (hz : ops[y + 1]? = some oz) (hok : last2Ok ops y = true)
    (ops' : Array Oper) (hs : ops'.size = ops.size) (hops : ∀ i, i < y → ops'[i]? = ops[i]?) (hyb : ops'[y]? = some (blank oy)) (hzb : ops'[y + 1]? = some (blank oz))
    (Q' : Exit → Act → World → Prop) (hQ' : ∀ a w, Q' .normal a w → oy.wpIn F n P a w (fun a w => oz.wpIn F n P a w (Q .normal) Q) Q) (hQp : ∀ c a w, Q' (.panic c) a w → Q (.panic c) a w) (hQ'o : ¬ LetsOut Q') :
    ∀ (fuel : Nat) (listed : Array Bool) (a : Act) (w : World), listed.size = ops.size → ListedClosed .any ops listed → listed.getD y true = false →
      wpAny P .any ops' Q' fuel listed a w → wpAnyIn F n P .any ops Q fuel listed a w := by
  unfold last2Ok at hok
  rw [hy, hz] at hok
  simp only [Bool.and_eq_true, beq_iff_eq] at hok
  obtain ⟨⟨hsize, hpre⟩, ⟨⟨⟨hgy, hgz⟩, hony⟩, honz⟩, hbind⟩ := hok
  have hgy' : oy.guard = none := by simpa using hgy
  have hgz' : oz.guard = none := by simpa using hgz
  have hylt : y < ops.size := by omega
  have hzlt : y + 1 < ops.size := by omega
  have hr : ∀ listed, Region.ready .any ops' listed = Region.ready .any ops listed := by
    intro listed
    unfold Region.ready
    rw [hs]
    refine List.filter_congr fun i hi => ?_
    have hi' := List.mem_range.1 hi
    rcases Nat.lt_trichotomy i y with e | e | e
    · rw [hops i e]
    · subst e; rw [hyb, hy]; rfl
    · obtain rfl : i = y + 1 := by omega
      rw [hzb, hz]; rfl
  have hpre' : ∀ i, i < y → ∀ o, ops[i]? = some o → Region.reachB .any ops i ops.size y = true ∧ (∀ j b, o.guard = some (j, b) → j ≠ y ∧ j ≠ y + 1) ∧ Op.noDefer o.op = true ∧ ∀ e ∈ o.after, e.on < i := fun i hi o ho => by
    have := List.all_eq_true.1 hpre i (List.mem_range.2 hi)
    simp only [Bool.and_eq_true, ho] at this
    refine ⟨this.1, fun j b hgo => ?_, this.2.1.2, fun e he => of_decide_eq_true (Array.all_eq_true_iff_forall_mem.1 this.2.2 e he)⟩
    have h1 := this.2.1.1
    rw [hgo] at h1
    simpa using h1
  have hon : ∀ (i : Nat) (o : Oper), ops[i]? = some o → ∀ e ∈ o.after, e.on < i := fun i o ho e he => by
    rcases Nat.lt_trichotomy i y with h | h | h
    · exact (hpre' i h o ho).2.2.2 e he
    · subst h; rw [hy] at ho; cases ho; exact of_decide_eq_true (Array.all_eq_true_iff_forall_mem.1 hony e he)
    · have := (Array.getElem?_eq_some_iff.1 ho).1
      obtain rfl : i = y + 1 := by omega
      rw [hz] at ho; cases ho; exact of_decide_eq_true (Array.all_eq_true_iff_forall_mem.1 honz e he)
  have hyield : ∀ (t : Array Value) j, j < y → yielded ops' t j = yielded ops t j := fun t j hj => by unfold yielded; rw [hops j hj]
  have hwant : ∀ (i : Nat) (o : Oper) (t : Array Value), i < y → ops[i]? = some o → Region.wanted o (yielded ops' t) = Region.wanted o (yielded ops t) := fun i o t hi ho => by
    unfold Region.wanted
    cases hgo : o.guard with
    | none => rfl
    | some p =>
      obtain ⟨j, b⟩ := p
      obtain ⟨g1, g2⟩ := (hpre' i hi o ho).2.1 j b hgo
      simp only []
      by_cases hj : j < y
      · rw [hyield t j hj]
      · have hj2 : ops[j]? = none := Array.getElem?_eq_none (by omega)
        have hj3 : ops'[j]? = none := Array.getElem?_eq_none (by omega)
        unfold yielded
        rw [hj2, hj3]
  obtain ⟨ez, hez, hez2⟩ := Array.any_eq_true'.1 hbind
  simp only [Bool.and_eq_true, beq_iff_eq] at hez2
  have hz_not : ∀ listed : Array Bool, listed.size = ops.size → listed.getD y true = false → y + 1 ∉ Region.ready .any ops listed := fun listed hsz hyl hm => by
    obtain ⟨_, o, ho, hall⟩ := mem_ready.1 hm
    rw [hz] at ho
    cases ho
    have := hall ez hez hez2.1
    rw [hez2.2] at this
    have hb : y < listed.size := by omega
    simp only [Array.getD, hb, dif_pos] at this hyl
    rw [this] at hyl; cases hyl
  have hdone : ∀ fuel (listed : Array Bool) a w, Region.ready .any ops listed = [] → Q .normal a w → wpAnyIn F n P .any ops Q fuel listed a w := by
    intro fuel listed a w h0 hq
    cases fuel with
    | zero => exact ⟨h0, hq⟩
    | succ k => exact ⟨fun _ => hq, by rw [h0]; simp⟩
  have hafter : ∀ listed : Array Bool, listed.size = ops.size → ListedClosed .any ops listed → listed.getD y true = false → y ∈ Region.ready .any ops listed →
      y + 1 ∈ Region.ready .any ops (listed.setIfInBounds y true) ∧ (∀ i ∈ Region.ready .any ops (listed.setIfInBounds y true), i = y + 1) ∧ Region.ready .any ops ((listed.setIfInBounds y true).setIfInBounds (y + 1) true) = [] := by
    intro listed hsz hc hyl hm
    have hc' := ListedClosed.set hc hm
    have hyl2 : (listed.setIfInBounds y true).getD y false = true := by simp [Array.getD, hsz, hylt]
    have hil : ∀ i, i ≤ y → (listed.setIfInBounds y true).getD i false = true := fun i hi => by
      by_cases e : i = y
      · subst e; exact hyl2
      · exact Region.reach_listed hc' ops.size y (hpre' i (by omega) ops[i] (Array.getElem?_eq_getElem (by omega))).1 hyl2
    have hgd : ∀ (L : Array Bool) i, L.size = ops.size → i < ops.size → L.getD i false = true → L.getD i true = true := fun L i hL hi h => by
      have hb : i < L.size := by omega
      simp only [Array.getD, hb, dif_pos] at h ⊢
      exact h
    have hznl : (listed.setIfInBounds y true).getD (y + 1) true = false := by
      rw [getD_set_ne true (by omega)]
      have hb : y + 1 < listed.size := by omega
      refine Bool.eq_false_iff.2 fun h => ?_
      have h' : listed.getD (y + 1) false = true := by simp only [Array.getD, hb, dif_pos] at h ⊢; exact h
      have hcl := hc (y + 1) oz hz h' ez hez hez2.1
      rw [hez2.2] at hcl
      have hb2 : y < listed.size := by omega
      simp only [Array.getD, hb2, dif_pos] at hcl hyl
      rw [hcl] at hyl; cases hyl
    have hmem : y + 1 ∈ Region.ready .any ops (listed.setIfInBounds y true) := mem_ready.2 ⟨hznl, oz, hz, fun e he _ => by
      have h1 : e.on < y + 1 := of_decide_eq_true (Array.all_eq_true_iff_forall_mem.1 honz e he)
      exact hil e.on (by omega)⟩
    refine ⟨hmem, fun i hi => ?_, ?_⟩
    · obtain ⟨h1, o, ho, _⟩ := mem_ready.1 hi
      have hlt := (Array.getElem?_eq_some_iff.1 ho).1
      by_cases e : i ≤ y
      · rw [hgd _ i (by simp [hsz]) hlt (hil i e)] at h1; cases h1
      · omega
    · refine List.eq_nil_iff_forall_not_mem.2 fun i hi => ?_
      obtain ⟨h1, o, ho, _⟩ := mem_ready.1 hi
      have hlt := (Array.getElem?_eq_some_iff.1 ho).1
      by_cases e : i = y + 1
      · subst e
        have : ((listed.setIfInBounds y true).setIfInBounds (y + 1) true).getD (y + 1) true = true := by simp [Array.getD]
        rw [this] at h1; cases h1
      · rw [getD_set_ne true (by omega)] at h1
        rw [hgd _ i (by simp [hsz]) hlt (hil i (by omega))] at h1; cases h1
  intro fuel
  induction fuel with
  | zero =>
    intro listed a w hsz hc hyl h
    exact (anyIn_last_absurd hon hylt hsz hyl ((hr listed).symm.trans h.1)).elim
  | succ fuel ih =>
    intro listed a w hsz hc hyl h
    refine ⟨fun h0 => (anyIn_last_absurd hon hylt hsz hyl h0).elim, fun i hi => ?_⟩
    have h1 := h.2 i (by rw [hr]; exact hi)
    have hilt : i < ops.size := by obtain ⟨_, o, ho, _⟩ := mem_ready.1 hi; exact (Array.getElem?_eq_some_iff.1 ho).1
    have hnz : i ≠ y + 1 := fun e => by subst e; exact hz_not listed hsz hyl hi
    by_cases e : i = y
    · subst e
      obtain ⟨g1, g2, g3⟩ := hafter listed hsz hc hyl hi
      unfold wpOp at h1
      unfold wpOpIn
      rw [hyb] at h1
      rw [hy]
      simp only [] at h1 ⊢
      have hw : Region.wanted oy (yielded ops a.tmps) = true := by unfold Region.wanted; rw [hgy']
      have hw' : Region.wanted (blank oy) (yielded ops' a.tmps) = true := rfl
      rw [if_pos hw]
      rw [if_pos hw'] at h1
      rcases h1 with h1 | h1
      · have h2 : wpAny P .any ops' Q' fuel (listed.setIfInBounds i true) a w := h1
        cases fuel with
        | zero =>
          have := h2.1
          rw [hr] at this
          rw [this] at g1; cases g1
        | succ k =>
          have h3 := h2.2 (i + 1) (by rw [hr]; exact g1)
          unfold wpOp at h3
          rw [hzb] at h3
          simp only [] at h3
          have hw2 : Region.wanted (blank oz) (yielded ops' a.tmps) = true := rfl
          rw [if_pos hw2] at h3
          rcases h3 with h3 | h3
          · have h4 : wpAny P .any ops' Q' k ((listed.setIfInBounds i true).setIfInBounds (i + 1) true) a w := h3
            have hq : Q' .normal a w := by
              cases k with
              | zero => exact h4.2
              | succ k => exact h4.1 (by rw [hr]; exact g3)
            refine Oper.wpIn_mono (fun a w hq => ?_) (hQ' a w hq)
            refine ⟨fun h0 => (by rw [h0] at g1; cases g1), fun j hj => ?_⟩
            obtain rfl := g2 j hj
            unfold wpOpIn
            rw [hz]
            simp only []
            have hw3 : Region.wanted oz (yielded ops a.tmps) = true := by unfold Region.wanted; rw [hgz']
            rw [if_pos hw3]
            exact Oper.wpIn_mono (fun a w hq => hdone _ _ a w g3 hq) hq
          · exact absurd h3.2 hQ'o
      · exact absurd h1.2 hQ'o
    · have hiy : i < y := by omega
      unfold wpOp at h1
      unfold wpOpIn
      rw [hops i hiy] at h1
      cases ho : ops[i]? with
      | none =>
        obtain ⟨oi, hoi, _⟩ := (mem_ready.1 hi).2
        rw [ho] at hoi; cases hoi
      | some o =>
        rw [ho] at h1
        simp only [] at h1 ⊢
        have hnext : ∀ a w, wpAny P .any ops' Q' fuel (listed.setIfInBounds i true) a w → wpAnyIn F n P .any ops Q fuel (listed.setIfInBounds i true) a w := fun a w h => by
          refine ih _ a w (by simp [hsz]) (ListedClosed.set hc hi) ?_ h
          rw [getD_set_ne true e]; exact hyl
        by_cases hw : Region.wanted o (yielded ops a.tmps) = true
        · rw [if_pos hw]
          rw [hwant i o a.tmps hiy ho, if_pos hw] at h1
          rcases h1 with h1 | h1
          · have h2 : o.wpIn F n P a w (wpAnyIn F n P .any ops Q fuel (listed.setIfInBounds i true)) Q' := hF n P o a w _ _ Q' (hpre' i hiy o ho).2.2.1 hnext h1
            exact oper_panic_mono hQp hQ'o h2
          · exact absurd h1.2 hQ'o
        · rw [if_neg hw]
          rw [hwant i o a.tmps hiy ho, if_neg hw] at h1
          exact ⟨fun f _ => hFf f, hnext _ _ h1⟩
theorem quiet_blank {P : Program} {ops : Array Oper} {C : World → Prop} {Q : Act → Prop} {rest : List Oper} {a : Act} {o : Oper} (h : wpQuiet P ops C Q rest a) : wpQuiet P ops C Q (blank o :: rest) a := by
  unfold wpQuiet
  have hw : Region.wanted (blank o) (yielded ops a.tmps) = true := rfl
  rw [if_pos hw]
  refine ⟨.bool true, fun w hw => ?_, h⟩
  unfold Oper.quietAt
  exact ⟨rfl, rfl⟩
theorem oper_not {P : Program} {o : Oper} {a : Act} {w : World} {K : Act → World → Prop} {Q : Exit → Act → World → Prop} {x : Operand} {t : TypeId} {b : Bool} (ho : o.op = .unOp .not t x) (hx : a.eval x = .bool b) (h : K (a.put o.dst (.bool (!b))) w) : o.wp P a w K Q := by
  unfold Oper.wp
  have e : (execOp a.eval o).run P w = .ok (.value (.bool (!b))) w := by
    unfold execOp
    rw [ho]
    simp only []
    rw [hx]
    first | rfl | simp [go_sem]
  rw [e]
  exact h
theorem quiet_last2_ {F : Fence} {n0 id y : Nat} {P : Program} {l : List Oper} {oy oz : Oper} {Q : Exit → Act → World → Prop} {a : Act} {w : World} (Qn : Act → World → Prop)
    (hF : Lifts F) (hFf : ∀ f, F.fn f) (hm : P.follows .mixedOrders = true) (hy : l.toArray[y]? = some oy) (hz : l.toArray[y + 1]? = some oz) (hok : last2Ok l.toArray y = true)
    (hB : Region.lexB .any (l.take y ++ [blank oy, blank oz]).toArray = true)
    (hQn : ∀ a w, Qn a w → oy.wpIn F n0 P a w (fun a w => oz.wpIn F n0 P a w (Q .normal) Q) Q)
    (h : wpQuiet P (l.take y ++ [blank oy, blank oz]).toArray (fun w' => ∃ n, w' = w.drewN n) (fun a' => ∀ w', (∃ n, w' = w.drewN n) → Qn a' w') (l.take y ++ [blank oy, blank oz]) a) : (Code.region id l.toArray true).wpIn F n0 P Q a w := by
  obtain ⟨ops', hops'⟩ : ∃ x, x = (l.take y ++ [blank oy, blank oz]).toArray := ⟨_, rfl⟩
  have hzl := (Array.getElem?_eq_some_iff.1 hz).1
  have hsize : l.toArray.size = y + 2 := by
    unfold last2Ok at hok
    simp only [Bool.and_eq_true, beq_iff_eq] at hok
    exact hok.1.1
  simp only [List.size_toArray] at hsize hzl
  have hsz : ops'.size = l.toArray.size := by subst hops'; simp; omega
  have hB' := hB
  simp only [Region.lexB, Bool.and_eq_true] at hB'
  have hq : wpAny P .any ops' (Exit.then Qn (fun _ _ _ => False)) ops'.size (Array.replicate ops'.size false) a w.drew := by
    refine wpAny_of_quiet (C := fun w' => ∃ n, w' = w.drewN n) (Q := fun a' => ∀ w', (∃ n, w' = w.drewN n) → Qn a' w') (fun _ w' hw' h => h w' hw') _ _ _ _ ⟨1, rfl⟩ ?_
    subst hops'
    have := wpAnyQ_lex (C := fun w' => ∃ n, w' = w.drewN n) (md := .any) hB'.1 _ 0 (Array.replicate (l.take y ++ [blank oy, blank oz]).toArray.size false) a (by simp) (by simpa using hB'.2) h
    simpa using this
  refine wpIn_region_any hm (anyIn_last2 (y := y) (oy := oy) (oz := oz) hF hFf hy hz hok ops' hsz (fun i hi => ?_) ?_ ?_ (Exit.then Qn (fun _ _ _ => False)) (fun a w h => hQn a w h) (fun c a w h => h.elim) (fun ⟨_, _, h⟩ => h.elim) _ _ _ _ (by simp) ?_ (by simp [Array.getD]; omega) (by rw [hsz] at hq; exact hq))
  · subst hops'
    simp only [List.getElem?_toArray]
    rw [List.getElem?_append_left (by simp; omega), List.getElem?_take_of_lt hi]
  · subst hops'
    simp only [List.getElem?_toArray]
    rw [List.getElem?_append_right (by simp; omega)]
    have : (List.take y l).length = y := by simp; omega
    rw [this]; simp
  · subst hops'
    simp only [List.getElem?_toArray]
    rw [List.getElem?_append_right (by simp; omega)]
    have : (List.take y l).length = y := by simp; omega
    rw [this]; simp
  · intro j oj hj hl
    have h0 : (Array.replicate l.toArray.size false).getD j false = false := by
      unfold Array.getD
      split
      · exact Array.getElem_replicate ..
      · rfl
    rw [h0] at hl; cases hl
theorem IStep.widen {B lo c lo' c' : Nat} {X Y : World} (h : IStep B lo c X Y) (h1 : lo' ≤ lo) (h2 : lo + c ≤ lo' + c') : IStep B lo' c' X Y :=
  ⟨h.os, h.tape, h.output, h.size, fun k o ho h3 h4 => h.same k o ho (fun h5 => h3 (by omega)) h4⟩
theorem RKeep.istep_ {n₀ : Nat} {Ex : Nat → Prop} {B : Nat} {E : Nat → Prop} {X Y Z : World} {b lo c : Nat} (h : RKeep n₀ Ex B E X Y) (k : IStep b lo c Y Z) (hb : X.heap.size ≤ b) (hlo : X.heap.size ≤ lo) : RKeep n₀ Ex B E X Z := by
  have key : ∀ j, j < X.heap.size → ∀ o, Y.heap[j]? = some o → Z.heap[j]? = some o := fun j hj o ho => k.same j o ho (fun h3 => by omega) (fun h3 => by omega)
  have ex : ∀ j, j < X.heap.size → Y.heap[j]? = Z.heap[j]? := fun j hj => by
    have hy : j < Y.heap.size := Nat.lt_of_lt_of_le hj h.size
    rw [key j hj _ (Array.getElem?_eq_getElem hy), Array.getElem?_eq_getElem hy]
  exact ⟨Nat.le_trans h.size k.size, fun j hj h1 => (ex j hj).symm.trans (h.same j hj h1), fun j o hB ho hc => key j (Array.getElem?_eq_some_iff.1 ho).1 o (h.book j o hB ho hc)⟩
end Go.Proofs.YtlmglnobdcgbeaaGreat.R
namespace Go.Proofs.YtlmglnobdcgbeaaGreat.P
open Go.RowKit Go.Proofs.YtlmglnobdcgbeaaGreatW.PrintWords Go.Proofs.YtlmglnobdcgbeaaGreatW.PrintLast Go.Proofs.YtlmglnobdcgbeaaGreatW.PrintMore
attribute [local go_sem] max2_int min2_int max_two min_two max_three min_three max_four min_four
def turn_high.f (a0_0 : Int) (a0_1 : Int) : Option (Int) := some a0_1
set_option maxHeartbeats 8000000 in
set_option maxRecDepth 100000 in
theorem turn_high.calls (a0_0 : Int) (a0_1 : Int) (r : Int) (w : World) (h : turn_high.f a0_0 a0_1 = some r) :
  Calls Tryz.prog 67 #[.agg #[.int .i64 a0_0, .int .i64 a0_1]] w fun e w' => e = .returned (.int .i64 r) ∧ Below w.heap.size w w' := by
 have hu42 := Tryz.underlying42
 have HB := Aside0.mk (Below.refl w.heap.size w)
 have H : (some a0_1) = some r := h
 clear h
 obtain rfl := Option.some.inj H
 go_enter Tryz.func67, Tryz.ntmps67
 go_wp2_with (first | ((with_reducible refine gate_dst (N := 1) rfl ?_); refine bx 1 #[.int .i64 a0_0, .int .i64 a0_1] 42 ?_; intro gb101 hg w2 hbox hb; have BK101 := hbox; have GW101 := gs HB hg; have GE101 := gs HB hg; replace HB := bs HB hb; clear hb hbox hg; obtain ⟨_, _, _, _⟩ := cf2 BK101))
 go_ret
 exact ⟨eT, pE HB⟩
def turn_low.f (a0_0 : Int) (a0_1 : Int) : Option (Int) := some a0_0
set_option maxHeartbeats 8000000 in
set_option maxRecDepth 100000 in
theorem turn_low.calls (a0_0 : Int) (a0_1 : Int) (r : Int) (w : World) (h : turn_low.f a0_0 a0_1 = some r) :
  Calls Tryz.prog 66 #[.agg #[.int .i64 a0_0, .int .i64 a0_1]] w fun e w' => e = .returned (.int .i64 r) ∧ Below w.heap.size w w' := by
 have hu42 := Tryz.underlying42
 have HB := Aside0.mk (Below.refl w.heap.size w)
 have H : (some a0_0) = some r := h
 clear h
 obtain rfl := Option.some.inj H
 go_enter Tryz.func66, Tryz.ntmps66
 go_wp2_with (first | ((with_reducible refine gate_dst (N := 1) rfl ?_); refine bx 1 #[.int .i64 a0_0, .int .i64 a0_1] 42 ?_; intro gb101 hg w2 hbox hb; have BK101 := hbox; have GW101 := gs HB hg; have GE101 := gs HB hg; replace HB := bs HB hb; clear hb hbox hg; obtain ⟨_, _, _, _⟩ := cf2 BK101))
 go_ret
 exact ⟨eT, pE HB⟩
end Go.Proofs.YtlmglnobdcgbeaaGreat.P
namespace Go.Proofs.YtlmglnobdcgbeaaGreat.P
open Go.RowKit Go.Shelf Go.Proofs.YtlmglnobdcgbeaaGreatW.PrintWords Go.Proofs.YtlmglnobdcgbeaaGreatW.PrintLast Go.Proofs.YtlmglnobdcgbeaaGreatW.PrintMore Go.Proofs.YtlmglnobdcgbeaaGreat.R
def lowF (x y : Int) : Int := x
def highF (x y : Int) : Int := y
theorem high_calls (x y : Int) (W : World) : Calls Tryz.prog 67 #[.agg #[.int .i64 x, .int .i64 y]] W fun e w' => e = .returned (.int .i64 (highF x y)) ∧ Below W.heap.size W w' := turn_high.calls x y y W rfl
theorem low_calls (x y : Int) (W : World) : Calls Tryz.prog 66 #[.agg #[.int .i64 x, .int .i64 y]] W fun e w' => e = .returned (.int .i64 (lowF x y)) ∧ Below W.heap.size W w' := turn_low.calls x y x W rfl
def waitT (cl : List S67) (t : Int × Int × Int) : Int × Int := (t.1, wrap64 (t.2.1 - (rd_T67 cl t.1).f1))
def RvW (x : Int × Int) (vs : Array Value) (W : World) : Prop := vs = #[.int .i64 x.1, .int .i64 x.2]
structure CapW (B1 B2 B3 : Nat) (m : Nat) (A2 : Option Addr) (c2 : Nat) (ord : List Int) (A3 : Option Addr) (c3 : Nat) (cl : List S67) (A4 : Option Addr) (c4 : Nat) (rk : List Int) (W : World) : Prop where
  b1 : W.heap[B1]? = some (.cells #[.slice A3 cl.length c3, .slice A4 rk.length c4] 99 (0, 0))
  b2 : W.heap[B2]? = some (.cells #[.slice A2 ord.length c2] 23 (0, 0))
  b3 : W.heap[B3]? = some (.cells #[.int .i64 (m : Int)] 3 (0, 0))
  r2 : Kd.C (Kd.int .i64) W A2 ord.length ord
  r3 : Kd.C k67 W A3 cl.length cl
theorem box_event_sz {P : Program} {ops : Array Oper} {rest : List Oper} {o : Oper} {a : Act} {Q : Exit → Act → World → Prop} {W : World} (hgd : o.guard = none) {N : Tmp} (_hd : o.dst = some N) {cs : Array Value} {t : TypeId}
    (hrun : (execOp a.eval o).run P W = .ok (.value (.pointer (some ⟨W.heap.size, 0, none⟩))) (W.alloc (.cells cs t (0, 0))))
    (h : ∀ w1, w1.heap.size = W.heap.size + 1 → w1.heap[W.heap.size]? = some (.cells cs t (0, 0)) → Below W.heap.size W w1 → wpList P ops Q rest (a.put o.dst (.pointer (some ⟨W.heap.size, 0, none⟩))) w1) : wpList P ops Q (o :: rest) a W :=
  Kd.event_run hgd hrun (h _ (World.size_alloc _ _) (blk_new W _) (below_alloc (Below.refl _ _) _))
set_option maxHeartbeats 16000000 in
set_option maxRecDepth 100000 in
theorem waits_iter (B1 B2 B3 m : Nat) (A2 : Option Addr) (c2 : Nat) (ord : List Int) (A3 : Option Addr) (c3 : Nat) (cl : List S67) (A4 : Option Addr) (c4 : Nat) (rk : List Int) (n : Nat) (w : World) (Ex : Nat → Prop)
    (hm : 1 ≤ m) (hm2 : m ≤ 1000) (hin : ∀ x ∈ ord, 0 ≤ x ∧ x < (cl.length : Int))
    (hC : ∀ W', w.heap.size ≤ W'.heap.size → (∀ k, k < w.heap.size → ¬ Ex k → W'.heap[k]? = w.heap[k]?) → CapW B1 B2 B3 m A2 c2 ord A3 c3 cl A4 c4 rk W') :
    IterC Fence.wide n Tryz.prog 101 #[.pointer (some ⟨B1, 0, none⟩), .pointer (some ⟨B2, 0, none⟩), .pointer (some ⟨B3, 0, none⟩)] ((runT highF cl (List.replicate m 0) ord).map (waitT cl)) RvW Ex 8 (fun _ => True) w := by
  intro l J Jx W hW hJ hJx hY h0
  have hcap := hC W hW.size (fun k hk _ => hW.block k hk)
  have hB1l := (Array.getElem?_eq_some_iff.1 hcap.b1).1
  have hB2l := (Array.getElem?_eq_some_iff.1 hcap.b2).1
  have hB3l := (Array.getElem?_eq_some_iff.1 hcap.b3).1
  have HCAP := Aside0.mk hcap
  have HC := Aside0.mk hC
  have HJ := Aside0.mk hJ
  have HJx := Aside0.mk hJx
  have HY := Aside0.mk hY
  have HW := Aside0.mk hW
  have HIN := Aside0.mk hin
  have H0 := Aside0.mk h0
  have hsw := hW.size
  clear hC hJ hJx hY hcap hW hin h0
  have hu1 := Tryz.underlying99
  have hu2 := Tryz.underlying25
  refine callsIn_of_wp_marks Tryz.func101 rfl trivial ?_ rfl
  simp only [Tryz.ntmps101, List.size_toArray, List.length_cons, List.length_nil, Nat.reduceAdd, Nat.reduceSub, Array.replicate_succ, Array.replicate_zero, List.push_toArray, List.append_toArray, List.nil_append, List.cons_append]
  go_wp2_with (first
    | ((with_reducible refine gate_dst (N := 4) rfl ?_); refine box_event_sz ?hg (N := 4) ?hd (cs := #[.func (.yield l) #[] #[]]) (t := 138) ?hr ?_; (case hd => rfl); (case hg => rfl); (case hr => first | (go_simp; done) | (go_simp; rfl)); intro w1 hs1 hbox hb1
       have hz1 : w1.cell? ⟨B1, 0, none⟩ = some (.slice A3 cl.length c3) := (blk_cell ((hb1.block B1 hB1l).trans HCAP.out.b1) 0).trans rfl
       have hz2 : w1.cell? ⟨B1, 1, none⟩ = some (.slice A4 rk.length c4) := (blk_cell ((hb1.block B1 hB1l).trans HCAP.out.b1) 1).trans rfl
       have hz3 : w1.cell? ⟨B2, 0, none⟩ = some (.slice A2 ord.length c2) := (blk_cell ((hb1.block B2 hB2l).trans HCAP.out.b2) 0).trans rfl
       have hz4 : w1.cell? ⟨B3, 0, none⟩ = some (.int .i64 (m : Int)) := (blk_cell ((hb1.block B3 hB3l).trans HCAP.out.b3) 0).trans rfl)
    | ((with_reducible refine gate_callee (f := 65) rfl ?_); refine goesL_ (some 9) rfl rfl Tryz.func65 (by kernel_rfl) rfl #[.agg #[.slice A3 cl.length c3, .slice A4 rk.length c4], .slice A2 ord.length c2, .int .i64 (m : Int), .func (.func 67) #[] #[]] rfl (by (try simp only [List.map_toArray, List.map_cons, List.map_nil]); first | done | rfl) ?_
       refine (turns_calls A3 cl.length c3 A4 rk.length c4 A2 ord.length c2 (m : Int) 67 w1).mono ?_; rintro e w5 ⟨rfl, hw5⟩; refine ⟨_, rfl, ?_⟩)
    | (with_reducible refine regW_lit_ ?_) | gi_step)
  simp only [Act.put, List.setIfInBounds_toArray, List.set_cons_zero, List.set_cons_succ]
  obtain ⟨q1, q2, q3, q4, q5, q6⟩ := four_alloc w1 (.cells #[.slice A3 cl.length c3, .slice A4 rk.length c4] 99) (.cells #[.slice A2 ord.length c2] 23) (.cells #[.int .i64 (m : Int)] 3) (.cells #[.func (.func 67) #[] #[]] 135)
  rw [← hw5] at q1 q2 q3 q4 q5 q6
  clear hw5 hz1 hz2 hz3 hz4
  obtain ⟨b0, hb0⟩ : ∃ b0, W.heap.size = b0 := ⟨_, rfl⟩
  rw [hb0] at hs1
  have e1 : w1.heap.size = b0 + 1 := hs1
  rw [e1] at q2 q3 q4 q5 q6
  have hbox5 : w5.heap[b0]? = some (.cells #[.func (.yield l) #[] #[]] 138 (0, 0)) := by rw [hb0] at hbox; exact (q1.block b0 (by omega)).trans hbox
  have hb5 : Below b0 W w5 := by rw [hb0] at hb1; exact hb1.trans (q1.mono (by omega))
  clear hbox hb1 q1
  obtain ⟨Ex5, hEx5⟩ : ∃ Ex5 : Nat → Prop, Ex5 = fun k => ¬ (k < w.heap.size ∧ ¬ Ex k ∨ b0 ≤ k) := ⟨_, rfl⟩
  have hcapw : ∀ W', RKeep w.heap.size Ex b0 (fun _ => True) w5 W' → CapW B1 B2 B3 m A2 c2 ord A3 c3 cl A4 c4 rk W' := fun W' hk =>
    HC.out W' (by have := hk.size; omega) (fun k hk0 hx => (hk.same k (by omega) (.inl ⟨hk0, hx⟩)).trans ((hb5.block k (by omega)).trans (HW.out.block k hk0)))
  have hcap5 : ∀ W', w5.heap.size ≤ W'.heap.size → (∀ k, k < w5.heap.size → ¬ Ex5 k → W'.heap[k]? = w5.heap[k]?) → CapT (b0 + 1 + 2) (b0 + 1 + 1) (b0 + 1) (b0 + 1 + 3) m A2 c2 ord A3 c3 cl A4 c4 rk 67 W' := by
    intro W' hsz hsame
    have hold : ∀ k, k < w5.heap.size → b0 ≤ k → W'.heap[k]? = w5.heap[k]? := fun k hk hbk => hsame k hk (by rw [hEx5]; exact fun hn => hn (.inr hbk))
    have hcw := HC.out W' (by omega) (fun k hk0 hx => (hsame k (by omega) (by rw [hEx5]; exact fun hn => hn (.inl ⟨hk0, hx⟩))).trans ((hb5.block k (by omega)).trans (HW.out.block k hk0)))
    exact ⟨(hold _ (by omega) (by omega)).trans q5, (hold _ (by omega) (by omega)).trans q4, (hold _ (by omega) (by omega)).trans q3, (hold _ (by omega) (by omega)).trans q6, hcw.r2, hcw.r3⟩
  have hseq := turns_iter highF (b0 + 1 + 2) (b0 + 1 + 1) (b0 + 1) (b0 + 1 + 3) m A2 c2 ord A3 c3 cl A4 c4 rk 67 Tryz.f67 (n - 1) w5 Ex5 (fun _ => True) Tryz.func67 (by kernel_rfl) rfl high_calls hm hm2 HIN.out (by omega) trivial hcap5
  rw [e1]
  have HS := Aside0.mk hcapw
  have HB5 := Aside0.mk hb5
  have HBX := Aside0.mk hbox5
  clear hcapw hcap5 hb5 hbox5 q3 q4 q5 q6 hs1
  refine range_outer (xs := runT highF cl (List.replicate m 0) ord) (Rv := RvT) (Ex := Ex5) (c := 1) (E := fun _ => True) (w0 := w5) rfl (fun h0 => by cases h0) (gf := 99) rfl trivial (fun args w => enters_ Tryz.func99 (by kernel_rfl) rfl args w) hseq (Below.refl _ _) (fun x vs W h => by unfold RvT at h; subst h; rfl)
    (fun i W' => J i W' ∧ RKeep w.heap.size Ex b0 (fun _ => True) w5 W')
    (fun cd i W' => cd = .ret ∧ Jx i W')
    ?hI ?hIx ?h0
    (fun i x a' W' => ∃ g5, a' = { tmps := #[.func (.yield l) #[] #[], .pointer (some ⟨B1, 0, none⟩), .pointer (some ⟨B2, 0, none⟩), .pointer (some ⟨B3, 0, none⟩), .pointer (some ⟨b0, 0, none⟩), .pointer (some ⟨g5, 0, none⟩), .agg #[.slice A3 cl.length c3, .slice A4 rk.length c4], .slice A2 ord.length c2, .int .i64 (m : Int), .func (.func 99) #[] #[.pointer (some ⟨b0 + 1 + 2, 0, none⟩), .pointer (some ⟨b0 + 1 + 1, 0, none⟩), .pointer (some ⟨b0 + 1, 0, none⟩), .pointer (some ⟨b0 + 1 + 3, 0, none⟩)], .agg #[.int .i64 x.1, .int .i64 x.2.1, .int .i64 x.2.2], undef, undef, undef, undef, undef, undef, undef, undef, undef, undef, undef, undef, undef, undef, undef, undef], defers := [] } ∧
      W'.heap[g5]? = some (.cells #[.int .i64 x.1, .int .i64 x.2.1, .int .i64 x.2.2] 107 (0, 0)) ∧ w5.heap.size + 3 ≤ g5 ∧ J i W' ∧ RKeep w.heap.size Ex b0 (fun _ => True) w5 W')
    ?hAx ?assign ?body ?done ?stop
  case hI => exact fun i X Y h hs => ⟨HJ.out i X Y h.1 (by rw [hb0]; exact (hs.lower (by omega)).widen (by omega) (by omega)), h.2.istep_ hs (Nat.le_refl _) (by omega)⟩
  case hIx => exact fun cd i X Y h hs => ⟨h.1, HJx.out i X Y h.2 (by rw [hb0]; exact (hs.lower (by omega)).widen (by omega) (by omega))⟩
  case h0 => exact ⟨HJ.out 0 W w5 H0.out (IStep.of_below (by rw [hb0]; exact HB5.out)), RKeep.refl _ _ _ _ _⟩
  case hAx =>
    rintro i x a' _ X Y ⟨g5, ha, h1, h2, h3, h4⟩ hs
    exact ⟨g5, ha, hs.same g5 _ h1 (by omega) (fun _ => rfl), h2, HJ.out i X Y h3 (by rw [hb0]; exact (hs.lower (by omega)).widen (by omega) (by omega)), h4.istep_ hs (Nat.le_refl _) (by omega)⟩
  case assign =>
    rintro l' i x vs W' K hx ⟨hi1, hi2⟩ hv hsz hK
    unfold RvT at hv
    subst hv
    simp only [List.zip_toArray, List.zip_cons_cons, List.zip_nil_right, List.zip_nil_left, List.size_toArray, List.foldl_toArray', List.foldl_cons, List.foldl_nil, List.setIfInBounds_toArray, List.set_cons_zero, List.set_cons_succ, List.length_cons, List.length_nil]
    have H1 := Aside0.mk hi1
    have H2 := Aside0.mk hi2
    have HK := Aside0.mk hK
    have HSZ := Aside0.mk hsz
    clear hseq hi1 hi2 hK hsz
    have hu107 := Tryz.underlying107
    go_wp2_with (first
      | ((with_reducible refine gate_dst (N := 5) rfl ?_); refine box_event_sz ?hg (N := 5) ?hd (cs := #[.int .i64 0, .int .i64 0, .int .i64 0]) (t := 107) ?hr ?_; (case hd => rfl); (case hg => rfl); (case hr => first | (go_simp; done) | (go_simp; rfl)); intro w6 hs6 hx6 hb6
         have hc60 : w6.cell? ⟨W'.heap.size, 0, none⟩ = some (.int .i64 0) := (blk_cell hx6 0).trans rfl
         have hc61 : w6.cell? ⟨W'.heap.size, 1, none⟩ = some (.int .i64 0) := (blk_cell hx6 1).trans rfl
         have hc62 : w6.cell? ⟨W'.heap.size, 2, none⟩ = some (.int .i64 0) := (blk_cell hx6 2).trans rfl
         have hf60 := blk_frozen hx6 0
         have hf61 := blk_frozen hx6 1
         have hf62 := blk_frozen hx6 2
         have HX6 := Aside0.mk hx6
         have HB6 := Aside0.mk hb6
         clear hx6 hb6)
      | ((with_reducible refine regIn_lit_ ?hnd ?hlo ?_); (case hnd => kernel_rfl); (case hlo => rintro ⟨_, _, h⟩; exact h)) | gi_step)
    have hbel : Below W'.heap.size W' (((w6.setCell ⟨W'.heap.size, 0, none⟩ (.int .i64 x.1)).setCell ⟨W'.heap.size, 1, none⟩ (.int .i64 x.2.1)).setCell ⟨W'.heap.size, 2, none⟩ (.int .i64 x.2.2)) :=
      ((HB6.out.setCell (p := ⟨W'.heap.size, 0, none⟩) (Nat.le_refl _) _).setCell (p := ⟨W'.heap.size, 1, none⟩) (Nat.le_refl _) _).setCell (p := ⟨W'.heap.size, 2, none⟩) (Nat.le_refl _) _
    exact HK.out _ _ hbel ⟨W'.heap.size, rfl, blk_put (blk_put (blk_put HX6.out 0 _ rfl) 1 _ rfl) 2 _ rfl, by have := HSZ.out; omega, HJ.out i W' _ H1.out (IStep.of_below hbel), H2.out.istep_ (b := w5.heap.size) (lo := w5.heap.size) (c := 0) (IStep.of_below hbel) (Nat.le_refl _) (Nat.le_refl _)⟩
  case body =>
    rintro l' i x a' W' hl' hloop hx ⟨g5, rfl, h1, h2, h3, h4⟩ hsz
    have hlt : i < ord.length := by have := (List.getElem?_eq_some_iff.1 hx).1; rwa [runT_len] at this
    have hxe := runT_at highF cl ord (List.replicate m 0) i hlt
    have hx1 : x.1 = ord[i] := by rw [hx] at hxe; rw [Option.some.inj hxe]
    obtain ⟨p1, p2⟩ := HIN.out x.1 (by rw [hx1]; exact List.getElem_mem hlt)
    have hyx : ((runT highF cl (List.replicate m 0) ord).map (waitT cl))[i]? = some (waitT cl x) := by rw [List.getElem?_map, hx]; rfl
    clear hxe hx1 hx
    obtain ⟨x0, x1, x2⟩ := x
    simp only [] at h1 p1 p2
    have hcx := HS.out W' h4
    have hk4 : W'.cell? ⟨b0, 0, none⟩ = some (.func (.yield l) #[] #[]) := (blk_cell ((h4.same b0 (by omega) (.inr ⟨Nat.le_refl _, trivial⟩)).trans HBX.out) 0).trans rfl
    have hz0 : W'.cell? ⟨g5, 0, none⟩ = some (.int .i64 x0) := (blk_cell h1 0).trans rfl
    have hz1 : W'.cell? ⟨g5, 1, none⟩ = some (.int .i64 x1) := (blk_cell h1 1).trans rfl
    have hd0 : W'.cell? ⟨B1, 0, none⟩ = some (.slice A3 cl.length c3) := (blk_cell hcx.b1 0).trans rfl
    obtain ⟨ad, hA3, hr0, hr1, hr2, hr3⟩ := at_T67 hcx.r3 x0 p1 p2
    rw [hA3] at hd0
    replace p1 := eq_true p1
    replace p2 := eq_true p2
    have H1 := Aside0.mk h1
    have H2 := Aside0.mk h2
    have H3 := Aside0.mk h3
    have H4 := Aside0.mk h4
    have HYX := Aside0.mk hyx
    have HSZ := Aside0.mk hsz
    have HA3 := Aside0.mk hA3
    clear hseq h1 h2 h3 h4 hyx hsz hcx hlt hA3 hloop hl' hr0 hr2 hr3
    simp only [] 
    go_wp2_with (first | (with_reducible refine stop_ 3 ?_) | gi_step)
    refine ⟨wpIn_seq ?_⟩
    refine quiet_last2_ (y := 14) (fun a2 w2 => ∃ u11 u12 u13 u14 u15 u16 u17 u18 u19 u20 u21 u22 u23 u24 : Value, a2 = { tmps := #[.func (.yield l) #[] #[], .pointer (some ⟨B1, 0, none⟩), .pointer (some ⟨B2, 0, none⟩), .pointer (some ⟨B3, 0, none⟩), .pointer (some ⟨b0, 0, none⟩), .pointer (some ⟨g5, 0, none⟩), .agg #[.slice A3 cl.length c3, .slice A4 rk.length c4], .slice A2 ord.length c2, .int .i64 (m : Int), .func (.func 99) #[] #[.pointer (some ⟨b0 + 1 + 2, 0, none⟩), .pointer (some ⟨b0 + 1 + 1, 0, none⟩), .pointer (some ⟨b0 + 1, 0, none⟩), .pointer (some ⟨b0 + 1 + 3, 0, none⟩)], .agg #[.int .i64 x0, .int .i64 x1, .int .i64 x2], u11, u12, u13, u14, u15, u16, u17, u18, u19, u20, u21, u22, u23, u24, undef, undef], defers := [] } ∧ u11 = .func (.yield l) #[] #[] ∧ u13 = .int .i64 x0 ∧ u24 = .int .i64 (wrap64 (x1 - (rd_T67 cl x0).f1)) ∧ ∃ nq, w2 = W'.drewN nq) (lifts_in l') (fun _ => trivial) (by kernel_rfl) rfl rfl (by kernel_rfl) (by kernel_rfl) ?hQn ?hq
    case hq =>
      simp only [List.take_succ_cons, List.take_zero, List.cons_append, List.nil_append]
      repeat (first | refine quiet_blank ?_ | quiet_step (fail))
      refine wpQuiet_nil ?_
      rintro w2 ⟨nq, rfl⟩
      exact ⟨_, _, _, _, _, _, _, _, _, _, _, _, _, _, rfl, rfl, rfl, (by rw [i64_w]), nq, rfl⟩
    case hQn =>
      rintro a2 w2 ⟨u11, u12, u13, u14, u15, u16, u17, u18, u19, u20, u21, u22, u23, u24, rfl, rfl, rfl, rfl, nq, rfl⟩
      refine oper_yield (l := l) (vs := #[.int .i64 x0, .int .i64 (wrap64 (x1 - (rd_T67 cl x0).f1))]) rfl (fun _ => trivial) rfl rfl (by simp only [List.map_toArray, List.map_cons, List.map_nil]; rfl) ?_
      have hbq : Below W'.heap.size W' (W'.drewN nq) := ⟨rfl, rfl, rfl, Nat.le_refl _, fun _ _ => rfl⟩
      refine YieldAt.mono (yield_in l' (yield_any rfl (HY.out i (waitT cl (x0, x1, x2)) _ (W'.drewN nq) HYX.out (HJ.out i W' _ H3.out (IStep.of_below hbq)) rfl (by have := HSZ.out; show W.heap.size + 8 ≤ W'.heap.size; omega)))) ?_
      rintro e W2 (⟨rfl, hJ2, hk2⟩ | ⟨rfl, hJ2, hk2⟩)
      all_goals
        refine ⟨_, rfl, ?_⟩
        refine lifts_in l' _ _ _ _ _ _ _ _ rfl (fun _ _ h => h) ?_
        refine oper_not (t := 4) rfl rfl ?_
        simp only [Act.put, List.setIfInBounds_toArray, List.set_cons_zero, List.set_cons_succ, Bool.not_true, Bool.not_false, Exit.then]
        have hbk : BKeep w5.heap.size Ex5 w5.heap.size (w5.heap.size + 2) (fun _ => True) W' W2 := by
          refine ⟨fun k o hB ho hc => hk2.book k o (by omega) ho hc, hk2.size, fun k hk hh => hk2.same k hk ?_, fun k o hB ho hc => hk2.book k o (by omega) ho hc⟩
          rcases hh with ⟨hk7, hex⟩ | ⟨hk7, _⟩
          · rw [hEx5] at hex
            rcases Classical.not_not.1 hex with h | h
            · exact .inl h
            · exact .inr ⟨by omega, trivial⟩
          · exact .inr ⟨by omega, trivial⟩
        have HBK := Aside0.mk hbk
        have hk2' : RKeep w.heap.size Ex b0 (fun _ => True) w5 W2 := H4.out.trans (by rw [← hb0]; exact ⟨hk2.size, fun k hk hh => hk2.same k hk hh, fun k o hB ho hc => hk2.book k o hB ho hc⟩)
        have HK2 := Aside0.mk hk2'
        have HEX := Aside0.mk hEx5
        have HQ2 := Aside0.mk q2
        clear hbk hk2 hk2' hEx5 q2
        go_wp2_with (first | gi_step)
      · exact ⟨HBK.out, hJ2, HK2.out⟩
      · exact ⟨HBK.out, rfl, hJ2⟩
  case done =>
    rintro D W' hD ⟨h1, h2⟩ hmk
    simp only [Exit.inBlock, Exit.then]
    go_wp2_with (first | (with_reducible refine regW_lit_ ?_) | gi_step)
    refine Marks.leaves (lo := b0) (Ds := [D]) (.cons hmk (by omega) (fun E hE => by cases hE) (.nil _)) fun W2 hs => ⟨_, results_none rfl _ _ _, ⟨_, rfl⟩, .inl ?_⟩
    rw [List.length_map]
    exact HJ.out _ _ _ h1 (by rw [hb0]; exact hs.widen (Nat.le_refl _) (by omega))
  case stop =>
    rintro D cd i W' hD hi ⟨rfl, h1⟩ hmk
    go_wp2_with (first | (with_reducible refine regW_lit_ ?_) | gi_step)
    refine Marks.leaves (lo := b0) (Ds := [D]) (.cons hmk (by omega) (fun E hE => by cases hE) (.nil _)) fun W2 hs => ⟨_, results_none rfl _ _ _, ⟨_, rfl⟩, .inr ⟨i, ?_, ?_⟩⟩
    · rw [List.length_map]; exact hi
    · exact HJx.out _ _ _ h1 (by rw [hb0]; exact hs.widen (Nat.le_refl _) (by omega))
theorem Below_istep_ {n : Nat} {w W W' : World} {b lo c : Nat} (h : Below n w W) (hw : n ≤ w.heap.size) (k : IStep b lo c W W') (hb : n ≤ b) (hlo : n ≤ lo) : Below n w W' := by
  refine h.trans ⟨k.os, k.tape, k.output, k.size, fun j hj => ?_⟩
  have hjW : j < W.heap.size := Nat.lt_of_lt_of_le (Nat.lt_of_lt_of_le hj hw) h.size
  rw [k.same j _ (Array.getElem?_eq_getElem hjW) (fun h3 => by omega) (fun h3 => by omega), Array.getElem?_eq_getElem hjW]
def okT (cl : List S67) (ord : List Int) (m : Int) : Bool := decide (1 ≤ m) && decide (m ≤ 1000) && ord.all fun x => decide (0 ≤ x) && decide (x < (cl.length : Int))
theorem okT_spec {cl : List S67} {ord : List Int} {m : Int} (h : okT cl ord m = true) : 1 ≤ m ∧ m ≤ 1000 ∧ ∀ x ∈ ord, 0 ≤ x ∧ x < (cl.length : Int) := by
  simp only [okT, Bool.and_eq_true, decide_eq_true_eq, List.all_eq_true] at h
  exact ⟨h.1.1, h.1.2, h.2⟩
def waitsL (cl : List S67) (ord : List Int) (m : Int) : List (Int × Int) := (runT highF cl (List.replicate m.toNat 0) ord).map (waitT cl)
def turn_day_isLate.f (l0_0 : List S67) (l0_1 : List Int) (l1 : List Int) (a2 : Int) (a3 : Int) : Option Bool :=
  if okT l0_0 l1 a2 = true then some ((waitsL l0_0 l1 a2).any fun t => decide (t.2 > a3)) else none
set_option maxHeartbeats 1000000 in
theorem waits_calls (A3 : Option Addr) (n3 c3 : Nat) (A4 : Option Addr) (n4 c4 : Nat) (A2 : Option Addr) (n2 c2 : Nat) (m : Int) (w : World) :
    Calls Tryz.prog 68 #[.agg #[.slice A3 n3 c3, .slice A4 n4 c4], .slice A2 n2 c2, .int .i64 m] w fun e w' =>
      e = .returned (.func (.func 101) #[] #[.pointer (some ⟨w.heap.size, 0, none⟩), .pointer (some ⟨w.heap.size + 1, 0, none⟩), .pointer (some ⟨w.heap.size + 2, 0, none⟩)]) ∧
      w' = ((w.alloc (.cells #[.slice A3 n3 c3, .slice A4 n4 c4] 99)).alloc (.cells #[.slice A2 n2 c2] 23)).alloc (.cells #[.int .i64 m] 3) := by
  have hu1 := Tryz.underlying99
  have hu2 := Tryz.underlying25
  go_enter Tryz.func68, Tryz.ntmps68
  go_wp2
  go_ret
  exact ⟨rfl, rfl⟩
theorem three_alloc (w : World) (o1 o2 o3 : Obj) : let w' := ((w.alloc o1).alloc o2).alloc o3; Below w.heap.size w w' ∧ w'.heap.size = w.heap.size + 3 ∧ w'.heap[w.heap.size]? = some o1 ∧ w'.heap[w.heap.size + 1]? = some o2 ∧ w'.heap[w.heap.size + 2]? = some o3 := by
  intro w'
  have s1 : (w.alloc o1).heap.size = w.heap.size + 1 := World.size_alloc _ _
  have s2 : ((w.alloc o1).alloc o2).heap.size = w.heap.size + 2 := by rw [World.size_alloc, s1]
  have e1 := World.alloc_heap_new w o1
  have e2 := World.alloc_heap_new (w.alloc o1) o2
  have e3 := World.alloc_heap_new ((w.alloc o1).alloc o2) o3
  rw [s1] at e2
  rw [s2] at e3
  refine ⟨((Below.refl _ w).alloc (Nat.le_refl _) _).alloc (by omega) _ |>.alloc (by omega) _, by show (World.alloc _ o3).heap.size = _; rw [World.size_alloc, s2], ?_, ?_, e3⟩
  · exact (Below.heap_alloc _ _ _ (by omega)).trans ((Below.heap_alloc _ _ _ (by omega)).trans e1)
  · exact (Below.heap_alloc _ _ _ (by omega)).trans e2
theorem waits_made (m : Nat) (A2 : Option Addr) (c2 : Nat) (ord : List Int) (A3 : Option Addr) (c3 : Nat) (cl : List S67) (A4 : Option Addr) (c4 : Nat) (rk : List Int) (n : Nat) (w1 w5 : World) (Ex : Nat → Prop) (hEx : ∀ k, Ex k → k < w1.heap.size)
    (hm : 1 ≤ m) (hm2 : m ≤ 1000) (hin : ∀ x ∈ ord, 0 ≤ x ∧ x < (cl.length : Int))
    (hw5 : w5 = ((w1.alloc (.cells #[.slice A3 cl.length c3, .slice A4 rk.length c4] 99)).alloc (.cells #[.slice A2 ord.length c2] 23)).alloc (.cells #[.int .i64 (m : Int)] 3))
    (hr : ∀ W', w1.heap.size ≤ W'.heap.size → (∀ k, k < w1.heap.size → ¬ Ex k → W'.heap[k]? = w1.heap[k]?) → Kd.C (Kd.int .i64) W' A2 ord.length ord ∧ Kd.C k67 W' A3 cl.length cl) :
    Below w1.heap.size w1 w5 ∧ w5.heap.size = w1.heap.size + 3 ∧ IterC Fence.wide n Tryz.prog 101 #[.pointer (some ⟨w1.heap.size, 0, none⟩), .pointer (some ⟨w1.heap.size + 1, 0, none⟩), .pointer (some ⟨w1.heap.size + 2, 0, none⟩)] (waitsL cl ord m) RvW Ex 8 (fun _ => True) w5 := by
  obtain ⟨q1, q2, q3, q4, q5⟩ := three_alloc w1 (.cells #[.slice A3 cl.length c3, .slice A4 rk.length c4] 99) (.cells #[.slice A2 ord.length c2] 23) (.cells #[.int .i64 (m : Int)] 3)
  rw [← hw5] at q1 q2 q3 q4 q5
  refine ⟨q1, q2, ?_⟩
  unfold waitsL
  rw [Int.toNat_natCast]
  refine waits_iter _ _ _ m A2 c2 ord A3 c3 cl A4 c4 rk n w5 Ex hm hm2 hin fun W' hsz hsame => ?_
  have hold : ∀ k, w1.heap.size ≤ k → k < w5.heap.size → W'.heap[k]? = w5.heap[k]? := fun k h1 h2 => hsame k h2 (fun hx => by have := hEx k hx; omega)
  obtain ⟨r1, r2⟩ := hr W' (by omega) (fun k hk hx => (hsame k (by omega) hx).trans (q1.block k hk))
  exact ⟨(hold _ (by omega) (by omega)).trans q3, (hold _ (by omega) (by omega)).trans q4, (hold _ (by omega) (by omega)).trans q5, r1, r2⟩
def NoLate (a3 : Int) (xs : List (Int × Int)) : Prop := ∀ t ∈ xs, ¬ t.2 > a3
def SomeLate (a3 : Int) (xs : List (Int × Int)) : Prop := ∃ t ∈ xs, t.2 > a3
set_option maxHeartbeats 16000000 in
set_option maxRecDepth 100000 in
theorem turn_day_isLate.calls (A0_0 : Option Addr) (c0_0 : Nat) (l0_0 : List S67) (A0_1 : Option Addr) (c0_1 : Nat) (l0_1 : List Int) (A1 : Option Addr) (c1 : Nat) (l1 : List Int) (a2 : Int) (a3 : Int) (r : Bool) (w : World)
    (hr0_0 : Kd.C k67 w A0_0 l0_0.length l0_0) (hc0_0 : l0_0.length ≤ c0_0) (hr0_1 : Kd.C (Kd.int .i64) w A0_1 l0_1.length l0_1) (hc0_1 : l0_1.length ≤ c0_1) (hr1 : Kd.C (Kd.int .i64) w A1 l1.length l1) (hc1 : l1.length ≤ c1) (h : turn_day_isLate.f l0_0 l0_1 l1 a2 a3 = some r) :
    Calls Tryz.prog 71 #[.agg #[.slice A0_0 l0_0.length c0_0, .slice A0_1 l0_1.length c0_1], .slice A1 l1.length c1, .int .i64 a2, .int .i64 a3] w fun e w' => e = .returned (.bool r) ∧ Below w.heap.size w w' := by
  unfold turn_day_isLate.f at h
  split at h
  case isFalse => cases h
  rename_i hok
  obtain ⟨hm1, hm2, hin⟩ := okT_spec hok
  obtain ⟨m, rfl⟩ : ∃ m : Nat, a2 = (m : Int) := ⟨a2.toNat, by omega⟩
  have hr := Option.some.inj h
  clear h hok
  obtain ⟨xs, hxs⟩ : ∃ xs, waitsL l0_0 l1 m = xs := ⟨_, rfl⟩
  rw [hxs] at hr
  have AR := Aside0.mk hr
  have AX := Aside0.mk hxs
  have R0 := Aside0.mk hr0_0
  have R1 := Aside0.mk hr1
  have IN := Aside0.mk hin
  clear hr hxs hr0_0 hr0_1 hr1 hin hc0_0 hc0_1 hc1
  refine (callsIn_wide (n := 5)).1 (callsIn_of_wp_marks Tryz.func71 rfl trivial ?_ rfl)
  simp only [Tryz.ntmps71, List.size_toArray, List.length_cons, List.length_nil, Nat.reduceAdd, Nat.reduceSub, Array.replicate_succ, Array.replicate_zero, List.push_toArray, List.append_toArray, List.nil_append, List.cons_append]
  have hu1 := Tryz.underlying99
  have hu2 := Tryz.underlying25
  go_wp2_with (first
    | ((with_reducible refine gate_dst (N := 4) rfl ?_); refine box_event_sz ?hg (N := 4) ?hd (cs := #[.slice A0_0 l0_0.length c0_0, .slice A0_1 l0_1.length c0_1]) (t := 99) ?hr ?_; (case hd => rfl); (case hg => rfl); (case hr => first | (go_simp; done) | (go_simp; rfl)); intro w1 hs1 hx1 hb1)
    | ((with_reducible refine gate_dst (N := 7) rfl ?_); refine box_event_sz ?hg (N := 7) ?hd (cs := #[.int .i64 a3]) (t := 3) ?hr ?_; (case hd => rfl); (case hg => rfl); (case hr => first | (go_simp; done) | (go_simp; rfl)); intro w2 hs2 hx2 hb2)
    | ((with_reducible refine gate_dst (N := 8) rfl ?_); refine box_event_sz ?hg (N := 8) ?hd (cs := #[.bool false]) (t := 4) ?hr ?_; (case hd => rfl); (case hg => rfl); (case hr => first | (go_simp; done) | (go_simp; rfl)); intro w3 hs3 hx3 hb3
       have hx1' := (hb3.block _ (by omega)).trans ((hb2.block _ (by omega)).trans hx1)
       have hz1 : w3.cell? ⟨w.heap.size, 0, none⟩ = some (.slice A0_0 l0_0.length c0_0) := (blk_cell hx1' 0).trans rfl
       have hz2 : w3.cell? ⟨w.heap.size, 1, none⟩ = some (.slice A0_1 l0_1.length c0_1) := (blk_cell hx1' 1).trans rfl)
    | ((with_reducible refine gate_callee (f := 68) rfl ?_); refine goesL_ (some 14) rfl rfl Tryz.func68 (by kernel_rfl) rfl #[.agg #[.slice A0_0 l0_0.length c0_0, .slice A0_1 l0_1.length c0_1], .slice A1 l1.length c1, .int .i64 (m : Int)] rfl (by (try simp only [List.map_toArray, List.map_cons, List.map_nil]); first | done | rfl) ?_
       refine (waits_calls A0_0 l0_0.length c0_0 A0_1 l0_1.length c0_1 A1 l1.length c1 (m : Int) w3).mono ?_; rintro e w5 ⟨rfl, hw5⟩; refine ⟨_, rfl, ?_⟩)
    | (with_reducible refine regW_lit_ ?_) | gi_step)
  simp only [Act.put, List.setIfInBounds_toArray, List.set_cons_zero, List.set_cons_succ]
  have hb3w : Below w.heap.size w w3 := hb1.trans ((hb2.mono (by omega)).trans (hb3.mono (by omega)))
  obtain ⟨q1, q2, hseq⟩ := waits_made m A1 c1 l1 A0_0 c0_0 l0_0 A0_1 c0_1 l0_1 4 w3 w5 (fun k => k = w.heap.size + 1 + 1) (fun k hk => by omega) (by omega) (by omega) IN.out hw5 (fun W' hsz hsame => ⟨Kd.C_F (Kd.heap_int _) R1.out W' (fun k hk _ => (hsame k (by omega) (by omega)).trans (hb3w.block k hk)), Kd.C_F k67_heap R0.out W' (fun k hk _ => (hsame k (by omega) (by omega)).trans (hb3w.block k hk))⟩)
  rw [AX.out] at hseq
  have hx7 : w5.heap[w.heap.size + 1]? = some (.cells #[.int .i64 a3] 3 (0, 0)) := (q1.block _ (by omega)).trans ((hb3.block _ (by omega)).trans (by rw [hs1] at hx2; exact hx2))
  have hx8 : w5.heap[w.heap.size + 1 + 1]? = some (.cells #[.bool false] 4 (0, 0)) := (q1.block _ (by omega)).trans (by rw [hs2, hs1] at hx3; exact hx3)
  have hb5 : Below w.heap.size w w5 := hb3w.trans (q1.mono (by omega))
  clear hw5 hx1 hx2 hx3 hb1 hb2 hb3 hb3w q1 hx1' hz1 hz2
  have e3 : w3.heap.size = w.heap.size + 3 := by omega
  rw [e3] at q2 hseq ⊢
  clear hs1 hs2 hs3 e3
  refine range_outer (xs := xs) (Rv := RvW) (Ex := fun k => k = w.heap.size + 1 + 1) (c := 8) (E := fun _ => True) (w0 := w5) rfl (fun h0 => by cases h0) (gf := 101) rfl trivial (fun args w => enters_ Tryz.func101 (by kernel_rfl) rfl args w) hseq (Below.refl _ _) (fun x vs W h => by unfold RvW at h; subst h; rfl)
    (fun i W' => NoLate a3 (xs.take i) ∧ W'.heap[w.heap.size + 1]? = some (.cells #[.int .i64 a3] 3 (0, 0)) ∧ W'.heap[w.heap.size + 1 + 1]? = some (.cells #[.bool false] 4 (0, 0)) ∧ Below w.heap.size w W')
    (fun cd i W' => cd = .ret ∧ SomeLate a3 xs ∧ W'.heap[w.heap.size + 1 + 1]? = some (.cells #[.bool true] 4 (0, 0)) ∧ Below w.heap.size w W')
    ?hI ?hIx ⟨fun t ht => (by cases ht), hx7, hx8, hb5⟩
    (fun i x a' W' => a' = { tmps := #[.agg #[.slice A0_0 l0_0.length c0_0, .slice A0_1 l0_1.length c0_1], .slice A1 l1.length c1, .int .i64 (m : Int), .int .i64 a3, .pointer (some ⟨w.heap.size, 0, none⟩), undef, undef, .pointer (some ⟨w.heap.size + 1, 0, none⟩), .pointer (some ⟨w.heap.size + 1 + 1, 0, none⟩), undef, .int .i64 x.2, .agg #[.slice A0_0 l0_0.length c0_0, .slice A0_1 l0_1.length c0_1], .slice A1 l1.length c1, .int .i64 (m : Int), .func (.func 101) #[] #[.pointer (some ⟨w.heap.size + 3, 0, none⟩), .pointer (some ⟨w.heap.size + 3 + 1, 0, none⟩), .pointer (some ⟨w.heap.size + 3 + 2, 0, none⟩)], .int .i64 x.1, .int .i64 x.2, undef, undef, undef], defers := [] } ∧
      NoLate a3 (xs.take i) ∧ W'.heap[w.heap.size + 1]? = some (.cells #[.int .i64 a3] 3 (0, 0)) ∧ W'.heap[w.heap.size + 1 + 1]? = some (.cells #[.bool false] 4 (0, 0)) ∧ Below w.heap.size w W')
    ?hAx ?assign ?body ?done ?stop
  case hI => exact fun i X Y ⟨h1, h2, h3, h4⟩ hs => ⟨h1, hs.same _ _ h2 (by omega) (fun _ => rfl), hs.same _ _ h3 (by omega) (fun _ => rfl), Below_istep_ h4 (Nat.le_refl _) hs (by omega) (by omega)⟩
  case hIx => exact fun cd i X Y ⟨h1, h2, h3, h4⟩ hs => ⟨h1, h2, hs.same _ _ h3 (by omega) (fun _ => rfl), Below_istep_ h4 (Nat.le_refl _) hs (by omega) (by omega)⟩
  case hAx => exact fun i x a' _ X Y ⟨h0, h1, h2, h3, h4⟩ hs => ⟨h0, h1, hs.same _ _ h2 (by omega) (fun _ => rfl), hs.same _ _ h3 (by omega) (fun _ => rfl), Below_istep_ h4 (Nat.le_refl _) hs (by omega) (by omega)⟩
  case assign =>
    rintro l' i x vs W' K hx hi hv hsz hK
    unfold RvW at hv
    subst hv
    simp only [List.zip_toArray, List.zip_cons_cons, List.zip_nil_right, List.zip_nil_left, List.size_toArray, List.foldl_toArray', List.foldl_cons, List.foldl_nil, List.setIfInBounds_toArray, List.set_cons_zero, List.set_cons_succ, List.length_cons, List.length_nil]
    have Hi := Aside0.mk hi
    have HK := Aside0.mk hK
    clear hseq hi hK hx7 hx8 hb5
    go_wp2_with (first | ((with_reducible refine regIn_lit_ ?hnd ?hlo ?_); (case hnd => kernel_rfl); (case hlo => rintro ⟨_, _, h⟩; exact h)) | gi_step)
    exact HK.out _ _ (Below.refl _ _) ⟨rfl, Hi.out⟩
  case body =>
    rintro l' i x a' W' hl' hloop hx ⟨rfl, h1, h2, h3, h4⟩ hsz
    have hc7 : W'.cell? ⟨w.heap.size + 1, 0, none⟩ = some (.int .i64 a3) := (blk_cell h2 0).trans rfl
    have hc8 : W'.cell? ⟨w.heap.size + 1 + 1, 0, none⟩ = some (.bool false) := (blk_cell h3 0).trans rfl
    have hf8 := blk_frozen h3 0
    obtain ⟨hlt, hxe⟩ := List.getElem?_eq_some_iff.1 hx
    have hmem : x ∈ xs := List.mem_of_getElem? hx
    have htk : xs.take (i + 1) = xs.take i ++ [x] := by rw [List.take_succ_eq_append_getElem hlt, hxe]
    have H1 := Aside0.mk h1
    have H2 := Aside0.mk h2
    have H3 := Aside0.mk h3
    have H4 := Aside0.mk h4
    have HM := Aside0.mk hmem
    have HT := Aside0.mk htk
    have Q2 := Aside0.mk q2
    have HSZ := Aside0.mk hsz
    clear hseq h1 h2 h3 h4 hx7 hx8 hb5 hx hxe hlt hmem htk hloop hl' q2 hsz
    by_cases hc : x.2 > a3
    · have hcb : decide (x.2 > a3) = true := decide_eq_true hc
      have HC := Aside0.mk hc
      clear hc
      go_wp2_with (first | ((with_reducible refine regIn_lit_ ?hnd ?hlo ?_); (case hnd => kernel_rfl); (case hlo => rintro ⟨_, _, h⟩; exact h)) | gi_step)
      refine ⟨BKeep.of_block (w.heap.size + 1 + 1) (by simp [World.setCell]) (fun k _ hne => Below.heap_setCell _ _ _ k hne) ⟨_, H3.out, rfl⟩ (fun _ => rfl) (fun hh => by have := Q2.out; have := hh.1; omega), rfl, ⟨x, HM.out, HC.out⟩, blk_put (cs := #[.bool false]) H3.out 0 _ rfl, ?_⟩
      exact H4.out.setCell (p := ⟨w.heap.size + 1 + 1, 0, none⟩) (by show w.heap.size ≤ w.heap.size + 1 + 1; omega) _
    · have hcb : decide (x.2 > a3) = false := decide_eq_false hc
      have HC := Aside0.mk hc
      clear hc
      go_wp2_with (first | ((with_reducible refine regIn_lit_ ?hnd ?hlo ?_); (case hnd => kernel_rfl); (case hlo => rintro ⟨_, _, h⟩; exact h)) | gi_step)
      refine ⟨BKeep.refl _ _ _ _ _ _, ?_, H2.out, H3.out, H4.out⟩
      rw [HT.out]
      exact fun t ht => (List.mem_append.1 ht).elim (H1.out t) (fun h_ => by rw [List.mem_singleton.1 h_]; have h2_ := HC.out; omega)
  case done =>
    rintro D W' hD ⟨h1, h2, h3, h4⟩ hmk
    rw [List.take_length] at h1
    have hc8 : W'.cell? ⟨w.heap.size + 1 + 1, 0, none⟩ = some (.bool false) := (blk_cell h3 0).trans rfl
    have hf8 := blk_frozen h3 0
    have H1 := Aside0.mk h1
    have H3 := Aside0.mk h3
    have H4 := Aside0.mk h4
    have Q2 := Aside0.mk q2
    have HD := Aside0.mk hD
    have HMK := Aside0.mk hmk
    clear hseq h1 h2 h3 h4 hx7 hx8 hb5 q2 hD hmk
    simp only [Exit.inBlock, Exit.then]
    go_wp2_with (first | (with_reducible refine regW_lit_ ?_) | gi_step)
    have hk' : (W'.setCell ⟨w.heap.size + 1 + 1, 0, none⟩ (.bool false)).heap[D]? = some (.deferred (some [])) := (Below.heap_setCell _ _ _ D (by have := HD.out; have := Q2.out; show D ≠ w.heap.size + 1 + 1; omega)).trans HMK.out
    refine Marks.leaves (lo := w5.heap.size) (Ds := [D]) (.cons hk' HD.out (fun E hE => by cases hE) (.nil _)) fun W2 hs => ⟨.bool r, ?res, rfl, Below_istep_ (H4.out.setCell (p := ⟨w.heap.size + 1 + 1, 0, none⟩) (by show w.heap.size ≤ w.heap.size + 1 + 1; omega) _) (Nat.le_refl _) hs (by have := Q2.out; omega) (by have := Q2.out; omega)⟩
    have hx := hs.same (w.heap.size + 1 + 1) _ (blk_put (cs := #[.bool false]) H3.out 0 (.bool false) rfl) (by omega) (fun _ => rfl)
    have hcx : W2.cell? ⟨w.heap.size + 1 + 1, 0, none⟩ = some (.bool false) := (blk_cell hx 0).trans rfl
    have hrf : r = false := by rw [← AR.out]; exact List.any_eq_false.2 (fun t ht => by simpa using H1.out t ht)
    subst hrf
    have hr : Tryz.f71.results = #[.cell 8 4] := rfl
    unfold results
    rw [hr]
    simp [go_sem, hcx]
  case stop =>
    rintro D cd i W' hD hi ⟨rfl, h1, h3, h4⟩ hmk
    have H1 := Aside0.mk h1
    have H3 := Aside0.mk h3
    have H4 := Aside0.mk h4
    have Q2 := Aside0.mk q2
    have HD := Aside0.mk hD
    have HMK := Aside0.mk hmk
    clear hseq h1 h3 h4 hx7 hx8 hb5 q2 hD hmk
    go_wp2_with (first | (with_reducible refine regW_lit_ ?_) | gi_step)
    refine Marks.leaves (lo := w5.heap.size) (Ds := [D]) (.cons (show W'.heap[D]? = _ from HMK.out) HD.out (fun E hE => by cases hE) (.nil _)) fun W2 hs => ⟨.bool r, ?res3, rfl, Below_istep_ H4.out (Nat.le_refl _) hs (by have := Q2.out; omega) (by have := Q2.out; omega)⟩
    have hx := hs.same (w.heap.size + 1 + 1) _ H3.out (by have := Q2.out; omega) (fun _ => rfl)
    have hcx : W2.cell? ⟨w.heap.size + 1 + 1, 0, none⟩ = some (.bool true) := (blk_cell hx 0).trans rfl
    have hrt : r = true := by
      rw [← AR.out]
      obtain ⟨t, ht, hc⟩ := H1.out
      exact List.any_eq_true.2 ⟨t, ht, decide_eq_true hc⟩
    subst hrt
    have hr : Tryz.f71.results = #[.cell 8 4] := rfl
    unfold results
    rw [hr]
    simp [go_sem, hcx]
end Go.Proofs.YtlmglnobdcgbeaaGreat.P
namespace Go.Proofs.YtlmglnobdcgbeaaGreat.P
open Go.RowKit Go.Proofs.YtlmglnobdcgbeaaGreatW.PrintWords Go.Proofs.YtlmglnobdcgbeaaGreatW.PrintLast Go.Proofs.YtlmglnobdcgbeaaGreatW.PrintMore
attribute [local go_sem] max2_int min2_int max_two min_two max_three min_three max_four min_four
mutual
def walkmillref04_Taken.l0 : Nat → List Int → Int → List Int → List Int → List Int → Int → List (S67) → List Int → Option (List Int)
 | 0, _, _, _, _, _, _, _, _ => none
 | k + 1, x1, x2, x3, x9, x10, x11, x102000, x102001 => if x11 < (x1.length : Int) then (walkmillref04_Taken.l1 k x1 x2 x3 x9 x10 x11 0 0 x102000 x102001) else (some x9)
def walkmillref04_Taken.l1 : Nat → List Int → Int → List Int → List Int → List Int → Int → Int → Int → List (S67) → List Int → Option (List Int)
 | 0, _, _, _, _, _, _, _, _, _, _ => none
 | k + 1, x1, x2, x3, x9, x10, x11, x12, x13, x102000, x102001 => if x13 < x2 then (if 0 ≤ x13 then (if x13 < (x10.length : Int) then (if 0 ≤ x12 then (if x12 < (x10.length : Int) then (if (rd x10 x13) < (rd x10 x12) then (walkmillref04_Taken.l1 k x1 x2 x3 x9 x10 x11 x13 (wrap64 (x13 + 1)) x102000 x102001) else (walkmillref04_Taken.l1 k x1 x2 x3 x9 x10 x11 x12 (wrap64 (x13 + 1)) x102000 x102001)) else (none)) else (none)) else (none)) else (none)) else (if 0 ≤ x12 then (if x12 < (x10.length : Int) then (if 0 ≤ x11 then (if x11 < (x1.length : Int) then (if 0 ≤ (rd x1 x11) then (if (rd x1 x11) < (x102000.length : Int) then (if x9.length < 17592186044416 then (if (rd x1 x11) < (x3.length : Int) then (walkmillref04_Taken.l0 k x1 x2 x3 (x9 ++ [mx (rd x10 x12) ((rd_T67 x102000 (rd x1 x11)).f1)]) (x10.set (x12 : Int).toNat (wrap64 ((mx (rd x10 x12) ((rd_T67 x102000 (rd x1 x11)).f1)) + (rd x3 (rd x1 x11))))) (wrap64 (x11 + 1)) x102000 x102001) else (none)) else (none)) else (none)) else (none)) else (none)) else (none)) else (none)) else (none))
end
def walkmillref04_Taken.f (k : Nat) (l0_0 : List (S67)) (l0_1 : List Int) (l1 : List Int) (a2 : Int) (l3 : List Int) : Option (List Int) := if 0 ≤ a2 then (if (a2 : Int).toNat ≤ 35184372088832 then (walkmillref04_Taken.l0 k l1 a2 l3 (([] : List Int)) (List.replicate (a2 : Int).toNat 0) 0 l0_0 l0_1) else (none)) else (none)
theorem walkmillref04_Taken.mono_l : ∀ k, (∀ y0 y1 y2 y3 y4 y5 y6 y7, LeO (walkmillref04_Taken.l0 k y0 y1 y2 y3 y4 y5 y6 y7) (walkmillref04_Taken.l0 (k + 1) y0 y1 y2 y3 y4 y5 y6 y7)) ∧ (∀ y0 y1 y2 y3 y4 y5 y6 y7 y8 y9, LeO (walkmillref04_Taken.l1 k y0 y1 y2 y3 y4 y5 y6 y7 y8 y9) (walkmillref04_Taken.l1 (k + 1) y0 y1 y2 y3 y4 y5 y6 y7 y8 y9))
 | 0 => ⟨fun _ _ _ _ _ _ _ _ r h => by simp [walkmillref04_Taken.l0] at h, fun _ _ _ _ _ _ _ _ _ _ r h => by simp [walkmillref04_Taken.l1] at h⟩
 | k + 1 => by
  obtain ⟨ih0, ih1⟩ := walkmillref04_Taken.mono_l k
  refine ⟨?_, ?_⟩
  ·intro y0 y1 y2 y3 y4 y5 y6 y7
   unfold walkmillref04_Taken.l0
   repeat' first
   | (with_reducible exact ih0 _ _ _ _ _ _ _ _)
   | (with_reducible exact ih1 _ _ _ _ _ _ _ _ _ _)
   | (with_reducible exact LeO.refl _)
   | (with_reducible exact LeO.none _)
   | (with_reducible refine LeO.ite ?_ ?_)
   | (with_reducible refine LeO.bind ?_ (fun _ => ?_))
   | exact ih0 _ _ _ _ _ _ _ _
   | exact ih1 _ _ _ _ _ _ _ _ _ _
   | exact LeO.none _
   | refine LeO.ite ?_ ?_
   | refine LeO.bind ?_ (fun _ => ?_)
  ·intro y0 y1 y2 y3 y4 y5 y6 y7 y8 y9
   unfold walkmillref04_Taken.l1
   repeat' first
   | (with_reducible exact ih0 _ _ _ _ _ _ _ _)
   | (with_reducible exact ih1 _ _ _ _ _ _ _ _ _ _)
   | (with_reducible exact LeO.refl _)
   | (with_reducible exact LeO.none _)
   | (with_reducible refine LeO.ite ?_ ?_)
   | (with_reducible refine LeO.bind ?_ (fun _ => ?_))
   | exact ih0 _ _ _ _ _ _ _ _
   | exact ih1 _ _ _ _ _ _ _ _ _ _
   | exact LeO.none _
   | refine LeO.ite ?_ ?_
   | refine LeO.bind ?_ (fun _ => ?_)
theorem walkmillref04_Taken.mono : ∀ a0 a1 a2 a3 a4 k, LeO (walkmillref04_Taken.f k a0 a1 a2 a3 a4) (walkmillref04_Taken.f (k + 1) a0 a1 a2 a3 a4) := by
 intro a0 a1 a2 a3 a4 k
 obtain ⟨ih0, ih1⟩ := walkmillref04_Taken.mono_l k
 unfold walkmillref04_Taken.f
 repeat' first
   | (with_reducible exact ih0 _ _ _ _ _ _ _ _)
   | (with_reducible exact ih1 _ _ _ _ _ _ _ _ _ _)
   | (with_reducible exact LeO.refl _)
   | (with_reducible exact LeO.none _)
   | (with_reducible refine LeO.ite ?_ ?_)
   | (with_reducible refine LeO.bind ?_ (fun _ => ?_))
   | exact ih0 _ _ _ _ _ _ _ _
   | exact ih1 _ _ _ _ _ _ _ _ _ _
   | exact LeO.none _
   | refine LeO.ite ?_ ?_
   | refine LeO.bind ?_ (fun _ => ?_)
def walkmillref04_Taken.T9 : Bool × List (List Nat × List Nat) := (true, [([], []), ([], []), ([0, 1], [0, 1]), ([2], [2]), ([], []), ([], []), ([4, 5], [4, 5]), ([6], [6]), ([3, 7], [3, 7])])
def walkmillref04_Taken.B9 : List Nat := [0, 0, 3, 7, 0, 0, 48, 112, 255]
theorem walkmillref04_Taken.tab9 : rtab .any (opsOf Tryz.f69 9) = walkmillref04_Taken.T9 := by kernel_rfl
theorem walkmillref04_Taken.bits9 : waitsOk walkmillref04_Taken.T9.2 walkmillref04_Taken.B9 = true := by kernel_rfl
def walkmillref04_Taken.T11 : Bool × List (List Nat × List Nat) := (true, [([], []), ([], []), ([0, 1], [0, 1]), ([2], [2]), ([], []), ([4], [4]), ([], []), ([], []), ([6, 7], [6, 7]), ([8], [8]), ([5, 9], [5, 9]), ([10], [10]), ([11], [11]), ([3, 12], [3, 12]), ([13, 0, 1, 2, 3, 4, 5, 6, 7, 8, 9, 10, 11, 12, 13], [13])])
def walkmillref04_Taken.B11 : List Nat := [0, 0, 3, 7, 0, 16, 0, 0, 192, 448, 1008, 2032, 4080, 8191, 16383]
theorem walkmillref04_Taken.tab11 : rtab .any (opsOf Tryz.f69 11) = walkmillref04_Taken.T11 := by kernel_rfl
theorem walkmillref04_Taken.bits11 : waitsOk walkmillref04_Taken.T11.2 walkmillref04_Taken.B11 = true := by kernel_rfl
set_option maxHeartbeats 8000000 in
set_option maxRecDepth 100000 in
theorem walkmillref04_Taken.calls (k : Nat) (A0_0 : Option Addr) (c0_0 : Nat) (l0_0 : List (S67)) (A0_1 : Option Addr) (c0_1 : Nat) (l0_1 : List Int) (A1 : Option Addr) (c1 : Nat) (l1 : List Int) (a2 : Int) (A3 : Option Addr) (c3 : Nat) (l3 : List Int) (r : List Int) (w : World) (hr0_0 : Kd.C k67 w A0_0 l0_0.length l0_0) (hc0_0 : l0_0.length ≤ c0_0) (hr0_1 : Kd.C (Kd.int .i64) w A0_1 l0_1.length l0_1) (hc0_1 : l0_1.length ≤ c0_1) (hr1 : Kd.C (Kd.int .i64) w A1 l1.length l1) (hc1 : l1.length ≤ c1) (hr3 : Kd.C (Kd.int .i64) w A3 l3.length l3) (hc3 : l3.length ≤ c3) (h : walkmillref04_Taken.f k l0_0 l0_1 l1 a2 l3 = some r) :
  Calls Tryz.prog 69 #[.agg #[.slice A0_0 l0_0.length c0_0, .slice A0_1 l0_1.length c0_1], .slice A1 l1.length c1, .int .i64 a2, .slice A3 l3.length c3] w fun e w' => ∃ v0_ : Value, e = .returned (v0_) ∧ Kd.R (Kd.int .i64) 3 w' w.heap.size (fun _ => True) v0_ r ∧ Below w.heap.size w w' := by
 have hu25 := Tryz.underlying25
 have HR0_0 := Aside0.mk hr0_0
 have HC0_0 := Aside0.mk hc0_0
 clear hr0_0 hc0_0
 have HR0_1 := Aside0.mk hr0_1
 have HC0_1 := Aside0.mk hc0_1
 clear hr0_1 hc0_1
 have HR1 := Aside0.mk hr1
 have HC1 := Aside0.mk hc1
 clear hr1 hc1
 have HR3 := Aside0.mk hr3
 have HC3 := Aside0.mk hc3
 clear hr3 hc3
 have HB := Aside0.mk (Below.refl w.heap.size w)
 have H : (if 0 ≤ a2 then (if (a2 : Int).toNat ≤ 35184372088832 then (walkmillref04_Taken.l0 k l1 a2 l3 (([] : List Int)) (List.replicate (a2 : Int).toNat 0) 0 l0_0 l0_1) else (none)) else (none)) = some r := h
 clear h
 obtain ⟨y102, hy102⟩ : ∃ y_ : List Int, y_ = (([] : List Int)) := ⟨_, rfl⟩
 replace H : (if 0 ≤ a2 then (if (a2 : Int).toNat ≤ 35184372088832 then (walkmillref04_Taken.l0 k l1 a2 l3 y102 (List.replicate (a2 : Int).toNat 0) 0 l0_0 l0_1) else (none)) else (none)) = some r := yy hy102 H
 have Ny102 := Aside0.mk hy102
 clear hy102
 by_cases c5 : 0 ≤ a2
 ·rw [if_pos c5] at H
  have c5b0 := eq_true c5
  have c5b1 : decide (0 ≤ a2) = true := decide_eq_true c5
  clear c5
  by_cases c6 : (a2 : Int).toNat ≤ 35184372088832
  ·rw [if_pos c6] at H
   have c6b0 := eq_true c6
   have c6b1 : decide ((a2 : Int).toNat ≤ 35184372088832) = true := decide_eq_true c6
   clear c6
   obtain ⟨y105, hy105⟩ : ∃ y_ : List Int, y_ = (List.replicate (a2 : Int).toNat 0) := ⟨_, rfl⟩
   replace H : (walkmillref04_Taken.l0 k l1 a2 l3 y102 y105 0 l0_0 l0_1) = some r := yy hy105 H
   have Ny105 := Aside0.mk hy105
   clear hy105
   have H' := Aside0.mk H
   clear H
   go_enter Tryz.func69, Tryz.ntmps69
   try go_wp2_with (first | ((with_reducible refine gate_dst (N := 4) rfl ?_); refine bx 4 #[.slice A0_0 l0_0.length c0_0, .slice A0_1 l0_1.length c0_1] 25 ?_; intro gb101 hg w7 hbox hb; have BK101 := hbox; have GW101 := gs HB hg; have GE101 := gs HB hg; replace HB := bs HB hb; clear hb hbox hg))
   replace BK101 := Aside0.mk (blk_drew BK101.out)
   replace HB := Aside0.mk (below_drew1 HB.out)
   refine start_ (n := 5) (S := fun w' => True) (ds := []) #[false, false, false, false, false] (by kernel_rfl) rfl rfl trivial (fun hHeld => ?_)
   generalize w7.drew = w8 at BK101 HB hHeld ⊢
   refine pu 1 16 ?_
   refine join_ (σ := Value × Value) 1 #[true, true, true, true, false] (fun s_ => [(15, s_.1), (17, s_.2), (9, s_.1)]) (fun s_ w' => (Kd.R (Kd.int .i64) 3 w' w.heap.size (fun k_ => some k_ ≠ (s_.2 : Value).ownBlock) s_.1 y102) ∧ (Kd.R (Kd.int .i64) 3 w' w.heap.size (fun k_ => some k_ ≠ (s_.1 : Value).ownBlock) s_.2 y105) ∧ (w'.heap[gb101]? = some (.cells #[.slice A0_0 l0_0.length c0_0, .slice A0_1 l0_1.length c0_1] 25 (0, 0))) ∧ (Below w.heap.size w w')) ?_ ?_
   rotate_left
   ·intro hCont
    refine two_ (i := 0) (j := 2) (Ni := some 15) (Nj := some 17) #[true, true, false, false, false] #[false, true, true, false, false] rfl rfl rfl rfl (by kernel_rfl) (by decide) (by decide) (fun K hK => ?_) (fun K hK => ?_)
    ·skip
     refine Kd.R_lit_step (Kd.int .i64) _ 3 ?hg (N := 15) ?hd (xs := ([] : List Int)) (inner := []) (ok := fun _ => True) (okp := fun _ => True) ?hr ?hp (fun _ hk => hk) trivial (Below.refl _ _) (Nat.le_refl _) (by simp) ?_; (case hd => rfl); (case hg => rfl); (case hr => first | (go_simp; done) | (go_simp; rfl)); (case hp => exact (Reps.none _ _))
     intro v103 w9 ho10 hb hg_ hnew_
     clear hg_ hnew_
     (first | rw [← Ny102.out] at ho10 | (simp only [Int.reduceToNat] at ho10; rw [← Ny102.out] at ho10))
     have HO104 := rl ho10 HB
     replace BK101 := bb BK101 hb
     replace HB := bs HB hb
     clear hb ho10
     refine hK.out _ _ trivial (fun hHeld => ?_)
     clear hK K
     refine norm_ (a' := ?_) ?_ ?_
     rotate_left
     ·show Act.put _ (some 15) _ = _
      simp only [Act.put, List.setIfInBounds_toArray, List.set_cons_zero, List.set_cons_succ, i64_w, i32_w]
      rfl
     refine pu 3 9 ?_
     refine on 2 (fun K hK => ?_)
     refine Kd.R_make_step (Kd.int .i64) _ 3 (by rfl) (N := 17) rfl 23 _ _ rfl a2 rfl rfl Tryz.underlying23 (.int .i64 0) 8 info3 rfl (by decide) (by omega) 0 (ok := fun _ => True) (okp := fun _ => True) rfl (fun _ hk => hk) trivial (dT) (Nat.le_trans (Nat.mul_le_mul_right _ (dT : a2.toNat ≤ 35184372088832)) (by omega)) (Below.refl _ _) (Nat.le_refl _) ?_
     intro v106 w11 ho12 hb hg_ hnew_
     clear hg_ hnew_
     (first | rw [← Ny105.out] at ho12 | (simp only [Int.reduceToNat] at ho12; rw [← Ny105.out] at ho12))
     have HO107 := Aside0.mk (Kd.R_lower (Kd.R_new' ho12 (Kd.R_lt (pR HO104.out))) (below_size (pE HB)))
     replace HO104 := re HO104 ho12 hb
     replace BK101 := bb BK101 hb
     replace HB := bs HB hb
     clear hb ho12
     refine hK.out _ _ trivial (fun hHeld => ?_)
     clear hK K
     refine norm_ (a' := ?_) ?_ ?_
     rotate_left
     ·show Act.put _ (some 17) _ = _
      simp only [Act.put, List.setIfInBounds_toArray, List.set_cons_zero, List.set_cons_succ, i64_w, i32_w]
      rfl
     exact norm_ (by simp only [putAll, Act.put, List.setIfInBounds_toArray, List.set_cons_zero, List.set_cons_succ]) (hCont (v103, v106) _ ⟨(by refine pR ?_; exact Kd.R_mono HO104.out (fun _ hk => hk.2)), (by refine pR ?_; exact Kd.R_mono HO107.out (fun _ hk => hk.2)), (pB BK101.out), (pE HB)⟩)
    ·skip
     refine Kd.R_make_step (Kd.int .i64) _ 3 (by rfl) (N := 17) rfl 23 _ _ rfl a2 rfl rfl Tryz.underlying23 (.int .i64 0) 8 info3 rfl (by decide) (by omega) 0 (ok := fun _ => True) (okp := fun _ => True) rfl (fun _ hk => hk) trivial (dT) (Nat.le_trans (Nat.mul_le_mul_right _ (dT : a2.toNat ≤ 35184372088832)) (by omega)) (Below.refl _ _) (Nat.le_refl _) ?_
     intro v106 w9 ho10 hb hg_ hnew_
     clear hg_ hnew_
     (first | rw [← Ny105.out] at ho10 | (simp only [Int.reduceToNat] at ho10; rw [← Ny105.out] at ho10))
     have HO107 := rl ho10 HB
     replace BK101 := bb BK101 hb
     replace HB := bs HB hb
     clear hb ho10
     refine hK.out _ _ trivial (fun hHeld => ?_)
     clear hK K
     refine norm_ (a' := ?_) ?_ ?_
     rotate_left
     ·show Act.put _ (some 17) _ = _
      simp only [Act.put, List.setIfInBounds_toArray, List.set_cons_zero, List.set_cons_succ, i64_w, i32_w]
      rfl
     refine on 0 (fun K hK => ?_)
     refine Kd.R_lit_step (Kd.int .i64) _ 3 ?hg (N := 15) ?hd (xs := ([] : List Int)) (inner := []) (ok := fun _ => True) (okp := fun _ => True) ?hr ?hp (fun _ hk => hk) trivial (Below.refl _ _) (Nat.le_refl _) (by simp) ?_; (case hd => rfl); (case hg => rfl); (case hr => first | (go_simp; done) | (go_simp; rfl)); (case hp => exact (Reps.none _ _))
     intro v103 w11 ho12 hb hg_ hnew_
     clear hg_ hnew_
     (first | rw [← Ny102.out] at ho12 | (simp only [Int.reduceToNat] at ho12; rw [← Ny102.out] at ho12))
     have HO104 := Aside0.mk (Kd.R_lower (Kd.R_new' ho12 (Kd.R_lt (pR HO107.out))) (below_size (pE HB)))
     replace HO107 := re HO107 ho12 hb
     replace BK101 := bb BK101 hb
     replace HB := bs HB hb
     clear hb ho12
     refine hK.out _ _ trivial (fun hHeld => ?_)
     clear hK K
     refine norm_ (a' := ?_) ?_ ?_
     rotate_left
     ·show Act.put _ (some 15) _ = _
      simp only [Act.put, List.setIfInBounds_toArray, List.set_cons_zero, List.set_cons_succ, i64_w, i32_w]
      rfl
     refine pu 3 9 ?_
     exact norm_ (by simp only [putAll, Act.put, List.setIfInBounds_toArray, List.set_cons_zero, List.set_cons_succ]) (hCont (v103, v106) _ ⟨(by refine pR ?_; exact Kd.R_mono HO104.out (fun _ hk => hk.2)), (by refine pR ?_; exact Kd.R_mono HO107.out (fun _ hk => hk.2)), (pB BK101.out), (pE HB)⟩)
   rintro ⟨v103, v106⟩ w13 ⟨h0_, h1_, h2_, h3_⟩
   have n0_ : Aside0 (Kd.R (Kd.int .i64) 3 w13 w.heap.size (fun k_ => some k_ ≠ (v106 : Value).ownBlock) v103 y102) := ⟨h0_⟩
   have n1_ : Aside0 (Kd.R (Kd.int .i64) 3 w13 w.heap.size (fun k_ => some k_ ≠ (v103 : Value).ownBlock) v106 y105) := ⟨h1_⟩
   have n2_ : Aside0 (w13.heap[gb101]? = some (.cells #[.slice A0_0 l0_0.length c0_0, .slice A0_1 l0_1.length c0_1] 25 (0, 0))) := ⟨h2_⟩
   have n3_ : Aside0 (Below w.heap.size w w13) := ⟨h3_⟩
   clear BK101 HB h0_ h1_ h2_ h3_
   have HO104 := n0_
   have HO107 := n1_
   have BK101 := n2_
   have HB := n3_
   clear n0_ n1_ n2_ n3_
   have hHeld := trivial
   refine norm_ (a' := ?_) ?_ ?_
   rotate_left
   ·simp only [putAll, Act.put, List.setIfInBounds_toArray, List.set_cons_zero, List.set_cons_succ]
    rfl
   refine pu 4 10 ?_
   refine done_ (by kernel_rfl) ?_
   try go_wp2
   go_loopg [9, 11] k (fun kq v9 v11 w' => ∃ (x9_1 : List Int) (x10_1 : List Int) (x11_1 : Int), v11 = .int .i64 x11_1 ∧ Aside0 (walkmillref04_Taken.l0 kq l1 a2 l3 x9_1 x10_1 x11_1 l0_0 l0_1 = some r) ∧ Aside0 (kq ≤ k) ∧ Aside0 (Kd.R (Kd.int .i64) 3 w' w.heap.size (fun k_ => some k_ ≠ (v106 : Value).ownBlock) v9 x9_1) ∧ Aside0 (Kd.R (Kd.int .i64) 3 w' w.heap.size (fun k_ => some k_ ≠ (v9 : Value).ownBlock) v106 x10_1) ∧ Aside0 (w'.heap[gb101]? = some (.cells #[(.slice A0_0 l0_0.length c0_0), (.slice A0_1 l0_1.length c0_1)] 25 (0, 0))) ∧ Aside0 (Below w.heap.size w w'))
   case atStart => exact ⟨(y102), (y105), (0), (by first | rfl | (simp; done) | (simp [*]; done)), H', ⟨Nat.le_refl _⟩, ⟨pR HO104.out⟩, ⟨pR HO107.out⟩, ⟨pB BK101.out⟩, ⟨pE HB⟩⟩
   case round =>
    clear H'
    try clear c1
    try clear p2
    try clear c3
    try clear c5
    try clear c5b0
    try clear c5b1
    try clear c6
    try clear c6b0
    try clear c6b1
    obtain ⟨x9_1, x10_1, x11_1, rfl, HA, HK1, HO_9, HO_10, BK101, HB⟩ := hrel
    cases gk with
    | zero => exact absurd HA.out (by simp [walkmillref04_Taken.l0])
    | succ k1 =>
     have H := HA.out
     clear HA
     simp only [walkmillref04_Taken.l0] at H
     by_cases c14 : x11_1 < (l1.length : Int)
     ·rw [if_pos c14] at H
      have c14b0 : decide (x11_1 < (l1.length : Int)) = true := decide_eq_true c14
      clear c14
      have H' := Aside0.mk H
      clear H
      go_wp2
      go_loopg [12, 13] k1 (fun kq v12 v13 w' => ∃ (x12_2 : Int) (x13_2 : Int), v12 = .int .i64 x12_2 ∧ v13 = .int .i64 x13_2 ∧ Aside0 (walkmillref04_Taken.l1 kq l1 a2 l3 x9_1 x10_1 x11_1 x12_2 x13_2 l0_0 l0_1 = some r) ∧ Aside0 (kq ≤ k1) ∧ Aside0 (Kd.R (Kd.int .i64) 3 w' w.heap.size (fun k_ => some k_ ≠ (v106 : Value).ownBlock) u9 x9_1) ∧ Aside0 (Kd.R (Kd.int .i64) 3 w' w.heap.size (fun k_ => some k_ ≠ (u9 : Value).ownBlock) v106 x10_1) ∧ Aside0 (w'.heap[gb101]? = some (.cells #[(.slice A0_0 l0_0.length c0_0), (.slice A0_1 l0_1.length c0_1)] 25 (0, 0))) ∧ Aside0 (Below w.heap.size w w'))
      case atStart => exact ⟨(0), (0), (by first | rfl | (simp; done) | (simp [*]; done)), (by first | rfl | (simp; done) | (simp [*]; done)), H', ⟨Nat.le_refl _⟩, ⟨pR HO_9.out⟩, ⟨pR HO_10.out⟩, ⟨pB BK101.out⟩, ⟨pE HB⟩⟩
      case round =>
       clear H'
       try clear c1
       try clear p2
       try clear c3
       try clear c5
       try clear c5b0
       try clear c5b1
       try clear c6
       try clear c6b0
       try clear c6b1
       try clear c14
       try clear c14b0
       try clear p2
       obtain ⟨x12_2, x13_2, rfl, rfl, HA, HK2, HO_9, HO_10, BK101, HB⟩ := hrel
       cases gk with
       | zero => exact absurd HA.out (by simp [walkmillref04_Taken.l1])
       | succ k2 =>
        have H := HA.out
        clear HA
        simp only [walkmillref04_Taken.l1] at H
        by_cases c15 : x13_2 < a2
        ·rw [if_pos c15] at H
         have c15b0 : decide (x13_2 < a2) = true := decide_eq_true c15
         clear c15
         by_cases c16 : 0 ≤ x13_2
         ·rw [if_pos c16] at H
          have c16b0 : decide (0 ≤ x13_2) = true := decide_eq_true c16
          clear c16
          by_cases c17 : x13_2 < (x10_1.length : Int)
          ·rw [if_pos c17] at H
           have c17b0 : decide (x13_2 < (x10_1.length : Int)) = true := decide_eq_true c17
           clear c17
           by_cases c18 : 0 ≤ x12_2
           ·rw [if_pos c18] at H
            have c18b0 : decide (0 ≤ x12_2) = true := decide_eq_true c18
            clear c18
            by_cases c19 : x12_2 < (x10_1.length : Int)
            ·rw [if_pos c19] at H
             have c19b0 : decide (x12_2 < (x10_1.length : Int)) = true := decide_eq_true c19
             clear c19
             by_cases c20 : (rd x10_1 x13_2) < (rd x10_1 x12_2)
             ·rw [if_pos c20] at H
              have c20b0 : decide ((rd x10_1 x13_2) < (rd x10_1 x12_2)) = true := decide_eq_true c20
              clear c20
              have H' := Aside0.mk H
              clear H
              try go_wp2
              replace HO_9 := Aside0.mk (Kd.R_drew HO_9.out)
              replace HO_10 := Aside0.mk (Kd.R_drew HO_10.out)
              replace BK101 := Aside0.mk (blk_drew BK101.out)
              replace HB := Aside0.mk (below_drew1 HB.out)
              obtain ⟨Ao22, co22, eo22⟩ := Kd.R_slice HO_10.out
              (first | subst eo22 | (injection eo22 with f1_ f2_ f3_; have f4_ := f1_.symm; have f5_ := f3_.symm; clear f1_ f2_ f3_; subst f4_; subst f5_))
              have p117 : 0 ≤ (x13_2 : Int) := dT
              have q117 : x13_2 < (x10_1.length : Int) := dT
              obtain ⟨ad117, e117, hx117_0⟩ := Kd.at_int (Kd.R_reads' HO_10.out).2.2 x13_2 p117 q117
              cases e117
              replace p117 := eq_true p117
              replace q117 := eq_true q117
              have p118 : 0 ≤ (x12_2 : Int) := dT
              have q118 : x12_2 < (x10_1.length : Int) := dT
              obtain ⟨ad118, e118, hx118_0⟩ := Kd.at_int (Kd.R_reads' HO_10.out).2.2 x12_2 p118 q118
              obtain rfl : ad117 = ad118 := (by injection e118)
              replace p118 := eq_true p118
              replace q118 := eq_true q118
              refine start_ (n := 9) (S := fun w' => w'.cell? (ad117.add (x13_2).toNat) = some (.int .i64 (rd x10_1 x13_2)) ∧ w'.cell? (ad117.add (x12_2).toNat) = some (.int .i64 (rd x10_1 x12_2))) (ds := []) #[false, false, false, false, false, false, false, false, false] (by kernel_rfl) rfl rfl ⟨hx117_0, hx118_0⟩ (fun hHeld => ?_); refine with_tabW walkmillref04_Taken.tab9 walkmillref04_Taken.bits9 (fun HT_ HW_ => ?_)
              generalize wr.drew = w21 at HO_9 HO_10 BK101 HB hx117_0 hx118_0 hHeld ⊢
              refine pu 0 29 ?_
              refine pu 1 30 ?_
              refine pu 2 31 ?_
              refine pu 4 33 ?_
              refine pu 5 34 ?_
              refine pu 6 35 ?_
              refine tk 3 32 hHeld ?_
              refine tk 7 36 hHeld ?_
              refine pu 8 37 ?_
              refine done_ (done_of HT_.out (by kernel_rfl)) ?_
              try go_wp2
              go_roundg k2
              case measure => have := HK1.out; have := HK2.out; omega
              case rel => exact ⟨(x13_2), (wrap64 (x13_2 + 1)), (by first | rfl | (simp; done) | (simp [*]; done)), (by first | rfl | (simp; done) | (simp [*]; done)), H', ⟨by have := HK1.out; have := HK2.out; omega⟩, ⟨pR HO_9.out⟩, ⟨pR HO_10.out⟩, ⟨pB BK101.out⟩, ⟨pE HB⟩⟩
             ·rw [if_neg c20] at H
              have c20b0 : decide ((rd x10_1 x13_2) < (rd x10_1 x12_2)) = false := decide_eq_false c20
              clear c20
              have H' := Aside0.mk H
              clear H
              try go_wp2
              replace HO_9 := Aside0.mk (Kd.R_drew HO_9.out)
              replace HO_10 := Aside0.mk (Kd.R_drew HO_10.out)
              replace BK101 := Aside0.mk (blk_drew BK101.out)
              replace HB := Aside0.mk (below_drew1 HB.out)
              obtain ⟨Ao24, co24, eo24⟩ := Kd.R_slice HO_10.out
              (first | subst eo24 | (injection eo24 with f1_ f2_ f3_; have f4_ := f1_.symm; have f5_ := f3_.symm; clear f1_ f2_ f3_; subst f4_; subst f5_))
              have p117 : 0 ≤ (x13_2 : Int) := dT
              have q117 : x13_2 < (x10_1.length : Int) := dT
              obtain ⟨ad117, e117, hx117_0⟩ := Kd.at_int (Kd.R_reads' HO_10.out).2.2 x13_2 p117 q117
              cases e117
              replace p117 := eq_true p117
              replace q117 := eq_true q117
              have p118 : 0 ≤ (x12_2 : Int) := dT
              have q118 : x12_2 < (x10_1.length : Int) := dT
              obtain ⟨ad118, e118, hx118_0⟩ := Kd.at_int (Kd.R_reads' HO_10.out).2.2 x12_2 p118 q118
              obtain rfl : ad117 = ad118 := (by injection e118)
              replace p118 := eq_true p118
              replace q118 := eq_true q118
              refine start_ (n := 9) (S := fun w' => w'.cell? (ad117.add (x13_2).toNat) = some (.int .i64 (rd x10_1 x13_2)) ∧ w'.cell? (ad117.add (x12_2).toNat) = some (.int .i64 (rd x10_1 x12_2))) (ds := []) #[false, false, false, false, false, false, false, false, false] (by kernel_rfl) rfl rfl ⟨hx117_0, hx118_0⟩ (fun hHeld => ?_); refine with_tabW walkmillref04_Taken.tab9 walkmillref04_Taken.bits9 (fun HT_ HW_ => ?_)
              generalize wr.drew = w23 at HO_9 HO_10 BK101 HB hx117_0 hx118_0 hHeld ⊢
              refine pu 0 29 ?_
              refine pu 1 30 ?_
              refine pu 2 31 ?_
              refine pu 4 33 ?_
              refine pu 5 34 ?_
              refine pu 6 35 ?_
              refine tk 3 32 hHeld ?_
              refine tk 7 36 hHeld ?_
              refine pu 8 37 ?_
              refine done_ (done_of HT_.out (by kernel_rfl)) ?_
              try go_wp2
              go_roundg k2
              case measure => have := HK1.out; have := HK2.out; omega
              case rel => exact ⟨(x12_2), (wrap64 (x13_2 + 1)), (by first | rfl | (simp; done) | (simp [*]; done)), (by first | rfl | (simp; done) | (simp [*]; done)), H', ⟨by have := HK1.out; have := HK2.out; omega⟩, ⟨pR HO_9.out⟩, ⟨pR HO_10.out⟩, ⟨pB BK101.out⟩, ⟨pE HB⟩⟩
            ·rw [if_neg c19] at H
             exact absurd H (by simp)
           ·rw [if_neg c18] at H
            exact absurd H (by simp)
          ·rw [if_neg c17] at H
           exact absurd H (by simp)
         ·rw [if_neg c16] at H
          exact absurd H (by simp)
        ·rw [if_neg c15] at H
         have c15b0 : decide (x13_2 < a2) = false := decide_eq_false c15
         clear c15
         by_cases c25 : 0 ≤ x12_2
         ·rw [if_pos c25] at H
          have c25b0 : decide (0 ≤ x12_2) = true := decide_eq_true c25
          clear c25
          by_cases c26 : x12_2 < (x10_1.length : Int)
          ·rw [if_pos c26] at H
           have c26b0 : decide (x12_2 < (x10_1.length : Int)) = true := decide_eq_true c26
           clear c26
           by_cases c27 : 0 ≤ x11_1
           ·rw [if_pos c27] at H
            have c27b0 : decide (0 ≤ x11_1) = true := decide_eq_true c27
            clear c27
            by_cases c28 : x11_1 < (l1.length : Int)
            ·rw [if_pos c28] at H
             have c28b0 : decide (x11_1 < (l1.length : Int)) = true := decide_eq_true c28
             clear c28
             by_cases c29 : 0 ≤ (rd l1 x11_1)
             ·rw [if_pos c29] at H
              have c29b0 : decide (0 ≤ (rd l1 x11_1)) = true := decide_eq_true c29
              clear c29
              by_cases c30 : (rd l1 x11_1) < (l0_0.length : Int)
              ·rw [if_pos c30] at H
               have c30b0 : decide ((rd l1 x11_1) < (l0_0.length : Int)) = true := decide_eq_true c30
               clear c30
               obtain ⟨ji31, hji31⟩ : ∃ j_ : Int, (mx (rd x10_1 x12_2) ((rd_T67 l0_0 (rd l1 x11_1)).f1)) = j_ := ⟨_, rfl⟩
               replace H : (if x9_1.length < 17592186044416 then (if (rd l1 x11_1) < (l3.length : Int) then (walkmillref04_Taken.l0 k2 l1 a2 l3 (x9_1 ++ [ji31]) (x10_1.set (x12_2 : Int).toNat (wrap64 ((ji31) + (rd l3 (rd l1 x11_1))))) (wrap64 (x11_1 + 1)) l0_0 l0_1) else (none)) else (none)) = some r := by first | (rw [hji31] at H; exact H) | (simp only [hji31] at H ⊢; exact H)
               have hji31_ : (if (rd x10_1 x12_2) < ((rd_T67 l0_0 (rd l1 x11_1)).f1) then ((rd_T67 l0_0 (rd l1 x11_1)).f1) else (rd x10_1 x12_2)) = ji31 := hji31
               by_cases c32 : x9_1.length < 17592186044416
               ·rw [if_pos c32] at H
                have LMc32 := Aside0.mk c32
                clear c32
                obtain ⟨y111, hy111⟩ : ∃ y_ : List Int, y_ = (x9_1 ++ [ji31]) := ⟨_, rfl⟩
                replace H : (if (rd l1 x11_1) < (l3.length : Int) then (walkmillref04_Taken.l0 k2 l1 a2 l3 y111 (x10_1.set (x12_2 : Int).toNat (wrap64 ((ji31) + (rd l3 (rd l1 x11_1))))) (wrap64 (x11_1 + 1)) l0_0 l0_1) else (none)) = some r := yy hy111 H
                have Ny111 := Aside0.mk hy111
                clear hy111
                by_cases c33 : (rd l1 x11_1) < (l3.length : Int)
                ·rw [if_pos c33] at H
                 have c33b0 : decide ((rd l1 x11_1) < (l3.length : Int)) = true := decide_eq_true c33
                 clear c33
                 obtain ⟨y116, hy116⟩ : ∃ y_ : List Int, y_ = (x10_1.set (x12_2 : Int).toNat (wrap64 ((ji31) + (rd l3 (rd l1 x11_1))))) := ⟨_, rfl⟩
                 replace H : (walkmillref04_Taken.l0 k2 l1 a2 l3 y111 y116 (wrap64 (x11_1 + 1)) l0_0 l0_1) = some r := yy hy116 H
                 have Ny116 := Aside0.mk hy116
                 clear hy116
                 have H' := Aside0.mk H
                 clear H
                 try go_wp2
                 replace HO_9 := Aside0.mk (Kd.R_drew HO_9.out)
                 replace HO_10 := Aside0.mk (Kd.R_drew HO_10.out)
                 replace BK101 := Aside0.mk (blk_drew BK101.out)
                 replace HB := Aside0.mk (below_drew1 HB.out)
                 obtain ⟨Ao36, co36, eo36⟩ := Kd.R_slice HO_10.out
                 (first | subst eo36 | (injection eo36 with f1_ f2_ f3_; have f4_ := f1_.symm; have f5_ := f3_.symm; clear f1_ f2_ f3_; subst f4_; subst f5_))
                 have p108 : 0 ≤ (x12_2 : Int) := dT
                 have q108 : x12_2 < (x10_1.length : Int) := dT
                 obtain ⟨ad108, e108, hx108_0⟩ := Kd.at_int (Kd.R_reads' HO_10.out).2.2 x12_2 p108 q108
                 cases e108
                 replace p108 := eq_true p108
                 replace q108 := eq_true q108
                 have p109 : 0 ≤ (x11_1 : Int) := dT
                 have q109 : x11_1 < (l1.length : Int) := dT
                 obtain ⟨ad109, e109, hx109_0⟩ := Kd.at_int HR1.out x11_1 p109 q109
                 have hw109_0 := hx109_0
                 cases e109
                 replace hx109_0 := cut_ HB hx109_0
                 replace p109 := eq_true p109
                 replace q109 := eq_true q109
                 have p110 : 0 ≤ ((rd l1 x11_1) : Int) := dT
                 have q110 : (rd l1 x11_1) < (l0_0.length : Int) := dT
                 obtain ⟨ad110, e110, hx110_0, hx110_1, hx110_2, hx110_3⟩ := at_T67 HR0_0.out (rd l1 x11_1) p110 q110
                 have hw110_3 := hx110_3
                 have hw110_2 := hx110_2
                 have hw110_1 := hx110_1
                 have hw110_0 := hx110_0
                 cases e110
                 replace hx110_0 := cut_ HB hx110_0
                 replace hx110_1 := cut_ HB hx110_1
                 replace hx110_2 := cut_ HB hx110_2
                 replace hx110_3 := cut_ HB hx110_3
                 replace p110 := eq_true p110
                 replace q110 := eq_true q110
                 refine start_ (n := 15) (S := fun w' => w'.cell? ⟨gb101, 0, none⟩ = some (.slice (some ad110) l0_0.length c0_0) ∧ w'.cell? ⟨gb101, 1, none⟩ = some (.slice A0_1 l0_1.length c0_1) ∧ w'.cell? (ad108.add (x12_2).toNat) = some (.int .i64 (rd x10_1 x12_2)) ∧ w'.cell? (ad109.add (x11_1).toNat) = some (.int .i64 (rd l1 x11_1)) ∧ w'.cell? (ad110.add (((rd l1 x11_1)).toNat * 4)) = some (.int .i64 ((rd_T67 l0_0 (rd l1 x11_1)).f0)) ∧ w'.cell? ⟨(ad110.add (((rd l1 x11_1)).toNat * 4)).block, (ad110.add (((rd l1 x11_1)).toNat * 4)).off + 1, none⟩ = some (.int .i64 ((rd_T67 l0_0 (rd l1 x11_1)).f1)) ∧ w'.cell? ⟨(ad110.add (((rd l1 x11_1)).toNat * 4)).block, (ad110.add (((rd l1 x11_1)).toNat * 4)).off + 2, none⟩ = some (.int .i64 ((rd_T67 l0_0 (rd l1 x11_1)).f2.f0)) ∧ w'.cell? ⟨(ad110.add (((rd l1 x11_1)).toNat * 4)).block, (ad110.add (((rd l1 x11_1)).toNat * 4)).off + 3, none⟩ = some (.int .i64 ((rd_T67 l0_0 (rd l1 x11_1)).f2.f1))) (ds := []) #[false, false, false, false, false, false, false, false, false, false, false, false, false, false, false] (by kernel_rfl) rfl rfl ⟨(blk_cell BK101.out 0).trans rfl, (blk_cell BK101.out 1).trans rfl, hx108_0, (cB HB hw109_0), (cB HB hw110_0), (cB HB hw110_1), (cB HB hw110_2), (cB HB hw110_3)⟩ (fun hHeld => ?_); refine with_tabW walkmillref04_Taken.tab11 walkmillref04_Taken.bits11 (fun HT_ HW_ => ?_)
                 generalize wr.drew = w35 at HO_9 HO_10 BK101 HB hx108_0 hx109_0 hx110_0 hx110_1 hx110_2 hx110_3 hHeld ⊢
                 refine pu 0 39 ?_
                 refine pu 1 40 ?_
                 refine pu 2 41 ?_
                 refine pu 4 43 ?_
                 refine pu 6 45 ?_
                 refine pu 7 46 ?_
                 refine pu 8 47 ?_
                 refine tk 3 42 hHeld ?_
                 refine tk 5 44 hHeld ?_
                 refine tk 9 48 hHeld ?_
                 refine pu 10 49 ?_
                 refine pu 11 50 ?_
                 refine tk 12 51 hHeld ?_
                 refine pu 13 52 ?_
                 refine pu 14 14 ?_
                 refine done_ (done_of HT_.out (by kernel_rfl)) ?_
                 try go_wp2_with (first | ((with_reducible refine gate_builtin (b := .append) (xs := #[.tmp 53, .tmp 55]) rfl ?_); at_builtin; refine Kd.R_append (Kd.int .i64) (w0 := w) w.heap.size rfl (.tmp 53) (.tmp 55) 23 3 (.int .i64 0) 8 rfl Tryz.underlying23 info3 rfl (by decide) (by omega) u9 x9_1 ji31 [.int .i64 ji31] (fun k_ => some k_ ≠ (.slice (some ad108) x10_1.length co36 : Value).ownBlock) (fun _ => False) rfl rfl ?aP (fun _ hk => hk.elim) ?aF ?aO ?aB ?aS ?aL ?_; (case aP => exact rfl); (case aB => exact (pE HB)); (case aF => exact (fun k_ hk => Kd.fresh' (Kd.R_lt (pR HO_10.out)) k_ hk)); (case aO => exact (pR HO_9.out)); (case aS => exact (below_size (pE HB))); (case aL => have := LMc32.out; omega); intro v112 w37 ho hb hg hat; rw [← Ny111.out] at ho; replace HO_10 := Aside0.mk (Kd.R_after (ok := (fun _ => True)) (by refine pR ?_; exact Kd.R_mono HO_10.out (fun _ hk => ⟨trivial, hk⟩)) hg hat); replace BK101 := Aside0.mk (blk_grown (g := gb101) (o := .cells #[.slice (some ad110) l0_0.length c0_0, .slice A0_1 l0_1.length c0_1] 25 (0, 0)) (pB BK101.out) hg (Kd.R_ne HO_9.out BK101.out (by decide))); replace HB := Aside0.mk (hb); have HO113 := Aside0.mk (ho); clear HO_9; clear ho hb hg hat; have p114 : 0 ≤ (x11_1 : Int) := dT; have q114 : x11_1 < (l1.length : Int) := dT; obtain ⟨ad114, e114, hx114_0⟩ := Kd.at_int HR1.out x11_1 p114 q114; obtain rfl : ad109 = ad114 := (by injection e114); replace hx114_0 := cut_ HB hx114_0; replace p114 := eq_true p114; replace q114 := eq_true q114; have p115 : 0 ≤ ((rd l1 x11_1) : Int) := dT; have q115 : (rd l1 x11_1) < (l3.length : Int) := dT; obtain ⟨ad115, e115, hx115_0⟩ := Kd.at_int HR3.out (rd l1 x11_1) p115 q115; cases e115; replace hx115_0 := cut_ HB hx115_0; replace p115 := eq_true p115; replace q115 := eq_true q115; have p34 : 0 ≤ (x12_2 : Int) := dT; have q34 : (x12_2 : Int) < ((x10_1.length : Int) : Int) := dT; obtain ⟨go34, co34, eo34, gb34, gl34, cl34, HG34⟩ := Kd.R_form HO_10.out (by omega); (first | cases eo34 | (injection eo34 with ea_ en_ ec_; (first | subst ea_ | (injection ea_ with ea_; subst ea_)); subst ec_; clear en_)); have GB34 := Aside0.mk gb34; have GG34 := Aside0.mk HG34; clear gb34 gl34 HG34; (first | simp only [add_plain] at hx108_0 | skip); obtain ⟨hx34_0, hf34_0⟩ := Kd.R_celln 0 HO_10.out (x12_2 : Int) p34 q34; replace p34 := eq_true p34; replace q34 := eq_true q34; have n_ := Aside0.mk (Kd.R_mono (ok' := (fun k_ => some k_ ≠ (v112 : Value).ownBlock)) HO_10.out (fun k_ hk => hk.2)); clear HO_10; have HO_10 := n_; clear n_; obtain ⟨hy38_, hz38_⟩ := Kd.R_celln 0 HO_10.out (x12_2 : Int) (dT) (dT); have HP38 := Kd.R_putg HO_10.out (x12_2 : Int) (wrap64 ((ji31) + (rd l3 (rd l1 x11_1))))) | ((with_reducible refine gate_store (t := 3) (p := 68) rfl ?_); refine store_event (t := 3) (p := 68) (v := ?vo_w39) (w1 := (w37.setCell ⟨go34, (x12_2 : Int).toNat, none⟩ (.int .i64 (wrap64 ((ji31) + (rd l3 (rd l1 x11_1))))))) ?hg ?ho ?hn ?hr ?_; (case ho => rfl); (case hg => rfl); (case hn => rfl); (case hr => first | (go_simp; done) | (go_simp; rfl)); intro w39 hw; have hg : w37.grownBy w39 (some go34) := (by rw [hw]; exact HP38.2); have hp_ : Kd.R (Kd.int .i64) 3 w39 w.heap.size (fun k_ => some k_ ≠ (v112 : Value).ownBlock) (.slice (some ⟨go34, 0, none⟩) x10_1.length co36) y116 := (by rw [hw, Ny116.out]; exact HP38.1); clear HP38; replace BK101 := Aside0.mk (blk_grown (g := gb101) (o := .cells #[.slice (some ad110) l0_0.length c0_0, .slice A0_1 l0_1.length c0_1] 25 (0, 0)) (pB BK101.out) hg (Kd.R_ne HO_10.out BK101.out (by decide))); replace HO_10 := Aside0.mk (hp_); replace HO113 := Aside0.mk (Kd.R_after (v := (.slice (some ⟨go34, 0, none⟩) x10_1.length co36)) (v1 := (.slice (some ⟨go34, 0, none⟩) x10_1.length co36)) (ok := (fun _ => True)) (by refine pR ?_; exact Kd.R_mono HO113.out (fun _ hk => ⟨trivial, hk⟩)) hg (.inl rfl)); replace HB := Aside0.mk ((by rw [hw]; exact below_set (HB.out) GB34.out : Below w.heap.size w w39)); clear hg hw hp_))
                 go_roundg k2
                 case measure => have := HK1.out; have := HK2.out; omega
                 case rel => exact ⟨(y111), (y116), (wrap64 (x11_1 + 1)), (by first | rfl | (simp; done) | (simp [*]; done)), H', ⟨by have := HK1.out; have := HK2.out; omega⟩, ⟨by (with_reducible repeat (first | apply Kd.R_alloc | apply Kd.R_drewN | apply Kd.R_drew)); exact Kd.R_mono HO113.out (fun _ hk => hk.2)⟩, ⟨pR HO_10.out⟩, ⟨pB BK101.out⟩, ⟨pE HB⟩⟩
                ·rw [if_neg c33] at H
                 exact absurd H (by simp)
               ·rw [if_neg c32] at H
                exact absurd H (by simp)
              ·rw [if_neg c30] at H
               exact absurd H (by simp)
             ·rw [if_neg c29] at H
              exact absurd H (by simp)
            ·rw [if_neg c28] at H
             exact absurd H (by simp)
           ·rw [if_neg c27] at H
            exact absurd H (by simp)
          ·rw [if_neg c26] at H
           exact absurd H (by simp)
         ·rw [if_neg c25] at H
          exact absurd H (by simp)
     ·rw [if_neg c14] at H
      have c14b0 : decide (x11_1 < (l1.length : Int)) = false := decide_eq_false c14
      clear c14
      obtain rfl := Option.some.inj H
      go_wp2
      go_ret
      exact ⟨_, eT, by (with_reducible repeat (first | apply Kd.R_alloc | apply Kd.R_drewN | apply Kd.R_drew)); exact Kd.R_mono HO_9.out (fun _ hk => trivial), pE HB⟩
  ·rw [if_neg c6] at H
   exact absurd H (by simp)
 ·rw [if_neg c5] at H
  exact absurd H (by simp)
def walkmillref04_Hours.l0 : Nat → Bool → List Int → Int → List (S67) → List Int → Option (List Int)
 | 0, _, _, _, _, _ => none
 | k + 1, x1, x5, x6, x102000, x102001 => if x6 < (x102000.length : Int) then (if 0 ≤ x6 then (if x1 = true then (if x5.length < 17592186044416 then (walkmillref04_Hours.l0 k x1 (x5 ++ [(rd_T67 x102000 x6).f2.f1]) (wrap64 (x6 + 1)) x102000 x102001) else (none)) else (if x5.length < 17592186044416 then (walkmillref04_Hours.l0 k x1 (x5 ++ [(rd_T67 x102000 x6).f2.f0]) (wrap64 (x6 + 1)) x102000 x102001) else (none))) else (none)) else (some x5)
def walkmillref04_Hours.f (k : Nat) (l0_0 : List (S67)) (l0_1 : List Int) (a1 : Bool) : Option (List Int) := walkmillref04_Hours.l0 k a1 (([] : List Int)) 0 l0_0 l0_1
theorem walkmillref04_Hours.mono_l : ∀ k, (∀ y0 y1 y2 y3 y4, LeO (walkmillref04_Hours.l0 k y0 y1 y2 y3 y4) (walkmillref04_Hours.l0 (k + 1) y0 y1 y2 y3 y4))
 | 0 => fun _ _ _ _ _ r h => by simp [walkmillref04_Hours.l0] at h
 | k + 1 => by
  have ih0 := walkmillref04_Hours.mono_l k
  ·intro y0 y1 y2 y3 y4
   unfold walkmillref04_Hours.l0
   repeat' first
   | (with_reducible exact ih0 _ _ _ _ _)
   | (with_reducible exact LeO.refl _)
   | (with_reducible exact LeO.none _)
   | (with_reducible refine LeO.ite ?_ ?_)
   | (with_reducible refine LeO.bind ?_ (fun _ => ?_))
   | exact ih0 _ _ _ _ _
   | exact LeO.none _
   | refine LeO.ite ?_ ?_
   | refine LeO.bind ?_ (fun _ => ?_)
theorem walkmillref04_Hours.mono : ∀ a0 a1 a2 k, LeO (walkmillref04_Hours.f k a0 a1 a2) (walkmillref04_Hours.f (k + 1) a0 a1 a2) := by
 intro a0 a1 a2 k
 have ih0 := walkmillref04_Hours.mono_l k
 unfold walkmillref04_Hours.f
 repeat' first
   | (with_reducible exact ih0 _ _ _ _ _)
   | (with_reducible exact LeO.refl _)
   | (with_reducible exact LeO.none _)
   | (with_reducible refine LeO.ite ?_ ?_)
   | (with_reducible refine LeO.bind ?_ (fun _ => ?_))
   | exact ih0 _ _ _ _ _
   | exact LeO.none _
   | refine LeO.ite ?_ ?_
   | refine LeO.bind ?_ (fun _ => ?_)
set_option maxHeartbeats 8000000 in
set_option maxRecDepth 100000 in
theorem walkmillref04_Hours.calls (k : Nat) (A0_0 : Option Addr) (c0_0 : Nat) (l0_0 : List (S67)) (A0_1 : Option Addr) (c0_1 : Nat) (l0_1 : List Int) (a1 : Bool) (r : List Int) (w : World) (hr0_0 : Kd.C k67 w A0_0 l0_0.length l0_0) (hc0_0 : l0_0.length ≤ c0_0) (hr0_1 : Kd.C (Kd.int .i64) w A0_1 l0_1.length l0_1) (hc0_1 : l0_1.length ≤ c0_1) (h : walkmillref04_Hours.f k l0_0 l0_1 a1 = some r) :
  Calls Tryz.prog 70 #[.agg #[.slice A0_0 l0_0.length c0_0, .slice A0_1 l0_1.length c0_1], .bool a1] w fun e w' => ∃ v0_ : Value, e = .returned (v0_) ∧ Kd.R (Kd.int .i64) 3 w' w.heap.size (fun _ => True) v0_ r ∧ Below w.heap.size w w' := by
 have hu25 := Tryz.underlying25
 have HR0_0 := Aside0.mk hr0_0
 have HC0_0 := Aside0.mk hc0_0
 clear hr0_0 hc0_0
 have HR0_1 := Aside0.mk hr0_1
 have HC0_1 := Aside0.mk hc0_1
 clear hr0_1 hc0_1
 have HB := Aside0.mk (Below.refl w.heap.size w)
 have H : (walkmillref04_Hours.l0 k a1 (([] : List Int)) 0 l0_0 l0_1) = some r := h
 clear h
 obtain ⟨y102, hy102⟩ : ∃ y_ : List Int, y_ = (([] : List Int)) := ⟨_, rfl⟩
 replace H : (walkmillref04_Hours.l0 k a1 y102 0 l0_0 l0_1) = some r := yy hy102 H
 have Ny102 := Aside0.mk hy102
 clear hy102
 have H' := Aside0.mk H
 clear H
 go_enter Tryz.func70, Tryz.ntmps70
 go_wp2_with (first | ((with_reducible refine gate_dst (N := 2) rfl ?_); refine bx 2 #[.slice A0_0 l0_0.length c0_0, .slice A0_1 l0_1.length c0_1] 25 ?_; intro gb101 hg w3 hbox hb; have BK101 := hbox; have GW101 := gs HB hg; have GE101 := gs HB hg; replace HB := bs HB hb; clear hb hbox hg) | ((with_reducible refine gate_dst (N := 8) rfl ?_); refine Kd.R_lit (Kd.int .i64) _ 3 ?hg (N := 8) ?hd (xs := ([] : List Int)) (inner := []) (ok := fun _ => True) (okp := fun _ => True) ?hr ?hp (fun _ hk => hk) trivial (Below.refl _ _) (Nat.le_refl _) (by simp) ?_; (case hd => rfl); (case hg => rfl); (case hr => first | (go_simp; done) | (go_simp; rfl)); (case hp => exact (Reps.none _ _)); intro v103 w4 ho5 hb hg_ hnew_; clear hg_ hnew_; (first | rw [← Ny102.out] at ho5 | (simp only [Int.reduceToNat] at ho5; rw [← Ny102.out] at ho5)); have HO104 := rl ho5 HB; replace BK101 := bb BK101 hb; replace HB := bs HB hb; clear hb ho5))
 go_loopg [5, 6] k (fun kq v5 v6 w' => ∃ (x5_1 : List Int) (x6_1 : Int), v6 = .int .i64 x6_1 ∧ Aside0 (walkmillref04_Hours.l0 kq a1 x5_1 x6_1 l0_0 l0_1 = some r) ∧ Aside0 (kq ≤ k) ∧ Aside0 (Kd.R (Kd.int .i64) 3 w' w.heap.size (fun _ => True) v5 x5_1) ∧ Aside0 (w'.heap[gb101]? = some (.cells #[(.slice A0_0 l0_0.length c0_0), (.slice A0_1 l0_1.length c0_1)] 25 (0, 0))) ∧ Aside0 (Below w.heap.size w w'))
 case atStart => exact ⟨(y102), (0), (by first | rfl | (simp; done) | (simp [*]; done)), H', ⟨Nat.le_refl _⟩, ⟨pR HO104.out⟩, ⟨pB BK101.out⟩, ⟨pE HB⟩⟩
 case round =>
  clear H'
  try clear p2
  obtain ⟨x5_1, x6_1, rfl, HA, HK1, HO_5, BK101, HB⟩ := hrel
  cases gk with
  | zero => exact absurd HA.out (by simp [walkmillref04_Hours.l0])
  | succ k1 =>
   have H := HA.out
   clear HA
   simp only [walkmillref04_Hours.l0] at H
   by_cases c6 : x6_1 < (l0_0.length : Int)
   ·rw [if_pos c6] at H
    have c6b0 : decide (x6_1 < (l0_0.length : Int)) = true := decide_eq_true c6
    clear c6
    by_cases c7 : 0 ≤ x6_1
    ·rw [if_pos c7] at H
     have c7b0 : decide (0 ≤ x6_1) = true := decide_eq_true c7
     clear c7
     by_cases c8 : a1 = true
     ·subst c8
      rw [if_pos rfl] at H
      by_cases c9 : x5_1.length < 17592186044416
      ·rw [if_pos c9] at H
       have LMc9 := Aside0.mk c9
       clear c9
       obtain ⟨y107, hy107⟩ : ∃ y_ : List Int, y_ = (x5_1 ++ [(rd_T67 l0_0 x6_1).f2.f1]) := ⟨_, rfl⟩
       replace H : (walkmillref04_Hours.l0 k1 true y107 (wrap64 (x6_1 + 1)) l0_0 l0_1) = some r := yy hy107 H
       have Ny107 := Aside0.mk hy107
       clear hy107
       have H' := Aside0.mk H
       clear H
       obtain ⟨_, _, _, _⟩ := cf2 BK101
       have p105 : 0 ≤ (x6_1 : Int) := dT
       have q105 : x6_1 < (l0_0.length : Int) := dT
       obtain ⟨ad105, e105, hx105_0, hx105_1, hx105_2, hx105_3⟩ := at_T67 HR0_0.out x6_1 p105 q105
       cases e105
       replace hx105_0 := cut_ HB hx105_0
       replace hx105_1 := cut_ HB hx105_1
       replace hx105_2 := cut_ HB hx105_2
       replace hx105_3 := cut_ HB hx105_3
       replace p105 := eq_true p105
       replace q105 := eq_true q105
       have p106 : 0 ≤ (x6_1 : Int) := dT
       have q106 : x6_1 < (l0_0.length : Int) := dT
       obtain ⟨ad106, e106, hx106_0, hx106_1, hx106_2, hx106_3⟩ := at_T67 HR0_0.out x6_1 p106 q106
       obtain rfl : ad105 = ad106 := (by injection e106)
       replace hx106_0 := cut_ HB hx106_0
       replace hx106_1 := cut_ HB hx106_1
       replace hx106_2 := cut_ HB hx106_2
       replace hx106_3 := cut_ HB hx106_3
       replace p106 := eq_true p106
       replace q106 := eq_true q106
       go_wp2_with (first | ((with_reducible refine gate_builtin (b := .append) (xs := #[.tmp 31, .tmp 33]) rfl ?_); at_builtin; refine Kd.R_append (Kd.int .i64) (w0 := w) w.heap.size rfl (.tmp 31) (.tmp 33) 23 3 (.int .i64 0) 8 rfl Tryz.underlying23 info3 rfl (by decide) (by omega) u5 x5_1 ((rd_T67 l0_0 x6_1).f2.f1) [.int .i64 ((rd_T67 l0_0 x6_1).f2.f1)] (fun _ => True) (fun _ => False) rfl rfl ?aP (fun _ hk => hk.elim) ?aF ?aO ?aB ?aS ?aL ?_; (case aP => exact rfl); (case aB => exact (pE HB)); (case aF => exact (fun _ _ => trivial)); (case aO => exact (pR HO_5.out)); (case aS => exact (below_size (pE HB))); (case aL => have := LMc9.out; omega); intro v108 w11 ho hb hg hat; rw [← Ny107.out] at ho; replace BK101 := Aside0.mk (blk_grown (g := gb101) (o := .cells #[.slice (some ad105) l0_0.length c0_0, .slice A0_1 l0_1.length c0_1] 25 (0, 0)) (pB BK101.out) hg (Kd.R_ne HO_5.out BK101.out (by decide))); replace HB := Aside0.mk (hb); have HO109 := Aside0.mk (ho); clear HO_5; clear ho hb hg hat))
       go_roundg k1
       case measure => have := HK1.out; omega
       case rel => exact ⟨(y107), (wrap64 (x6_1 + 1)), (by first | rfl | (simp; done) | (simp [*]; done)), H', ⟨by have := HK1.out; omega⟩, ⟨pR HO109.out⟩, ⟨pB BK101.out⟩, ⟨pE HB⟩⟩
      ·rw [if_neg c9] at H
       exact absurd H (by simp)
     ·replace c8 := Bool.eq_false_iff.mpr c8
      subst c8
      rw [if_neg (show ¬ (false = true) by decide)] at H
      by_cases c12 : x5_1.length < 17592186044416
      ·rw [if_pos c12] at H
       have LMc12 := Aside0.mk c12
       clear c12
       obtain ⟨y110, hy110⟩ : ∃ y_ : List Int, y_ = (x5_1 ++ [(rd_T67 l0_0 x6_1).f2.f0]) := ⟨_, rfl⟩
       replace H : (walkmillref04_Hours.l0 k1 false y110 (wrap64 (x6_1 + 1)) l0_0 l0_1) = some r := yy hy110 H
       have Ny110 := Aside0.mk hy110
       clear hy110
       have H' := Aside0.mk H
       clear H
       obtain ⟨_, _, _, _⟩ := cf2 BK101
       have p105 : 0 ≤ (x6_1 : Int) := dT
       have q105 : x6_1 < (l0_0.length : Int) := dT
       obtain ⟨ad105, e105, hx105_0, hx105_1, hx105_2, hx105_3⟩ := at_T67 HR0_0.out x6_1 p105 q105
       cases e105
       replace hx105_0 := cut_ HB hx105_0
       replace hx105_1 := cut_ HB hx105_1
       replace hx105_2 := cut_ HB hx105_2
       replace hx105_3 := cut_ HB hx105_3
       replace p105 := eq_true p105
       replace q105 := eq_true q105
       go_wp2_with (first | ((with_reducible refine gate_builtin (b := .append) (xs := #[.tmp 31, .tmp 33]) rfl ?_); at_builtin; refine Kd.R_append (Kd.int .i64) (w0 := w) w.heap.size rfl (.tmp 31) (.tmp 33) 23 3 (.int .i64 0) 8 rfl Tryz.underlying23 info3 rfl (by decide) (by omega) u5 x5_1 ((rd_T67 l0_0 x6_1).f2.f0) [.int .i64 ((rd_T67 l0_0 x6_1).f2.f0)] (fun _ => True) (fun _ => False) rfl rfl ?aP (fun _ hk => hk.elim) ?aF ?aO ?aB ?aS ?aL ?_; (case aP => exact rfl); (case aB => exact (pE HB)); (case aF => exact (fun _ _ => trivial)); (case aO => exact (pR HO_5.out)); (case aS => exact (below_size (pE HB))); (case aL => have := LMc12.out; omega); intro v111 w14 ho hb hg hat; rw [← Ny110.out] at ho; replace BK101 := Aside0.mk (blk_grown (g := gb101) (o := .cells #[.slice (some ad105) l0_0.length c0_0, .slice A0_1 l0_1.length c0_1] 25 (0, 0)) (pB BK101.out) hg (Kd.R_ne HO_5.out BK101.out (by decide))); replace HB := Aside0.mk (hb); have HO112 := Aside0.mk (ho); clear HO_5; clear ho hb hg hat))
       go_roundg k1
       case measure => have := HK1.out; omega
       case rel => exact ⟨(y110), (wrap64 (x6_1 + 1)), (by first | rfl | (simp; done) | (simp [*]; done)), H', ⟨by have := HK1.out; omega⟩, ⟨pR HO112.out⟩, ⟨pB BK101.out⟩, ⟨pE HB⟩⟩
      ·rw [if_neg c12] at H
       exact absurd H (by simp)
    ·rw [if_neg c7] at H
     exact absurd H (by simp)
   ·rw [if_neg c6] at H
    have c6b0 : decide (x6_1 < (l0_0.length : Int)) = false := decide_eq_false c6
    clear c6
    obtain rfl := Option.some.inj H
    obtain ⟨_, _, _, _⟩ := cf2 BK101
    go_wp2
    go_ret
    exact ⟨_, eT, pR HO_5.out, pE HB⟩
def walkmillref04_Worst.l0 : Nat → List Int → Int → Int → List Int → Int → List (S67) → List Int → Option (Int × Int)
 | 0, _, _, _, _, _, _, _ => none
 | k + 1, x1, x8, x9, x10, x11, x102000, x102001 => if x11 < (x1.length : Int) then (if 0 ≤ x11 then (if x11 < (x10.length : Int) then (if 0 ≤ (rd x1 x11) then (if (rd x1 x11) < (x102000.length : Int) then (if (wrap64 ((rd x10 x11) - ((rd_T67 x102000 (rd x1 x11)).f1))) > x9 then (walkmillref04_Worst.l0 k x1 (rd x1 x11) (wrap64 ((rd x10 x11) - ((rd_T67 x102000 (rd x1 x11)).f1))) x10 (wrap64 (x11 + 1)) x102000 x102001) else (walkmillref04_Worst.l0 k x1 x8 x9 x10 (wrap64 (x11 + 1)) x102000 x102001)) else (none)) else (none)) else (none)) else (none)) else (some (x8, x9))
def walkmillref04_Worst.f (k : Nat) (l0_0 : List (S67)) (l0_1 : List Int) (l1 : List Int) (a2 : Int) : Option (Int × Int) := (walkmillref04_Hours.f k l0_0 l0_1 true).bind fun t102 => ((walkmillref04_Taken.f k l0_0 l0_1 l1 a2 t102).bind fun t105 => (walkmillref04_Worst.l0 k l1 (-1) (-1) t105 0 l0_0 l0_1))
theorem walkmillref04_Worst.mono_l : ∀ k, (∀ y0 y1 y2 y3 y4 y5 y6, LeO (walkmillref04_Worst.l0 k y0 y1 y2 y3 y4 y5 y6) (walkmillref04_Worst.l0 (k + 1) y0 y1 y2 y3 y4 y5 y6))
 | 0 => fun _ _ _ _ _ _ _ r h => by simp [walkmillref04_Worst.l0] at h
 | k + 1 => by
  have ih0 := walkmillref04_Worst.mono_l k
  ·intro y0 y1 y2 y3 y4 y5 y6
   unfold walkmillref04_Worst.l0
   repeat' first
   | (with_reducible exact ih0 _ _ _ _ _ _ _)
   | (with_reducible exact walkmillref04_Hours.mono _ _ _ _)
   | (with_reducible exact walkmillref04_Taken.mono _ _ _ _ _ _)
   | (with_reducible exact LeO.refl _)
   | (with_reducible exact LeO.none _)
   | (with_reducible refine LeO.ite ?_ ?_)
   | (with_reducible refine LeO.bind ?_ (fun _ => ?_))
   | exact ih0 _ _ _ _ _ _ _
   | exact walkmillref04_Hours.mono _ _ _ _
   | exact walkmillref04_Taken.mono _ _ _ _ _ _
   | exact LeO.none _
   | refine LeO.ite ?_ ?_
   | refine LeO.bind ?_ (fun _ => ?_)
theorem walkmillref04_Worst.mono : ∀ a0 a1 a2 a3 k, LeO (walkmillref04_Worst.f k a0 a1 a2 a3) (walkmillref04_Worst.f (k + 1) a0 a1 a2 a3) := by
 intro a0 a1 a2 a3 k
 have ih0 := walkmillref04_Worst.mono_l k
 unfold walkmillref04_Worst.f
 repeat' first
   | (with_reducible exact ih0 _ _ _ _ _ _ _)
   | (with_reducible exact walkmillref04_Hours.mono _ _ _ _)
   | (with_reducible exact walkmillref04_Taken.mono _ _ _ _ _ _)
   | (with_reducible exact LeO.refl _)
   | (with_reducible exact LeO.none _)
   | (with_reducible refine LeO.ite ?_ ?_)
   | (with_reducible refine LeO.bind ?_ (fun _ => ?_))
   | exact ih0 _ _ _ _ _ _ _
   | exact walkmillref04_Hours.mono _ _ _ _
   | exact walkmillref04_Taken.mono _ _ _ _ _ _
   | exact LeO.none _
   | refine LeO.ite ?_ ?_
   | refine LeO.bind ?_ (fun _ => ?_)
def walkmillref04_Worst.T1 : Bool × List (List Nat × List Nat) := (true, [([], []), ([], []), ([], []), ([], []), ([3], [3]), ([0, 1, 2, 4, 4], [0, 1, 2, 4]), ([5], []), ([6, 6], []), ([5, 7, 0, 1, 2, 3, 4, 5, 6, 7], [5])])
def walkmillref04_Worst.B1 : List Nat := [0, 0, 0, 0, 8, 31, 63, 127, 255]
theorem walkmillref04_Worst.tab1 : rtab .any (opsOf Tryz.f32 1) = walkmillref04_Worst.T1 := by kernel_rfl
theorem walkmillref04_Worst.bits1 : waitsOk walkmillref04_Worst.T1.2 walkmillref04_Worst.B1 = true := by kernel_rfl
def walkmillref04_Worst.T5 : Bool × List (List Nat × List Nat) := (true, [([], []), ([], []), ([0, 1], [0, 1]), ([2], [2]), ([], []), ([4], [4]), ([], []), ([], []), ([6, 7], [6, 7]), ([8], [8]), ([5, 9], [5, 9]), ([10], [10]), ([11], [11]), ([3, 12], [3, 12]), ([13, 0, 1, 2, 3, 4, 5, 6, 7, 8, 9, 10, 11, 12, 13], [13])])
def walkmillref04_Worst.B5 : List Nat := [0, 0, 3, 7, 0, 16, 0, 0, 192, 448, 1008, 2032, 4080, 8191, 16383]
theorem walkmillref04_Worst.tab5 : rtab .any (opsOf Tryz.f32 5) = walkmillref04_Worst.T5 := by kernel_rfl
theorem walkmillref04_Worst.bits5 : waitsOk walkmillref04_Worst.T5.2 walkmillref04_Worst.B5 = true := by kernel_rfl
set_option maxHeartbeats 8000000 in
set_option maxRecDepth 100000 in
theorem walkmillref04_Worst.calls (k : Nat) (A0_0 : Option Addr) (c0_0 : Nat) (l0_0 : List (S67)) (A0_1 : Option Addr) (c0_1 : Nat) (l0_1 : List Int) (A1 : Option Addr) (c1 : Nat) (l1 : List Int) (a2 : Int) (r1 : Int) (r2 : Int) (w : World) (hr0_0 : Kd.C k67 w A0_0 l0_0.length l0_0) (hc0_0 : l0_0.length ≤ c0_0) (hr0_1 : Kd.C (Kd.int .i64) w A0_1 l0_1.length l0_1) (hc0_1 : l0_1.length ≤ c0_1) (hr1 : Kd.C (Kd.int .i64) w A1 l1.length l1) (hc1 : l1.length ≤ c1) (h : walkmillref04_Worst.f k l0_0 l0_1 l1 a2 = some (r1, r2)) :
  Calls Tryz.prog 32 #[.agg #[.slice A0_0 l0_0.length c0_0, .slice A0_1 l0_1.length c0_1], .slice A1 l1.length c1, .int .i64 a2] w fun e w' => e = .returned (.tuple #[.int .i64 r1, .int .i64 r2]) ∧ Below w.heap.size w w' := by
 have hu25 := Tryz.underlying25
 have HR0_0 := Aside0.mk hr0_0
 have HC0_0 := Aside0.mk hc0_0
 clear hr0_0 hc0_0
 have HR0_1 := Aside0.mk hr0_1
 have HC0_1 := Aside0.mk hc0_1
 clear hr0_1 hc0_1
 have HR1 := Aside0.mk hr1
 have HC1 := Aside0.mk hc1
 clear hr1 hc1
 have HB := Aside0.mk (Below.refl w.heap.size w)
 have H : ((walkmillref04_Hours.f k l0_0 l0_1 true).bind fun t102 => ((walkmillref04_Taken.f k l0_0 l0_1 l1 a2 t102).bind fun t105 => (walkmillref04_Worst.l0 k l1 (-1) (-1) t105 0 l0_0 l0_1))) = some (r1, r2) := h
 clear h
 obtain ⟨t102, A4, H⟩ := bi H
 obtain ⟨t105, A5, H⟩ := bi H
 have H' := Aside0.mk H
 clear H
 go_enter Tryz.func32, Tryz.ntmps32
 try go_wp2_with (first | ((with_reducible refine gate_dst (N := 3) rfl ?_); refine bx 3 #[.slice A0_0 l0_0.length c0_0, .slice A0_1 l0_1.length c0_1] 25 ?_; intro gb101 hg w6 hbox hb; have BK101 := hbox; have GW101 := gs HB hg; have GE101 := gs HB hg; replace HB := bs HB hb; clear hb hbox hg))
 replace BK101 := Aside0.mk (blk_drew BK101.out)
 replace HB := Aside0.mk (below_drew1 HB.out)
 refine start_ (n := 9) (S := fun w' => w'.cell? ⟨gb101, 0, none⟩ = some (.slice A0_0 l0_0.length c0_0) ∧ w'.cell? ⟨gb101, 1, none⟩ = some (.slice A0_1 l0_1.length c0_1)) (ds := []) #[false, false, false, false, false, false, false, false, false] (by kernel_rfl) rfl rfl ⟨(blk_cell BK101.out 0).trans rfl, (blk_cell BK101.out 1).trans rfl⟩ (fun hHeld => ?_); refine with_tabW walkmillref04_Worst.tab1 walkmillref04_Worst.bits1 (fun HT_ HW_ => ?_)
 generalize w6.drew = w7 at BK101 HB hHeld ⊢
 refine pu 1 14 ?_
 refine pu 2 15 ?_
 refine tk 0 13 hHeld ?_
 refine tk 3 16 hHeld ?_
 refine on 4 (fun K hK => ?_)
 refine gO Tryz.func70 #[.agg #[.slice A0_0 l0_0.length c0_0, .slice A0_1 l0_1.length c0_1], .bool true] ?_
 with_reducible refine (walkmillref04_Hours.calls k _ _ l0_0 _ _ l0_1 true t102 _ ?side1 ?side2 ?side3 ?side4 A4.out).mono ?_
 (case side1 => exact pC (Kd.C_below HR0_0.out HB.out))
 (case side2 => exact HC0_0.out)
 (case side3 => exact pC (Kd.C_below HR0_1.out HB.out))
 (case side4 => exact HC0_1.out)
 rintro e w8 ⟨v103, rfl, ho0, hb⟩
 refine ⟨_, rfl, ?_⟩
 have HO104 := rl ho0 HB
 replace BK101 := bb BK101 hb
 replace HB := bs HB hb
 (try clear hb)
 (try clear hb2)
 (try clear hk)
 (try clear hi)
 (try clear ho0)
 obtain ⟨Ao9, co9, eo9⟩ := Kd.R_slice HO104.out
 (first | subst eo9 | (injection eo9 with f1_ f2_ f3_; have f4_ := f1_.symm; have f5_ := f3_.symm; clear f1_ f2_ f3_; subst f4_; subst f5_))
 refine hK.out _ _ ⟨(blk_cell BK101.out 0).trans rfl, (blk_cell BK101.out 1).trans rfl⟩ (fun hHeld => ?_)
 clear hK K
 refine norm_ (a' := ?_) ?_ ?_
 rotate_left
 ·show Act.put _ (some 17) _ = _
  simp only [Act.put, List.setIfInBounds_toArray, List.set_cons_zero, List.set_cons_succ, i64_w, i32_w]
  rfl
 refine on 5 (fun K hK => ?_)
 refine gO Tryz.func69 #[.agg #[.slice A0_0 l0_0.length c0_0, .slice A0_1 l0_1.length c0_1], .slice A1 l1.length c1, .int .i64 a2, .slice Ao9 t102.length co9] ?_
 with_reducible refine (walkmillref04_Taken.calls k _ _ l0_0 _ _ l0_1 _ _ l1 a2 _ _ t102 t105 _ ?side1 ?side2 ?side3 ?side4 ?side5 ?side6 ?side7 ?side8 A5.out).mono ?_
 (case side1 => exact pC (Kd.C_below HR0_0.out HB.out))
 (case side2 => exact HC0_0.out)
 (case side3 => exact pC (Kd.C_below HR0_1.out HB.out))
 (case side4 => exact HC0_1.out)
 (case side5 => exact pC (Kd.C_below HR1.out HB.out))
 (case side6 => exact HC1.out)
 (case side7 => exact pC (Kd.R_reads' HO104.out).2.2)
 (case side8 => exact (Kd.R_reads' HO104.out).2.1)
 rintro e w10 ⟨v106, rfl, ho0, hb⟩
 refine ⟨_, rfl, ?_⟩
 have HO107 := Aside0.mk (Kd.R_lower (Kd.R_new' ho0 (Kd.R_lt (pR HO104.out))) (below_size (pE HB)))
 replace HO104 := re HO104 ho0 hb
 replace BK101 := bb BK101 hb
 replace HB := bs HB hb
 (try clear hb)
 (try clear hb2)
 (try clear hk)
 (try clear hi)
 (try clear ho0)
 refine hK.out _ _ ⟨(blk_cell BK101.out 0).trans rfl, (blk_cell BK101.out 1).trans rfl⟩ (fun hHeld => ?_)
 clear hK K
 refine norm_ (a' := ?_) ?_ ?_
 rotate_left
 ·show Act.put _ (some 18) _ = _
  simp only [Act.put, List.setIfInBounds_toArray, List.set_cons_zero, List.set_cons_succ, i64_w, i32_w]
  rfl
 refine pu 6 8 ?_
 refine pu 7 9 ?_
 refine pu 8 10 ?_
 refine done_ (done_of HT_.out (by kernel_rfl)) ?_
 try go_wp2
 go_loopg [8, 9, 11] k (fun kq v8 v9 v11 w' => ∃ (x8_1 : Int) (x9_1 : Int) (x11_1 : Int), v8 = .int .i64 x8_1 ∧ v9 = .int .i64 x9_1 ∧ v11 = .int .i64 x11_1 ∧ Aside0 (walkmillref04_Worst.l0 kq l1 x8_1 x9_1 t105 x11_1 l0_0 l0_1 = some (r1, r2)) ∧ Aside0 (kq ≤ k) ∧ Aside0 (Kd.R (Kd.int .i64) 3 w' w.heap.size (fun _ => True) v106 t105) ∧ Aside0 (w'.heap[gb101]? = some (.cells #[(.slice A0_0 l0_0.length c0_0), (.slice A0_1 l0_1.length c0_1)] 25 (0, 0))) ∧ Aside0 (Below w.heap.size w w'))
 case atStart => exact ⟨((-1)), ((-1)), (0), (by first | rfl | (simp; done) | (simp [*]; done)), (by first | rfl | (simp; done) | (simp [*]; done)), (by first | rfl | (simp; done) | (simp [*]; done)), H', ⟨Nat.le_refl _⟩, ⟨by (with_reducible repeat (first | apply Kd.R_alloc | apply Kd.R_drewN | apply Kd.R_drew)); exact Kd.R_mono HO107.out (fun _ hk => trivial)⟩, ⟨pB BK101.out⟩, ⟨pE HB⟩⟩
 case round =>
  clear H'
  try clear c1
  try clear p2
  try clear c3
  try clear c6
  try clear c7
  obtain ⟨x8_1, x9_1, x11_1, rfl, rfl, rfl, HA, HK1, HO_10, BK101, HB⟩ := hrel
  cases gk with
  | zero => exact absurd HA.out (by simp [walkmillref04_Worst.l0])
  | succ k1 =>
   have H := HA.out
   clear HA
   simp only [walkmillref04_Worst.l0] at H
   by_cases c11 : x11_1 < (l1.length : Int)
   ·rw [if_pos c11] at H
    have c11b0 : decide (x11_1 < (l1.length : Int)) = true := decide_eq_true c11
    clear c11
    by_cases c12 : 0 ≤ x11_1
    ·rw [if_pos c12] at H
     have c12b0 : decide (0 ≤ x11_1) = true := decide_eq_true c12
     clear c12
     by_cases c13 : x11_1 < (t105.length : Int)
     ·rw [if_pos c13] at H
      have c13b0 : decide (x11_1 < (t105.length : Int)) = true := decide_eq_true c13
      clear c13
      by_cases c14 : 0 ≤ (rd l1 x11_1)
      ·rw [if_pos c14] at H
       have c14b0 : decide (0 ≤ (rd l1 x11_1)) = true := decide_eq_true c14
       clear c14
       by_cases c15 : (rd l1 x11_1) < (l0_0.length : Int)
       ·rw [if_pos c15] at H
        have c15b0 : decide ((rd l1 x11_1) < (l0_0.length : Int)) = true := decide_eq_true c15
        clear c15
        by_cases c16 : (wrap64 ((rd t105 x11_1) - ((rd_T67 l0_0 (rd l1 x11_1)).f1))) > x9_1
        ·rw [if_pos c16] at H
         have c16b0 : decide (x9_1 < (wrap64 ((rd t105 x11_1) - ((rd_T67 l0_0 (rd l1 x11_1)).f1)))) = true := decide_eq_true c16
         clear c16
         have H' := Aside0.mk H
         clear H
         try go_wp2
         replace HO_10 := Aside0.mk (Kd.R_drew HO_10.out)
         replace BK101 := Aside0.mk (blk_drew BK101.out)
         replace HB := Aside0.mk (below_drew1 HB.out)
         obtain ⟨Ao18, co18, eo18⟩ := Kd.R_slice HO_10.out
         (first | subst eo18 | (injection eo18 with f1_ f2_ f3_; have f4_ := f1_.symm; have f5_ := f3_.symm; clear f1_ f2_ f3_; subst f4_; subst f5_))
         have p108 : 0 ≤ (x11_1 : Int) := dT
         have q108 : x11_1 < (t105.length : Int) := dT
         obtain ⟨ad108, e108, hx108_0⟩ := Kd.at_int (Kd.R_reads' HO_10.out).2.2 x11_1 p108 q108
         cases e108
         replace p108 := eq_true p108
         replace q108 := eq_true q108
         have p109 : 0 ≤ (x11_1 : Int) := dT
         have q109 : x11_1 < (l1.length : Int) := dT
         obtain ⟨ad109, e109, hx109_0⟩ := Kd.at_int HR1.out x11_1 p109 q109
         have hw109_0 := hx109_0
         cases e109
         replace hx109_0 := cut_ HB hx109_0
         replace p109 := eq_true p109
         replace q109 := eq_true q109
         have p110 : 0 ≤ ((rd l1 x11_1) : Int) := dT
         have q110 : (rd l1 x11_1) < (l0_0.length : Int) := dT
         obtain ⟨ad110, e110, hx110_0, hx110_1, hx110_2, hx110_3⟩ := at_T67 HR0_0.out (rd l1 x11_1) p110 q110
         have hw110_3 := hx110_3
         have hw110_2 := hx110_2
         have hw110_1 := hx110_1
         have hw110_0 := hx110_0
         cases e110
         replace hx110_0 := cut_ HB hx110_0
         replace hx110_1 := cut_ HB hx110_1
         replace hx110_2 := cut_ HB hx110_2
         replace hx110_3 := cut_ HB hx110_3
         replace p110 := eq_true p110
         replace q110 := eq_true q110
         refine start_ (n := 15) (S := fun w' => w'.cell? ⟨gb101, 0, none⟩ = some (.slice (some ad110) l0_0.length c0_0) ∧ w'.cell? ⟨gb101, 1, none⟩ = some (.slice A0_1 l0_1.length c0_1) ∧ w'.cell? (ad108.add (x11_1).toNat) = some (.int .i64 (rd t105 x11_1)) ∧ w'.cell? (ad109.add (x11_1).toNat) = some (.int .i64 (rd l1 x11_1)) ∧ w'.cell? (ad110.add (((rd l1 x11_1)).toNat * 4)) = some (.int .i64 ((rd_T67 l0_0 (rd l1 x11_1)).f0)) ∧ w'.cell? ⟨(ad110.add (((rd l1 x11_1)).toNat * 4)).block, (ad110.add (((rd l1 x11_1)).toNat * 4)).off + 1, none⟩ = some (.int .i64 ((rd_T67 l0_0 (rd l1 x11_1)).f1)) ∧ w'.cell? ⟨(ad110.add (((rd l1 x11_1)).toNat * 4)).block, (ad110.add (((rd l1 x11_1)).toNat * 4)).off + 2, none⟩ = some (.int .i64 ((rd_T67 l0_0 (rd l1 x11_1)).f2.f0)) ∧ w'.cell? ⟨(ad110.add (((rd l1 x11_1)).toNat * 4)).block, (ad110.add (((rd l1 x11_1)).toNat * 4)).off + 3, none⟩ = some (.int .i64 ((rd_T67 l0_0 (rd l1 x11_1)).f2.f1))) (ds := []) #[false, false, false, false, false, false, false, false, false, false, false, false, false, false, false] (by kernel_rfl) rfl rfl ⟨(blk_cell BK101.out 0).trans rfl, (blk_cell BK101.out 1).trans rfl, hx108_0, (cB HB hw109_0), (cB HB hw110_0), (cB HB hw110_1), (cB HB hw110_2), (cB HB hw110_3)⟩ (fun hHeld => ?_); refine with_tabW walkmillref04_Worst.tab5 walkmillref04_Worst.bits5 (fun HT_ HW_ => ?_)
         generalize wr.drew = w17 at HO_10 BK101 HB hx108_0 hx109_0 hx110_0 hx110_1 hx110_2 hx110_3 hHeld ⊢
         refine pu 0 25 ?_
         refine pu 1 26 ?_
         refine pu 2 27 ?_
         refine pu 4 29 ?_
         refine pu 6 31 ?_
         refine pu 7 32 ?_
         refine pu 8 33 ?_
         refine tk 3 28 hHeld ?_
         refine tk 5 30 hHeld ?_
         refine tk 9 34 hHeld ?_
         refine pu 10 35 ?_
         refine pu 11 36 ?_
         refine tk 12 37 hHeld ?_
         refine pu 13 38 ?_
         refine pu 14 12 ?_
         refine done_ (done_of HT_.out (by kernel_rfl)) ?_
         have p111 : 0 ≤ (x11_1 : Int) := dT
         have q111 : x11_1 < (l1.length : Int) := dT
         obtain ⟨ad111, e111, hx111_0⟩ := Kd.at_int HR1.out x11_1 p111 q111
         obtain rfl : ad109 = ad111 := (by injection e111)
         replace hx111_0 := cut_ HB hx111_0
         replace p111 := eq_true p111
         replace q111 := eq_true q111
         try go_wp2
         go_roundg k1
         case measure => have := HK1.out; omega
         case rel => exact ⟨(rd l1 x11_1), (wrap64 ((rd t105 x11_1) - ((rd_T67 l0_0 (rd l1 x11_1)).f1))), (wrap64 (x11_1 + 1)), (by first | rfl | (simp; done) | (simp [*]; done)), (by first | rfl | (simp; done) | (simp [*]; done)), (by first | rfl | (simp; done) | (simp [*]; done)), H', ⟨by have := HK1.out; omega⟩, ⟨pR HO_10.out⟩, ⟨pB BK101.out⟩, ⟨pE HB⟩⟩
        ·rw [if_neg c16] at H
         have c16b0 : decide (x9_1 < (wrap64 ((rd t105 x11_1) - ((rd_T67 l0_0 (rd l1 x11_1)).f1)))) = false := decide_eq_false c16
         clear c16
         have H' := Aside0.mk H
         clear H
         try go_wp2
         replace HO_10 := Aside0.mk (Kd.R_drew HO_10.out)
         replace BK101 := Aside0.mk (blk_drew BK101.out)
         replace HB := Aside0.mk (below_drew1 HB.out)
         obtain ⟨Ao20, co20, eo20⟩ := Kd.R_slice HO_10.out
         (first | subst eo20 | (injection eo20 with f1_ f2_ f3_; have f4_ := f1_.symm; have f5_ := f3_.symm; clear f1_ f2_ f3_; subst f4_; subst f5_))
         have p108 : 0 ≤ (x11_1 : Int) := dT
         have q108 : x11_1 < (t105.length : Int) := dT
         obtain ⟨ad108, e108, hx108_0⟩ := Kd.at_int (Kd.R_reads' HO_10.out).2.2 x11_1 p108 q108
         cases e108
         replace p108 := eq_true p108
         replace q108 := eq_true q108
         have p109 : 0 ≤ (x11_1 : Int) := dT
         have q109 : x11_1 < (l1.length : Int) := dT
         obtain ⟨ad109, e109, hx109_0⟩ := Kd.at_int HR1.out x11_1 p109 q109
         have hw109_0 := hx109_0
         cases e109
         replace hx109_0 := cut_ HB hx109_0
         replace p109 := eq_true p109
         replace q109 := eq_true q109
         have p110 : 0 ≤ ((rd l1 x11_1) : Int) := dT
         have q110 : (rd l1 x11_1) < (l0_0.length : Int) := dT
         obtain ⟨ad110, e110, hx110_0, hx110_1, hx110_2, hx110_3⟩ := at_T67 HR0_0.out (rd l1 x11_1) p110 q110
         have hw110_3 := hx110_3
         have hw110_2 := hx110_2
         have hw110_1 := hx110_1
         have hw110_0 := hx110_0
         cases e110
         replace hx110_0 := cut_ HB hx110_0
         replace hx110_1 := cut_ HB hx110_1
         replace hx110_2 := cut_ HB hx110_2
         replace hx110_3 := cut_ HB hx110_3
         replace p110 := eq_true p110
         replace q110 := eq_true q110
         refine start_ (n := 15) (S := fun w' => w'.cell? ⟨gb101, 0, none⟩ = some (.slice (some ad110) l0_0.length c0_0) ∧ w'.cell? ⟨gb101, 1, none⟩ = some (.slice A0_1 l0_1.length c0_1) ∧ w'.cell? (ad108.add (x11_1).toNat) = some (.int .i64 (rd t105 x11_1)) ∧ w'.cell? (ad109.add (x11_1).toNat) = some (.int .i64 (rd l1 x11_1)) ∧ w'.cell? (ad110.add (((rd l1 x11_1)).toNat * 4)) = some (.int .i64 ((rd_T67 l0_0 (rd l1 x11_1)).f0)) ∧ w'.cell? ⟨(ad110.add (((rd l1 x11_1)).toNat * 4)).block, (ad110.add (((rd l1 x11_1)).toNat * 4)).off + 1, none⟩ = some (.int .i64 ((rd_T67 l0_0 (rd l1 x11_1)).f1)) ∧ w'.cell? ⟨(ad110.add (((rd l1 x11_1)).toNat * 4)).block, (ad110.add (((rd l1 x11_1)).toNat * 4)).off + 2, none⟩ = some (.int .i64 ((rd_T67 l0_0 (rd l1 x11_1)).f2.f0)) ∧ w'.cell? ⟨(ad110.add (((rd l1 x11_1)).toNat * 4)).block, (ad110.add (((rd l1 x11_1)).toNat * 4)).off + 3, none⟩ = some (.int .i64 ((rd_T67 l0_0 (rd l1 x11_1)).f2.f1))) (ds := []) #[false, false, false, false, false, false, false, false, false, false, false, false, false, false, false] (by kernel_rfl) rfl rfl ⟨(blk_cell BK101.out 0).trans rfl, (blk_cell BK101.out 1).trans rfl, hx108_0, (cB HB hw109_0), (cB HB hw110_0), (cB HB hw110_1), (cB HB hw110_2), (cB HB hw110_3)⟩ (fun hHeld => ?_); refine with_tabW walkmillref04_Worst.tab5 walkmillref04_Worst.bits5 (fun HT_ HW_ => ?_)
         generalize wr.drew = w19 at HO_10 BK101 HB hx108_0 hx109_0 hx110_0 hx110_1 hx110_2 hx110_3 hHeld ⊢
         refine pu 0 25 ?_
         refine pu 1 26 ?_
         refine pu 2 27 ?_
         refine pu 4 29 ?_
         refine pu 6 31 ?_
         refine pu 7 32 ?_
         refine pu 8 33 ?_
         refine tk 3 28 hHeld ?_
         refine tk 5 30 hHeld ?_
         refine tk 9 34 hHeld ?_
         refine pu 10 35 ?_
         refine pu 11 36 ?_
         refine tk 12 37 hHeld ?_
         refine pu 13 38 ?_
         refine pu 14 12 ?_
         refine done_ (done_of HT_.out (by kernel_rfl)) ?_
         try go_wp2
         go_roundg k1
         case measure => have := HK1.out; omega
         case rel => exact ⟨(x8_1), (x9_1), (wrap64 (x11_1 + 1)), (by first | rfl | (simp; done) | (simp [*]; done)), (by first | rfl | (simp; done) | (simp [*]; done)), (by first | rfl | (simp; done) | (simp [*]; done)), H', ⟨by have := HK1.out; omega⟩, ⟨pR HO_10.out⟩, ⟨pB BK101.out⟩, ⟨pE HB⟩⟩
       ·rw [if_neg c15] at H
        exact absurd H (by simp)
      ·rw [if_neg c14] at H
       exact absurd H (by simp)
     ·rw [if_neg c13] at H
      exact absurd H (by simp)
    ·rw [if_neg c12] at H
     exact absurd H (by simp)
   ·rw [if_neg c11] at H
    have c11b0 : decide (x11_1 < (l1.length : Int)) = false := decide_eq_false c11
    clear c11
    simp only [Option.some.injEq, Prod.mk.injEq] at H
    obtain ⟨rfl, rfl⟩ := H
    go_wp2
    go_ret2
    exact ⟨eT, pE HB⟩
def walkmillref04_Late.f (k : Nat) (l0_0 : List (S67)) (l0_1 : List Int) (l1 : List Int) (a2 : Int) (a3 : Int) : Option (Bool) := (walkmillref04_Worst.f k l0_0 l0_1 l1 a2).bind fun bt102 => (some (decide (bt102.2 > a3)))
theorem walkmillref04_Late.mono : ∀ a0 a1 a2 a3 a4 k, LeO (walkmillref04_Late.f k a0 a1 a2 a3 a4) (walkmillref04_Late.f (k + 1) a0 a1 a2 a3 a4) := by
 intro a0 a1 a2 a3 a4 k
 unfold walkmillref04_Late.f
 repeat' first
   | (with_reducible exact walkmillref04_Worst.mono _ _ _ _ _)
   | (with_reducible exact LeO.refl _)
   | (with_reducible exact LeO.none _)
   | (with_reducible refine LeO.ite ?_ ?_)
   | (with_reducible refine LeO.bind ?_ (fun _ => ?_))
   | exact walkmillref04_Worst.mono _ _ _ _ _
   | exact LeO.none _
   | refine LeO.ite ?_ ?_
   | refine LeO.bind ?_ (fun _ => ?_)
set_option maxHeartbeats 8000000 in
set_option maxRecDepth 100000 in
theorem walkmillref04_Late.calls (k : Nat) (A0_0 : Option Addr) (c0_0 : Nat) (l0_0 : List (S67)) (A0_1 : Option Addr) (c0_1 : Nat) (l0_1 : List Int) (A1 : Option Addr) (c1 : Nat) (l1 : List Int) (a2 : Int) (a3 : Int) (r : Bool) (w : World) (hr0_0 : Kd.C k67 w A0_0 l0_0.length l0_0) (hc0_0 : l0_0.length ≤ c0_0) (hr0_1 : Kd.C (Kd.int .i64) w A0_1 l0_1.length l0_1) (hc0_1 : l0_1.length ≤ c0_1) (hr1 : Kd.C (Kd.int .i64) w A1 l1.length l1) (hc1 : l1.length ≤ c1) (h : walkmillref04_Late.f k l0_0 l0_1 l1 a2 a3 = some r) :
  Calls Tryz.prog 44 #[.agg #[.slice A0_0 l0_0.length c0_0, .slice A0_1 l0_1.length c0_1], .slice A1 l1.length c1, .int .i64 a2, .int .i64 a3] w fun e w' => e = .returned (.bool r) ∧ Below w.heap.size w w' := by
 have hu25 := Tryz.underlying25
 have HR0_0 := Aside0.mk hr0_0
 have HC0_0 := Aside0.mk hc0_0
 clear hr0_0 hc0_0
 have HR0_1 := Aside0.mk hr0_1
 have HC0_1 := Aside0.mk hc0_1
 clear hr0_1 hc0_1
 have HR1 := Aside0.mk hr1
 have HC1 := Aside0.mk hc1
 clear hr1 hc1
 have HB := Aside0.mk (Below.refl w.heap.size w)
 have H : ((walkmillref04_Worst.f k l0_0 l0_1 l1 a2).bind fun bt102 => (some (decide (bt102.2 > a3)))) = some r := h
 clear h
 obtain ⟨⟨t102, t103⟩, A5, H⟩ := bi H
 obtain rfl := Option.some.inj H
 go_enter Tryz.func44, Tryz.ntmps44
 go_wp2_with (first | ((with_reducible refine gate_dst (N := 4) rfl ?_); refine bx 4 #[.slice A0_0 l0_0.length c0_0, .slice A0_1 l0_1.length c0_1] 25 ?_; intro gb101 hg w6 hbox hb; have BK101 := hbox; have GW101 := gs HB hg; have GE101 := gs HB hg; replace HB := bs HB hb; clear hb hbox hg; obtain ⟨_, _, _, _⟩ := cf2 BK101) | ((with_reducible refine gc 32 rfl ?_); refine gL 15 Tryz.func32 #[.agg #[.slice A0_0 l0_0.length c0_0, .slice A0_1 l0_1.length c0_1], .slice A1 l1.length c1, .int .i64 a2] ?_; (with_reducible refine (walkmillref04_Worst.calls k _ _ l0_0 _ _ l0_1 _ _ l1 a2 t102 t103 _ ?side1 ?side2 ?side3 ?side4 ?side5 ?side6 A5.out).mono ?_); (case side1 => exact pC (Kd.C_below HR0_0.out HB.out)); (case side2 => exact HC0_0.out); (case side3 => exact pC (Kd.C_below HR0_1.out HB.out)); (case side4 => exact HC0_1.out); (case side5 => exact pC (Kd.C_below HR1.out HB.out)); (case side6 => exact HC1.out); rintro e w8 ⟨rfl, hb⟩; refine ⟨_, rfl, ?_⟩; replace BK101 := bb BK101 hb; replace HB := bs HB hb; clear hb))
 go_ret
 exact ⟨eT, pE HB⟩
end Go.Proofs.YtlmglnobdcgbeaaGreat.P
namespace Go.Proofs.YtlmglnobdcgbeaaGreat.P
open Go.RowKit Go.Proofs.YtlmglnobdcgbeaaGreatW.PrintWords Go.Proofs.YtlmglnobdcgbeaaGreatW.PrintLast Go.Proofs.YtlmglnobdcgbeaaGreatW.PrintMore
theorem mx_comm (a b : Int) : mx a b = mx b a := by unfold mx; split <;> split <;> omega
def hoursOf (cl : List S67) (most : Bool) : List Int := cl.map fun c => if most = true then c.f2.f1 else c.f2.f0
def ofM (most : Bool) (x y : Int) : Int := if most = true then y else x
theorem hours_l (cl : List S67) (rk : List Int) (b : Bool) (hl : cl.length ≤ 1000) : ∀ (d i k : Nat) (out : List Int), i + d = cl.length → d < k → out.length = i → walkmillref04_Hours.l0 k b out i cl rk = some (out ++ (hoursOf cl b).drop i)
  | 0, i, k, out, hd, hk, ho => by
    obtain ⟨k, rfl⟩ : ∃ m, k = m + 1 := ⟨k - 1, by omega⟩
    rw [walkmillref04_Hours.l0, if_neg (by omega), List.drop_of_length_le (by simp [hoursOf]; omega), List.append_nil]
  | d + 1, i, k, out, hd, hk, ho => by
    obtain ⟨k, rfl⟩ : ∃ m, k = m + 1 := ⟨k - 1, by omega⟩
    have hlt : i < cl.length := by omega
    have hlt2 : i < (hoursOf cl b).length := by simp [hoursOf]; omega
    rw [walkmillref04_Hours.l0, if_pos (by omega), if_pos (by omega), rd67_at cl i hlt, nx i (by omega), List.drop_eq_getElem_cons hlt2]
    have e : (hoursOf cl b)[i] = if b = true then cl[i].f2.f1 else cl[i].f2.f0 := by simp [hoursOf]
    rw [e]
    cases b
    · rw [if_neg (by simp), if_pos (by omega), hours_l cl rk false hl d (i + 1) k _ (by omega) (by omega) (by simp [ho])]; simp
    · rw [if_pos rfl, if_pos (by omega), hours_l cl rk true hl d (i + 1) k _ (by omega) (by omega) (by simp [ho])]; simp
theorem hours_eq (cl : List S67) (rk : List Int) (b : Bool) (hl : cl.length ≤ 1000) (k : Nat) (hk : cl.length < k) : walkmillref04_Hours.f k cl rk b = some (hoursOf cl b) := by
  unfold walkmillref04_Hours.f
  have := hours_l cl rk b hl cl.length 0 k [] (by omega) hk rfl
  simpa using this
theorem rd_hours (cl : List S67) (b : Bool) (x : Int) (h0 : 0 ≤ x) (h1 : x < cl.length) : rd (hoursOf cl b) x = ofM b (rd_T67 cl x).f2.f0 (rd_T67 cl x).f2.f1 := by
  have e1 := rd_at (hoursOf cl b) x.toNat (by simp [hoursOf]; omega)
  have e2 := rd67_at cl x.toNat (by omega)
  rw [show ((x.toNat : Nat) : Int) = x by omega] at e1 e2
  rw [e1, e2]; simp [hoursOf, ofM]
theorem first_l (m : Nat) (x1 x3 x9 fr : List Int) (x11 : Int) (cl : List S67) (rk : List Int) (hfr : fr.length = m) (hm : m ≤ 1000) (K : Nat) (R : Option (List Int))
    (hn : ∀ k c, K < k → c < m → (∀ q, (h : q < m) → rd fr c ≤ fr[q]) → walkmillref04_Taken.l1 k x1 m x3 x9 fr x11 c m cl rk = R) :
    ∀ (d j k c : Nat), j + d = m → d + K < k → c < m → (∀ q, (h : q < m) → q < j → rd fr c ≤ fr[q]) → walkmillref04_Taken.l1 k x1 m x3 x9 fr x11 c j cl rk = R
  | 0, j, k, c, hd, hk, hc, hq => by
    obtain rfl : j = m := by omega
    exact hn k c (by omega) hc (fun q h => hq q h h)
  | d + 1, j, k, c, hd, hk, hc, hq => by
    obtain ⟨k, rfl⟩ : ∃ m, k = m + 1 := ⟨k - 1, by omega⟩
    rw [walkmillref04_Taken.l1, if_pos (by omega), if_pos (by omega), if_pos (by omega), if_pos (by omega), if_pos (by omega), nx j (by omega), rd_at fr j (by omega), rd_at fr c (by omega)]
    have ec := rd_at fr c (by omega)
    by_cases h : fr[j] < fr[c]
    · rw [if_pos h]
      refine first_l m x1 x3 x9 fr x11 cl rk hfr hm K R hn d (j + 1) k j (by omega) (by omega) (by omega) fun q hq1 hq2 => ?_
      rw [rd_at fr j (by omega)]
      rcases Nat.lt_or_ge q j with h1 | h1
      · have := hq q hq1 h1; omega
      · obtain rfl : q = j := by omega
        omega
    · rw [if_neg h]
      refine first_l m x1 x3 x9 fr x11 cl rk hfr hm K R hn d (j + 1) k c (by omega) (by omega) hc fun q hq1 hq2 => ?_
      rcases Nat.lt_or_ge q j with h1 | h1
      · exact hq q hq1 h1
      · obtain rfl : q = j := by omega
        omega
theorem free_step (fp fr : List Int) (p : Nat) (hp : p < fr.length) (hperm : fp.Perm fr) (hs : fp.Pairwise (fun a b => a ≤ b)) (hmin : ∀ q, (h : q < fr.length) → fr[p] ≤ fr[q]) (v : Int) :
    rd fp 0 = fr[p] ∧ (srt (fp.set 0 v)).Perm (fr.set p v) ∧ (srt (fp.set 0 v)).Pairwise (fun a b => a ≤ b) := by
  cases fp with
  | nil => have := hperm.length_eq; simp at this; omega
  | cons a t =>
    obtain ⟨s1, s2⟩ := List.pairwise_cons.1 hs
    have ha : a = fr[p] := by
      have h1 : a ∈ fr := hperm.mem_iff.1 (by simp)
      obtain ⟨q, hq, rfl⟩ := List.getElem_of_mem h1
      have h2 := hmin q hq
      have h3 : fr[p] ∈ fr[q] :: t := hperm.mem_iff.2 (List.getElem_mem hp)
      rcases List.mem_cons.1 h3 with h | h
      · exact h.symm
      · have := s1 _ h; omega
    refine ⟨ha, ?_, srt_sorted _⟩
    refine (srt_perm _).trans ?_
    have e1 : fr = fr.take p ++ fr[p] :: fr.drop (p + 1) := by rw [← List.drop_eq_getElem_cons hp, List.take_append_drop]
    have e2 : fr.set p v = fr.take p ++ v :: fr.drop (p + 1) := by rw [List.set_eq_take_append_cons_drop, if_pos hp]
    rw [e2]
    show (v :: t).Perm _
    have h4 : (a :: t).Perm (fr[p] :: (fr.take p ++ fr.drop (p + 1))) := hperm.trans (by conv => lhs; rw [e1]
                                                                                         exact List.perm_middle)
    rw [ha] at h4
    exact (List.Perm.cons v (List.Perm.cons_inv h4)).trans List.perm_middle.symm
theorem taken_l (cl : List S67) (rk : List Int) (b : Bool) (hc : cl.length ≤ 1000) (ord : List Int) (ho : ord.length ≤ 1000) (hin : ∀ x ∈ ord, 0 ≤ x ∧ x < (cl.length : Int)) (m : Nat) (hm : 1 ≤ m) (hm2 : m ≤ 1000) :
    ∀ (d i k : Nat) (out fr fp : List Int), i + d = ord.length → (m + 2) * d < k → out.length = i → fr.length = m → fp.Perm fr → fp.Pairwise (fun a b => a ≤ b) →
      walkmillref04_Taken.l0 k ord m (hoursOf cl b) out fr i cl rk = some (out ++ (runT (ofM b) cl fp (ord.drop i)).map (fun t => t.2.1))
  | 0, i, k, out, fr, fp, hd, hk, hol, hfr, hp, hs => by
    obtain ⟨k, rfl⟩ : ∃ m, k = m + 1 := ⟨k - 1, by omega⟩
    rw [walkmillref04_Taken.l0, if_neg (by omega), List.drop_of_length_le (by omega)]; simp [runT]
  | d + 1, i, k, out, fr, fp, hd, hk, hol, hfr, hp, hs => by
    obtain ⟨k, rfl⟩ : ∃ m, k = m + 1 := ⟨k - 1, by omega⟩
    have hlt : i < ord.length := by omega
    rw [walkmillref04_Taken.l0, if_pos (by omega)]
    have hx := hin ord[i] (List.getElem_mem hlt)
    have hmul : (m + 2) * (d + 1) = (m + 2) * d + (m + 2) := by rw [Nat.mul_add, Nat.mul_one]
    refine first_l m ord (hoursOf cl b) out fr i cl rk hfr hm2 ((m + 2) * d + 1) _ (fun k c hk2 hcm hmin => ?_) m 0 k 0 (by omega) (by omega) (by omega) (fun q _ h => by omega)
    obtain ⟨k, rfl⟩ : ∃ m, k = m + 1 := ⟨k - 1, by omega⟩
    have ec := rd_at fr c (by omega)
    have erd := rd_at ord i hlt
    obtain ⟨f1, f2, f3⟩ := free_step fp fr c (by omega) hp hs (fun q hq => by rw [← ec]; exact hmin q (by omega)) (doneT (ofM b) cl fp ord[i])
    have etk : mx (rd fr c) (rd_T67 cl ord[i]).f1 = takenT cl fp ord[i] := by unfold takenT; rw [f1, ec, mx_comm]
    have edn : wrap64 (takenT cl fp ord[i] + rd (hoursOf cl b) ord[i]) = doneT (ofM b) cl fp ord[i] := by unfold doneT; rw [rd_hours cl b _ hx.1 hx.2]
    rw [walkmillref04_Taken.l1, if_neg (by omega), if_pos (by omega), if_pos (by omega), if_pos (by omega), if_pos (by omega), erd, if_pos hx.1, if_pos hx.2, if_pos (by omega), if_pos (by simp [hoursOf]; omega), etk, edn, Int.toNat_natCast, nx i (by omega)]
    rw [taken_l cl rk b hc ord ho hin m hm hm2 d (i + 1) k _ _ (srt (fp.set 0 (doneT (ofM b) cl fp ord[i]))) (by omega) (by omega) (by simp [hol]) (by rw [List.length_set]; exact hfr) f2 f3, List.drop_eq_getElem_cons hlt, runT]
    simp
theorem taken_eq (cl : List S67) (rk : List Int) (b : Bool) (hc : cl.length ≤ 1000) (ord : List Int) (ho : ord.length ≤ 1000) (hin : ∀ x ∈ ord, 0 ≤ x ∧ x < (cl.length : Int)) (m : Nat) (hm : 1 ≤ m) (hm2 : m ≤ 1000) (k : Nat) (hk : (m + 2) * ord.length < k) :
    walkmillref04_Taken.f k cl rk ord m (hoursOf cl b) = some ((runT (ofM b) cl (List.replicate m 0) ord).map (fun t => t.2.1)) := by
  unfold walkmillref04_Taken.f
  rw [if_pos (by omega), if_pos (by omega), Int.toNat_natCast]
  have := taken_l cl rk b hc ord ho hin m hm hm2 ord.length 0 k [] (List.replicate m 0) (List.replicate m 0) (by omega) hk rfl (by simp) (List.Perm.refl _) (List.pairwise_replicate.2 (.inr (Int.le_refl _)))
  simpa using this
def worstF (a : Int × Int) (t : Int × Int) : Int × Int := if t.2 > a.2 then t else a
theorem runT_fst (of : Int → Int → Int) (cl : List S67) : ∀ (xs fr : List Int), (runT of cl fr xs).map (fun t => t.1) = xs
  | [], _ => rfl
  | x :: xs, fr => by rw [runT, List.map_cons, runT_fst of cl xs]
theorem ofM_true : ofM true = highF := by funext x y; rfl
theorem ofM_false : ofM false = lowF := by funext x y; rfl
theorem worst_l (cl : List S67) (rk : List Int) (hc : cl.length ≤ 1000) (ts : List (Int × Int × Int)) (ho : ts.length ≤ 1000) (hin : ∀ t ∈ ts, 0 ≤ t.1 ∧ t.1 < (cl.length : Int)) :
    ∀ (d i k : Nat) (a : Int × Int), i + d = ts.length → d < k → walkmillref04_Worst.l0 k (ts.map (fun t => t.1)) a.1 a.2 (ts.map (fun t => t.2.1)) i cl rk = some (((ts.drop i).map (waitT cl)).foldl worstF a)
  | 0, i, k, a, hd, hk => by
    obtain ⟨k, rfl⟩ : ∃ m, k = m + 1 := ⟨k - 1, by omega⟩
    rw [walkmillref04_Worst.l0, if_neg (by simp; omega), List.drop_of_length_le (by omega)]; rfl
  | d + 1, i, k, a, hd, hk => by
    obtain ⟨k, rfl⟩ : ∃ m, k = m + 1 := ⟨k - 1, by omega⟩
    have hlt : i < ts.length := by omega
    have hx := hin ts[i] (List.getElem_mem hlt)
    have e1 : rd (ts.map (fun t => t.1)) i = ts[i].1 := by rw [rd_at _ i (by simpa using hlt)]; simp
    have e2 : rd (ts.map (fun t => t.2.1)) i = ts[i].2.1 := by rw [rd_at _ i (by simpa using hlt)]; simp
    rw [walkmillref04_Worst.l0, if_pos (by simp; omega), if_pos (by omega), if_pos (by simp; omega), e1, e2, if_pos hx.1, if_pos hx.2, nx i (by omega), List.drop_eq_getElem_cons hlt, List.map_cons, List.foldl_cons]
    have ih := fun a => worst_l cl rk hc ts ho hin d (i + 1) k a (by omega) (by omega)
    by_cases h : wrap64 (ts[i].2.1 - (rd_T67 cl ts[i].1).f1) > a.2
    · rw [if_pos h]
      have : worstF a (waitT cl ts[i]) = (ts[i].1, wrap64 (ts[i].2.1 - (rd_T67 cl ts[i].1).f1)) := by unfold worstF waitT; rw [if_pos h]
      rw [this]; exact ih (ts[i].1, wrap64 (ts[i].2.1 - (rd_T67 cl ts[i].1).f1))
    · rw [if_neg h]
      have : worstF a (waitT cl ts[i]) = a := by unfold worstF waitT; rw [if_neg h]
      rw [this]; exact ih a
theorem worst_eq (cl : List S67) (rk : List Int) (hc : cl.length ≤ 1000) (ord : List Int) (ho : ord.length ≤ 1000) (hin : ∀ x ∈ ord, 0 ≤ x ∧ x < (cl.length : Int)) (m : Nat) (hm : 1 ≤ m) (hm2 : m ≤ 1000) (k : Nat) (hk : (m + 2) * ord.length + cl.length < k) :
    walkmillref04_Worst.f k cl rk ord m = some ((waitsL cl ord m).foldl worstF (-1, -1)) := by
  unfold walkmillref04_Worst.f waitsL
  rw [hours_eq cl rk true hc k (by omega), Option.bind_some, taken_eq cl rk true hc ord ho hin m hm hm2 k (by omega), Option.bind_some, ofM_true, Int.toNat_natCast]
  have hmul : ord.length ≤ (m + 2) * ord.length := Nat.le_mul_of_pos_left _ (by omega)
  have := worst_l cl rk hc (runT highF cl (List.replicate m 0) ord) (by rw [runT_len]; exact ho) (fun t ht => hin t.1 (by rw [← runT_fst highF cl ord (List.replicate m 0)]; exact List.mem_map_of_mem ht)) ord.length 0 k (-1, -1) (by rw [runT_len]; omega) (by omega)
  rw [runT_fst] at this
  simpa using this
end Go.Proofs.YtlmglnobdcgbeaaGreat.P
namespace Go.Proofs.YtlmglnobdcgbeaaGreat.P
open Go.RowKit Go.Proofs.YtlmglnobdcgbeaaGreatW.PrintWords Go.Proofs.YtlmglnobdcgbeaaGreatW.PrintLast Go.Proofs.YtlmglnobdcgbeaaGreatW.PrintMore
attribute [local go_sem] max2_int min2_int max_two min_two max_three min_three max_four min_four
def walkmillref04_Open.j0 : Nat → Bool → Option (Int)
 | 0, _ => none
 | k + 1, x20 => if x20 = true then (some 3) else (some 0)
def walkmillref04_Open.f (k : Nat) (l0_0 : List (S67)) (l0_1 : List Int) (a1 : Int) (a2 : Int) : Option (Int) := (walkmillref04_Check.f k l0_0 l0_1).bind fun t102 => (if t102 = 0 then ((walkmillref04_In.f a1 1 5).bind fun t103 => (if t103 = true then ((walkmillref04_In.f a2 0 500).bind fun t104 => (walkmillref04_Open.j0 k (!t104))) else (walkmillref04_Open.j0 k true))) else (some t102))
theorem walkmillref04_Open.mono_l : ∀ k, (∀ y0, LeO (walkmillref04_Open.j0 k y0) (walkmillref04_Open.j0 (k + 1) y0))
 | 0 => fun _ r h => by simp [walkmillref04_Open.j0] at h
 | k + 1 => by
  have ih0 := walkmillref04_Open.mono_l k
  ·intro y0
   unfold walkmillref04_Open.j0
   repeat' first
   | (with_reducible exact ih0 _)
   | (with_reducible exact walkmillref04_Check.mono _ _ _)
   | (with_reducible exact LeO.refl _)
   | (with_reducible exact LeO.none _)
   | (with_reducible refine LeO.ite ?_ ?_)
   | (with_reducible refine LeO.bind ?_ (fun _ => ?_))
   | exact ih0 _
   | exact walkmillref04_Check.mono _ _ _
   | exact LeO.none _
   | refine LeO.ite ?_ ?_
   | refine LeO.bind ?_ (fun _ => ?_)
theorem walkmillref04_Open.mono : ∀ a0 a1 a2 a3 k, LeO (walkmillref04_Open.f k a0 a1 a2 a3) (walkmillref04_Open.f (k + 1) a0 a1 a2 a3) := by
 intro a0 a1 a2 a3 k
 have ih0 := walkmillref04_Open.mono_l k
 unfold walkmillref04_Open.f
 repeat' first
   | (with_reducible exact ih0 _)
   | (with_reducible exact walkmillref04_Check.mono _ _ _)
   | (with_reducible exact LeO.refl _)
   | (with_reducible exact LeO.none _)
   | (with_reducible refine LeO.ite ?_ ?_)
   | (with_reducible refine LeO.bind ?_ (fun _ => ?_))
   | exact ih0 _
   | exact walkmillref04_Check.mono _ _ _
   | exact LeO.none _
   | refine LeO.ite ?_ ?_
   | refine LeO.bind ?_ (fun _ => ?_)
set_option maxHeartbeats 8000000 in
set_option maxRecDepth 100000 in
theorem walkmillref04_Open.calls (k : Nat) (A0_0 : Option Addr) (c0_0 : Nat) (l0_0 : List (S67)) (A0_1 : Option Addr) (c0_1 : Nat) (l0_1 : List Int) (a1 : Int) (a2 : Int) (r : Int) (w : World) (hr0_0 : Kd.C k67 w A0_0 l0_0.length l0_0) (hc0_0 : l0_0.length ≤ c0_0) (hr0_1 : Kd.C (Kd.int .i64) w A0_1 l0_1.length l0_1) (hc0_1 : l0_1.length ≤ c0_1) (h : walkmillref04_Open.f k l0_0 l0_1 a1 a2 = some r) :
  Calls Tryz.prog 28 #[.agg #[.slice A0_0 l0_0.length c0_0, .slice A0_1 l0_1.length c0_1], .int .i64 a1, .int .i64 a2] w fun e w' => e = .returned (.int .i64 r) ∧ Below w.heap.size w w' := by
 have hu25 := Tryz.underlying25
 have HR0_0 := Aside0.mk hr0_0
 have HC0_0 := Aside0.mk hc0_0
 clear hr0_0 hc0_0
 have HR0_1 := Aside0.mk hr0_1
 have HC0_1 := Aside0.mk hc0_1
 clear hr0_1 hc0_1
 have HB := Aside0.mk (Below.refl w.heap.size w)
 have H : ((walkmillref04_Check.f k l0_0 l0_1).bind fun t102 => (if t102 = 0 then ((walkmillref04_In.f a1 1 5).bind fun t103 => (if t103 = true then ((walkmillref04_In.f a2 0 500).bind fun t104 => (walkmillref04_Open.j0 k (!t104))) else (walkmillref04_Open.j0 k true))) else (some t102))) = some r := h
 clear h
 obtain ⟨t102, A4, H⟩ := bi H
 by_cases c5 : t102 = 0
 ·rw [if_pos c5] at H
  have c5b0 : (t102 == 0) = true := beq_iff_eq.mpr c5
  have c5b1 : (t102 != 0) = false := bne_eq_false_iff_eq.mpr c5
  clear c5
  have HC6 := Aside0.mk H
  clear H
  go_enter Tryz.func28, Tryz.ntmps28
  go_upto_region 4 with (first | ((with_reducible refine gate_dst (N := 3) rfl ?_); refine bx 3 #[.slice A0_0 l0_0.length c0_0, .slice A0_1 l0_1.length c0_1] 25 ?_; intro gb101 hg w7 hbox hb; have BK101 := hbox; have GW101 := gs HB hg; have GE101 := gs HB hg; replace HB := bs HB hb; clear hb hbox hg; obtain ⟨hcz8_0, hcz8_1, hfz8_0, hfz8_1⟩ := cf2 BK101) | ((with_reducible refine gc 21 rfl ?_); refine gL 9 Tryz.func21 #[.agg #[.slice A0_0 l0_0.length c0_0, .slice A0_1 l0_1.length c0_1]] ?_; (with_reducible refine (walkmillref04_Check.calls k _ _ l0_0 _ _ l0_1 t102 _ ?side1 ?side2 ?side3 ?side4 A4.out).mono ?_); (case side1 => exact pC (Kd.C_below HR0_0.out HB.out)); (case side2 => exact HC0_0.out); (case side3 => exact pC (Kd.C_below HR0_1.out HB.out)); (case side4 => exact HC0_1.out); rintro e w9 ⟨rfl, hb⟩; refine ⟨_, rfl, ?_⟩; replace BK101 := bb BK101 hb; replace HB := bs HB hb; clear hb))
  (try simp only [Act.put, List.setIfInBounds_toArray, List.set_cons_zero, List.set_cons_succ])
  go_cut [20] (fun v20 wc => ∃ (kq : Nat) (x20_5 : Bool), v20 = .bool x20_5 ∧ Aside0 (walkmillref04_Open.j0 kq x20_5 = some r) ∧ Aside0 (kq ≤ k) ∧ Aside0 (wc.heap[gb101]? = some (.cells #[(.slice A0_0 l0_0.length c0_0), (.slice A0_1 l0_1.length c0_1)] 25 (0, 0))) ∧ Aside0 (Below w.heap.size w wc))
  case first =>
   have H := HC6.out
   clear HC6
   obtain ⟨t103, A10, H⟩ := bi H
   by_cases c11 : t103 = true
   ·subst c11
    rw [if_pos rfl] at H
    obtain ⟨t104, A12, H⟩ := bi H
    have H' := Aside0.mk H
    clear H
    go_wp2_with (first | ((with_reducible refine gc 41 rfl ?_); refine gL 14 Tryz.func41 #[.int .i64 a1, .int .i64 1, .int .i64 5] ?_; (with_reducible refine (walkmillref04_In.calls a1 1 5 true _ A10.out).mono ?_); rintro e w' ⟨rfl, ⟨nd, rfl⟩⟩; refine ⟨_, rfl, ?_⟩) | (go_at_call 41; (with_reducible refine (walkmillref04_In.calls a2 0 500 t104 _ A12.out).mono ?_); rintro e w' ⟨rfl, ⟨nd, rfl⟩⟩))
    go_meet
    case rel => exact ⟨_, (!t104), (by first | rfl | (simp; done) | (simp [*]; done)), H', ⟨by first | omega | exact Nat.le_refl _⟩, ⟨pB BK101.out⟩, ⟨pE HB⟩⟩
   ·replace c11 := Bool.eq_false_iff.mpr c11
    subst c11
    rw [if_neg (show ¬ (false = true) by decide)] at H
    have H' := Aside0.mk H
    clear H
    go_wp2_with (first | ((with_reducible refine gc 41 rfl ?_); refine gL 14 Tryz.func41 #[.int .i64 a1, .int .i64 1, .int .i64 5] ?_; (with_reducible refine (walkmillref04_In.calls a1 1 5 false _ A10.out).mono ?_); rintro e w' ⟨rfl, ⟨nd, rfl⟩⟩; refine ⟨_, rfl, ?_⟩))
    go_meet
    case rel => exact ⟨_, (true), (by first | rfl | (simp; done) | (simp [*]; done)), H', ⟨by first | omega | exact Nat.le_refl _⟩, ⟨pB BK101.out⟩, ⟨pE HB⟩⟩
  case rest =>
   clear HC6
   try clear c1
   try clear c2
   try clear p2
   try clear c4
   try clear c5
   try clear c5b0
   try clear c5b1
   try clear c11
   try clear hcz8_0
   try clear hcz8_1
   try clear hfz8_0
   try clear hfz8_1
   obtain ⟨kq, x20_5, rfl, HA, HJ5, BK101, HB⟩ := hcut
   cases kq with
   | zero => exact absurd HA.out (by simp [walkmillref04_Open.j0])
   | succ kj5 =>
    have H := HA.out
    clear HA
    simp only [walkmillref04_Open.j0] at H
    by_cases c13 : x20_5 = true
    ·subst c13
     rw [if_pos rfl] at H
     obtain rfl := Option.some.inj H
     go_wp2
     go_ret
     exact ⟨eT, pE HB⟩
    ·replace c13 := Bool.eq_false_iff.mpr c13
     subst c13
     rw [if_neg (show ¬ (false = true) by decide)] at H
     obtain rfl := Option.some.inj H
     go_wp2
     go_ret
     exact ⟨eT, pE HB⟩
 ·rw [if_neg c5] at H
  have c5b0 : (t102 == 0) = false := beq_eq_false_iff_ne.mpr c5
  have c5b1 : (t102 != 0) = true := bne_iff_ne.mpr c5
  obtain rfl := Option.some.inj H
  go_enter Tryz.func28, Tryz.ntmps28
  go_wp2_with (first | ((with_reducible refine gate_dst (N := 3) rfl ?_); refine bx 3 #[.slice A0_0 l0_0.length c0_0, .slice A0_1 l0_1.length c0_1] 25 ?_; intro gb101 hg w14 hbox hb; have BK101 := hbox; have GW101 := gs HB hg; have GE101 := gs HB hg; replace HB := bs HB hb; clear hb hbox hg; obtain ⟨_, _, _, _⟩ := cf2 BK101) | ((with_reducible refine gc 21 rfl ?_); refine gL 9 Tryz.func21 #[.agg #[.slice A0_0 l0_0.length c0_0, .slice A0_1 l0_1.length c0_1]] ?_; (with_reducible refine (walkmillref04_Check.calls k _ _ l0_0 _ _ l0_1 t102 _ ?side1 ?side2 ?side3 ?side4 A4.out).mono ?_); (case side1 => exact pC (Kd.C_below HR0_0.out HB.out)); (case side2 => exact HC0_0.out); (case side3 => exact pC (Kd.C_below HR0_1.out HB.out)); (case side4 => exact HC0_1.out); rintro e w16 ⟨rfl, hb⟩; refine ⟨_, rfl, ?_⟩; replace BK101 := bb BK101 hb; replace HB := bs HB hb; clear hb))
  go_ret
  exact ⟨eT, pE HB⟩
end Go.Proofs.YtlmglnobdcgbeaaGreat.P
namespace Go.Proofs.YtlmglnobdcgbeaaGreat.P
open Go.RowKit Go.Proofs.YtlmglnobdcgbeaaGreatW.PrintWords Go.Proofs.YtlmglnobdcgbeaaGreatW.PrintLast Go.Proofs.YtlmglnobdcgbeaaGreatW.PrintMore
theorem ordA_in {cl : List S67} {rk : List Int} : ∀ x ∈ ordA cl rk, 0 ≤ x ∧ x < (cl.length : Int) := fun x hx => mem_rng.1 ((ordA_perm cl rk).mem_iff.1 hx)
theorem ordA_len (cl : List S67) (rk : List Int) : (ordA cl rk).length = cl.length := by rw [(ordA_perm cl rk).length_eq, rng_length]
theorem rOpen_eq (cl : List S67) (rk : List Int) (hc : cl.length ≤ 1000) (hr : rk.length ≤ 1000) (s l : Int) (k : Nat) (hk : 2 * cl.length + 2 * rk.length + 5 < k) : walkmillref04_Open.f k cl rk s l = some (if chk cl rk = 0 then (if (isIn 1 5 s && isIn 0 500 l) = true then 0 else 3) else chk cl rk) := by
  unfold walkmillref04_Open.f
  rw [rCheck_eq cl rk hc hr k hk, rIn_eq, rIn_eq]
  obtain ⟨k, rfl⟩ : ∃ m, k = m + 1 := ⟨k - 1, by omega⟩
  simp only [Option.bind_some]
  have hj : ∀ b : Bool, walkmillref04_Open.j0 (k + 1) b = some (if b = true then 3 else 0) := fun b => by rw [walkmillref04_Open.j0]; cases b <;> rfl
  rw [hj, hj]
  by_cases h : chk cl rk = 0
  · simp only [h, if_true]; cases isIn 1 5 s <;> cases isIn 0 500 l <;> simp
  · simp only [h, if_false]
end Go.Proofs.YtlmglnobdcgbeaaGreat.P
namespace Go.Proofs.YtlmglnobdcgbeaaGreat.P
open Go.RowKit Go.Shelf Go.Proofs.YtlmglnobdcgbeaaGreatW.PrintWords Go.Proofs.YtlmglnobdcgbeaaGreatW.PrintLast Go.Proofs.YtlmglnobdcgbeaaGreatW.PrintMore Go.Proofs.YtlmglnobdcgbeaaGreat.R
def worstW (a : Int × Int) (t : Int × Int) : Int × Int := if t.2 > a.2 then t else a
theorem marks_q {P : Program} {F : Fence} {n : Nat} {f : FuncId} {fn : Func} {c : Code} {args : Array Value} {w : World} {R : Ending → World → Prop}
    (hf : P.funcs[f]? = some fn) (hb : fn.body = some c) (hF : F.fn f)
    (h : ∀ Q : Exit → Act → World → Prop, (∀ c a a' w, a.defers = a'.defers → Q (.panic c) a w → Q (.panic c) a' w) → (∀ e a w, (∀ c, e = .panic c → False) → bodyPostM F n P fn R e a w → Q e a w) → c.wpIn F n P Q { tmps := args ++ Array.replicate (fn.ntmps - args.size) undef, defers := [] } w) (hro : F.round = none := by rfl) : CallsIn F n P f args w R := by
  let Q : Exit → Act → World → Prop := fun e a w => match e with | .panic _ => False | e => bodyPostM F n P fn R e a w
  refine callsIn_of_wp_marks hf hb hF (Code.wpIn_mono (Q := Q) (fun e a w hq => ?_) (h Q (fun c a a' w e h => h) (fun e a w hn hb => ?_))) hro
  · cases e with
    | panic c => exact hq.elim
    | _ => exact hq
  · cases e with
    | panic c => exact (hn c rfl).elim
    | _ => exact hb
theorem results_cct {fn : Func} {tmps : Array Value} {w : World} {p q u : Tmp} {g1 g2 : Nat} {x y : Int} {z : Value} (h : fn.results = #[.cell p 3, .cell q 3, .tmp u]) (hp : tmps.getD p undef = .pointer (some ⟨g1, 0, none⟩)) (hq : tmps.getD q undef = .pointer (some ⟨g2, 0, none⟩)) (hz : tmps.getD u undef = z)
    (b1 : w.heap[g1]? = some (.cells #[.int .i64 x] 3 (0, 0))) (b2 : w.heap[g2]? = some (.cells #[.int .i64 y] 3 (0, 0))) (hu : Tryz.prog.underlying 3 = some (.int .i64)) : (results fn tmps).run Tryz.prog w = .ok (.tuple #[.int .i64 x, .int .i64 y, z]) w := by
  have c1 : w.cell? ⟨g1, 0, none⟩ = some (.int .i64 x) := (blk_cell b1 0).trans rfl
  have c2 : w.cell? ⟨g2, 0, none⟩ = some (.int .i64 y) := (blk_cell b2 0).trans rfl
  unfold results
  rw [h]
  simp only [Array.getD_eq_getD_getElem?] at hp hq hz
  simp [go_sem, hp, hq, hz, c1, c2]
def waitsO (cl : List S67) (ord : List Int) (m : Int) : Option (Int × Int) := if okT cl ord m = true then some ((waitsL cl ord m).foldl worstW (0, -1)) else none
theorem waitsO_spec {cl : List S67} {ord : List Int} {m : Int} {z : Int × Int} (h : waitsO cl ord m = some z) : okT cl ord m = true ∧ (waitsL cl ord m).foldl worstW (0, -1) = z := by
  unfold waitsO at h
  split at h
  · exact ⟨by assumption, Option.some.inj h⟩
  · cases h
def turn_Waits.f (k : Nat) (l0_0 : List (S67)) (l0_1 : List Int) (a1 : Int) : Option (Int × Int × Int) := (turn_open.f k l0_0 l0_1 a1 0).bind fun bt104 => (if bt104.2.2 = 0 then (if (bt104.1.length : Int) = 0 then (some (0, 0, 7)) else ((turn_day_order.f k bt104.1 bt104.2.1).bind fun t112 => ((waitsO bt104.1 t112 a1).bind fun t115 => (some (t115.1, t115.2, 0))))) else (some (0, 0, bt104.2.2)))
theorem turn_Waits.mono : ∀ a0 a1 a2 k, LeO (turn_Waits.f k a0 a1 a2) (turn_Waits.f (k + 1) a0 a1 a2) := by
  intro a0 a1 a2 k
  unfold turn_Waits.f
  repeat' first
      | (with_reducible exact turn_day_order.mono _ _ _)
      | (with_reducible exact turn_open.mono _ _ _ _ _)
      | (with_reducible exact LeO.refl _)
      | (with_reducible exact LeO.none _)
      | (with_reducible refine LeO.ite ?_ ?_)
      | (with_reducible refine LeO.bind ?_ (fun _ => ?_))
      | exact turn_day_order.mono _ _ _
      | exact turn_open.mono _ _ _ _ _
      | exact LeO.none _
      | refine LeO.ite ?_ ?_
      | refine LeO.bind ?_ (fun _ => ?_)
set_option maxHeartbeats 8000000 in
set_option maxRecDepth 100000 in
theorem turn_Waits.calls (k : Nat) (A0_0 : Option Addr) (c0_0 : Nat) (l0_0 : List (S67)) (A0_1 : Option Addr) (c0_1 : Nat) (l0_1 : List Int) (a1 : Int) (r1 : Int) (r2 : Int) (r3 : Int) (w : World) (hr0_0 : Kd.C k67 w A0_0 l0_0.length l0_0) (hc0_0 : l0_0.length ≤ c0_0) (hr0_1 : Kd.C (Kd.int .i64) w A0_1 l0_1.length l0_1) (hc0_1 : l0_1.length ≤ c0_1) (h : turn_Waits.f k l0_0 l0_1 a1 = some (r1, r2, r3)) :
    Calls Tryz.prog 26 #[.agg #[.slice A0_0 l0_0.length c0_0, .slice A0_1 l0_1.length c0_1], .int .i64 a1] w fun e w' => e = .returned (.tuple #[.int .i64 r1, .int .i64 r2, .int .i64 r3]) ∧ Below w.heap.size w w' := by
  have hu25 := Tryz.underlying25
  have hu99 := Tryz.underlying99
  have HR0_0 := Aside0.mk hr0_0
  have HC0_0 := Aside0.mk hc0_0
  clear hr0_0 hc0_0
  have HR0_1 := Aside0.mk hr0_1
  have HC0_1 := Aside0.mk hc0_1
  clear hr0_1 hc0_1
  have HB := Aside0.mk (Below.refl w.heap.size w)
  have H : ((turn_open.f k l0_0 l0_1 a1 0).bind fun bt104 => (if bt104.2.2 = 0 then (if (bt104.1.length : Int) = 0 then (some (0, 0, 7)) else ((turn_day_order.f k bt104.1 bt104.2.1).bind fun t112 => ((waitsO bt104.1 t112 a1).bind fun t115 => (some (t115.1, t115.2, 0))))) else (some (0, 0, bt104.2.2)))) = some (r1, r2, r3) := h
  clear h
  obtain ⟨⟨t104, t107, t110⟩, A3, H⟩ := bi H
  by_cases c4 : t110 = 0
  · rw [if_pos c4] at H
    have c4b0 : (t110 == 0) = true := beq_iff_eq.mpr c4
    have c4b1 : (t110 != 0) = false := bne_eq_false_iff_eq.mpr c4
    clear c4
    by_cases c5 : (t104.length : Int) = 0
    · rw [if_pos c5] at H
      have c5b0 : ((t104.length : Int) == 0) = true := beq_iff_eq.mpr c5
      have c5b1 : ((t104.length : Int) != 0) = false := bne_eq_false_iff_eq.mpr c5
      clear c5
      simp only [Option.some.injEq, Prod.mk.injEq] at H
      obtain ⟨rfl, rfl, rfl⟩ := H
      go_enter Tryz.func26, Tryz.ntmps26
      go_wp2_with (first | ((with_reducible refine gate_dst (N := 2) rfl ?_); refine bx 2 #[.slice A0_0 l0_0.length c0_0, .slice A0_1 l0_1.length c0_1] 25 ?_; intro gb101 hg w6 hbox hb; have BK101 := hbox; have GW101 := gs HB hg; have GE101 := gs HB hg; replace HB := bs HB hb; clear hb hbox hg) | ((with_reducible refine gate_dst (N := 4) rfl ?_); refine bx 4 #[.int .i64 0] 3 ?_; intro gb102 hg w7 hbox hb; have BK102 := hbox; have GW102 := gs HB hg; have GE102 := gs HB hg; replace HB := bs HB hb; have NB101_102 := nl BK101 hg; have NB102_101 := nr BK101 hg; replace BK101 := bb BK101 hb; clear hb hbox hg) | ((with_reducible refine gate_dst (N := 5) rfl ?_); refine bx 5 #[.int .i64 0] 3 ?_; intro gb103 hg w8 hbox hb; have BK103 := hbox; have GW103 := gs HB hg; have GE103 := gs HB hg; replace HB := bs HB hb; have NB101_103 := nl BK101 hg; have NB103_101 := nr BK101 hg; replace BK101 := bb BK101 hb; have NB102_103 := nl BK102 hg; have NB103_102 := nr BK102 hg; replace BK102 := bb BK102 hb; clear hb hbox hg; have hnb9 := NB101_102.out; have hnc9 := NB102_101.out; have hnb10 := NB101_103.out; have hnc10 := NB103_101.out; obtain ⟨_, _, _, _⟩ := cf2 BK101) | ((with_reducible refine gc 62 rfl ?_); refine gL 13 Tryz.func62 #[.agg #[.slice A0_0 l0_0.length c0_0, .slice A0_1 l0_1.length c0_1], .int .i64 a1, .int .i64 0] ?_; (with_reducible refine (turn_open.calls k (fun k_ => k_ < w.heap.size) _ _ l0_0 (fun k_ => k_ < w.heap.size) _ _ l0_1 a1 0 t104 t107 t110 _ ?side1 ?side2 A3.out).mono ?_); (case side1 => exact Kd.V_mk HC0_0.out (Kd.F_below (Kd.C_F k67_heap HR0_0.out) (pE HB))); (case side2 => exact Kd.V_mk HC0_1.out (Kd.F_below (Kd.C_F (Kd.heap_int .i64) HR0_1.out) (pE HB))); rintro e w12 ⟨v105, v108, rfl, ho0, ho1, hb⟩; refine ⟨_, rfl, ?_⟩; have HO106 := Aside0.mk (Kd.V_lower (Kd.V_mono (ok' := fun k_ => k_ ≠ gb101 ∧ k_ ≠ gb102 ∧ k_ ≠ gb103) ho0 (fun k_ hk_ => ⟨Or.elim hk_ (fun hs_ => Or.elim hs_ (fun hs_ => fun e_ => Nat.not_le.2 hs_ (by rw [e_]; exact GW101.out)) (fun hs_ => fun e_ => Nat.not_le.2 hs_ (by rw [e_]; exact GW101.out))) (fun hn_ => (Kd.freshB (g := gb101) (o := .cells #[.slice A0_0 l0_0.length c0_0, .slice A0_1 l0_1.length c0_1] 25 (0, 0)) (pB BK101.out) k_ hn_)), Or.elim hk_ (fun hs_ => Or.elim hs_ (fun hs_ => fun e_ => Nat.not_le.2 hs_ (by rw [e_]; exact GW102.out)) (fun hs_ => fun e_ => Nat.not_le.2 hs_ (by rw [e_]; exact GW102.out))) (fun hn_ => (Kd.freshB (g := gb102) (o := .cells #[.int .i64 0] 3 (0, 0)) (pB BK102.out) k_ hn_)), Or.elim hk_ (fun hs_ => Or.elim hs_ (fun hs_ => fun e_ => Nat.not_le.2 hs_ (by rw [e_]; exact GW103.out)) (fun hs_ => fun e_ => Nat.not_le.2 hs_ (by rw [e_]; exact GW103.out))) (fun hn_ => (Kd.freshB (g := gb103) (o := .cells #[.int .i64 0] 3 (0, 0)) (pB BK103.out) k_ hn_))⟩)) (below_size (pE HB))); have HO109 := Aside0.mk (Kd.V_lower (Kd.V_mono (ok' := fun k_ => k_ ≠ gb101 ∧ k_ ≠ gb102 ∧ k_ ≠ gb103) ho1 (fun k_ hk_ => ⟨Or.elim hk_ (fun hs_ => Or.elim hs_ (fun hs_ => fun e_ => Nat.not_le.2 hs_ (by rw [e_]; exact GW101.out)) (fun hs_ => fun e_ => Nat.not_le.2 hs_ (by rw [e_]; exact GW101.out))) (fun hn_ => (Kd.freshB (g := gb101) (o := .cells #[.slice A0_0 l0_0.length c0_0, .slice A0_1 l0_1.length c0_1] 25 (0, 0)) (pB BK101.out) k_ hn_)), Or.elim hk_ (fun hs_ => Or.elim hs_ (fun hs_ => fun e_ => Nat.not_le.2 hs_ (by rw [e_]; exact GW102.out)) (fun hs_ => fun e_ => Nat.not_le.2 hs_ (by rw [e_]; exact GW102.out))) (fun hn_ => (Kd.freshB (g := gb102) (o := .cells #[.int .i64 0] 3 (0, 0)) (pB BK102.out) k_ hn_)), Or.elim hk_ (fun hs_ => Or.elim hs_ (fun hs_ => fun e_ => Nat.not_le.2 hs_ (by rw [e_]; exact GW103.out)) (fun hs_ => fun e_ => Nat.not_le.2 hs_ (by rw [e_]; exact GW103.out))) (fun hn_ => (Kd.freshB (g := gb103) (o := .cells #[.int .i64 0] 3 (0, 0)) (pB BK103.out) k_ hn_))⟩)) (below_size (pE HB))); replace BK101 := bb BK101 hb; replace BK102 := bb BK102 hb; replace BK103 := bb BK103 hb; replace HB := bs HB hb; clear hb ho0 ho1) | ((with_reducible refine gate_dst (N := 7) rfl ?_); refine bx 7 #[.slice none 0 0, .slice none 0 0] 99 ?_; intro gb111 hg w13 hbox hb; replace HO106 := ve HO106 hg hb; replace HO109 := ve HO109 hg hb; have BK111 := hbox; have GW111 := gs HB hg; have GE111 := gs HB hg; replace HB := bs HB hb; have NB101_111 := nl BK101 hg; have NB111_101 := nr BK101 hg; replace BK101 := bb BK101 hb; have NB102_111 := nl BK102 hg; have NB111_102 := nr BK102 hg; replace BK102 := bb BK102 hb; have NB103_111 := nl BK103 hg; have NB111_103 := nr BK103 hg; replace BK103 := bb BK103 hb; clear hb hbox hg; obtain ⟨Ao14, co14, eo14⟩ := Kd.V_slice HO106.out; subst eo14; have hnb15 := NB111_101.out; have hnc15 := NB101_111.out; have hnb16 := NB111_102.out; have hnc16 := NB102_111.out; have hnb17 := NB111_103.out; have hnc17 := NB103_111.out; obtain ⟨_, _, _, _⟩ := cf2 BK111; obtain ⟨Ao19, co19, eo19⟩ := Kd.V_slice HO109.out; subst eo19; have hnb20 := NB102_103.out; have hnc20 := NB103_102.out; obtain ⟨_, _⟩ := cf1 BK102; obtain ⟨_, _⟩ := cf1 BK103))
      refine bodyPost_ret (results_cct (p := 4) (q := 5) (u := 6) (g1 := gb102) (g2 := gb103) (x := 0) (y := 0) rfl rfl rfl rfl (by refine pB ?_; refine blk_far ?_ NB102_103.out _; refine pB ?_; refine blk_put (cs := #[.int .i64 0]) ?_ 0 _ rfl; refine pB ?_; refine blk_far ?_ NB102_111.out _; refine pB ?_; refine blk_far ?_ NB102_111.out _; exact pB BK102.out) (by refine pB ?_; refine blk_put (cs := #[.int .i64 0]) ?_ 0 _ rfl; refine pB ?_; refine blk_far ?_ NB103_102.out _; refine pB ?_; refine blk_far ?_ NB103_111.out _; refine pB ?_; refine blk_far ?_ NB103_111.out _; exact pB BK103.out) Tryz.underlying3) rfl ?_
      exact ⟨eT, pE HB⟩
    · rw [if_neg c5] at H
      have c5b0 : ((t104.length : Int) == 0) = false := beq_eq_false_iff_ne.mpr c5
      have c5b1 : ((t104.length : Int) != 0) = true := bne_iff_ne.mpr c5
      have c5b2 : ¬ (t104 = []) := fun h_ => c5 (by rw [h_]; rfl)
      obtain ⟨t112, A23, H⟩ := bi H
      obtain ⟨t115, A24, H⟩ := bi H
      simp only [Option.some.injEq, Prod.mk.injEq] at H
      obtain ⟨rfl, rfl, rfl⟩ := H
      refine (callsIn_wide (n := 5)).1 (marks_q Tryz.func26 rfl trivial (fun Qf_ hqp_ hqf_ => ?_) rfl)
      have HQP := Aside0.mk hqp_
      have HQF := Aside0.mk hqf_
      clear hqp_ hqf_
      simp only [Tryz.ntmps26, List.size_toArray, List.length_cons, List.length_nil, Nat.reduceAdd, Nat.reduceSub, Array.replicate_succ, Array.replicate_zero, List.push_toArray, List.append_toArray, List.nil_append, List.cons_append]
      go_wp2_with (first | ((with_reducible refine gate_dst (N := 2) rfl ?_); refine bx 2 #[.slice A0_0 l0_0.length c0_0, .slice A0_1 l0_1.length c0_1] 25 ?_; intro gb101 hg w25 hbox hb; have BK101 := hbox; have GW101 := gs HB hg; have GE101 := gs HB hg; replace HB := bs HB hb; clear hb hbox hg) | ((with_reducible refine gate_dst (N := 4) rfl ?_); refine bx 4 #[.int .i64 0] 3 ?_; intro gb102 hg w26 hbox hb; have BK102 := hbox; have GW102 := gs HB hg; have GE102 := gs HB hg; replace HB := bs HB hb; have NB101_102 := nl BK101 hg; have NB102_101 := nr BK101 hg; replace BK101 := bb BK101 hb; clear hb hbox hg) | ((with_reducible refine gate_dst (N := 5) rfl ?_); refine bx 5 #[.int .i64 0] 3 ?_; intro gb103 hg w27 hbox hb; have BK103 := hbox; have GW103 := gs HB hg; have GE103 := gs HB hg; replace HB := bs HB hb; have NB101_103 := nl BK101 hg; have NB103_101 := nr BK101 hg; replace BK101 := bb BK101 hb; have NB102_103 := nl BK102 hg; have NB103_102 := nr BK102 hg; replace BK102 := bb BK102 hb; clear hb hbox hg; have hnb28 := NB101_102.out; have hnc28 := NB102_101.out; have hnb29 := NB101_103.out; have hnc29 := NB103_101.out; obtain ⟨_, _, _, _⟩ := cf2 BK101) | ((with_reducible refine gc 62 rfl ?_); refine gL 13 Tryz.func62 #[.agg #[.slice A0_0 l0_0.length c0_0, .slice A0_1 l0_1.length c0_1], .int .i64 a1, .int .i64 0] ?_; (with_reducible refine (turn_open.calls k (fun k_ => k_ < w.heap.size) _ _ l0_0 (fun k_ => k_ < w.heap.size) _ _ l0_1 a1 0 t104 t107 t110 _ ?side1 ?side2 A3.out).mono ?_); (case side1 => exact Kd.V_mk HC0_0.out (Kd.F_below (Kd.C_F k67_heap HR0_0.out) (pE HB))); (case side2 => exact Kd.V_mk HC0_1.out (Kd.F_below (Kd.C_F (Kd.heap_int .i64) HR0_1.out) (pE HB))); rintro e w31 ⟨v105, v108, rfl, ho0, ho1, hb⟩; refine ⟨_, rfl, ?_⟩; have HO106 := Aside0.mk (Kd.V_lower (Kd.V_mono (ok' := fun k_ => k_ ≠ gb101 ∧ k_ ≠ gb102 ∧ k_ ≠ gb103) ho0 (fun k_ hk_ => ⟨Or.elim hk_ (fun hs_ => Or.elim hs_ (fun hs_ => fun e_ => Nat.not_le.2 hs_ (by rw [e_]; exact GW101.out)) (fun hs_ => fun e_ => Nat.not_le.2 hs_ (by rw [e_]; exact GW101.out))) (fun hn_ => (Kd.freshB (g := gb101) (o := .cells #[.slice A0_0 l0_0.length c0_0, .slice A0_1 l0_1.length c0_1] 25 (0, 0)) (pB BK101.out) k_ hn_)), Or.elim hk_ (fun hs_ => Or.elim hs_ (fun hs_ => fun e_ => Nat.not_le.2 hs_ (by rw [e_]; exact GW102.out)) (fun hs_ => fun e_ => Nat.not_le.2 hs_ (by rw [e_]; exact GW102.out))) (fun hn_ => (Kd.freshB (g := gb102) (o := .cells #[.int .i64 0] 3 (0, 0)) (pB BK102.out) k_ hn_)), Or.elim hk_ (fun hs_ => Or.elim hs_ (fun hs_ => fun e_ => Nat.not_le.2 hs_ (by rw [e_]; exact GW103.out)) (fun hs_ => fun e_ => Nat.not_le.2 hs_ (by rw [e_]; exact GW103.out))) (fun hn_ => (Kd.freshB (g := gb103) (o := .cells #[.int .i64 0] 3 (0, 0)) (pB BK103.out) k_ hn_))⟩)) (below_size (pE HB))); have HO109 := Aside0.mk (Kd.V_lower (Kd.V_mono (ok' := fun k_ => k_ ≠ gb101 ∧ k_ ≠ gb102 ∧ k_ ≠ gb103) ho1 (fun k_ hk_ => ⟨Or.elim hk_ (fun hs_ => Or.elim hs_ (fun hs_ => fun e_ => Nat.not_le.2 hs_ (by rw [e_]; exact GW101.out)) (fun hs_ => fun e_ => Nat.not_le.2 hs_ (by rw [e_]; exact GW101.out))) (fun hn_ => (Kd.freshB (g := gb101) (o := .cells #[.slice A0_0 l0_0.length c0_0, .slice A0_1 l0_1.length c0_1] 25 (0, 0)) (pB BK101.out) k_ hn_)), Or.elim hk_ (fun hs_ => Or.elim hs_ (fun hs_ => fun e_ => Nat.not_le.2 hs_ (by rw [e_]; exact GW102.out)) (fun hs_ => fun e_ => Nat.not_le.2 hs_ (by rw [e_]; exact GW102.out))) (fun hn_ => (Kd.freshB (g := gb102) (o := .cells #[.int .i64 0] 3 (0, 0)) (pB BK102.out) k_ hn_)), Or.elim hk_ (fun hs_ => Or.elim hs_ (fun hs_ => fun e_ => Nat.not_le.2 hs_ (by rw [e_]; exact GW103.out)) (fun hs_ => fun e_ => Nat.not_le.2 hs_ (by rw [e_]; exact GW103.out))) (fun hn_ => (Kd.freshB (g := gb103) (o := .cells #[.int .i64 0] 3 (0, 0)) (pB BK103.out) k_ hn_))⟩)) (below_size (pE HB))); replace BK101 := bb BK101 hb; replace BK102 := bb BK102 hb; replace BK103 := bb BK103 hb; replace HB := bs HB hb; clear hb ho0 ho1) | ((with_reducible refine gate_dst (N := 7) rfl ?_); refine bx 7 #[.slice none 0 0, .slice none 0 0] 99 ?_; intro gb111 hg w32 hbox hb; replace HO106 := ve HO106 hg hb; replace HO109 := ve HO109 hg hb; have BK111 := hbox; have GW111 := gs HB hg; have GE111 := gs HB hg; replace HB := bs HB hb; have NB101_111 := nl BK101 hg; have NB111_101 := nr BK101 hg; replace BK101 := bb BK101 hb; have NB102_111 := nl BK102 hg; have NB111_102 := nr BK102 hg; replace BK102 := bb BK102 hb; have NB103_111 := nl BK103 hg; have NB111_103 := nr BK103 hg; replace BK103 := bb BK103 hb; clear hb hbox hg; obtain ⟨Ao33, co33, eo33⟩ := Kd.V_slice HO106.out; subst eo33; have hnb34 := NB111_101.out; have hnc34 := NB101_111.out; have hnb35 := NB111_102.out; have hnc35 := NB102_111.out; have hnb36 := NB111_103.out; have hnc36 := NB103_111.out; obtain ⟨_, _, _, _⟩ := cf2 BK111; obtain ⟨Ao38, co38, eo38⟩ := Kd.V_slice HO109.out; subst eo38; have hnb39 := NB103_102.out; have hnc39 := NB102_103.out; obtain ⟨_, _⟩ := cf1 BK103) | (with_reducible refine regW_lit_ ?_) | gi_step)
      have n0_ : Aside0 (Kd.V k67 67 (((w32.setCell ⟨gb111, 0, none⟩ (.slice Ao33 t104.length co33)).setCell ⟨gb111, 1, none⟩ (.slice Ao38 t107.length co38)).setCell ⟨gb103, 0, none⟩ (.int .i64 (-1))) w.heap.size (fun k_ => k_ ≠ gb101 ∧ k_ ≠ gb102 ∧ k_ ≠ gb103 ∧ k_ ≠ gb111) (.slice Ao33 t104.length co33) t104) := ⟨by (with_reducible repeat (first | apply Kd.V_alloc | apply Kd.V_drewN | apply Kd.V_drew)); exact Kd.V_mono (Kd.V_far (p := ⟨gb103, 0, none⟩) (Kd.V_far (p := ⟨gb111, 1, none⟩) (Kd.V_far (p := ⟨gb111, 0, none⟩) (Kd.V_mono (Kd.V_mono HO106.out (fun k_ hk => (⟨hk, hk.2⟩ : _ ∧ k_ ≠ gb111))) (fun k_ hk => (⟨hk, hk.1.1.2.2⟩ : _ ∧ k_ ≠ gb103))) (fun _ hk => hk.1.2) (.slice Ao33 t104.length co33)) (fun _ hk => hk.1.2) (.slice Ao38 t107.length co38)) (fun _ hk => hk.2) (.int .i64 (-1))) (fun _ hk => ⟨hk.1.1.1.1, ⟨hk.1.1.1.2.1, ⟨hk.1.1.1.2.2, hk.1.1.2⟩⟩⟩)⟩
      have n1_ : Aside0 (Kd.V (Kd.int .i64) 3 (((w32.setCell ⟨gb111, 0, none⟩ (.slice Ao33 t104.length co33)).setCell ⟨gb111, 1, none⟩ (.slice Ao38 t107.length co38)).setCell ⟨gb103, 0, none⟩ (.int .i64 (-1))) w.heap.size (fun k_ => k_ ≠ gb101 ∧ k_ ≠ gb102 ∧ k_ ≠ gb103 ∧ k_ ≠ gb111) (.slice Ao38 t107.length co38) t107) := ⟨by (with_reducible repeat (first | apply Kd.V_alloc | apply Kd.V_drewN | apply Kd.V_drew)); exact Kd.V_mono (Kd.V_far (p := ⟨gb103, 0, none⟩) (Kd.V_far (p := ⟨gb111, 1, none⟩) (Kd.V_far (p := ⟨gb111, 0, none⟩) (Kd.V_mono (Kd.V_mono HO109.out (fun k_ hk => (⟨hk, hk.2⟩ : _ ∧ k_ ≠ gb111))) (fun k_ hk => (⟨hk, hk.1.1.2.2⟩ : _ ∧ k_ ≠ gb103))) (fun _ hk => hk.1.2) (.slice Ao33 t104.length co33)) (fun _ hk => hk.1.2) (.slice Ao38 t107.length co38)) (fun _ hk => hk.2) (.int .i64 (-1))) (fun _ hk => ⟨hk.1.1.1.1, ⟨hk.1.1.1.2.1, ⟨hk.1.1.1.2.2, hk.1.1.2⟩⟩⟩)⟩
      have n2_ : Aside0 ((((w32.setCell ⟨gb111, 0, none⟩ (.slice Ao33 t104.length co33)).setCell ⟨gb111, 1, none⟩ (.slice Ao38 t107.length co38)).setCell ⟨gb103, 0, none⟩ (.int .i64 (-1))).heap[gb101]? = some (.cells #[.slice A0_0 l0_0.length c0_0, .slice A0_1 l0_1.length c0_1] 25 (0, 0))) := ⟨pF BK101⟩
      have n3_ : Aside0 ((((w32.setCell ⟨gb111, 0, none⟩ (.slice Ao33 t104.length co33)).setCell ⟨gb111, 1, none⟩ (.slice Ao38 t107.length co38)).setCell ⟨gb103, 0, none⟩ (.int .i64 (-1))).heap[gb102]? = some (.cells #[.int .i64 0] 3 (0, 0))) := ⟨pF BK102⟩
      have n4_ : Aside0 ((((w32.setCell ⟨gb111, 0, none⟩ (.slice Ao33 t104.length co33)).setCell ⟨gb111, 1, none⟩ (.slice Ao38 t107.length co38)).setCell ⟨gb103, 0, none⟩ (.int .i64 (-1))).heap[gb103]? = some (.cells #[.int .i64 (-1)] 3 (0, 0))) := ⟨by refine pB ?_; refine blk_put (cs := #[.int .i64 0]) ?_ 0 _ rfl; refine pB ?_; refine blk_far ?_ NB103_111.out _; refine pB ?_; refine blk_far ?_ NB103_111.out _; exact pB BK103.out⟩
      have n5_ : Aside0 ((((w32.setCell ⟨gb111, 0, none⟩ (.slice Ao33 t104.length co33)).setCell ⟨gb111, 1, none⟩ (.slice Ao38 t107.length co38)).setCell ⟨gb103, 0, none⟩ (.int .i64 (-1))).heap[gb111]? = some (.cells #[.slice Ao33 t104.length co33, .slice Ao38 t107.length co38] 99 (0, 0))) := ⟨by refine pB ?_; refine blk_far ?_ NB111_103.out _; refine pB ?_; refine blk_put (cs := #[.slice Ao33 t104.length co33, .slice none 0 0]) ?_ 1 _ rfl; refine pB ?_; refine blk_put (cs := #[.slice none 0 0, .slice none 0 0]) ?_ 0 _ rfl; exact pB BK111.out⟩
      have n6_ : Aside0 (Below w.heap.size w (((w32.setCell ⟨gb111, 0, none⟩ (.slice Ao33 t104.length co33)).setCell ⟨gb111, 1, none⟩ (.slice Ao38 t107.length co38)).setCell ⟨gb103, 0, none⟩ (.int .i64 (-1)))) := ⟨pE HB⟩
      (try clear HO106)
      (try clear HO109)
      (try clear BK101)
      (try clear BK102)
      (try clear BK103)
      (try clear BK111)
      (try clear HB)
      generalize (((w32.setCell ⟨gb111, 0, none⟩ (.slice Ao33 t104.length co33)).setCell ⟨gb111, 1, none⟩ (.slice Ao38 t107.length co38)).setCell ⟨gb103, 0, none⟩ (.int .i64 (-1))) = w41 at n0_ n1_ n2_ n3_ n4_ n5_ n6_ ⊢
      have HO106 := n0_
      have HO109 := n1_
      have BK101 := n2_
      have BK102 := n3_
      have BK103 := n4_
      have BK111 := n5_
      have HB := n6_
      clear n0_ n1_ n2_ n3_ n4_ n5_ n6_
      replace HO106 := Aside0.mk (Kd.V_drew HO106.out)
      replace HO109 := Aside0.mk (Kd.V_drew HO109.out)
      replace BK101 := Aside0.mk (blk_drew BK101.out)
      replace BK102 := Aside0.mk (blk_drew BK102.out)
      replace BK103 := Aside0.mk (blk_drew BK103.out)
      replace BK111 := Aside0.mk (blk_drew BK111.out)
      replace HB := Aside0.mk (below_drew1 HB.out)
      refine wpIn_wide.2 (start_ (n := 5) (S := fun w' => w'.cell? ⟨gb111, 0, none⟩ = some (.slice Ao33 t104.length co33) ∧ w'.cell? ⟨gb111, 1, none⟩ = some (.slice Ao38 t107.length co38)) (ds := []) #[false, false, false, false, false] (by kernel_rfl) rfl rfl ⟨(blk_cell BK111.out 0).trans rfl, (blk_cell BK111.out 1).trans rfl⟩ (fun hHeld => ?_))
      generalize w41.drew = w42 at HO106 HO109 BK101 BK102 BK103 BK111 HB hHeld ⊢
      refine pu 3 29 ?_ (hQ := (fun c_ a_ w_ h_ => HQP.out c_ _ a_ w_ (by rfl) h_))
      refine tk 0 26 hHeld ?_ (hQ := (fun c_ a_ w_ h_ => HQP.out c_ _ a_ w_ (by rfl) h_))
      refine tk 1 27 hHeld ?_ (hQ := (fun c_ a_ w_ h_ => HQP.out c_ _ a_ w_ (by rfl) h_))
      refine on 2 (fun K hK => ?_)
      refine gO Tryz.func63 #[.agg #[.slice Ao33 t104.length co33, .slice Ao38 t107.length co38]] ?_
      with_reducible refine (turn_day_order.calls k _ _ t104 _ _ t107 t112 _ ?side1 ?side2 ?side3 ?side4 A23.out).mono ?_
      (case side1 => exact pC (Kd.V_reads' HO106.out).2.2)
      (case side2 => exact (Kd.V_reads' HO106.out).2.1)
      (case side3 => exact pC (Kd.V_reads' HO109.out).2.2)
      (case side4 => exact (Kd.V_reads' HO109.out).2.1)
      rintro e w43 ⟨v113, rfl, ho0, hb⟩
      refine ⟨_, rfl, ?_⟩
      replace HO106 := Aside0.mk (Kd.V_elder' (pV HO106.out) (Kd.R_base ho0) hb)
      replace HO109 := Aside0.mk (Kd.V_elder' (pV HO109.out) (Kd.R_base ho0) hb)
      have HO114 := Aside0.mk (Kd.R_lower (Kd.R_newB (Kd.R_newB ho0 (g := gb102) (o := .cells #[.int .i64 0] 3 (0, 0)) (pB BK102.out)) (g := gb103) (o := .cells #[.int .i64 (-1)] 3 (0, 0)) (pB BK103.out)) (below_size (pE HB)))
      replace BK101 := bb BK101 hb
      replace BK102 := bb BK102 hb
      replace BK103 := bb BK103 hb
      replace BK111 := bb BK111 hb
      replace HB := bs HB hb
      (try clear hb)
      (try clear hb2)
      (try clear hk)
      (try clear hi)
      (try clear ho0)
      obtain ⟨Ao44, co44, eo44⟩ := Kd.R_slice HO114.out
      (first | subst eo44 | (injection eo44 with f1_ f2_ f3_; have f4_ := f1_.symm; have f5_ := f3_.symm; clear f1_ f2_ f3_; subst f4_; subst f5_))
      refine hK.out _ _ ⟨(blk_cell BK111.out 0).trans rfl, (blk_cell BK111.out 1).trans rfl⟩ (fun hHeld => ?_)
      clear hK K
      refine norm_ (a' := ?_) ?_ ?_
      rotate_left
      · show Act.put _ (some 28) _ = _
        simp only [Act.put, List.setIfInBounds_toArray, List.set_cons_zero, List.set_cons_succ, i64_w, i32_w]
        rfl
      refine on 4 (fun K hK => ?_)
      have Q106 := HO106
      have Q109 := HO109
      have Q114 := HO114
      have LT102 := Aside0.mk (Array.getElem?_eq_some_iff.1 BK102.out).1
      have LT103 := Aside0.mk (Array.getElem?_eq_some_iff.1 BK103.out).1
      refine gO Tryz.func68 #[.agg #[.slice Ao33 t104.length co33, .slice Ao38 t107.length co38], .slice Ao44 t112.length co44, .int .i64 a1] ?_
      refine (waits_calls Ao33 t104.length co33 Ao38 t107.length co38 Ao44 t112.length co44 a1 _).mono ?_
      rintro e w45 ⟨rfl, hw_⟩
      have HW_ := Aside0.mk hw_
      have hb : Below w43.heap.size w43 w45 := by rw [hw_]; exact (three_alloc _ _ _ _).1
      clear hw_
      refine ⟨_, rfl, ?_⟩
      replace HO106 := vb HO106 hb
      replace HO109 := vb HO109 hb
      replace HO114 := rb HO114 hb
      replace BK101 := bb BK101 hb
      replace BK102 := bb BK102 hb
      replace BK103 := bb BK103 hb
      replace BK111 := bb BK111 hb
      replace HB := bs HB hb
      (try clear hb)
      (try clear hb2)
      (try clear hk)
      (try clear hi)
      refine hK.out _ _ ⟨(blk_cell BK111.out 0).trans rfl, (blk_cell BK111.out 1).trans rfl⟩ (fun hHeld => ?_)
      clear hK K
      refine norm_ (a' := ?_) ?_ ?_
      rotate_left
      · show Act.put _ (some 30) _ = _
        simp only [Act.put, List.setIfInBounds_toArray, List.set_cons_zero, List.set_cons_succ, i64_w, i32_w]
        rfl
      refine done_ (by kernel_rfl) ?_
      go_wp2_with (first | (with_reducible refine regW_lit_ ?_) | gi_step)
      try simp only [Act.put, List.setIfInBounds_toArray, List.set_cons_zero, List.set_cons_succ]
      obtain ⟨hok_, hz_⟩ := waitsO_spec A24.out
      obtain ⟨hm1, hm2, hin⟩ := okT_spec hok_
      obtain ⟨m, rfl⟩ : ∃ m : Nat, a1 = (m : Int) := ⟨(a1 : Int).toNat, by omega⟩
      obtain ⟨q1, q2, hseq⟩ := waits_made m Ao44 co44 t112 Ao33 co33 t104 Ao38 co38 t107 4 w43 w45 (fun k => k = gb102 ∨ k = gb103) (fun k hk => hk.elim (fun e => e ▸ LT102.out) (fun e => e ▸ LT103.out)) (by omega) (by omega) hin HW_.out (fun W' hsz hsame => ⟨(Kd.R_reads' (Kd.R_step Q114.out (fun k hk hlt => hsame k hlt (fun e => e.elim hk.1.2 hk.2)))).2.2, (Kd.V_reads' (Kd.V_step Q106.out (fun k hk hlt => hsame k hlt (fun e => e.elim hk.1.2.1 hk.1.2.2.1)))).2.2⟩)
      generalize hxs : waitsL t104 t112 (m : Int) = xs at hseq hz_
      have L2 : gb102 < w45.heap.size := (Array.getElem?_eq_some_iff.1 BK102.out).1
      have L3 : gb103 < w45.heap.size := (Array.getElem?_eq_some_iff.1 BK103.out).1
      have hx2 := BK102.out
      have hx3 := BK103.out
      have hb5 := HB.out
      have hnb := NB102_103.out
      have G2 := GW102.out
      have G3 := GW103.out
      have hsz0 : w.heap.size ≤ w45.heap.size := hb5.size
      have HZ := Aside0.mk hz_
      have Q2 := Aside0.mk q2
      clear hz_ q2 hxs hin hok_
      refine range_outer (xs := xs) (Rv := RvW) (Ex := fun k => k = gb102 ∨ k = gb103) (c := 8) (E := fun _ => True) (w0 := w45) rfl (fun h0 => by cases h0) (gf := 101) rfl trivial (fun args w => enters_ Tryz.func101 (by kernel_rfl) rfl args w) hseq (Below.refl _ _) (fun x vs W h => by unfold RvW at h; subst h; rfl)
        (fun i W' => W'.heap[gb102]? = some (.cells #[.int .i64 ((xs.take i).foldl worstW (0, -1)).1] 3 (0, 0)) ∧ W'.heap[gb103]? = some (.cells #[.int .i64 ((xs.take i).foldl worstW (0, -1)).2] 3 (0, 0)) ∧ Below w.heap.size w W')
        (fun cd i W' => False)
        ?hI ?hIx ⟨hx2, hx3, hb5⟩
        (fun i x a' W' => a' = { tmps := #[.agg #[.slice A0_0 l0_0.length c0_0, .slice A0_1 l0_1.length c0_1], .int .i64 (m : Int), .pointer (some ⟨gb101, 0, none⟩), undef, .pointer (some ⟨gb102, 0, none⟩), .pointer (some ⟨gb103, 0, none⟩), .int .i64 t110, .pointer (some ⟨gb111, 0, none⟩), .int .i64 x.1, .int .i64 x.2,
            .tuple #[.agg #[.slice Ao33 t104.length co33, .slice Ao38 t107.length co38], .int .i64 t110], .agg #[.slice A0_0 l0_0.length c0_0, .slice A0_1 l0_1.length c0_1], .int .i64 (m : Int), .tuple #[.agg #[.slice Ao33 t104.length co33, .slice Ao38 t107.length co38], .int .i64 t110], .agg #[.slice Ao33 t104.length co33, .slice Ao38 t107.length co38], .int .i64 t110,
            .bool false, .int .i64 t110, .bool false, undef, .bool false, .pointer (some ⟨gb111, 0, none⟩), .pointer (some ⟨gb111, 0, none⟩), .slice Ao33 t104.length co33, .int .i64 (t104.length : Int), .bool false, .agg #[.slice Ao33 t104.length co33, .slice Ao38 t107.length co38], .agg #[.slice Ao33 t104.length co33, .slice Ao38 t107.length co38], .slice Ao44 t112.length co44, .int .i64 (m : Int),
            .func (.func 101) #[] #[.pointer (some ⟨w43.heap.size, 0, none⟩), .pointer (some ⟨w43.heap.size + 1, 0, none⟩), .pointer (some ⟨w43.heap.size + 2, 0, none⟩)], .int .i64 x.1, .int .i64 x.2, undef, undef, undef, undef, undef, undef, undef], defers := [] } ∧
          W'.heap[gb102]? = some (.cells #[.int .i64 ((xs.take i).foldl worstW (0, -1)).1] 3 (0, 0)) ∧ W'.heap[gb103]? = some (.cells #[.int .i64 ((xs.take i).foldl worstW (0, -1)).2] 3 (0, 0)) ∧ Below w.heap.size w W')
        ?hAx ?assign ?body ?done ?stop
      case hI => exact fun i X Y ⟨h1, h2, h3⟩ hs => ⟨hs.same _ _ h1 (by omega) (fun _ => rfl), hs.same _ _ h2 (by omega) (fun _ => rfl), Below_istep_ h3 (Nat.le_refl _) hs (by omega) (by omega)⟩
      case hIx => exact fun cd i X Y h hs => h
      case hAx => exact fun i x a' _ X Y ⟨h0, h1, h2, h3⟩ hs => ⟨h0, hs.same _ _ h1 (by omega) (fun _ => rfl), hs.same _ _ h2 (by omega) (fun _ => rfl), Below_istep_ h3 (Nat.le_refl _) hs (by omega) (by omega)⟩
      case assign =>
        rintro l' i x vs W' K hx hi hv hsz hK
        unfold RvW at hv
        subst hv
        simp only [List.zip_toArray, List.zip_cons_cons, List.zip_nil_right, List.zip_nil_left, List.size_toArray, List.foldl_toArray', List.foldl_cons, List.foldl_nil, List.setIfInBounds_toArray, List.set_cons_zero, List.set_cons_succ, List.length_cons, List.length_nil]
        have Hi := Aside0.mk hi
        have HK := Aside0.mk hK
        clear hseq hi hK hx2 hx3 hb5
        go_wp2_with (first | ((with_reducible refine regIn_lit_ ?hnd ?hlo ?_); (case hnd => kernel_rfl); (case hlo => rintro ⟨_, _, h⟩; exact h)) | gi_step)
        exact HK.out _ _ (Below.refl _ _) ⟨rfl, Hi.out⟩
      case body =>
        rintro l' i x a' W' hl' hloop hx ⟨rfl, h1, h2, h3⟩ hsz
        obtain ⟨hlt, hxe⟩ := List.getElem?_eq_some_iff.1 hx
        have htk : (xs.take (i + 1)).foldl worstW (0, -1) = worstW ((xs.take i).foldl worstW (0, -1)) x := by rw [List.take_succ_eq_append_getElem hlt, hxe, List.foldl_append]; rfl
        obtain ⟨z, hz⟩ : ∃ z, (xs.take i).foldl worstW (0, -1) = z := ⟨_, rfl⟩
        rw [hz] at h1 h2 htk
        have HTK := Aside0.mk htk
        have hc2 : W'.cell? ⟨gb102, 0, none⟩ = some (.int .i64 z.1) := (blk_cell h1 0).trans rfl
        have hc3 : W'.cell? ⟨gb103, 0, none⟩ = some (.int .i64 z.2) := (blk_cell h2 0).trans rfl
        have hf2 := blk_frozen h1 0
        have hf3 := blk_frozen h2 0
        have H1 := Aside0.mk h1
        have H2 := Aside0.mk h2
        have H3 := Aside0.mk h3
        have HSZ := Aside0.mk hsz
        have hnb' := NB103_102.out
        clear hseq h1 h2 h3 hx2 hx3 hb5 hx hxe hlt htk hz hloop hl' hsz
        by_cases hc : x.2 > z.2
        · have hcb : decide (x.2 > z.2) = true := decide_eq_true hc
          have HTX := Aside0.mk (HTK.out.trans (if_pos hc : worstW z x = x))
          clear hc
          go_wp2_with (first | ((with_reducible refine regIn_lit_ ?hnd ?hlo ?_); (case hnd => kernel_rfl); (case hlo => rintro ⟨_, _, h⟩; exact h)) | gi_step)
          have e1 : (W'.setCell ⟨gb102, 0, none⟩ (.int .i64 x.1)).heap[gb102]? = some (.cells #[.int .i64 x.1] 3 (0, 0)) := blk_put (cs := #[.int .i64 z.1]) H1.out 0 _ rfl
          have e2 : (W'.setCell ⟨gb102, 0, none⟩ (.int .i64 x.1)).heap[gb103]? = some (.cells #[.int .i64 z.2] 3 (0, 0)) := (Below.heap_setCell _ _ _ gb103 hnb').trans H2.out
          refine ⟨BKeep.trans (BKeep.of_block gb102 (by simp [World.setCell]) (fun k _ hne => Below.heap_setCell _ _ _ k hne) ⟨_, H1.out, rfl⟩ (fun _ => .inl rfl) (fun hh => by have := hh.1; omega)) (BKeep.of_block gb103 (by simp [World.setCell]) (fun k _ hne => Below.heap_setCell _ _ _ k hne) ⟨_, e2, rfl⟩ (fun _ => .inr rfl) (fun hh => by have := hh.1; omega)), ?_, ?_, ?_⟩
          · rw [HTX.out]; exact (Below.heap_setCell _ _ _ gb102 hnb).trans e1
          · rw [HTX.out]; exact blk_put (cs := #[.int .i64 z.2]) e2 0 _ rfl
          · exact (H3.out.setCell (p := ⟨gb102, 0, none⟩) (show w.heap.size ≤ gb102 from G2) _).setCell (p := ⟨gb103, 0, none⟩) (show w.heap.size ≤ gb103 from G3) _
        · have hcb : decide (x.2 > z.2) = false := decide_eq_false hc
          have HTX := Aside0.mk (HTK.out.trans (if_neg hc : worstW z x = z))
          clear hc
          go_wp2_with (first | ((with_reducible refine regIn_lit_ ?hnd ?hlo ?_); (case hnd => kernel_rfl); (case hlo => rintro ⟨_, _, h⟩; exact h)) | gi_step)
          exact ⟨BKeep.refl _ _ _ _ _ _, by rw [HTX.out]; exact H1.out, by rw [HTX.out]; exact H2.out, H3.out⟩
      case done =>
        rintro D W' hD ⟨h1, h2, h3⟩ hmk
        rw [List.take_length, HZ.out] at h1 h2
        have hk0 : W'.drew.heap[D]? = some (.deferred (some [])) := hmk
        have g1 := blk_drew h1
        have g2 := blk_drew h2
        have g3 := below_drew1 h3
        have HD := Aside0.mk hD
        have hnb' := NB103_102.out
        clear hseq h1 h2 h3 hx2 hx3 hb5 hD hmk
        simp only [Exit.inBlock, Exit.then]
        gi_wp2
        refine wpIn_wide.2 (start_ (n := 5) (S := fun w' => w'.cell? ⟨gb102, 0, none⟩ = some (.int .i64 t115.1) ∧ w'.cell? ⟨gb103, 0, none⟩ = some (.int .i64 t115.2)) (ds := []) #[false, false, false, false, false] (by kernel_rfl) rfl rfl ⟨(blk_cell g1 0).trans rfl, (blk_cell g2 0).trans rfl⟩ (fun hHeld => ?_))
        generalize W'.drew = w60 at hk0 g1 g2 g3 hHeld ⊢
        refine tk 0 38 hHeld ?_ (hQ := (fun c_ a_ w_ h_ => HQP.out c_ _ a_ w_ (by rfl) h_))
        refine tk 1 39 hHeld ?_ (hQ := (fun c_ a_ w_ h_ => HQP.out c_ _ a_ w_ (by rfl) h_))
        have hc2 : w60.cell? ⟨gb102, 0, none⟩ = some (.int .i64 t115.1) := (blk_cell g1 0).trans rfl
        have hf2 := blk_frozen g1 0
        refine on 2 (fun K hK => ?_)
        refine skip_ (w1 := ?_) (by rfl) rfl ?_ ?_
        rotate_left
        · go_simp
          rfl
        have e1 : (w60.setCell ⟨gb102, 0, none⟩ (.int .i64 t115.1)).heap[gb102]? = some (.cells #[.int .i64 t115.1] 3 (0, 0)) := blk_put (cs := #[.int .i64 t115.1]) g1 0 _ rfl
        have e2 : (w60.setCell ⟨gb102, 0, none⟩ (.int .i64 t115.1)).heap[gb103]? = some (.cells #[.int .i64 t115.2] 3 (0, 0)) := (Below.heap_setCell _ _ _ gb103 hnb').trans g2
        have e3 : Below w.heap.size w (w60.setCell ⟨gb102, 0, none⟩ (.int .i64 t115.1)) := g3.setCell (p := ⟨gb102, 0, none⟩) (show w.heap.size ≤ gb102 from G2) _
        have e4 : (w60.setCell ⟨gb102, 0, none⟩ (.int .i64 t115.1)).heap[D]? = some (.deferred (some [])) := (Below.heap_setCell _ _ _ D (by have := HD.out; show D ≠ gb102; omega)).trans hk0
        refine hK.out _ _ ⟨(blk_cell e1 0).trans rfl, (blk_cell e2 0).trans rfl⟩ (fun hHeld => ?_)
        clear hK K hc2 hf2
        generalize w60.setCell ⟨gb102, 0, none⟩ (.int .i64 t115.1) = w61 at e1 e2 e3 e4 hHeld ⊢
        clear hk0 g1 g2 g3
        have hc3 : w61.cell? ⟨gb103, 0, none⟩ = some (.int .i64 t115.2) := (blk_cell e2 0).trans rfl
        have hf3 := blk_frozen e2 0
        refine on 3 (fun K hK => ?_)
        refine skip_ (w1 := ?_) (by rfl) rfl ?_ ?_
        rotate_left
        · go_simp
          rfl
        have g1 : (w61.setCell ⟨gb103, 0, none⟩ (.int .i64 t115.2)).heap[gb102]? = some (.cells #[.int .i64 t115.1] 3 (0, 0)) := (Below.heap_setCell _ _ _ gb102 hnb).trans e1
        have g2 : (w61.setCell ⟨gb103, 0, none⟩ (.int .i64 t115.2)).heap[gb103]? = some (.cells #[.int .i64 t115.2] 3 (0, 0)) := blk_put (cs := #[.int .i64 t115.2]) e2 0 _ rfl
        have g3 : Below w.heap.size w (w61.setCell ⟨gb103, 0, none⟩ (.int .i64 t115.2)) := e3.setCell (p := ⟨gb103, 0, none⟩) (show w.heap.size ≤ gb103 from G3) _
        have g4 : (w61.setCell ⟨gb103, 0, none⟩ (.int .i64 t115.2)).heap[D]? = some (.deferred (some [])) := (Below.heap_setCell _ _ _ D (by have := HD.out; show D ≠ gb103; omega)).trans e4
        refine hK.out _ _ ⟨(blk_cell g1 0).trans rfl, (blk_cell g2 0).trans rfl⟩ (fun hHeld => ?_)
        clear hK K hc3 hf3
        generalize w61.setCell ⟨gb103, 0, none⟩ (.int .i64 t115.2) = w62 at g1 g2 g3 g4 hHeld ⊢
        clear e1 e2 e3 e4
        refine pu 4 6 ?_ (hQ := (fun c_ a_ w_ h_ => HQP.out c_ _ a_ w_ (by rfl) h_))
        refine done_ (by kernel_rfl) ?_
        have HG1 := Aside0.mk g1
        have HG2 := Aside0.mk g2
        clear hHeld
        gi_wp2
        refine HQF.out _ _ _ (fun c h => by cases h) ?_
        refine Marks.leaves (lo := w45.heap.size) (Ds := [D]) (.cons g4 HD.out (fun E hE => by cases hE) (.nil _)) fun W2 hs => ⟨.tuple #[.int .i64 t115.1, .int .i64 t115.2, .int .i64 0], ?res, rfl, Below_istep_ g3 (Nat.le_refl _) hs (by omega) (by omega)⟩
        exact results_cct (p := 4) (q := 5) (u := 6) (g1 := gb102) (g2 := gb103) rfl rfl rfl rfl (hs.same gb102 _ HG1.out (by omega) (fun _ => rfl)) (hs.same gb103 _ HG2.out (by omega) (fun _ => rfl)) Tryz.underlying3
      case stop =>
        rintro D cd i W' hD hi h hmk
        exact h.elim
  · rw [if_neg c4] at H
    have c4b0 : (t110 == 0) = false := beq_eq_false_iff_ne.mpr c4
    have c4b1 : (t110 != 0) = true := bne_iff_ne.mpr c4
    simp only [Option.some.injEq, Prod.mk.injEq] at H
    obtain ⟨rfl, rfl, rfl⟩ := H
    go_enter Tryz.func26, Tryz.ntmps26
    go_wp2_with (first | ((with_reducible refine gate_dst (N := 2) rfl ?_); refine bx 2 #[.slice A0_0 l0_0.length c0_0, .slice A0_1 l0_1.length c0_1] 25 ?_; intro gb101 hg w48 hbox hb; have BK101 := hbox; have GW101 := gs HB hg; have GE101 := gs HB hg; replace HB := bs HB hb; clear hb hbox hg) | ((with_reducible refine gate_dst (N := 4) rfl ?_); refine bx 4 #[.int .i64 0] 3 ?_; intro gb102 hg w49 hbox hb; have BK102 := hbox; have GW102 := gs HB hg; have GE102 := gs HB hg; replace HB := bs HB hb; have NB101_102 := nl BK101 hg; have NB102_101 := nr BK101 hg; replace BK101 := bb BK101 hb; clear hb hbox hg) | ((with_reducible refine gate_dst (N := 5) rfl ?_); refine bx 5 #[.int .i64 0] 3 ?_; intro gb103 hg w50 hbox hb; have BK103 := hbox; have GW103 := gs HB hg; have GE103 := gs HB hg; replace HB := bs HB hb; have NB101_103 := nl BK101 hg; have NB103_101 := nr BK101 hg; replace BK101 := bb BK101 hb; have NB102_103 := nl BK102 hg; have NB103_102 := nr BK102 hg; replace BK102 := bb BK102 hb; clear hb hbox hg; have hnb51 := NB101_102.out; have hnc51 := NB102_101.out; have hnb52 := NB101_103.out; have hnc52 := NB103_101.out; obtain ⟨_, _, _, _⟩ := cf2 BK101) | ((with_reducible refine gc 62 rfl ?_); refine gL 13 Tryz.func62 #[.agg #[.slice A0_0 l0_0.length c0_0, .slice A0_1 l0_1.length c0_1], .int .i64 a1, .int .i64 0] ?_; (with_reducible refine (turn_open.calls k (fun k_ => k_ < w.heap.size) _ _ l0_0 (fun k_ => k_ < w.heap.size) _ _ l0_1 a1 0 t104 t107 t110 _ ?side1 ?side2 A3.out).mono ?_); (case side1 => exact Kd.V_mk HC0_0.out (Kd.F_below (Kd.C_F k67_heap HR0_0.out) (pE HB))); (case side2 => exact Kd.V_mk HC0_1.out (Kd.F_below (Kd.C_F (Kd.heap_int .i64) HR0_1.out) (pE HB))); rintro e w54 ⟨v105, v108, rfl, ho0, ho1, hb⟩; refine ⟨_, rfl, ?_⟩; have HO106 := Aside0.mk (Kd.V_lower (Kd.V_mono (ok' := fun k_ => k_ ≠ gb101 ∧ k_ ≠ gb102 ∧ k_ ≠ gb103) ho0 (fun k_ hk_ => ⟨Or.elim hk_ (fun hs_ => Or.elim hs_ (fun hs_ => fun e_ => Nat.not_le.2 hs_ (by rw [e_]; exact GW101.out)) (fun hs_ => fun e_ => Nat.not_le.2 hs_ (by rw [e_]; exact GW101.out))) (fun hn_ => (Kd.freshB (g := gb101) (o := .cells #[.slice A0_0 l0_0.length c0_0, .slice A0_1 l0_1.length c0_1] 25 (0, 0)) (pB BK101.out) k_ hn_)), Or.elim hk_ (fun hs_ => Or.elim hs_ (fun hs_ => fun e_ => Nat.not_le.2 hs_ (by rw [e_]; exact GW102.out)) (fun hs_ => fun e_ => Nat.not_le.2 hs_ (by rw [e_]; exact GW102.out))) (fun hn_ => (Kd.freshB (g := gb102) (o := .cells #[.int .i64 0] 3 (0, 0)) (pB BK102.out) k_ hn_)), Or.elim hk_ (fun hs_ => Or.elim hs_ (fun hs_ => fun e_ => Nat.not_le.2 hs_ (by rw [e_]; exact GW103.out)) (fun hs_ => fun e_ => Nat.not_le.2 hs_ (by rw [e_]; exact GW103.out))) (fun hn_ => (Kd.freshB (g := gb103) (o := .cells #[.int .i64 0] 3 (0, 0)) (pB BK103.out) k_ hn_))⟩)) (below_size (pE HB))); have HO109 := Aside0.mk (Kd.V_lower (Kd.V_mono (ok' := fun k_ => k_ ≠ gb101 ∧ k_ ≠ gb102 ∧ k_ ≠ gb103) ho1 (fun k_ hk_ => ⟨Or.elim hk_ (fun hs_ => Or.elim hs_ (fun hs_ => fun e_ => Nat.not_le.2 hs_ (by rw [e_]; exact GW101.out)) (fun hs_ => fun e_ => Nat.not_le.2 hs_ (by rw [e_]; exact GW101.out))) (fun hn_ => (Kd.freshB (g := gb101) (o := .cells #[.slice A0_0 l0_0.length c0_0, .slice A0_1 l0_1.length c0_1] 25 (0, 0)) (pB BK101.out) k_ hn_)), Or.elim hk_ (fun hs_ => Or.elim hs_ (fun hs_ => fun e_ => Nat.not_le.2 hs_ (by rw [e_]; exact GW102.out)) (fun hs_ => fun e_ => Nat.not_le.2 hs_ (by rw [e_]; exact GW102.out))) (fun hn_ => (Kd.freshB (g := gb102) (o := .cells #[.int .i64 0] 3 (0, 0)) (pB BK102.out) k_ hn_)), Or.elim hk_ (fun hs_ => Or.elim hs_ (fun hs_ => fun e_ => Nat.not_le.2 hs_ (by rw [e_]; exact GW103.out)) (fun hs_ => fun e_ => Nat.not_le.2 hs_ (by rw [e_]; exact GW103.out))) (fun hn_ => (Kd.freshB (g := gb103) (o := .cells #[.int .i64 0] 3 (0, 0)) (pB BK103.out) k_ hn_))⟩)) (below_size (pE HB))); replace BK101 := bb BK101 hb; replace BK102 := bb BK102 hb; replace BK103 := bb BK103 hb; replace HB := bs HB hb; clear hb ho0 ho1) | ((with_reducible refine gate_dst (N := 7) rfl ?_); refine bx 7 #[.slice none 0 0, .slice none 0 0] 99 ?_; intro gb111 hg w55 hbox hb; replace HO106 := ve HO106 hg hb; replace HO109 := ve HO109 hg hb; have BK111 := hbox; have GW111 := gs HB hg; have GE111 := gs HB hg; replace HB := bs HB hb; have NB101_111 := nl BK101 hg; have NB111_101 := nr BK101 hg; replace BK101 := bb BK101 hb; have NB102_111 := nl BK102 hg; have NB111_102 := nr BK102 hg; replace BK102 := bb BK102 hb; have NB103_111 := nl BK103 hg; have NB111_103 := nr BK103 hg; replace BK103 := bb BK103 hb; clear hb hbox hg; obtain ⟨Ao56, co56, eo56⟩ := Kd.V_slice HO106.out; subst eo56; have hnb57 := NB111_101.out; have hnc57 := NB101_111.out; have hnb58 := NB111_102.out; have hnc58 := NB102_111.out; have hnb59 := NB111_103.out; have hnc59 := NB103_111.out; obtain ⟨_, _, _, _⟩ := cf2 BK111; obtain ⟨Ao61, co61, eo61⟩ := Kd.V_slice HO109.out; subst eo61; have hnb62 := NB102_103.out; have hnc62 := NB103_102.out; obtain ⟨_, _⟩ := cf1 BK102; obtain ⟨_, _⟩ := cf1 BK103))
    refine bodyPost_ret (results_cct (p := 4) (q := 5) (u := 6) (g1 := gb102) (g2 := gb103) (x := 0) (y := 0) rfl rfl rfl rfl (by refine pB ?_; refine blk_far ?_ NB102_103.out _; refine pB ?_; refine blk_put (cs := #[.int .i64 0]) ?_ 0 _ rfl; refine pB ?_; refine blk_far ?_ NB102_111.out _; refine pB ?_; refine blk_far ?_ NB102_111.out _; exact pB BK102.out) (by refine pB ?_; refine blk_put (cs := #[.int .i64 0]) ?_ 0 _ rfl; refine pB ?_; refine blk_far ?_ NB103_102.out _; refine pB ?_; refine blk_far ?_ NB103_111.out _; refine pB ?_; refine blk_far ?_ NB103_111.out _; exact pB BK103.out) Tryz.underlying3) rfl ?_
    exact ⟨eT, pE HB⟩
end Go.Proofs.YtlmglnobdcgbeaaGreat.P
namespace Go.Proofs.YtlmglnobdcgbeaaGreat.P
open Go.RowKit Go.Shelf Go.Proofs.YtlmglnobdcgbeaaGreatW.PrintWords Go.Proofs.YtlmglnobdcgbeaaGreatW.PrintLast Go.Proofs.YtlmglnobdcgbeaaGreatW.PrintMore Go.Proofs.YtlmglnobdcgbeaaGreat.R
attribute [local go_sem] max2_int min2_int max_two min_two max_three min_three max_four min_four
theorem turns_made (of : Int → Int → Int) (m : Nat) (A2 : Option Addr) (c2 : Nat) (ord : List Int) (A3 : Option Addr) (c3 : Nat) (cl : List S67) (A4 : Option Addr) (c4 : Nat) (rk : List Int) (g : FuncId) (fng : Func) (n : Nat) (w1 w5 : World) (Ex : Nat → Prop) (hEx : ∀ k, Ex k → k < w1.heap.size)
    (hg1 : Tryz.prog.funcs[g]? = some fng) (hg2 : (fng.name == "runtime.NumGoroutine") = false) (hg3 : fng.body.isSome = true)
    (hof : ∀ x y W_, Calls Tryz.prog g #[.agg #[.int .i64 x, .int .i64 y]] W_ fun e w' => e = .returned (.int .i64 (of x y)) ∧ Below W_.heap.size W_ w')
    (hm : 1 ≤ m) (hm2 : m ≤ 1000) (hin : ∀ x ∈ ord, 0 ≤ x ∧ x < (cl.length : Int))
    (hw5 : w5 = (((w1.alloc (.cells #[.slice A3 cl.length c3, .slice A4 rk.length c4] 99)).alloc (.cells #[.slice A2 ord.length c2] 23)).alloc (.cells #[.int .i64 (m : Int)] 3)).alloc (.cells #[.func (.func g) #[] #[]] 135))
    (hr : ∀ W', w1.heap.size ≤ W'.heap.size → (∀ k, k < w1.heap.size → ¬ Ex k → W'.heap[k]? = w1.heap[k]?) → Kd.C (Kd.int .i64) W' A2 ord.length ord ∧ Kd.C k67 W' A3 cl.length cl) :
    Below w1.heap.size w1 w5 ∧ w5.heap.size = w1.heap.size + 4 ∧ IterC Fence.wide n Tryz.prog 99 #[.pointer (some ⟨w1.heap.size + 2, 0, none⟩), .pointer (some ⟨w1.heap.size + 1, 0, none⟩), .pointer (some ⟨w1.heap.size, 0, none⟩), .pointer (some ⟨w1.heap.size + 3, 0, none⟩)] (runT of cl (List.replicate m 0) ord) RvT Ex 1 (fun _ => True) w5 := by
  obtain ⟨q1, q2, q3, q4, q5, q6⟩ := four_alloc w1 (.cells #[.slice A3 cl.length c3, .slice A4 rk.length c4] 99) (.cells #[.slice A2 ord.length c2] 23) (.cells #[.int .i64 (m : Int)] 3) (.cells #[.func (.func g) #[] #[]] 135)
  rw [← hw5] at q1 q2 q3 q4 q5 q6
  refine ⟨q1, q2, turns_iter of _ _ _ _ m A2 c2 ord A3 c3 cl A4 c4 rk g fng n w5 Ex (fun _ => True) hg1 hg2 hg3 hof hm hm2 hin (by omega) trivial fun W' hsz hsame => ?_⟩
  have hold : ∀ k, w1.heap.size ≤ k → k < w5.heap.size → W'.heap[k]? = w5.heap[k]? := fun k h1 h2 => hsame k h2 (fun hx => by have := hEx k hx; omega)
  obtain ⟨r1, r2⟩ := hr W' (by omega) (fun k hk hx => (hsame k (by omega) hx).trans (q1.block k hk))
  exact ⟨(hold _ (by omega) (by omega)).trans q5, (hold _ (by omega) (by omega)).trans q4, (hold _ (by omega) (by omega)).trans q3, (hold _ (by omega) (by omega)).trans q6, r1, r2⟩
theorem istep_eq {b lo c : Nat} {X Y wn : World} {k : Nat} (hs : IStep b lo c X Y) (hk : k < wn.heap.size) (hn : wn.heap.size ≤ b ∧ b ≤ lo) (h : X.heap[k]? = wn.heap[k]?) : Y.heap[k]? = wn.heap[k]? := by
  rw [Array.getElem?_eq_getElem hk] at h ⊢
  exact hs.same k _ h (by omega) (fun h_ => by omega)
def endF (a : Int) (t : Int × Int × Int) : Int := mx a t.2.2
def endsO (cl : List S67) (ord : List Int) (m : Int) : Option (Int × Int) := if okT cl ord m = true then some ((runT lowF cl (List.replicate m.toNat 0) ord).foldl endF 0, (runT highF cl (List.replicate m.toNat 0) ord).foldl endF 0) else none
theorem endsO_spec {cl : List S67} {ord : List Int} {m : Int} {z : Int × Int} (h : endsO cl ord m = some z) : okT cl ord m = true ∧ (runT lowF cl (List.replicate m.toNat 0) ord).foldl endF 0 = z.1 ∧ (runT highF cl (List.replicate m.toNat 0) ord).foldl endF 0 = z.2 := by
  unfold endsO at h
  split at h
  · obtain rfl := Option.some.inj h; exact ⟨by assumption, rfl, rfl⟩
  · cases h
def turn_Ends.f (k : Nat) (l0_0 : List (S67)) (l0_1 : List Int) (a1 : Int) : Option (Int × Int × Int) := (turn_open.f k l0_0 l0_1 a1 0).bind fun bt103 => (if bt103.2.2 = 0 then ((turn_day_order.f k bt103.1 bt103.2.1).bind fun t111 => ((endsO bt103.1 t111 a1).bind fun t114 => (some (t114.1, t114.2, 0)))) else (some (0, 0, bt103.2.2)))
theorem turn_Ends.mono : ∀ a0 a1 a2 k, LeO (turn_Ends.f k a0 a1 a2) (turn_Ends.f (k + 1) a0 a1 a2) := by
  intro a0 a1 a2 k
  unfold turn_Ends.f
  repeat' first
      | (with_reducible exact turn_day_order.mono _ _ _)
      | (with_reducible exact turn_open.mono _ _ _ _ _)
      | (with_reducible exact LeO.refl _)
      | (with_reducible exact LeO.none _)
      | (with_reducible refine LeO.ite ?_ ?_)
      | (with_reducible refine LeO.bind ?_ (fun _ => ?_))
      | exact turn_day_order.mono _ _ _
      | exact turn_open.mono _ _ _ _ _
      | exact LeO.none _
      | refine LeO.ite ?_ ?_
      | refine LeO.bind ?_ (fun _ => ?_)
set_option maxHeartbeats 8000000 in
set_option maxRecDepth 100000 in
theorem turn_Ends.calls (k : Nat) (A0_0 : Option Addr) (c0_0 : Nat) (l0_0 : List (S67)) (A0_1 : Option Addr) (c0_1 : Nat) (l0_1 : List Int) (a1 : Int) (r1 : Int) (r2 : Int) (r3 : Int) (w : World) (hr0_0 : Kd.C k67 w A0_0 l0_0.length l0_0) (hc0_0 : l0_0.length ≤ c0_0) (hr0_1 : Kd.C (Kd.int .i64) w A0_1 l0_1.length l0_1) (hc0_1 : l0_1.length ≤ c0_1) (h : turn_Ends.f k l0_0 l0_1 a1 = some (r1, r2, r3)) :
    Calls Tryz.prog 27 #[.agg #[.slice A0_0 l0_0.length c0_0, .slice A0_1 l0_1.length c0_1], .int .i64 a1] w fun e w' => e = .returned (.tuple #[.agg #[.int .i64 r1, .int .i64 r2], .int .i64 r3]) ∧ Below w.heap.size w w' := by
  have hu25 := Tryz.underlying25
  have hu42 := Tryz.underlying42
  have hu99 := Tryz.underlying99
  have HR0_0 := Aside0.mk hr0_0
  have HC0_0 := Aside0.mk hc0_0
  clear hr0_0 hc0_0
  have HR0_1 := Aside0.mk hr0_1
  have HC0_1 := Aside0.mk hc0_1
  clear hr0_1 hc0_1
  have HB := Aside0.mk (Below.refl w.heap.size w)
  have H : ((turn_open.f k l0_0 l0_1 a1 0).bind fun bt103 => (if bt103.2.2 = 0 then ((turn_day_order.f k bt103.1 bt103.2.1).bind fun t111 => ((endsO bt103.1 t111 a1).bind fun t114 => (some (t114.1, t114.2, 0)))) else (some (0, 0, bt103.2.2)))) = some (r1, r2, r3) := h
  clear h
  obtain ⟨⟨t103, t106, t109⟩, A3, H⟩ := bi H
  by_cases c4 : t109 = 0
  · rw [if_pos c4] at H
    have c4b0 : (t109 == 0) = true := beq_iff_eq.mpr c4
    have c4b1 : (t109 != 0) = false := bne_eq_false_iff_eq.mpr c4
    clear c4
    obtain ⟨t111, A5, H⟩ := bi H
    obtain ⟨t114, A6, H⟩ := bi H
    simp only [Option.some.injEq, Prod.mk.injEq] at H
    obtain ⟨rfl, rfl, rfl⟩ := H
    refine (callsIn_wide (n := 5)).1 (marks_q Tryz.func27 rfl trivial (fun Qf_ hqp_ hqf_ => ?_) rfl)
    have HQP := Aside0.mk hqp_
    have HQF := Aside0.mk hqf_
    clear hqp_ hqf_
    simp only [Tryz.ntmps27, List.size_toArray, List.length_cons, List.length_nil, Nat.reduceAdd, Nat.reduceSub, Array.replicate_succ, Array.replicate_zero, List.push_toArray, List.append_toArray, List.nil_append, List.cons_append]
    go_wp2_with (first | ((with_reducible refine gate_dst (N := 2) rfl ?_); refine bx 2 #[.slice A0_0 l0_0.length c0_0, .slice A0_1 l0_1.length c0_1] 25 ?_; intro gb101 hg w9 hbox hb; have BK101 := hbox; have GW101 := gs HB hg; have GE101 := gs HB hg; replace HB := bs HB hb; clear hb hbox hg) | ((with_reducible refine gate_dst (N := 4) rfl ?_); refine bx 4 #[.int .i64 0, .int .i64 0] 42 ?_; intro gb102 hg w10 hbox hb; have BK102 := hbox; have GW102 := gs HB hg; have GE102 := gs HB hg; replace HB := bs HB hb; have NB101_102 := nl BK101 hg; have NB102_101 := nr BK101 hg; replace BK101 := bb BK101 hb; clear hb hbox hg; have hnb11 := NB101_102.out; have hnc11 := NB102_101.out; obtain ⟨_, _, _, _⟩ := cf2 BK101) | ((with_reducible refine gc 62 rfl ?_); refine gL 12 Tryz.func62 #[.agg #[.slice A0_0 l0_0.length c0_0, .slice A0_1 l0_1.length c0_1], .int .i64 a1, .int .i64 0] ?_; (with_reducible refine (turn_open.calls k (fun k_ => k_ < w.heap.size) _ _ l0_0 (fun k_ => k_ < w.heap.size) _ _ l0_1 a1 0 t103 t106 t109 _ ?side1 ?side2 A3.out).mono ?_); (case side1 => exact Kd.V_mk HC0_0.out (Kd.F_below (Kd.C_F k67_heap HR0_0.out) (pE HB))); (case side2 => exact Kd.V_mk HC0_1.out (Kd.F_below (Kd.C_F (Kd.heap_int .i64) HR0_1.out) (pE HB))); rintro e w13 ⟨v104, v107, rfl, ho0, ho1, hb⟩; refine ⟨_, rfl, ?_⟩; have HO105 := Aside0.mk (Kd.V_lower (Kd.V_mono (ok' := fun k_ => k_ ≠ gb101 ∧ k_ ≠ gb102) ho0 (fun k_ hk_ => ⟨Or.elim hk_ (fun hs_ => Or.elim hs_ (fun hs_ => fun e_ => Nat.not_le.2 hs_ (by rw [e_]; exact GW101.out)) (fun hs_ => fun e_ => Nat.not_le.2 hs_ (by rw [e_]; exact GW101.out))) (fun hn_ => (Kd.freshB (g := gb101) (o := .cells #[.slice A0_0 l0_0.length c0_0, .slice A0_1 l0_1.length c0_1] 25 (0, 0)) (pB BK101.out) k_ hn_)), Or.elim hk_ (fun hs_ => Or.elim hs_ (fun hs_ => fun e_ => Nat.not_le.2 hs_ (by rw [e_]; exact GW102.out)) (fun hs_ => fun e_ => Nat.not_le.2 hs_ (by rw [e_]; exact GW102.out))) (fun hn_ => (Kd.freshB (g := gb102) (o := .cells #[.int .i64 0, .int .i64 0] 42 (0, 0)) (pB BK102.out) k_ hn_))⟩)) (below_size (pE HB))); have HO108 := Aside0.mk (Kd.V_lower (Kd.V_mono (ok' := fun k_ => k_ ≠ gb101 ∧ k_ ≠ gb102) ho1 (fun k_ hk_ => ⟨Or.elim hk_ (fun hs_ => Or.elim hs_ (fun hs_ => fun e_ => Nat.not_le.2 hs_ (by rw [e_]; exact GW101.out)) (fun hs_ => fun e_ => Nat.not_le.2 hs_ (by rw [e_]; exact GW101.out))) (fun hn_ => (Kd.freshB (g := gb101) (o := .cells #[.slice A0_0 l0_0.length c0_0, .slice A0_1 l0_1.length c0_1] 25 (0, 0)) (pB BK101.out) k_ hn_)), Or.elim hk_ (fun hs_ => Or.elim hs_ (fun hs_ => fun e_ => Nat.not_le.2 hs_ (by rw [e_]; exact GW102.out)) (fun hs_ => fun e_ => Nat.not_le.2 hs_ (by rw [e_]; exact GW102.out))) (fun hn_ => (Kd.freshB (g := gb102) (o := .cells #[.int .i64 0, .int .i64 0] 42 (0, 0)) (pB BK102.out) k_ hn_))⟩)) (below_size (pE HB))); replace BK101 := bb BK101 hb; replace BK102 := bb BK102 hb; replace HB := bs HB hb; clear hb ho0 ho1) | ((with_reducible refine gate_dst (N := 6) rfl ?_); refine bx 6 #[.slice none 0 0, .slice none 0 0] 99 ?_; intro gb110 hg w14 hbox hb; replace HO105 := ve HO105 hg hb; replace HO108 := ve HO108 hg hb; have BK110 := hbox; have GW110 := gs HB hg; have GE110 := gs HB hg; replace HB := bs HB hb; have NB101_110 := nl BK101 hg; have NB110_101 := nr BK101 hg; replace BK101 := bb BK101 hb; have NB102_110 := nl BK102 hg; have NB110_102 := nr BK102 hg; replace BK102 := bb BK102 hb; clear hb hbox hg; obtain ⟨Ao15, co15, eo15⟩ := Kd.V_slice HO105.out; subst eo15; have hnb16 := NB110_101.out; have hnc16 := NB101_110.out; have hnb17 := NB110_102.out; have hnc17 := NB102_110.out; obtain ⟨_, _, _, _⟩ := cf2 BK110; obtain ⟨Ao19, co19, eo19⟩ := Kd.V_slice HO108.out; subst eo19) | (with_reducible refine regW_lit_ ?_) | gi_step)
    have n0_ : Aside0 (Kd.V k67 67 ((w14.setCell ⟨gb110, 0, none⟩ (.slice Ao15 t103.length co15)).setCell ⟨gb110, 1, none⟩ (.slice Ao19 t106.length co19)) w.heap.size (fun k_ => k_ ≠ gb101 ∧ k_ ≠ gb102 ∧ k_ ≠ gb110) (.slice Ao15 t103.length co15) t103) := ⟨by (with_reducible repeat (first | apply Kd.V_alloc | apply Kd.V_drewN | apply Kd.V_drew)); exact Kd.V_mono (Kd.V_far (p := ⟨gb110, 1, none⟩) (Kd.V_far (p := ⟨gb110, 0, none⟩) (Kd.V_mono HO105.out (fun k_ hk => (⟨hk, hk.2⟩ : _ ∧ k_ ≠ gb110))) (fun _ hk => hk.2) (.slice Ao15 t103.length co15)) (fun _ hk => hk.2) (.slice Ao19 t106.length co19)) (fun _ hk => ⟨hk.1.1.1, ⟨hk.1.1.2, hk.1.2⟩⟩)⟩
    have n1_ : Aside0 (Kd.V (Kd.int .i64) 3 ((w14.setCell ⟨gb110, 0, none⟩ (.slice Ao15 t103.length co15)).setCell ⟨gb110, 1, none⟩ (.slice Ao19 t106.length co19)) w.heap.size (fun k_ => k_ ≠ gb101 ∧ k_ ≠ gb102 ∧ k_ ≠ gb110) (.slice Ao19 t106.length co19) t106) := ⟨by (with_reducible repeat (first | apply Kd.V_alloc | apply Kd.V_drewN | apply Kd.V_drew)); exact Kd.V_mono (Kd.V_far (p := ⟨gb110, 1, none⟩) (Kd.V_far (p := ⟨gb110, 0, none⟩) (Kd.V_mono HO108.out (fun k_ hk => (⟨hk, hk.2⟩ : _ ∧ k_ ≠ gb110))) (fun _ hk => hk.2) (.slice Ao15 t103.length co15)) (fun _ hk => hk.2) (.slice Ao19 t106.length co19)) (fun _ hk => ⟨hk.1.1.1, ⟨hk.1.1.2, hk.1.2⟩⟩)⟩
    have n2_ : Aside0 (((w14.setCell ⟨gb110, 0, none⟩ (.slice Ao15 t103.length co15)).setCell ⟨gb110, 1, none⟩ (.slice Ao19 t106.length co19)).heap[gb101]? = some (.cells #[.slice A0_0 l0_0.length c0_0, .slice A0_1 l0_1.length c0_1] 25 (0, 0))) := ⟨pF BK101⟩
    have n3_ : Aside0 (((w14.setCell ⟨gb110, 0, none⟩ (.slice Ao15 t103.length co15)).setCell ⟨gb110, 1, none⟩ (.slice Ao19 t106.length co19)).heap[gb102]? = some (.cells #[.int .i64 0, .int .i64 0] 42 (0, 0))) := ⟨pF BK102⟩
    have n4_ : Aside0 (((w14.setCell ⟨gb110, 0, none⟩ (.slice Ao15 t103.length co15)).setCell ⟨gb110, 1, none⟩ (.slice Ao19 t106.length co19)).heap[gb110]? = some (.cells #[.slice Ao15 t103.length co15, .slice Ao19 t106.length co19] 99 (0, 0))) := ⟨by refine pB ?_; refine blk_put (cs := #[.slice Ao15 t103.length co15, .slice none 0 0]) ?_ 1 _ rfl; refine pB ?_; refine blk_put (cs := #[.slice none 0 0, .slice none 0 0]) ?_ 0 _ rfl; exact pB BK110.out⟩
    have n5_ : Aside0 (Below w.heap.size w ((w14.setCell ⟨gb110, 0, none⟩ (.slice Ao15 t103.length co15)).setCell ⟨gb110, 1, none⟩ (.slice Ao19 t106.length co19))) := ⟨pE HB⟩
    (try clear HO105)
    (try clear HO108)
    (try clear BK101)
    (try clear BK102)
    (try clear BK110)
    (try clear HB)
    generalize ((w14.setCell ⟨gb110, 0, none⟩ (.slice Ao15 t103.length co15)).setCell ⟨gb110, 1, none⟩ (.slice Ao19 t106.length co19)) = w20 at n0_ n1_ n2_ n3_ n4_ n5_ ⊢
    have HO105 := n0_
    have HO108 := n1_
    have BK101 := n2_
    have BK102 := n3_
    have BK110 := n4_
    have HB := n5_
    clear n0_ n1_ n2_ n3_ n4_ n5_
    replace HO105 := Aside0.mk (Kd.V_drew HO105.out)
    replace HO108 := Aside0.mk (Kd.V_drew HO108.out)
    replace BK101 := Aside0.mk (blk_drew BK101.out)
    replace BK102 := Aside0.mk (blk_drew BK102.out)
    replace BK110 := Aside0.mk (blk_drew BK110.out)
    replace HB := Aside0.mk (below_drew1 HB.out)
    refine wpIn_wide.2 (start_ (n := 5) (S := fun w' => w'.cell? ⟨gb110, 0, none⟩ = some (.slice Ao15 t103.length co15) ∧ w'.cell? ⟨gb110, 1, none⟩ = some (.slice Ao19 t106.length co19)) (ds := []) #[false, false, false, false, false] (by kernel_rfl) rfl rfl ⟨(blk_cell BK110.out 0).trans rfl, (blk_cell BK110.out 1).trans rfl⟩ (fun hHeld => ?_))
    generalize w20.drew = w21 at HO105 HO108 BK101 BK102 BK110 HB hHeld ⊢
    refine pu 3 22 ?_ (hQ := (fun c_ a_ w_ h_ => HQP.out c_ _ a_ w_ (by rfl) h_))
    refine tk 0 19 hHeld ?_ (hQ := (fun c_ a_ w_ h_ => HQP.out c_ _ a_ w_ (by rfl) h_))
    refine tk 1 20 hHeld ?_ (hQ := (fun c_ a_ w_ h_ => HQP.out c_ _ a_ w_ (by rfl) h_))
    refine on 2 (fun K hK => ?_)
    refine gO Tryz.func63 #[.agg #[.slice Ao15 t103.length co15, .slice Ao19 t106.length co19]] ?_
    with_reducible refine (turn_day_order.calls k _ _ t103 _ _ t106 t111 _ ?side1 ?side2 ?side3 ?side4 A5.out).mono ?_
    (case side1 => exact pC (Kd.V_reads' HO105.out).2.2)
    (case side2 => exact (Kd.V_reads' HO105.out).2.1)
    (case side3 => exact pC (Kd.V_reads' HO108.out).2.2)
    (case side4 => exact (Kd.V_reads' HO108.out).2.1)
    rintro e w22 ⟨v112, rfl, ho0, hb⟩
    have Q113 := Aside0.mk (Kd.R_mono (Kd.R_tight rfl ho0) (fun k_ hk_ => Kd.R_base ho0 k_ hk_.symm))
    have LU102 := Aside0.mk (Array.getElem?_eq_some_iff.1 BK102.out).1
    refine ⟨_, rfl, ?_⟩
    replace HO105 := Aside0.mk (Kd.V_elder' (pV HO105.out) (Kd.R_base ho0) hb)
    replace HO108 := Aside0.mk (Kd.V_elder' (pV HO108.out) (Kd.R_base ho0) hb)
    have HO113 := rl ho0 HB
    replace BK101 := bb BK101 hb
    replace BK102 := bb BK102 hb
    replace BK110 := bb BK110 hb
    replace HB := bs HB hb
    (try clear hb)
    (try clear hb2)
    (try clear hk)
    (try clear hi)
    (try clear ho0)
    obtain ⟨Ao23, co23, eo23⟩ := Kd.R_slice HO113.out
    (first | subst eo23 | (injection eo23 with f1_ f2_ f3_; have f4_ := f1_.symm; have f5_ := f3_.symm; clear f1_ f2_ f3_; subst f4_; subst f5_))
    refine hK.out _ _ ⟨(blk_cell BK110.out 0).trans rfl, (blk_cell BK110.out 1).trans rfl⟩ (fun hHeld => ?_)
    clear hK K
    refine norm_ (a' := ?_) ?_ ?_
    rotate_left
    · show Act.put _ (some 21) _ = _
      simp only [Act.put, List.setIfInBounds_toArray, List.set_cons_zero, List.set_cons_succ, i64_w, i32_w]
      rfl
    refine on 4 (fun K hK => ?_)
    have Q105 := HO105
    have Q108 := HO108
    have LT102 := Aside0.mk (Array.getElem?_eq_some_iff.1 BK102.out).1
    refine gO Tryz.func65 #[.agg #[.slice Ao15 t103.length co15, .slice Ao19 t106.length co19], .slice Ao23 t111.length co23, .int .i64 a1, .func (.func 66) #[] #[]] ?_
    refine (turns_calls Ao15 t103.length co15 Ao19 t106.length co19 Ao23 t111.length co23 a1 66 _).mono ?_
    rintro e w24 ⟨rfl, hw_⟩
    have HW_ := Aside0.mk hw_
    have hb : Below w22.heap.size w22 w24 := by rw [hw_]; exact (four_alloc _ _ _ _ _).1
    clear hw_
    refine ⟨_, rfl, ?_⟩
    replace HO105 := vb HO105 hb
    replace HO108 := vb HO108 hb
    replace HO113 := rb HO113 hb
    replace BK101 := bb BK101 hb
    replace BK102 := bb BK102 hb
    replace BK110 := bb BK110 hb
    replace HB := bs HB hb
    (try clear hb)
    (try clear hb2)
    (try clear hk)
    (try clear hi)
    refine hK.out _ _ ⟨(blk_cell BK110.out 0).trans rfl, (blk_cell BK110.out 1).trans rfl⟩ (fun hHeld => ?_)
    clear hK K
    refine norm_ (a' := ?_) ?_ ?_
    rotate_left
    · show Act.put _ (some 23) _ = _
      simp only [Act.put, List.setIfInBounds_toArray, List.set_cons_zero, List.set_cons_succ, i64_w, i32_w]
      rfl
    refine done_ (by kernel_rfl) ?_
    go_wp2_with (first | (with_reducible refine regW_lit_ ?_) | gi_step)
    obtain ⟨hok_, hz_⟩ := endsO_spec A6.out
    obtain ⟨hm1, hm2, hin⟩ := okT_spec hok_
    obtain ⟨m, rfl⟩ : ∃ m : Nat, a1 = (m : Int) := ⟨(a1 : Int).toNat, by omega⟩
    have HIN := Aside0.mk hin
    have HZ := Aside0.mk hz_
    clear hin hok_ hz_
    obtain ⟨q1, q2, hseq⟩ := turns_made lowF m Ao23 co23 t111 Ao15 co15 t103 Ao19 co19 t106 66 Tryz.f66 4 w22 w24 (fun k => k = gb102) (fun k hk => hk ▸ LT102.out) Tryz.func66 (by kernel_rfl) rfl low_calls (by omega) (by omega) HIN.out HW_.out (fun W' hsz hsame => ⟨(Kd.R_reads' (Kd.R_step Q113.out (fun k hk hlt => hsame k hlt (fun e => by have := LU102.out; omega)))).2.2, (Kd.V_reads' (Kd.V_step Q105.out (fun k hk hlt => hsame k hlt (fun e => hk.1.2.1 e)))).2.2⟩)
    have L2 : gb102 < w24.heap.size := (Array.getElem?_eq_some_iff.1 BK102.out).1
    have hx2 := BK102.out
    have hb5 := HB.out
    have G2 := GW102.out
    have hsz0 : w.heap.size ≤ w24.heap.size := hb5.size
    have QS := Aside0.mk q2
    clear q2
    obtain ⟨xs, hxs⟩ : ∃ xs, runT lowF t103 (List.replicate m 0) t111 = xs := ⟨_, rfl⟩
    rw [hxs] at hseq
    have HZ1 : Aside0 (xs.foldl endF 0 = t114.1) := ⟨by rw [← hxs]; have h_ := HZ.out.1; rwa [Int.toNat_natCast] at h_⟩
    clear hxs
    refine range_outer (xs := xs) (Rv := RvT) (Ex := fun k => k = gb102) (c := 1) (E := fun _ => True) (w0 := w24) rfl (fun h0 => by cases h0) (gf := 99) rfl trivial (fun args w => enters_ Tryz.func99 (by kernel_rfl) rfl args w) hseq (Below.refl _ _) (fun x vs W h => by unfold RvT at h; subst h; rfl)
      (fun i W' => W'.heap[gb102]? = some (.cells #[.int .i64 ((xs.take i).foldl endF 0), .int .i64 0] 42 (0, 0)) ∧ Below w.heap.size w W' ∧ (∀ k, k < w24.heap.size → k ≠ gb102 → W'.heap[k]? = w24.heap[k]?))
      (fun cd i W' => False)
      ?hI ?hIx ⟨hx2, hb5, fun _ _ _ => rfl⟩
      (fun i x a' W' => ∃ g, a' = { tmps := #[.agg #[.slice A0_0 l0_0.length c0_0, .slice A0_1 l0_1.length c0_1], .int .i64 (m : Int), .pointer (some ⟨gb101, 0, none⟩), undef, .pointer (some ⟨gb102, 0, none⟩), .int .i64 t109, .pointer (some ⟨gb110, 0, none⟩), .pointer (some ⟨g, 0, none⟩), undef, .tuple #[.agg #[.slice Ao15 t103.length co15, .slice Ao19 t106.length co19], .int .i64 t109], .agg #[.slice A0_0 l0_0.length c0_0, .slice A0_1 l0_1.length c0_1], .int .i64 (m : Int), .tuple #[.agg #[.slice Ao15 t103.length co15, .slice Ao19 t106.length co19], .int .i64 t109], .agg #[.slice Ao15 t103.length co15, .slice Ao19 t106.length co19], .int .i64 t109, .int .i64 t109, .bool false, undef, undef, .agg #[.slice Ao15 t103.length co15, .slice Ao19 t106.length co19], .agg #[.slice Ao15 t103.length co15, .slice Ao19 t106.length co19], .slice Ao23 t111.length co23, .int .i64 (m : Int), .func (.func 99) #[] #[.pointer (some ⟨w22.heap.size + 2, 0, none⟩), .pointer (some ⟨w22.heap.size + 1, 0, none⟩), .pointer (some ⟨w22.heap.size, 0, none⟩), .pointer (some ⟨w22.heap.size + 3, 0, none⟩)], .agg #[.int .i64 x.1, .int .i64 x.2.1, .int .i64 x.2.2], undef, undef, undef, undef, undef, undef, undef, undef, undef, undef, undef, undef, undef, undef, undef, undef, undef, undef, undef], defers := [] } ∧ W'.heap[g]? = some (.cells #[.int .i64 x.1, .int .i64 x.2.1, .int .i64 x.2.2] 107 (0, 0)) ∧ w24.heap.size + 2 + 1 ≤ g ∧ W'.heap[gb102]? = some (.cells #[.int .i64 ((xs.take i).foldl endF 0), .int .i64 0] 42 (0, 0)) ∧ Below w.heap.size w W' ∧ (∀ k, k < w24.heap.size → k ≠ gb102 → W'.heap[k]? = w24.heap[k]?))
      ?hAx ?assign ?body ?done ?stop
    case hI => exact fun i X Y ⟨h1, h2, h3⟩ hs => ⟨hs.same _ _ h1 (by omega) (fun _ => rfl), Below_istep_ h2 (Nat.le_refl _) hs (by omega) (by omega), fun k hk hne => istep_eq hs hk (by omega) (h3 k hk hne)⟩
    case hIx => exact fun cd i X Y h hs => h
    case hAx => exact fun i x a' _ X Y ⟨g, h0, h4, h5, h1, h2, h3⟩ hs => ⟨g, h0, hs.same _ _ h4 (by omega) (fun _ => rfl), h5, hs.same _ _ h1 (by omega) (fun _ => rfl), Below_istep_ h2 (Nat.le_refl _) hs (by omega) (by omega), fun k hk hne => istep_eq hs hk (by omega) (h3 k hk hne)⟩
    case assign =>
      rintro l' i x vs W' K hx hi hv hsz hK
      unfold RvT at hv
      subst hv
      simp only [List.zip_toArray, List.zip_cons_cons, List.zip_nil_right, List.zip_nil_left, List.size_toArray, List.foldl_toArray', List.foldl_cons, List.foldl_nil, List.setIfInBounds_toArray, List.set_cons_zero, List.set_cons_succ, List.length_cons, List.length_nil]
      have Hi := Aside0.mk hi
      have HK := Aside0.mk hK
      clear hseq hi hK hx2 hb5
      go_wp2_with (first
        | ((with_reducible refine gate_dst (N := 7) rfl ?_); refine box_event_sz ?hg (N := 7) ?hd (cs := #[.int .i64 0, .int .i64 0, .int .i64 0]) (t := 107) ?hr ?_; (case hd => rfl); (case hg => rfl); (case hr => first | (go_simp; done) | (go_simp; rfl)); intro w1 hs1 hx1 hb1
           have hz0 : w1.cell? ⟨W'.heap.size, 0, none⟩ = some (.int .i64 0) := (blk_cell hx1 0).trans rfl
           have hz1 : w1.cell? ⟨W'.heap.size, 1, none⟩ = some (.int .i64 0) := (blk_cell hx1 1).trans rfl
           have hz2 : w1.cell? ⟨W'.heap.size, 2, none⟩ = some (.int .i64 0) := (blk_cell hx1 2).trans rfl
           have hf0 := blk_frozen hx1 0
           have hf1 := blk_frozen hx1 1
           have hf2 := blk_frozen hx1 2)
        | ((with_reducible refine regIn_lit_ ?hnd ?hlo ?_); (case hnd => kernel_rfl); (case hlo => rintro ⟨_, _, h⟩; exact h)) | gi_step)
      have hB := ((hb1.setCell (p := ⟨W'.heap.size, 0, none⟩) (Nat.le_refl _) (.int .i64 x.1)).setCell (p := ⟨W'.heap.size, 1, none⟩) (Nat.le_refl _) (.int .i64 x.2.1)).setCell (p := ⟨W'.heap.size, 2, none⟩) (Nat.le_refl _) (.int .i64 x.2.2)
      have hg1 := blk_put (cs := #[.int .i64 0, .int .i64 0, .int .i64 0]) hx1 0 (.int .i64 x.1) rfl
      have hg2 := blk_put (cs := #[.int .i64 x.1, .int .i64 0, .int .i64 0]) hg1 1 (.int .i64 x.2.1) rfl
      have hg3 := blk_put (cs := #[.int .i64 x.1, .int .i64 x.2.1, .int .i64 0]) hg2 2 (.int .i64 x.2.2) rfl
      exact HK.out _ _ hB ⟨W'.heap.size, rfl, hg3, hsz, (hB.block _ (by omega)).trans Hi.out.1, Hi.out.2.1.trans (hB.mono (by have := Hi.out.2.1.size; omega)), fun k hk hne => (hB.block k (by omega)).trans (Hi.out.2.2 k hk hne)⟩
    case body =>
      rintro l' i x a' W' hl' hloop hx ⟨g, rfl, h4, h5, h1, h2, h3⟩ hsz
      obtain ⟨hlt, hxe⟩ := List.getElem?_eq_some_iff.1 hx
      have htk : (xs.take (i + 1)).foldl endF 0 = endF ((xs.take i).foldl endF 0) x := by rw [List.take_succ_eq_append_getElem hlt, hxe, List.foldl_append]; rfl
      obtain ⟨z, hz⟩ : ∃ z, (xs.take i).foldl endF 0 = z := ⟨_, rfl⟩
      rw [hz] at h1 htk
      have HTK := Aside0.mk htk
      have hc0 : W'.cell? ⟨gb102, 0, none⟩ = some (.int .i64 z) := (blk_cell h1 0).trans rfl
      have hc1 : W'.cell? ⟨gb102, 1, none⟩ = some (.int .i64 0) := (blk_cell h1 1).trans rfl
      have hf0 := blk_frozen h1 0
      have hf1 := blk_frozen h1 1
      have hz0 : W'.cell? ⟨g, 0, none⟩ = some (.int .i64 x.1) := (blk_cell h4 0).trans rfl
      have hz1 : W'.cell? ⟨g, 1, none⟩ = some (.int .i64 x.2.1) := (blk_cell h4 1).trans rfl
      have hz2 : W'.cell? ⟨g, 2, none⟩ = some (.int .i64 x.2.2) := (blk_cell h4 2).trans rfl
      have H1 := Aside0.mk h1
      have H2 := Aside0.mk h2
      have H3 := Aside0.mk h3
      clear hseq h1 h2 h3 h4 hx2 hb5 hx hxe hlt htk hz hloop hl' hsz
      go_wp2_with (first | ((with_reducible refine regIn_lit_ ?hnd ?hlo ?_); (case hnd => kernel_rfl); (case hlo => rintro ⟨_, _, h⟩; exact h)) | gi_step)
      all_goals
        refine ⟨BKeep.of_block gb102 (by simp [World.setCell]) (fun k _ hne => Below.heap_setCell _ _ _ k hne) ⟨_, H1.out, rfl⟩ (fun _ => rfl) (fun hh => by have := hh.1; omega), ?_, ?_, ?_⟩
        · rw [HTK.out]; exact blk_put (cs := #[.int .i64 z, .int .i64 0]) H1.out 0 _ (by unfold endF mx; split <;> first | rfl | (exfalso; omega))
        · exact H2.out.setCell (p := ⟨gb102, 0, none⟩) (show w.heap.size ≤ gb102 from G2) _
        · exact fun k hk hne => (Below.heap_setCell _ _ _ k hne).trans (H3.out k hk hne)
    case stop =>
      rintro D cd i W' hD hi h hmk
      exact h.elim
    case done =>
      rintro D1 W' hD1 ⟨h1, h2, h3⟩ hmk1
      rw [List.take_length, HZ1.out] at h1
      have n0_ := Aside0.mk (Kd.V_drew (Kd.V_step HO105.out (fun k hk hlt => h3 k hlt hk.1.2.1)))
      have n1_ := Aside0.mk (Kd.V_drew (Kd.V_step HO108.out (fun k hk hlt => h3 k hlt hk.1.2.1)))
      have n2_ := Aside0.mk (blk_drew ((h3 gb101 (Array.getElem?_eq_some_iff.1 BK101.out).1 NB101_102.out).trans BK101.out))
      have n3_ := Aside0.mk (blk_drew h1)
      have n4_ := Aside0.mk (blk_drew ((h3 gb110 (Array.getElem?_eq_some_iff.1 BK110.out).1 NB110_102.out).trans BK110.out))
      have n5_ := Aside0.mk (below_drew1 h2)
      have HK1 : Aside0 (W'.drew.heap[D1]? = some (.deferred (some []))) := ⟨hmk1⟩
      have HD1 := Aside0.mk hD1
      have L2a := L2
      clear HO105 HO108 HO113 BK101 BK102 BK110 HB
      have HO105 := n0_
      have HO108 := n1_
      have BK101 := n2_
      have BK102 := n3_
      have BK110 := n4_
      have HB := n5_
      clear n0_ n1_ n2_ n3_ n4_ n5_ hseq h1 h2 h3 hx2 hb5 hD1 hmk1
      simp only [Exit.inBlock, Exit.then]
      gi_wp2
      refine wpIn_wide.2 (start_ (n := 5) (S := fun w' => w'.cell? ⟨gb110, 0, none⟩ = some (.slice Ao15 t103.length co15) ∧ w'.cell? ⟨gb110, 1, none⟩ = some (.slice Ao19 t106.length co19)) (ds := []) #[false, false, false, false, false] (by kernel_rfl) rfl rfl ⟨(blk_cell BK110.out 0).trans rfl, (blk_cell BK110.out 1).trans rfl⟩ (fun hHeld => ?_))
      generalize W'.drew = w21b at HO105 HO108 BK101 BK102 BK110 HB HK1 hHeld ⊢
      refine pu 3 34 ?_ (hQ := (fun c_ a_ w_ h_ => HQP.out c_ _ a_ w_ (by rfl) h_))
      refine tk 0 31 hHeld ?_ (hQ := (fun c_ a_ w_ h_ => HQP.out c_ _ a_ w_ (by rfl) h_))
      refine tk 1 32 hHeld ?_ (hQ := (fun c_ a_ w_ h_ => HQP.out c_ _ a_ w_ (by rfl) h_))
      refine on 2 (fun K hK => ?_)
      refine gO Tryz.func63 #[.agg #[.slice Ao15 t103.length co15, .slice Ao19 t106.length co19]] ?_
      with_reducible refine (turn_day_order.calls k _ _ t103 _ _ t106 t111 _ ?side1 ?side2 ?side3 ?side4 A5.out).mono ?_
      (case side1 => exact pC (Kd.V_reads' HO105.out).2.2)
      (case side2 => exact (Kd.V_reads' HO105.out).2.1)
      (case side3 => exact pC (Kd.V_reads' HO108.out).2.2)
      (case side4 => exact (Kd.V_reads' HO108.out).2.1)
      rintro e w22b ⟨v112b, rfl, ho0, hb⟩
      replace HK1 := Aside0.mk ((hb.block D1 (Array.getElem?_eq_some_iff.1 HK1.out).1).trans HK1.out)
      have Q113b := Aside0.mk (Kd.R_mono (Kd.R_tight rfl ho0) (fun k_ hk_ => Kd.R_base ho0 k_ hk_.symm))
      have LU102b := Aside0.mk (Array.getElem?_eq_some_iff.1 BK102.out).1
      refine ⟨_, rfl, ?_⟩
      replace HO105 := Aside0.mk (Kd.V_elder' (pV HO105.out) (Kd.R_base ho0) hb)
      replace HO108 := Aside0.mk (Kd.V_elder' (pV HO108.out) (Kd.R_base ho0) hb)
      have HO113 := rl ho0 HB
      replace BK101 := bb BK101 hb
      replace BK102 := bb BK102 hb
      replace BK110 := bb BK110 hb
      replace HB := bs HB hb
      (try clear hb)
      (try clear hb2)
      (try clear hk)
      (try clear hi)
      (try clear ho0)
      obtain ⟨Ao23b, co23b, eo23b⟩ := Kd.R_slice HO113.out
      (first | subst eo23b | (injection eo23b with f1_ f2_ f3_; have f4_ := f1_.symm; have f5_ := f3_.symm; clear f1_ f2_ f3_; subst f4_; subst f5_))
      refine hK.out _ _ ⟨(blk_cell BK110.out 0).trans rfl, (blk_cell BK110.out 1).trans rfl⟩ (fun hHeld => ?_)
      clear hK K
      refine norm_ (a' := ?_) ?_ ?_
      rotate_left
      · show Act.put _ (some 33) _ = _
        simp only [Act.put, List.setIfInBounds_toArray, List.set_cons_zero, List.set_cons_succ, i64_w, i32_w]
        rfl
      refine on 4 (fun K hK => ?_)
      have Q105b := HO105
      have Q108b := HO108
      have LT102b := Aside0.mk (Array.getElem?_eq_some_iff.1 BK102.out).1
      refine gO Tryz.func65 #[.agg #[.slice Ao15 t103.length co15, .slice Ao19 t106.length co19], .slice Ao23b t111.length co23b, .int .i64 (m : Int), .func (.func 67) #[] #[]] ?_
      refine (turns_calls Ao15 t103.length co15 Ao19 t106.length co19 Ao23b t111.length co23b (m : Int) 67 _).mono ?_
      rintro e w24b ⟨rfl, hw_⟩
      have HW_b := Aside0.mk hw_
      have hb : Below w22b.heap.size w22b w24b := by rw [hw_]; exact (four_alloc _ _ _ _ _).1
      clear hw_
      replace HK1 := Aside0.mk ((hb.block D1 (Array.getElem?_eq_some_iff.1 HK1.out).1).trans HK1.out)
      refine ⟨_, rfl, ?_⟩
      replace HO105 := vb HO105 hb
      replace HO108 := vb HO108 hb
      replace HO113 := rb HO113 hb
      replace BK101 := bb BK101 hb
      replace BK102 := bb BK102 hb
      replace BK110 := bb BK110 hb
      replace HB := bs HB hb
      (try clear hb)
      (try clear hb2)
      (try clear hk)
      (try clear hi)
      refine hK.out _ _ ⟨(blk_cell BK110.out 0).trans rfl, (blk_cell BK110.out 1).trans rfl⟩ (fun hHeld => ?_)
      clear hK K
      refine norm_ (a' := ?_) ?_ ?_
      rotate_left
      · show Act.put _ (some 35) _ = _
        simp only [Act.put, List.setIfInBounds_toArray, List.set_cons_zero, List.set_cons_succ, i64_w, i32_w]
        rfl
      refine done_ (by kernel_rfl) ?_
      go_wp2_with (first | (with_reducible refine regW_lit_ ?_) | gi_step)
      obtain ⟨q1, q2, hseq⟩ := turns_made highF m Ao23b co23b t111 Ao15 co15 t103 Ao19 co19 t106 67 Tryz.f67 4 w22b w24b (fun k => k = gb102) (fun k hk => hk ▸ LT102b.out) Tryz.func67 (by kernel_rfl) rfl high_calls (by omega) (by omega) HIN.out HW_b.out (fun W' hsz hsame => ⟨(Kd.R_reads' (Kd.R_step Q113b.out (fun k hk hlt => hsame k hlt (fun e => by have := LU102b.out; omega)))).2.2, (Kd.V_reads' (Kd.V_step Q105b.out (fun k hk hlt => hsame k hlt (fun e => hk.1.1.2.1 e)))).2.2⟩)
      have L2 : gb102 < w24b.heap.size := (Array.getElem?_eq_some_iff.1 BK102.out).1
      have hx2 := BK102.out
      have hb5 := HB.out
      have G2 := GW102.out
      have hsz0 : w.heap.size ≤ w24b.heap.size := hb5.size
      have QSb := Aside0.mk q2
      clear q2
      obtain ⟨xs, hxs⟩ : ∃ xs, runT highF t103 (List.replicate m 0) t111 = xs := ⟨_, rfl⟩
      rw [hxs] at hseq
      have HZ2 : Aside0 (xs.foldl endF 0 = t114.2) := ⟨by rw [← hxs]; have h_ := HZ.out.2; rwa [Int.toNat_natCast] at h_⟩
      clear hxs
      refine range_outer (xs := xs) (Rv := RvT) (Ex := fun k => k = gb102) (c := 1) (E := fun _ => True) (w0 := w24b) rfl (fun h0 => by cases h0) (gf := 99) rfl trivial (fun args w => enters_ Tryz.func99 (by kernel_rfl) rfl args w) hseq (Below.refl _ _) (fun x vs W h => by unfold RvT at h; subst h; rfl)
        (fun i W' => W'.heap[gb102]? = some (.cells #[.int .i64 t114.1, .int .i64 ((xs.take i).foldl endF 0)] 42 (0, 0)) ∧ Below w.heap.size w W' ∧ (∀ k, k < w24b.heap.size → k ≠ gb102 → W'.heap[k]? = w24b.heap[k]?))
        (fun cd i W' => False)
        ?hI ?hIx ⟨hx2, hb5, fun _ _ _ => rfl⟩
        (fun i x a' W' => ∃ g, a' = { tmps := #[.agg #[.slice A0_0 l0_0.length c0_0, .slice A0_1 l0_1.length c0_1], .int .i64 (m : Int), .pointer (some ⟨gb101, 0, none⟩), undef, .pointer (some ⟨gb102, 0, none⟩), .int .i64 t109, .pointer (some ⟨gb110, 0, none⟩), undef, .pointer (some ⟨g, 0, none⟩), .tuple #[.agg #[.slice Ao15 t103.length co15, .slice Ao19 t106.length co19], .int .i64 t109], .agg #[.slice A0_0 l0_0.length c0_0, .slice A0_1 l0_1.length c0_1], .int .i64 (m : Int), .tuple #[.agg #[.slice Ao15 t103.length co15, .slice Ao19 t106.length co19], .int .i64 t109], .agg #[.slice Ao15 t103.length co15, .slice Ao19 t106.length co19], .int .i64 t109, .int .i64 t109, .bool false, undef, undef, .agg #[.slice Ao15 t103.length co15, .slice Ao19 t106.length co19], .agg #[.slice Ao15 t103.length co15, .slice Ao19 t106.length co19], .slice Ao23 t111.length co23, .int .i64 (m : Int), .func (.func 99) #[] #[.pointer (some ⟨w22.heap.size + 2, 0, none⟩), .pointer (some ⟨w22.heap.size + 1, 0, none⟩), .pointer (some ⟨w22.heap.size, 0, none⟩), .pointer (some ⟨w22.heap.size + 3, 0, none⟩)], undef, undef, undef, undef, undef, undef, undef, .agg #[.slice Ao15 t103.length co15, .slice Ao19 t106.length co19], .agg #[.slice Ao15 t103.length co15, .slice Ao19 t106.length co19], .slice Ao23b t111.length co23b, .int .i64 (m : Int), .func (.func 99) #[] #[.pointer (some ⟨w22b.heap.size + 2, 0, none⟩), .pointer (some ⟨w22b.heap.size + 1, 0, none⟩), .pointer (some ⟨w22b.heap.size, 0, none⟩), .pointer (some ⟨w22b.heap.size + 3, 0, none⟩)], .agg #[.int .i64 x.1, .int .i64 x.2.1, .int .i64 x.2.2], undef, undef, undef, undef, undef, undef, undef], defers := [] } ∧ W'.heap[g]? = some (.cells #[.int .i64 x.1, .int .i64 x.2.1, .int .i64 x.2.2] 107 (0, 0)) ∧ w24b.heap.size + 2 + 1 ≤ g ∧ W'.heap[gb102]? = some (.cells #[.int .i64 t114.1, .int .i64 ((xs.take i).foldl endF 0)] 42 (0, 0)) ∧ Below w.heap.size w W' ∧ (∀ k, k < w24b.heap.size → k ≠ gb102 → W'.heap[k]? = w24b.heap[k]?))
        ?hAx ?assign ?body ?done ?stop
      case hI => exact fun i X Y ⟨h1, h2, h3⟩ hs => ⟨hs.same _ _ h1 (by omega) (fun _ => rfl), Below_istep_ h2 (Nat.le_refl _) hs (by omega) (by omega), fun k hk hne => istep_eq hs hk (by omega) (h3 k hk hne)⟩
      case hIx => exact fun cd i X Y h hs => h
      case hAx => exact fun i x a' _ X Y ⟨g, h0, h4, h5, h1, h2, h3⟩ hs => ⟨g, h0, hs.same _ _ h4 (by omega) (fun _ => rfl), h5, hs.same _ _ h1 (by omega) (fun _ => rfl), Below_istep_ h2 (Nat.le_refl _) hs (by omega) (by omega), fun k hk hne => istep_eq hs hk (by omega) (h3 k hk hne)⟩
      case assign =>
        rintro l' i x vs W' K hx hi hv hsz hK
        unfold RvT at hv
        subst hv
        simp only [List.zip_toArray, List.zip_cons_cons, List.zip_nil_right, List.zip_nil_left, List.size_toArray, List.foldl_toArray', List.foldl_cons, List.foldl_nil, List.setIfInBounds_toArray, List.set_cons_zero, List.set_cons_succ, List.length_cons, List.length_nil]
        have Hi := Aside0.mk hi
        have HK := Aside0.mk hK
        clear hseq hi hK hx2 hb5
        go_wp2_with (first
          | ((with_reducible refine gate_dst (N := 8) rfl ?_); refine box_event_sz ?hg (N := 8) ?hd (cs := #[.int .i64 0, .int .i64 0, .int .i64 0]) (t := 107) ?hr ?_; (case hd => rfl); (case hg => rfl); (case hr => first | (go_simp; done) | (go_simp; rfl)); intro w1 hs1 hx1 hb1
             have hz0 : w1.cell? ⟨W'.heap.size, 0, none⟩ = some (.int .i64 0) := (blk_cell hx1 0).trans rfl
             have hz1 : w1.cell? ⟨W'.heap.size, 1, none⟩ = some (.int .i64 0) := (blk_cell hx1 1).trans rfl
             have hz2 : w1.cell? ⟨W'.heap.size, 2, none⟩ = some (.int .i64 0) := (blk_cell hx1 2).trans rfl
             have hf0 := blk_frozen hx1 0
             have hf1 := blk_frozen hx1 1
             have hf2 := blk_frozen hx1 2)
          | ((with_reducible refine regIn_lit_ ?hnd ?hlo ?_); (case hnd => kernel_rfl); (case hlo => rintro ⟨_, _, h⟩; exact h)) | gi_step)
        have hB := ((hb1.setCell (p := ⟨W'.heap.size, 0, none⟩) (Nat.le_refl _) (.int .i64 x.1)).setCell (p := ⟨W'.heap.size, 1, none⟩) (Nat.le_refl _) (.int .i64 x.2.1)).setCell (p := ⟨W'.heap.size, 2, none⟩) (Nat.le_refl _) (.int .i64 x.2.2)
        have hg1 := blk_put (cs := #[.int .i64 0, .int .i64 0, .int .i64 0]) hx1 0 (.int .i64 x.1) rfl
        have hg2 := blk_put (cs := #[.int .i64 x.1, .int .i64 0, .int .i64 0]) hg1 1 (.int .i64 x.2.1) rfl
        have hg3 := blk_put (cs := #[.int .i64 x.1, .int .i64 x.2.1, .int .i64 0]) hg2 2 (.int .i64 x.2.2) rfl
        exact HK.out _ _ hB ⟨W'.heap.size, rfl, hg3, hsz, (hB.block _ (by omega)).trans Hi.out.1, Hi.out.2.1.trans (hB.mono (by have := Hi.out.2.1.size; omega)), fun k hk hne => (hB.block k (by omega)).trans (Hi.out.2.2 k hk hne)⟩
      case body =>
        rintro l' i x a' W' hl' hloop hx ⟨g, rfl, h4, h5, h1, h2, h3⟩ hsz
        obtain ⟨hlt, hxe⟩ := List.getElem?_eq_some_iff.1 hx
        have htk : (xs.take (i + 1)).foldl endF 0 = endF ((xs.take i).foldl endF 0) x := by rw [List.take_succ_eq_append_getElem hlt, hxe, List.foldl_append]; rfl
        obtain ⟨z, hz⟩ : ∃ z, (xs.take i).foldl endF 0 = z := ⟨_, rfl⟩
        rw [hz] at h1 htk
        have HTK := Aside0.mk htk
        have hc0 : W'.cell? ⟨gb102, 0, none⟩ = some (.int .i64 t114.1) := (blk_cell h1 0).trans rfl
        have hc1 : W'.cell? ⟨gb102, 1, none⟩ = some (.int .i64 z) := (blk_cell h1 1).trans rfl
        have hf0 := blk_frozen h1 0
        have hf1 := blk_frozen h1 1
        have hz0 : W'.cell? ⟨g, 0, none⟩ = some (.int .i64 x.1) := (blk_cell h4 0).trans rfl
        have hz1 : W'.cell? ⟨g, 1, none⟩ = some (.int .i64 x.2.1) := (blk_cell h4 1).trans rfl
        have hz2 : W'.cell? ⟨g, 2, none⟩ = some (.int .i64 x.2.2) := (blk_cell h4 2).trans rfl
        have H1 := Aside0.mk h1
        have H2 := Aside0.mk h2
        have H3 := Aside0.mk h3
        clear hseq h1 h2 h3 h4 hx2 hb5 hx hxe hlt htk hz hloop hl' hsz
        go_wp2_with (first | ((with_reducible refine regIn_lit_ ?hnd ?hlo ?_); (case hnd => kernel_rfl); (case hlo => rintro ⟨_, _, h⟩; exact h)) | gi_step)
        all_goals
          refine ⟨BKeep.of_block gb102 (by simp [World.setCell]) (fun k _ hne => Below.heap_setCell _ _ _ k hne) ⟨_, H1.out, rfl⟩ (fun _ => rfl) (fun hh => by have := hh.1; omega), ?_, ?_, ?_⟩
          · rw [HTK.out]; exact blk_put (cs := #[.int .i64 t114.1, .int .i64 z]) H1.out 1 _ (by unfold endF mx; split <;> first | rfl | (exfalso; omega))
          · exact H2.out.setCell (p := ⟨gb102, 1, none⟩) (show w.heap.size ≤ gb102 from G2) _
          · exact fun k hk hne => (Below.heap_setCell _ _ _ k hne).trans (H3.out k hk hne)
      case stop =>
        rintro D cd i W' hD hi h hmk
        exact h.elim
      case done =>
        rintro D2 W' hD2 ⟨h1, h2, h3⟩ hmk2
        rw [List.take_length, HZ2.out] at h1
        have LD1 : D1 < w24b.heap.size := (Array.getElem?_eq_some_iff.1 HK1.out).1
        have hk1 : W'.heap[D1]? = some (.deferred (some [])) := (h3 D1 LD1 (by have := HD1.out; omega)).trans HK1.out
        have hc0 : W'.cell? ⟨gb102, 0, none⟩ = some (.int .i64 t114.1) := (blk_cell h1 0).trans rfl
        have hc1 : W'.cell? ⟨gb102, 1, none⟩ = some (.int .i64 t114.2) := (blk_cell h1 1).trans rfl
        have hf0 := blk_frozen h1 0
        have hf1 := blk_frozen h1 1
        have H1 := Aside0.mk h1
        have H2 := Aside0.mk h2
        have M1 := Aside0.mk hk1
        have M2 := Aside0.mk hmk2
        have HD2 := Aside0.mk hD2
        clear hseq h1 h2 h3 hx2 hb5 hk1 hmk2 hD2
        simp only [Exit.inBlock, Exit.then]
        go_wp2_with (first | (with_reducible refine regW_lit_ ?_) | gi_step)
        have e0 : (W'.setCell ⟨gb102, 0, none⟩ (.int .i64 t114.1)).heap[gb102]? = some (.cells #[.int .i64 t114.1, .int .i64 t114.2] 42 (0, 0)) := blk_put (cs := #[.int .i64 t114.1, .int .i64 t114.2]) H1.out 0 _ rfl
        have e1 : ((W'.setCell ⟨gb102, 0, none⟩ (.int .i64 t114.1)).setCell ⟨gb102, 1, none⟩ (.int .i64 t114.2)).heap[gb102]? = some (.cells #[.int .i64 t114.1, .int .i64 t114.2] 42 (0, 0)) := blk_put (cs := #[.int .i64 t114.1, .int .i64 t114.2]) e0 1 _ rfl
        have e3 : ∀ D, D ≠ gb102 → ((W'.setCell ⟨gb102, 0, none⟩ (.int .i64 t114.1)).setCell ⟨gb102, 1, none⟩ (.int .i64 t114.2)).heap[D]? = W'.heap[D]? := fun D h => (Below.heap_setCell _ _ _ D h).trans (Below.heap_setCell _ _ _ D h)
        have e4 := (H2.out.setCell (p := ⟨gb102, 0, none⟩) (show w.heap.size ≤ gb102 from G2) (.int .i64 t114.1)).setCell (p := ⟨gb102, 1, none⟩) (show w.heap.size ≤ gb102 from G2) (.int .i64 t114.2)
        refine HQF.out _ _ _ (fun c h => by cases h) ?_
        have hd1 := HD1.out
        have hd2 := HD2.out
        refine Marks.leaves (lo := w24.heap.size) (Ds := [D2, D1]) (.cons ((e3 D2 (by omega)).trans M2.out) (by omega) (fun E hE => by simp only [List.mem_singleton] at hE; omega) (.cons ((e3 D1 (by omega)).trans M1.out) (by omega) (fun E hE => by cases hE) (.nil _))) fun W2 hs => ⟨.tuple #[.agg #[.int .i64 t114.1, .int .i64 t114.2], .int .i64 0], ?res, rfl, Below_istep_ e4 (Nat.le_refl _) hs (by omega) (by omega)⟩
        exact results_ct (p := 4) (u := 5) rfl _ _ gb102 42 #[.int .i64 t114.1, .int .i64 t114.2] (0, 0) _ rfl (hs.same gb102 _ e1 (by omega) (fun _ => rfl)) Tryz.underlying42 rfl (by kernel_rfl)
  · rw [if_neg c4] at H
    have c4b0 : (t109 == 0) = false := beq_eq_false_iff_ne.mpr c4
    have c4b1 : (t109 != 0) = true := bne_iff_ne.mpr c4
    simp only [Option.some.injEq, Prod.mk.injEq] at H
    obtain ⟨rfl, rfl, rfl⟩ := H
    go_enter Tryz.func27, Tryz.ntmps27
    go_wp2_with (first | ((with_reducible refine gate_dst (N := 2) rfl ?_); refine bx 2 #[.slice A0_0 l0_0.length c0_0, .slice A0_1 l0_1.length c0_1] 25 ?_; intro gb101 hg w32 hbox hb; have BK101 := hbox; have GW101 := gs HB hg; have GE101 := gs HB hg; replace HB := bs HB hb; clear hb hbox hg) | ((with_reducible refine gate_dst (N := 4) rfl ?_); refine bx 4 #[.int .i64 0, .int .i64 0] 42 ?_; intro gb102 hg w33 hbox hb; have BK102 := hbox; have GW102 := gs HB hg; have GE102 := gs HB hg; replace HB := bs HB hb; have NB101_102 := nl BK101 hg; have NB102_101 := nr BK101 hg; replace BK101 := bb BK101 hb; clear hb hbox hg; have hnb34 := NB101_102.out; have hnc34 := NB102_101.out; obtain ⟨_, _, _, _⟩ := cf2 BK101) | ((with_reducible refine gc 62 rfl ?_); refine gL 12 Tryz.func62 #[.agg #[.slice A0_0 l0_0.length c0_0, .slice A0_1 l0_1.length c0_1], .int .i64 a1, .int .i64 0] ?_; (with_reducible refine (turn_open.calls k (fun k_ => k_ < w.heap.size) _ _ l0_0 (fun k_ => k_ < w.heap.size) _ _ l0_1 a1 0 t103 t106 t109 _ ?side1 ?side2 A3.out).mono ?_); (case side1 => exact Kd.V_mk HC0_0.out (Kd.F_below (Kd.C_F k67_heap HR0_0.out) (pE HB))); (case side2 => exact Kd.V_mk HC0_1.out (Kd.F_below (Kd.C_F (Kd.heap_int .i64) HR0_1.out) (pE HB))); rintro e w36 ⟨v104, v107, rfl, ho0, ho1, hb⟩; refine ⟨_, rfl, ?_⟩; have HO105 := Aside0.mk (Kd.V_lower (Kd.V_mono (ok' := fun k_ => k_ ≠ gb101 ∧ k_ ≠ gb102) ho0 (fun k_ hk_ => ⟨Or.elim hk_ (fun hs_ => Or.elim hs_ (fun hs_ => fun e_ => Nat.not_le.2 hs_ (by rw [e_]; exact GW101.out)) (fun hs_ => fun e_ => Nat.not_le.2 hs_ (by rw [e_]; exact GW101.out))) (fun hn_ => (Kd.freshB (g := gb101) (o := .cells #[.slice A0_0 l0_0.length c0_0, .slice A0_1 l0_1.length c0_1] 25 (0, 0)) (pB BK101.out) k_ hn_)), Or.elim hk_ (fun hs_ => Or.elim hs_ (fun hs_ => fun e_ => Nat.not_le.2 hs_ (by rw [e_]; exact GW102.out)) (fun hs_ => fun e_ => Nat.not_le.2 hs_ (by rw [e_]; exact GW102.out))) (fun hn_ => (Kd.freshB (g := gb102) (o := .cells #[.int .i64 0, .int .i64 0] 42 (0, 0)) (pB BK102.out) k_ hn_))⟩)) (below_size (pE HB))); have HO108 := Aside0.mk (Kd.V_lower (Kd.V_mono (ok' := fun k_ => k_ ≠ gb101 ∧ k_ ≠ gb102) ho1 (fun k_ hk_ => ⟨Or.elim hk_ (fun hs_ => Or.elim hs_ (fun hs_ => fun e_ => Nat.not_le.2 hs_ (by rw [e_]; exact GW101.out)) (fun hs_ => fun e_ => Nat.not_le.2 hs_ (by rw [e_]; exact GW101.out))) (fun hn_ => (Kd.freshB (g := gb101) (o := .cells #[.slice A0_0 l0_0.length c0_0, .slice A0_1 l0_1.length c0_1] 25 (0, 0)) (pB BK101.out) k_ hn_)), Or.elim hk_ (fun hs_ => Or.elim hs_ (fun hs_ => fun e_ => Nat.not_le.2 hs_ (by rw [e_]; exact GW102.out)) (fun hs_ => fun e_ => Nat.not_le.2 hs_ (by rw [e_]; exact GW102.out))) (fun hn_ => (Kd.freshB (g := gb102) (o := .cells #[.int .i64 0, .int .i64 0] 42 (0, 0)) (pB BK102.out) k_ hn_))⟩)) (below_size (pE HB))); replace BK101 := bb BK101 hb; replace BK102 := bb BK102 hb; replace HB := bs HB hb; clear hb ho0 ho1) | ((with_reducible refine gate_dst (N := 6) rfl ?_); refine bx 6 #[.slice none 0 0, .slice none 0 0] 99 ?_; intro gb110 hg w37 hbox hb; replace HO105 := ve HO105 hg hb; replace HO108 := ve HO108 hg hb; have BK110 := hbox; have GW110 := gs HB hg; have GE110 := gs HB hg; replace HB := bs HB hb; have NB101_110 := nl BK101 hg; have NB110_101 := nr BK101 hg; replace BK101 := bb BK101 hb; have NB102_110 := nl BK102 hg; have NB110_102 := nr BK102 hg; replace BK102 := bb BK102 hb; clear hb hbox hg; obtain ⟨Ao38, co38, eo38⟩ := Kd.V_slice HO105.out; subst eo38; have hnb39 := NB110_101.out; have hnc39 := NB101_110.out; have hnb40 := NB110_102.out; have hnc40 := NB102_110.out; obtain ⟨_, _, _, _⟩ := cf2 BK110; obtain ⟨Ao42, co42, eo42⟩ := Kd.V_slice HO108.out; subst eo42; obtain ⟨_, _, _, _⟩ := cf2 BK102))
    refine bodyPost_ret (results_ct rfl _ _ gb102 42 #[.int .i64 0, .int .i64 0] (0, 0) _ rfl (by refine pB ?_; refine blk_put (cs := #[.int .i64 0, .int .i64 0]) ?_ 1 _ rfl; refine pB ?_; refine blk_put (cs := #[.int .i64 0, .int .i64 0]) ?_ 0 _ rfl; refine pB ?_; refine blk_far ?_ NB102_110.out _; refine pB ?_; refine blk_far ?_ NB102_110.out _; exact pB BK102.out) Tryz.underlying42 rfl (by kernel_rfl)) rfl ?_
    exact ⟨eT, pE HB⟩
end Go.Proofs.YtlmglnobdcgbeaaGreat.P
