/- Part 4 of what the law's proof needs: words, walks of functions and plain facts. -/
import Derived.Test.YtlmglnobdcgbeaaGreatC01
import Derived.Test.YtlmglnobdcgbeaaGreatC02
import Derived.Test.YtlmglnobdcgbeaaGreatC03
set_option linter.unusedVariables false
set_option linter.unusedSimpArgs false
namespace Go.Proofs.YtlmglnobdcgbeaaGreat.P
open Go.RowKit Go.Proofs.YtlmglnobdcgbeaaGreatW.PrintWords Go.Proofs.YtlmglnobdcgbeaaGreatW.PrintLast Go.Proofs.YtlmglnobdcgbeaaGreatW.PrintMore
attribute [local go_sem] max2_int min2_int max_two min_two max_three min_three max_four min_four
def walkmillref04_Copy.f (l0_0 : List (S67)) (l0_1 : List Int) : Option ((List (S67)) × List Int) := (some (([] : List (S67)) : List (S67))).bind fun y103 => (if y103.length + l0_0.length < 4398046511104 then ((some (([] : List Int) : List Int)).bind fun y109 => (if y109.length + l0_1.length < 17592186044416 then (some ((y103 ++ l0_0), (y109 ++ l0_1))) else (none))) else (none))
def walkmillref04_Copy.T1 : Bool × List (List Nat × List Nat) := (true, [([], []), ([], []), ([1], [1]), ([0, 2], [0, 2]), ([], []), ([], []), ([5], [5]), ([4, 6, 3], [4, 6]), ([3, 7], [3, 7]), ([8, 7, 0, 1, 2, 3, 4, 5, 6, 7, 8], [8])])
def walkmillref04_Copy.B1 : List Nat := [0, 0, 2, 7, 0, 0, 32, 127, 255, 511]
theorem walkmillref04_Copy.tab1 : rtab .any (opsOf Tryz.f18 1) = walkmillref04_Copy.T1 := by kernel_rfl
theorem walkmillref04_Copy.bits1 : waitsOk walkmillref04_Copy.T1.2 walkmillref04_Copy.B1 = true := by kernel_rfl
set_option maxHeartbeats 8000000 in
set_option maxRecDepth 100000 in
theorem walkmillref04_Copy.calls (A0_0 : Option Addr) (c0_0 : Nat) (l0_0 : List (S67)) (A0_1 : Option Addr) (c0_1 : Nat) (l0_1 : List Int) (r1 : List (S67)) (r2 : List Int) (w : World) (hr0_0 : Kd.C k67 w A0_0 l0_0.length l0_0) (hc0_0 : l0_0.length ≤ c0_0) (hr0_1 : Kd.C (Kd.int .i64) w A0_1 l0_1.length l0_1) (hc0_1 : l0_1.length ≤ c0_1) (h : walkmillref04_Copy.f l0_0 l0_1 = some (r1, r2)) :
  Calls Tryz.prog 18 #[.agg #[.slice A0_0 l0_0.length c0_0, .slice A0_1 l0_1.length c0_1]] w fun e w' => ∃ v0_ v1_ : Value, e = .returned (.agg #[v0_, v1_]) ∧ Kd.R k67 67 w' w.heap.size (fun _ => True) v0_ r1 ∧ Kd.R (Kd.int .i64) 3 w' w.heap.size (fun _ => True) v1_ r2 ∧ Below w.heap.size w w' := by
 have hu25 := Tryz.underlying25
 have HR0_0 := Aside0.mk hr0_0
 have HC0_0 := Aside0.mk hc0_0
 clear hr0_0 hc0_0
 have HR0_1 := Aside0.mk hr0_1
 have HC0_1 := Aside0.mk hc0_1
 clear hr0_1 hc0_1
 have HB := Aside0.mk (Below.refl w.heap.size w)
 have H : ((some (([] : List (S67)) : List (S67))).bind fun y103 => (if y103.length + l0_0.length < 4398046511104 then ((some (([] : List Int) : List Int)).bind fun y109 => (if y109.length + l0_1.length < 17592186044416 then (some ((y103 ++ l0_0), (y109 ++ l0_1))) else (none))) else (none))) = some (r1, r2) := h
 clear h
 obtain ⟨y103, hy103⟩ : ∃ y_ : List (S67), y_ = (([] : List (S67))) := ⟨_, rfl⟩
 replace H : (if y103.length + l0_0.length < 4398046511104 then ((some (([] : List Int) : List Int)).bind fun y109 => (if y109.length + l0_1.length < 17592186044416 then (some ((y103 ++ l0_0), (y109 ++ l0_1))) else (none))) else (none)) = some (r1, r2) := yy hy103 H
 have Ny103 := Aside0.mk hy103
 clear hy103
 by_cases c2 : y103.length + l0_0.length < 4398046511104
 ·rw [if_pos c2] at H
  have LMc2 := Aside0.mk c2
  clear c2
  obtain ⟨y106, hy106⟩ : ∃ y_ : List (S67), y_ = (y103 ++ l0_0) := ⟨_, rfl⟩
  replace H : ((some (([] : List Int) : List Int)).bind fun y109 => (if y109.length + l0_1.length < 17592186044416 then (some (y106, (y109 ++ l0_1))) else (none))) = some (r1, r2) := yy hy106 H
  have Ny106 := Aside0.mk hy106
  clear hy106
  obtain ⟨y109, hy109⟩ : ∃ y_ : List Int, y_ = (([] : List Int)) := ⟨_, rfl⟩
  replace H : (if y109.length + l0_1.length < 17592186044416 then (some (y106, (y109 ++ l0_1))) else (none)) = some (r1, r2) := yy hy109 H
  have Ny109 := Aside0.mk hy109
  clear hy109
  by_cases c3 : y109.length + l0_1.length < 17592186044416
  ·rw [if_pos c3] at H
   have LMc3 := Aside0.mk c3
   clear c3
   obtain ⟨y112, hy112⟩ : ∃ y_ : List Int, y_ = (y109 ++ l0_1) := ⟨_, rfl⟩
   replace H : (some (y106, y112)) = some (r1, r2) := yy hy112 H
   have Ny112 := Aside0.mk hy112
   clear hy112
   simp only [Option.some.injEq, Prod.mk.injEq] at H
   obtain ⟨rfl, rfl⟩ := H
   go_enter Tryz.func18, Tryz.ntmps18
   try go_wp2_with (first | ((with_reducible refine gate_dst (N := 1) rfl ?_); refine bx 1 #[.slice A0_0 l0_0.length c0_0, .slice A0_1 l0_1.length c0_1] 25 ?_; intro gb101 hg w4 hbox hb; have BK101 := hbox; have GW101 := gs HB hg; have GE101 := gs HB hg; replace HB := bs HB hb; clear hb hbox hg) | ((with_reducible refine gate_dst (N := 2) rfl ?_); refine bx 2 #[.slice none 0 0, .slice none 0 0] 25 ?_; intro gb102 hg w5 hbox hb; have BK102 := hbox; have GW102 := gs HB hg; have GE102 := gs HB hg; replace HB := bs HB hb; have NB101_102 := nl BK101 hg; have NB102_101 := nr BK101 hg; replace BK101 := bb BK101 hb; clear hb hbox hg))
   replace BK101 := Aside0.mk (blk_drew BK101.out)
   replace BK102 := Aside0.mk (blk_drew BK102.out)
   replace HB := Aside0.mk (below_drew1 HB.out)
   refine start_ (n := 10) (S := fun w' => w'.cell? ⟨gb101, 0, none⟩ = some (.slice A0_0 l0_0.length c0_0) ∧ w'.cell? ⟨gb101, 1, none⟩ = some (.slice A0_1 l0_1.length c0_1)) (ds := []) #[false, false, false, false, false, false, false, false, false, false] (by kernel_rfl) rfl rfl ⟨(blk_cell BK101.out 0).trans rfl, (blk_cell BK101.out 1).trans rfl⟩ (fun hHeld => ?_); refine with_tabW walkmillref04_Copy.tab1 walkmillref04_Copy.bits1 (fun HT_ HW_ => ?_)
   generalize w5.drew = w6 at BK101 BK102 HB hHeld ⊢
   refine pu 1 4 ?_
   refine pu 5 8 ?_
   refine tk 2 5 hHeld ?_
   refine tk 6 9 hHeld ?_
   refine join_ (σ := Value × Value × Value) 3 #[true, true, true, true, true, true, true, false, false, false] (fun s_ => [(3, s_.1), (6, s_.2.1), (7, s_.2.2)]) (fun s_ w' => (w'.cell? ⟨gb101, 0, none⟩ = some (.slice A0_0 l0_0.length c0_0) ∧ w'.cell? ⟨gb101, 1, none⟩ = some (.slice A0_1 l0_1.length c0_1)) ∧ (Kd.R k67 67 w' w.heap.size (fun _ => True) s_.2.1 y106) ∧ (Kd.R (Kd.int .i64) 3 w' w.heap.size (fun _ => True) s_.2.2 y109) ∧ (w'.heap[gb101]? = some (.cells #[.slice A0_0 l0_0.length c0_0, .slice A0_1 l0_1.length c0_1] 25 (0, 0))) ∧ (w'.heap[gb102]? = some (.cells #[.slice none 0 0, .slice none 0 0] 25 (0, 0))) ∧ (Below w.heap.size w w')) ?_ ?_
   rotate_left
   ·intro hCont
    refine two_ (i := 0) (j := 4) (Ni := some 3) (Nj := some 7) #[true, true, true, false, false, true, true, false, false, false] #[false, true, true, false, true, true, true, false, false, false] rfl rfl rfl rfl (two_of HT_.out (by kernel_rfl)) (by decide) (by decide) (fun K hK => ?_) (fun K hK => ?_)
    ·skip
     refine Kd.R_lit_step k67 _ 67 ?hg (N := 3) ?hd (xs := ([] : List (S67))) (inner := []) (ok := fun _ => True) (okp := fun _ => True) ?hr ?hp (fun _ hk => hk) trivial (Below.refl _ _) (Nat.le_refl _) (by simp) ?_; (case hd => rfl); (case hg => rfl); (case hr => first | (go_simp; done) | (go_simp; rfl)); (case hp => exact (Reps.none _ _))
     intro v104 w7 ho8 hb hg_ hnew_
     clear hg_ hnew_
     (first | rw [← Ny103.out] at ho8 | (simp only [Int.reduceToNat] at ho8; rw [← Ny103.out] at ho8))
     have HO105 := rl ho8 HB
     replace BK101 := bb BK101 hb
     replace BK102 := bb BK102 hb
     replace HB := bs HB hb
     clear hb ho8
     refine hK.out _ _ ⟨(blk_cell BK101.out 0).trans rfl, (blk_cell BK101.out 1).trans rfl⟩ (fun hHeld => ?_)
     clear hK K
     refine norm_ (a' := ?_) ?_ ?_
     rotate_left
     ·show Act.put _ (some 3) _ = _
      simp only [Act.put, List.setIfInBounds_toArray, List.set_cons_zero, List.set_cons_succ, i64_w, i32_w]
      rfl
     refine two_ (i := 3) (j := 4) (Ni := some 6) (Nj := some 7) #[true, true, true, true, false, true, true, false, false, false] #[true, true, true, false, true, true, true, false, false, false] rfl rfl rfl rfl (two_of HT_.out (by kernel_rfl)) (by decide) (by decide) (fun K hK => ?_) (fun K hK => ?_)
     ·skip
      refine Kd.R_append_rows_step k67 (w0 := w) w.heap.size (by rfl) (.tmp 3) (.tmp 5) 22 67 (.agg #[(.int .i64 0), (.int .i64 0), (.int .i64 0), (.int .i64 0)]) 32 rfl Tryz.underlying22 info67 rfl (by decide) (by omega) v104 y103 l0_0 _ _ _ (fun _ => True) (fun _ => False) rfl rfl ?aO ?aR (fun _ _ h => h) (fun _ h => h.elim) ?aF ?aB ?aS ?aL ?_
      (case aR => exact pC (Kd.C_below HR0_0.out HB.out))
      (case aB => exact (pE HB))
      (case aF => exact (fun _ _ => trivial))
      (case aO => exact (pR HO105.out))
      (case aS => exact (below_size (pE HB)))
      (case aL => have := LMc2.out; omega)
      intro v107 w9 ho hb hg hat
      rw [← Ny106.out] at ho
      replace BK101 := Aside0.mk (blk_grown (g := gb101) (o := .cells #[.slice A0_0 l0_0.length c0_0, .slice A0_1 l0_1.length c0_1] 25 (0, 0)) (pB BK101.out) hg (Kd.R_ne HO105.out BK101.out (by decide)))
      replace BK102 := Aside0.mk (blk_grown (g := gb102) (o := .cells #[.slice none 0 0, .slice none 0 0] 25 (0, 0)) (pB BK102.out) hg (Kd.R_ne HO105.out BK102.out (by decide)))
      replace HB := Aside0.mk (hb)
      have HO108 := Aside0.mk (ho)
      clear HO105 ho hb hg hat
      refine hK.out _ _ ⟨(blk_cell BK101.out 0).trans rfl, (blk_cell BK101.out 1).trans rfl⟩ (fun hHeld => ?_)
      clear hK K
      refine norm_ (a' := ?_) ?_ ?_
      rotate_left
      ·show Act.put _ (some 6) _ = _
       simp only [Act.put, List.setIfInBounds_toArray, List.set_cons_zero, List.set_cons_succ, i64_w, i32_w]
       rfl
      refine on 4 (fun K hK => ?_)
      refine Kd.R_lit_step (Kd.int .i64) _ 3 ?hg (N := 7) ?hd (xs := ([] : List Int)) (inner := []) (ok := fun _ => True) (okp := fun _ => True) ?hr ?hp (fun _ hk => hk) trivial (Below.refl _ _) (Nat.le_refl _) (by simp) ?_; (case hd => rfl); (case hg => rfl); (case hr => first | (go_simp; done) | (go_simp; rfl)); (case hp => exact (Reps.none _ _))
      intro v110 w10 ho11 hb hg_ hnew_
      clear hg_ hnew_
      (first | rw [← Ny109.out] at ho11 | (simp only [Int.reduceToNat] at ho11; rw [← Ny109.out] at ho11))
      replace HO108 := rb HO108 hb
      have HO111 := rl ho11 HB
      replace BK101 := bb BK101 hb
      replace BK102 := bb BK102 hb
      replace HB := bs HB hb
      clear hb ho11
      refine hK.out _ _ ⟨(blk_cell BK101.out 0).trans rfl, (blk_cell BK101.out 1).trans rfl⟩ (fun hHeld => ?_)
      clear hK K
      refine norm_ (a' := ?_) ?_ ?_
      rotate_left
      ·show Act.put _ (some 7) _ = _
       simp only [Act.put, List.setIfInBounds_toArray, List.set_cons_zero, List.set_cons_succ, i64_w, i32_w]
       rfl
      exact norm_ (by simp only [putAll, Act.put, List.setIfInBounds_toArray, List.set_cons_zero, List.set_cons_succ]) (hCont (v104, v107, v110) _ ⟨hHeld, (pR HO108.out), (pR HO111.out), (pB BK101.out), (pB BK102.out), (pE HB)⟩)
     ·skip
      refine Kd.R_lit_step (Kd.int .i64) _ 3 ?hg (N := 7) ?hd (xs := ([] : List Int)) (inner := []) (ok := fun _ => True) (okp := fun _ => True) ?hr ?hp (fun _ hk => hk) trivial (Below.refl _ _) (Nat.le_refl _) (by simp) ?_; (case hd => rfl); (case hg => rfl); (case hr => first | (go_simp; done) | (go_simp; rfl)); (case hp => exact (Reps.none _ _))
      intro v110 w9 ho10 hb hg_ hnew_
      clear hg_ hnew_
      (first | rw [← Ny109.out] at ho10 | (simp only [Int.reduceToNat] at ho10; rw [← Ny109.out] at ho10))
      replace HO105 := rb HO105 hb
      have HO111 := rl ho10 HB
      replace BK101 := bb BK101 hb
      replace BK102 := bb BK102 hb
      replace HB := bs HB hb
      clear hb ho10
      refine hK.out _ _ ⟨(blk_cell BK101.out 0).trans rfl, (blk_cell BK101.out 1).trans rfl⟩ (fun hHeld => ?_)
      clear hK K
      refine norm_ (a' := ?_) ?_ ?_
      rotate_left
      ·show Act.put _ (some 7) _ = _
       simp only [Act.put, List.setIfInBounds_toArray, List.set_cons_zero, List.set_cons_succ, i64_w, i32_w]
       rfl
      refine on 3 (fun K hK => ?_)
      refine Kd.R_append_rows_step k67 (w0 := w) w.heap.size (by rfl) (.tmp 3) (.tmp 5) 22 67 (.agg #[(.int .i64 0), (.int .i64 0), (.int .i64 0), (.int .i64 0)]) 32 rfl Tryz.underlying22 info67 rfl (by decide) (by omega) v104 y103 l0_0 _ _ _ (fun _ => True) (fun _ => False) rfl rfl ?aO ?aR (fun _ _ h => h) (fun _ h => h.elim) ?aF ?aB ?aS ?aL ?_
      (case aR => exact pC (Kd.C_below HR0_0.out HB.out))
      (case aB => exact (pE HB))
      (case aF => exact (fun _ _ => trivial))
      (case aO => exact (pR HO105.out))
      (case aS => exact (below_size (pE HB)))
      (case aL => have := LMc2.out; omega)
      intro v107 w11 ho hb hg hat
      rw [← Ny106.out] at ho
      replace BK101 := Aside0.mk (blk_grown (g := gb101) (o := .cells #[.slice A0_0 l0_0.length c0_0, .slice A0_1 l0_1.length c0_1] 25 (0, 0)) (pB BK101.out) hg (Kd.R_ne HO105.out BK101.out (by decide)))
      replace BK102 := Aside0.mk (blk_grown (g := gb102) (o := .cells #[.slice none 0 0, .slice none 0 0] 25 (0, 0)) (pB BK102.out) hg (Kd.R_ne HO105.out BK102.out (by decide)))
      replace HO111 := Aside0.mk (Kd.R_over' (pR HO111.out) (Kd.R_typed (pR HO105.out)) (by decide) hg)
      replace HB := Aside0.mk (hb)
      have HO108 := Aside0.mk (ho)
      clear HO105 ho hb hg hat
      refine hK.out _ _ ⟨(blk_cell BK101.out 0).trans rfl, (blk_cell BK101.out 1).trans rfl⟩ (fun hHeld => ?_)
      clear hK K
      refine norm_ (a' := ?_) ?_ ?_
      rotate_left
      ·show Act.put _ (some 6) _ = _
       simp only [Act.put, List.setIfInBounds_toArray, List.set_cons_zero, List.set_cons_succ, i64_w, i32_w]
       rfl
      exact norm_ (by simp only [putAll, Act.put, List.setIfInBounds_toArray, List.set_cons_zero, List.set_cons_succ]) (hCont (v104, v107, v110) _ ⟨hHeld, (pR HO108.out), (pR HO111.out), (pB BK101.out), (pB BK102.out), (pE HB)⟩)
    ·skip
     refine Kd.R_lit_step (Kd.int .i64) _ 3 ?hg (N := 7) ?hd (xs := ([] : List Int)) (inner := []) (ok := fun _ => True) (okp := fun _ => True) ?hr ?hp (fun _ hk => hk) trivial (Below.refl _ _) (Nat.le_refl _) (by simp) ?_; (case hd => rfl); (case hg => rfl); (case hr => first | (go_simp; done) | (go_simp; rfl)); (case hp => exact (Reps.none _ _))
     intro v110 w7 ho8 hb hg_ hnew_
     clear hg_ hnew_
     (first | rw [← Ny109.out] at ho8 | (simp only [Int.reduceToNat] at ho8; rw [← Ny109.out] at ho8))
     have HO111 := rl ho8 HB
     replace BK101 := bb BK101 hb
     replace BK102 := bb BK102 hb
     replace HB := bs HB hb
     clear hb ho8
     refine hK.out _ _ ⟨(blk_cell BK101.out 0).trans rfl, (blk_cell BK101.out 1).trans rfl⟩ (fun hHeld => ?_)
     clear hK K
     refine norm_ (a' := ?_) ?_ ?_
     rotate_left
     ·show Act.put _ (some 7) _ = _
      simp only [Act.put, List.setIfInBounds_toArray, List.set_cons_zero, List.set_cons_succ, i64_w, i32_w]
      rfl
     refine on 0 (fun K hK => ?_)
     refine Kd.R_lit_step k67 _ 67 ?hg (N := 3) ?hd (xs := ([] : List (S67))) (inner := []) (ok := fun _ => True) (okp := fun _ => True) ?hr ?hp (fun _ hk => hk) trivial (Below.refl _ _) (Nat.le_refl _) (by simp) ?_; (case hd => rfl); (case hg => rfl); (case hr => first | (go_simp; done) | (go_simp; rfl)); (case hp => exact (Reps.none _ _))
     intro v104 w9 ho10 hb hg_ hnew_
     clear hg_ hnew_
     (first | rw [← Ny103.out] at ho10 | (simp only [Int.reduceToNat] at ho10; rw [← Ny103.out] at ho10))
     replace HO111 := rb HO111 hb
     have HO105 := rl ho10 HB
     replace BK101 := bb BK101 hb
     replace BK102 := bb BK102 hb
     replace HB := bs HB hb
     clear hb ho10
     refine hK.out _ _ ⟨(blk_cell BK101.out 0).trans rfl, (blk_cell BK101.out 1).trans rfl⟩ (fun hHeld => ?_)
     clear hK K
     refine norm_ (a' := ?_) ?_ ?_
     rotate_left
     ·show Act.put _ (some 3) _ = _
      simp only [Act.put, List.setIfInBounds_toArray, List.set_cons_zero, List.set_cons_succ, i64_w, i32_w]
      rfl
     refine on 3 (fun K hK => ?_)
     refine Kd.R_append_rows_step k67 (w0 := w) w.heap.size (by rfl) (.tmp 3) (.tmp 5) 22 67 (.agg #[(.int .i64 0), (.int .i64 0), (.int .i64 0), (.int .i64 0)]) 32 rfl Tryz.underlying22 info67 rfl (by decide) (by omega) v104 y103 l0_0 _ _ _ (fun _ => True) (fun _ => False) rfl rfl ?aO ?aR (fun _ _ h => h) (fun _ h => h.elim) ?aF ?aB ?aS ?aL ?_
     (case aR => exact pC (Kd.C_below HR0_0.out HB.out))
     (case aB => exact (pE HB))
     (case aF => exact (fun _ _ => trivial))
     (case aO => exact (pR HO105.out))
     (case aS => exact (below_size (pE HB)))
     (case aL => have := LMc2.out; omega)
     intro v107 w11 ho hb hg hat
     rw [← Ny106.out] at ho
     replace BK101 := Aside0.mk (blk_grown (g := gb101) (o := .cells #[.slice A0_0 l0_0.length c0_0, .slice A0_1 l0_1.length c0_1] 25 (0, 0)) (pB BK101.out) hg (Kd.R_ne HO105.out BK101.out (by decide)))
     replace BK102 := Aside0.mk (blk_grown (g := gb102) (o := .cells #[.slice none 0 0, .slice none 0 0] 25 (0, 0)) (pB BK102.out) hg (Kd.R_ne HO105.out BK102.out (by decide)))
     replace HO111 := Aside0.mk (Kd.R_over' (pR HO111.out) (Kd.R_typed (pR HO105.out)) (by decide) hg)
     replace HB := Aside0.mk (hb)
     have HO108 := Aside0.mk (ho)
     clear HO105 ho hb hg hat
     refine hK.out _ _ ⟨(blk_cell BK101.out 0).trans rfl, (blk_cell BK101.out 1).trans rfl⟩ (fun hHeld => ?_)
     clear hK K
     refine norm_ (a' := ?_) ?_ ?_
     rotate_left
     ·show Act.put _ (some 6) _ = _
      simp only [Act.put, List.setIfInBounds_toArray, List.set_cons_zero, List.set_cons_succ, i64_w, i32_w]
      rfl
     exact norm_ (by simp only [putAll, Act.put, List.setIfInBounds_toArray, List.set_cons_zero, List.set_cons_succ]) (hCont (v104, v107, v110) _ ⟨hHeld, (pR HO108.out), (pR HO111.out), (pB BK101.out), (pB BK102.out), (pE HB)⟩)
   rintro ⟨v104, v107, v110⟩ w12 ⟨hS_, h0_, h1_, h2_, h3_, h4_⟩
   have n0_ : Aside0 (Kd.R k67 67 w12 w.heap.size (fun _ => True) v107 y106) := ⟨h0_⟩
   have n1_ : Aside0 (Kd.R (Kd.int .i64) 3 w12 w.heap.size (fun _ => True) v110 y109) := ⟨h1_⟩
   have n2_ : Aside0 (w12.heap[gb101]? = some (.cells #[.slice A0_0 l0_0.length c0_0, .slice A0_1 l0_1.length c0_1] 25 (0, 0))) := ⟨h2_⟩
   have n3_ : Aside0 (w12.heap[gb102]? = some (.cells #[.slice none 0 0, .slice none 0 0] 25 (0, 0))) := ⟨h3_⟩
   have n4_ : Aside0 (Below w.heap.size w w12) := ⟨h4_⟩
   clear BK101 BK102 HB h0_ h1_ h2_ h3_ h4_
   have HO108 := n0_
   have HO111 := n1_
   have BK101 := n2_
   have BK102 := n3_
   have HB := n4_
   clear n0_ n1_ n2_ n3_ n4_
   have hHeld : w12.cell? ⟨gb101, 0, none⟩ = some (.slice A0_0 l0_0.length c0_0) ∧ w12.cell? ⟨gb101, 1, none⟩ = some (.slice A0_1 l0_1.length c0_1) := hS_
   refine norm_ (a' := ?_) ?_ ?_
   rotate_left
   ·simp only [putAll, Act.put, List.setIfInBounds_toArray, List.set_cons_zero, List.set_cons_succ]
    rfl
   refine on 7 (fun K hK => ?_)
   refine Kd.R_append_rows_step (Kd.int .i64) (w0 := w) w.heap.size (by rfl) (.tmp 7) (.tmp 9) 23 3 (.int .i64 0) 8 rfl Tryz.underlying23 info3 rfl (by decide) (by omega) v110 y109 l0_1 _ _ _ (fun _ => True) (fun _ => False) rfl rfl ?aO ?aR (fun _ _ h => h) (fun _ h => h.elim) ?aF ?aB ?aS ?aL ?_
   (case aR => exact pC (Kd.C_below HR0_1.out HB.out))
   (case aB => exact (pE HB))
   (case aF => exact (fun _ _ => trivial))
   (case aO => exact (pR HO111.out))
   (case aS => exact (below_size (pE HB)))
   (case aL => have := LMc3.out; omega)
   intro v113 w13 ho hb hg hat
   rw [← Ny112.out] at ho
   replace BK101 := Aside0.mk (blk_grown (g := gb101) (o := .cells #[.slice A0_0 l0_0.length c0_0, .slice A0_1 l0_1.length c0_1] 25 (0, 0)) (pB BK101.out) hg (Kd.R_ne HO111.out BK101.out (by decide)))
   replace BK102 := Aside0.mk (blk_grown (g := gb102) (o := .cells #[.slice none 0 0, .slice none 0 0] 25 (0, 0)) (pB BK102.out) hg (Kd.R_ne HO111.out BK102.out (by decide)))
   replace HO108 := Aside0.mk (Kd.R_over' (pR HO108.out) (Kd.R_typed (pR HO111.out)) (by decide) hg)
   replace HB := Aside0.mk (hb)
   have HO114 := Aside0.mk (ho)
   clear HO111 ho hb hg hat
   obtain ⟨Ao14, co14, eo14⟩ := Kd.R_slice HO114.out
   (first | subst eo14 | (injection eo14 with f1_ f2_ f3_; have f4_ := f1_.symm; have f5_ := f3_.symm; clear f1_ f2_ f3_; subst f4_; subst f5_))
   obtain ⟨Ao15, co15, eo15⟩ := Kd.R_slice HO108.out
   (first | subst eo15 | (injection eo15 with f1_ f2_ f3_; have f4_ := f1_.symm; have f5_ := f3_.symm; clear f1_ f2_ f3_; subst f4_; subst f5_))
   refine hK.out _ _ ⟨(blk_cell BK101.out 0).trans rfl, (blk_cell BK101.out 1).trans rfl⟩ (fun hHeld => ?_)
   clear hK K
   refine norm_ (a' := ?_) ?_ ?_
   rotate_left
   ·show Act.put _ (some 10) _ = _
    simp only [Act.put, List.setIfInBounds_toArray, List.set_cons_zero, List.set_cons_succ, i64_w, i32_w]
    rfl
   refine pu 8 11 ?_
   refine on 9 (fun K hK => ?_)
   have hs16 : w13.cell? ⟨gb102, 0, none⟩ = some (.slice none 0 0) := (blk_cell BK102.out 0).trans rfl
   have hfs16 := blk_frozen BK102.out 0
   have hns16_0 := NB101_102.out
   have hms16_0 := NB102_101.out
   have hs17 : w13.cell? ⟨gb102, 1, none⟩ = some (.slice none 0 0) := (blk_cell BK102.out 1).trans rfl
   have hfs17 := blk_frozen BK102.out 1
   have hns17_0 := NB101_102.out
   have hms17_0 := NB102_101.out
   refine skip_ (w1 := ?_) (by rfl) rfl ?_ ?_
   rotate_left
   ·go_simp
    rfl
   refine hK.out _ _ ⟨((cell_far (p := ⟨gb102, _, none⟩) NB101_102.out _).trans (((cell_far (p := ⟨gb102, _, none⟩) NB101_102.out _).trans (hHeld.1)))), ((cell_far (p := ⟨gb102, _, none⟩) NB101_102.out _).trans (((cell_far (p := ⟨gb102, _, none⟩) NB101_102.out _).trans (hHeld.2))))⟩ (fun hHeld => ?_)
   clear hK K
   refine done_ (done_of HT_.out (by kernel_rfl)) ?_
   try go_wp2
   refine bodyPost_ret (results_cell_row rfl _ _ gb102 25 #[.slice Ao15 y106.length co15, .slice Ao14 y112.length co14] (0, 0) _ rfl (by refine pB ?_; refine blk_put (cs := #[.slice Ao15 y106.length co15, .slice none 0 0]) ?_ 1 _ rfl; refine pB ?_; refine blk_put (cs := #[.slice none 0 0, .slice none 0 0]) ?_ 0 _ rfl; (with_reducible repeat (first | refine blk_drewN ?_ _ | refine blk_drew ?_ | refine blk_alloc ?_ _)); exact BK102.out) Tryz.underlying25 rfl (by kernel_rfl)) rfl ?_
   exact ⟨_, _, eT, by (with_reducible repeat (first | apply Kd.R_alloc | apply Kd.R_drewN | apply Kd.R_drew)); exact Kd.R_mono (Kd.R_far (p := ⟨gb102, 1, none⟩) (Kd.R_far (p := ⟨gb102, 0, none⟩) (Kd.R_types HO108.out BK102.out (by decide)) (fun _ hk => hk.2) (.slice Ao15 y106.length co15)) (fun _ hk => hk.2) (.slice Ao14 y112.length co14)) (fun _ hk => trivial), by (with_reducible repeat (first | apply Kd.R_alloc | apply Kd.R_drewN | apply Kd.R_drew)); exact Kd.R_mono (Kd.R_far (p := ⟨gb102, 1, none⟩) (Kd.R_far (p := ⟨gb102, 0, none⟩) (Kd.R_types HO114.out BK102.out (by decide)) (fun _ hk => hk.2) (.slice Ao15 y106.length co15)) (fun _ hk => hk.2) (.slice Ao14 y112.length co14)) (fun _ hk => trivial), pE HB⟩
  ·rw [if_neg c3] at H
   exact absurd H (by simp)
 ·rw [if_neg c2] at H
  exact absurd H (by simp)
def walkmillref04_Ints.l0 : Nat → List Int → List Int → Int → Option (Bool)
 | 0, _, _, _ => none
 | k + 1, x0, x1, x5 => if x5 < (x0.length : Int) then (if 0 ≤ x5 then (if x5 < (x1.length : Int) then (if (rd x0 x5) = (rd x1 x5) then (walkmillref04_Ints.l0 k x0 x1 (wrap64 (x5 + 1))) else (some false)) else (none)) else (none)) else (some true)
def walkmillref04_Ints.f (k : Nat) (l0 : List Int) (l1 : List Int) : Option (Bool) := if (l0.length : Int) = (l1.length : Int) then (walkmillref04_Ints.l0 k l0 l1 0) else (some false)
theorem walkmillref04_Ints.mono_l : ∀ k, (∀ y0 y1 y2, LeO (walkmillref04_Ints.l0 k y0 y1 y2) (walkmillref04_Ints.l0 (k + 1) y0 y1 y2))
 | 0 => fun _ _ _ r h => by simp [walkmillref04_Ints.l0] at h
 | k + 1 => by
  have ih0 := walkmillref04_Ints.mono_l k
  ·intro y0 y1 y2
   unfold walkmillref04_Ints.l0
   repeat' first
   | (with_reducible exact ih0 _ _ _)
   | (with_reducible exact LeO.refl _)
   | (with_reducible exact LeO.none _)
   | (with_reducible refine LeO.ite ?_ ?_)
   | (with_reducible refine LeO.bind ?_ (fun _ => ?_))
   | exact ih0 _ _ _
   | exact LeO.none _
   | refine LeO.ite ?_ ?_
   | refine LeO.bind ?_ (fun _ => ?_)
theorem walkmillref04_Ints.mono : ∀ a0 a1 k, LeO (walkmillref04_Ints.f k a0 a1) (walkmillref04_Ints.f (k + 1) a0 a1) := by
 intro a0 a1 k
 have ih0 := walkmillref04_Ints.mono_l k
 unfold walkmillref04_Ints.f
 repeat' first
   | (with_reducible exact ih0 _ _ _)
   | (with_reducible exact LeO.refl _)
   | (with_reducible exact LeO.none _)
   | (with_reducible refine LeO.ite ?_ ?_)
   | (with_reducible refine LeO.bind ?_ (fun _ => ?_))
   | exact ih0 _ _ _
   | exact LeO.none _
   | refine LeO.ite ?_ ?_
   | refine LeO.bind ?_ (fun _ => ?_)
set_option maxHeartbeats 8000000 in
set_option maxRecDepth 100000 in
theorem walkmillref04_Ints.calls (k : Nat) (A0 : Option Addr) (c0 : Nat) (l0 : List Int) (A1 : Option Addr) (c1 : Nat) (l1 : List Int) (r : Bool) (w : World) (hr0 : Kd.C (Kd.int .i64) w A0 l0.length l0) (hc0 : l0.length ≤ c0) (hr1 : Kd.C (Kd.int .i64) w A1 l1.length l1) (hc1 : l1.length ≤ c1) (h : walkmillref04_Ints.f k l0 l1 = some r) :
  Calls Tryz.prog 23 #[.slice A0 l0.length c0, .slice A1 l1.length c1] w fun e w' => e = .returned (.bool r) ∧ Drawn0 w w' := by
 have HR0 := Aside0.mk hr0
 have HC0 := Aside0.mk hc0
 clear hr0 hc0
 have HR1 := Aside0.mk hr1
 have HC1 := Aside0.mk hc1
 clear hr1 hc1
 have H : (if (l0.length : Int) = (l1.length : Int) then (walkmillref04_Ints.l0 k l0 l1 0) else (some false)) = some r := h
 clear h
 by_cases c3 : (l0.length : Int) = (l1.length : Int)
 ·rw [if_pos c3] at H
  have c3b0 : ((l0.length : Int) == (l1.length : Int)) = true := beq_iff_eq.mpr c3
  have c3b1 : ((l0.length : Int) != (l1.length : Int)) = false := bne_eq_false_iff_eq.mpr c3
  have c3b2 : (l0.length == l1.length) = true := by first | simpa using c3 | (simp at c3 ⊢; omega)
  clear c3
  have H' := Aside0.mk H
  clear H
  go_enter Tryz.func23, Tryz.ntmps23
  go_wp2
  repeat (go_quiet (fail); try go_wp2)
  go_loopg [5] k (fun kq v5 w' => ∃ (x5_1 : Int), v5 = .int .i64 x5_1 ∧ Aside0 (walkmillref04_Ints.l0 kq l0 l1 x5_1 = some r) ∧ Aside0 (kq ≤ k) ∧ Drawn0 w w')
  case atStart => exact ⟨(0), (by first | rfl | (simp; done) | (simp [*]; done)), H', ⟨Nat.le_refl _⟩, by repeat (first | exact Drawn0.refl _ | apply Drawn0.step)⟩
  case round =>
   clear H'
   try clear c1
   try clear c2
   try clear p2
   try clear c3
   try clear c3b0
   try clear c3b1
   try clear c3b2
   obtain ⟨x5_1, rfl, HA, HK1, ⟨m1, rfl⟩⟩ := hrel
   cases gk with
   | zero => exact absurd HA.out (by simp [walkmillref04_Ints.l0])
   | succ k1 =>
    have H := HA.out
    clear HA
    simp only [walkmillref04_Ints.l0] at H
    by_cases c4 : x5_1 < (l0.length : Int)
    ·rw [if_pos c4] at H
     have c4b0 : decide (x5_1 < (l0.length : Int)) = true := decide_eq_true c4
     clear c4
     by_cases c5 : 0 ≤ x5_1
     ·rw [if_pos c5] at H
      have c5b0 : decide (0 ≤ x5_1) = true := decide_eq_true c5
      clear c5
      by_cases c6 : x5_1 < (l1.length : Int)
      ·rw [if_pos c6] at H
       have c6b0 : decide (x5_1 < (l1.length : Int)) = true := decide_eq_true c6
       clear c6
       by_cases c7 : (rd l0 x5_1) = (rd l1 x5_1)
       ·rw [if_pos c7] at H
        have c7b0 : ((rd l0 x5_1) == (rd l1 x5_1)) = true := beq_iff_eq.mpr c7
        have c7b1 : ((rd l0 x5_1) != (rd l1 x5_1)) = false := bne_eq_false_iff_eq.mpr c7
        clear c7
        have H' := Aside0.mk H
        clear H
        have p101 : 0 ≤ (x5_1 : Int) := dT
        have q101 : x5_1 < (l0.length : Int) := dT
        obtain ⟨ad101, e101, hx101_0⟩ := Kd.at_int HR0.out x5_1 p101 q101
        cases e101
        replace p101 := eq_true p101
        replace q101 := eq_true q101
        have p102 : 0 ≤ (x5_1 : Int) := dT
        have q102 : x5_1 < (l1.length : Int) := dT
        obtain ⟨ad102, e102, hx102_0⟩ := Kd.at_int HR1.out x5_1 p102 q102
        cases e102
        replace p102 := eq_true p102
        replace q102 := eq_true q102
        go_wp2
        repeat (go_quiet (fail); try go_wp2)
        go_roundg k1
        case measure => have := HK1.out; omega
        case rel => exact ⟨(wrap64 (x5_1 + 1)), (by first | rfl | (simp; done) | (simp [*]; done)), H', ⟨by have := HK1.out; omega⟩, by repeat (first | exact Drawn0.refl _ | apply Drawn0.step)⟩
       ·rw [if_neg c7] at H
        have c7b0 : ((rd l0 x5_1) == (rd l1 x5_1)) = false := beq_eq_false_iff_ne.mpr c7
        have c7b1 : ((rd l0 x5_1) != (rd l1 x5_1)) = true := bne_iff_ne.mpr c7
        obtain rfl := Option.some.inj H
        have p101 : 0 ≤ (x5_1 : Int) := dT
        have q101 : x5_1 < (l0.length : Int) := dT
        obtain ⟨ad101, e101, hx101_0⟩ := Kd.at_int HR0.out x5_1 p101 q101
        cases e101
        replace p101 := eq_true p101
        replace q101 := eq_true q101
        have p102 : 0 ≤ (x5_1 : Int) := dT
        have q102 : x5_1 < (l1.length : Int) := dT
        obtain ⟨ad102, e102, hx102_0⟩ := Kd.at_int HR1.out x5_1 p102 q102
        cases e102
        replace p102 := eq_true p102
        replace q102 := eq_true q102
        go_wp2
        repeat (go_quiet (fail); try go_wp2)
        go_ret
        exact ⟨by first | rfl | (simp; done) | (simp [*]; done), by repeat (first | exact Drawn0.refl _ | apply Drawn0.step)⟩
      ·rw [if_neg c6] at H
       exact absurd H (by simp)
     ·rw [if_neg c5] at H
      exact absurd H (by simp)
    ·rw [if_neg c4] at H
     have c4b0 : decide (x5_1 < (l0.length : Int)) = false := decide_eq_false c4
     clear c4
     obtain rfl := Option.some.inj H
     go_wp2
     repeat (go_quiet (fail); try go_wp2)
     go_ret
     exact ⟨by first | rfl | (simp; done) | (simp [*]; done), by repeat (first | exact Drawn0.refl _ | apply Drawn0.step)⟩
 ·rw [if_neg c3] at H
  have c3b0 : ((l0.length : Int) == (l1.length : Int)) = false := beq_eq_false_iff_ne.mpr c3
  have c3b1 : ((l0.length : Int) != (l1.length : Int)) = true := bne_iff_ne.mpr c3
  have c3b2 : (l0.length == l1.length) = false := by first | simpa using c3 | (simp at c3 ⊢; omega)
  obtain rfl := Option.some.inj H
  go_enter Tryz.func23, Tryz.ntmps23
  go_wp2
  repeat (go_quiet (fail); try go_wp2)
  go_ret
  exact ⟨by first | rfl | (simp; done) | (simp [*]; done), by repeat (first | exact Drawn0.refl _ | apply Drawn0.step)⟩
theorem eqA42 (d : Nat) (w : World) (x0 y0 : Int) (x1 y1 : Int) :
    (Op.equalIn (d + 2) 42 (.agg #[.int .i64 x0, .int .i64 x1]) (.agg #[.int .i64 y0, .int .i64 y1])).run Tryz.prog w = .ok (x0 == y0 && (x1 == y1)) w := by
  refine eqA_of Tryz.underlying42 (by kernel_rfl) ?_
  refine eqf_cons (by rfl) (by go_simp; rfl) (by go_simp; rfl) (by go_simp) ?_
  exact eqf_last (by rfl) (by go_simp; rfl) (by go_simp; rfl) (by go_simp)
theorem eqA67 (d : Nat) (w : World) (x0 y0 : Int) (x1 y1 : Int) (x2 y2 : Int) (x3 y3 : Int) :
    (Op.equalIn (d + 3) 67 (.agg #[.int .i64 x0, .int .i64 x1, .int .i64 x2, .int .i64 x3]) (.agg #[.int .i64 y0, .int .i64 y1, .int .i64 y2, .int .i64 y3])).run Tryz.prog w = .ok (x0 == y0 && (x1 == y1 && ((x2 == y2 && (x3 == y3))))) w := by
  refine eqA_of Tryz.underlying67 (by kernel_rfl) ?_
  refine eqf_cons (by rfl) (by go_simp; rfl) (by go_simp; rfl) (by go_simp) ?_
  refine eqf_cons (by rfl) (by go_simp; rfl) (by go_simp; rfl) (by go_simp) ?_
  exact eqf_last (by rfl) (by go_simp) (by go_simp) (eqA42 (d + 0) w _ _ _ _)
end Go.Proofs.YtlmglnobdcgbeaaGreat.P
namespace Go.Proofs.YtlmglnobdcgbeaaGreat.P
open Go.RowKit Go.Proofs.YtlmglnobdcgbeaaGreatW.PrintWords Go.Proofs.YtlmglnobdcgbeaaGreatW.PrintLast Go.Proofs.YtlmglnobdcgbeaaGreatW.PrintMore
attribute [local go_sem] max2_int min2_int max_two min_two max_three min_three max_four min_four
attribute [local go_sem high] eqA67
mutual
def walkmillref04_Same.j0 : Nat → Bool → List (S67) → List Int → List (S67) → List Int → Option (Bool)
 | 0, _, _, _, _, _ => none
 | k + 1, x20, x102000, x102001, x103000, x103001 => if x20 = true then (some false) else (walkmillref04_Same.l0 k 0 x102000 x102001 x103000 x103001)
def walkmillref04_Same.l0 : Nat → Int → List (S67) → List Int → List (S67) → List Int → Option (Bool)
 | 0, _, _, _, _, _ => none
 | k + 1, x5, x102000, x102001, x103000, x103001 => if x5 < (x102000.length : Int) then (if 0 ≤ x5 then (if x5 < (x103000.length : Int) then (if (!(((rd_T67 x102000 x5).f0) == ((rd_T67 x103000 x5).f0)) || (!(((rd_T67 x102000 x5).f1) == ((rd_T67 x103000 x5).f1)) || ((!(((rd_T67 x102000 x5).f2.f0) == ((rd_T67 x103000 x5).f2.f0)) || (!(((rd_T67 x102000 x5).f2.f1) == ((rd_T67 x103000 x5).f2.f1))))))) = true then (some false) else (walkmillref04_Same.l0 k (wrap64 (x5 + 1)) x102000 x102001 x103000 x103001)) else (none)) else (none)) else (some true)
end
def walkmillref04_Same.f (k : Nat) (l0_0 : List (S67)) (l0_1 : List Int) (l1_0 : List (S67)) (l1_1 : List Int) : Option (Bool) := if (l0_0.length : Int) = (l1_0.length : Int) then ((walkmillref04_Ints.f k l0_1 l1_1).bind fun t103 => (walkmillref04_Same.j0 k (!t103) l0_0 l0_1 l1_0 l1_1)) else (walkmillref04_Same.j0 k true l0_0 l0_1 l1_0 l1_1)
theorem walkmillref04_Same.mono_l : ∀ k, (∀ y0 y1 y2 y3 y4, LeO (walkmillref04_Same.j0 k y0 y1 y2 y3 y4) (walkmillref04_Same.j0 (k + 1) y0 y1 y2 y3 y4)) ∧ (∀ y0 y1 y2 y3 y4, LeO (walkmillref04_Same.l0 k y0 y1 y2 y3 y4) (walkmillref04_Same.l0 (k + 1) y0 y1 y2 y3 y4))
 | 0 => ⟨fun _ _ _ _ _ r h => by simp [walkmillref04_Same.j0] at h, fun _ _ _ _ _ r h => by simp [walkmillref04_Same.l0] at h⟩
 | k + 1 => by
  obtain ⟨ih0, ih1⟩ := walkmillref04_Same.mono_l k
  refine ⟨?_, ?_⟩
  ·intro y0 y1 y2 y3 y4
   unfold walkmillref04_Same.j0
   repeat' first
   | (with_reducible exact ih0 _ _ _ _ _)
   | (with_reducible exact ih1 _ _ _ _ _)
   | (with_reducible exact walkmillref04_Ints.mono _ _ _)
   | (with_reducible exact LeO.refl _)
   | (with_reducible exact LeO.none _)
   | (with_reducible refine LeO.ite ?_ ?_)
   | (with_reducible refine LeO.bind ?_ (fun _ => ?_))
   | exact ih0 _ _ _ _ _
   | exact ih1 _ _ _ _ _
   | exact walkmillref04_Ints.mono _ _ _
   | exact LeO.none _
   | refine LeO.ite ?_ ?_
   | refine LeO.bind ?_ (fun _ => ?_)
  ·intro y0 y1 y2 y3 y4
   unfold walkmillref04_Same.l0
   repeat' first
   | (with_reducible exact ih0 _ _ _ _ _)
   | (with_reducible exact ih1 _ _ _ _ _)
   | (with_reducible exact walkmillref04_Ints.mono _ _ _)
   | (with_reducible exact LeO.refl _)
   | (with_reducible exact LeO.none _)
   | (with_reducible refine LeO.ite ?_ ?_)
   | (with_reducible refine LeO.bind ?_ (fun _ => ?_))
   | exact ih0 _ _ _ _ _
   | exact ih1 _ _ _ _ _
   | exact walkmillref04_Ints.mono _ _ _
   | exact LeO.none _
   | refine LeO.ite ?_ ?_
   | refine LeO.bind ?_ (fun _ => ?_)
theorem walkmillref04_Same.mono : ∀ a0 a1 a2 a3 k, LeO (walkmillref04_Same.f k a0 a1 a2 a3) (walkmillref04_Same.f (k + 1) a0 a1 a2 a3) := by
 intro a0 a1 a2 a3 k
 obtain ⟨ih0, ih1⟩ := walkmillref04_Same.mono_l k
 unfold walkmillref04_Same.f
 repeat' first
   | (with_reducible exact ih0 _ _ _ _ _)
   | (with_reducible exact ih1 _ _ _ _ _)
   | (with_reducible exact walkmillref04_Ints.mono _ _ _)
   | (with_reducible exact LeO.refl _)
   | (with_reducible exact LeO.none _)
   | (with_reducible refine LeO.ite ?_ ?_)
   | (with_reducible refine LeO.bind ?_ (fun _ => ?_))
   | exact ih0 _ _ _ _ _
   | exact ih1 _ _ _ _ _
   | exact walkmillref04_Ints.mono _ _ _
   | exact LeO.none _
   | refine LeO.ite ?_ ?_
   | refine LeO.bind ?_ (fun _ => ?_)
set_option maxHeartbeats 8000000 in
set_option maxRecDepth 100000 in
theorem walkmillref04_Same.calls (k : Nat) (A0_0 : Option Addr) (c0_0 : Nat) (l0_0 : List (S67)) (A0_1 : Option Addr) (c0_1 : Nat) (l0_1 : List Int) (A1_0 : Option Addr) (c1_0 : Nat) (l1_0 : List (S67)) (A1_1 : Option Addr) (c1_1 : Nat) (l1_1 : List Int) (r : Bool) (w : World) (hr0_0 : Kd.C k67 w A0_0 l0_0.length l0_0) (hc0_0 : l0_0.length ≤ c0_0) (hr0_1 : Kd.C (Kd.int .i64) w A0_1 l0_1.length l0_1) (hc0_1 : l0_1.length ≤ c0_1) (hr1_0 : Kd.C k67 w A1_0 l1_0.length l1_0) (hc1_0 : l1_0.length ≤ c1_0) (hr1_1 : Kd.C (Kd.int .i64) w A1_1 l1_1.length l1_1) (hc1_1 : l1_1.length ≤ c1_1) (h : walkmillref04_Same.f k l0_0 l0_1 l1_0 l1_1 = some r) :
  Calls Tryz.prog 22 #[.agg #[.slice A0_0 l0_0.length c0_0, .slice A0_1 l0_1.length c0_1], .agg #[.slice A1_0 l1_0.length c1_0, .slice A1_1 l1_1.length c1_1]] w fun e w' => e = .returned (.bool r) ∧ Below w.heap.size w w' := by
 have hu25 := Tryz.underlying25
 have hu67 := Tryz.underlying67
 have HR0_0 := Aside0.mk hr0_0
 have HC0_0 := Aside0.mk hc0_0
 clear hr0_0 hc0_0
 have HR0_1 := Aside0.mk hr0_1
 have HC0_1 := Aside0.mk hc0_1
 clear hr0_1 hc0_1
 have HR1_0 := Aside0.mk hr1_0
 have HC1_0 := Aside0.mk hc1_0
 clear hr1_0 hc1_0
 have HR1_1 := Aside0.mk hr1_1
 have HC1_1 := Aside0.mk hc1_1
 clear hr1_1 hc1_1
 have HB := Aside0.mk (Below.refl w.heap.size w)
 have H : (if (l0_0.length : Int) = (l1_0.length : Int) then ((walkmillref04_Ints.f k l0_1 l1_1).bind fun t103 => (walkmillref04_Same.j0 k (!t103) l0_0 l0_1 l1_0 l1_1)) else (walkmillref04_Same.j0 k true l0_0 l0_1 l1_0 l1_1)) = some r := h
 clear h
 have HC3 := Aside0.mk H
 clear H
 go_enter Tryz.func22, Tryz.ntmps22
 go_upto_region 1 with (first | ((with_reducible refine gate_dst (N := 2) rfl ?_); refine bx 2 #[.slice A0_0 l0_0.length c0_0, .slice A0_1 l0_1.length c0_1] 25 ?_; intro gb101 hg w4 hbox hb; have BK101 := hbox; have GW101 := gs HB hg; have GE101 := gs HB hg; replace HB := bs HB hb; clear hb hbox hg) | ((with_reducible refine gate_dst (N := 3) rfl ?_); refine bx 3 #[.slice A1_0 l1_0.length c1_0, .slice A1_1 l1_1.length c1_1] 25 ?_; intro gb102 hg w5 hbox hb; have BK102 := hbox; have GW102 := gs HB hg; have GE102 := gs HB hg; replace HB := bs HB hb; have NB101_102 := nl BK101 hg; have NB102_101 := nr BK101 hg; replace BK101 := bb BK101 hb; clear hb hbox hg))
 repeat (go_quiet (first | ((with_reducible refine gate_dst (N := 2) rfl ?_); refine bx 2 #[.slice A0_0 l0_0.length c0_0, .slice A0_1 l0_1.length c0_1] 25 ?_; intro gb101 hg w4 hbox hb; have BK101 := hbox; have GW101 := gs HB hg; have GE101 := gs HB hg; replace HB := bs HB hb; clear hb hbox hg) | ((with_reducible refine gate_dst (N := 3) rfl ?_); refine bx 3 #[.slice A1_0 l1_0.length c1_0, .slice A1_1 l1_1.length c1_1] 25 ?_; intro gb102 hg w5 hbox hb; have BK102 := hbox; have GW102 := gs HB hg; have GE102 := gs HB hg; replace HB := bs HB hb; have NB101_102 := nl BK101 hg; have NB102_101 := nr BK101 hg; replace BK101 := bb BK101 hb; clear hb hbox hg)); go_upto_region 1 with (first | ((with_reducible refine gate_dst (N := 2) rfl ?_); refine bx 2 #[.slice A0_0 l0_0.length c0_0, .slice A0_1 l0_1.length c0_1] 25 ?_; intro gb101 hg w4 hbox hb; have BK101 := hbox; have GW101 := gs HB hg; have GE101 := gs HB hg; replace HB := bs HB hb; clear hb hbox hg) | ((with_reducible refine gate_dst (N := 3) rfl ?_); refine bx 3 #[.slice A1_0 l1_0.length c1_0, .slice A1_1 l1_1.length c1_1] 25 ?_; intro gb102 hg w5 hbox hb; have BK102 := hbox; have GW102 := gs HB hg; have GE102 := gs HB hg; replace HB := bs HB hb; have NB101_102 := nl BK101 hg; have NB102_101 := nr BK101 hg; replace BK101 := bb BK101 hb; clear hb hbox hg)))
 (try simp only [Act.put, List.setIfInBounds_toArray, List.set_cons_zero, List.set_cons_succ])
 go_cut [20] (fun v20 wc => ∃ (kq : Nat) (x20_2 : Bool), v20 = .bool x20_2 ∧ Aside0 (walkmillref04_Same.j0 kq x20_2 l0_0 l0_1 l1_0 l1_1 = some r) ∧ Aside0 (kq ≤ k) ∧ Aside0 (wc.heap[gb101]? = some (.cells #[(.slice A0_0 l0_0.length c0_0), (.slice A0_1 l0_1.length c0_1)] 25 (0, 0))) ∧ Aside0 (wc.heap[gb102]? = some (.cells #[(.slice A1_0 l1_0.length c1_0), (.slice A1_1 l1_1.length c1_1)] 25 (0, 0))) ∧ Aside0 (Below w.heap.size w wc))
 case first =>
  have H := HC3.out
  clear HC3
  by_cases c6 : (l0_0.length : Int) = (l1_0.length : Int)
  ·rw [if_pos c6] at H
   have c6b0 : ((l0_0.length : Int) == (l1_0.length : Int)) = true := beq_iff_eq.mpr c6
   have c6b1 : ((l0_0.length : Int) != (l1_0.length : Int)) = false := bne_eq_false_iff_eq.mpr c6
   have c6b2 : (l0_0.length == l1_0.length) = true := by first | simpa using c6 | (simp at c6 ⊢; omega)
   clear c6
   (first | rw [c6b0] | (simp only [i64_w, i32_w]; rw [c6b0]) | skip)
   obtain ⟨t103, A7, H⟩ := bi H
   have H' := Aside0.mk H
   clear H
   have hnb8 := NB101_102.out
   have hnc8 := NB102_101.out
   obtain ⟨hcz9_0, hcz9_1, hfz9_0, hfz9_1⟩ := cf2 BK101
   obtain ⟨hcz10_0, hcz10_1, hfz10_0, hfz10_1⟩ := cf2 BK102
   go_wp2_with (first | (go_at_call 23; (with_reducible refine (walkmillref04_Ints.calls k _ _ l0_1 _ _ l1_1 t103 _ ?side1 ?side2 ?side3 ?side4 A7.out).mono ?_); (case side1 => exact pC (Kd.C_below HR0_1.out HB.out)); (case side2 => exact HC0_1.out); (case side3 => exact pC (Kd.C_below HR1_1.out HB.out)); (case side4 => exact HC1_1.out); rintro e w' ⟨rfl, ⟨nd, rfl⟩⟩; (try first | exact ⟨rfl, _, World.drewN_drewN _ _ _⟩ | exact ⟨rfl, _, Eq.trans (World.drewN_drewN _ _ _) (congrArg (World.drewN _) (Nat.add_assoc _ _ _))⟩)))
   repeat (go_quiet (first | (go_at_call 23; (with_reducible refine (walkmillref04_Ints.calls k _ _ l0_1 _ _ l1_1 t103 _ ?side1 ?side2 ?side3 ?side4 A7.out).mono ?_); (case side1 => exact pC (Kd.C_below HR0_1.out HB.out)); (case side2 => exact HC0_1.out); (case side3 => exact pC (Kd.C_below HR1_1.out HB.out)); (case side4 => exact HC1_1.out); rintro e w' ⟨rfl, ⟨nd, rfl⟩⟩; (try first | exact ⟨rfl, _, World.drewN_drewN _ _ _⟩ | exact ⟨rfl, _, Eq.trans (World.drewN_drewN _ _ _) (congrArg (World.drewN _) (Nat.add_assoc _ _ _))⟩))); try go_wp2_with (first | (go_at_call 23; (with_reducible refine (walkmillref04_Ints.calls k _ _ l0_1 _ _ l1_1 t103 _ ?side1 ?side2 ?side3 ?side4 A7.out).mono ?_); (case side1 => exact pC (Kd.C_below HR0_1.out HB.out)); (case side2 => exact HC0_1.out); (case side3 => exact pC (Kd.C_below HR1_1.out HB.out)); (case side4 => exact HC1_1.out); rintro e w' ⟨rfl, ⟨nd, rfl⟩⟩; (try first | exact ⟨rfl, _, World.drewN_drewN _ _ _⟩ | exact ⟨rfl, _, Eq.trans (World.drewN_drewN _ _ _) (congrArg (World.drewN _) (Nat.add_assoc _ _ _))⟩))))
   go_meet
   case rel => exact ⟨_, (!t103), (by first | rfl | (simp; done) | (simp [*]; done)), H', ⟨by first | omega | exact Nat.le_refl _⟩, ⟨by (with_reducible repeat (first | refine blk_drewN ?_ _ | refine blk_drew ?_ | refine blk_alloc ?_ _)); exact BK101.out⟩, ⟨by (with_reducible repeat (first | refine blk_drewN ?_ _ | refine blk_drew ?_ | refine blk_alloc ?_ _)); exact BK102.out⟩, ⟨pE HB⟩⟩
  ·rw [if_neg c6] at H
   have c6b0 : ((l0_0.length : Int) == (l1_0.length : Int)) = false := beq_eq_false_iff_ne.mpr c6
   have c6b1 : ((l0_0.length : Int) != (l1_0.length : Int)) = true := bne_iff_ne.mpr c6
   have c6b2 : (l0_0.length == l1_0.length) = false := by first | simpa using c6 | (simp at c6 ⊢; omega)
   (first | rw [c6b0] | (simp only [i64_w, i32_w]; rw [c6b0]) | skip)
   have H' := Aside0.mk H
   clear H
   have hnb11 := NB101_102.out
   have hnc11 := NB102_101.out
   obtain ⟨hcz12_0, hcz12_1, hfz12_0, hfz12_1⟩ := cf2 BK101
   obtain ⟨hcz13_0, hcz13_1, hfz13_0, hfz13_1⟩ := cf2 BK102
   go_wp2
   repeat (go_quiet (fail); try go_wp2)
   go_meet
   case rel => exact ⟨_, (true), (by first | rfl | (simp; done) | (simp [*]; done)), H', ⟨by first | omega | exact Nat.le_refl _⟩, ⟨by (with_reducible repeat (first | refine blk_drewN ?_ _ | refine blk_drew ?_ | refine blk_alloc ?_ _)); exact BK101.out⟩, ⟨by (with_reducible repeat (first | refine blk_drewN ?_ _ | refine blk_drew ?_ | refine blk_alloc ?_ _)); exact BK102.out⟩, ⟨pE HB⟩⟩
 case rest =>
  clear HC3
  try clear c1
  try clear c2
  try clear p2
  try clear c6
  try clear c6b0
  try clear c6b1
  try clear c6b2
  try clear c8
  try clear c11
  try clear hcz10_0
  try clear hcz10_1
  try clear hcz12_0
  try clear hcz12_1
  try clear hcz13_0
  try clear hcz13_1
  try clear hcz9_0
  try clear hcz9_1
  try clear hfz10_0
  try clear hfz10_1
  try clear hfz12_0
  try clear hfz12_1
  try clear hfz13_0
  try clear hfz13_1
  try clear hfz9_0
  try clear hfz9_1
  obtain ⟨kq, x20_2, rfl, HA, HJ2, BK101, BK102, HB⟩ := hcut
  cases kq with
  | zero => exact absurd HA.out (by simp [walkmillref04_Same.j0])
  | succ kj2 =>
   have H := HA.out
   clear HA
   simp only [walkmillref04_Same.j0] at H
   by_cases c14 : x20_2 = true
   ·subst c14
    rw [if_pos rfl] at H
    obtain rfl := Option.some.inj H
    go_wp2
    repeat (go_quiet (fail); try go_wp2)
    go_ret
    exact ⟨eT, pE HB⟩
   ·replace c14 := Bool.eq_false_iff.mpr c14
    subst c14
    rw [if_neg (show ¬ (false = true) by decide)] at H
    have H' := Aside0.mk H
    clear H
    go_wp2
    repeat (go_quiet (fail); try go_wp2)
    go_loopg [5] kj2 (fun kq v5 w' => ∃ (x5_2 : Int), v5 = .int .i64 x5_2 ∧ Aside0 (walkmillref04_Same.l0 kq x5_2 l0_0 l0_1 l1_0 l1_1 = some r) ∧ Aside0 (kq ≤ kj2) ∧ Aside0 (w'.heap[gb101]? = some (.cells #[(.slice A0_0 l0_0.length c0_0), (.slice A0_1 l0_1.length c0_1)] 25 (0, 0))) ∧ Aside0 (w'.heap[gb102]? = some (.cells #[(.slice A1_0 l1_0.length c1_0), (.slice A1_1 l1_1.length c1_1)] 25 (0, 0))) ∧ Aside0 (Below w.heap.size w w'))
    case atStart => exact ⟨(0), (by first | rfl | (simp; done) | (simp [*]; done)), H', ⟨Nat.le_refl _⟩, ⟨by (with_reducible repeat (first | refine blk_drewN ?_ _ | refine blk_drew ?_ | refine blk_alloc ?_ _)); exact BK101.out⟩, ⟨by (with_reducible repeat (first | refine blk_drewN ?_ _ | refine blk_drew ?_ | refine blk_alloc ?_ _)); exact BK102.out⟩, ⟨pE HB⟩⟩
    case round =>
     clear H'
     try clear c1
     try clear c2
     try clear p2
     try clear c6
     try clear c6b0
     try clear c6b1
     try clear c6b2
     try clear c8
     try clear c11
     try clear c14
     try clear hcz10_0
     try clear hcz10_1
     try clear hcz12_0
     try clear hcz12_1
     try clear hcz13_0
     try clear hcz13_1
     try clear hcz9_0
     try clear hcz9_1
     try clear hfz10_0
     try clear hfz10_1
     try clear hfz12_0
     try clear hfz12_1
     try clear hfz13_0
     try clear hfz13_1
     try clear hfz9_0
     try clear hfz9_1
     try clear p2
     obtain ⟨x5_2, rfl, HA, HK2, BK101, BK102, HB⟩ := hrel
     cases gk with
     | zero => exact absurd HA.out (by simp [walkmillref04_Same.l0])
     | succ k2 =>
      have H := HA.out
      clear HA
      simp only [walkmillref04_Same.l0] at H
      by_cases c15 : x5_2 < (l0_0.length : Int)
      ·rw [if_pos c15] at H
       have c15b0 : decide (x5_2 < (l0_0.length : Int)) = true := decide_eq_true c15
       clear c15
       by_cases c16 : 0 ≤ x5_2
       ·rw [if_pos c16] at H
        have c16b0 : decide (0 ≤ x5_2) = true := decide_eq_true c16
        clear c16
        by_cases c17 : x5_2 < (l1_0.length : Int)
        ·rw [if_pos c17] at H
         have c17b0 : decide (x5_2 < (l1_0.length : Int)) = true := decide_eq_true c17
         clear c17
         by_cases c18 : (!(((rd_T67 l0_0 x5_2).f0) == ((rd_T67 l1_0 x5_2).f0)) || (!(((rd_T67 l0_0 x5_2).f1) == ((rd_T67 l1_0 x5_2).f1)) || ((!(((rd_T67 l0_0 x5_2).f2.f0) == ((rd_T67 l1_0 x5_2).f2.f0)) || (!(((rd_T67 l0_0 x5_2).f2.f1) == ((rd_T67 l1_0 x5_2).f2.f1))))))) = true
         ·rw [if_pos c18] at H
          have c18b0 : (!(((rd_T67 l0_0 x5_2).f0) == ((rd_T67 l1_0 x5_2).f0)) || (!(((rd_T67 l0_0 x5_2).f1) == ((rd_T67 l1_0 x5_2).f1)) || ((!(((rd_T67 l0_0 x5_2).f2.f0) == ((rd_T67 l1_0 x5_2).f2.f0)) || (!(((rd_T67 l0_0 x5_2).f2.f1) == ((rd_T67 l1_0 x5_2).f2.f1))))))) = true := c18
          clear c18
          obtain rfl := Option.some.inj H
          have hnb19 := NB101_102.out
          have hnc19 := NB102_101.out
          obtain ⟨_, _, _, _⟩ := cf2 BK101
          have p104 : 0 ≤ (x5_2 : Int) := dT
          have q104 : x5_2 < (l0_0.length : Int) := dT
          obtain ⟨ad104, e104, hx104_0, hx104_1, hx104_2, hx104_3⟩ := at_T67 HR0_0.out x5_2 p104 q104
          cases e104
          replace hx104_0 := cut_ HB hx104_0
          replace hx104_1 := cut_ HB hx104_1
          replace hx104_2 := cut_ HB hx104_2
          replace hx104_3 := cut_ HB hx104_3
          replace p104 := eq_true p104
          replace q104 := eq_true q104
          obtain ⟨_, _, _, _⟩ := cf2 BK102
          have p105 : 0 ≤ (x5_2 : Int) := dT
          have q105 : x5_2 < (l1_0.length : Int) := dT
          obtain ⟨ad105, e105, hx105_0, hx105_1, hx105_2, hx105_3⟩ := at_T67 HR1_0.out x5_2 p105 q105
          cases e105
          replace hx105_0 := cut_ HB hx105_0
          replace hx105_1 := cut_ HB hx105_1
          replace hx105_2 := cut_ HB hx105_2
          replace hx105_3 := cut_ HB hx105_3
          replace p105 := eq_true p105
          replace q105 := eq_true q105
          go_wp2
          repeat (go_quiet (fail); try go_wp2)
          go_ret
          exact ⟨eT, pE HB⟩
         ·rw [if_neg c18] at H
          have c18b0 : (!(((rd_T67 l0_0 x5_2).f0) == ((rd_T67 l1_0 x5_2).f0)) || (!(((rd_T67 l0_0 x5_2).f1) == ((rd_T67 l1_0 x5_2).f1)) || ((!(((rd_T67 l0_0 x5_2).f2.f0) == ((rd_T67 l1_0 x5_2).f2.f0)) || (!(((rd_T67 l0_0 x5_2).f2.f1) == ((rd_T67 l1_0 x5_2).f2.f1))))))) = false := by simpa using c18
          clear c18
          have H' := Aside0.mk H
          clear H
          have hnb22 := NB101_102.out
          have hnc22 := NB102_101.out
          obtain ⟨_, _, _, _⟩ := cf2 BK101
          have p104 : 0 ≤ (x5_2 : Int) := dT
          have q104 : x5_2 < (l0_0.length : Int) := dT
          obtain ⟨ad104, e104, hx104_0, hx104_1, hx104_2, hx104_3⟩ := at_T67 HR0_0.out x5_2 p104 q104
          cases e104
          replace hx104_0 := cut_ HB hx104_0
          replace hx104_1 := cut_ HB hx104_1
          replace hx104_2 := cut_ HB hx104_2
          replace hx104_3 := cut_ HB hx104_3
          replace p104 := eq_true p104
          replace q104 := eq_true q104
          obtain ⟨_, _, _, _⟩ := cf2 BK102
          have p105 : 0 ≤ (x5_2 : Int) := dT
          have q105 : x5_2 < (l1_0.length : Int) := dT
          obtain ⟨ad105, e105, hx105_0, hx105_1, hx105_2, hx105_3⟩ := at_T67 HR1_0.out x5_2 p105 q105
          cases e105
          replace hx105_0 := cut_ HB hx105_0
          replace hx105_1 := cut_ HB hx105_1
          replace hx105_2 := cut_ HB hx105_2
          replace hx105_3 := cut_ HB hx105_3
          replace p105 := eq_true p105
          replace q105 := eq_true q105
          go_wp2
          repeat (go_quiet (fail); try go_wp2)
          go_roundg k2
          case measure => have := HJ2.out; have := HK2.out; omega
          case rel => exact ⟨(wrap64 (x5_2 + 1)), (by first | rfl | (simp; done) | (simp [*]; done)), H', ⟨by have := HJ2.out; have := HK2.out; omega⟩, ⟨by (with_reducible repeat (first | refine blk_drewN ?_ _ | refine blk_drew ?_ | refine blk_alloc ?_ _)); exact BK101.out⟩, ⟨by (with_reducible repeat (first | refine blk_drewN ?_ _ | refine blk_drew ?_ | refine blk_alloc ?_ _)); exact BK102.out⟩, ⟨pE HB⟩⟩
        ·rw [if_neg c17] at H
         exact absurd H (by simp)
       ·rw [if_neg c16] at H
        exact absurd H (by simp)
      ·rw [if_neg c15] at H
       have c15b0 : decide (x5_2 < (l0_0.length : Int)) = false := decide_eq_false c15
       clear c15
       obtain rfl := Option.some.inj H
       have hnb25 := NB101_102.out
       have hnc25 := NB102_101.out
       obtain ⟨_, _, _, _⟩ := cf2 BK101
       go_wp2
       repeat (go_quiet (fail); try go_wp2)
       go_ret
       exact ⟨eT, pE HB⟩
end Go.Proofs.YtlmglnobdcgbeaaGreat.P
namespace Go.Proofs.YtlmglnobdcgbeaaGreat.P
open Go.RowKit Go.Proofs.YtlmglnobdcgbeaaGreatW.PrintWords Go.Proofs.YtlmglnobdcgbeaaGreatW.PrintLast Go.Proofs.YtlmglnobdcgbeaaGreatW.PrintMore
theorem rInts_l (l : List Int) (hn : l.length ≤ 1000) : ∀ d (i : Nat) k, l.length - i = d → i ≤ l.length → d < k → walkmillref04_Ints.l0 k l l i = some true
  | 0, i, k, hd, hi, hk => by
    obtain ⟨k, rfl⟩ : ∃ m, k = m + 1 := ⟨k - 1, by omega⟩
    unfold walkmillref04_Ints.l0
    rw [if_neg (by omega)]
  | d + 1, i, k, hd, hi, hk => by
    obtain ⟨k, rfl⟩ : ∃ m, k = m + 1 := ⟨k - 1, by omega⟩
    unfold walkmillref04_Ints.l0
    rw [if_pos (by omega), if_pos (by omega), if_pos (by omega), if_pos rfl, nx i (by omega)]
    exact rInts_l l hn d (i + 1) k (by omega) (by omega) (by omega)
theorem rInts_same (k : Nat) (l : List Int) (hn : l.length ≤ 1000) (hk : l.length < k) : walkmillref04_Ints.f k l l = some true := by
  unfold walkmillref04_Ints.f
  rw [if_pos rfl]
  exact rInts_l l hn l.length 0 k (by omega) (by omega) hk
theorem rSame_l (cl : List S67) (rk : List Int) (hn : cl.length ≤ 1000) : ∀ d (i : Nat) k, cl.length - i = d → i ≤ cl.length → d < k → walkmillref04_Same.l0 k i cl rk cl rk = some true
  | 0, i, k, hd, hi, hk => by
    obtain ⟨k, rfl⟩ : ∃ m, k = m + 1 := ⟨k - 1, by omega⟩
    unfold walkmillref04_Same.l0
    rw [if_neg (by omega)]
  | d + 1, i, k, hd, hi, hk => by
    obtain ⟨k, rfl⟩ : ∃ m, k = m + 1 := ⟨k - 1, by omega⟩
    unfold walkmillref04_Same.l0
    rw [if_pos (by omega), if_pos (by omega), if_pos (by omega), if_neg (by simp), nx i (by omega)]
    exact rSame_l cl rk hn d (i + 1) k (by omega) (by omega) (by omega)
theorem rSame_eq (k : Nat) (cl : List S67) (rk : List Int) (hm : cl.length ≤ 1000) (hn : rk.length ≤ 1000) (hk : cl.length + rk.length + 2 < k) : walkmillref04_Same.f k cl rk cl rk = some true := by
  unfold walkmillref04_Same.f
  rw [if_pos rfl, rInts_same k rk hn (by omega), Option.bind_some]
  obtain ⟨k, rfl⟩ : ∃ m, k = m + 1 := ⟨k - 1, by omega⟩
  rw [walkmillref04_Same.j0, if_neg (by simp)]
  exact rSame_l cl rk hm cl.length 0 k (by omega) (by omega) (by omega)
theorem copy_eq (cl : List S67) (rk : List Int) (hm : cl.length ≤ 1000) (hn : rk.length ≤ 1000) : walkmillref04_Copy.f cl rk = some (cl, rk) := by
  unfold walkmillref04_Copy.f
  simp only [Option.bind_some, List.nil_append, List.length_nil]
  rw [if_pos (by omega), if_pos (by omega)]
theorem long_eq (cl : List S67) (rk : List Int) : walkmilllaw04_long.f cl rk = some (decide (20 < cl.length) || decide (10 < rk.length)) := by
  unfold walkmilllaw04_long.f
  by_cases h : (cl.length : Int) > 20
  · rw [if_pos h, decide_eq_true (by omega)]; rfl
  · rw [if_neg h, decide_eq_false (p := 20 < cl.length) (by omega), Bool.false_or]
    congr 1; exact decide_eq_decide.2 (by omega)
end Go.Proofs.YtlmglnobdcgbeaaGreat.P
namespace Go.Proofs.YtlmglnobdcgbeaaGreat.P
open Go.RowKit Go.Shelf Go.Proofs.YtlmglnobdcgbeaaGreatW.PrintWords Go.Proofs.YtlmglnobdcgbeaaGreatW.PrintLast Go.Proofs.YtlmglnobdcgbeaaGreatW.PrintMore Go.Proofs.YtlmglnobdcgbeaaGreat.R
attribute [local go_sem] max2_int min2_int max_two min_two max_three min_three max_four min_four
def turn_round.T5 : Bool × List (List Nat × List Nat) := (true, [([], []), ([], []), ([1], [1]), ([], []), ([3], [3]), ([4], [4]), ([2, 5], [2, 5]), ([0, 6], [0, 6]), ([], []), ([8, 7, 0, 1, 2, 3, 4, 5, 6, 7, 8], [7, 8])])
def turn_round.B5 : List Nat := [0, 0, 2, 0, 8, 24, 62, 127, 0, 511]
theorem turn_round.tab5 : rtab .any (opsOf Tryz.f99 5) = turn_round.T5 := by kernel_rfl
theorem turn_round.bits5 : waitsOk turn_round.T5.2 turn_round.B5 = true := by kernel_rfl
def turn_round.T6 : Bool × List (List Nat × List Nat) := (true, [([], []), ([0], [0]), ([], []), ([], []), ([3], [3]), ([2, 4], [2, 4]), ([1, 5], [1, 5]), ([0, 1, 2, 3, 4, 5, 6], []), ([7, 6, 5, 0, 1, 2, 3, 4, 5, 6], [6, 7])])
def turn_round.B6 : List Nat := [0, 1, 0, 0, 8, 28, 63, 127, 255]
theorem turn_round.tab6 : rtab .any (opsOf Tryz.f99 6) = turn_round.T6 := by kernel_rfl
theorem turn_round.bits6 : waitsOk turn_round.T6.2 turn_round.B6 = true := by kernel_rfl
def loopBody : Code → Option Code
  | .seq a b => match loopBody a with | some x => some x | none => loopBody b
  | .block _ c => loopBody c
  | .loop c => some c
  | .cond _ a b => match loopBody a with | some x => some x | none => loopBody b
  | _ => none
def firstBlock : Code → Option Code
  | .seq a b => match firstBlock a with | some x => some x | none => firstBlock b
  | .block _ c => some c
  | .cond _ a b => match firstBlock a with | some x => some x | none => firstBlock b
  | _ => none
def seqL : Code → List Code
  | .seq a b => a :: seqL b
  | c => [c]
structure TurnDone (P0_ : Nat → Prop) (w0 w : World) (u : Value) (l0 : List Int) (x tk dn : Int) (g10 : Nat) (w' : World) : Prop where
  t : w'.heap[g10]? = some (.cells #[.int .i64 x, .int .i64 tk, .int .i64 dn] 107 (0, 0))
  ge : w.heap.size ≤ g10
  row : Kd.R (Kd.int .i64) 3 w' w0.heap.size (fun k_ => (P0_ k_ ∨ w.heap.size ≤ k_)) u (l0.set 0 dn)
  bel : Below w0.heap.size w0 w'
  kept : Kept w w' (fun k_ => P0_ k_)
set_option maxHeartbeats 16000000 in
set_option maxRecDepth 100000 in
theorem turn_round {n : Nat} {Q : Exit → Act → World → Prop} (P0_ : Nat → Prop) (u9000_ : Value) (l0 : List Int) (a1 : Int) (B3 : Nat) (A3_0 : Option Addr) (c3_0 : Nat) (l3_0 : List (S67)) (A3_1 : Option Addr) (c3_1 : Nat) (l3_1 : List Int) (B4 : Nat) (g : FuncId) (fng : Func) (w0 w : World)
    (hB : Below w0.heap.size w0 w) (ho0 : Kd.R (Kd.int .i64) 3 w w0.heap.size P0_ u9000_ l0) (hb3 : w.heap[B3]? = some (.cells #[.slice A3_0 l3_0.length c3_0, .slice A3_1 l3_1.length c3_1] 99 (0, 0))) (hr3_0 : Kd.C k67 w A3_0 l3_0.length l3_0)
    (hb4 : w.heap[B4]? = some (.cells #[.func (.func g) #[] #[]] 135 (0, 0))) (nb3_4 : B3 ≠ B4) (hg1 : Tryz.prog.funcs[g]? = some fng) (hg2 : (fng.name == "runtime.NumGoroutine") = false) (hg3 : fng.body.isSome = true)
    (t105 : Int) (hof : ∀ W_, Calls Tryz.prog g #[.agg #[.int .i64 ((rd_T67 l3_0 a1).f2.f0), .int .i64 ((rd_T67 l3_0 a1).f2.f1)]] W_ fun e w' => e = .returned (.int .i64 t105) ∧ Below W_.heap.size W_ w')
    (c6 : 0 ≤ a1) (c7 : a1 < (l3_0.length : Int)) (c8 : 0 < (l0.length : Int)) (y0 y1 y2 y5 y7 y9 y10 y11 y12 y13 y14 y15 y16 y17 y18 y19 y20 y21 y22 y23 y24 y25 y26 y27 y28 y29 y30 y31 y32 y33 y34 y35 y36 y37 y38 y39 y40 y41 y42 y43 y44 y45 y46 y47 y48 y49 y50 y51 : Value) (ds : List Deferred) (r4 r5 r6 r7 z : Code) (hc : ((Tryz.f99.body.bind loopBody).bind firstBlock).map (fun c => ((seqL c).drop 1).take 4) = some [r4, r5, r6, r7])
    (hqp : ∀ c a a' w, a.defers = a'.defers → Q (.panic c) a w → Q (.panic c) a' w)
    (hQ : ∀ (g10 : Nat) (w' : World) (z9 z19 z20 z21 z22 z23 z24 z25 z26 z27 z28 z29 z30 z31 z32 z33 z34 z35 z36 z37 z38 z39 z40 z41 z42 z43 z44 : Value), TurnDone P0_ w0 w u9000_ l0 a1 (mx ((rd_T67 l3_0 a1).f1) (rd l0 0)) (wrap64 ((mx ((rd_T67 l3_0 a1).f1) (rd l0 0)) + t105)) g10 w' → z.wpIn Fence.wide n Tryz.prog Q { tmps := #[y0, y1, y2, .pointer (some ⟨B3, 0, none⟩), .pointer (some ⟨B4, 0, none⟩), y5, u9000_, y7, .int .i64 a1, z9, .pointer (some ⟨g10, 0, none⟩), y11, y12, y13, y14, y15, y16, y17, y18, z19, z20, z21, z22, z23, z24, z25, z26, z27, z28, z29, z30, z31, z32, z33, z34, z35, z36, z37, z38, z39, z40, z41, z42, z43, z44, y45, y46, y47, y48, y49, y50, y51], defers := ds } w') :
    (r4.seq (r5.seq (r6.seq (r7.seq z)))).wpIn Fence.wide n Tryz.prog Q { tmps := #[y0, y1, y2, .pointer (some ⟨B3, 0, none⟩), .pointer (some ⟨B4, 0, none⟩), y5, u9000_, y7, .int .i64 a1, y9, y10, y11, y12, y13, y14, y15, y16, y17, y18, y19, y20, y21, y22, y23, y24, y25, y26, y27, y28, y29, y30, y31, y32, y33, y34, y35, y36, y37, y38, y39, y40, y41, y42, y43, y44, y45, y46, y47, y48, y49, y50, y51], defers := ds } w := by
  simp only [Tryz.f99, Option.bind_some, loopBody, firstBlock, seqL, Option.map_some, List.drop_succ_cons, List.drop_zero, List.take_succ_cons, List.take_zero, Option.some.injEq, List.cons.injEq, and_true] at hc
  obtain ⟨rfl, rfl, rfl, rfl⟩ := hc
  have hu67 := Tryz.underlying67
  have hu107 := Tryz.underlying107
  have hu42 := Tryz.underlying42
  have HO0 := Aside0.mk (show Kd.R (Kd.int .i64) 3 w w0.heap.size (fun k_ => (P0_ k_ ∨ w.heap.size ≤ k_)) u9000_ l0 from Kd.R_mono ho0 (fun k_ hk => (.inl hk)))
  have HR3_0 := Aside0.mk hr3_0
  clear hr3_0
  have BK3 := Aside0.mk hb3
  clear hb3
  have BK4 := Aside0.mk hb4
  clear hb4
  have NB3_4 := Aside0.mk nb3_4
  have NB4_3 := Aside0.mk nb3_4.symm
  clear nb3_4
  have HK := Aside0.mk (Kept.refl w (fun k_ => P0_ k_))
  have HW0 := Aside0.mk hB.size
  have HB := Aside0.mk hB
  clear hB ho0
  have HG1 := Aside0.mk hg1
  have HG2 := Aside0.mk hg2
  have HG3 := Aside0.mk hg3
  have HOF := Aside0.mk hof
  have HQ := Aside0.mk hQ
  have HQP := Aside0.mk hqp
  clear hqp hg1 hg2 hg3 hof hQ
  have c6b0 : decide (0 ≤ a1) = true := decide_eq_true c6
  clear c6
  have c7b0 : decide (a1 < (l3_0.length : Int)) = true := decide_eq_true c7
  clear c7
  have c8b0 : decide (0 < (l0.length : Int)) = true := decide_eq_true c8
  have c8b1 : decide (0 < l0.length) = true := decide_eq_true (by omega)
  clear c8
  obtain ⟨ji9, hji9⟩ : ∃ j_ : Int, (mx ((rd_T67 l3_0 a1).f1) (rd l0 0)) = j_ := ⟨_, rfl⟩
  have hji9_ : (if ((rd_T67 l3_0 a1).f1) < (rd l0 0) then (rd l0 0) else ((rd_T67 l3_0 a1).f1)) = ji9 := hji9
  obtain ⟨y106, hy106⟩ : ∃ y_ : List Int, y_ = (l0.set (0 : Int).toNat (wrap64 ((ji9) + t105))) := ⟨_, rfl⟩
  have Ny106 := Aside0.mk hy106
  clear hy106
  have hnb12 := NB3_4.out
  have hnc12 := NB4_3.out
  obtain ⟨_, _, _, _⟩ := cf2 BK3
  have p101 : 0 ≤ (a1 : Int) := dT
  have q101 : a1 < (l3_0.length : Int) := dT
  obtain ⟨ad101, e101, hx101_0, hx101_1, hx101_2, hx101_3⟩ := at_T67 HR3_0.out a1 p101 q101
  cases e101
  replace p101 := eq_true p101
  replace q101 := eq_true q101
  go_wp2_with (first | ((with_reducible refine gate_dst (N := 9) rfl ?_); refine bx 9 #[.int .i64 0, .int .i64 0, .int .i64 0, .int .i64 0] 67 ?_; intro gb102 hg w14 hbox hb; replace HO0 := rb HO0 hb; have BK102 := hbox; have GW102 := Aside0.mk ((by rw [hg]; exact (by first | exact HK.out.1 | exact (show Kept w _ (fun k_ => P0_ k_) from by repeat (first | (with_reducible first | exact HK.out | apply Kept.alloc | apply Kept.drewN | apply Kept.drew | refine Kept.setCell ?_ (.inr GW3.out) _ | refine Kept.setCell ?_ (.inr GW4.out) _) | exact HK.out)).1) : w.heap.size ≤ gb102)); replace HK := Aside0.mk (Kept.below (S := (fun k_ => P0_ k_)) (by repeat (first | (with_reducible first | exact HK.out | apply Kept.alloc | apply Kept.drewN | apply Kept.drew | refine Kept.setCell ?_ (.inr GW3.out) _ | refine Kept.setCell ?_ (.inr GW4.out) _) | exact HK.out)) hb); have GE102 := Aside0.mk ((by rw [hg]; exact (below_size (pE HB)) : w0.heap.size ≤ gb102)); replace HB := bs HB hb; have NB3_102 := nl BK3 hg; have NB102_3 := nr BK3 hg; replace BK3 := bb BK3 hb; have NB4_102 := nl BK4 hg; have NB102_4 := nr BK4 hg; replace BK4 := bb BK4 hb; clear hb hbox hg; have hnb15 := NB102_3.out; have hnc15 := NB3_102.out; have hnb16 := NB102_4.out; have hnc16 := NB4_102.out; obtain ⟨_, _, _, _, _, _, _, _⟩ := cf4 BK102) | (with_reducible refine regW_lit_ ?_) | gi_step)
  have n0_ : Aside0 (Kd.R (Kd.int .i64) 3 ((((w14.setCell ⟨gb102, 0, none⟩ (.int .i64 ((rd_T67 l3_0 a1).f0))).setCell ⟨gb102, 1, none⟩ (.int .i64 ((rd_T67 l3_0 a1).f1))).setCell ⟨gb102, 2, none⟩ (.int .i64 ((rd_T67 l3_0 a1).f2.f0))).setCell ⟨gb102, 3, none⟩ (.int .i64 ((rd_T67 l3_0 a1).f2.f1))) w0.heap.size (fun k_ => (P0_ k_ ∨ w.heap.size ≤ k_)) u9000_ l0) := ⟨by (with_reducible repeat (first | apply Kd.R_alloc | apply Kd.R_drewN | apply Kd.R_drew)); exact Kd.R_mono (Kd.R_far (p := ⟨gb102, 3, none⟩) (Kd.R_far (p := ⟨gb102, 2, none⟩) (Kd.R_far (p := ⟨gb102, 1, none⟩) (Kd.R_far (p := ⟨gb102, 0, none⟩) (Kd.R_types HO0.out BK102.out (by decide)) (fun _ hk => hk.2) (.int .i64 ((rd_T67 l3_0 a1).f0))) (fun _ hk => hk.2) (.int .i64 ((rd_T67 l3_0 a1).f1))) (fun _ hk => hk.2) (.int .i64 ((rd_T67 l3_0 a1).f2.f0))) (fun _ hk => hk.2) (.int .i64 ((rd_T67 l3_0 a1).f2.f1))) (fun _ hk => hk.1)⟩
  have n1_ : Aside0 (((((w14.setCell ⟨gb102, 0, none⟩ (.int .i64 ((rd_T67 l3_0 a1).f0))).setCell ⟨gb102, 1, none⟩ (.int .i64 ((rd_T67 l3_0 a1).f1))).setCell ⟨gb102, 2, none⟩ (.int .i64 ((rd_T67 l3_0 a1).f2.f0))).setCell ⟨gb102, 3, none⟩ (.int .i64 ((rd_T67 l3_0 a1).f2.f1))).heap[B3]? = some (.cells #[.slice (some ad101) l3_0.length c3_0, .slice A3_1 l3_1.length c3_1] 99 (0, 0))) := ⟨by refine pB ?_; refine blk_far ?_ NB3_102.out _; refine pB ?_; refine blk_far ?_ NB3_102.out _; refine pB ?_; refine blk_far ?_ NB3_102.out _; refine pB ?_; refine blk_far ?_ NB3_102.out _; (with_reducible repeat (first | refine blk_drewN ?_ _ | refine blk_drew ?_ | refine blk_alloc ?_ _)); exact BK3.out⟩
  have n2_ : Aside0 (((((w14.setCell ⟨gb102, 0, none⟩ (.int .i64 ((rd_T67 l3_0 a1).f0))).setCell ⟨gb102, 1, none⟩ (.int .i64 ((rd_T67 l3_0 a1).f1))).setCell ⟨gb102, 2, none⟩ (.int .i64 ((rd_T67 l3_0 a1).f2.f0))).setCell ⟨gb102, 3, none⟩ (.int .i64 ((rd_T67 l3_0 a1).f2.f1))).heap[B4]? = some (.cells #[.func (.func g) #[] #[]] 135 (0, 0))) := ⟨by refine pB ?_; refine blk_far ?_ NB4_102.out _; refine pB ?_; refine blk_far ?_ NB4_102.out _; refine pB ?_; refine blk_far ?_ NB4_102.out _; refine pB ?_; refine blk_far ?_ NB4_102.out _; (with_reducible repeat (first | refine blk_drewN ?_ _ | refine blk_drew ?_ | refine blk_alloc ?_ _)); exact BK4.out⟩
  have n3_ : Aside0 (((((w14.setCell ⟨gb102, 0, none⟩ (.int .i64 ((rd_T67 l3_0 a1).f0))).setCell ⟨gb102, 1, none⟩ (.int .i64 ((rd_T67 l3_0 a1).f1))).setCell ⟨gb102, 2, none⟩ (.int .i64 ((rd_T67 l3_0 a1).f2.f0))).setCell ⟨gb102, 3, none⟩ (.int .i64 ((rd_T67 l3_0 a1).f2.f1))).heap[gb102]? = some (.cells #[.int .i64 ((rd_T67 l3_0 a1).f0), .int .i64 ((rd_T67 l3_0 a1).f1), .int .i64 ((rd_T67 l3_0 a1).f2.f0), .int .i64 ((rd_T67 l3_0 a1).f2.f1)] 67 (0, 0))) := ⟨by refine pB ?_; refine blk_put (cs := #[.int .i64 ((rd_T67 l3_0 a1).f0), .int .i64 ((rd_T67 l3_0 a1).f1), .int .i64 ((rd_T67 l3_0 a1).f2.f0), .int .i64 0]) ?_ 3 _ rfl; refine pB ?_; refine blk_put (cs := #[.int .i64 ((rd_T67 l3_0 a1).f0), .int .i64 ((rd_T67 l3_0 a1).f1), .int .i64 0, .int .i64 0]) ?_ 2 _ rfl; refine pB ?_; refine blk_put (cs := #[.int .i64 ((rd_T67 l3_0 a1).f0), .int .i64 0, .int .i64 0, .int .i64 0]) ?_ 1 _ rfl; refine pB ?_; refine blk_put (cs := #[.int .i64 0, .int .i64 0, .int .i64 0, .int .i64 0]) ?_ 0 _ rfl; (with_reducible repeat (first | refine blk_drewN ?_ _ | refine blk_drew ?_ | refine blk_alloc ?_ _)); exact BK102.out⟩
  have n4_ : Aside0 (Kept w ((((w14.setCell ⟨gb102, 0, none⟩ (.int .i64 ((rd_T67 l3_0 a1).f0))).setCell ⟨gb102, 1, none⟩ (.int .i64 ((rd_T67 l3_0 a1).f1))).setCell ⟨gb102, 2, none⟩ (.int .i64 ((rd_T67 l3_0 a1).f2.f0))).setCell ⟨gb102, 3, none⟩ (.int .i64 ((rd_T67 l3_0 a1).f2.f1))) (fun k_ => P0_ k_)) := ⟨by repeat (first | (with_reducible first | exact HK.out | apply Kept.alloc | apply Kept.drewN | apply Kept.drew | refine Kept.setCell ?_ (.inr GW3.out) _ | refine Kept.setCell ?_ (.inr GW4.out) _ | refine Kept.setCell ?_ (.inr GW102.out) _) | exact HK.out)⟩
  have n5_ : Aside0 (Below w0.heap.size w0 ((((w14.setCell ⟨gb102, 0, none⟩ (.int .i64 ((rd_T67 l3_0 a1).f0))).setCell ⟨gb102, 1, none⟩ (.int .i64 ((rd_T67 l3_0 a1).f1))).setCell ⟨gb102, 2, none⟩ (.int .i64 ((rd_T67 l3_0 a1).f2.f0))).setCell ⟨gb102, 3, none⟩ (.int .i64 ((rd_T67 l3_0 a1).f2.f1)))) := ⟨pE HB⟩
  (try clear HO0)
  (try clear BK3)
  (try clear BK4)
  (try clear BK102)
  (try clear HK)
  (try clear HB)
  generalize ((((w14.setCell ⟨gb102, 0, none⟩ (.int .i64 ((rd_T67 l3_0 a1).f0))).setCell ⟨gb102, 1, none⟩ (.int .i64 ((rd_T67 l3_0 a1).f1))).setCell ⟨gb102, 2, none⟩ (.int .i64 ((rd_T67 l3_0 a1).f2.f0))).setCell ⟨gb102, 3, none⟩ (.int .i64 ((rd_T67 l3_0 a1).f2.f1))) = w18 at n0_ n1_ n2_ n3_ n4_ n5_ ⊢
  have HO0 := n0_
  have BK3 := n1_
  have BK4 := n2_
  have BK102 := n3_
  have HK := n4_
  have HB := n5_
  clear n0_ n1_ n2_ n3_ n4_ n5_
  replace HO0 := Aside0.mk (Kd.R_drew HO0.out)
  replace BK3 := Aside0.mk (blk_drew BK3.out)
  replace BK4 := Aside0.mk (blk_drew BK4.out)
  replace BK102 := Aside0.mk (blk_drew BK102.out)
  replace HK := Aside0.mk (Kept.drew HK.out)
  replace HB := Aside0.mk (below_drew1 HB.out)
  obtain ⟨Ao20, co20, eo20⟩ := Kd.R_slice HO0.out
  (first | subst eo20 | (injection eo20 with f1_ f2_ f3_; have f4_ := f1_.symm; have f5_ := f3_.symm; clear f1_ f2_ f3_; subst f4_; subst f5_))
  have p103 : 0 ≤ (0 : Int) := (by omega)
  have q103 : 0 < (l0.length : Int) := dT
  obtain ⟨ad103, e103, hx103_0⟩ := Kd.at_int (Kd.R_reads' HO0.out).2.2 0 p103 q103
  cases e103
  have qi103 : (0 < l0.length) = True := eq_true (by omega)
  (try rw [show ((0 : Int)).toNat = 0 from rfl] at hx103_0)
  (try rw [Addr.add_zero'] at hx103_0)
  replace p103 := eq_true p103
  replace q103 := eq_true q103
  refine wpIn_wide.2 (start_ (n := 10) (S := fun w' => w'.cell? ⟨gb102, 0, none⟩ = some (.int .i64 ((rd_T67 l3_0 a1).f0)) ∧ w'.cell? ⟨gb102, 1, none⟩ = some (.int .i64 ((rd_T67 l3_0 a1).f1)) ∧ w'.cell? ⟨gb102, 2, none⟩ = some (.int .i64 ((rd_T67 l3_0 a1).f2.f0)) ∧ w'.cell? ⟨gb102, 3, none⟩ = some (.int .i64 ((rd_T67 l3_0 a1).f2.f1)) ∧ w'.cell? ad103 = some (.int .i64 (rd l0 0))) (ds := []) #[false, false, false, false, false, false, false, false, false, false] (by kernel_rfl) rfl rfl ⟨(blk_cell BK102.out 0).trans rfl, (blk_cell BK102.out 1).trans rfl, (blk_cell BK102.out 2).trans rfl, (blk_cell BK102.out 3).trans rfl, hx103_0⟩ (fun hHeld => ?_)); refine with_tabW turn_round.tab5 turn_round.bits5 (fun HT_ HW_ => ?_)
  generalize w18.drew = w19 at HO0 BK3 BK4 BK102 HK HB hx103_0 hHeld ⊢
  refine pure_ (i := 0) (N := some 25) (v := ?_) (a' := ?_) #[true, false, false, false, false, false, false, false, false, false] rfl rfl (any_of HT_.out (by kernel_rfl)) (fun c_ a_ w_ h_ => HQP.out c_ _ a_ w_ (by rfl) h_) (Or.inl ⟨by rfl, ?_⟩) ?_ ?_
  rotate_left
  · intro w'
    go_simp
    with_reducible rfl
  rotate_left
  · simp only [Act.put, List.setIfInBounds_toArray, List.set_cons_zero, List.set_cons_succ, i64_w, i32_w]
    rfl
  refine pure_ (i := 1) (N := some 26) (v := ?_) (a' := ?_) #[true, true, false, false, false, false, false, false, false, false] rfl rfl (any_of HT_.out (by kernel_rfl)) (fun c_ a_ w_ h_ => HQP.out c_ _ a_ w_ (by rfl) h_) (Or.inl ⟨by rfl, ?_⟩) ?_ ?_
  rotate_left
  · intro w'
    go_simp
    with_reducible rfl
  rotate_left
  · simp only [Act.put, List.setIfInBounds_toArray, List.set_cons_zero, List.set_cons_succ, i64_w, i32_w]
    rfl
  refine pure_ (i := 3) (N := some 28) (v := ?_) (a' := ?_) #[true, true, false, true, false, false, false, false, false, false] rfl rfl (any_of HT_.out (by kernel_rfl)) (fun c_ a_ w_ h_ => HQP.out c_ _ a_ w_ (by rfl) h_) (Or.inl ⟨by rfl, ?_⟩) ?_ ?_
  rotate_left
  · intro w'
    go_simp
    with_reducible rfl
  rotate_left
  · simp only [Act.put, List.setIfInBounds_toArray, List.set_cons_zero, List.set_cons_succ, i64_w, i32_w]
    rfl
  refine pure_ (i := 4) (N := some 29) (v := ?_) (a' := ?_) #[true, true, false, true, true, false, false, false, false, false] rfl rfl (any_of HT_.out (by kernel_rfl)) (fun c_ a_ w_ h_ => HQP.out c_ _ a_ w_ (by rfl) h_) (Or.inl ⟨by rfl, ?_⟩) ?_ ?_
  rotate_left
  · intro w'
    go_simp
    with_reducible rfl
  rotate_left
  · simp only [Act.put, List.setIfInBounds_toArray, List.set_cons_zero, List.set_cons_succ, i64_w, i32_w]
    rfl
  refine take_ (i := 2) (N := some 27) (v := ?_) (a' := ?_) #[true, true, true, true, true, false, false, false, false, false] rfl rfl (take_ofW HT_.out HW_.out (by kernel_rfl)) (fun c_ a_ w_ h_ => HQP.out c_ _ a_ w_ (by rfl) h_) (Or.inl ⟨by rfl, ?_⟩) hHeld ?_ ?_
  rotate_left
  · rintro w' ⟨s0, s1, s2, s3, s4⟩
    go_simp
    with_reducible rfl
  rotate_left
  · simp only [Act.put, List.setIfInBounds_toArray, List.set_cons_zero, List.set_cons_succ, i64_w, i32_w]
    rfl
  refine take_ (i := 5) (N := some 30) (v := ?_) (a' := ?_) #[true, true, true, true, true, true, false, false, false, false] rfl rfl (take_ofW HT_.out HW_.out (by kernel_rfl)) (fun c_ a_ w_ h_ => HQP.out c_ _ a_ w_ (by rfl) h_) (Or.inl ⟨by rfl, ?_⟩) hHeld ?_ ?_
  rotate_left
  · rintro w' ⟨s0, s1, s2, s3, s4⟩
    go_simp
    with_reducible rfl
  rotate_left
  · simp only [Act.put, List.setIfInBounds_toArray, List.set_cons_zero, List.set_cons_succ, i64_w, i32_w]
    rfl
  refine pure_ (i := 6) (N := some 31) (v := ?_) (a' := ?_) #[true, true, true, true, true, true, true, false, false, false] rfl rfl (any_of HT_.out (by kernel_rfl)) (fun c_ a_ w_ h_ => HQP.out c_ _ a_ w_ (by rfl) h_) (Or.inl ⟨by rfl, ?_⟩) ?_ ?_
  rotate_left
  · intro w'
    go_simp
    with_reducible rfl
  rotate_left
  · simp only [Act.put, List.setIfInBounds_toArray, List.set_cons_zero, List.set_cons_succ, i64_w, i32_w]
    rfl
  refine pure_ (i := 7) (N := some 32) (v := ?_) (a' := ?_) #[true, true, true, true, true, true, true, true, false, false] rfl rfl (any_of HT_.out (by kernel_rfl)) (fun c_ a_ w_ h_ => HQP.out c_ _ a_ w_ (by rfl) h_) (Or.inl ⟨by rfl, ?_⟩) ?_ ?_
  rotate_left
  · intro w'
    go_simp
    with_reducible rfl
  rotate_left
  · simp only [Act.put, List.setIfInBounds_toArray, List.set_cons_zero, List.set_cons_succ, i64_w, i32_w]
    rfl
  refine on 8 (fun K hK => ?_)
  refine box_step ?hg (N := 10) ?hd (cs := #[.int .i64 0, .int .i64 0, .int .i64 0]) (t := 107) ?hr ?_; (case hd => rfl); (case hg => rfl); (case hr => first | (go_simp; done) | (go_simp; rfl))
  intro gb104 hg w21 hbox hb
  have HS4_ := (hb.cell (World.block_lt_of_cell? _ _ (hHeld.2.2.2.2))).trans (hHeld.2.2.2.2)
  replace HO0 := rb HO0 hb
  have BK104 := Aside0.mk (hbox)
  have GW104 := Aside0.mk ((by rw [hg]; exact (by first | exact HK.out.1 | exact (show Kept w _ (fun k_ => P0_ k_) from by repeat (first | (with_reducible first | exact HK.out | apply Kept.alloc | apply Kept.drewN | apply Kept.drew | refine Kept.setCell ?_ (.inr GW3.out) _ | refine Kept.setCell ?_ (.inr GW4.out) _ | refine Kept.setCell ?_ (.inr GW102.out) _) | exact HK.out)).1) : w.heap.size ≤ gb104))
  replace HK := Aside0.mk (Kept.below (S := (fun k_ => P0_ k_)) (by repeat (first | (with_reducible first | exact HK.out | apply Kept.alloc | apply Kept.drewN | apply Kept.drew | refine Kept.setCell ?_ (.inr GW3.out) _ | refine Kept.setCell ?_ (.inr GW4.out) _ | refine Kept.setCell ?_ (.inr GW102.out) _) | exact HK.out)) hb)
  have GE104 := Aside0.mk ((by rw [hg]; exact (below_size (pE HB)) : w0.heap.size ≤ gb104))
  replace HB := bs HB hb
  have NB3_104 := nl BK3 hg
  have NB104_3 := nr BK3 hg
  replace BK3 := bb BK3 hb
  have NB4_104 := nl BK4 hg
  have NB104_4 := nr BK4 hg
  replace BK4 := bb BK4 hb
  have NB102_104 := nl BK102 hg
  have NB104_102 := nr BK102 hg
  replace BK102 := bb BK102 hb
  clear hb hbox hg
  refine hK.out _ _ ⟨(blk_cell BK102.out 0).trans rfl, (blk_cell BK102.out 1).trans rfl, (blk_cell BK102.out 2).trans rfl, (blk_cell BK102.out 3).trans rfl, HS4_⟩ (fun hHeld => ?_)
  clear hK K
  refine norm_ (a' := ?_) ?_ ?_
  rotate_left
  · show Act.put _ (some 10) _ = _
    simp only [Act.put, List.setIfInBounds_toArray, List.set_cons_zero, List.set_cons_succ, i64_w, i32_w]
    rfl
  refine on 9 (fun K hK => ?_)
  have hs22 : w21.cell? ⟨gb104, 0, none⟩ = some (.int .i64 0) := (blk_cell BK104.out 0).trans rfl
  have hfs22 := blk_frozen BK104.out 0
  have hns22_0 := NB3_104.out
  have hns22_1 := NB4_104.out
  have hns22_2 := NB102_104.out
  have hms22_0 := NB104_3.out
  have hms22_1 := NB104_4.out
  have hms22_2 := NB104_102.out
  have hs23 : w21.cell? ⟨gb104, 1, none⟩ = some (.int .i64 0) := (blk_cell BK104.out 1).trans rfl
  have hfs23 := blk_frozen BK104.out 1
  have hns23_0 := NB3_104.out
  have hns23_1 := NB4_104.out
  have hns23_2 := NB102_104.out
  have hms23_0 := NB104_3.out
  have hms23_1 := NB104_4.out
  have hms23_2 := NB104_102.out
  have hs24 : w21.cell? ⟨gb104, 2, none⟩ = some (.int .i64 0) := (blk_cell BK104.out 2).trans rfl
  have hfs24 := blk_frozen BK104.out 2
  have hns24_0 := NB3_104.out
  have hns24_1 := NB4_104.out
  have hns24_2 := NB102_104.out
  have hms24_0 := NB104_3.out
  have hms24_1 := NB104_4.out
  have hms24_2 := NB104_102.out
  refine skip_ (w1 := ?_) (by rfl) rfl ?_ ?_
  rotate_left
  · go_simp
    rfl
  refine hK.out _ _ ⟨((cell_far (p := ⟨gb104, _, none⟩) NB102_104.out _).trans (((cell_far (p := ⟨gb104, _, none⟩) NB102_104.out _).trans (((cell_far (p := ⟨gb104, _, none⟩) NB102_104.out _).trans (hHeld.1)))))), ((cell_far (p := ⟨gb104, _, none⟩) NB102_104.out _).trans (((cell_far (p := ⟨gb104, _, none⟩) NB102_104.out _).trans (((cell_far (p := ⟨gb104, _, none⟩) NB102_104.out _).trans (hHeld.2.1)))))), ((cell_far (p := ⟨gb104, _, none⟩) NB102_104.out _).trans (((cell_far (p := ⟨gb104, _, none⟩) NB102_104.out _).trans (((cell_far (p := ⟨gb104, _, none⟩) NB102_104.out _).trans (hHeld.2.2.1)))))), ((cell_far (p := ⟨gb104, _, none⟩) NB102_104.out _).trans (((cell_far (p := ⟨gb104, _, none⟩) NB102_104.out _).trans (((cell_far (p := ⟨gb104, _, none⟩) NB102_104.out _).trans (hHeld.2.2.2.1)))))), ((cell_far (p := ⟨gb104, _, none⟩) (by first | exact Kd.own_blk (Kd.R_ne HO0.out BK104.out (by decide)) | (rw [add_block]; exact Kd.own_blk (Kd.R_ne HO0.out BK104.out (by decide))) | (show (Addr.add _ _).block ≠ _; rw [add_block]; exact Kd.own_blk (Kd.R_ne HO0.out BK104.out (by decide))) | (dsimp only; exact Kd.own_blk (Kd.R_ne HO0.out BK104.out (by decide)))) _).trans (((cell_far (p := ⟨gb104, _, none⟩) (by first | exact Kd.own_blk (Kd.R_ne HO0.out BK104.out (by decide)) | (rw [add_block]; exact Kd.own_blk (Kd.R_ne HO0.out BK104.out (by decide))) | (show (Addr.add _ _).block ≠ _; rw [add_block]; exact Kd.own_blk (Kd.R_ne HO0.out BK104.out (by decide))) | (dsimp only; exact Kd.own_blk (Kd.R_ne HO0.out BK104.out (by decide)))) _).trans (((cell_far (p := ⟨gb104, _, none⟩) (by first | exact Kd.own_blk (Kd.R_ne HO0.out BK104.out (by decide)) | (rw [add_block]; exact Kd.own_blk (Kd.R_ne HO0.out BK104.out (by decide))) | (show (Addr.add _ _).block ≠ _; rw [add_block]; exact Kd.own_blk (Kd.R_ne HO0.out BK104.out (by decide))) | (dsimp only; exact Kd.own_blk (Kd.R_ne HO0.out BK104.out (by decide)))) _).trans (hHeld.2.2.2.2))))))⟩ (fun hHeld => ?_)
  clear hK K
  refine done_ (done_of HT_.out (by kernel_rfl)) ?_
  go_wp2_with (first | (with_reducible refine regW_lit_ ?_) | gi_step)
  have n0_ : Aside0 (Kd.R (Kd.int .i64) 3 (((w21.setCell ⟨gb104, 0, none⟩ (.int .i64 a1)).setCell ⟨gb104, 1, none⟩ (.int .i64 ji9)).setCell ⟨gb104, 2, none⟩ (.int .i64 0)) w0.heap.size (fun k_ => (P0_ k_ ∨ w.heap.size ≤ k_)) (.slice (some ad103) l0.length co20) l0) := ⟨by (with_reducible repeat (first | apply Kd.R_alloc | apply Kd.R_drewN | apply Kd.R_drew)); exact Kd.R_mono (Kd.R_far (p := ⟨gb104, 2, none⟩) (Kd.R_far (p := ⟨gb104, 1, none⟩) (Kd.R_far (p := ⟨gb104, 0, none⟩) (Kd.R_types HO0.out BK104.out (by decide)) (fun _ hk => hk.2) (.int .i64 a1)) (fun _ hk => hk.2) (.int .i64 ji9)) (fun _ hk => hk.2) (.int .i64 0)) (fun _ hk => hk.1)⟩
  have n1_ : Aside0 ((((w21.setCell ⟨gb104, 0, none⟩ (.int .i64 a1)).setCell ⟨gb104, 1, none⟩ (.int .i64 ji9)).setCell ⟨gb104, 2, none⟩ (.int .i64 0)).heap[B3]? = some (.cells #[.slice (some ad101) l3_0.length c3_0, .slice A3_1 l3_1.length c3_1] 99 (0, 0))) := ⟨by refine pB ?_; refine blk_far ?_ NB3_104.out _; refine pB ?_; refine blk_far ?_ NB3_104.out _; refine pB ?_; refine blk_far ?_ NB3_104.out _; (with_reducible repeat (first | refine blk_drewN ?_ _ | refine blk_drew ?_ | refine blk_alloc ?_ _)); exact BK3.out⟩
  have n2_ : Aside0 ((((w21.setCell ⟨gb104, 0, none⟩ (.int .i64 a1)).setCell ⟨gb104, 1, none⟩ (.int .i64 ji9)).setCell ⟨gb104, 2, none⟩ (.int .i64 0)).heap[B4]? = some (.cells #[.func (.func g) #[] #[]] 135 (0, 0))) := ⟨by refine pB ?_; refine blk_far ?_ NB4_104.out _; refine pB ?_; refine blk_far ?_ NB4_104.out _; refine pB ?_; refine blk_far ?_ NB4_104.out _; (with_reducible repeat (first | refine blk_drewN ?_ _ | refine blk_drew ?_ | refine blk_alloc ?_ _)); exact BK4.out⟩
  have n3_ : Aside0 ((((w21.setCell ⟨gb104, 0, none⟩ (.int .i64 a1)).setCell ⟨gb104, 1, none⟩ (.int .i64 ji9)).setCell ⟨gb104, 2, none⟩ (.int .i64 0)).heap[gb102]? = some (.cells #[.int .i64 ((rd_T67 l3_0 a1).f0), .int .i64 ((rd_T67 l3_0 a1).f1), .int .i64 ((rd_T67 l3_0 a1).f2.f0), .int .i64 ((rd_T67 l3_0 a1).f2.f1)] 67 (0, 0))) := ⟨by refine pB ?_; refine blk_far ?_ NB102_104.out _; refine pB ?_; refine blk_far ?_ NB102_104.out _; refine pB ?_; refine blk_far ?_ NB102_104.out _; (with_reducible repeat (first | refine blk_drewN ?_ _ | refine blk_drew ?_ | refine blk_alloc ?_ _)); exact BK102.out⟩
  have n4_ : Aside0 ((((w21.setCell ⟨gb104, 0, none⟩ (.int .i64 a1)).setCell ⟨gb104, 1, none⟩ (.int .i64 ji9)).setCell ⟨gb104, 2, none⟩ (.int .i64 0)).heap[gb104]? = some (.cells #[.int .i64 a1, .int .i64 ji9, .int .i64 0] 107 (0, 0))) := ⟨by refine pB ?_; refine blk_put (cs := #[.int .i64 a1, .int .i64 ji9, .int .i64 0]) ?_ 2 _ rfl; refine pB ?_; refine blk_put (cs := #[.int .i64 a1, .int .i64 0, .int .i64 0]) ?_ 1 _ rfl; refine pB ?_; refine blk_put (cs := #[.int .i64 0, .int .i64 0, .int .i64 0]) ?_ 0 _ rfl; (with_reducible repeat (first | refine blk_drewN ?_ _ | refine blk_drew ?_ | refine blk_alloc ?_ _)); exact BK104.out⟩
  have n5_ : Aside0 (Kept w (((w21.setCell ⟨gb104, 0, none⟩ (.int .i64 a1)).setCell ⟨gb104, 1, none⟩ (.int .i64 ji9)).setCell ⟨gb104, 2, none⟩ (.int .i64 0)) (fun k_ => P0_ k_)) := ⟨by repeat (first | (with_reducible first | exact HK.out | apply Kept.alloc | apply Kept.drewN | apply Kept.drew | refine Kept.setCell ?_ (.inr GW3.out) _ | refine Kept.setCell ?_ (.inr GW4.out) _ | refine Kept.setCell ?_ (.inr GW102.out) _ | refine Kept.setCell ?_ (.inr GW104.out) _) | exact HK.out)⟩
  have n6_ : Aside0 (Below w0.heap.size w0 (((w21.setCell ⟨gb104, 0, none⟩ (.int .i64 a1)).setCell ⟨gb104, 1, none⟩ (.int .i64 ji9)).setCell ⟨gb104, 2, none⟩ (.int .i64 0))) := ⟨pE HB⟩
  (try clear HO0)
  (try clear BK3)
  (try clear BK4)
  (try clear BK102)
  (try clear BK104)
  (try clear HK)
  (try clear HB)
  generalize (((w21.setCell ⟨gb104, 0, none⟩ (.int .i64 a1)).setCell ⟨gb104, 1, none⟩ (.int .i64 ji9)).setCell ⟨gb104, 2, none⟩ (.int .i64 0)) = w25 at n0_ n1_ n2_ n3_ n4_ n5_ n6_ ⊢
  have HO0 := n0_
  have BK3 := n1_
  have BK4 := n2_
  have BK102 := n3_
  have BK104 := n4_
  have HK := n5_
  have HB := n6_
  clear n0_ n1_ n2_ n3_ n4_ n5_ n6_
  replace HO0 := Aside0.mk (Kd.R_drew HO0.out)
  replace BK3 := Aside0.mk (blk_drew BK3.out)
  replace BK4 := Aside0.mk (blk_drew BK4.out)
  replace BK102 := Aside0.mk (blk_drew BK102.out)
  replace BK104 := Aside0.mk (blk_drew BK104.out)
  replace HK := Aside0.mk (Kept.drew HK.out)
  replace HB := Aside0.mk (below_drew1 HB.out)
  refine wpIn_wide.2 (start_ (n := 9) (S := fun w' => w'.cell? ⟨gb104, 0, none⟩ = some (.int .i64 a1) ∧ w'.cell? ⟨gb104, 1, none⟩ = some (.int .i64 ji9) ∧ w'.cell? ⟨gb104, 2, none⟩ = some (.int .i64 0) ∧ w'.cell? ⟨B4, 0, none⟩ = some (.func (.func g) #[] #[]) ∧ w'.cell? ⟨gb102, 0, none⟩ = some (.int .i64 ((rd_T67 l3_0 a1).f0)) ∧ w'.cell? ⟨gb102, 1, none⟩ = some (.int .i64 ((rd_T67 l3_0 a1).f1)) ∧ w'.cell? ⟨gb102, 2, none⟩ = some (.int .i64 ((rd_T67 l3_0 a1).f2.f0)) ∧ w'.cell? ⟨gb102, 3, none⟩ = some (.int .i64 ((rd_T67 l3_0 a1).f2.f1))) (ds := [8]) #[false, false, false, false, false, false, false, false, false] (by kernel_rfl) rfl rfl ⟨(blk_cell BK104.out 0).trans rfl, (blk_cell BK104.out 1).trans rfl, (blk_cell BK104.out 2).trans rfl, (blk_cell BK4.out 0).trans rfl, (blk_cell BK102.out 0).trans rfl, (blk_cell BK102.out 1).trans rfl, (blk_cell BK102.out 2).trans rfl, (blk_cell BK102.out 3).trans rfl⟩ (fun hHeld => ?_)); refine with_tabW turn_round.tab6 turn_round.bits6 (fun HT_ HW_ => ?_)
  generalize w25.drew = w26 at HO0 BK3 BK4 BK102 BK104 HK HB hHeld ⊢
  refine pure_ (i := 0) (N := some 33) (v := ?_) (a' := ?_) #[true, false, false, false, false, false, false, false, false] rfl rfl (any_of HT_.out (by kernel_rfl)) (fun c_ a_ w_ h_ => HQP.out c_ _ a_ w_ (by rfl) h_) (Or.inl ⟨by rfl, ?_⟩) ?_ ?_
  rotate_left
  · intro w'
    go_simp
    with_reducible rfl
  rotate_left
  · simp only [Act.put, List.setIfInBounds_toArray, List.set_cons_zero, List.set_cons_succ, i64_w, i32_w]
    rfl
  refine pure_ (i := 3) (N := some 36) (v := ?_) (a' := ?_) #[true, false, false, true, false, false, false, false, false] rfl rfl (any_of HT_.out (by kernel_rfl)) (fun c_ a_ w_ h_ => HQP.out c_ _ a_ w_ (by rfl) h_) (Or.inl ⟨by rfl, ?_⟩) ?_ ?_
  rotate_left
  · intro w'
    go_simp
    with_reducible rfl
  rotate_left
  · simp only [Act.put, List.setIfInBounds_toArray, List.set_cons_zero, List.set_cons_succ, i64_w, i32_w]
    rfl
  refine take_ (i := 1) (N := some 34) (v := ?_) (a' := ?_) #[true, true, false, true, false, false, false, false, false] rfl rfl (take_ofW HT_.out HW_.out (by kernel_rfl)) (fun c_ a_ w_ h_ => HQP.out c_ _ a_ w_ (by rfl) h_) (Or.inl ⟨by rfl, ?_⟩) hHeld ?_ ?_
  rotate_left
  · rintro w' ⟨s0, s1, s2, s3, s4, s5, s6, s7⟩
    go_simp
    with_reducible rfl
  rotate_left
  · simp only [Act.put, List.setIfInBounds_toArray, List.set_cons_zero, List.set_cons_succ, i64_w, i32_w]
    rfl
  refine take_ (i := 2) (N := some 35) (v := ?_) (a' := ?_) #[true, true, true, true, false, false, false, false, false] rfl rfl (take_ofW HT_.out HW_.out (by kernel_rfl)) (fun c_ a_ w_ h_ => HQP.out c_ _ a_ w_ (by rfl) h_) (Or.inl ⟨by rfl, ?_⟩) hHeld ?_ ?_
  rotate_left
  · rintro w' ⟨s0, s1, s2, s3, s4, s5, s6, s7⟩
    go_simp
    with_reducible rfl
  rotate_left
  · simp only [Act.put, List.setIfInBounds_toArray, List.set_cons_zero, List.set_cons_succ, i64_w, i32_w]
    rfl
  refine take_ (i := 4) (N := some 37) (v := ?_) (a' := ?_) #[true, true, true, true, true, false, false, false, false] rfl rfl (take_ofW HT_.out HW_.out (by kernel_rfl)) (fun c_ a_ w_ h_ => HQP.out c_ _ a_ w_ (by rfl) h_) (Or.inl ⟨by rfl, ?_⟩) hHeld ?_ ?_
  rotate_left
  · rintro w' ⟨s0, s1, s2, s3, s4, s5, s6, s7⟩
    go_simp
    with_reducible rfl
  rotate_left
  · simp only [Act.put, List.setIfInBounds_toArray, List.set_cons_zero, List.set_cons_succ, i64_w, i32_w]
    rfl
  refine on 5 (fun K hK => ?_)
  refine goesV_ HG1.out HG2.out HG3.out #[.agg #[.int .i64 ((rd_T67 l3_0 a1).f2.f0), .int .i64 ((rd_T67 l3_0 a1).f2.f1)]] (by rfl) rfl rfl rfl (by (try simp only [List.map_toArray, List.map_cons, List.map_nil]); first | done | rfl | (simp only [List.length_drop, List.length_take]; rfl)) ?_
  with_reducible refine (HOF.out _).mono ?_
  rintro e w27 ⟨rfl, hb⟩
  refine ⟨_, rfl, ?_⟩
  replace HO0 := rb HO0 hb
  replace BK3 := bb BK3 hb
  replace BK4 := bb BK4 hb
  replace BK102 := bb BK102 hb
  replace BK104 := bb BK104 hb
  replace HK := Aside0.mk (Kept.below (S := (fun k_ => P0_ k_)) (by repeat (first | (with_reducible first | exact HK.out | apply Kept.alloc | apply Kept.drewN | apply Kept.drew | refine Kept.setCell ?_ (.inr GW3.out) _ | refine Kept.setCell ?_ (.inr GW4.out) _ | refine Kept.setCell ?_ (.inr GW102.out) _ | refine Kept.setCell ?_ (.inr GW104.out) _) | exact HK.out)) hb)
  replace HB := bs HB hb
  (try clear hb)
  (try clear hb2)
  (try clear hk)
  (try clear hi)
  refine hK.out _ _ ⟨(blk_cell BK104.out 0).trans rfl, (blk_cell BK104.out 1).trans rfl, (blk_cell BK104.out 2).trans rfl, (blk_cell BK4.out 0).trans rfl, (blk_cell BK102.out 0).trans rfl, (blk_cell BK102.out 1).trans rfl, (blk_cell BK102.out 2).trans rfl, (blk_cell BK102.out 3).trans rfl⟩ (fun hHeld => ?_)
  clear hK K
  refine norm_ (a' := ?_) ?_ ?_
  rotate_left
  · show Act.put _ (some 38) _ = _
    simp only [Act.put, List.setIfInBounds_toArray, List.set_cons_zero, List.set_cons_succ, i64_w, i32_w]
    rfl
  refine pure_ (i := 6) (N := some 39) (v := ?_) (a' := ?_) #[true, true, true, true, true, true, true, false, false] rfl rfl (any_of HT_.out (by kernel_rfl)) (fun c_ a_ w_ h_ => HQP.out c_ _ a_ w_ (by rfl) h_) (Or.inl ⟨by rfl, ?_⟩) ?_ ?_
  rotate_left
  · intro w'
    go_simp
    with_reducible rfl
  rotate_left
  · simp only [Act.put, List.setIfInBounds_toArray, List.set_cons_zero, List.set_cons_succ, i64_w, i32_w]
    rfl
  refine pure_ (i := 7) (N := some 40) (v := ?_) (a' := ?_) #[true, true, true, true, true, true, true, true, false] rfl rfl (any_of HT_.out (by kernel_rfl)) (fun c_ a_ w_ h_ => HQP.out c_ _ a_ w_ (by rfl) h_) (Or.inl ⟨by rfl, ?_⟩) ?_ ?_
  rotate_left
  · intro w'
    go_simp
    with_reducible rfl
  rotate_left
  · simp only [Act.put, List.setIfInBounds_toArray, List.set_cons_zero, List.set_cons_succ, i64_w, i32_w]
    rfl
  refine last_ (i := 8) (N := none) #[true, true, true, true, true, true, true, true, true] rfl rfl (one_of HT_.out (by kernel_rfl)) (by decide) (fun K hK => ?_)
  have hs28 : w27.cell? ⟨gb104, 2, none⟩ = some (.int .i64 0) := (blk_cell BK104.out 2).trans rfl
  have hfs28 := blk_frozen BK104.out 2
  have hns28_0 := NB3_104.out
  have hns28_1 := NB4_104.out
  have hns28_2 := NB102_104.out
  have hms28_0 := NB104_3.out
  have hms28_1 := NB104_4.out
  have hms28_2 := NB104_102.out
  refine skip_ (w1 := ?_) (by rfl) rfl ?_ ?_
  rotate_left
  · go_simp
    rfl
  refine hK.out _ _ ?_
  clear hK K
  refine done_ (done_of HT_.out (by kernel_rfl)) ?_
  have n0_ : Aside0 (Kd.R (Kd.int .i64) 3 (w27.setCell ⟨gb104, 2, none⟩ (.int .i64 (wrap64 ((ji9) + t105)))) w0.heap.size (fun k_ => (P0_ k_ ∨ w.heap.size ≤ k_)) (.slice (some ad103) l0.length co20) l0) := ⟨by (with_reducible repeat (first | apply Kd.R_alloc | apply Kd.R_drewN | apply Kd.R_drew)); exact Kd.R_mono (Kd.R_far (p := ⟨gb104, 2, none⟩) (Kd.R_types HO0.out BK104.out (by decide)) (fun _ hk => hk.2) (.int .i64 (wrap64 ((ji9) + t105)))) (fun _ hk => hk.1)⟩
  have n1_ : Aside0 ((w27.setCell ⟨gb104, 2, none⟩ (.int .i64 (wrap64 ((ji9) + t105)))).heap[B3]? = some (.cells #[.slice (some ad101) l3_0.length c3_0, .slice A3_1 l3_1.length c3_1] 99 (0, 0))) := ⟨by refine pB ?_; refine blk_far ?_ NB3_104.out _; (with_reducible repeat (first | refine blk_drewN ?_ _ | refine blk_drew ?_ | refine blk_alloc ?_ _)); exact BK3.out⟩
  have n2_ : Aside0 ((w27.setCell ⟨gb104, 2, none⟩ (.int .i64 (wrap64 ((ji9) + t105)))).heap[B4]? = some (.cells #[.func (.func g) #[] #[]] 135 (0, 0))) := ⟨by refine pB ?_; refine blk_far ?_ NB4_104.out _; (with_reducible repeat (first | refine blk_drewN ?_ _ | refine blk_drew ?_ | refine blk_alloc ?_ _)); exact BK4.out⟩
  have n3_ : Aside0 ((w27.setCell ⟨gb104, 2, none⟩ (.int .i64 (wrap64 ((ji9) + t105)))).heap[gb102]? = some (.cells #[.int .i64 ((rd_T67 l3_0 a1).f0), .int .i64 ((rd_T67 l3_0 a1).f1), .int .i64 ((rd_T67 l3_0 a1).f2.f0), .int .i64 ((rd_T67 l3_0 a1).f2.f1)] 67 (0, 0))) := ⟨by refine pB ?_; refine blk_far ?_ NB102_104.out _; (with_reducible repeat (first | refine blk_drewN ?_ _ | refine blk_drew ?_ | refine blk_alloc ?_ _)); exact BK102.out⟩
  have n4_ : Aside0 ((w27.setCell ⟨gb104, 2, none⟩ (.int .i64 (wrap64 ((ji9) + t105)))).heap[gb104]? = some (.cells #[.int .i64 a1, .int .i64 ji9, .int .i64 (wrap64 ((ji9) + t105))] 107 (0, 0))) := ⟨by refine pB ?_; refine blk_put (cs := #[.int .i64 a1, .int .i64 ji9, .int .i64 0]) ?_ 2 _ rfl; (with_reducible repeat (first | refine blk_drewN ?_ _ | refine blk_drew ?_ | refine blk_alloc ?_ _)); exact BK104.out⟩
  have n5_ : Aside0 (Kept w (w27.setCell ⟨gb104, 2, none⟩ (.int .i64 (wrap64 ((ji9) + t105)))) (fun k_ => P0_ k_)) := ⟨by repeat (first | (with_reducible first | exact HK.out | apply Kept.alloc | apply Kept.drewN | apply Kept.drew | refine Kept.setCell ?_ (.inr GW3.out) _ | refine Kept.setCell ?_ (.inr GW4.out) _ | refine Kept.setCell ?_ (.inr GW102.out) _ | refine Kept.setCell ?_ (.inr GW104.out) _) | exact HK.out)⟩
  have n6_ : Aside0 (Below w0.heap.size w0 (w27.setCell ⟨gb104, 2, none⟩ (.int .i64 (wrap64 ((ji9) + t105))))) := ⟨pE HB⟩
  (try clear HO0)
  (try clear BK3)
  (try clear BK4)
  (try clear BK102)
  (try clear BK104)
  (try clear HK)
  (try clear HB)
  generalize (w27.setCell ⟨gb104, 2, none⟩ (.int .i64 (wrap64 ((ji9) + t105)))) = w29 at n0_ n1_ n2_ n3_ n4_ n5_ n6_ ⊢
  have HO0 := n0_
  have BK3 := n1_
  have BK4 := n2_
  have BK102 := n3_
  have BK104 := n4_
  have HK := n5_
  have HB := n6_
  clear n0_ n1_ n2_ n3_ n4_ n5_ n6_
  have hnb30 := NB104_3.out
  have hnc30 := NB3_104.out
  have hnb31 := NB104_4.out
  have hnc31 := NB4_104.out
  have hnb32 := NB104_102.out
  have hnc32 := NB102_104.out
  have hcz33_0 := cz0 BK104
  have hcz33_1 := cz1 BK104
  have hcz33_2 : w29.cell? ⟨gb104, 2, none⟩ = some (.int .i64 (wrap64 ((ji9) + t105))) := (blk_cell BK104.out 2).trans rfl
  have hfz33_0 := blk_frozen BK104.out 0
  have hfz33_1 := blk_frozen BK104.out 1
  have hfz33_2 := blk_frozen BK104.out 2
  have p11 : 0 ≤ (0 : Int) := (by omega)
  have q11 : (0 : Int) < ((l0.length : Int) : Int) := dT
  have qi11 : (0 < l0.length) = True := eq_true (by omega)
  obtain ⟨go11, co11, eo11, gb11, gl11, cl11, HG11⟩ := Kd.R_form HO0.out (by omega)
  (first | cases eo11 | (injection eo11 with ea_ en_ ec_; (first | subst ea_ | (injection ea_ with ea_; subst ea_)); subst ec_; clear en_))
  have GB11 := Aside0.mk gb11
  have GG11 := Aside0.mk HG11
  clear gb11 gl11 HG11
  have HMgo11 := Aside0.mk (show (P0_ go11 ∨ w.heap.size ≤ go11) from (HO0.out.1 _ rfl))
  (first | simp only [add_plain] at hx103_0 | skip)
  obtain ⟨hx11_0, hf11_0⟩ := Kd.R_celln 0 HO0.out (0 : Int) p11 q11
  (try rw [show ((0 : Int)).toNat = 0 from rfl] at hx11_0)
  (try simp only [Nat.reduceMul, Nat.zero_mul, Nat.zero_add, Nat.reduceAdd] at hx11_0)
  (try rw [show ((0 : Int)).toNat = 0 from rfl] at hf11_0)
  (try simp only [Nat.reduceMul, Nat.zero_mul, Nat.zero_add, Nat.reduceAdd] at hf11_0)
  replace p11 := eq_true p11
  replace q11 := eq_true q11
  obtain ⟨hy34_, hz34_⟩ := Kd.R_celln 0 HO0.out (0 : Int) (by omega) (dT)
  (try simp only [Int.reduceToNat, Int.toNat_zero, Int.toNat_ofNat, Nat.reduceMul, Nat.zero_mul, Nat.zero_add] at hy34_ hz34_)
  (try rw [show ((0 : Int)).toNat = 0 from rfl] at hy34_)
  (try rw [show ((0 : Int)).toNat = 0 from rfl] at hz34_)
  have HP34 := Kd.R_putg HO0.out (0 : Int) (wrap64 ((ji9) + t105))
  go_wp2_with (first | ((with_reducible refine gate_store (t := 3) (p := 44) rfl ?_); refine store_event (t := 3) (p := 44) (v := ?vo_w35) (w1 := (w29.setCell ⟨go11, (0 : Int).toNat, none⟩ (.int .i64 (wrap64 ((ji9) + t105))))) ?hg ?ho ?hn ?hr ?_; (case ho => rfl); (case hg => rfl); (case hn => rfl); (case hr => first | (go_simp; done) | (go_simp; rfl)); intro w35 hw; have hg : w29.grownBy w35 (some go11) := (by rw [hw]; exact HP34.2); have hp_ : Kd.R (Kd.int .i64) 3 w35 w0.heap.size (fun k_ => (P0_ k_ ∨ w.heap.size ≤ k_)) (.slice (some ⟨go11, 0, none⟩) l0.length co20) y106 := (by rw [hw, Ny106.out]; exact HP34.1); clear HP34; replace BK3 := Aside0.mk (blk_grown (g := B3) (o := .cells #[.slice (some ad101) l3_0.length c3_0, .slice A3_1 l3_1.length c3_1] 99 (0, 0)) (pB BK3.out) hg (Kd.R_ne HO0.out BK3.out (by decide))); replace BK4 := Aside0.mk (blk_grown (g := B4) (o := .cells #[.func (.func g) #[] #[]] 135 (0, 0)) (pB BK4.out) hg (Kd.R_ne HO0.out BK4.out (by decide))); replace BK102 := Aside0.mk (blk_grown (g := gb102) (o := .cells #[.int .i64 ((rd_T67 l3_0 a1).f0), .int .i64 ((rd_T67 l3_0 a1).f1), .int .i64 ((rd_T67 l3_0 a1).f2.f0), .int .i64 ((rd_T67 l3_0 a1).f2.f1)] 67 (0, 0)) (pB BK102.out) hg (Kd.R_ne HO0.out BK102.out (by decide))); replace BK104 := Aside0.mk (blk_grown (g := gb104) (o := .cells #[.int .i64 a1, .int .i64 ji9, .int .i64 (wrap64 ((ji9) + t105))] 107 (0, 0)) (pB BK104.out) hg (Kd.R_ne HO0.out BK104.out (by decide))); replace HB := Aside0.mk ((by rw [hw]; exact below_set (HB.out) GB11.out : Below w0.heap.size w0 w35)); replace HK := Aside0.mk (Kept.of_grown (S := (fun k_ => P0_ k_)) hg (by repeat (first | (with_reducible first | exact HK.out | apply Kept.alloc | apply Kept.drewN | apply Kept.drew | refine Kept.setCell ?_ (.inr GW3.out) _ | refine Kept.setCell ?_ (.inr GW4.out) _ | refine Kept.setCell ?_ (.inr GW102.out) _ | refine Kept.setCell ?_ (.inr GW104.out) _) | exact HK.out)) (fun k_ e_ => (HO0.out.1 k_ e_))); replace HO0 := Aside0.mk (hp_); clear hg hw hp_; have hcz36_0 := cz0 BK104; have hcz36_1 := cz1 BK104; have hcz36_2 : w35.cell? ⟨gb104, 2, none⟩ = some (.int .i64 (wrap64 ((ji9) + t105))) := (blk_cell BK104.out 2).trans rfl; have hfz36_0 := blk_frozen BK104.out 0; have hfz36_1 := blk_frozen BK104.out 1; have hfz36_2 := blk_frozen BK104.out 2) | (with_reducible refine regW_lit_ ?_) | gi_step)
  refine HQ.out gb104 _ _ _ _ _ _ _ _ _ _ _ _ _ _ _ _ _ _ _ _ _ _ _ _ _ _ _ _ ⟨?t, ?ge, ?row, ?bel, ?kept⟩
  case t => rw [hji9]; exact BK104.out
  case ge => first | exact GW104.out | (rcases GW104.out with h_ | h_; exact h_) | exact Nat.le_trans HW0.out GE104.out
  case row => rw [hji9]; have h_ := HO0.out; rw [Ny106.out] at h_; exact h_
  case bel => exact HB.out
  case kept => exact HK.out
end Go.Proofs.YtlmglnobdcgbeaaGreat.P
namespace Go.Proofs.YtlmglnobdcgbeaaGreat.P
open Go.RowKit Go.Shelf Go.Proofs.YtlmglnobdcgbeaaGreatW.PrintWords Go.Proofs.YtlmglnobdcgbeaaGreatW.PrintLast Go.Proofs.YtlmglnobdcgbeaaGreatW.PrintMore Go.Proofs.YtlmglnobdcgbeaaGreat.R
def takenT (cl : List S67) (fr : List Int) (x : Int) : Int := mx ((rd_T67 cl x).f1) (rd fr 0)
def doneT (of : Int → Int → Int) (cl : List S67) (fr : List Int) (x : Int) : Int := wrap64 (takenT cl fr x + of ((rd_T67 cl x).f2.f0) ((rd_T67 cl x).f2.f1))
def freeT (of : Int → Int → Int) (cl : List S67) : List Int → List Int → List Int
  | fr, [] => fr
  | fr, x :: xs => freeT of cl (srt (fr.set 0 (doneT of cl fr x))) xs
def runT (of : Int → Int → Int) (cl : List S67) : List Int → List Int → List (Int × Int × Int)
  | _, [] => []
  | fr, x :: xs => (x, takenT cl fr x, doneT of cl fr x) :: runT of cl (srt (fr.set 0 (doneT of cl fr x))) xs
theorem freeT_len (of : Int → Int → Int) (cl : List S67) : ∀ (xs fr : List Int), (freeT of cl fr xs).length = fr.length
  | [], _ => rfl
  | x :: xs, fr => by rw [freeT, freeT_len of cl xs]; simp [srt_length]
theorem runT_len (of : Int → Int → Int) (cl : List S67) : ∀ (xs fr : List Int), (runT of cl fr xs).length = xs.length
  | [], _ => rfl
  | x :: xs, fr => by rw [runT, List.length_cons, runT_len of cl xs]; rfl
theorem runT_at (of : Int → Int → Int) (cl : List S67) : ∀ (xs fr : List Int) (k : Nat) (h : k < xs.length), (runT of cl fr xs)[k]? = some (xs[k], takenT cl (freeT of cl fr (xs.take k)) xs[k], doneT of cl (freeT of cl fr (xs.take k)) xs[k])
  | [], _, _, h => by simp at h
  | x :: xs, fr, 0, h => rfl
  | x :: xs, fr, k + 1, h => by
    have := runT_at of cl xs (srt (fr.set 0 (doneT of cl fr x))) k (by simpa using h)
    simpa [runT, freeT] using this
theorem freeT_snoc (of : Int → Int → Int) (cl : List S67) : ∀ (xs fr : List Int) (x : Int), freeT of cl fr (xs ++ [x]) = srt ((freeT of cl fr xs).set 0 (doneT of cl (freeT of cl fr xs) x))
  | [], _, _ => rfl
  | y :: xs, fr, x => freeT_snoc of cl xs _ x
theorem freeT_next (of : Int → Int → Int) (cl : List S67) (xs fr : List Int) (k : Nat) (h : k < xs.length) : freeT of cl fr (xs.take (k + 1)) = srt ((freeT of cl fr (xs.take k)).set 0 (doneT of cl (freeT of cl fr (xs.take k)) xs[k])) := by
  rw [List.take_succ_eq_append_getElem h, freeT_snoc]
def RvT (x : Int × Int × Int) (vs : Array Value) (W : World) : Prop := vs = #[.agg #[.int .i64 x.1, .int .i64 x.2.1, .int .i64 x.2.2]]
structure CapT (B1 B2 B3 B4 : Nat) (m : Nat) (A2 : Option Addr) (c2 : Nat) (ord : List Int) (A3 : Option Addr) (c3 : Nat) (cl : List S67) (A4 : Option Addr) (c4 : Nat) (rk : List Int) (g : FuncId) (W : World) : Prop where
  b1 : W.heap[B1]? = some (.cells #[.int .i64 (m : Int)] 3 (0, 0))
  b2 : W.heap[B2]? = some (.cells #[.slice A2 ord.length c2] 23 (0, 0))
  b3 : W.heap[B3]? = some (.cells #[.slice A3 cl.length c3, .slice A4 rk.length c4] 99 (0, 0))
  b4 : W.heap[B4]? = some (.cells #[.func (.func g) #[] #[]] 135 (0, 0))
  r2 : Kd.C (Kd.int .i64) W A2 ord.length ord
  r3 : Kd.C k67 W A3 cl.length cl
theorem trunc (W : World) (b : Nat) (h : b ≤ W.heap.size) : ∃ w0 : World, w0.heap.size = b ∧ Below w0.heap.size w0 W := by
  refine ⟨{ W with heap := W.heap.extract 0 b }, by simp; omega, rfl, rfl, rfl, by simp; omega, fun k hk => ?_⟩
  have hk' : k < b := by simp at hk; omega
  show W.heap[k]? = (W.heap.extract 0 b)[k]?
  rw [Array.getElem?_extract]
  simp [hk']; omega
theorem R_keepb {W W' : World} {b g n c : Nat} {ok ok' : Nat → Prop} {xs : List Int} (h : Kd.R (Kd.int .i64) 3 W b ok (.slice (some ⟨g, 0, none⟩) n c) xs) (hs : W'.heap[g]? = W.heap[g]?) (ho : ok' g) : Kd.R (Kd.int .i64) 3 W' b ok' (.slice (some ⟨g, 0, none⟩) n c) xs := by
  refine Kd.R_mono (Kd.R_move (Kd.R_tight rfl h) fun k hk => ?_) (fun k hk => ?_)
  · have e : k = g := by simpa [Value.ownBlock] using hk
    subst e; exact hs
  · have e : k = g := by simpa [Value.ownBlock] using hk
    subst e; exact ho
structure Stopped (p : Prop) : Prop where
  out : p
theorem stop_ (k : Nat) {F : Fence} {n : Nat} {P : Program} {Q : Exit → Act → World → Prop} {a : Act} {w : World} {ops : Array Oper} {d : Bool} {c : Code} (h : Stopped ((Code.seq (Code.region k ops d) c).wpIn F n P Q a w)) : (Code.seq (Code.region k ops d) c).wpIn F n P Q a w := h.out
theorem made_form {w1 : World} {b b0 m : Nat} {v : Value} (ho : Kd.R (Kd.int .i64) 3 w1 b (fun k_ => k_ = b0) v (List.replicate m 0)) (hm : 1 ≤ m) : ∃ cp, v = .slice (some ⟨b0, 0, none⟩) m cp ∧ b0 + 1 ≤ w1.heap.size := by
  rcases R_block ho with ⟨_, h2⟩ | ⟨g, cap, cur, h1, h2, h3, _⟩
  · have := congrArg List.length h2; simp at this; omega
  · have e : g = b0 := ho.1 g (by rw [h1]; rfl)
    subst e
    rw [List.length_replicate] at h1
    exact ⟨cap, h1, (Array.getElem?_eq_some_iff.1 h3).1⟩
set_option maxHeartbeats 16000000 in
set_option maxRecDepth 100000 in
theorem turns_iter (of : Int → Int → Int) (B1 B2 B3 B4 m : Nat) (A2 : Option Addr) (c2 : Nat) (ord : List Int) (A3 : Option Addr) (c3 : Nat) (cl : List S67) (A4 : Option Addr) (c4 : Nat) (rk : List Int) (g : FuncId) (fng : Func) (n : Nat) (w : World) (Ex E : Nat → Prop)
    (hg1 : Tryz.prog.funcs[g]? = some fng) (hg2 : (fng.name == "runtime.NumGoroutine") = false) (hg3 : fng.body.isSome = true)
    (hof : ∀ x y W_, Calls Tryz.prog g #[.agg #[.int .i64 x, .int .i64 y]] W_ fun e w' => e = .returned (.int .i64 (of x y)) ∧ Below W_.heap.size W_ w')
    (hm : 1 ≤ m) (hm2 : m ≤ 1000) (hin : ∀ x ∈ ord, 0 ≤ x ∧ x < (cl.length : Int)) (n34 : B3 ≠ B4) (hE : E 0)
    (hC : ∀ W', w.heap.size ≤ W'.heap.size → (∀ k, k < w.heap.size → ¬ Ex k → W'.heap[k]? = w.heap[k]?) → CapT B1 B2 B3 B4 m A2 c2 ord A3 c3 cl A4 c4 rk g W') :
    IterC Fence.wide n Tryz.prog 99 #[.pointer (some ⟨B1, 0, none⟩), .pointer (some ⟨B2, 0, none⟩), .pointer (some ⟨B3, 0, none⟩), .pointer (some ⟨B4, 0, none⟩)] (runT of cl (List.replicate m 0) ord) RvT Ex 1 E w := by
  intro l J Jx W hW hJ hJx hY h0
  have hcap := hC W hW.size (fun k hk _ => hW.block k hk)
  have hbig : ord.length ≤ 9223372036854775807 := hcap.r2.2.1
  have hc1 : W.cell? ⟨B1, 0, none⟩ = some (.int .i64 (m : Int)) := (blk_cell hcap.b1 0).trans rfl
  have hc2 : W.cell? ⟨B2, 0, none⟩ = some (.slice A2 ord.length c2) := (blk_cell hcap.b2 0).trans rfl
  have hB1l := (Array.getElem?_eq_some_iff.1 hcap.b1).1
  have hB2l := (Array.getElem?_eq_some_iff.1 hcap.b2).1
  have hB3l := (Array.getElem?_eq_some_iff.1 hcap.b3).1
  have hB4l := (Array.getElem?_eq_some_iff.1 hcap.b4).1
  have HC := Aside0.mk hC
  have HJ := Aside0.mk hJ
  have HJx := Aside0.mk hJx
  have HY := Aside0.mk hY
  have HW := Aside0.mk hW
  have HOF := Aside0.mk hof
  have HIN := Aside0.mk hin
  have HCAP := Aside0.mk hcap
  clear hC hJ hJx hY hcap hW hof hin
  obtain ⟨b0, hb0⟩ : ∃ b0, W.heap.size = b0 := ⟨_, rfl⟩
  have hmi : (0 : Int) ≤ (m : Int) := by omega
  have HM := Aside0.mk (show (m : Int).toNat = m from Int.toNat_natCast m)
  refine callsIn_of_wp Tryz.func99 rfl trivial ?_ rfl
  simp only [Tryz.ntmps99, List.size_toArray, List.length_cons, List.length_nil, Nat.reduceAdd, Nat.reduceSub, Array.replicate_succ, Array.replicate_zero, List.push_toArray, List.append_toArray, List.nil_append, List.cons_append]
  go_wp2_with (first
    | ((with_reducible refine gate_dst (N := 12) rfl ?_); refine Kd.R_make (Kd.int .i64) _ 3 rfl (N := 12) rfl 23 _ _ rfl (m : Int) rfl rfl Tryz.underlying23 (.int .i64 0) 8 info3 rfl (by decide) (by omega) 0 (w0 := W) (ok := fun k_ => k_ = b0) (okp := fun _ => False) rfl (fun _ hk => hk.elim) hb0 hmi (by rw [HM.out]; omega) (Below.refl _ _) (Nat.le_refl _) ?_; intro vfr w1 ho1 hb1 hg_ hnew_; clear hg_ hnew_
       rw [HM.out] at ho1
       obtain ⟨cp, rfl, hs1⟩ := made_form ho1 hm
       have hc2' : w1.cell? ⟨B2, 0, none⟩ = some (.slice A2 ord.length c2) := (blk_cell ((hb1.block B2 hB2l).trans HCAP.out.b2) 0).trans rfl
       have hJ1 : J 0 w1 := HJ.out 0 W w1 h0 (IStep.of_below hb1)
       have HB1 := Aside0.mk hb1
       have HO1 := Aside0.mk ho1
       clear hb1 ho1 h0)
    | (with_reducible refine regW_lit_ ?_) | gi_step)
  gi_loopw [15] (fun i wr => ∃ k : Nat, k ≤ ord.length ∧ i = .int .i64 k ∧ J k wr ∧ Aside0 (b0 + 1 ≤ wr.heap.size) ∧ Aside0 (∀ j, j < w.heap.size → ¬ Ex j → wr.heap[j]? = w.heap[j]?) ∧ Aside0 (Kd.R (Kd.int .i64) 3 wr b0 (fun k_ => k_ = b0) (.slice (some ⟨b0, 0, none⟩) m cp) (freeT of cl (List.replicate m 0) (ord.take k))))
    (fun i _ => ord.length - (intOf i).toNat)
  case atStart =>
    refine ⟨0, Nat.zero_le _, rfl, hJ1, ⟨hs1⟩, ⟨fun j hj hx => ?_⟩, ⟨?_⟩⟩
    · have hjW : j < W.heap.size := Nat.lt_of_lt_of_le hj HW.out.size
      exact (HB1.out.block j hjW).trans (HW.out.block j hj)
    · have h_ := HO1.out
      rw [hb0] at h_
      exact h_
  case round =>
    obtain ⟨k, hk, rfl, hJs, HS, HK, HF⟩ := hrel
    clear HO1 HB1 hJ1 hs1 hc1 hc2'
    by_cases hlt : k < ord.length
    · have hcapr := HC.out wr (Nat.le_trans HW.out.size (by rw [hb0]; have := HS.out; omega)) HK.out
      obtain ⟨ad, rfl, hcell⟩ := Kd.at_int hcapr.r2 (k : Int) (by omega) (by omega)
      rw [Int.toNat_natCast] at hcell
      have hrd : rd ord (k : Int) = ord[k] := by simp [rd, List.getD_eq_getElem?_getD, List.getElem?_eq_getElem hlt]
      rw [hrd] at hcell
      have hxi := HIN.out ord[k] (List.getElem_mem hlt)
      have hrun := runT_at of cl ord (List.replicate m 0) k hlt
      have hnext := freeT_next of cl ord (List.replicate m 0) k hlt
      have hfl : (freeT of cl (List.replicate m 0) (ord.take k)).length = m := by rw [freeT_len]; simp
      obtain ⟨w0, hw0, hbw0⟩ := trunc wr b0 (by have := HS.out; omega)
      have hF' : Kd.R (Kd.int .i64) 3 wr w0.heap.size (fun k_ => k_ = b0) (.slice (some ⟨b0, 0, none⟩) m cp) (freeT of cl (List.replicate m 0) (ord.take k)) := by rw [hw0]; exact HF.out
      generalize freeT of cl (List.replicate m 0) (ord.take k) = fr at hrun hnext hfl hF' HF
      generalize ord[k] = x at hcell hrun hnext hxi
      have HCR := Aside0.mk hcapr
      have HRUN := Aside0.mk hrun
      have HNEXT := Aside0.mk hnext
      have HFL := Aside0.mk hfl
      have HW0 := Aside0.mk hw0
      have HBW0 := Aside0.mk hbw0
      have HF2 := Aside0.mk hF'
      have HX := Aside0.mk hxi
      clear hcapr hrun hnext hfl hw0 hbw0 hF' hxi hrd
      go_wp2_with (first
        | (with_reducible refine stop_ 4 ?_)
        | (with_reducible refine regW_lit_ ?_) | gi_step)
      refine ⟨turn_round (fun k_ => k_ = b0) (.slice (some ⟨b0, 0, none⟩) m cp) fr x B3 A3 c3 cl A4 c4 rk B4 g fng w0 wr HBW0.out HF2.out HCR.out.b3 HCR.out.r3 HCR.out.b4 n34 hg1 hg2 hg3 (of ((rd_T67 cl x).f2.f0) ((rd_T67 cl x).f2.f1)) (fun W_ => HOF.out _ _ W_) HX.out.1 HX.out.2 ?c8 _ _ _ _ _ _ _ _ _ _ _ _ _ _ _ _ _ _ _ _ _ _ _ _ _ _ _ _ _ _ _ _ _ _ _ _ _ _ _ _ _ _ _ _ _ _ _ _ [] _ _ _ _ _ ?hc ?hqp ?hq⟩
      case c8 => have := HFL.out; omega
      case hc => kernel_rfl
      case hqp =>
        intro c_ a1_ a2_ w_ e_ h_
        cases a1_
        cases a2_
        cases e_
        exact h_
      case hq =>
        intro g10 w2 z9 z19 z20 z21 z22 z23 z24 z25 z26 z27 z28 z29 z30 z31 z32 z33 z34 z35 z36 z37 z38 z39 z40 z41 z42 z43 z44 hd
        have hdn : wrap64 (mx (rd_T67 cl x).f1 (rd fr 0) + of (rd_T67 cl x).f2.f0 (rd_T67 cl x).f2.f1) = doneT of cl fr x := rfl
        have htk : mx (rd_T67 cl x).f1 (rd fr 0) = takenT cl fr x := rfl
        rw [hdn, htk] at hd
        generalize doneT of cl fr x = dn at hd HRUN HNEXT
        generalize takenT cl fr x = tk at hd HRUN
        obtain ⟨t1, t2, t3, t4, t5⟩ := hd
        have ht3 : Kd.R (Kd.int .i64) 3 w2 b0 (fun _ => True) (.slice (some ⟨b0, 0, none⟩) m cp) (fr.set 0 dn) := by rw [HW0.out] at t3; exact Kd.R_mono t3 (fun _ _ => trivial)
        have hsrt := sort_calls ht3 (by rw [List.length_set, HFL.out]; omega)
        rw [HNEXT.out.symm] at hsrt
        have HSRT := Aside0.mk hsrt
        have T1 := Aside0.mk t1
        have T2 := Aside0.mk t2
        have T4 := Aside0.mk t4
        have T5 := Aside0.mk t5
        clear hsrt t1 t2 t3 t4 t5 ht3 htk hdn
        have hu107 := Tryz.underlying107
        go_wp2_with (first
          | (go_at_call 100; refine HSRT.out.mono ?_; rintro e w3 ⟨rfl, hr3, hg3⟩)
          | (with_reducible refine stop_ 9 ?_)
          | (with_reducible refine regW_lit_ ?_) | gi_step)
        have hgb : w3.heap[g10]? = some (.cells #[.int .i64 x, .int .i64 tk, .int .i64 dn] 107 (0, 0)) := (hg3.block g10 (Array.getElem?_eq_some_iff.1 T1.out).1 (fun e_ => by have h1_ := T2.out; have h2_ := HS.out; have e2 : g10 = b0 := (by simpa [Value.ownBlock] using e_); omega)).trans T1.out
        have hz0 : w3.cell? ⟨g10, 0, none⟩ = some (.int .i64 x) := (blk_cell hgb 0).trans rfl
        have hz1 : w3.cell? ⟨g10, 1, none⟩ = some (.int .i64 tk) := (blk_cell hgb 1).trans rfl
        have hz2 : w3.cell? ⟨g10, 2, none⟩ = some (.int .i64 dn) := (blk_cell hgb 2).trans rfl
        have hsz2 : wr.heap.size ≤ w2.heap.size := T5.out.1
        have hsame : ∀ j, j < wr.heap.size → j ≠ b0 → w3.heap[j]? = wr.heap[j]? := fun j hj hne => (hg3.block j (by omega) (fun e_ => hne (by simpa [Value.ownBlock] using e_))).trans (T5.out.2 j hj hne)
        have hst : IStep W.heap.size W.heap.size 1 wr w3 := ⟨hg3.os.trans (T4.out.os.trans HBW0.out.os.symm), hg3.tape.trans (T4.out.tape.trans HBW0.out.tape.symm), hg3.output.trans (T4.out.output.trans HBW0.out.output.symm), Nat.le_trans hsz2 hg3.size, fun j o ho h1 _ => (hsame j (Array.getElem?_eq_some_iff.1 ho).1 (by omega)).trans ho⟩
        have hsz3 := hg3.size
        obtain ⟨fn, tmps, assign, body, hy, hR⟩ := HY.out k (x, tk, dn) #[.agg #[.int .i64 x, .int .i64 tk, .int .i64 dn]] w3 HRUN.out (HJ.out k wr w3 hJs hst) rfl (by have := HS.out; omega)
        have HR := Aside0.mk hR
        have HR3 := Aside0.mk hr3
        have HSM := Aside0.mk hsame
        have HZ3 := Aside0.mk (Nat.le_trans hsz2 hsz3)
        clear hR hr3 hsame hst hg3 hgb hsz2 hsz3
        refine ⟨?_⟩
        gi_wp2
        refine ⟨fun h0_ => (by cases h0_), HR.out.mono ?_⟩
        rintro e W3 (⟨rfl, hJ3, hk3⟩ | ⟨rfl, hJx3, hk3⟩)
        · have H3 := Aside0.mk hk3
          clear hk3
          gi_wp2
          go_roundw
          case rel =>
            refine ⟨k + 1, by omega, by simp, hJ3, ⟨?_⟩, ⟨fun j hj hx => ?_⟩, ⟨?_⟩⟩
            · have h1_ := H3.out.size; have h2_ := HZ3.out; have h3_ := HS.out; omega
            · have hjr : j < wr.heap.size := by have h1_ := HW.out.size; have h2_ := HS.out; omega
              exact (H3.out.same j (by have h1_ := HZ3.out; omega) (.inl ⟨hj, hx⟩)).trans ((HSM.out j hjr (by have h1_ := HW.out.size; omega)).trans (HK.out j hj hx))
            · exact R_keepb HR3.out (H3.out.same b0 (by have h1_ := HZ3.out; have h2_ := HS.out; omega) (.inr ⟨by omega, by rw [hb0, Nat.sub_self]; exact hE⟩)) rfl
          case measure => simp [intOf]; omega
        · clear hk3
          gi_wp2
          refine bodyPost_ret (results_none rfl _ _ _) rfl ?_
          refine ⟨⟨_, rfl⟩, .inr ⟨_, ?_, hJx3⟩⟩
          rw [runT_len]; omega
    · obtain rfl : k = ord.length := by omega
      gi_wp2
      go_end0
      refine ⟨⟨_, rfl⟩, .inl ?_⟩
      rw [runT_len]
      exact hJs
set_option maxHeartbeats 1000000 in
theorem turns_calls (A3 : Option Addr) (n3 c3 : Nat) (A4 : Option Addr) (n4 c4 : Nat) (A2 : Option Addr) (n2 c2 : Nat) (m : Int) (g : FuncId) (w : World) :
    Calls Tryz.prog 65 #[.agg #[.slice A3 n3 c3, .slice A4 n4 c4], .slice A2 n2 c2, .int .i64 m, .func (.func g) #[] #[]] w fun e w' =>
      e = .returned (.func (.func 99) #[] #[.pointer (some ⟨w.heap.size + 2, 0, none⟩), .pointer (some ⟨w.heap.size + 1, 0, none⟩), .pointer (some ⟨w.heap.size, 0, none⟩), .pointer (some ⟨w.heap.size + 3, 0, none⟩)]) ∧
      w' = (((w.alloc (.cells #[.slice A3 n3 c3, .slice A4 n4 c4] 99)).alloc (.cells #[.slice A2 n2 c2] 23)).alloc (.cells #[.int .i64 m] 3)).alloc (.cells #[.func (.func g) #[] #[]] 135) := by
  have hu1 := Tryz.underlying99
  have hu2 := Tryz.underlying25
  have hu3 := Tryz.underlying135
  go_enter Tryz.func65, Tryz.ntmps65
  go_wp2
  go_ret
  exact ⟨rfl, rfl⟩
theorem four_alloc (w : World) (o1 o2 o3 o4 : Obj) : let w' := (((w.alloc o1).alloc o2).alloc o3).alloc o4; Below w.heap.size w w' ∧ w'.heap.size = w.heap.size + 4 ∧ w'.heap[w.heap.size]? = some o1 ∧ w'.heap[w.heap.size + 1]? = some o2 ∧ w'.heap[w.heap.size + 2]? = some o3 ∧ w'.heap[w.heap.size + 3]? = some o4 := by
  intro w'
  have s1 : (w.alloc o1).heap.size = w.heap.size + 1 := World.size_alloc _ _
  have s2 : ((w.alloc o1).alloc o2).heap.size = w.heap.size + 2 := by rw [World.size_alloc, s1]
  have s3 : (((w.alloc o1).alloc o2).alloc o3).heap.size = w.heap.size + 3 := by rw [World.size_alloc, s2]
  have e1 := World.alloc_heap_new w o1
  have e2 := World.alloc_heap_new (w.alloc o1) o2
  have e3 := World.alloc_heap_new ((w.alloc o1).alloc o2) o3
  have e4 := World.alloc_heap_new (((w.alloc o1).alloc o2).alloc o3) o4
  rw [s1] at e2
  rw [s2] at e3
  rw [s3] at e4
  refine ⟨(((Below.refl _ w).alloc (Nat.le_refl _) _).alloc (by omega) _).alloc (by omega) _ |>.alloc (by omega) _, by show (World.alloc _ o4).heap.size = _; rw [World.size_alloc, s3], ?_, ?_, ?_, e4⟩
  · exact (Below.heap_alloc _ _ _ (by omega)).trans ((Below.heap_alloc _ _ _ (by omega)).trans ((Below.heap_alloc _ _ _ (by omega)).trans e1))
  · exact (Below.heap_alloc _ _ _ (by omega)).trans ((Below.heap_alloc _ _ _ (by omega)).trans e2)
  · exact (Below.heap_alloc _ _ _ (by omega)).trans e3
end Go.Proofs.YtlmglnobdcgbeaaGreat.P
namespace Go.Proofs.YtlmglnobdcgbeaaGreat.R
open Go.RowKit Go.Shelf YtlmglnobdcgbeaaGreatW.PrintWords YtlmglnobdcgbeaaGreatW.PrintLast YtlmglnobdcgbeaaGreatW.PrintMore
def last2Ok (ops : Array Oper) (y : Nat) : Bool :=
  ops.size == y + 2 &&
  ((List.range y).all fun i => Region.reachB .any ops i ops.size y && (match ops[i]? with | some o => ((match o.guard with | some (j, _) => j != y && j != y + 1 | none => true) && Op.noDefer o.op) && o.after.all (fun e => decide (e.on < i)) | none => true)) &&
  (match ops[y]?, ops[y + 1]? with | some oy, some oz => oy.guard.isNone && oz.guard.isNone && oy.after.all (fun e => decide (e.on < y)) && oz.after.all (fun e => decide (e.on < y + 1)) && oz.after.any (fun e => Region.binds .any e && e.on == y) | _, _ => false)
theorem anyIn_last2 {F : Fence} {n : Nat} {P : Program} {ops : Array Oper} {y : Nat} {oy oz : Oper} {Q : Exit → Act → World → Prop} (hF : Lifts F) (hFf : ∀ f, F.fn f) (hy : ops[y]? = some oy) (hz : ops[y + 1]? = some oz) (hok : last2Ok ops y = true)
    (ops' : Array Oper) (hs : ops'.size = ops.size) (hops : ∀ i, i < y → ops'[i]? = ops[i]?) (hyb : ops'[y]? = some (blank oy)) (hzb : ops'[y + 1]? = some (blank oz))
    (Q' : Exit → Act → World → Prop) (hQ' : ∀ a w, Q' .normal a w → oy.wpIn F n P a w (fun a w => oz.wpIn F n P a w (Q .normal) Q) Q) (hQp : ∀ c a w, Q' (.panic c) a w → Q (.panic c) a w) (hQ'o : ¬ LetsOut Q') :
    ∀ (fuel : Nat) (listed : Array Bool) (a : Act) (w : World), listed.size = ops.size → ListedClosed .any ops listed → listed.getD y true = false →
      wpAny P .any ops' Q' fuel listed a w → wpAnyIn F n P .any ops Q fuel listed a w := by
  unfold last2Ok at hok
  rw [hy, hz] at hok
  simp only [Bool.and_eq_true, beq_iff_eq] at hok
  obtain ⟨⟨hsize, hpre⟩, ⟨⟨⟨hgy, hgz⟩, hony⟩, honz⟩, hbind⟩ := hok
  have hgy' : oy.guard = none := by simpa using hgy
  have hgz' : oz.guard = none := by simpa using hgz
  have hylt : y < ops.size := by omega
  have hzlt : y + 1 < ops.size := by omega
  have hr : ∀ listed, Region.ready .any ops' listed = Region.ready .any ops listed := by
    intro listed
    unfold Region.ready
    rw [hs]
    refine List.filter_congr fun i hi => ?_
    have hi' := List.mem_range.1 hi
    rcases Nat.lt_trichotomy i y with e | e | e
    · rw [hops i e]
    · subst e; rw [hyb, hy]; rfl
    · obtain rfl : i = y + 1 := by omega
      rw [hzb, hz]; rfl
  have hpre' : ∀ i, i < y → ∀ o, ops[i]? = some o → Region.reachB .any ops i ops.size y = true ∧ (∀ j b, o.guard = some (j, b) → j ≠ y ∧ j ≠ y + 1) ∧ Op.noDefer o.op = true ∧ ∀ e ∈ o.after, e.on < i := fun i hi o ho => by
    have := List.all_eq_true.1 hpre i (List.mem_range.2 hi)
    simp only [Bool.and_eq_true, ho] at this
    refine ⟨this.1, fun j b hgo => ?_, this.2.1.2, fun e he => of_decide_eq_true (Array.all_eq_true_iff_forall_mem.1 this.2.2 e he)⟩
    have h1 := this.2.1.1
    rw [hgo] at h1
    simpa using h1
  have hon : ∀ (i : Nat) (o : Oper), ops[i]? = some o → ∀ e ∈ o.after, e.on < i := fun i o ho e he => by
    rcases Nat.lt_trichotomy i y with h | h | h
    · exact (hpre' i h o ho).2.2.2 e he
    · subst h; rw [hy] at ho; cases ho; exact of_decide_eq_true (Array.all_eq_true_iff_forall_mem.1 hony e he)
    · have := (Array.getElem?_eq_some_iff.1 ho).1
      obtain rfl : i = y + 1 := by omega
      rw [hz] at ho; cases ho; exact of_decide_eq_true (Array.all_eq_true_iff_forall_mem.1 honz e he)
  have hyield : ∀ (t : Array Value) j, j < y → yielded ops' t j = yielded ops t j := fun t j hj => by unfold yielded; rw [hops j hj]
  have hwant : ∀ (i : Nat) (o : Oper) (t : Array Value), i < y → ops[i]? = some o → Region.wanted o (yielded ops' t) = Region.wanted o (yielded ops t) := fun i o t hi ho => by
    unfold Region.wanted
    cases hgo : o.guard with
    | none => rfl
    | some p =>
      obtain ⟨j, b⟩ := p
      obtain ⟨g1, g2⟩ := (hpre' i hi o ho).2.1 j b hgo
      simp only []
      by_cases hj : j < y
      · rw [hyield t j hj]
      · have hj2 : ops[j]? = none := Array.getElem?_eq_none (by omega)
        have hj3 : ops'[j]? = none := Array.getElem?_eq_none (by omega)
        unfold yielded
        rw [hj2, hj3]
  obtain ⟨ez, hez, hez2⟩ := Array.any_eq_true'.1 hbind
  simp only [Bool.and_eq_true, beq_iff_eq] at hez2
  have hz_not : ∀ listed : Array Bool, listed.size = ops.size → listed.getD y true = false → y + 1 ∉ Region.ready .any ops listed := fun listed hsz hyl hm => by
    obtain ⟨_, o, ho, hall⟩ := mem_ready.1 hm
    rw [hz] at ho
    cases ho
    have := hall ez hez hez2.1
    rw [hez2.2] at this
    have hb : y < listed.size := by omega
    simp only [Array.getD, hb, dif_pos] at this hyl
    rw [this] at hyl; cases hyl
  have hdone : ∀ fuel (listed : Array Bool) a w, Region.ready .any ops listed = [] → Q .normal a w → wpAnyIn F n P .any ops Q fuel listed a w := by
    intro fuel listed a w h0 hq
    cases fuel with
    | zero => exact ⟨h0, hq⟩
    | succ k => exact ⟨fun _ => hq, by rw [h0]; simp⟩
  have hafter : ∀ listed : Array Bool, listed.size = ops.size → ListedClosed .any ops listed → listed.getD y true = false → y ∈ Region.ready .any ops listed →
      y + 1 ∈ Region.ready .any ops (listed.setIfInBounds y true) ∧ (∀ i ∈ Region.ready .any ops (listed.setIfInBounds y true), i = y + 1) ∧ Region.ready .any ops ((listed.setIfInBounds y true).setIfInBounds (y + 1) true) = [] := by
    intro listed hsz hc hyl hm
    have hc' := ListedClosed.set hc hm
    have hyl2 : (listed.setIfInBounds y true).getD y false = true := by simp [Array.getD, hsz, hylt]
    have hil : ∀ i, i ≤ y → (listed.setIfInBounds y true).getD i false = true := fun i hi => by
      by_cases e : i = y
      · subst e; exact hyl2
      · exact Region.reach_listed hc' ops.size y (hpre' i (by omega) ops[i] (Array.getElem?_eq_getElem (by omega))).1 hyl2
    have hgd : ∀ (L : Array Bool) i, L.size = ops.size → i < ops.size → L.getD i false = true → L.getD i true = true := fun L i hL hi h => by
      have hb : i < L.size := by omega
      simp only [Array.getD, hb, dif_pos] at h ⊢
      exact h
    have hznl : (listed.setIfInBounds y true).getD (y + 1) true = false := by
      rw [getD_set_ne true (by omega)]
      have hb : y + 1 < listed.size := by omega
      refine Bool.eq_false_iff.2 fun h => ?_
      have h' : listed.getD (y + 1) false = true := by simp only [Array.getD, hb, dif_pos] at h ⊢; exact h
      have hcl := hc (y + 1) oz hz h' ez hez hez2.1
      rw [hez2.2] at hcl
      have hb2 : y < listed.size := by omega
      simp only [Array.getD, hb2, dif_pos] at hcl hyl
      rw [hcl] at hyl; cases hyl
    have hmem : y + 1 ∈ Region.ready .any ops (listed.setIfInBounds y true) := mem_ready.2 ⟨hznl, oz, hz, fun e he _ => by
      have h1 : e.on < y + 1 := of_decide_eq_true (Array.all_eq_true_iff_forall_mem.1 honz e he)
      exact hil e.on (by omega)⟩
    refine ⟨hmem, fun i hi => ?_, ?_⟩
    · obtain ⟨h1, o, ho, _⟩ := mem_ready.1 hi
      have hlt := (Array.getElem?_eq_some_iff.1 ho).1
      by_cases e : i ≤ y
      · rw [hgd _ i (by simp [hsz]) hlt (hil i e)] at h1; cases h1
      · omega
    · refine List.eq_nil_iff_forall_not_mem.2 fun i hi => ?_
      obtain ⟨h1, o, ho, _⟩ := mem_ready.1 hi
      have hlt := (Array.getElem?_eq_some_iff.1 ho).1
      by_cases e : i = y + 1
      · subst e
        have : ((listed.setIfInBounds y true).setIfInBounds (y + 1) true).getD (y + 1) true = true := by simp [Array.getD]
        rw [this] at h1; cases h1
      · rw [getD_set_ne true (by omega)] at h1
        rw [hgd _ i (by simp [hsz]) hlt (hil i (by omega))] at h1; cases h1
  intro fuel
  induction fuel with
  | zero =>
    intro listed a w hsz hc hyl h
    exact (anyIn_last_absurd hon hylt hsz hyl ((hr listed).symm.trans h.1)).elim
  | succ fuel ih =>
    intro listed a w hsz hc hyl h
    refine ⟨fun h0 => (anyIn_last_absurd hon hylt hsz hyl h0).elim, fun i hi => ?_⟩
    have h1 := h.2 i (by rw [hr]; exact hi)
    have hilt : i < ops.size := by obtain ⟨_, o, ho, _⟩ := mem_ready.1 hi; exact (Array.getElem?_eq_some_iff.1 ho).1
    have hnz : i ≠ y + 1 := fun e => by subst e; exact hz_not listed hsz hyl hi
    by_cases e : i = y
    · subst e
      obtain ⟨g1, g2, g3⟩ := hafter listed hsz hc hyl hi
      unfold wpOp at h1
      unfold wpOpIn
      rw [hyb] at h1
      rw [hy]
      simp only [] at h1 ⊢
      have hw : Region.wanted oy (yielded ops a.tmps) = true := by unfold Region.wanted; rw [hgy']
      have hw' : Region.wanted (blank oy) (yielded ops' a.tmps) = true := rfl
      rw [if_pos hw]
      rw [if_pos hw'] at h1
      rcases h1 with h1 | h1
      · have h2 : wpAny P .any ops' Q' fuel (listed.setIfInBounds i true) a w := h1
        cases fuel with
        | zero =>
          have := h2.1
          rw [hr] at this
          rw [this] at g1; cases g1
        | succ k =>
          have h3 := h2.2 (i + 1) (by rw [hr]; exact g1)
          unfold wpOp at h3
          rw [hzb] at h3
          simp only [] at h3
          have hw2 : Region.wanted (blank oz) (yielded ops' a.tmps) = true := rfl
          rw [if_pos hw2] at h3
          rcases h3 with h3 | h3
          · have h4 : wpAny P .any ops' Q' k ((listed.setIfInBounds i true).setIfInBounds (i + 1) true) a w := h3
            have hq : Q' .normal a w := by
              cases k with
              | zero => exact h4.2
              | succ k => exact h4.1 (by rw [hr]; exact g3)
            refine Oper.wpIn_mono (fun a w hq => ?_) (hQ' a w hq)
            refine ⟨fun h0 => (by rw [h0] at g1; cases g1), fun j hj => ?_⟩
            obtain rfl := g2 j hj
            unfold wpOpIn
            rw [hz]
            simp only []
            have hw3 : Region.wanted oz (yielded ops a.tmps) = true := by unfold Region.wanted; rw [hgz']
            rw [if_pos hw3]
            exact Oper.wpIn_mono (fun a w hq => hdone _ _ a w g3 hq) hq
          · exact absurd h3.2 hQ'o
      · exact absurd h1.2 hQ'o
    · have hiy : i < y := by omega
      unfold wpOp at h1
      unfold wpOpIn
      rw [hops i hiy] at h1
      cases ho : ops[i]? with
      | none =>
        obtain ⟨oi, hoi, _⟩ := (mem_ready.1 hi).2
        rw [ho] at hoi; cases hoi
      | some o =>
        rw [ho] at h1
        simp only [] at h1 ⊢
        have hnext : ∀ a w, wpAny P .any ops' Q' fuel (listed.setIfInBounds i true) a w → wpAnyIn F n P .any ops Q fuel (listed.setIfInBounds i true) a w := fun a w h => by
          refine ih _ a w (by simp [hsz]) (ListedClosed.set hc hi) ?_ h
          rw [getD_set_ne true e]; exact hyl
        by_cases hw : Region.wanted o (yielded ops a.tmps) = true
        · rw [if_pos hw]
          rw [hwant i o a.tmps hiy ho, if_pos hw] at h1
          rcases h1 with h1 | h1
          · have h2 : o.wpIn F n P a w (wpAnyIn F n P .any ops Q fuel (listed.setIfInBounds i true)) Q' := hF n P o a w _ _ Q' (hpre' i hiy o ho).2.2.1 hnext h1
            exact oper_panic_mono hQp hQ'o h2
          · exact absurd h1.2 hQ'o
        · rw [if_neg hw]
          rw [hwant i o a.tmps hiy ho, if_neg hw] at h1
          exact ⟨fun f _ => hFf f, hnext _ _ h1⟩
theorem quiet_blank {P : Program} {ops : Array Oper} {C : World → Prop} {Q : Act → Prop} {rest : List Oper} {a : Act} {o : Oper} (h : wpQuiet P ops C Q rest a) : wpQuiet P ops C Q (blank o :: rest) a := by
  unfold wpQuiet
  have hw : Region.wanted (blank o) (yielded ops a.tmps) = true := rfl
  rw [if_pos hw]
  refine ⟨.bool true, fun w hw => ?_, h⟩
  unfold Oper.quietAt
  exact ⟨rfl, rfl⟩
theorem oper_not {P : Program} {o : Oper} {a : Act} {w : World} {K : Act → World → Prop} {Q : Exit → Act → World → Prop} {x : Operand} {t : TypeId} {b : Bool} (ho : o.op = .unOp .not t x) (hx : a.eval x = .bool b) (h : K (a.put o.dst (.bool (!b))) w) : o.wp P a w K Q := by
  unfold Oper.wp
  have e : (execOp a.eval o).run P w = .ok (.value (.bool (!b))) w := by
    unfold execOp
    rw [ho]
    simp only []
    rw [hx]
    first | rfl | simp [go_sem]
  rw [e]
  exact h
theorem quiet_last2_ {F : Fence} {n0 id y : Nat} {P : Program} {l : List Oper} {oy oz : Oper} {Q : Exit → Act → World → Prop} {a : Act} {w : World} (Qn : Act → World → Prop)
    (hF : Lifts F) (hFf : ∀ f, F.fn f) (hm : P.follows .mixedOrders = true) (hy : l.toArray[y]? = some oy) (hz : l.toArray[y + 1]? = some oz) (hok : last2Ok l.toArray y = true)
    (hB : Region.lexB .any (l.take y ++ [blank oy, blank oz]).toArray = true)
    (hQn : ∀ a w, Qn a w → oy.wpIn F n0 P a w (fun a w => oz.wpIn F n0 P a w (Q .normal) Q) Q)
    (h : wpQuiet P (l.take y ++ [blank oy, blank oz]).toArray (fun w' => ∃ n, w' = w.drewN n) (fun a' => ∀ w', (∃ n, w' = w.drewN n) → Qn a' w') (l.take y ++ [blank oy, blank oz]) a) : (Code.region id l.toArray true).wpIn F n0 P Q a w := by
  obtain ⟨ops', hops'⟩ : ∃ x, x = (l.take y ++ [blank oy, blank oz]).toArray := ⟨_, rfl⟩
  have hzl := (Array.getElem?_eq_some_iff.1 hz).1
  have hsize : l.toArray.size = y + 2 := by
    unfold last2Ok at hok
    simp only [Bool.and_eq_true, beq_iff_eq] at hok
    exact hok.1.1
  simp only [List.size_toArray] at hsize hzl
  have hsz : ops'.size = l.toArray.size := by subst hops'; simp; omega
  have hB' := hB
  simp only [Region.lexB, Bool.and_eq_true] at hB'
  have hq : wpAny P .any ops' (Exit.then Qn (fun _ _ _ => False)) ops'.size (Array.replicate ops'.size false) a w.drew := by
    refine wpAny_of_quiet (C := fun w' => ∃ n, w' = w.drewN n) (Q := fun a' => ∀ w', (∃ n, w' = w.drewN n) → Qn a' w') (fun _ w' hw' h => h w' hw') _ _ _ _ ⟨1, rfl⟩ ?_
    subst hops'
    have := wpAnyQ_lex (C := fun w' => ∃ n, w' = w.drewN n) (md := .any) hB'.1 _ 0 (Array.replicate (l.take y ++ [blank oy, blank oz]).toArray.size false) a (by simp) (by simpa using hB'.2) h
    simpa using this
  refine wpIn_region_any hm (anyIn_last2 (y := y) (oy := oy) (oz := oz) hF hFf hy hz hok ops' hsz (fun i hi => ?_) ?_ ?_ (Exit.then Qn (fun _ _ _ => False)) (fun a w h => hQn a w h) (fun c a w h => h.elim) (fun ⟨_, _, h⟩ => h.elim) _ _ _ _ (by simp) ?_ (by simp [Array.getD]; omega) (by rw [hsz] at hq; exact hq))
  · subst hops'
    simp only [List.getElem?_toArray]
    rw [List.getElem?_append_left (by simp; omega), List.getElem?_take_of_lt hi]
  · subst hops'
    simp only [List.getElem?_toArray]
    rw [List.getElem?_append_right (by simp; omega)]
    have : (List.take y l).length = y := by simp; omega
    rw [this]; simp
  · subst hops'
    simp only [List.getElem?_toArray]
    rw [List.getElem?_append_right (by simp; omega)]
    have : (List.take y l).length = y := by simp; omega
    rw [this]; simp
  · intro j oj hj hl
    have h0 : (Array.replicate l.toArray.size false).getD j false = false := by
      unfold Array.getD
      split
      · exact Array.getElem_replicate ..
      · rfl
    rw [h0] at hl; cases hl
theorem IStep.widen {B lo c lo' c' : Nat} {X Y : World} (h : IStep B lo c X Y) (h1 : lo' ≤ lo) (h2 : lo + c ≤ lo' + c') : IStep B lo' c' X Y :=
  ⟨h.os, h.tape, h.output, h.size, fun k o ho h3 h4 => h.same k o ho (fun h5 => h3 (by omega)) h4⟩
theorem RKeep.istep_ {n₀ : Nat} {Ex : Nat → Prop} {B : Nat} {E : Nat → Prop} {X Y Z : World} {b lo c : Nat} (h : RKeep n₀ Ex B E X Y) (k : IStep b lo c Y Z) (hb : X.heap.size ≤ b) (hlo : X.heap.size ≤ lo) : RKeep n₀ Ex B E X Z := by
  have key : ∀ j, j < X.heap.size → ∀ o, Y.heap[j]? = some o → Z.heap[j]? = some o := fun j hj o ho => k.same j o ho (fun h3 => by omega) (fun h3 => by omega)
  have ex : ∀ j, j < X.heap.size → Y.heap[j]? = Z.heap[j]? := fun j hj => by
    have hy : j < Y.heap.size := Nat.lt_of_lt_of_le hj h.size
    rw [key j hj _ (Array.getElem?_eq_getElem hy), Array.getElem?_eq_getElem hy]
  exact ⟨Nat.le_trans h.size k.size, fun j hj h1 => (ex j hj).symm.trans (h.same j hj h1), fun j o hB ho hc => key j (Array.getElem?_eq_some_iff.1 ho).1 o (h.book j o hB ho hc)⟩
end Go.Proofs.YtlmglnobdcgbeaaGreat.R
namespace Go.Proofs.YtlmglnobdcgbeaaGreat.P
open Go.RowKit Go.Proofs.YtlmglnobdcgbeaaGreatW.PrintWords Go.Proofs.YtlmglnobdcgbeaaGreatW.PrintLast Go.Proofs.YtlmglnobdcgbeaaGreatW.PrintMore
attribute [local go_sem] max2_int min2_int max_two min_two max_three min_three max_four min_four
def turn_high.f (a0_0 : Int) (a0_1 : Int) : Option (Int) := some a0_1
set_option maxHeartbeats 8000000 in
set_option maxRecDepth 100000 in
theorem turn_high.calls (a0_0 : Int) (a0_1 : Int) (r : Int) (w : World) (h : turn_high.f a0_0 a0_1 = some r) :
  Calls Tryz.prog 67 #[.agg #[.int .i64 a0_0, .int .i64 a0_1]] w fun e w' => e = .returned (.int .i64 r) ∧ Below w.heap.size w w' := by
 have hu42 := Tryz.underlying42
 have HB := Aside0.mk (Below.refl w.heap.size w)
 have H : (some a0_1) = some r := h
 clear h
 obtain rfl := Option.some.inj H
 go_enter Tryz.func67, Tryz.ntmps67
 go_wp2_with (first | ((with_reducible refine gate_dst (N := 1) rfl ?_); refine bx 1 #[.int .i64 a0_0, .int .i64 a0_1] 42 ?_; intro gb101 hg w2 hbox hb; have BK101 := hbox; have GW101 := gs HB hg; have GE101 := gs HB hg; replace HB := bs HB hb; clear hb hbox hg; obtain ⟨_, _, _, _⟩ := cf2 BK101))
 go_ret
 exact ⟨eT, pE HB⟩
def turn_low.f (a0_0 : Int) (a0_1 : Int) : Option (Int) := some a0_0
set_option maxHeartbeats 8000000 in
set_option maxRecDepth 100000 in
theorem turn_low.calls (a0_0 : Int) (a0_1 : Int) (r : Int) (w : World) (h : turn_low.f a0_0 a0_1 = some r) :
  Calls Tryz.prog 66 #[.agg #[.int .i64 a0_0, .int .i64 a0_1]] w fun e w' => e = .returned (.int .i64 r) ∧ Below w.heap.size w w' := by
 have hu42 := Tryz.underlying42
 have HB := Aside0.mk (Below.refl w.heap.size w)
 have H : (some a0_0) = some r := h
 clear h
 obtain rfl := Option.some.inj H
 go_enter Tryz.func66, Tryz.ntmps66
 go_wp2_with (first | ((with_reducible refine gate_dst (N := 1) rfl ?_); refine bx 1 #[.int .i64 a0_0, .int .i64 a0_1] 42 ?_; intro gb101 hg w2 hbox hb; have BK101 := hbox; have GW101 := gs HB hg; have GE101 := gs HB hg; replace HB := bs HB hb; clear hb hbox hg; obtain ⟨_, _, _, _⟩ := cf2 BK101))
 go_ret
 exact ⟨eT, pE HB⟩
end Go.Proofs.YtlmglnobdcgbeaaGreat.P
namespace Go.Proofs.YtlmglnobdcgbeaaGreat.P
open Go.RowKit Go.Shelf Go.Proofs.YtlmglnobdcgbeaaGreatW.PrintWords Go.Proofs.YtlmglnobdcgbeaaGreatW.PrintLast Go.Proofs.YtlmglnobdcgbeaaGreatW.PrintMore Go.Proofs.YtlmglnobdcgbeaaGreat.R
def highF (x y : Int) : Int := y
theorem high_calls (x y : Int) (W : World) : Calls Tryz.prog 67 #[.agg #[.int .i64 x, .int .i64 y]] W fun e w' => e = .returned (.int .i64 (highF x y)) ∧ Below W.heap.size W w' := turn_high.calls x y y W rfl
def waitT (cl : List S67) (t : Int × Int × Int) : Int × Int := (t.1, wrap64 (t.2.1 - (rd_T67 cl t.1).f1))
def RvW (x : Int × Int) (vs : Array Value) (W : World) : Prop := vs = #[.int .i64 x.1, .int .i64 x.2]
structure CapW (B1 B2 B3 : Nat) (m : Nat) (A2 : Option Addr) (c2 : Nat) (ord : List Int) (A3 : Option Addr) (c3 : Nat) (cl : List S67) (A4 : Option Addr) (c4 : Nat) (rk : List Int) (W : World) : Prop where
  b1 : W.heap[B1]? = some (.cells #[.slice A3 cl.length c3, .slice A4 rk.length c4] 99 (0, 0))
  b2 : W.heap[B2]? = some (.cells #[.slice A2 ord.length c2] 23 (0, 0))
  b3 : W.heap[B3]? = some (.cells #[.int .i64 (m : Int)] 3 (0, 0))
  r2 : Kd.C (Kd.int .i64) W A2 ord.length ord
  r3 : Kd.C k67 W A3 cl.length cl
theorem box_event_sz {P : Program} {ops : Array Oper} {rest : List Oper} {o : Oper} {a : Act} {Q : Exit → Act → World → Prop} {W : World} (hgd : o.guard = none) {N : Tmp} (_hd : o.dst = some N) {cs : Array Value} {t : TypeId}
    (hrun : (execOp a.eval o).run P W = .ok (.value (.pointer (some ⟨W.heap.size, 0, none⟩))) (W.alloc (.cells cs t (0, 0))))
    (h : ∀ w1, w1.heap.size = W.heap.size + 1 → w1.heap[W.heap.size]? = some (.cells cs t (0, 0)) → Below W.heap.size W w1 → wpList P ops Q rest (a.put o.dst (.pointer (some ⟨W.heap.size, 0, none⟩))) w1) : wpList P ops Q (o :: rest) a W :=
  Kd.event_run hgd hrun (h _ (World.size_alloc _ _) (blk_new W _) (below_alloc (Below.refl _ _) _))
set_option maxHeartbeats 16000000 in
set_option maxRecDepth 100000 in
theorem waits_iter (B1 B2 B3 m : Nat) (A2 : Option Addr) (c2 : Nat) (ord : List Int) (A3 : Option Addr) (c3 : Nat) (cl : List S67) (A4 : Option Addr) (c4 : Nat) (rk : List Int) (n : Nat) (w : World) (Ex : Nat → Prop)
    (hm : 1 ≤ m) (hm2 : m ≤ 1000) (hin : ∀ x ∈ ord, 0 ≤ x ∧ x < (cl.length : Int))
    (hC : ∀ W', w.heap.size ≤ W'.heap.size → (∀ k, k < w.heap.size → ¬ Ex k → W'.heap[k]? = w.heap[k]?) → CapW B1 B2 B3 m A2 c2 ord A3 c3 cl A4 c4 rk W') :
    IterC Fence.wide n Tryz.prog 101 #[.pointer (some ⟨B1, 0, none⟩), .pointer (some ⟨B2, 0, none⟩), .pointer (some ⟨B3, 0, none⟩)] ((runT highF cl (List.replicate m 0) ord).map (waitT cl)) RvW Ex 8 (fun _ => True) w := by
  intro l J Jx W hW hJ hJx hY h0
  have hcap := hC W hW.size (fun k hk _ => hW.block k hk)
  have hB1l := (Array.getElem?_eq_some_iff.1 hcap.b1).1
  have hB2l := (Array.getElem?_eq_some_iff.1 hcap.b2).1
  have hB3l := (Array.getElem?_eq_some_iff.1 hcap.b3).1
  have HCAP := Aside0.mk hcap
  have HC := Aside0.mk hC
  have HJ := Aside0.mk hJ
  have HJx := Aside0.mk hJx
  have HY := Aside0.mk hY
  have HW := Aside0.mk hW
  have HIN := Aside0.mk hin
  have H0 := Aside0.mk h0
  have hsw := hW.size
  clear hC hJ hJx hY hcap hW hin h0
  have hu1 := Tryz.underlying99
  have hu2 := Tryz.underlying25
  refine callsIn_of_wp_marks Tryz.func101 rfl trivial ?_ rfl
  simp only [Tryz.ntmps101, List.size_toArray, List.length_cons, List.length_nil, Nat.reduceAdd, Nat.reduceSub, Array.replicate_succ, Array.replicate_zero, List.push_toArray, List.append_toArray, List.nil_append, List.cons_append]
  go_wp2_with (first
    | ((with_reducible refine gate_dst (N := 4) rfl ?_); refine box_event_sz ?hg (N := 4) ?hd (cs := #[.func (.yield l) #[] #[]]) (t := 138) ?hr ?_; (case hd => rfl); (case hg => rfl); (case hr => first | (go_simp; done) | (go_simp; rfl)); intro w1 hs1 hbox hb1
       have hz1 : w1.cell? ⟨B1, 0, none⟩ = some (.slice A3 cl.length c3) := (blk_cell ((hb1.block B1 hB1l).trans HCAP.out.b1) 0).trans rfl
       have hz2 : w1.cell? ⟨B1, 1, none⟩ = some (.slice A4 rk.length c4) := (blk_cell ((hb1.block B1 hB1l).trans HCAP.out.b1) 1).trans rfl
       have hz3 : w1.cell? ⟨B2, 0, none⟩ = some (.slice A2 ord.length c2) := (blk_cell ((hb1.block B2 hB2l).trans HCAP.out.b2) 0).trans rfl
       have hz4 : w1.cell? ⟨B3, 0, none⟩ = some (.int .i64 (m : Int)) := (blk_cell ((hb1.block B3 hB3l).trans HCAP.out.b3) 0).trans rfl)
    | ((with_reducible refine gate_callee (f := 65) rfl ?_); refine goesL_ (some 9) rfl rfl Tryz.func65 (by kernel_rfl) rfl #[.agg #[.slice A3 cl.length c3, .slice A4 rk.length c4], .slice A2 ord.length c2, .int .i64 (m : Int), .func (.func 67) #[] #[]] rfl (by (try simp only [List.map_toArray, List.map_cons, List.map_nil]); first | done | rfl) ?_
       refine (turns_calls A3 cl.length c3 A4 rk.length c4 A2 ord.length c2 (m : Int) 67 w1).mono ?_; rintro e w5 ⟨rfl, hw5⟩; refine ⟨_, rfl, ?_⟩)
    | (with_reducible refine regW_lit_ ?_) | gi_step)
  simp only [Act.put, List.setIfInBounds_toArray, List.set_cons_zero, List.set_cons_succ]
  obtain ⟨q1, q2, q3, q4, q5, q6⟩ := four_alloc w1 (.cells #[.slice A3 cl.length c3, .slice A4 rk.length c4] 99) (.cells #[.slice A2 ord.length c2] 23) (.cells #[.int .i64 (m : Int)] 3) (.cells #[.func (.func 67) #[] #[]] 135)
  rw [← hw5] at q1 q2 q3 q4 q5 q6
  clear hw5 hz1 hz2 hz3 hz4
  obtain ⟨b0, hb0⟩ : ∃ b0, W.heap.size = b0 := ⟨_, rfl⟩
  rw [hb0] at hs1
  have e1 : w1.heap.size = b0 + 1 := hs1
  rw [e1] at q2 q3 q4 q5 q6
  have hbox5 : w5.heap[b0]? = some (.cells #[.func (.yield l) #[] #[]] 138 (0, 0)) := by rw [hb0] at hbox; exact (q1.block b0 (by omega)).trans hbox
  have hb5 : Below b0 W w5 := by rw [hb0] at hb1; exact hb1.trans (q1.mono (by omega))
  clear hbox hb1 q1
  obtain ⟨Ex5, hEx5⟩ : ∃ Ex5 : Nat → Prop, Ex5 = fun k => ¬ (k < w.heap.size ∧ ¬ Ex k ∨ b0 ≤ k) := ⟨_, rfl⟩
  have hcapw : ∀ W', RKeep w.heap.size Ex b0 (fun _ => True) w5 W' → CapW B1 B2 B3 m A2 c2 ord A3 c3 cl A4 c4 rk W' := fun W' hk =>
    HC.out W' (by have := hk.size; omega) (fun k hk0 hx => (hk.same k (by omega) (.inl ⟨hk0, hx⟩)).trans ((hb5.block k (by omega)).trans (HW.out.block k hk0)))
  have hcap5 : ∀ W', w5.heap.size ≤ W'.heap.size → (∀ k, k < w5.heap.size → ¬ Ex5 k → W'.heap[k]? = w5.heap[k]?) → CapT (b0 + 1 + 2) (b0 + 1 + 1) (b0 + 1) (b0 + 1 + 3) m A2 c2 ord A3 c3 cl A4 c4 rk 67 W' := by
    intro W' hsz hsame
    have hold : ∀ k, k < w5.heap.size → b0 ≤ k → W'.heap[k]? = w5.heap[k]? := fun k hk hbk => hsame k hk (by rw [hEx5]; exact fun hn => hn (.inr hbk))
    have hcw := HC.out W' (by omega) (fun k hk0 hx => (hsame k (by omega) (by rw [hEx5]; exact fun hn => hn (.inl ⟨hk0, hx⟩))).trans ((hb5.block k (by omega)).trans (HW.out.block k hk0)))
    exact ⟨(hold _ (by omega) (by omega)).trans q5, (hold _ (by omega) (by omega)).trans q4, (hold _ (by omega) (by omega)).trans q3, (hold _ (by omega) (by omega)).trans q6, hcw.r2, hcw.r3⟩
  have hseq := turns_iter highF (b0 + 1 + 2) (b0 + 1 + 1) (b0 + 1) (b0 + 1 + 3) m A2 c2 ord A3 c3 cl A4 c4 rk 67 Tryz.f67 (n - 1) w5 Ex5 (fun _ => True) Tryz.func67 (by kernel_rfl) rfl high_calls hm hm2 HIN.out (by omega) trivial hcap5
  rw [e1]
  have HS := Aside0.mk hcapw
  have HB5 := Aside0.mk hb5
  have HBX := Aside0.mk hbox5
  clear hcapw hcap5 hb5 hbox5 q3 q4 q5 q6 hs1
  refine range_outer (xs := runT highF cl (List.replicate m 0) ord) (Rv := RvT) (Ex := Ex5) (c := 1) (E := fun _ => True) (w0 := w5) rfl (fun h0 => by cases h0) (gf := 99) rfl trivial (fun args w => enters_ Tryz.func99 (by kernel_rfl) rfl args w) hseq (Below.refl _ _) (fun x vs W h => by unfold RvT at h; subst h; rfl)
    (fun i W' => J i W' ∧ RKeep w.heap.size Ex b0 (fun _ => True) w5 W')
    (fun cd i W' => cd = .ret ∧ Jx i W')
    ?hI ?hIx ?h0
    (fun i x a' W' => ∃ g5, a' = { tmps := #[.func (.yield l) #[] #[], .pointer (some ⟨B1, 0, none⟩), .pointer (some ⟨B2, 0, none⟩), .pointer (some ⟨B3, 0, none⟩), .pointer (some ⟨b0, 0, none⟩), .pointer (some ⟨g5, 0, none⟩), .agg #[.slice A3 cl.length c3, .slice A4 rk.length c4], .slice A2 ord.length c2, .int .i64 (m : Int), .func (.func 99) #[] #[.pointer (some ⟨b0 + 1 + 2, 0, none⟩), .pointer (some ⟨b0 + 1 + 1, 0, none⟩), .pointer (some ⟨b0 + 1, 0, none⟩), .pointer (some ⟨b0 + 1 + 3, 0, none⟩)], .agg #[.int .i64 x.1, .int .i64 x.2.1, .int .i64 x.2.2], undef, undef, undef, undef, undef, undef, undef, undef, undef, undef, undef, undef, undef, undef, undef, undef], defers := [] } ∧
      W'.heap[g5]? = some (.cells #[.int .i64 x.1, .int .i64 x.2.1, .int .i64 x.2.2] 107 (0, 0)) ∧ w5.heap.size + 3 ≤ g5 ∧ J i W' ∧ RKeep w.heap.size Ex b0 (fun _ => True) w5 W')
    ?hAx ?assign ?body ?done ?stop
  case hI => exact fun i X Y h hs => ⟨HJ.out i X Y h.1 (by rw [hb0]; exact (hs.lower (by omega)).widen (by omega) (by omega)), h.2.istep_ hs (Nat.le_refl _) (by omega)⟩
  case hIx => exact fun cd i X Y h hs => ⟨h.1, HJx.out i X Y h.2 (by rw [hb0]; exact (hs.lower (by omega)).widen (by omega) (by omega))⟩
  case h0 => exact ⟨HJ.out 0 W w5 H0.out (IStep.of_below (by rw [hb0]; exact HB5.out)), RKeep.refl _ _ _ _ _⟩
  case hAx =>
    rintro i x a' _ X Y ⟨g5, ha, h1, h2, h3, h4⟩ hs
    exact ⟨g5, ha, hs.same g5 _ h1 (by omega) (fun _ => rfl), h2, HJ.out i X Y h3 (by rw [hb0]; exact (hs.lower (by omega)).widen (by omega) (by omega)), h4.istep_ hs (Nat.le_refl _) (by omega)⟩
  case assign =>
    rintro l' i x vs W' K hx ⟨hi1, hi2⟩ hv hsz hK
    unfold RvT at hv
    subst hv
    simp only [List.zip_toArray, List.zip_cons_cons, List.zip_nil_right, List.zip_nil_left, List.size_toArray, List.foldl_toArray', List.foldl_cons, List.foldl_nil, List.setIfInBounds_toArray, List.set_cons_zero, List.set_cons_succ, List.length_cons, List.length_nil]
    have H1 := Aside0.mk hi1
    have H2 := Aside0.mk hi2
    have HK := Aside0.mk hK
    have HSZ := Aside0.mk hsz
    clear hseq hi1 hi2 hK hsz
    have hu107 := Tryz.underlying107
    go_wp2_with (first
      | ((with_reducible refine gate_dst (N := 5) rfl ?_); refine box_event_sz ?hg (N := 5) ?hd (cs := #[.int .i64 0, .int .i64 0, .int .i64 0]) (t := 107) ?hr ?_; (case hd => rfl); (case hg => rfl); (case hr => first | (go_simp; done) | (go_simp; rfl)); intro w6 hs6 hx6 hb6
         have hc60 : w6.cell? ⟨W'.heap.size, 0, none⟩ = some (.int .i64 0) := (blk_cell hx6 0).trans rfl
         have hc61 : w6.cell? ⟨W'.heap.size, 1, none⟩ = some (.int .i64 0) := (blk_cell hx6 1).trans rfl
         have hc62 : w6.cell? ⟨W'.heap.size, 2, none⟩ = some (.int .i64 0) := (blk_cell hx6 2).trans rfl
         have hf60 := blk_frozen hx6 0
         have hf61 := blk_frozen hx6 1
         have hf62 := blk_frozen hx6 2
         have HX6 := Aside0.mk hx6
         have HB6 := Aside0.mk hb6
         clear hx6 hb6)
      | ((with_reducible refine regIn_lit_ ?hnd ?hlo ?_); (case hnd => kernel_rfl); (case hlo => rintro ⟨_, _, h⟩; exact h)) | gi_step)
    have hbel : Below W'.heap.size W' (((w6.setCell ⟨W'.heap.size, 0, none⟩ (.int .i64 x.1)).setCell ⟨W'.heap.size, 1, none⟩ (.int .i64 x.2.1)).setCell ⟨W'.heap.size, 2, none⟩ (.int .i64 x.2.2)) :=
      ((HB6.out.setCell (p := ⟨W'.heap.size, 0, none⟩) (Nat.le_refl _) _).setCell (p := ⟨W'.heap.size, 1, none⟩) (Nat.le_refl _) _).setCell (p := ⟨W'.heap.size, 2, none⟩) (Nat.le_refl _) _
    exact HK.out _ _ hbel ⟨W'.heap.size, rfl, blk_put (blk_put (blk_put HX6.out 0 _ rfl) 1 _ rfl) 2 _ rfl, by have := HSZ.out; omega, HJ.out i W' _ H1.out (IStep.of_below hbel), H2.out.istep_ (b := w5.heap.size) (lo := w5.heap.size) (c := 0) (IStep.of_below hbel) (Nat.le_refl _) (Nat.le_refl _)⟩
  case body =>
    rintro l' i x a' W' hl' hloop hx ⟨g5, rfl, h1, h2, h3, h4⟩ hsz
    have hlt : i < ord.length := by have := (List.getElem?_eq_some_iff.1 hx).1; rwa [runT_len] at this
    have hxe := runT_at highF cl ord (List.replicate m 0) i hlt
    have hx1 : x.1 = ord[i] := by rw [hx] at hxe; rw [Option.some.inj hxe]
    obtain ⟨p1, p2⟩ := HIN.out x.1 (by rw [hx1]; exact List.getElem_mem hlt)
    have hyx : ((runT highF cl (List.replicate m 0) ord).map (waitT cl))[i]? = some (waitT cl x) := by rw [List.getElem?_map, hx]; rfl
    clear hxe hx1 hx
    obtain ⟨x0, x1, x2⟩ := x
    simp only [] at h1 p1 p2
    have hcx := HS.out W' h4
    have hk4 : W'.cell? ⟨b0, 0, none⟩ = some (.func (.yield l) #[] #[]) := (blk_cell ((h4.same b0 (by omega) (.inr ⟨Nat.le_refl _, trivial⟩)).trans HBX.out) 0).trans rfl
    have hz0 : W'.cell? ⟨g5, 0, none⟩ = some (.int .i64 x0) := (blk_cell h1 0).trans rfl
    have hz1 : W'.cell? ⟨g5, 1, none⟩ = some (.int .i64 x1) := (blk_cell h1 1).trans rfl
    have hd0 : W'.cell? ⟨B1, 0, none⟩ = some (.slice A3 cl.length c3) := (blk_cell hcx.b1 0).trans rfl
    obtain ⟨ad, hA3, hr0, hr1, hr2, hr3⟩ := at_T67 hcx.r3 x0 p1 p2
    rw [hA3] at hd0
    replace p1 := eq_true p1
    replace p2 := eq_true p2
    have H1 := Aside0.mk h1
    have H2 := Aside0.mk h2
    have H3 := Aside0.mk h3
    have H4 := Aside0.mk h4
    have HYX := Aside0.mk hyx
    have HSZ := Aside0.mk hsz
    have HA3 := Aside0.mk hA3
    clear hseq h1 h2 h3 h4 hyx hsz hcx hlt hA3 hloop hl' hr0 hr2 hr3
    simp only [] 
    go_wp2_with (first | (with_reducible refine stop_ 3 ?_) | gi_step)
    refine ⟨wpIn_seq ?_⟩
    refine quiet_last2_ (y := 14) (fun a2 w2 => ∃ u11 u12 u13 u14 u15 u16 u17 u18 u19 u20 u21 u22 u23 u24 : Value, a2 = { tmps := #[.func (.yield l) #[] #[], .pointer (some ⟨B1, 0, none⟩), .pointer (some ⟨B2, 0, none⟩), .pointer (some ⟨B3, 0, none⟩), .pointer (some ⟨b0, 0, none⟩), .pointer (some ⟨g5, 0, none⟩), .agg #[.slice A3 cl.length c3, .slice A4 rk.length c4], .slice A2 ord.length c2, .int .i64 (m : Int), .func (.func 99) #[] #[.pointer (some ⟨b0 + 1 + 2, 0, none⟩), .pointer (some ⟨b0 + 1 + 1, 0, none⟩), .pointer (some ⟨b0 + 1, 0, none⟩), .pointer (some ⟨b0 + 1 + 3, 0, none⟩)], .agg #[.int .i64 x0, .int .i64 x1, .int .i64 x2], u11, u12, u13, u14, u15, u16, u17, u18, u19, u20, u21, u22, u23, u24, undef, undef], defers := [] } ∧ u11 = .func (.yield l) #[] #[] ∧ u13 = .int .i64 x0 ∧ u24 = .int .i64 (wrap64 (x1 - (rd_T67 cl x0).f1)) ∧ ∃ nq, w2 = W'.drewN nq) (lifts_in l') (fun _ => trivial) (by kernel_rfl) rfl rfl (by kernel_rfl) (by kernel_rfl) ?hQn ?hq
    case hq =>
      simp only [List.take_succ_cons, List.take_zero, List.cons_append, List.nil_append]
      repeat (first | refine quiet_blank ?_ | quiet_step (fail))
      refine wpQuiet_nil ?_
      rintro w2 ⟨nq, rfl⟩
      exact ⟨_, _, _, _, _, _, _, _, _, _, _, _, _, _, rfl, rfl, rfl, (by rw [i64_w]), nq, rfl⟩
    case hQn =>
      rintro a2 w2 ⟨u11, u12, u13, u14, u15, u16, u17, u18, u19, u20, u21, u22, u23, u24, rfl, rfl, rfl, rfl, nq, rfl⟩
      refine oper_yield (l := l) (vs := #[.int .i64 x0, .int .i64 (wrap64 (x1 - (rd_T67 cl x0).f1))]) rfl (fun _ => trivial) rfl rfl (by simp only [List.map_toArray, List.map_cons, List.map_nil]; rfl) ?_
      have hbq : Below W'.heap.size W' (W'.drewN nq) := ⟨rfl, rfl, rfl, Nat.le_refl _, fun _ _ => rfl⟩
      refine YieldAt.mono (yield_in l' (yield_any rfl (HY.out i (waitT cl (x0, x1, x2)) _ (W'.drewN nq) HYX.out (HJ.out i W' _ H3.out (IStep.of_below hbq)) rfl (by have := HSZ.out; show W.heap.size + 8 ≤ W'.heap.size; omega)))) ?_
      rintro e W2 (⟨rfl, hJ2, hk2⟩ | ⟨rfl, hJ2, hk2⟩)
      all_goals
        refine ⟨_, rfl, ?_⟩
        refine lifts_in l' _ _ _ _ _ _ _ _ rfl (fun _ _ h => h) ?_
        refine oper_not (t := 4) rfl rfl ?_
        simp only [Act.put, List.setIfInBounds_toArray, List.set_cons_zero, List.set_cons_succ, Bool.not_true, Bool.not_false, Exit.then]
        have hbk : BKeep w5.heap.size Ex5 w5.heap.size (w5.heap.size + 2) (fun _ => True) W' W2 := by
          refine ⟨fun k o hB ho hc => hk2.book k o (by omega) ho hc, hk2.size, fun k hk hh => hk2.same k hk ?_, fun k o hB ho hc => hk2.book k o (by omega) ho hc⟩
          rcases hh with ⟨hk7, hex⟩ | ⟨hk7, _⟩
          · rw [hEx5] at hex
            rcases Classical.not_not.1 hex with h | h
            · exact .inl h
            · exact .inr ⟨by omega, trivial⟩
          · exact .inr ⟨by omega, trivial⟩
        have HBK := Aside0.mk hbk
        have hk2' : RKeep w.heap.size Ex b0 (fun _ => True) w5 W2 := H4.out.trans (by rw [← hb0]; exact ⟨hk2.size, fun k hk hh => hk2.same k hk hh, fun k o hB ho hc => hk2.book k o hB ho hc⟩)
        have HK2 := Aside0.mk hk2'
        have HEX := Aside0.mk hEx5
        have HQ2 := Aside0.mk q2
        clear hbk hk2 hk2' hEx5 q2
        go_wp2_with (first | gi_step)
      · exact ⟨HBK.out, hJ2, HK2.out⟩
      · exact ⟨HBK.out, rfl, hJ2⟩
  case done =>
    rintro D W' hD ⟨h1, h2⟩ hmk
    simp only [Exit.inBlock, Exit.then]
    go_wp2_with (first | (with_reducible refine regW_lit_ ?_) | gi_step)
    refine Marks.leaves (lo := b0) (Ds := [D]) (.cons hmk (by omega) (fun E hE => by cases hE) (.nil _)) fun W2 hs => ⟨_, results_none rfl _ _ _, ⟨_, rfl⟩, .inl ?_⟩
    rw [List.length_map]
    exact HJ.out _ _ _ h1 (by rw [hb0]; exact hs.widen (Nat.le_refl _) (by omega))
  case stop =>
    rintro D cd i W' hD hi ⟨rfl, h1⟩ hmk
    go_wp2_with (first | (with_reducible refine regW_lit_ ?_) | gi_step)
    refine Marks.leaves (lo := b0) (Ds := [D]) (.cons hmk (by omega) (fun E hE => by cases hE) (.nil _)) fun W2 hs => ⟨_, results_none rfl _ _ _, ⟨_, rfl⟩, .inr ⟨i, ?_, ?_⟩⟩
    · rw [List.length_map]; exact hi
    · exact HJx.out _ _ _ h1 (by rw [hb0]; exact hs.widen (Nat.le_refl _) (by omega))
theorem Below_istep_ {n : Nat} {w W W' : World} {b lo c : Nat} (h : Below n w W) (hw : n ≤ w.heap.size) (k : IStep b lo c W W') (hb : n ≤ b) (hlo : n ≤ lo) : Below n w W' := by
  refine h.trans ⟨k.os, k.tape, k.output, k.size, fun j hj => ?_⟩
  have hjW : j < W.heap.size := Nat.lt_of_lt_of_le (Nat.lt_of_lt_of_le hj hw) h.size
  rw [k.same j _ (Array.getElem?_eq_getElem hjW) (fun h3 => by omega) (fun h3 => by omega), Array.getElem?_eq_getElem hjW]
def okT (cl : List S67) (ord : List Int) (m : Int) : Bool := decide (1 ≤ m) && decide (m ≤ 1000) && ord.all fun x => decide (0 ≤ x) && decide (x < (cl.length : Int))
theorem okT_spec {cl : List S67} {ord : List Int} {m : Int} (h : okT cl ord m = true) : 1 ≤ m ∧ m ≤ 1000 ∧ ∀ x ∈ ord, 0 ≤ x ∧ x < (cl.length : Int) := by
  simp only [okT, Bool.and_eq_true, decide_eq_true_eq, List.all_eq_true] at h
  exact ⟨h.1.1, h.1.2, h.2⟩
def waitsL (cl : List S67) (ord : List Int) (m : Int) : List (Int × Int) := (runT highF cl (List.replicate m.toNat 0) ord).map (waitT cl)
def turn_day_isLate.f (l0_0 : List S67) (l0_1 : List Int) (l1 : List Int) (a2 : Int) (a3 : Int) : Option Bool :=
  if okT l0_0 l1 a2 = true then some ((waitsL l0_0 l1 a2).any fun t => decide (t.2 > a3)) else none
set_option maxHeartbeats 1000000 in
theorem waits_calls (A3 : Option Addr) (n3 c3 : Nat) (A4 : Option Addr) (n4 c4 : Nat) (A2 : Option Addr) (n2 c2 : Nat) (m : Int) (w : World) :
    Calls Tryz.prog 68 #[.agg #[.slice A3 n3 c3, .slice A4 n4 c4], .slice A2 n2 c2, .int .i64 m] w fun e w' =>
      e = .returned (.func (.func 101) #[] #[.pointer (some ⟨w.heap.size, 0, none⟩), .pointer (some ⟨w.heap.size + 1, 0, none⟩), .pointer (some ⟨w.heap.size + 2, 0, none⟩)]) ∧
      w' = ((w.alloc (.cells #[.slice A3 n3 c3, .slice A4 n4 c4] 99)).alloc (.cells #[.slice A2 n2 c2] 23)).alloc (.cells #[.int .i64 m] 3) := by
  have hu1 := Tryz.underlying99
  have hu2 := Tryz.underlying25
  go_enter Tryz.func68, Tryz.ntmps68
  go_wp2
  go_ret
  exact ⟨rfl, rfl⟩
theorem three_alloc (w : World) (o1 o2 o3 : Obj) : let w' := ((w.alloc o1).alloc o2).alloc o3; Below w.heap.size w w' ∧ w'.heap.size = w.heap.size + 3 ∧ w'.heap[w.heap.size]? = some o1 ∧ w'.heap[w.heap.size + 1]? = some o2 ∧ w'.heap[w.heap.size + 2]? = some o3 := by
  intro w'
  have s1 : (w.alloc o1).heap.size = w.heap.size + 1 := World.size_alloc _ _
  have s2 : ((w.alloc o1).alloc o2).heap.size = w.heap.size + 2 := by rw [World.size_alloc, s1]
  have e1 := World.alloc_heap_new w o1
  have e2 := World.alloc_heap_new (w.alloc o1) o2
  have e3 := World.alloc_heap_new ((w.alloc o1).alloc o2) o3
  rw [s1] at e2
  rw [s2] at e3
  refine ⟨((Below.refl _ w).alloc (Nat.le_refl _) _).alloc (by omega) _ |>.alloc (by omega) _, by show (World.alloc _ o3).heap.size = _; rw [World.size_alloc, s2], ?_, ?_, e3⟩
  · exact (Below.heap_alloc _ _ _ (by omega)).trans ((Below.heap_alloc _ _ _ (by omega)).trans e1)
  · exact (Below.heap_alloc _ _ _ (by omega)).trans e2
theorem waits_made (m : Nat) (A2 : Option Addr) (c2 : Nat) (ord : List Int) (A3 : Option Addr) (c3 : Nat) (cl : List S67) (A4 : Option Addr) (c4 : Nat) (rk : List Int) (n : Nat) (w1 w5 : World) (Ex : Nat → Prop) (hEx : ∀ k, Ex k → k < w1.heap.size)
    (hm : 1 ≤ m) (hm2 : m ≤ 1000) (hin : ∀ x ∈ ord, 0 ≤ x ∧ x < (cl.length : Int))
    (hw5 : w5 = ((w1.alloc (.cells #[.slice A3 cl.length c3, .slice A4 rk.length c4] 99)).alloc (.cells #[.slice A2 ord.length c2] 23)).alloc (.cells #[.int .i64 (m : Int)] 3))
    (hr : ∀ W', w1.heap.size ≤ W'.heap.size → (∀ k, k < w1.heap.size → ¬ Ex k → W'.heap[k]? = w1.heap[k]?) → Kd.C (Kd.int .i64) W' A2 ord.length ord ∧ Kd.C k67 W' A3 cl.length cl) :
    Below w1.heap.size w1 w5 ∧ w5.heap.size = w1.heap.size + 3 ∧ IterC Fence.wide n Tryz.prog 101 #[.pointer (some ⟨w1.heap.size, 0, none⟩), .pointer (some ⟨w1.heap.size + 1, 0, none⟩), .pointer (some ⟨w1.heap.size + 2, 0, none⟩)] (waitsL cl ord m) RvW Ex 8 (fun _ => True) w5 := by
  obtain ⟨q1, q2, q3, q4, q5⟩ := three_alloc w1 (.cells #[.slice A3 cl.length c3, .slice A4 rk.length c4] 99) (.cells #[.slice A2 ord.length c2] 23) (.cells #[.int .i64 (m : Int)] 3)
  rw [← hw5] at q1 q2 q3 q4 q5
  refine ⟨q1, q2, ?_⟩
  unfold waitsL
  rw [Int.toNat_natCast]
  refine waits_iter _ _ _ m A2 c2 ord A3 c3 cl A4 c4 rk n w5 Ex hm hm2 hin fun W' hsz hsame => ?_
  have hold : ∀ k, w1.heap.size ≤ k → k < w5.heap.size → W'.heap[k]? = w5.heap[k]? := fun k h1 h2 => hsame k h2 (fun hx => by have := hEx k hx; omega)
  obtain ⟨r1, r2⟩ := hr W' (by omega) (fun k hk hx => (hsame k (by omega) hx).trans (q1.block k hk))
  exact ⟨(hold _ (by omega) (by omega)).trans q3, (hold _ (by omega) (by omega)).trans q4, (hold _ (by omega) (by omega)).trans q5, r1, r2⟩
def NoLate (a3 : Int) (xs : List (Int × Int)) : Prop := ∀ t ∈ xs, ¬ t.2 > a3
def SomeLate (a3 : Int) (xs : List (Int × Int)) : Prop := ∃ t ∈ xs, t.2 > a3
set_option maxHeartbeats 16000000 in
set_option maxRecDepth 100000 in
theorem turn_day_isLate.calls (A0_0 : Option Addr) (c0_0 : Nat) (l0_0 : List S67) (A0_1 : Option Addr) (c0_1 : Nat) (l0_1 : List Int) (A1 : Option Addr) (c1 : Nat) (l1 : List Int) (a2 : Int) (a3 : Int) (r : Bool) (w : World)
    (hr0_0 : Kd.C k67 w A0_0 l0_0.length l0_0) (hc0_0 : l0_0.length ≤ c0_0) (hr0_1 : Kd.C (Kd.int .i64) w A0_1 l0_1.length l0_1) (hc0_1 : l0_1.length ≤ c0_1) (hr1 : Kd.C (Kd.int .i64) w A1 l1.length l1) (hc1 : l1.length ≤ c1) (h : turn_day_isLate.f l0_0 l0_1 l1 a2 a3 = some r) :
    Calls Tryz.prog 71 #[.agg #[.slice A0_0 l0_0.length c0_0, .slice A0_1 l0_1.length c0_1], .slice A1 l1.length c1, .int .i64 a2, .int .i64 a3] w fun e w' => e = .returned (.bool r) ∧ Below w.heap.size w w' := by
  unfold turn_day_isLate.f at h
  split at h
  case isFalse => cases h
  rename_i hok
  obtain ⟨hm1, hm2, hin⟩ := okT_spec hok
  obtain ⟨m, rfl⟩ : ∃ m : Nat, a2 = (m : Int) := ⟨a2.toNat, by omega⟩
  have hr := Option.some.inj h
  clear h hok
  obtain ⟨xs, hxs⟩ : ∃ xs, waitsL l0_0 l1 m = xs := ⟨_, rfl⟩
  rw [hxs] at hr
  have AR := Aside0.mk hr
  have AX := Aside0.mk hxs
  have R0 := Aside0.mk hr0_0
  have R1 := Aside0.mk hr1
  have IN := Aside0.mk hin
  clear hr hxs hr0_0 hr0_1 hr1 hin hc0_0 hc0_1 hc1
  refine (callsIn_wide (n := 5)).1 (callsIn_of_wp_marks Tryz.func71 rfl trivial ?_ rfl)
  simp only [Tryz.ntmps71, List.size_toArray, List.length_cons, List.length_nil, Nat.reduceAdd, Nat.reduceSub, Array.replicate_succ, Array.replicate_zero, List.push_toArray, List.append_toArray, List.nil_append, List.cons_append]
  have hu1 := Tryz.underlying99
  have hu2 := Tryz.underlying25
  go_wp2_with (first
    | ((with_reducible refine gate_dst (N := 4) rfl ?_); refine box_event_sz ?hg (N := 4) ?hd (cs := #[.slice A0_0 l0_0.length c0_0, .slice A0_1 l0_1.length c0_1]) (t := 99) ?hr ?_; (case hd => rfl); (case hg => rfl); (case hr => first | (go_simp; done) | (go_simp; rfl)); intro w1 hs1 hx1 hb1)
    | ((with_reducible refine gate_dst (N := 7) rfl ?_); refine box_event_sz ?hg (N := 7) ?hd (cs := #[.int .i64 a3]) (t := 3) ?hr ?_; (case hd => rfl); (case hg => rfl); (case hr => first | (go_simp; done) | (go_simp; rfl)); intro w2 hs2 hx2 hb2)
    | ((with_reducible refine gate_dst (N := 8) rfl ?_); refine box_event_sz ?hg (N := 8) ?hd (cs := #[.bool false]) (t := 4) ?hr ?_; (case hd => rfl); (case hg => rfl); (case hr => first | (go_simp; done) | (go_simp; rfl)); intro w3 hs3 hx3 hb3
       have hx1' := (hb3.block _ (by omega)).trans ((hb2.block _ (by omega)).trans hx1)
       have hz1 : w3.cell? ⟨w.heap.size, 0, none⟩ = some (.slice A0_0 l0_0.length c0_0) := (blk_cell hx1' 0).trans rfl
       have hz2 : w3.cell? ⟨w.heap.size, 1, none⟩ = some (.slice A0_1 l0_1.length c0_1) := (blk_cell hx1' 1).trans rfl)
    | ((with_reducible refine gate_callee (f := 68) rfl ?_); refine goesL_ (some 14) rfl rfl Tryz.func68 (by kernel_rfl) rfl #[.agg #[.slice A0_0 l0_0.length c0_0, .slice A0_1 l0_1.length c0_1], .slice A1 l1.length c1, .int .i64 (m : Int)] rfl (by (try simp only [List.map_toArray, List.map_cons, List.map_nil]); first | done | rfl) ?_
       refine (waits_calls A0_0 l0_0.length c0_0 A0_1 l0_1.length c0_1 A1 l1.length c1 (m : Int) w3).mono ?_; rintro e w5 ⟨rfl, hw5⟩; refine ⟨_, rfl, ?_⟩)
    | (with_reducible refine regW_lit_ ?_) | gi_step)
  simp only [Act.put, List.setIfInBounds_toArray, List.set_cons_zero, List.set_cons_succ]
  have hb3w : Below w.heap.size w w3 := hb1.trans ((hb2.mono (by omega)).trans (hb3.mono (by omega)))
  obtain ⟨q1, q2, hseq⟩ := waits_made m A1 c1 l1 A0_0 c0_0 l0_0 A0_1 c0_1 l0_1 4 w3 w5 (fun k => k = w.heap.size + 1 + 1) (fun k hk => by omega) (by omega) (by omega) IN.out hw5 (fun W' hsz hsame => ⟨Kd.C_F (Kd.heap_int _) R1.out W' (fun k hk _ => (hsame k (by omega) (by omega)).trans (hb3w.block k hk)), Kd.C_F k67_heap R0.out W' (fun k hk _ => (hsame k (by omega) (by omega)).trans (hb3w.block k hk))⟩)
  rw [AX.out] at hseq
  have hx7 : w5.heap[w.heap.size + 1]? = some (.cells #[.int .i64 a3] 3 (0, 0)) := (q1.block _ (by omega)).trans ((hb3.block _ (by omega)).trans (by rw [hs1] at hx2; exact hx2))
  have hx8 : w5.heap[w.heap.size + 1 + 1]? = some (.cells #[.bool false] 4 (0, 0)) := (q1.block _ (by omega)).trans (by rw [hs2, hs1] at hx3; exact hx3)
  have hb5 : Below w.heap.size w w5 := hb3w.trans (q1.mono (by omega))
  clear hw5 hx1 hx2 hx3 hb1 hb2 hb3 hb3w q1 hx1' hz1 hz2
  have e3 : w3.heap.size = w.heap.size + 3 := by omega
  rw [e3] at q2 hseq ⊢
  clear hs1 hs2 hs3 e3
  refine range_outer (xs := xs) (Rv := RvW) (Ex := fun k => k = w.heap.size + 1 + 1) (c := 8) (E := fun _ => True) (w0 := w5) rfl (fun h0 => by cases h0) (gf := 101) rfl trivial (fun args w => enters_ Tryz.func101 (by kernel_rfl) rfl args w) hseq (Below.refl _ _) (fun x vs W h => by unfold RvW at h; subst h; rfl)
    (fun i W' => NoLate a3 (xs.take i) ∧ W'.heap[w.heap.size + 1]? = some (.cells #[.int .i64 a3] 3 (0, 0)) ∧ W'.heap[w.heap.size + 1 + 1]? = some (.cells #[.bool false] 4 (0, 0)) ∧ Below w.heap.size w W')
    (fun cd i W' => cd = .ret ∧ SomeLate a3 xs ∧ W'.heap[w.heap.size + 1 + 1]? = some (.cells #[.bool true] 4 (0, 0)) ∧ Below w.heap.size w W')
    ?hI ?hIx ⟨fun t ht => (by cases ht), hx7, hx8, hb5⟩
    (fun i x a' W' => a' = { tmps := #[.agg #[.slice A0_0 l0_0.length c0_0, .slice A0_1 l0_1.length c0_1], .slice A1 l1.length c1, .int .i64 (m : Int), .int .i64 a3, .pointer (some ⟨w.heap.size, 0, none⟩), undef, undef, .pointer (some ⟨w.heap.size + 1, 0, none⟩), .pointer (some ⟨w.heap.size + 1 + 1, 0, none⟩), undef, .int .i64 x.2, .agg #[.slice A0_0 l0_0.length c0_0, .slice A0_1 l0_1.length c0_1], .slice A1 l1.length c1, .int .i64 (m : Int), .func (.func 101) #[] #[.pointer (some ⟨w.heap.size + 3, 0, none⟩), .pointer (some ⟨w.heap.size + 3 + 1, 0, none⟩), .pointer (some ⟨w.heap.size + 3 + 2, 0, none⟩)], .int .i64 x.1, .int .i64 x.2, undef, undef, undef], defers := [] } ∧
      NoLate a3 (xs.take i) ∧ W'.heap[w.heap.size + 1]? = some (.cells #[.int .i64 a3] 3 (0, 0)) ∧ W'.heap[w.heap.size + 1 + 1]? = some (.cells #[.bool false] 4 (0, 0)) ∧ Below w.heap.size w W')
    ?hAx ?assign ?body ?done ?stop
  case hI => exact fun i X Y ⟨h1, h2, h3, h4⟩ hs => ⟨h1, hs.same _ _ h2 (by omega) (fun _ => rfl), hs.same _ _ h3 (by omega) (fun _ => rfl), Below_istep_ h4 (Nat.le_refl _) hs (by omega) (by omega)⟩
  case hIx => exact fun cd i X Y ⟨h1, h2, h3, h4⟩ hs => ⟨h1, h2, hs.same _ _ h3 (by omega) (fun _ => rfl), Below_istep_ h4 (Nat.le_refl _) hs (by omega) (by omega)⟩
  case hAx => exact fun i x a' _ X Y ⟨h0, h1, h2, h3, h4⟩ hs => ⟨h0, h1, hs.same _ _ h2 (by omega) (fun _ => rfl), hs.same _ _ h3 (by omega) (fun _ => rfl), Below_istep_ h4 (Nat.le_refl _) hs (by omega) (by omega)⟩
  case assign =>
    rintro l' i x vs W' K hx hi hv hsz hK
    unfold RvW at hv
    subst hv
    simp only [List.zip_toArray, List.zip_cons_cons, List.zip_nil_right, List.zip_nil_left, List.size_toArray, List.foldl_toArray', List.foldl_cons, List.foldl_nil, List.setIfInBounds_toArray, List.set_cons_zero, List.set_cons_succ, List.length_cons, List.length_nil]
    have Hi := Aside0.mk hi
    have HK := Aside0.mk hK
    clear hseq hi hK hx7 hx8 hb5
    go_wp2_with (first | ((with_reducible refine regIn_lit_ ?hnd ?hlo ?_); (case hnd => kernel_rfl); (case hlo => rintro ⟨_, _, h⟩; exact h)) | gi_step)
    exact HK.out _ _ (Below.refl _ _) ⟨rfl, Hi.out⟩
  case body =>
    rintro l' i x a' W' hl' hloop hx ⟨rfl, h1, h2, h3, h4⟩ hsz
    have hc7 : W'.cell? ⟨w.heap.size + 1, 0, none⟩ = some (.int .i64 a3) := (blk_cell h2 0).trans rfl
    have hc8 : W'.cell? ⟨w.heap.size + 1 + 1, 0, none⟩ = some (.bool false) := (blk_cell h3 0).trans rfl
    have hf8 := blk_frozen h3 0
    obtain ⟨hlt, hxe⟩ := List.getElem?_eq_some_iff.1 hx
    have hmem : x ∈ xs := List.mem_of_getElem? hx
    have htk : xs.take (i + 1) = xs.take i ++ [x] := by rw [List.take_succ_eq_append_getElem hlt, hxe]
    have H1 := Aside0.mk h1
    have H2 := Aside0.mk h2
    have H3 := Aside0.mk h3
    have H4 := Aside0.mk h4
    have HM := Aside0.mk hmem
    have HT := Aside0.mk htk
    have Q2 := Aside0.mk q2
    have HSZ := Aside0.mk hsz
    clear hseq h1 h2 h3 h4 hx7 hx8 hb5 hx hxe hlt hmem htk hloop hl' q2 hsz
    by_cases hc : x.2 > a3
    · have hcb : decide (x.2 > a3) = true := decide_eq_true hc
      have HC := Aside0.mk hc
      clear hc
      go_wp2_with (first | ((with_reducible refine regIn_lit_ ?hnd ?hlo ?_); (case hnd => kernel_rfl); (case hlo => rintro ⟨_, _, h⟩; exact h)) | gi_step)
      refine ⟨BKeep.of_block (w.heap.size + 1 + 1) (by simp [World.setCell]) (fun k _ hne => Below.heap_setCell _ _ _ k hne) ⟨_, H3.out, rfl⟩ (fun _ => rfl) (fun hh => by have := Q2.out; have := hh.1; omega), rfl, ⟨x, HM.out, HC.out⟩, blk_put (cs := #[.bool false]) H3.out 0 _ rfl, ?_⟩
      exact H4.out.setCell (p := ⟨w.heap.size + 1 + 1, 0, none⟩) (by show w.heap.size ≤ w.heap.size + 1 + 1; omega) _
    · have hcb : decide (x.2 > a3) = false := decide_eq_false hc
      have HC := Aside0.mk hc
      clear hc
      go_wp2_with (first | ((with_reducible refine regIn_lit_ ?hnd ?hlo ?_); (case hnd => kernel_rfl); (case hlo => rintro ⟨_, _, h⟩; exact h)) | gi_step)
      refine ⟨BKeep.refl _ _ _ _ _ _, ?_, H2.out, H3.out, H4.out⟩
      rw [HT.out]
      exact fun t ht => (List.mem_append.1 ht).elim (H1.out t) (fun h_ => by rw [List.mem_singleton.1 h_]; have h2_ := HC.out; omega)
  case done =>
    rintro D W' hD ⟨h1, h2, h3, h4⟩ hmk
    rw [List.take_length] at h1
    have hc8 : W'.cell? ⟨w.heap.size + 1 + 1, 0, none⟩ = some (.bool false) := (blk_cell h3 0).trans rfl
    have hf8 := blk_frozen h3 0
    have H1 := Aside0.mk h1
    have H3 := Aside0.mk h3
    have H4 := Aside0.mk h4
    have Q2 := Aside0.mk q2
    have HD := Aside0.mk hD
    have HMK := Aside0.mk hmk
    clear hseq h1 h2 h3 h4 hx7 hx8 hb5 q2 hD hmk
    simp only [Exit.inBlock, Exit.then]
    go_wp2_with (first | (with_reducible refine regW_lit_ ?_) | gi_step)
    have hk' : (W'.setCell ⟨w.heap.size + 1 + 1, 0, none⟩ (.bool false)).heap[D]? = some (.deferred (some [])) := (Below.heap_setCell _ _ _ D (by have := HD.out; have := Q2.out; show D ≠ w.heap.size + 1 + 1; omega)).trans HMK.out
    refine Marks.leaves (lo := w5.heap.size) (Ds := [D]) (.cons hk' HD.out (fun E hE => by cases hE) (.nil _)) fun W2 hs => ⟨.bool r, ?res, rfl, Below_istep_ (H4.out.setCell (p := ⟨w.heap.size + 1 + 1, 0, none⟩) (by show w.heap.size ≤ w.heap.size + 1 + 1; omega) _) (Nat.le_refl _) hs (by have := Q2.out; omega) (by have := Q2.out; omega)⟩
    have hx := hs.same (w.heap.size + 1 + 1) _ (blk_put (cs := #[.bool false]) H3.out 0 (.bool false) rfl) (by omega) (fun _ => rfl)
    have hcx : W2.cell? ⟨w.heap.size + 1 + 1, 0, none⟩ = some (.bool false) := (blk_cell hx 0).trans rfl
    have hrf : r = false := by rw [← AR.out]; exact List.any_eq_false.2 (fun t ht => by simpa using H1.out t ht)
    subst hrf
    have hr : Tryz.f71.results = #[.cell 8 4] := rfl
    unfold results
    rw [hr]
    simp [go_sem, hcx]
  case stop =>
    rintro D cd i W' hD hi ⟨rfl, h1, h3, h4⟩ hmk
    have H1 := Aside0.mk h1
    have H3 := Aside0.mk h3
    have H4 := Aside0.mk h4
    have Q2 := Aside0.mk q2
    have HD := Aside0.mk hD
    have HMK := Aside0.mk hmk
    clear hseq h1 h3 h4 hx7 hx8 hb5 q2 hD hmk
    go_wp2_with (first | (with_reducible refine regW_lit_ ?_) | gi_step)
    refine Marks.leaves (lo := w5.heap.size) (Ds := [D]) (.cons (show W'.heap[D]? = _ from HMK.out) HD.out (fun E hE => by cases hE) (.nil _)) fun W2 hs => ⟨.bool r, ?res3, rfl, Below_istep_ H4.out (Nat.le_refl _) hs (by have := Q2.out; omega) (by have := Q2.out; omega)⟩
    have hx := hs.same (w.heap.size + 1 + 1) _ H3.out (by have := Q2.out; omega) (fun _ => rfl)
    have hcx : W2.cell? ⟨w.heap.size + 1 + 1, 0, none⟩ = some (.bool true) := (blk_cell hx 0).trans rfl
    have hrt : r = true := by
      rw [← AR.out]
      obtain ⟨t, ht, hc⟩ := H1.out
      exact List.any_eq_true.2 ⟨t, ht, decide_eq_true hc⟩
    subst hrt
    have hr : Tryz.f71.results = #[.cell 8 4] := rfl
    unfold results
    rw [hr]
    simp [go_sem, hcx]
end Go.Proofs.YtlmglnobdcgbeaaGreat.P
namespace Go.Proofs.YtlmglnobdcgbeaaGreat.P
open Go.RowKit Go.Proofs.YtlmglnobdcgbeaaGreatW.PrintWords Go.Proofs.YtlmglnobdcgbeaaGreatW.PrintLast Go.Proofs.YtlmglnobdcgbeaaGreatW.PrintMore
attribute [local go_sem] max2_int min2_int max_two min_two max_three min_three max_four min_four
mutual
def walkmillref04_Taken.l0 : Nat → List Int → Int → List Int → List Int → List Int → Int → List (S67) → List Int → Option (List Int)
 | 0, _, _, _, _, _, _, _, _ => none
 | k + 1, x1, x2, x3, x9, x10, x11, x102000, x102001 => if x11 < (x1.length : Int) then (walkmillref04_Taken.l1 k x1 x2 x3 x9 x10 x11 0 0 x102000 x102001) else (some x9)
def walkmillref04_Taken.l1 : Nat → List Int → Int → List Int → List Int → List Int → Int → Int → Int → List (S67) → List Int → Option (List Int)
 | 0, _, _, _, _, _, _, _, _, _, _ => none
 | k + 1, x1, x2, x3, x9, x10, x11, x12, x13, x102000, x102001 => if x13 < x2 then (if 0 ≤ x13 then (if x13 < (x10.length : Int) then (if 0 ≤ x12 then (if x12 < (x10.length : Int) then (if (rd x10 x13) < (rd x10 x12) then (walkmillref04_Taken.l1 k x1 x2 x3 x9 x10 x11 x13 (wrap64 (x13 + 1)) x102000 x102001) else (walkmillref04_Taken.l1 k x1 x2 x3 x9 x10 x11 x12 (wrap64 (x13 + 1)) x102000 x102001)) else (none)) else (none)) else (none)) else (none)) else (if 0 ≤ x12 then (if x12 < (x10.length : Int) then (if 0 ≤ x11 then (if x11 < (x1.length : Int) then (if 0 ≤ (rd x1 x11) then (if (rd x1 x11) < (x102000.length : Int) then (if x9.length < 17592186044416 then (if (rd x1 x11) < (x3.length : Int) then (walkmillref04_Taken.l0 k x1 x2 x3 (x9 ++ [mx (rd x10 x12) ((rd_T67 x102000 (rd x1 x11)).f1)]) (x10.set (x12 : Int).toNat (wrap64 ((mx (rd x10 x12) ((rd_T67 x102000 (rd x1 x11)).f1)) + (rd x3 (rd x1 x11))))) (wrap64 (x11 + 1)) x102000 x102001) else (none)) else (none)) else (none)) else (none)) else (none)) else (none)) else (none)) else (none))
end
def walkmillref04_Taken.f (k : Nat) (l0_0 : List (S67)) (l0_1 : List Int) (l1 : List Int) (a2 : Int) (l3 : List Int) : Option (List Int) := if 0 ≤ a2 then (if (a2 : Int).toNat ≤ 35184372088832 then (walkmillref04_Taken.l0 k l1 a2 l3 (([] : List Int)) (List.replicate (a2 : Int).toNat 0) 0 l0_0 l0_1) else (none)) else (none)
theorem walkmillref04_Taken.mono_l : ∀ k, (∀ y0 y1 y2 y3 y4 y5 y6 y7, LeO (walkmillref04_Taken.l0 k y0 y1 y2 y3 y4 y5 y6 y7) (walkmillref04_Taken.l0 (k + 1) y0 y1 y2 y3 y4 y5 y6 y7)) ∧ (∀ y0 y1 y2 y3 y4 y5 y6 y7 y8 y9, LeO (walkmillref04_Taken.l1 k y0 y1 y2 y3 y4 y5 y6 y7 y8 y9) (walkmillref04_Taken.l1 (k + 1) y0 y1 y2 y3 y4 y5 y6 y7 y8 y9))
 | 0 => ⟨fun _ _ _ _ _ _ _ _ r h => by simp [walkmillref04_Taken.l0] at h, fun _ _ _ _ _ _ _ _ _ _ r h => by simp [walkmillref04_Taken.l1] at h⟩
 | k + 1 => by
  obtain ⟨ih0, ih1⟩ := walkmillref04_Taken.mono_l k
  refine ⟨?_, ?_⟩
  ·intro y0 y1 y2 y3 y4 y5 y6 y7
   unfold walkmillref04_Taken.l0
   repeat' first
   | (with_reducible exact ih0 _ _ _ _ _ _ _ _)
   | (with_reducible exact ih1 _ _ _ _ _ _ _ _ _ _)
   | (with_reducible exact LeO.refl _)
   | (with_reducible exact LeO.none _)
   | (with_reducible refine LeO.ite ?_ ?_)
   | (with_reducible refine LeO.bind ?_ (fun _ => ?_))
   | exact ih0 _ _ _ _ _ _ _ _
   | exact ih1 _ _ _ _ _ _ _ _ _ _
   | exact LeO.none _
   | refine LeO.ite ?_ ?_
   | refine LeO.bind ?_ (fun _ => ?_)
  ·intro y0 y1 y2 y3 y4 y5 y6 y7 y8 y9
   unfold walkmillref04_Taken.l1
   repeat' first
   | (with_reducible exact ih0 _ _ _ _ _ _ _ _)
   | (with_reducible exact ih1 _ _ _ _ _ _ _ _ _ _)
   | (with_reducible exact LeO.refl _)
   | (with_reducible exact LeO.none _)
   | (with_reducible refine LeO.ite ?_ ?_)
   | (with_reducible refine LeO.bind ?_ (fun _ => ?_))
   | exact ih0 _ _ _ _ _ _ _ _
   | exact ih1 _ _ _ _ _ _ _ _ _ _
   | exact LeO.none _
   | refine LeO.ite ?_ ?_
   | refine LeO.bind ?_ (fun _ => ?_)
theorem walkmillref04_Taken.mono : ∀ a0 a1 a2 a3 a4 k, LeO (walkmillref04_Taken.f k a0 a1 a2 a3 a4) (walkmillref04_Taken.f (k + 1) a0 a1 a2 a3 a4) := by
 intro a0 a1 a2 a3 a4 k
 obtain ⟨ih0, ih1⟩ := walkmillref04_Taken.mono_l k
 unfold walkmillref04_Taken.f
 repeat' first
   | (with_reducible exact ih0 _ _ _ _ _ _ _ _)
   | (with_reducible exact ih1 _ _ _ _ _ _ _ _ _ _)
   | (with_reducible exact LeO.refl _)
   | (with_reducible exact LeO.none _)
   | (with_reducible refine LeO.ite ?_ ?_)
   | (with_reducible refine LeO.bind ?_ (fun _ => ?_))
   | exact ih0 _ _ _ _ _ _ _ _
   | exact ih1 _ _ _ _ _ _ _ _ _ _
   | exact LeO.none _
   | refine LeO.ite ?_ ?_
   | refine LeO.bind ?_ (fun _ => ?_)
def walkmillref04_Taken.T9 : Bool × List (List Nat × List Nat) := (true, [([], []), ([], []), ([0, 1], [0, 1]), ([2], [2]), ([], []), ([], []), ([4, 5], [4, 5]), ([6], [6]), ([3, 7], [3, 7])])
def walkmillref04_Taken.B9 : List Nat := [0, 0, 3, 7, 0, 0, 48, 112, 255]
theorem walkmillref04_Taken.tab9 : rtab .any (opsOf Tryz.f69 9) = walkmillref04_Taken.T9 := by kernel_rfl
theorem walkmillref04_Taken.bits9 : waitsOk walkmillref04_Taken.T9.2 walkmillref04_Taken.B9 = true := by kernel_rfl
def walkmillref04_Taken.T11 : Bool × List (List Nat × List Nat) := (true, [([], []), ([], []), ([0, 1], [0, 1]), ([2], [2]), ([], []), ([4], [4]), ([], []), ([], []), ([6, 7], [6, 7]), ([8], [8]), ([5, 9], [5, 9]), ([10], [10]), ([11], [11]), ([3, 12], [3, 12]), ([13, 0, 1, 2, 3, 4, 5, 6, 7, 8, 9, 10, 11, 12, 13], [13])])
def walkmillref04_Taken.B11 : List Nat := [0, 0, 3, 7, 0, 16, 0, 0, 192, 448, 1008, 2032, 4080, 8191, 16383]
theorem walkmillref04_Taken.tab11 : rtab .any (opsOf Tryz.f69 11) = walkmillref04_Taken.T11 := by kernel_rfl
theorem walkmillref04_Taken.bits11 : waitsOk walkmillref04_Taken.T11.2 walkmillref04_Taken.B11 = true := by kernel_rfl
set_option maxHeartbeats 8000000 in
set_option maxRecDepth 100000 in
theorem walkmillref04_Taken.calls (k : Nat) (A0_0 : Option Addr) (c0_0 : Nat) (l0_0 : List (S67)) (A0_1 : Option Addr) (c0_1 : Nat) (l0_1 : List Int) (A1 : Option Addr) (c1 : Nat) (l1 : List Int) (a2 : Int) (A3 : Option Addr) (c3 : Nat) (l3 : List Int) (r : List Int) (w : World) (hr0_0 : Kd.C k67 w A0_0 l0_0.length l0_0) (hc0_0 : l0_0.length ≤ c0_0) (hr0_1 : Kd.C (Kd.int .i64) w A0_1 l0_1.length l0_1) (hc0_1 : l0_1.length ≤ c0_1) (hr1 : Kd.C (Kd.int .i64) w A1 l1.length l1) (hc1 : l1.length ≤ c1) (hr3 : Kd.C (Kd.int .i64) w A3 l3.length l3) (hc3 : l3.length ≤ c3) (h : walkmillref04_Taken.f k l0_0 l0_1 l1 a2 l3 = some r) :
  Calls Tryz.prog 69 #[.agg #[.slice A0_0 l0_0.length c0_0, .slice A0_1 l0_1.length c0_1], .slice A1 l1.length c1, .int .i64 a2, .slice A3 l3.length c3] w fun e w' => ∃ v0_ : Value, e = .returned (v0_) ∧ Kd.R (Kd.int .i64) 3 w' w.heap.size (fun _ => True) v0_ r ∧ Below w.heap.size w w' := by
 have hu25 := Tryz.underlying25
 have HR0_0 := Aside0.mk hr0_0
 have HC0_0 := Aside0.mk hc0_0
 clear hr0_0 hc0_0
 have HR0_1 := Aside0.mk hr0_1
 have HC0_1 := Aside0.mk hc0_1
 clear hr0_1 hc0_1
 have HR1 := Aside0.mk hr1
 have HC1 := Aside0.mk hc1
 clear hr1 hc1
 have HR3 := Aside0.mk hr3
 have HC3 := Aside0.mk hc3
 clear hr3 hc3
 have HB := Aside0.mk (Below.refl w.heap.size w)
 have H : (if 0 ≤ a2 then (if (a2 : Int).toNat ≤ 35184372088832 then (walkmillref04_Taken.l0 k l1 a2 l3 (([] : List Int)) (List.replicate (a2 : Int).toNat 0) 0 l0_0 l0_1) else (none)) else (none)) = some r := h
 clear h
 obtain ⟨y102, hy102⟩ : ∃ y_ : List Int, y_ = (([] : List Int)) := ⟨_, rfl⟩
 replace H : (if 0 ≤ a2 then (if (a2 : Int).toNat ≤ 35184372088832 then (walkmillref04_Taken.l0 k l1 a2 l3 y102 (List.replicate (a2 : Int).toNat 0) 0 l0_0 l0_1) else (none)) else (none)) = some r := yy hy102 H
 have Ny102 := Aside0.mk hy102
 clear hy102
 by_cases c5 : 0 ≤ a2
 ·rw [if_pos c5] at H
  have c5b0 := eq_true c5
  have c5b1 : decide (0 ≤ a2) = true := decide_eq_true c5
  clear c5
  by_cases c6 : (a2 : Int).toNat ≤ 35184372088832
  ·rw [if_pos c6] at H
   have c6b0 := eq_true c6
   have c6b1 : decide ((a2 : Int).toNat ≤ 35184372088832) = true := decide_eq_true c6
   clear c6
   obtain ⟨y105, hy105⟩ : ∃ y_ : List Int, y_ = (List.replicate (a2 : Int).toNat 0) := ⟨_, rfl⟩
   replace H : (walkmillref04_Taken.l0 k l1 a2 l3 y102 y105 0 l0_0 l0_1) = some r := yy hy105 H
   have Ny105 := Aside0.mk hy105
   clear hy105
   have H' := Aside0.mk H
   clear H
   go_enter Tryz.func69, Tryz.ntmps69
   try go_wp2_with (first | ((with_reducible refine gate_dst (N := 4) rfl ?_); refine bx 4 #[.slice A0_0 l0_0.length c0_0, .slice A0_1 l0_1.length c0_1] 25 ?_; intro gb101 hg w7 hbox hb; have BK101 := hbox; have GW101 := gs HB hg; have GE101 := gs HB hg; replace HB := bs HB hb; clear hb hbox hg))
   replace BK101 := Aside0.mk (blk_drew BK101.out)
   replace HB := Aside0.mk (below_drew1 HB.out)
   refine start_ (n := 5) (S := fun w' => True) (ds := []) #[false, false, false, false, false] (by kernel_rfl) rfl rfl trivial (fun hHeld => ?_)
   generalize w7.drew = w8 at BK101 HB hHeld ⊢
   refine pu 1 16 ?_
   refine join_ (σ := Value × Value) 1 #[true, true, true, true, false] (fun s_ => [(15, s_.1), (17, s_.2), (9, s_.1)]) (fun s_ w' => (Kd.R (Kd.int .i64) 3 w' w.heap.size (fun k_ => some k_ ≠ (s_.2 : Value).ownBlock) s_.1 y102) ∧ (Kd.R (Kd.int .i64) 3 w' w.heap.size (fun k_ => some k_ ≠ (s_.1 : Value).ownBlock) s_.2 y105) ∧ (w'.heap[gb101]? = some (.cells #[.slice A0_0 l0_0.length c0_0, .slice A0_1 l0_1.length c0_1] 25 (0, 0))) ∧ (Below w.heap.size w w')) ?_ ?_
   rotate_left
   ·intro hCont
    refine two_ (i := 0) (j := 2) (Ni := some 15) (Nj := some 17) #[true, true, false, false, false] #[false, true, true, false, false] rfl rfl rfl rfl (by kernel_rfl) (by decide) (by decide) (fun K hK => ?_) (fun K hK => ?_)
    ·skip
     refine Kd.R_lit_step (Kd.int .i64) _ 3 ?hg (N := 15) ?hd (xs := ([] : List Int)) (inner := []) (ok := fun _ => True) (okp := fun _ => True) ?hr ?hp (fun _ hk => hk) trivial (Below.refl _ _) (Nat.le_refl _) (by simp) ?_; (case hd => rfl); (case hg => rfl); (case hr => first | (go_simp; done) | (go_simp; rfl)); (case hp => exact (Reps.none _ _))
     intro v103 w9 ho10 hb hg_ hnew_
     clear hg_ hnew_
     (first | rw [← Ny102.out] at ho10 | (simp only [Int.reduceToNat] at ho10; rw [← Ny102.out] at ho10))
     have HO104 := rl ho10 HB
     replace BK101 := bb BK101 hb
     replace HB := bs HB hb
     clear hb ho10
     refine hK.out _ _ trivial (fun hHeld => ?_)
     clear hK K
     refine norm_ (a' := ?_) ?_ ?_
     rotate_left
     ·show Act.put _ (some 15) _ = _
      simp only [Act.put, List.setIfInBounds_toArray, List.set_cons_zero, List.set_cons_succ, i64_w, i32_w]
      rfl
     refine pu 3 9 ?_
     refine on 2 (fun K hK => ?_)
     refine Kd.R_make_step (Kd.int .i64) _ 3 (by rfl) (N := 17) rfl 23 _ _ rfl a2 rfl rfl Tryz.underlying23 (.int .i64 0) 8 info3 rfl (by decide) (by omega) 0 (ok := fun _ => True) (okp := fun _ => True) rfl (fun _ hk => hk) trivial (dT) (Nat.le_trans (Nat.mul_le_mul_right _ (dT : a2.toNat ≤ 35184372088832)) (by omega)) (Below.refl _ _) (Nat.le_refl _) ?_
     intro v106 w11 ho12 hb hg_ hnew_
     clear hg_ hnew_
     (first | rw [← Ny105.out] at ho12 | (simp only [Int.reduceToNat] at ho12; rw [← Ny105.out] at ho12))
     have HO107 := Aside0.mk (Kd.R_lower (Kd.R_new' ho12 (Kd.R_lt (pR HO104.out))) (below_size (pE HB)))
     replace HO104 := re HO104 ho12 hb
     replace BK101 := bb BK101 hb
     replace HB := bs HB hb
     clear hb ho12
     refine hK.out _ _ trivial (fun hHeld => ?_)
     clear hK K
     refine norm_ (a' := ?_) ?_ ?_
     rotate_left
     ·show Act.put _ (some 17) _ = _
      simp only [Act.put, List.setIfInBounds_toArray, List.set_cons_zero, List.set_cons_succ, i64_w, i32_w]
      rfl
     exact norm_ (by simp only [putAll, Act.put, List.setIfInBounds_toArray, List.set_cons_zero, List.set_cons_succ]) (hCont (v103, v106) _ ⟨(by refine pR ?_; exact Kd.R_mono HO104.out (fun _ hk => hk.2)), (by refine pR ?_; exact Kd.R_mono HO107.out (fun _ hk => hk.2)), (pB BK101.out), (pE HB)⟩)
    ·skip
     refine Kd.R_make_step (Kd.int .i64) _ 3 (by rfl) (N := 17) rfl 23 _ _ rfl a2 rfl rfl Tryz.underlying23 (.int .i64 0) 8 info3 rfl (by decide) (by omega) 0 (ok := fun _ => True) (okp := fun _ => True) rfl (fun _ hk => hk) trivial (dT) (Nat.le_trans (Nat.mul_le_mul_right _ (dT : a2.toNat ≤ 35184372088832)) (by omega)) (Below.refl _ _) (Nat.le_refl _) ?_
     intro v106 w9 ho10 hb hg_ hnew_
     clear hg_ hnew_
     (first | rw [← Ny105.out] at ho10 | (simp only [Int.reduceToNat] at ho10; rw [← Ny105.out] at ho10))
     have HO107 := rl ho10 HB
     replace BK101 := bb BK101 hb
     replace HB := bs HB hb
     clear hb ho10
     refine hK.out _ _ trivial (fun hHeld => ?_)
     clear hK K
     refine norm_ (a' := ?_) ?_ ?_
     rotate_left
     ·show Act.put _ (some 17) _ = _
      simp only [Act.put, List.setIfInBounds_toArray, List.set_cons_zero, List.set_cons_succ, i64_w, i32_w]
      rfl
     refine on 0 (fun K hK => ?_)
     refine Kd.R_lit_step (Kd.int .i64) _ 3 ?hg (N := 15) ?hd (xs := ([] : List Int)) (inner := []) (ok := fun _ => True) (okp := fun _ => True) ?hr ?hp (fun _ hk => hk) trivial (Below.refl _ _) (Nat.le_refl _) (by simp) ?_; (case hd => rfl); (case hg => rfl); (case hr => first | (go_simp; done) | (go_simp; rfl)); (case hp => exact (Reps.none _ _))
     intro v103 w11 ho12 hb hg_ hnew_
     clear hg_ hnew_
     (first | rw [← Ny102.out] at ho12 | (simp only [Int.reduceToNat] at ho12; rw [← Ny102.out] at ho12))
     have HO104 := Aside0.mk (Kd.R_lower (Kd.R_new' ho12 (Kd.R_lt (pR HO107.out))) (below_size (pE HB)))
     replace HO107 := re HO107 ho12 hb
     replace BK101 := bb BK101 hb
     replace HB := bs HB hb
     clear hb ho12
     refine hK.out _ _ trivial (fun hHeld => ?_)
     clear hK K
     refine norm_ (a' := ?_) ?_ ?_
     rotate_left
     ·show Act.put _ (some 15) _ = _
      simp only [Act.put, List.setIfInBounds_toArray, List.set_cons_zero, List.set_cons_succ, i64_w, i32_w]
      rfl
     refine pu 3 9 ?_
     exact norm_ (by simp only [putAll, Act.put, List.setIfInBounds_toArray, List.set_cons_zero, List.set_cons_succ]) (hCont (v103, v106) _ ⟨(by refine pR ?_; exact Kd.R_mono HO104.out (fun _ hk => hk.2)), (by refine pR ?_; exact Kd.R_mono HO107.out (fun _ hk => hk.2)), (pB BK101.out), (pE HB)⟩)
   rintro ⟨v103, v106⟩ w13 ⟨h0_, h1_, h2_, h3_⟩
   have n0_ : Aside0 (Kd.R (Kd.int .i64) 3 w13 w.heap.size (fun k_ => some k_ ≠ (v106 : Value).ownBlock) v103 y102) := ⟨h0_⟩
   have n1_ : Aside0 (Kd.R (Kd.int .i64) 3 w13 w.heap.size (fun k_ => some k_ ≠ (v103 : Value).ownBlock) v106 y105) := ⟨h1_⟩
   have n2_ : Aside0 (w13.heap[gb101]? = some (.cells #[.slice A0_0 l0_0.length c0_0, .slice A0_1 l0_1.length c0_1] 25 (0, 0))) := ⟨h2_⟩
   have n3_ : Aside0 (Below w.heap.size w w13) := ⟨h3_⟩
   clear BK101 HB h0_ h1_ h2_ h3_
   have HO104 := n0_
   have HO107 := n1_
   have BK101 := n2_
   have HB := n3_
   clear n0_ n1_ n2_ n3_
   have hHeld := trivial
   refine norm_ (a' := ?_) ?_ ?_
   rotate_left
   ·simp only [putAll, Act.put, List.setIfInBounds_toArray, List.set_cons_zero, List.set_cons_succ]
    rfl
   refine pu 4 10 ?_
   refine done_ (by kernel_rfl) ?_
   try go_wp2
   go_loopg [9, 11] k (fun kq v9 v11 w' => ∃ (x9_1 : List Int) (x10_1 : List Int) (x11_1 : Int), v11 = .int .i64 x11_1 ∧ Aside0 (walkmillref04_Taken.l0 kq l1 a2 l3 x9_1 x10_1 x11_1 l0_0 l0_1 = some r) ∧ Aside0 (kq ≤ k) ∧ Aside0 (Kd.R (Kd.int .i64) 3 w' w.heap.size (fun k_ => some k_ ≠ (v106 : Value).ownBlock) v9 x9_1) ∧ Aside0 (Kd.R (Kd.int .i64) 3 w' w.heap.size (fun k_ => some k_ ≠ (v9 : Value).ownBlock) v106 x10_1) ∧ Aside0 (w'.heap[gb101]? = some (.cells #[(.slice A0_0 l0_0.length c0_0), (.slice A0_1 l0_1.length c0_1)] 25 (0, 0))) ∧ Aside0 (Below w.heap.size w w'))
   case atStart => exact ⟨(y102), (y105), (0), (by first | rfl | (simp; done) | (simp [*]; done)), H', ⟨Nat.le_refl _⟩, ⟨by (with_reducible repeat (first | apply Kd.R_alloc | apply Kd.R_drewN | apply Kd.R_drew)); exact HO104.out⟩, ⟨by (with_reducible repeat (first | apply Kd.R_alloc | apply Kd.R_drewN | apply Kd.R_drew)); exact HO107.out⟩, ⟨by (with_reducible repeat (first | refine blk_drewN ?_ _ | refine blk_drew ?_ | refine blk_alloc ?_ _)); exact BK101.out⟩, ⟨pE HB⟩⟩
   case round =>
    clear H'
    try clear c1
    try clear p2
    try clear c3
    try clear c5
    try clear c5b0
    try clear c5b1
    try clear c6
    try clear c6b0
    try clear c6b1
    obtain ⟨x9_1, x10_1, x11_1, rfl, HA, HK1, HO_9, HO_10, BK101, HB⟩ := hrel
    cases gk with
    | zero => exact absurd HA.out (by simp [walkmillref04_Taken.l0])
    | succ k1 =>
     have H := HA.out
     clear HA
     simp only [walkmillref04_Taken.l0] at H
     by_cases c14 : x11_1 < (l1.length : Int)
     ·rw [if_pos c14] at H
      have c14b0 : decide (x11_1 < (l1.length : Int)) = true := decide_eq_true c14
      clear c14
      have H' := Aside0.mk H
      clear H
      go_wp2
      go_loopg [12, 13] k1 (fun kq v12 v13 w' => ∃ (x12_2 : Int) (x13_2 : Int), v12 = .int .i64 x12_2 ∧ v13 = .int .i64 x13_2 ∧ Aside0 (walkmillref04_Taken.l1 kq l1 a2 l3 x9_1 x10_1 x11_1 x12_2 x13_2 l0_0 l0_1 = some r) ∧ Aside0 (kq ≤ k1) ∧ Aside0 (Kd.R (Kd.int .i64) 3 w' w.heap.size (fun k_ => some k_ ≠ (v106 : Value).ownBlock) u9 x9_1) ∧ Aside0 (Kd.R (Kd.int .i64) 3 w' w.heap.size (fun k_ => some k_ ≠ (u9 : Value).ownBlock) v106 x10_1) ∧ Aside0 (w'.heap[gb101]? = some (.cells #[(.slice A0_0 l0_0.length c0_0), (.slice A0_1 l0_1.length c0_1)] 25 (0, 0))) ∧ Aside0 (Below w.heap.size w w'))
      case atStart => exact ⟨(0), (0), (by first | rfl | (simp; done) | (simp [*]; done)), (by first | rfl | (simp; done) | (simp [*]; done)), H', ⟨Nat.le_refl _⟩, ⟨by (with_reducible repeat (first | apply Kd.R_alloc | apply Kd.R_drewN | apply Kd.R_drew)); exact HO_9.out⟩, ⟨by (with_reducible repeat (first | apply Kd.R_alloc | apply Kd.R_drewN | apply Kd.R_drew)); exact HO_10.out⟩, ⟨by (with_reducible repeat (first | refine blk_drewN ?_ _ | refine blk_drew ?_ | refine blk_alloc ?_ _)); exact BK101.out⟩, ⟨pE HB⟩⟩
      case round =>
       clear H'
       try clear c1
       try clear p2
       try clear c3
       try clear c5
       try clear c5b0
       try clear c5b1
       try clear c6
       try clear c6b0
       try clear c6b1
       try clear c14
       try clear c14b0
       try clear p2
       obtain ⟨x12_2, x13_2, rfl, rfl, HA, HK2, HO_9, HO_10, BK101, HB⟩ := hrel
       cases gk with
       | zero => exact absurd HA.out (by simp [walkmillref04_Taken.l1])
       | succ k2 =>
        have H := HA.out
        clear HA
        simp only [walkmillref04_Taken.l1] at H
        by_cases c15 : x13_2 < a2
        ·rw [if_pos c15] at H
         have c15b0 : decide (x13_2 < a2) = true := decide_eq_true c15
         clear c15
         by_cases c16 : 0 ≤ x13_2
         ·rw [if_pos c16] at H
          have c16b0 : decide (0 ≤ x13_2) = true := decide_eq_true c16
          clear c16
          by_cases c17 : x13_2 < (x10_1.length : Int)
          ·rw [if_pos c17] at H
           have c17b0 : decide (x13_2 < (x10_1.length : Int)) = true := decide_eq_true c17
           clear c17
           by_cases c18 : 0 ≤ x12_2
           ·rw [if_pos c18] at H
            have c18b0 : decide (0 ≤ x12_2) = true := decide_eq_true c18
            clear c18
            by_cases c19 : x12_2 < (x10_1.length : Int)
            ·rw [if_pos c19] at H
             have c19b0 : decide (x12_2 < (x10_1.length : Int)) = true := decide_eq_true c19
             clear c19
             by_cases c20 : (rd x10_1 x13_2) < (rd x10_1 x12_2)
             ·rw [if_pos c20] at H
              have c20b0 : decide ((rd x10_1 x13_2) < (rd x10_1 x12_2)) = true := decide_eq_true c20
              clear c20
              have H' := Aside0.mk H
              clear H
              try go_wp2
              replace HO_9 := Aside0.mk (Kd.R_drew HO_9.out)
              replace HO_10 := Aside0.mk (Kd.R_drew HO_10.out)
              replace BK101 := Aside0.mk (blk_drew BK101.out)
              replace HB := Aside0.mk (below_drew1 HB.out)
              obtain ⟨Ao22, co22, eo22⟩ := Kd.R_slice HO_10.out
              (first | subst eo22 | (injection eo22 with f1_ f2_ f3_; have f4_ := f1_.symm; have f5_ := f3_.symm; clear f1_ f2_ f3_; subst f4_; subst f5_))
              have p117 : 0 ≤ (x13_2 : Int) := dT
              have q117 : x13_2 < (x10_1.length : Int) := dT
              obtain ⟨ad117, e117, hx117_0⟩ := Kd.at_int (Kd.R_reads' HO_10.out).2.2 x13_2 p117 q117
              cases e117
              replace p117 := eq_true p117
              replace q117 := eq_true q117
              have p118 : 0 ≤ (x12_2 : Int) := dT
              have q118 : x12_2 < (x10_1.length : Int) := dT
              obtain ⟨ad118, e118, hx118_0⟩ := Kd.at_int (Kd.R_reads' HO_10.out).2.2 x12_2 p118 q118
              obtain rfl : ad117 = ad118 := (by injection e118)
              replace p118 := eq_true p118
              replace q118 := eq_true q118
              refine start_ (n := 9) (S := fun w' => w'.cell? (ad117.add (x13_2).toNat) = some (.int .i64 (rd x10_1 x13_2)) ∧ w'.cell? (ad117.add (x12_2).toNat) = some (.int .i64 (rd x10_1 x12_2))) (ds := []) #[false, false, false, false, false, false, false, false, false] (by kernel_rfl) rfl rfl ⟨hx117_0, hx118_0⟩ (fun hHeld => ?_); refine with_tabW walkmillref04_Taken.tab9 walkmillref04_Taken.bits9 (fun HT_ HW_ => ?_)
              generalize wr.drew = w21 at HO_9 HO_10 BK101 HB hx117_0 hx118_0 hHeld ⊢
              refine pu 0 29 ?_
              refine pu 1 30 ?_
              refine pu 2 31 ?_
              refine pu 4 33 ?_
              refine pu 5 34 ?_
              refine pu 6 35 ?_
              refine tk 3 32 hHeld ?_
              refine tk 7 36 hHeld ?_
              refine pu 8 37 ?_
              refine done_ (done_of HT_.out (by kernel_rfl)) ?_
              try go_wp2
              go_roundg k2
              case measure => have := HK1.out; have := HK2.out; omega
              case rel => exact ⟨(x13_2), (wrap64 (x13_2 + 1)), (by first | rfl | (simp; done) | (simp [*]; done)), (by first | rfl | (simp; done) | (simp [*]; done)), H', ⟨by have := HK1.out; have := HK2.out; omega⟩, ⟨by (with_reducible repeat (first | apply Kd.R_alloc | apply Kd.R_drewN | apply Kd.R_drew)); exact HO_9.out⟩, ⟨by (with_reducible repeat (first | apply Kd.R_alloc | apply Kd.R_drewN | apply Kd.R_drew)); exact HO_10.out⟩, ⟨by (with_reducible repeat (first | refine blk_drewN ?_ _ | refine blk_drew ?_ | refine blk_alloc ?_ _)); exact BK101.out⟩, ⟨pE HB⟩⟩
             ·rw [if_neg c20] at H
              have c20b0 : decide ((rd x10_1 x13_2) < (rd x10_1 x12_2)) = false := decide_eq_false c20
              clear c20
              have H' := Aside0.mk H
              clear H
              try go_wp2
              replace HO_9 := Aside0.mk (Kd.R_drew HO_9.out)
              replace HO_10 := Aside0.mk (Kd.R_drew HO_10.out)
              replace BK101 := Aside0.mk (blk_drew BK101.out)
              replace HB := Aside0.mk (below_drew1 HB.out)
              obtain ⟨Ao24, co24, eo24⟩ := Kd.R_slice HO_10.out
              (first | subst eo24 | (injection eo24 with f1_ f2_ f3_; have f4_ := f1_.symm; have f5_ := f3_.symm; clear f1_ f2_ f3_; subst f4_; subst f5_))
              have p117 : 0 ≤ (x13_2 : Int) := dT
              have q117 : x13_2 < (x10_1.length : Int) := dT
              obtain ⟨ad117, e117, hx117_0⟩ := Kd.at_int (Kd.R_reads' HO_10.out).2.2 x13_2 p117 q117
              cases e117
              replace p117 := eq_true p117
              replace q117 := eq_true q117
              have p118 : 0 ≤ (x12_2 : Int) := dT
              have q118 : x12_2 < (x10_1.length : Int) := dT
              obtain ⟨ad118, e118, hx118_0⟩ := Kd.at_int (Kd.R_reads' HO_10.out).2.2 x12_2 p118 q118
              obtain rfl : ad117 = ad118 := (by injection e118)
              replace p118 := eq_true p118
              replace q118 := eq_true q118
              refine start_ (n := 9) (S := fun w' => w'.cell? (ad117.add (x13_2).toNat) = some (.int .i64 (rd x10_1 x13_2)) ∧ w'.cell? (ad117.add (x12_2).toNat) = some (.int .i64 (rd x10_1 x12_2))) (ds := []) #[false, false, false, false, false, false, false, false, false] (by kernel_rfl) rfl rfl ⟨hx117_0, hx118_0⟩ (fun hHeld => ?_); refine with_tabW walkmillref04_Taken.tab9 walkmillref04_Taken.bits9 (fun HT_ HW_ => ?_)
              generalize wr.drew = w23 at HO_9 HO_10 BK101 HB hx117_0 hx118_0 hHeld ⊢
              refine pu 0 29 ?_
              refine pu 1 30 ?_
              refine pu 2 31 ?_
              refine pu 4 33 ?_
              refine pu 5 34 ?_
              refine pu 6 35 ?_
              refine tk 3 32 hHeld ?_
              refine tk 7 36 hHeld ?_
              refine pu 8 37 ?_
              refine done_ (done_of HT_.out (by kernel_rfl)) ?_
              try go_wp2
              go_roundg k2
              case measure => have := HK1.out; have := HK2.out; omega
              case rel => exact ⟨(x12_2), (wrap64 (x13_2 + 1)), (by first | rfl | (simp; done) | (simp [*]; done)), (by first | rfl | (simp; done) | (simp [*]; done)), H', ⟨by have := HK1.out; have := HK2.out; omega⟩, ⟨by (with_reducible repeat (first | apply Kd.R_alloc | apply Kd.R_drewN | apply Kd.R_drew)); exact HO_9.out⟩, ⟨by (with_reducible repeat (first | apply Kd.R_alloc | apply Kd.R_drewN | apply Kd.R_drew)); exact HO_10.out⟩, ⟨by (with_reducible repeat (first | refine blk_drewN ?_ _ | refine blk_drew ?_ | refine blk_alloc ?_ _)); exact BK101.out⟩, ⟨pE HB⟩⟩
            ·rw [if_neg c19] at H
             exact absurd H (by simp)
           ·rw [if_neg c18] at H
            exact absurd H (by simp)
          ·rw [if_neg c17] at H
           exact absurd H (by simp)
         ·rw [if_neg c16] at H
          exact absurd H (by simp)
        ·rw [if_neg c15] at H
         have c15b0 : decide (x13_2 < a2) = false := decide_eq_false c15
         clear c15
         by_cases c25 : 0 ≤ x12_2
         ·rw [if_pos c25] at H
          have c25b0 : decide (0 ≤ x12_2) = true := decide_eq_true c25
          clear c25
          by_cases c26 : x12_2 < (x10_1.length : Int)
          ·rw [if_pos c26] at H
           have c26b0 : decide (x12_2 < (x10_1.length : Int)) = true := decide_eq_true c26
           clear c26
           by_cases c27 : 0 ≤ x11_1
           ·rw [if_pos c27] at H
            have c27b0 : decide (0 ≤ x11_1) = true := decide_eq_true c27
            clear c27
            by_cases c28 : x11_1 < (l1.length : Int)
            ·rw [if_pos c28] at H
             have c28b0 : decide (x11_1 < (l1.length : Int)) = true := decide_eq_true c28
             clear c28
             by_cases c29 : 0 ≤ (rd l1 x11_1)
             ·rw [if_pos c29] at H
              have c29b0 : decide (0 ≤ (rd l1 x11_1)) = true := decide_eq_true c29
              clear c29
              by_cases c30 : (rd l1 x11_1) < (l0_0.length : Int)
              ·rw [if_pos c30] at H
               have c30b0 : decide ((rd l1 x11_1) < (l0_0.length : Int)) = true := decide_eq_true c30
               clear c30
               obtain ⟨ji31, hji31⟩ : ∃ j_ : Int, (mx (rd x10_1 x12_2) ((rd_T67 l0_0 (rd l1 x11_1)).f1)) = j_ := ⟨_, rfl⟩
               replace H : (if x9_1.length < 17592186044416 then (if (rd l1 x11_1) < (l3.length : Int) then (walkmillref04_Taken.l0 k2 l1 a2 l3 (x9_1 ++ [ji31]) (x10_1.set (x12_2 : Int).toNat (wrap64 ((ji31) + (rd l3 (rd l1 x11_1))))) (wrap64 (x11_1 + 1)) l0_0 l0_1) else (none)) else (none)) = some r := by first | (rw [hji31] at H; exact H) | (simp only [hji31] at H ⊢; exact H)
               have hji31_ : (if (rd x10_1 x12_2) < ((rd_T67 l0_0 (rd l1 x11_1)).f1) then ((rd_T67 l0_0 (rd l1 x11_1)).f1) else (rd x10_1 x12_2)) = ji31 := hji31
               by_cases c32 : x9_1.length < 17592186044416
               ·rw [if_pos c32] at H
                have LMc32 := Aside0.mk c32
                clear c32
                obtain ⟨y111, hy111⟩ : ∃ y_ : List Int, y_ = (x9_1 ++ [ji31]) := ⟨_, rfl⟩
                replace H : (if (rd l1 x11_1) < (l3.length : Int) then (walkmillref04_Taken.l0 k2 l1 a2 l3 y111 (x10_1.set (x12_2 : Int).toNat (wrap64 ((ji31) + (rd l3 (rd l1 x11_1))))) (wrap64 (x11_1 + 1)) l0_0 l0_1) else (none)) = some r := yy hy111 H
                have Ny111 := Aside0.mk hy111
                clear hy111
                by_cases c33 : (rd l1 x11_1) < (l3.length : Int)
                ·rw [if_pos c33] at H
                 have c33b0 : decide ((rd l1 x11_1) < (l3.length : Int)) = true := decide_eq_true c33
                 clear c33
                 obtain ⟨y116, hy116⟩ : ∃ y_ : List Int, y_ = (x10_1.set (x12_2 : Int).toNat (wrap64 ((ji31) + (rd l3 (rd l1 x11_1))))) := ⟨_, rfl⟩
                 replace H : (walkmillref04_Taken.l0 k2 l1 a2 l3 y111 y116 (wrap64 (x11_1 + 1)) l0_0 l0_1) = some r := yy hy116 H
                 have Ny116 := Aside0.mk hy116
                 clear hy116
                 have H' := Aside0.mk H
                 clear H
                 try go_wp2
                 replace HO_9 := Aside0.mk (Kd.R_drew HO_9.out)
                 replace HO_10 := Aside0.mk (Kd.R_drew HO_10.out)
                 replace BK101 := Aside0.mk (blk_drew BK101.out)
                 replace HB := Aside0.mk (below_drew1 HB.out)
                 obtain ⟨Ao36, co36, eo36⟩ := Kd.R_slice HO_10.out
                 (first | subst eo36 | (injection eo36 with f1_ f2_ f3_; have f4_ := f1_.symm; have f5_ := f3_.symm; clear f1_ f2_ f3_; subst f4_; subst f5_))
                 have p108 : 0 ≤ (x12_2 : Int) := dT
                 have q108 : x12_2 < (x10_1.length : Int) := dT
                 obtain ⟨ad108, e108, hx108_0⟩ := Kd.at_int (Kd.R_reads' HO_10.out).2.2 x12_2 p108 q108
                 cases e108
                 replace p108 := eq_true p108
                 replace q108 := eq_true q108
                 have p109 : 0 ≤ (x11_1 : Int) := dT
                 have q109 : x11_1 < (l1.length : Int) := dT
                 obtain ⟨ad109, e109, hx109_0⟩ := Kd.at_int HR1.out x11_1 p109 q109
                 have hw109_0 := hx109_0
                 cases e109
                 replace hx109_0 := cut_ HB hx109_0
                 replace p109 := eq_true p109
                 replace q109 := eq_true q109
                 have p110 : 0 ≤ ((rd l1 x11_1) : Int) := dT
                 have q110 : (rd l1 x11_1) < (l0_0.length : Int) := dT
                 obtain ⟨ad110, e110, hx110_0, hx110_1, hx110_2, hx110_3⟩ := at_T67 HR0_0.out (rd l1 x11_1) p110 q110
                 have hw110_3 := hx110_3
                 have hw110_2 := hx110_2
                 have hw110_1 := hx110_1
                 have hw110_0 := hx110_0
                 cases e110
                 replace hx110_0 := cut_ HB hx110_0
                 replace hx110_1 := cut_ HB hx110_1
                 replace hx110_2 := cut_ HB hx110_2
                 replace hx110_3 := cut_ HB hx110_3
                 replace p110 := eq_true p110
                 replace q110 := eq_true q110
                 refine start_ (n := 15) (S := fun w' => w'.cell? ⟨gb101, 0, none⟩ = some (.slice (some ad110) l0_0.length c0_0) ∧ w'.cell? ⟨gb101, 1, none⟩ = some (.slice A0_1 l0_1.length c0_1) ∧ w'.cell? (ad108.add (x12_2).toNat) = some (.int .i64 (rd x10_1 x12_2)) ∧ w'.cell? (ad109.add (x11_1).toNat) = some (.int .i64 (rd l1 x11_1)) ∧ w'.cell? (ad110.add (((rd l1 x11_1)).toNat * 4)) = some (.int .i64 ((rd_T67 l0_0 (rd l1 x11_1)).f0)) ∧ w'.cell? ⟨(ad110.add (((rd l1 x11_1)).toNat * 4)).block, (ad110.add (((rd l1 x11_1)).toNat * 4)).off + 1, none⟩ = some (.int .i64 ((rd_T67 l0_0 (rd l1 x11_1)).f1)) ∧ w'.cell? ⟨(ad110.add (((rd l1 x11_1)).toNat * 4)).block, (ad110.add (((rd l1 x11_1)).toNat * 4)).off + 2, none⟩ = some (.int .i64 ((rd_T67 l0_0 (rd l1 x11_1)).f2.f0)) ∧ w'.cell? ⟨(ad110.add (((rd l1 x11_1)).toNat * 4)).block, (ad110.add (((rd l1 x11_1)).toNat * 4)).off + 3, none⟩ = some (.int .i64 ((rd_T67 l0_0 (rd l1 x11_1)).f2.f1))) (ds := []) #[false, false, false, false, false, false, false, false, false, false, false, false, false, false, false] (by kernel_rfl) rfl rfl ⟨(blk_cell BK101.out 0).trans rfl, (blk_cell BK101.out 1).trans rfl, hx108_0, (cB HB hw109_0), (cB HB hw110_0), (cB HB hw110_1), (cB HB hw110_2), (cB HB hw110_3)⟩ (fun hHeld => ?_); refine with_tabW walkmillref04_Taken.tab11 walkmillref04_Taken.bits11 (fun HT_ HW_ => ?_)
                 generalize wr.drew = w35 at HO_9 HO_10 BK101 HB hx108_0 hx109_0 hx110_0 hx110_1 hx110_2 hx110_3 hHeld ⊢
                 refine pu 0 39 ?_
                 refine pu 1 40 ?_
                 refine pu 2 41 ?_
                 refine pu 4 43 ?_
                 refine pu 6 45 ?_
                 refine pu 7 46 ?_
                 refine pu 8 47 ?_
                 refine tk 3 42 hHeld ?_
                 refine tk 5 44 hHeld ?_
                 refine tk 9 48 hHeld ?_
                 refine pu 10 49 ?_
                 refine pu 11 50 ?_
                 refine tk 12 51 hHeld ?_
                 refine pu 13 52 ?_
                 refine pu 14 14 ?_
                 refine done_ (done_of HT_.out (by kernel_rfl)) ?_
                 try go_wp2_with (first | ((with_reducible refine gate_builtin (b := .append) (xs := #[.tmp 53, .tmp 55]) rfl ?_); at_builtin; refine Kd.R_append (Kd.int .i64) (w0 := w) w.heap.size rfl (.tmp 53) (.tmp 55) 23 3 (.int .i64 0) 8 rfl Tryz.underlying23 info3 rfl (by decide) (by omega) u9 x9_1 ji31 [.int .i64 ji31] (fun k_ => some k_ ≠ (.slice (some ad108) x10_1.length co36 : Value).ownBlock) (fun _ => False) rfl rfl ?aP (fun _ hk => hk.elim) ?aF ?aO ?aB ?aS ?aL ?_; (case aP => exact rfl); (case aB => exact (pE HB)); (case aF => exact (fun k_ hk => Kd.fresh' (Kd.R_lt (pR HO_10.out)) k_ hk)); (case aO => exact (pR HO_9.out)); (case aS => exact (below_size (pE HB))); (case aL => have := LMc32.out; omega); intro v112 w37 ho hb hg hat; rw [← Ny111.out] at ho; replace HO_10 := Aside0.mk (Kd.R_after (ok := (fun _ => True)) (by refine pR ?_; exact Kd.R_mono HO_10.out (fun _ hk => ⟨trivial, hk⟩)) hg hat); replace BK101 := Aside0.mk (blk_grown (g := gb101) (o := .cells #[.slice (some ad110) l0_0.length c0_0, .slice A0_1 l0_1.length c0_1] 25 (0, 0)) (pB BK101.out) hg (Kd.R_ne HO_9.out BK101.out (by decide))); replace HB := Aside0.mk (hb); have HO113 := Aside0.mk (ho); clear HO_9; clear ho hb hg hat; have p114 : 0 ≤ (x11_1 : Int) := dT; have q114 : x11_1 < (l1.length : Int) := dT; obtain ⟨ad114, e114, hx114_0⟩ := Kd.at_int HR1.out x11_1 p114 q114; obtain rfl : ad109 = ad114 := (by injection e114); replace hx114_0 := cut_ HB hx114_0; replace p114 := eq_true p114; replace q114 := eq_true q114; have p115 : 0 ≤ ((rd l1 x11_1) : Int) := dT; have q115 : (rd l1 x11_1) < (l3.length : Int) := dT; obtain ⟨ad115, e115, hx115_0⟩ := Kd.at_int HR3.out (rd l1 x11_1) p115 q115; cases e115; replace hx115_0 := cut_ HB hx115_0; replace p115 := eq_true p115; replace q115 := eq_true q115; have p34 : 0 ≤ (x12_2 : Int) := dT; have q34 : (x12_2 : Int) < ((x10_1.length : Int) : Int) := dT; obtain ⟨go34, co34, eo34, gb34, gl34, cl34, HG34⟩ := Kd.R_form HO_10.out (by omega); (first | cases eo34 | (injection eo34 with ea_ en_ ec_; (first | subst ea_ | (injection ea_ with ea_; subst ea_)); subst ec_; clear en_)); have GB34 := Aside0.mk gb34; have GG34 := Aside0.mk HG34; clear gb34 gl34 HG34; (first | simp only [add_plain] at hx108_0 | skip); obtain ⟨hx34_0, hf34_0⟩ := Kd.R_celln 0 HO_10.out (x12_2 : Int) p34 q34; replace p34 := eq_true p34; replace q34 := eq_true q34; have n_ := Aside0.mk (Kd.R_mono (ok' := (fun k_ => some k_ ≠ (v112 : Value).ownBlock)) HO_10.out (fun k_ hk => hk.2)); clear HO_10; have HO_10 := n_; clear n_; obtain ⟨hy38_, hz38_⟩ := Kd.R_celln 0 HO_10.out (x12_2 : Int) (dT) (dT); have HP38 := Kd.R_putg HO_10.out (x12_2 : Int) (wrap64 ((ji31) + (rd l3 (rd l1 x11_1))))) | ((with_reducible refine gate_store (t := 3) (p := 68) rfl ?_); refine store_event (t := 3) (p := 68) (v := ?vo_w39) (w1 := (w37.setCell ⟨go34, (x12_2 : Int).toNat, none⟩ (.int .i64 (wrap64 ((ji31) + (rd l3 (rd l1 x11_1))))))) ?hg ?ho ?hn ?hr ?_; (case ho => rfl); (case hg => rfl); (case hn => rfl); (case hr => first | (go_simp; done) | (go_simp; rfl)); intro w39 hw; have hg : w37.grownBy w39 (some go34) := (by rw [hw]; exact HP38.2); have hp_ : Kd.R (Kd.int .i64) 3 w39 w.heap.size (fun k_ => some k_ ≠ (v112 : Value).ownBlock) (.slice (some ⟨go34, 0, none⟩) x10_1.length co36) y116 := (by rw [hw, Ny116.out]; exact HP38.1); clear HP38; replace BK101 := Aside0.mk (blk_grown (g := gb101) (o := .cells #[.slice (some ad110) l0_0.length c0_0, .slice A0_1 l0_1.length c0_1] 25 (0, 0)) (pB BK101.out) hg (Kd.R_ne HO_10.out BK101.out (by decide))); replace HO_10 := Aside0.mk (hp_); replace HO113 := Aside0.mk (Kd.R_after (v := (.slice (some ⟨go34, 0, none⟩) x10_1.length co36)) (v1 := (.slice (some ⟨go34, 0, none⟩) x10_1.length co36)) (ok := (fun _ => True)) (by refine pR ?_; exact Kd.R_mono HO113.out (fun _ hk => ⟨trivial, hk⟩)) hg (.inl rfl)); replace HB := Aside0.mk ((by rw [hw]; exact below_set (HB.out) GB34.out : Below w.heap.size w w39)); clear hg hw hp_))
                 go_roundg k2
                 case measure => have := HK1.out; have := HK2.out; omega
                 case rel => exact ⟨(y111), (y116), (wrap64 (x11_1 + 1)), (by first | rfl | (simp; done) | (simp [*]; done)), H', ⟨by have := HK1.out; have := HK2.out; omega⟩, ⟨by (with_reducible repeat (first | apply Kd.R_alloc | apply Kd.R_drewN | apply Kd.R_drew)); exact Kd.R_mono HO113.out (fun _ hk => hk.2)⟩, ⟨by (with_reducible repeat (first | apply Kd.R_alloc | apply Kd.R_drewN | apply Kd.R_drew)); exact HO_10.out⟩, ⟨by (with_reducible repeat (first | refine blk_drewN ?_ _ | refine blk_drew ?_ | refine blk_alloc ?_ _)); exact BK101.out⟩, ⟨pE HB⟩⟩
                ·rw [if_neg c33] at H
                 exact absurd H (by simp)
               ·rw [if_neg c32] at H
                exact absurd H (by simp)
              ·rw [if_neg c30] at H
               exact absurd H (by simp)
             ·rw [if_neg c29] at H
              exact absurd H (by simp)
            ·rw [if_neg c28] at H
             exact absurd H (by simp)
           ·rw [if_neg c27] at H
            exact absurd H (by simp)
          ·rw [if_neg c26] at H
           exact absurd H (by simp)
         ·rw [if_neg c25] at H
          exact absurd H (by simp)
     ·rw [if_neg c14] at H
      have c14b0 : decide (x11_1 < (l1.length : Int)) = false := decide_eq_false c14
      clear c14
      obtain rfl := Option.some.inj H
      go_wp2
      go_ret
      exact ⟨_, eT, by (with_reducible repeat (first | apply Kd.R_alloc | apply Kd.R_drewN | apply Kd.R_drew)); exact Kd.R_mono HO_9.out (fun _ hk => trivial), pE HB⟩
  ·rw [if_neg c6] at H
   exact absurd H (by simp)
 ·rw [if_neg c5] at H
  exact absurd H (by simp)
def walkmillref04_Hours.l0 : Nat → Bool → List Int → Int → List (S67) → List Int → Option (List Int)
 | 0, _, _, _, _, _ => none
 | k + 1, x1, x5, x6, x102000, x102001 => if x6 < (x102000.length : Int) then (if 0 ≤ x6 then (if x1 = true then (if x5.length < 17592186044416 then (walkmillref04_Hours.l0 k x1 (x5 ++ [(rd_T67 x102000 x6).f2.f1]) (wrap64 (x6 + 1)) x102000 x102001) else (none)) else (if x5.length < 17592186044416 then (walkmillref04_Hours.l0 k x1 (x5 ++ [(rd_T67 x102000 x6).f2.f0]) (wrap64 (x6 + 1)) x102000 x102001) else (none))) else (none)) else (some x5)
def walkmillref04_Hours.f (k : Nat) (l0_0 : List (S67)) (l0_1 : List Int) (a1 : Bool) : Option (List Int) := walkmillref04_Hours.l0 k a1 (([] : List Int)) 0 l0_0 l0_1
theorem walkmillref04_Hours.mono_l : ∀ k, (∀ y0 y1 y2 y3 y4, LeO (walkmillref04_Hours.l0 k y0 y1 y2 y3 y4) (walkmillref04_Hours.l0 (k + 1) y0 y1 y2 y3 y4))
 | 0 => fun _ _ _ _ _ r h => by simp [walkmillref04_Hours.l0] at h
 | k + 1 => by
  have ih0 := walkmillref04_Hours.mono_l k
  ·intro y0 y1 y2 y3 y4
   unfold walkmillref04_Hours.l0
   repeat' first
   | (with_reducible exact ih0 _ _ _ _ _)
   | (with_reducible exact LeO.refl _)
   | (with_reducible exact LeO.none _)
   | (with_reducible refine LeO.ite ?_ ?_)
   | (with_reducible refine LeO.bind ?_ (fun _ => ?_))
   | exact ih0 _ _ _ _ _
   | exact LeO.none _
   | refine LeO.ite ?_ ?_
   | refine LeO.bind ?_ (fun _ => ?_)
theorem walkmillref04_Hours.mono : ∀ a0 a1 a2 k, LeO (walkmillref04_Hours.f k a0 a1 a2) (walkmillref04_Hours.f (k + 1) a0 a1 a2) := by
 intro a0 a1 a2 k
 have ih0 := walkmillref04_Hours.mono_l k
 unfold walkmillref04_Hours.f
 repeat' first
   | (with_reducible exact ih0 _ _ _ _ _)
   | (with_reducible exact LeO.refl _)
   | (with_reducible exact LeO.none _)
   | (with_reducible refine LeO.ite ?_ ?_)
   | (with_reducible refine LeO.bind ?_ (fun _ => ?_))
   | exact ih0 _ _ _ _ _
   | exact LeO.none _
   | refine LeO.ite ?_ ?_
   | refine LeO.bind ?_ (fun _ => ?_)
set_option maxHeartbeats 8000000 in
set_option maxRecDepth 100000 in
theorem walkmillref04_Hours.calls (k : Nat) (A0_0 : Option Addr) (c0_0 : Nat) (l0_0 : List (S67)) (A0_1 : Option Addr) (c0_1 : Nat) (l0_1 : List Int) (a1 : Bool) (r : List Int) (w : World) (hr0_0 : Kd.C k67 w A0_0 l0_0.length l0_0) (hc0_0 : l0_0.length ≤ c0_0) (hr0_1 : Kd.C (Kd.int .i64) w A0_1 l0_1.length l0_1) (hc0_1 : l0_1.length ≤ c0_1) (h : walkmillref04_Hours.f k l0_0 l0_1 a1 = some r) :
  Calls Tryz.prog 70 #[.agg #[.slice A0_0 l0_0.length c0_0, .slice A0_1 l0_1.length c0_1], .bool a1] w fun e w' => ∃ v0_ : Value, e = .returned (v0_) ∧ Kd.R (Kd.int .i64) 3 w' w.heap.size (fun _ => True) v0_ r ∧ Below w.heap.size w w' := by
 have hu25 := Tryz.underlying25
 have HR0_0 := Aside0.mk hr0_0
 have HC0_0 := Aside0.mk hc0_0
 clear hr0_0 hc0_0
 have HR0_1 := Aside0.mk hr0_1
 have HC0_1 := Aside0.mk hc0_1
 clear hr0_1 hc0_1
 have HB := Aside0.mk (Below.refl w.heap.size w)
 have H : (walkmillref04_Hours.l0 k a1 (([] : List Int)) 0 l0_0 l0_1) = some r := h
 clear h
 obtain ⟨y102, hy102⟩ : ∃ y_ : List Int, y_ = (([] : List Int)) := ⟨_, rfl⟩
 replace H : (walkmillref04_Hours.l0 k a1 y102 0 l0_0 l0_1) = some r := yy hy102 H
 have Ny102 := Aside0.mk hy102
 clear hy102
 have H' := Aside0.mk H
 clear H
 go_enter Tryz.func70, Tryz.ntmps70
 go_wp2_with (first | ((with_reducible refine gate_dst (N := 2) rfl ?_); refine bx 2 #[.slice A0_0 l0_0.length c0_0, .slice A0_1 l0_1.length c0_1] 25 ?_; intro gb101 hg w3 hbox hb; have BK101 := hbox; have GW101 := gs HB hg; have GE101 := gs HB hg; replace HB := bs HB hb; clear hb hbox hg) | ((with_reducible refine gate_dst (N := 8) rfl ?_); refine Kd.R_lit (Kd.int .i64) _ 3 ?hg (N := 8) ?hd (xs := ([] : List Int)) (inner := []) (ok := fun _ => True) (okp := fun _ => True) ?hr ?hp (fun _ hk => hk) trivial (Below.refl _ _) (Nat.le_refl _) (by simp) ?_; (case hd => rfl); (case hg => rfl); (case hr => first | (go_simp; done) | (go_simp; rfl)); (case hp => exact (Reps.none _ _)); intro v103 w4 ho5 hb hg_ hnew_; clear hg_ hnew_; (first | rw [← Ny102.out] at ho5 | (simp only [Int.reduceToNat] at ho5; rw [← Ny102.out] at ho5)); have HO104 := rl ho5 HB; replace BK101 := bb BK101 hb; replace HB := bs HB hb; clear hb ho5))
 go_loopg [5, 6] k (fun kq v5 v6 w' => ∃ (x5_1 : List Int) (x6_1 : Int), v6 = .int .i64 x6_1 ∧ Aside0 (walkmillref04_Hours.l0 kq a1 x5_1 x6_1 l0_0 l0_1 = some r) ∧ Aside0 (kq ≤ k) ∧ Aside0 (Kd.R (Kd.int .i64) 3 w' w.heap.size (fun _ => True) v5 x5_1) ∧ Aside0 (w'.heap[gb101]? = some (.cells #[(.slice A0_0 l0_0.length c0_0), (.slice A0_1 l0_1.length c0_1)] 25 (0, 0))) ∧ Aside0 (Below w.heap.size w w'))
 case atStart => exact ⟨(y102), (0), (by first | rfl | (simp; done) | (simp [*]; done)), H', ⟨Nat.le_refl _⟩, ⟨by (with_reducible repeat (first | apply Kd.R_alloc | apply Kd.R_drewN | apply Kd.R_drew)); exact HO104.out⟩, ⟨by (with_reducible repeat (first | refine blk_drewN ?_ _ | refine blk_drew ?_ | refine blk_alloc ?_ _)); exact BK101.out⟩, ⟨pE HB⟩⟩
 case round =>
  clear H'
  try clear p2
  obtain ⟨x5_1, x6_1, rfl, HA, HK1, HO_5, BK101, HB⟩ := hrel
  cases gk with
  | zero => exact absurd HA.out (by simp [walkmillref04_Hours.l0])
  | succ k1 =>
   have H := HA.out
   clear HA
   simp only [walkmillref04_Hours.l0] at H
   by_cases c6 : x6_1 < (l0_0.length : Int)
   ·rw [if_pos c6] at H
    have c6b0 : decide (x6_1 < (l0_0.length : Int)) = true := decide_eq_true c6
    clear c6
    by_cases c7 : 0 ≤ x6_1
    ·rw [if_pos c7] at H
     have c7b0 : decide (0 ≤ x6_1) = true := decide_eq_true c7
     clear c7
     by_cases c8 : a1 = true
     ·subst c8
      rw [if_pos rfl] at H
      by_cases c9 : x5_1.length < 17592186044416
      ·rw [if_pos c9] at H
       have LMc9 := Aside0.mk c9
       clear c9
       obtain ⟨y107, hy107⟩ : ∃ y_ : List Int, y_ = (x5_1 ++ [(rd_T67 l0_0 x6_1).f2.f1]) := ⟨_, rfl⟩
       replace H : (walkmillref04_Hours.l0 k1 true y107 (wrap64 (x6_1 + 1)) l0_0 l0_1) = some r := yy hy107 H
       have Ny107 := Aside0.mk hy107
       clear hy107
       have H' := Aside0.mk H
       clear H
       obtain ⟨_, _, _, _⟩ := cf2 BK101
       have p105 : 0 ≤ (x6_1 : Int) := dT
       have q105 : x6_1 < (l0_0.length : Int) := dT
       obtain ⟨ad105, e105, hx105_0, hx105_1, hx105_2, hx105_3⟩ := at_T67 HR0_0.out x6_1 p105 q105
       cases e105
       replace hx105_0 := cut_ HB hx105_0
       replace hx105_1 := cut_ HB hx105_1
       replace hx105_2 := cut_ HB hx105_2
       replace hx105_3 := cut_ HB hx105_3
       replace p105 := eq_true p105
       replace q105 := eq_true q105
       have p106 : 0 ≤ (x6_1 : Int) := dT
       have q106 : x6_1 < (l0_0.length : Int) := dT
       obtain ⟨ad106, e106, hx106_0, hx106_1, hx106_2, hx106_3⟩ := at_T67 HR0_0.out x6_1 p106 q106
       obtain rfl : ad105 = ad106 := (by injection e106)
       replace hx106_0 := cut_ HB hx106_0
       replace hx106_1 := cut_ HB hx106_1
       replace hx106_2 := cut_ HB hx106_2
       replace hx106_3 := cut_ HB hx106_3
       replace p106 := eq_true p106
       replace q106 := eq_true q106
       go_wp2_with (first | ((with_reducible refine gate_builtin (b := .append) (xs := #[.tmp 31, .tmp 33]) rfl ?_); at_builtin; refine Kd.R_append (Kd.int .i64) (w0 := w) w.heap.size rfl (.tmp 31) (.tmp 33) 23 3 (.int .i64 0) 8 rfl Tryz.underlying23 info3 rfl (by decide) (by omega) u5 x5_1 ((rd_T67 l0_0 x6_1).f2.f1) [.int .i64 ((rd_T67 l0_0 x6_1).f2.f1)] (fun _ => True) (fun _ => False) rfl rfl ?aP (fun _ hk => hk.elim) ?aF ?aO ?aB ?aS ?aL ?_; (case aP => exact rfl); (case aB => exact (pE HB)); (case aF => exact (fun _ _ => trivial)); (case aO => exact (pR HO_5.out)); (case aS => exact (below_size (pE HB))); (case aL => have := LMc9.out; omega); intro v108 w11 ho hb hg hat; rw [← Ny107.out] at ho; replace BK101 := Aside0.mk (blk_grown (g := gb101) (o := .cells #[.slice (some ad105) l0_0.length c0_0, .slice A0_1 l0_1.length c0_1] 25 (0, 0)) (pB BK101.out) hg (Kd.R_ne HO_5.out BK101.out (by decide))); replace HB := Aside0.mk (hb); have HO109 := Aside0.mk (ho); clear HO_5; clear ho hb hg hat))
       go_roundg k1
       case measure => have := HK1.out; omega
       case rel => exact ⟨(y107), (wrap64 (x6_1 + 1)), (by first | rfl | (simp; done) | (simp [*]; done)), H', ⟨by have := HK1.out; omega⟩, ⟨by (with_reducible repeat (first | apply Kd.R_alloc | apply Kd.R_drewN | apply Kd.R_drew)); exact HO109.out⟩, ⟨by (with_reducible repeat (first | refine blk_drewN ?_ _ | refine blk_drew ?_ | refine blk_alloc ?_ _)); exact BK101.out⟩, ⟨pE HB⟩⟩
      ·rw [if_neg c9] at H
       exact absurd H (by simp)
     ·replace c8 := Bool.eq_false_iff.mpr c8
      subst c8
      rw [if_neg (show ¬ (false = true) by decide)] at H
      by_cases c12 : x5_1.length < 17592186044416
      ·rw [if_pos c12] at H
       have LMc12 := Aside0.mk c12
       clear c12
       obtain ⟨y110, hy110⟩ : ∃ y_ : List Int, y_ = (x5_1 ++ [(rd_T67 l0_0 x6_1).f2.f0]) := ⟨_, rfl⟩
       replace H : (walkmillref04_Hours.l0 k1 false y110 (wrap64 (x6_1 + 1)) l0_0 l0_1) = some r := yy hy110 H
       have Ny110 := Aside0.mk hy110
       clear hy110
       have H' := Aside0.mk H
       clear H
       obtain ⟨_, _, _, _⟩ := cf2 BK101
       have p105 : 0 ≤ (x6_1 : Int) := dT
       have q105 : x6_1 < (l0_0.length : Int) := dT
       obtain ⟨ad105, e105, hx105_0, hx105_1, hx105_2, hx105_3⟩ := at_T67 HR0_0.out x6_1 p105 q105
       cases e105
       replace hx105_0 := cut_ HB hx105_0
       replace hx105_1 := cut_ HB hx105_1
       replace hx105_2 := cut_ HB hx105_2
       replace hx105_3 := cut_ HB hx105_3
       replace p105 := eq_true p105
       replace q105 := eq_true q105
       go_wp2_with (first | ((with_reducible refine gate_builtin (b := .append) (xs := #[.tmp 31, .tmp 33]) rfl ?_); at_builtin; refine Kd.R_append (Kd.int .i64) (w0 := w) w.heap.size rfl (.tmp 31) (.tmp 33) 23 3 (.int .i64 0) 8 rfl Tryz.underlying23 info3 rfl (by decide) (by omega) u5 x5_1 ((rd_T67 l0_0 x6_1).f2.f0) [.int .i64 ((rd_T67 l0_0 x6_1).f2.f0)] (fun _ => True) (fun _ => False) rfl rfl ?aP (fun _ hk => hk.elim) ?aF ?aO ?aB ?aS ?aL ?_; (case aP => exact rfl); (case aB => exact (pE HB)); (case aF => exact (fun _ _ => trivial)); (case aO => exact (pR HO_5.out)); (case aS => exact (below_size (pE HB))); (case aL => have := LMc12.out; omega); intro v111 w14 ho hb hg hat; rw [← Ny110.out] at ho; replace BK101 := Aside0.mk (blk_grown (g := gb101) (o := .cells #[.slice (some ad105) l0_0.length c0_0, .slice A0_1 l0_1.length c0_1] 25 (0, 0)) (pB BK101.out) hg (Kd.R_ne HO_5.out BK101.out (by decide))); replace HB := Aside0.mk (hb); have HO112 := Aside0.mk (ho); clear HO_5; clear ho hb hg hat))
       go_roundg k1
       case measure => have := HK1.out; omega
       case rel => exact ⟨(y110), (wrap64 (x6_1 + 1)), (by first | rfl | (simp; done) | (simp [*]; done)), H', ⟨by have := HK1.out; omega⟩, ⟨by (with_reducible repeat (first | apply Kd.R_alloc | apply Kd.R_drewN | apply Kd.R_drew)); exact HO112.out⟩, ⟨by (with_reducible repeat (first | refine blk_drewN ?_ _ | refine blk_drew ?_ | refine blk_alloc ?_ _)); exact BK101.out⟩, ⟨pE HB⟩⟩
      ·rw [if_neg c12] at H
       exact absurd H (by simp)
    ·rw [if_neg c7] at H
     exact absurd H (by simp)
   ·rw [if_neg c6] at H
    have c6b0 : decide (x6_1 < (l0_0.length : Int)) = false := decide_eq_false c6
    clear c6
    obtain rfl := Option.some.inj H
    obtain ⟨_, _, _, _⟩ := cf2 BK101
    go_wp2
    go_ret
    exact ⟨_, eT, by (with_reducible repeat (first | apply Kd.R_alloc | apply Kd.R_drewN | apply Kd.R_drew)); exact HO_5.out, pE HB⟩
def walkmillref04_Worst.l0 : Nat → List Int → Int → Int → List Int → Int → List (S67) → List Int → Option (Int × Int)
 | 0, _, _, _, _, _, _, _ => none
 | k + 1, x1, x8, x9, x10, x11, x102000, x102001 => if x11 < (x1.length : Int) then (if 0 ≤ x11 then (if x11 < (x10.length : Int) then (if 0 ≤ (rd x1 x11) then (if (rd x1 x11) < (x102000.length : Int) then (if (wrap64 ((rd x10 x11) - ((rd_T67 x102000 (rd x1 x11)).f1))) > x9 then (walkmillref04_Worst.l0 k x1 (rd x1 x11) (wrap64 ((rd x10 x11) - ((rd_T67 x102000 (rd x1 x11)).f1))) x10 (wrap64 (x11 + 1)) x102000 x102001) else (walkmillref04_Worst.l0 k x1 x8 x9 x10 (wrap64 (x11 + 1)) x102000 x102001)) else (none)) else (none)) else (none)) else (none)) else (some (x8, x9))
def walkmillref04_Worst.f (k : Nat) (l0_0 : List (S67)) (l0_1 : List Int) (l1 : List Int) (a2 : Int) : Option (Int × Int) := (walkmillref04_Hours.f k l0_0 l0_1 true).bind fun t102 => ((walkmillref04_Taken.f k l0_0 l0_1 l1 a2 t102).bind fun t105 => (walkmillref04_Worst.l0 k l1 (-1) (-1) t105 0 l0_0 l0_1))
theorem walkmillref04_Worst.mono_l : ∀ k, (∀ y0 y1 y2 y3 y4 y5 y6, LeO (walkmillref04_Worst.l0 k y0 y1 y2 y3 y4 y5 y6) (walkmillref04_Worst.l0 (k + 1) y0 y1 y2 y3 y4 y5 y6))
 | 0 => fun _ _ _ _ _ _ _ r h => by simp [walkmillref04_Worst.l0] at h
 | k + 1 => by
  have ih0 := walkmillref04_Worst.mono_l k
  ·intro y0 y1 y2 y3 y4 y5 y6
   unfold walkmillref04_Worst.l0
   repeat' first
   | (with_reducible exact ih0 _ _ _ _ _ _ _)
   | (with_reducible exact walkmillref04_Hours.mono _ _ _ _)
   | (with_reducible exact walkmillref04_Taken.mono _ _ _ _ _ _)
   | (with_reducible exact LeO.refl _)
   | (with_reducible exact LeO.none _)
   | (with_reducible refine LeO.ite ?_ ?_)
   | (with_reducible refine LeO.bind ?_ (fun _ => ?_))
   | exact ih0 _ _ _ _ _ _ _
   | exact walkmillref04_Hours.mono _ _ _ _
   | exact walkmillref04_Taken.mono _ _ _ _ _ _
   | exact LeO.none _
   | refine LeO.ite ?_ ?_
   | refine LeO.bind ?_ (fun _ => ?_)
theorem walkmillref04_Worst.mono : ∀ a0 a1 a2 a3 k, LeO (walkmillref04_Worst.f k a0 a1 a2 a3) (walkmillref04_Worst.f (k + 1) a0 a1 a2 a3) := by
 intro a0 a1 a2 a3 k
 have ih0 := walkmillref04_Worst.mono_l k
 unfold walkmillref04_Worst.f
 repeat' first
   | (with_reducible exact ih0 _ _ _ _ _ _ _)
   | (with_reducible exact walkmillref04_Hours.mono _ _ _ _)
   | (with_reducible exact walkmillref04_Taken.mono _ _ _ _ _ _)
   | (with_reducible exact LeO.refl _)
   | (with_reducible exact LeO.none _)
   | (with_reducible refine LeO.ite ?_ ?_)
   | (with_reducible refine LeO.bind ?_ (fun _ => ?_))
   | exact ih0 _ _ _ _ _ _ _
   | exact walkmillref04_Hours.mono _ _ _ _
   | exact walkmillref04_Taken.mono _ _ _ _ _ _
   | exact LeO.none _
   | refine LeO.ite ?_ ?_
   | refine LeO.bind ?_ (fun _ => ?_)
def walkmillref04_Worst.T1 : Bool × List (List Nat × List Nat) := (true, [([], []), ([], []), ([], []), ([], []), ([3], [3]), ([0, 1, 2, 4, 4], [0, 1, 2, 4]), ([5], []), ([6, 6], []), ([5, 7, 0, 1, 2, 3, 4, 5, 6, 7], [5])])
def walkmillref04_Worst.B1 : List Nat := [0, 0, 0, 0, 8, 31, 63, 127, 255]
theorem walkmillref04_Worst.tab1 : rtab .any (opsOf Tryz.f32 1) = walkmillref04_Worst.T1 := by kernel_rfl
theorem walkmillref04_Worst.bits1 : waitsOk walkmillref04_Worst.T1.2 walkmillref04_Worst.B1 = true := by kernel_rfl
def walkmillref04_Worst.T5 : Bool × List (List Nat × List Nat) := (true, [([], []), ([], []), ([0, 1], [0, 1]), ([2], [2]), ([], []), ([4], [4]), ([], []), ([], []), ([6, 7], [6, 7]), ([8], [8]), ([5, 9], [5, 9]), ([10], [10]), ([11], [11]), ([3, 12], [3, 12]), ([13, 0, 1, 2, 3, 4, 5, 6, 7, 8, 9, 10, 11, 12, 13], [13])])
def walkmillref04_Worst.B5 : List Nat := [0, 0, 3, 7, 0, 16, 0, 0, 192, 448, 1008, 2032, 4080, 8191, 16383]
theorem walkmillref04_Worst.tab5 : rtab .any (opsOf Tryz.f32 5) = walkmillref04_Worst.T5 := by kernel_rfl
theorem walkmillref04_Worst.bits5 : waitsOk walkmillref04_Worst.T5.2 walkmillref04_Worst.B5 = true := by kernel_rfl
set_option maxHeartbeats 8000000 in
set_option maxRecDepth 100000 in
theorem walkmillref04_Worst.calls (k : Nat) (A0_0 : Option Addr) (c0_0 : Nat) (l0_0 : List (S67)) (A0_1 : Option Addr) (c0_1 : Nat) (l0_1 : List Int) (A1 : Option Addr) (c1 : Nat) (l1 : List Int) (a2 : Int) (r1 : Int) (r2 : Int) (w : World) (hr0_0 : Kd.C k67 w A0_0 l0_0.length l0_0) (hc0_0 : l0_0.length ≤ c0_0) (hr0_1 : Kd.C (Kd.int .i64) w A0_1 l0_1.length l0_1) (hc0_1 : l0_1.length ≤ c0_1) (hr1 : Kd.C (Kd.int .i64) w A1 l1.length l1) (hc1 : l1.length ≤ c1) (h : walkmillref04_Worst.f k l0_0 l0_1 l1 a2 = some (r1, r2)) :
  Calls Tryz.prog 32 #[.agg #[.slice A0_0 l0_0.length c0_0, .slice A0_1 l0_1.length c0_1], .slice A1 l1.length c1, .int .i64 a2] w fun e w' => e = .returned (.tuple #[.int .i64 r1, .int .i64 r2]) ∧ Below w.heap.size w w' := by
 have hu25 := Tryz.underlying25
 have HR0_0 := Aside0.mk hr0_0
 have HC0_0 := Aside0.mk hc0_0
 clear hr0_0 hc0_0
 have HR0_1 := Aside0.mk hr0_1
 have HC0_1 := Aside0.mk hc0_1
 clear hr0_1 hc0_1
 have HR1 := Aside0.mk hr1
 have HC1 := Aside0.mk hc1
 clear hr1 hc1
 have HB := Aside0.mk (Below.refl w.heap.size w)
 have H : ((walkmillref04_Hours.f k l0_0 l0_1 true).bind fun t102 => ((walkmillref04_Taken.f k l0_0 l0_1 l1 a2 t102).bind fun t105 => (walkmillref04_Worst.l0 k l1 (-1) (-1) t105 0 l0_0 l0_1))) = some (r1, r2) := h
 clear h
 obtain ⟨t102, A4, H⟩ := bi H
 obtain ⟨t105, A5, H⟩ := bi H
 have H' := Aside0.mk H
 clear H
 go_enter Tryz.func32, Tryz.ntmps32
 try go_wp2_with (first | ((with_reducible refine gate_dst (N := 3) rfl ?_); refine bx 3 #[.slice A0_0 l0_0.length c0_0, .slice A0_1 l0_1.length c0_1] 25 ?_; intro gb101 hg w6 hbox hb; have BK101 := hbox; have GW101 := gs HB hg; have GE101 := gs HB hg; replace HB := bs HB hb; clear hb hbox hg))
 replace BK101 := Aside0.mk (blk_drew BK101.out)
 replace HB := Aside0.mk (below_drew1 HB.out)
 refine start_ (n := 9) (S := fun w' => w'.cell? ⟨gb101, 0, none⟩ = some (.slice A0_0 l0_0.length c0_0) ∧ w'.cell? ⟨gb101, 1, none⟩ = some (.slice A0_1 l0_1.length c0_1)) (ds := []) #[false, false, false, false, false, false, false, false, false] (by kernel_rfl) rfl rfl ⟨(blk_cell BK101.out 0).trans rfl, (blk_cell BK101.out 1).trans rfl⟩ (fun hHeld => ?_); refine with_tabW walkmillref04_Worst.tab1 walkmillref04_Worst.bits1 (fun HT_ HW_ => ?_)
 generalize w6.drew = w7 at BK101 HB hHeld ⊢
 refine pu 1 14 ?_
 refine pu 2 15 ?_
 refine tk 0 13 hHeld ?_
 refine tk 3 16 hHeld ?_
 refine on 4 (fun K hK => ?_)
 refine gO Tryz.func70 #[.agg #[.slice A0_0 l0_0.length c0_0, .slice A0_1 l0_1.length c0_1], .bool true] ?_
 with_reducible refine (walkmillref04_Hours.calls k _ _ l0_0 _ _ l0_1 true t102 _ ?side1 ?side2 ?side3 ?side4 A4.out).mono ?_
 (case side1 => exact pC (Kd.C_below HR0_0.out HB.out))
 (case side2 => exact HC0_0.out)
 (case side3 => exact pC (Kd.C_below HR0_1.out HB.out))
 (case side4 => exact HC0_1.out)
 rintro e w8 ⟨v103, rfl, ho0, hb⟩
 refine ⟨_, rfl, ?_⟩
 have HO104 := rl ho0 HB
 replace BK101 := bb BK101 hb
 replace HB := bs HB hb
 (try clear hb)
 (try clear hb2)
 (try clear hk)
 (try clear hi)
 (try clear ho0)
 obtain ⟨Ao9, co9, eo9⟩ := Kd.R_slice HO104.out
 (first | subst eo9 | (injection eo9 with f1_ f2_ f3_; have f4_ := f1_.symm; have f5_ := f3_.symm; clear f1_ f2_ f3_; subst f4_; subst f5_))
 refine hK.out _ _ ⟨(blk_cell BK101.out 0).trans rfl, (blk_cell BK101.out 1).trans rfl⟩ (fun hHeld => ?_)
 clear hK K
 refine norm_ (a' := ?_) ?_ ?_
 rotate_left
 ·show Act.put _ (some 17) _ = _
  simp only [Act.put, List.setIfInBounds_toArray, List.set_cons_zero, List.set_cons_succ, i64_w, i32_w]
  rfl
 refine on 5 (fun K hK => ?_)
 refine gO Tryz.func69 #[.agg #[.slice A0_0 l0_0.length c0_0, .slice A0_1 l0_1.length c0_1], .slice A1 l1.length c1, .int .i64 a2, .slice Ao9 t102.length co9] ?_
 with_reducible refine (walkmillref04_Taken.calls k _ _ l0_0 _ _ l0_1 _ _ l1 a2 _ _ t102 t105 _ ?side1 ?side2 ?side3 ?side4 ?side5 ?side6 ?side7 ?side8 A5.out).mono ?_
 (case side1 => exact pC (Kd.C_below HR0_0.out HB.out))
 (case side2 => exact HC0_0.out)
 (case side3 => exact pC (Kd.C_below HR0_1.out HB.out))
 (case side4 => exact HC0_1.out)
 (case side5 => exact pC (Kd.C_below HR1.out HB.out))
 (case side6 => exact HC1.out)
 (case side7 => exact pC (Kd.R_reads' HO104.out).2.2)
 (case side8 => exact (Kd.R_reads' HO104.out).2.1)
 rintro e w10 ⟨v106, rfl, ho0, hb⟩
 refine ⟨_, rfl, ?_⟩
 have HO107 := Aside0.mk (Kd.R_lower (Kd.R_new' ho0 (Kd.R_lt (pR HO104.out))) (below_size (pE HB)))
 replace HO104 := re HO104 ho0 hb
 replace BK101 := bb BK101 hb
 replace HB := bs HB hb
 (try clear hb)
 (try clear hb2)
 (try clear hk)
 (try clear hi)
 (try clear ho0)
 refine hK.out _ _ ⟨(blk_cell BK101.out 0).trans rfl, (blk_cell BK101.out 1).trans rfl⟩ (fun hHeld => ?_)
 clear hK K
 refine norm_ (a' := ?_) ?_ ?_
 rotate_left
 ·show Act.put _ (some 18) _ = _
  simp only [Act.put, List.setIfInBounds_toArray, List.set_cons_zero, List.set_cons_succ, i64_w, i32_w]
  rfl
 refine pu 6 8 ?_
 refine pu 7 9 ?_
 refine pu 8 10 ?_
 refine done_ (done_of HT_.out (by kernel_rfl)) ?_
 try go_wp2
 go_loopg [8, 9, 11] k (fun kq v8 v9 v11 w' => ∃ (x8_1 : Int) (x9_1 : Int) (x11_1 : Int), v8 = .int .i64 x8_1 ∧ v9 = .int .i64 x9_1 ∧ v11 = .int .i64 x11_1 ∧ Aside0 (walkmillref04_Worst.l0 kq l1 x8_1 x9_1 t105 x11_1 l0_0 l0_1 = some (r1, r2)) ∧ Aside0 (kq ≤ k) ∧ Aside0 (Kd.R (Kd.int .i64) 3 w' w.heap.size (fun _ => True) v106 t105) ∧ Aside0 (w'.heap[gb101]? = some (.cells #[(.slice A0_0 l0_0.length c0_0), (.slice A0_1 l0_1.length c0_1)] 25 (0, 0))) ∧ Aside0 (Below w.heap.size w w'))
 case atStart => exact ⟨((-1)), ((-1)), (0), (by first | rfl | (simp; done) | (simp [*]; done)), (by first | rfl | (simp; done) | (simp [*]; done)), (by first | rfl | (simp; done) | (simp [*]; done)), H', ⟨Nat.le_refl _⟩, ⟨by (with_reducible repeat (first | apply Kd.R_alloc | apply Kd.R_drewN | apply Kd.R_drew)); exact Kd.R_mono HO107.out (fun _ hk => trivial)⟩, ⟨by (with_reducible repeat (first | refine blk_drewN ?_ _ | refine blk_drew ?_ | refine blk_alloc ?_ _)); exact BK101.out⟩, ⟨pE HB⟩⟩
 case round =>
  clear H'
  try clear c1
  try clear p2
  try clear c3
  try clear c6
  try clear c7
  obtain ⟨x8_1, x9_1, x11_1, rfl, rfl, rfl, HA, HK1, HO_10, BK101, HB⟩ := hrel
  cases gk with
  | zero => exact absurd HA.out (by simp [walkmillref04_Worst.l0])
  | succ k1 =>
   have H := HA.out
   clear HA
   simp only [walkmillref04_Worst.l0] at H
   by_cases c11 : x11_1 < (l1.length : Int)
   ·rw [if_pos c11] at H
    have c11b0 : decide (x11_1 < (l1.length : Int)) = true := decide_eq_true c11
    clear c11
    by_cases c12 : 0 ≤ x11_1
    ·rw [if_pos c12] at H
     have c12b0 : decide (0 ≤ x11_1) = true := decide_eq_true c12
     clear c12
     by_cases c13 : x11_1 < (t105.length : Int)
     ·rw [if_pos c13] at H
      have c13b0 : decide (x11_1 < (t105.length : Int)) = true := decide_eq_true c13
      clear c13
      by_cases c14 : 0 ≤ (rd l1 x11_1)
      ·rw [if_pos c14] at H
       have c14b0 : decide (0 ≤ (rd l1 x11_1)) = true := decide_eq_true c14
       clear c14
       by_cases c15 : (rd l1 x11_1) < (l0_0.length : Int)
       ·rw [if_pos c15] at H
        have c15b0 : decide ((rd l1 x11_1) < (l0_0.length : Int)) = true := decide_eq_true c15
        clear c15
        by_cases c16 : (wrap64 ((rd t105 x11_1) - ((rd_T67 l0_0 (rd l1 x11_1)).f1))) > x9_1
        ·rw [if_pos c16] at H
         have c16b0 : decide (x9_1 < (wrap64 ((rd t105 x11_1) - ((rd_T67 l0_0 (rd l1 x11_1)).f1)))) = true := decide_eq_true c16
         clear c16
         have H' := Aside0.mk H
         clear H
         try go_wp2
         replace HO_10 := Aside0.mk (Kd.R_drew HO_10.out)
         replace BK101 := Aside0.mk (blk_drew BK101.out)
         replace HB := Aside0.mk (below_drew1 HB.out)
         obtain ⟨Ao18, co18, eo18⟩ := Kd.R_slice HO_10.out
         (first | subst eo18 | (injection eo18 with f1_ f2_ f3_; have f4_ := f1_.symm; have f5_ := f3_.symm; clear f1_ f2_ f3_; subst f4_; subst f5_))
         have p108 : 0 ≤ (x11_1 : Int) := dT
         have q108 : x11_1 < (t105.length : Int) := dT
         obtain ⟨ad108, e108, hx108_0⟩ := Kd.at_int (Kd.R_reads' HO_10.out).2.2 x11_1 p108 q108
         cases e108
         replace p108 := eq_true p108
         replace q108 := eq_true q108
         have p109 : 0 ≤ (x11_1 : Int) := dT
         have q109 : x11_1 < (l1.length : Int) := dT
         obtain ⟨ad109, e109, hx109_0⟩ := Kd.at_int HR1.out x11_1 p109 q109
         have hw109_0 := hx109_0
         cases e109
         replace hx109_0 := cut_ HB hx109_0
         replace p109 := eq_true p109
         replace q109 := eq_true q109
         have p110 : 0 ≤ ((rd l1 x11_1) : Int) := dT
         have q110 : (rd l1 x11_1) < (l0_0.length : Int) := dT
         obtain ⟨ad110, e110, hx110_0, hx110_1, hx110_2, hx110_3⟩ := at_T67 HR0_0.out (rd l1 x11_1) p110 q110
         have hw110_3 := hx110_3
         have hw110_2 := hx110_2
         have hw110_1 := hx110_1
         have hw110_0 := hx110_0
         cases e110
         replace hx110_0 := cut_ HB hx110_0
         replace hx110_1 := cut_ HB hx110_1
         replace hx110_2 := cut_ HB hx110_2
         replace hx110_3 := cut_ HB hx110_3
         replace p110 := eq_true p110
         replace q110 := eq_true q110
         refine start_ (n := 15) (S := fun w' => w'.cell? ⟨gb101, 0, none⟩ = some (.slice (some ad110) l0_0.length c0_0) ∧ w'.cell? ⟨gb101, 1, none⟩ = some (.slice A0_1 l0_1.length c0_1) ∧ w'.cell? (ad108.add (x11_1).toNat) = some (.int .i64 (rd t105 x11_1)) ∧ w'.cell? (ad109.add (x11_1).toNat) = some (.int .i64 (rd l1 x11_1)) ∧ w'.cell? (ad110.add (((rd l1 x11_1)).toNat * 4)) = some (.int .i64 ((rd_T67 l0_0 (rd l1 x11_1)).f0)) ∧ w'.cell? ⟨(ad110.add (((rd l1 x11_1)).toNat * 4)).block, (ad110.add (((rd l1 x11_1)).toNat * 4)).off + 1, none⟩ = some (.int .i64 ((rd_T67 l0_0 (rd l1 x11_1)).f1)) ∧ w'.cell? ⟨(ad110.add (((rd l1 x11_1)).toNat * 4)).block, (ad110.add (((rd l1 x11_1)).toNat * 4)).off + 2, none⟩ = some (.int .i64 ((rd_T67 l0_0 (rd l1 x11_1)).f2.f0)) ∧ w'.cell? ⟨(ad110.add (((rd l1 x11_1)).toNat * 4)).block, (ad110.add (((rd l1 x11_1)).toNat * 4)).off + 3, none⟩ = some (.int .i64 ((rd_T67 l0_0 (rd l1 x11_1)).f2.f1))) (ds := []) #[false, false, false, false, false, false, false, false, false, false, false, false, false, false, false] (by kernel_rfl) rfl rfl ⟨(blk_cell BK101.out 0).trans rfl, (blk_cell BK101.out 1).trans rfl, hx108_0, (cB HB hw109_0), (cB HB hw110_0), (cB HB hw110_1), (cB HB hw110_2), (cB HB hw110_3)⟩ (fun hHeld => ?_); refine with_tabW walkmillref04_Worst.tab5 walkmillref04_Worst.bits5 (fun HT_ HW_ => ?_)
         generalize wr.drew = w17 at HO_10 BK101 HB hx108_0 hx109_0 hx110_0 hx110_1 hx110_2 hx110_3 hHeld ⊢
         refine pu 0 25 ?_
         refine pu 1 26 ?_
         refine pu 2 27 ?_
         refine pu 4 29 ?_
         refine pu 6 31 ?_
         refine pu 7 32 ?_
         refine pu 8 33 ?_
         refine tk 3 28 hHeld ?_
         refine tk 5 30 hHeld ?_
         refine tk 9 34 hHeld ?_
         refine pu 10 35 ?_
         refine pu 11 36 ?_
         refine tk 12 37 hHeld ?_
         refine pu 13 38 ?_
         refine pu 14 12 ?_
         refine done_ (done_of HT_.out (by kernel_rfl)) ?_
         have p111 : 0 ≤ (x11_1 : Int) := dT
         have q111 : x11_1 < (l1.length : Int) := dT
         obtain ⟨ad111, e111, hx111_0⟩ := Kd.at_int HR1.out x11_1 p111 q111
         obtain rfl : ad109 = ad111 := (by injection e111)
         replace hx111_0 := cut_ HB hx111_0
         replace p111 := eq_true p111
         replace q111 := eq_true q111
         try go_wp2
         go_roundg k1
         case measure => have := HK1.out; omega
         case rel => exact ⟨(rd l1 x11_1), (wrap64 ((rd t105 x11_1) - ((rd_T67 l0_0 (rd l1 x11_1)).f1))), (wrap64 (x11_1 + 1)), (by first | rfl | (simp; done) | (simp [*]; done)), (by first | rfl | (simp; done) | (simp [*]; done)), (by first | rfl | (simp; done) | (simp [*]; done)), H', ⟨by have := HK1.out; omega⟩, ⟨by (with_reducible repeat (first | apply Kd.R_alloc | apply Kd.R_drewN | apply Kd.R_drew)); exact HO_10.out⟩, ⟨by (with_reducible repeat (first | refine blk_drewN ?_ _ | refine blk_drew ?_ | refine blk_alloc ?_ _)); exact BK101.out⟩, ⟨pE HB⟩⟩
        ·rw [if_neg c16] at H
         have c16b0 : decide (x9_1 < (wrap64 ((rd t105 x11_1) - ((rd_T67 l0_0 (rd l1 x11_1)).f1)))) = false := decide_eq_false c16
         clear c16
         have H' := Aside0.mk H
         clear H
         try go_wp2
         replace HO_10 := Aside0.mk (Kd.R_drew HO_10.out)
         replace BK101 := Aside0.mk (blk_drew BK101.out)
         replace HB := Aside0.mk (below_drew1 HB.out)
         obtain ⟨Ao20, co20, eo20⟩ := Kd.R_slice HO_10.out
         (first | subst eo20 | (injection eo20 with f1_ f2_ f3_; have f4_ := f1_.symm; have f5_ := f3_.symm; clear f1_ f2_ f3_; subst f4_; subst f5_))
         have p108 : 0 ≤ (x11_1 : Int) := dT
         have q108 : x11_1 < (t105.length : Int) := dT
         obtain ⟨ad108, e108, hx108_0⟩ := Kd.at_int (Kd.R_reads' HO_10.out).2.2 x11_1 p108 q108
         cases e108
         replace p108 := eq_true p108
         replace q108 := eq_true q108
         have p109 : 0 ≤ (x11_1 : Int) := dT
         have q109 : x11_1 < (l1.length : Int) := dT
         obtain ⟨ad109, e109, hx109_0⟩ := Kd.at_int HR1.out x11_1 p109 q109
         have hw109_0 := hx109_0
         cases e109
         replace hx109_0 := cut_ HB hx109_0
         replace p109 := eq_true p109
         replace q109 := eq_true q109
         have p110 : 0 ≤ ((rd l1 x11_1) : Int) := dT
         have q110 : (rd l1 x11_1) < (l0_0.length : Int) := dT
         obtain ⟨ad110, e110, hx110_0, hx110_1, hx110_2, hx110_3⟩ := at_T67 HR0_0.out (rd l1 x11_1) p110 q110
         have hw110_3 := hx110_3
         have hw110_2 := hx110_2
         have hw110_1 := hx110_1
         have hw110_0 := hx110_0
         cases e110
         replace hx110_0 := cut_ HB hx110_0
         replace hx110_1 := cut_ HB hx110_1
         replace hx110_2 := cut_ HB hx110_2
         replace hx110_3 := cut_ HB hx110_3
         replace p110 := eq_true p110
         replace q110 := eq_true q110
         refine start_ (n := 15) (S := fun w' => w'.cell? ⟨gb101, 0, none⟩ = some (.slice (some ad110) l0_0.length c0_0) ∧ w'.cell? ⟨gb101, 1, none⟩ = some (.slice A0_1 l0_1.length c0_1) ∧ w'.cell? (ad108.add (x11_1).toNat) = some (.int .i64 (rd t105 x11_1)) ∧ w'.cell? (ad109.add (x11_1).toNat) = some (.int .i64 (rd l1 x11_1)) ∧ w'.cell? (ad110.add (((rd l1 x11_1)).toNat * 4)) = some (.int .i64 ((rd_T67 l0_0 (rd l1 x11_1)).f0)) ∧ w'.cell? ⟨(ad110.add (((rd l1 x11_1)).toNat * 4)).block, (ad110.add (((rd l1 x11_1)).toNat * 4)).off + 1, none⟩ = some (.int .i64 ((rd_T67 l0_0 (rd l1 x11_1)).f1)) ∧ w'.cell? ⟨(ad110.add (((rd l1 x11_1)).toNat * 4)).block, (ad110.add (((rd l1 x11_1)).toNat * 4)).off + 2, none⟩ = some (.int .i64 ((rd_T67 l0_0 (rd l1 x11_1)).f2.f0)) ∧ w'.cell? ⟨(ad110.add (((rd l1 x11_1)).toNat * 4)).block, (ad110.add (((rd l1 x11_1)).toNat * 4)).off + 3, none⟩ = some (.int .i64 ((rd_T67 l0_0 (rd l1 x11_1)).f2.f1))) (ds := []) #[false, false, false, false, false, false, false, false, false, false, false, false, false, false, false] (by kernel_rfl) rfl rfl ⟨(blk_cell BK101.out 0).trans rfl, (blk_cell BK101.out 1).trans rfl, hx108_0, (cB HB hw109_0), (cB HB hw110_0), (cB HB hw110_1), (cB HB hw110_2), (cB HB hw110_3)⟩ (fun hHeld => ?_); refine with_tabW walkmillref04_Worst.tab5 walkmillref04_Worst.bits5 (fun HT_ HW_ => ?_)
         generalize wr.drew = w19 at HO_10 BK101 HB hx108_0 hx109_0 hx110_0 hx110_1 hx110_2 hx110_3 hHeld ⊢
         refine pu 0 25 ?_
         refine pu 1 26 ?_
         refine pu 2 27 ?_
         refine pu 4 29 ?_
         refine pu 6 31 ?_
         refine pu 7 32 ?_
         refine pu 8 33 ?_
         refine tk 3 28 hHeld ?_
         refine tk 5 30 hHeld ?_
         refine tk 9 34 hHeld ?_
         refine pu 10 35 ?_
         refine pu 11 36 ?_
         refine tk 12 37 hHeld ?_
         refine pu 13 38 ?_
         refine pu 14 12 ?_
         refine done_ (done_of HT_.out (by kernel_rfl)) ?_
         try go_wp2
         go_roundg k1
         case measure => have := HK1.out; omega
         case rel => exact ⟨(x8_1), (x9_1), (wrap64 (x11_1 + 1)), (by first | rfl | (simp; done) | (simp [*]; done)), (by first | rfl | (simp; done) | (simp [*]; done)), (by first | rfl | (simp; done) | (simp [*]; done)), H', ⟨by have := HK1.out; omega⟩, ⟨by (with_reducible repeat (first | apply Kd.R_alloc | apply Kd.R_drewN | apply Kd.R_drew)); exact HO_10.out⟩, ⟨by (with_reducible repeat (first | refine blk_drewN ?_ _ | refine blk_drew ?_ | refine blk_alloc ?_ _)); exact BK101.out⟩, ⟨pE HB⟩⟩
       ·rw [if_neg c15] at H
        exact absurd H (by simp)
      ·rw [if_neg c14] at H
       exact absurd H (by simp)
     ·rw [if_neg c13] at H
      exact absurd H (by simp)
    ·rw [if_neg c12] at H
     exact absurd H (by simp)
   ·rw [if_neg c11] at H
    have c11b0 : decide (x11_1 < (l1.length : Int)) = false := decide_eq_false c11
    clear c11
    simp only [Option.some.injEq, Prod.mk.injEq] at H
    obtain ⟨rfl, rfl⟩ := H
    go_wp2
    go_ret2
    exact ⟨eT, pE HB⟩
def walkmillref04_Late.f (k : Nat) (l0_0 : List (S67)) (l0_1 : List Int) (l1 : List Int) (a2 : Int) (a3 : Int) : Option (Bool) := (walkmillref04_Worst.f k l0_0 l0_1 l1 a2).bind fun bt102 => (some (decide (bt102.2 > a3)))
theorem walkmillref04_Late.mono : ∀ a0 a1 a2 a3 a4 k, LeO (walkmillref04_Late.f k a0 a1 a2 a3 a4) (walkmillref04_Late.f (k + 1) a0 a1 a2 a3 a4) := by
 intro a0 a1 a2 a3 a4 k
 unfold walkmillref04_Late.f
 repeat' first
   | (with_reducible exact walkmillref04_Worst.mono _ _ _ _ _)
   | (with_reducible exact LeO.refl _)
   | (with_reducible exact LeO.none _)
   | (with_reducible refine LeO.ite ?_ ?_)
   | (with_reducible refine LeO.bind ?_ (fun _ => ?_))
   | exact walkmillref04_Worst.mono _ _ _ _ _
   | exact LeO.none _
   | refine LeO.ite ?_ ?_
   | refine LeO.bind ?_ (fun _ => ?_)
set_option maxHeartbeats 8000000 in
set_option maxRecDepth 100000 in
theorem walkmillref04_Late.calls (k : Nat) (A0_0 : Option Addr) (c0_0 : Nat) (l0_0 : List (S67)) (A0_1 : Option Addr) (c0_1 : Nat) (l0_1 : List Int) (A1 : Option Addr) (c1 : Nat) (l1 : List Int) (a2 : Int) (a3 : Int) (r : Bool) (w : World) (hr0_0 : Kd.C k67 w A0_0 l0_0.length l0_0) (hc0_0 : l0_0.length ≤ c0_0) (hr0_1 : Kd.C (Kd.int .i64) w A0_1 l0_1.length l0_1) (hc0_1 : l0_1.length ≤ c0_1) (hr1 : Kd.C (Kd.int .i64) w A1 l1.length l1) (hc1 : l1.length ≤ c1) (h : walkmillref04_Late.f k l0_0 l0_1 l1 a2 a3 = some r) :
  Calls Tryz.prog 44 #[.agg #[.slice A0_0 l0_0.length c0_0, .slice A0_1 l0_1.length c0_1], .slice A1 l1.length c1, .int .i64 a2, .int .i64 a3] w fun e w' => e = .returned (.bool r) ∧ Below w.heap.size w w' := by
 have hu25 := Tryz.underlying25
 have HR0_0 := Aside0.mk hr0_0
 have HC0_0 := Aside0.mk hc0_0
 clear hr0_0 hc0_0
 have HR0_1 := Aside0.mk hr0_1
 have HC0_1 := Aside0.mk hc0_1
 clear hr0_1 hc0_1
 have HR1 := Aside0.mk hr1
 have HC1 := Aside0.mk hc1
 clear hr1 hc1
 have HB := Aside0.mk (Below.refl w.heap.size w)
 have H : ((walkmillref04_Worst.f k l0_0 l0_1 l1 a2).bind fun bt102 => (some (decide (bt102.2 > a3)))) = some r := h
 clear h
 obtain ⟨⟨t102, t103⟩, A5, H⟩ := bi H
 obtain rfl := Option.some.inj H
 go_enter Tryz.func44, Tryz.ntmps44
 go_wp2_with (first | ((with_reducible refine gate_dst (N := 4) rfl ?_); refine bx 4 #[.slice A0_0 l0_0.length c0_0, .slice A0_1 l0_1.length c0_1] 25 ?_; intro gb101 hg w6 hbox hb; have BK101 := hbox; have GW101 := gs HB hg; have GE101 := gs HB hg; replace HB := bs HB hb; clear hb hbox hg; obtain ⟨_, _, _, _⟩ := cf2 BK101) | ((with_reducible refine gc 32 rfl ?_); refine gL 15 Tryz.func32 #[.agg #[.slice A0_0 l0_0.length c0_0, .slice A0_1 l0_1.length c0_1], .slice A1 l1.length c1, .int .i64 a2] ?_; (with_reducible refine (walkmillref04_Worst.calls k _ _ l0_0 _ _ l0_1 _ _ l1 a2 t102 t103 _ ?side1 ?side2 ?side3 ?side4 ?side5 ?side6 A5.out).mono ?_); (case side1 => exact pC (Kd.C_below HR0_0.out HB.out)); (case side2 => exact HC0_0.out); (case side3 => exact pC (Kd.C_below HR0_1.out HB.out)); (case side4 => exact HC0_1.out); (case side5 => exact pC (Kd.C_below HR1.out HB.out)); (case side6 => exact HC1.out); rintro e w8 ⟨rfl, hb⟩; refine ⟨_, rfl, ?_⟩; replace BK101 := bb BK101 hb; replace HB := bs HB hb; clear hb))
 go_ret
 exact ⟨eT, pE HB⟩
end Go.Proofs.YtlmglnobdcgbeaaGreat.P
