/- Part 3 of what the law's proof needs: words, walks of functions and plain facts. -/
import Derived.Test.YtlmglnobdcgbeaaGreatE01
import Derived.Test.YtlmglnobdcgbeaaGreatE02
set_option linter.unusedVariables false
set_option linter.unusedSimpArgs false
namespace Go.Proofs.YtlmglnobdcgbeaaGreat.P
open Go.RowKit Go.Proofs.YtlmglnobdcgbeaaGreatW.PrintWords Go.Proofs.YtlmglnobdcgbeaaGreatW.PrintLast Go.Proofs.YtlmglnobdcgbeaaGreatW.PrintMore
attribute [local go_sem] max2_int min2_int max_two min_two max_three min_three max_four min_four
mutual
def slices_insertionSortCmpFunc_int_at_turn_day_before_bound.l0 : Nat → List Int → Int → Int → Int → List (S67) → List Int → Option (List Int)
 | 0, _, _, _, _, _, _ => none
 | k + 1, x0, x1, x2, x8, x69000, x69001 => if x8 < x2 then (slices_insertionSortCmpFunc_int_at_turn_day_before_bound.l1 k x0 x1 x2 x8 x8 x69000 x69001) else (some x0)
def slices_insertionSortCmpFunc_int_at_turn_day_before_bound.l1 : Nat → List Int → Int → Int → Int → Int → List (S67) → List Int → Option (List Int)
 | 0, _, _, _, _, _, _, _ => none
 | k + 1, x0, x1, x2, x8, x9, x69000, x69001 => if x9 > x1 then (if 0 ≤ x9 then (if x9 < (x0.length : Int) then (if 0 ≤ (wrap64 (x9 - 1)) then (if (wrap64 (x9 - 1)) < (x0.length : Int) then ((turn_day_before.f k x69000 x69001 (rd x0 x9) (rd x0 (wrap64 (x9 - 1)))).bind fun t103 => (slices_insertionSortCmpFunc_int_at_turn_day_before_bound.j2 k x0 x1 x2 x8 x9 (decide (t103 < 0)) x69000 x69001)) else (none)) else (none)) else (none)) else (none)) else (slices_insertionSortCmpFunc_int_at_turn_day_before_bound.j2 k x0 x1 x2 x8 x9 false x69000 x69001)
def slices_insertionSortCmpFunc_int_at_turn_day_before_bound.j2 : Nat → List Int → Int → Int → Int → Int → Bool → List (S67) → List Int → Option (List Int)
 | 0, _, _, _, _, _, _, _, _ => none
 | k + 1, x0, x1, x2, x8, x9, x34, x69000, x69001 => if x34 = true then (if 0 ≤ (wrap64 (x9 - 1)) then (if (wrap64 (x9 - 1)) < (x0.length : Int) then (if 0 ≤ x9 then (if x9 < (x0.length : Int) then (slices_insertionSortCmpFunc_int_at_turn_day_before_bound.l1 k ((x0.set (x9 : Int).toNat (rd x0 (wrap64 (x9 - 1)))).set ((wrap64 (x9 - 1)) : Int).toNat (rd x0 x9)) x1 x2 x8 (wrap64 (x9 - 1)) x69000 x69001) else (none)) else (none)) else (none)) else (none)) else (slices_insertionSortCmpFunc_int_at_turn_day_before_bound.l0 k x0 x1 x2 (wrap64 (x8 + 1)) x69000 x69001)
end
def slices_insertionSortCmpFunc_int_at_turn_day_before_bound.f (k : Nat) (l0 : List Int) (a1 : Int) (a2 : Int) (l3_0 : List (S67)) (l3_1 : List Int) : Option (List Int) := slices_insertionSortCmpFunc_int_at_turn_day_before_bound.l0 k l0 a1 a2 (wrap64 (a1 + 1)) l3_0 l3_1
theorem slices_insertionSortCmpFunc_int_at_turn_day_before_bound.mono_l : ∀ k, (∀ y0 y1 y2 y3 y4 y5, LeO (slices_insertionSortCmpFunc_int_at_turn_day_before_bound.l0 k y0 y1 y2 y3 y4 y5) (slices_insertionSortCmpFunc_int_at_turn_day_before_bound.l0 (k + 1) y0 y1 y2 y3 y4 y5)) ∧ (∀ y0 y1 y2 y3 y4 y5 y6, LeO (slices_insertionSortCmpFunc_int_at_turn_day_before_bound.l1 k y0 y1 y2 y3 y4 y5 y6) (slices_insertionSortCmpFunc_int_at_turn_day_before_bound.l1 (k + 1) y0 y1 y2 y3 y4 y5 y6)) ∧ (∀ y0 y1 y2 y3 y4 y5 y6 y7, LeO (slices_insertionSortCmpFunc_int_at_turn_day_before_bound.j2 k y0 y1 y2 y3 y4 y5 y6 y7) (slices_insertionSortCmpFunc_int_at_turn_day_before_bound.j2 (k + 1) y0 y1 y2 y3 y4 y5 y6 y7))
 | 0 => ⟨fun _ _ _ _ _ _ r h => by simp [slices_insertionSortCmpFunc_int_at_turn_day_before_bound.l0] at h, fun _ _ _ _ _ _ _ r h => by simp [slices_insertionSortCmpFunc_int_at_turn_day_before_bound.l1] at h, fun _ _ _ _ _ _ _ _ r h => by simp [slices_insertionSortCmpFunc_int_at_turn_day_before_bound.j2] at h⟩
 | k + 1 => by
  obtain ⟨ih0, ih1, ih2⟩ := slices_insertionSortCmpFunc_int_at_turn_day_before_bound.mono_l k
  refine ⟨?_, ?_, ?_⟩
  ·intro y0 y1 y2 y3 y4 y5
   unfold slices_insertionSortCmpFunc_int_at_turn_day_before_bound.l0
   repeat' first
   | (with_reducible exact ih0 _ _ _ _ _ _)
   | (with_reducible exact ih1 _ _ _ _ _ _ _)
   | (with_reducible exact ih2 _ _ _ _ _ _ _ _)
   | (with_reducible exact turn_day_before.mono _ _ _ _ _)
   | (with_reducible exact LeO.refl _)
   | (with_reducible exact LeO.none _)
   | (with_reducible refine LeO.ite ?_ ?_)
   | (with_reducible refine LeO.bind ?_ (fun _ => ?_))
   | exact ih0 _ _ _ _ _ _
   | exact ih1 _ _ _ _ _ _ _
   | exact ih2 _ _ _ _ _ _ _ _
   | exact turn_day_before.mono _ _ _ _ _
   | exact LeO.none _
   | refine LeO.ite ?_ ?_
   | refine LeO.bind ?_ (fun _ => ?_)
  ·intro y0 y1 y2 y3 y4 y5 y6
   unfold slices_insertionSortCmpFunc_int_at_turn_day_before_bound.l1
   repeat' first
   | (with_reducible exact ih0 _ _ _ _ _ _)
   | (with_reducible exact ih1 _ _ _ _ _ _ _)
   | (with_reducible exact ih2 _ _ _ _ _ _ _ _)
   | (with_reducible exact turn_day_before.mono _ _ _ _ _)
   | (with_reducible exact LeO.refl _)
   | (with_reducible exact LeO.none _)
   | (with_reducible refine LeO.ite ?_ ?_)
   | (with_reducible refine LeO.bind ?_ (fun _ => ?_))
   | exact ih0 _ _ _ _ _ _
   | exact ih1 _ _ _ _ _ _ _
   | exact ih2 _ _ _ _ _ _ _ _
   | exact turn_day_before.mono _ _ _ _ _
   | exact LeO.none _
   | refine LeO.ite ?_ ?_
   | refine LeO.bind ?_ (fun _ => ?_)
  ·intro y0 y1 y2 y3 y4 y5 y6 y7
   unfold slices_insertionSortCmpFunc_int_at_turn_day_before_bound.j2
   repeat' first
   | (with_reducible exact ih0 _ _ _ _ _ _)
   | (with_reducible exact ih1 _ _ _ _ _ _ _)
   | (with_reducible exact ih2 _ _ _ _ _ _ _ _)
   | (with_reducible exact turn_day_before.mono _ _ _ _ _)
   | (with_reducible exact LeO.refl _)
   | (with_reducible exact LeO.none _)
   | (with_reducible refine LeO.ite ?_ ?_)
   | (with_reducible refine LeO.bind ?_ (fun _ => ?_))
   | exact ih0 _ _ _ _ _ _
   | exact ih1 _ _ _ _ _ _ _
   | exact ih2 _ _ _ _ _ _ _ _
   | exact turn_day_before.mono _ _ _ _ _
   | exact LeO.none _
   | refine LeO.ite ?_ ?_
   | refine LeO.bind ?_ (fun _ => ?_)
theorem slices_insertionSortCmpFunc_int_at_turn_day_before_bound.mono : ∀ a0 a1 a2 a3 a4 k, LeO (slices_insertionSortCmpFunc_int_at_turn_day_before_bound.f k a0 a1 a2 a3 a4) (slices_insertionSortCmpFunc_int_at_turn_day_before_bound.f (k + 1) a0 a1 a2 a3 a4) := by
 intro a0 a1 a2 a3 a4 k
 obtain ⟨ih0, ih1, ih2⟩ := slices_insertionSortCmpFunc_int_at_turn_day_before_bound.mono_l k
 unfold slices_insertionSortCmpFunc_int_at_turn_day_before_bound.f
 repeat' first
   | (with_reducible exact ih0 _ _ _ _ _ _)
   | (with_reducible exact ih1 _ _ _ _ _ _ _)
   | (with_reducible exact ih2 _ _ _ _ _ _ _ _)
   | (with_reducible exact turn_day_before.mono _ _ _ _ _)
   | (with_reducible exact LeO.refl _)
   | (with_reducible exact LeO.none _)
   | (with_reducible refine LeO.ite ?_ ?_)
   | (with_reducible refine LeO.bind ?_ (fun _ => ?_))
   | exact ih0 _ _ _ _ _ _
   | exact ih1 _ _ _ _ _ _ _
   | exact ih2 _ _ _ _ _ _ _ _
   | exact turn_day_before.mono _ _ _ _ _
   | exact LeO.none _
   | refine LeO.ite ?_ ?_
   | refine LeO.bind ?_ (fun _ => ?_)
def slices_insertionSortCmpFunc_int_at_turn_day_before_bound.T4 : Bool × List (List Nat × List Nat) := (true, [([], []), ([], []), ([0, 1], [0, 1]), ([2], [2]), ([3], [3]), ([3], [3]), ([3], [3]), ([5, 6, 3], [3, 5, 6]), ([7, 3], [3, 7]), ([3], [3]), ([3], [3]), ([10, 3], [3, 10]), ([9, 11, 3], [3, 9, 11]), ([12, 3], [3, 12]), ([4, 8, 13, 3, 3], [3, 4, 8, 13]), ([14, 3], [3, 14]), ([3, 15], [3, 15])])
def slices_insertionSortCmpFunc_int_at_turn_day_before_bound.B4 : List Nat := [0, 0, 3, 7, 15, 15, 15, 111, 239, 15, 15, 1039, 3599, 7695, 16383, 32767, 65535]
theorem slices_insertionSortCmpFunc_int_at_turn_day_before_bound.tab4 : rtab .any (opsOf Tryz.f125 4) = slices_insertionSortCmpFunc_int_at_turn_day_before_bound.T4 := by kernel_rfl
theorem slices_insertionSortCmpFunc_int_at_turn_day_before_bound.bits4 : waitsOk slices_insertionSortCmpFunc_int_at_turn_day_before_bound.T4.2 slices_insertionSortCmpFunc_int_at_turn_day_before_bound.B4 = true := by kernel_rfl
def slices_insertionSortCmpFunc_int_at_turn_day_before_bound.T6 : Bool × List (List Nat × List Nat) := (true, [([], []), ([], []), ([], []), ([], []), ([3], [3]), ([], []), ([], []), ([6], [6]), ([5, 7], [5, 7]), ([8], [8]), ([], []), ([], []), ([10, 11], [10, 11]), ([12], [12]), ([0, 1, 0, 1, 5, 6, 7, 8, 9, 13], [0, 1]), ([14, 9, 0, 1, 5, 6, 7, 8, 9, 13], [9, 14]), ([2, 4, 0, 1, 2, 3, 4, 5, 6, 7, 8, 9, 10, 11, 12, 13, 14, 15], [2, 4]), ([16, 13, 15, 0, 1, 2, 3, 4, 5, 6, 7, 8, 9, 10, 11, 12, 13, 14, 15], [13, 16])])
def slices_insertionSortCmpFunc_int_at_turn_day_before_bound.B6 : List Nat := [0, 0, 0, 0, 8, 0, 0, 64, 224, 480, 0, 0, 3072, 7168, 16355, 32739, 65535, 131071]
theorem slices_insertionSortCmpFunc_int_at_turn_day_before_bound.tab6 : rtab .any (opsOf Tryz.f125 6) = slices_insertionSortCmpFunc_int_at_turn_day_before_bound.T6 := by kernel_rfl
theorem slices_insertionSortCmpFunc_int_at_turn_day_before_bound.bits6 : waitsOk slices_insertionSortCmpFunc_int_at_turn_day_before_bound.T6.2 slices_insertionSortCmpFunc_int_at_turn_day_before_bound.B6 = true := by kernel_rfl
set_option maxHeartbeats 8000000 in
set_option maxRecDepth 100000 in
theorem slices_insertionSortCmpFunc_int_at_turn_day_before_bound.calls (k : Nat) (P0_ : Nat → Prop) (u9000_ : Value) (l0 : List Int) (a1 : Int) (a2 : Int) (A3_0 : Option Addr) (c3_0 : Nat) (l3_0 : List (S67)) (A3_1 : Option Addr) (c3_1 : Nat) (l3_1 : List Int) (r : List Int) (w0 w : World) (hB : Below w0.heap.size w0 w) (ho0 : Kd.R (Kd.int .i64) 3 w w0.heap.size P0_ u9000_ l0) (hr3_0 : ∀ W_, Kept w W_ (fun k_ => P0_ k_) → Kd.C k67 W_ A3_0 l3_0.length l3_0) (hc3_0 : l3_0.length ≤ c3_0) (hr3_1 : ∀ W_, Kept w W_ (fun k_ => P0_ k_) → Kd.C (Kd.int .i64) W_ A3_1 l3_1.length l3_1) (hc3_1 : l3_1.length ≤ c3_1) (h : slices_insertionSortCmpFunc_int_at_turn_day_before_bound.f k l0 a1 a2 l3_0 l3_1 = some r) :
  Calls Tryz.prog 125 #[u9000_, .int .i64 a1, .int .i64 a2, .func (.func 80) #[.agg #[.slice A3_0 l3_0.length c3_0, .slice A3_1 l3_1.length c3_1]] #[]] w fun e w' => e = .returned (.tuple #[]) ∧ Kd.R (Kd.int .i64) 3 w' w0.heap.size (fun k_ => (P0_ k_ ∨ w.heap.size ≤ k_)) u9000_ r ∧ Below w0.heap.size w0 w' ∧ Kept w w' (fun k_ => P0_ k_) := by
 have HO0 := Aside0.mk (show Kd.R (Kd.int .i64) 3 w w0.heap.size (fun k_ => (P0_ k_ ∨ w.heap.size ≤ k_)) u9000_ l0 from Kd.R_mono ho0 (fun k_ hk => (.inl hk)))
 have HR3_0 := Aside0.mk hr3_0
 have HC3_0 := Aside0.mk hc3_0
 clear hr3_0 hc3_0
 have HR3_1 := Aside0.mk hr3_1
 have HC3_1 := Aside0.mk hc3_1
 clear hr3_1 hc3_1
 have HK := Aside0.mk (Kept.refl w (fun k_ => P0_ k_))
 have HW0 := Aside0.mk hB.size
 have HB := Aside0.mk hB
 clear hB
 have H : (slices_insertionSortCmpFunc_int_at_turn_day_before_bound.l0 k l0 a1 a2 (wrap64 (a1 + 1)) l3_0 l3_1) = some r := h
 clear h
 have H' := Aside0.mk H
 clear H
 go_enter Tryz.func125, Tryz.ntmps125
 go_wp2
 (try simp only [Act.put, List.setIfInBounds_toArray, List.set_cons_zero, List.set_cons_succ])
 go_loopg [8] k (fun kq v8 w' => ∃ (x0_1 : List Int) (x8_1 : Int), v8 = .int .i64 x8_1 ∧ Aside0 (slices_insertionSortCmpFunc_int_at_turn_day_before_bound.l0 kq x0_1 a1 a2 x8_1 l3_0 l3_1 = some r) ∧ Aside0 (kq ≤ k) ∧ Aside0 (Kd.R (Kd.int .i64) 3 w' w0.heap.size (fun k_ => (P0_ k_ ∨ w.heap.size ≤ k_)) u9000_ x0_1) ∧ Aside0 (Kept w w' (fun k_ => P0_ k_)) ∧ Aside0 (Below w0.heap.size w0 w'))
 case atStart => exact ⟨(l0), (wrap64 (a1 + 1)), (by first | rfl | (simp; done) | (simp [*]; done)), H', ⟨Nat.le_refl _⟩, ⟨pR HO0.out⟩, ⟨by repeat (first | (with_reducible first | exact HK.out | apply Kept.alloc | apply Kept.drewN | apply Kept.drew) | exact HK.out)⟩, ⟨pE HB⟩⟩
 case round =>
  clear H'
  try clear p2
  try clear c3
  obtain ⟨x0_1, x8_1, rfl, HA, HK1, HO_0, HK, HB⟩ := hrel
  cases gk with
  | zero => exact absurd HA.out (by simp [slices_insertionSortCmpFunc_int_at_turn_day_before_bound.l0])
  | succ k1 =>
   have H := HA.out
   clear HA
   simp only [slices_insertionSortCmpFunc_int_at_turn_day_before_bound.l0] at H
   by_cases c5 : x8_1 < a2
   ·rw [if_pos c5] at H
    have c5b0 : decide (x8_1 < a2) = true := decide_eq_true c5
    clear c5
    have H' := Aside0.mk H
    clear H
    go_wp2
    (try simp only [Act.put, List.setIfInBounds_toArray, List.set_cons_zero, List.set_cons_succ])
    go_loopg [9] k1 (fun kq v9 w' => ∃ (x0_2 : List Int) (x9_2 : Int), v9 = .int .i64 x9_2 ∧ Aside0 (slices_insertionSortCmpFunc_int_at_turn_day_before_bound.l1 kq x0_2 a1 a2 x8_1 x9_2 l3_0 l3_1 = some r) ∧ Aside0 (kq ≤ k1) ∧ Aside0 (Kd.R (Kd.int .i64) 3 w' w0.heap.size (fun k_ => (P0_ k_ ∨ w.heap.size ≤ k_)) u9000_ x0_2) ∧ Aside0 (Kept w w' (fun k_ => P0_ k_)) ∧ Aside0 (Below w0.heap.size w0 w'))
    case atStart => exact ⟨(x0_1), (x8_1), (by first | rfl | (simp; done) | (simp [*]; done)), H', ⟨Nat.le_refl _⟩, ⟨pR HO_0.out⟩, ⟨by repeat (first | (with_reducible first | exact HK.out | apply Kept.alloc | apply Kept.drewN | apply Kept.drew) | exact HK.out)⟩, ⟨pE HB⟩⟩
    case round =>
     clear H'
     try clear p2
     try clear c3
     try clear c5
     try clear c5b0
     try clear p2
     obtain ⟨x0_2, x9_2, rfl, HA, HK2, HO_0, HK, HB⟩ := hrel
     cases gk with
     | zero => exact absurd HA.out (by simp [slices_insertionSortCmpFunc_int_at_turn_day_before_bound.l1])
     | succ k2 =>
      have H := HA.out
      clear HA
      simp only [slices_insertionSortCmpFunc_int_at_turn_day_before_bound.l1] at H
      have HC6 := Aside0.mk H
      clear H
      go_upto_region 4 with (fail)
      go_cut [34] (fun v34 wc => ∃ (kq : Nat) (x34_5 : Bool), v34 = .bool x34_5 ∧ Aside0 (slices_insertionSortCmpFunc_int_at_turn_day_before_bound.j2 kq x0_2 a1 a2 x8_1 x9_2 x34_5 l3_0 l3_1 = some r) ∧ Aside0 (kq ≤ k2) ∧ Aside0 (Kd.R (Kd.int .i64) 3 wc w0.heap.size (fun k_ => (P0_ k_ ∨ w.heap.size ≤ k_)) u9000_ x0_2) ∧ Aside0 (Kept w wc (fun k_ => P0_ k_)) ∧ Aside0 (Below w0.heap.size w0 wc))
      case first =>
       have H := HC6.out
       clear HC6
       by_cases c7 : x9_2 > a1
       ·rw [if_pos c7] at H
        have c7b0 : decide (a1 < x9_2) = true := decide_eq_true c7
        clear c7
        (first | rw [c7b0] | (simp only [i64_w, i32_w]; rw [c7b0]) | skip)
        by_cases c8 : 0 ≤ x9_2
        ·rw [if_pos c8] at H
         have c8b0 : decide (0 ≤ x9_2) = true := decide_eq_true c8
         clear c8
         by_cases c9 : x9_2 < (x0_2.length : Int)
         ·rw [if_pos c9] at H
          have c9b0 : decide (x9_2 < (x0_2.length : Int)) = true := decide_eq_true c9
          clear c9
          obtain ⟨ji10, hji10⟩ : ∃ j_ : Int, (wrap64 (x9_2 - 1)) = j_ := ⟨_, rfl⟩
          replace H : (if 0 ≤ (ji10) then (if (ji10) < (x0_2.length : Int) then ((turn_day_before.f k2 l3_0 l3_1 (rd x0_2 x9_2) (rd x0_2 (ji10))).bind fun t103 => (slices_insertionSortCmpFunc_int_at_turn_day_before_bound.j2 k2 x0_2 a1 a2 x8_1 x9_2 (decide (t103 < 0)) l3_0 l3_1)) else (none)) else (none)) = some r := by first | (rw [hji10] at H; exact H) | (simp only [hji10] at H ⊢; exact H)
          have hji10w : (IntKind.i64.wrap (x9_2 - 1)) = ji10 := (i64_w _).trans hji10
          by_cases c11 : 0 ≤ (ji10)
          ·rw [if_pos c11] at H
           have c11b0 : decide (0 ≤ (ji10)) = true := decide_eq_true c11
           clear c11
           by_cases c12 : (ji10) < (x0_2.length : Int)
           ·rw [if_pos c12] at H
            have c12b0 : decide ((ji10) < (x0_2.length : Int)) = true := decide_eq_true c12
            clear c12
            obtain ⟨t103, A13, H⟩ := bi H
            have H' := Aside0.mk H
            clear H
            try go_wp2
            replace HO_0 := Aside0.mk (Kd.R_drew HO_0.out)
            replace HK := Aside0.mk (Kept.drew HK.out)
            replace HB := Aside0.mk (below_drew1 HB.out)
            obtain ⟨Ao15, co15, eo15⟩ := Kd.R_slice HO_0.out
            (first | subst eo15 | (injection eo15 with f1_ f2_ f3_; have f4_ := f1_.symm; have f5_ := f3_.symm; clear f1_ f2_ f3_; subst f4_; subst f5_))
            have p101 : 0 ≤ (x9_2 : Int) := dT
            have q101 : x9_2 < (x0_2.length : Int) := dT
            obtain ⟨ad101, e101, hx101_0⟩ := Kd.at_int (Kd.R_reads' HO_0.out).2.2 x9_2 p101 q101
            cases e101
            replace p101 := eq_true p101
            replace q101 := eq_true q101
            have p102 : 0 ≤ ((ji10) : Int) := dT
            have q102 : (ji10) < (x0_2.length : Int) := dT
            obtain ⟨ad102, e102, hx102_0⟩ := Kd.at_int (Kd.R_reads' HO_0.out).2.2 (ji10) p102 q102
            obtain rfl : ad101 = ad102 := (by injection e102)
            replace p102 := eq_true p102
            replace q102 := eq_true q102
            refine start_ (n := 17) (S := fun w' => w'.cell? (ad101.add (x9_2).toNat) = some (.int .i64 (rd x0_2 x9_2)) ∧ w'.cell? (ad101.add ((ji10)).toNat) = some (.int .i64 (rd x0_2 (ji10)))) (ds := []) #[false, false, false, false, false, false, false, false, false, false, false, false, false, false, false, false, false] (by kernel_rfl) rfl rfl ⟨hx101_0, hx102_0⟩ (fun hHeld => ?_); refine with_tabW slices_insertionSortCmpFunc_int_at_turn_day_before_bound.tab4 slices_insertionSortCmpFunc_int_at_turn_day_before_bound.bits4 (fun HT_ HW_ => ?_)
            generalize wr.drew = w14 at HO_0 HK HB hx101_0 hx102_0 hHeld ⊢
            refine pu 0 18 ?_
            refine pu 1 19 ?_
            refine pu 2 20 ?_
            refine pu 3 21 ?_
            refine pu 4 22 ?_
            refine pu 5 23 ?_
            refine pu 6 24 ?_
            refine pu 7 25 ?_
            refine pu 9 27 ?_
            refine pu 10 28 ?_
            refine pu 11 29 ?_
            refine pu 12 30 ?_
            refine tk 8 26 hHeld ?_
            refine tk 13 31 hHeld ?_
            refine on 14 (fun K hK => ?_)
            refine goesW_ Tryz.func80 (by kernel_rfl) rfl #[.agg #[.slice A3_0 l3_0.length c3_0, .slice A3_1 l3_1.length c3_1], .int .i64 (rd x0_2 x9_2), .int .i64 (rd x0_2 (ji10))] (by rfl) rfl rfl rfl (by (try simp only [List.map_toArray, List.map_cons, List.map_nil]); first | done | (simp only [hji10]; rfl) | rfl | (simp only [List.length_drop, List.length_take]; rfl)) ?_
            with_reducible refine (turn_day_before.calls k2 _ _ l3_0 _ _ l3_1 (rd x0_2 x9_2) (rd x0_2 (ji10)) t103 _ ?side1 ?side2 ?side3 ?side4 A13.out).mono ?_
            (case side1 => exact Kd.C_kept_now HR3_0.out (by repeat (first | (with_reducible first | exact HK.out | apply Kept.alloc | apply Kept.drewN | apply Kept.drew) | exact HK.out)))
            (case side2 => exact HC3_0.out)
            (case side3 => exact Kd.C_kept_now HR3_1.out (by repeat (first | (with_reducible first | exact HK.out | apply Kept.alloc | apply Kept.drewN | apply Kept.drew) | exact HK.out)))
            (case side4 => exact HC3_1.out)
            rintro e w16 ⟨rfl, hb⟩
            have HS0_ := (hb.cell (World.block_lt_of_cell? _ _ (hHeld.1))).trans (hHeld.1)
            have HS1_ := (hb.cell (World.block_lt_of_cell? _ _ (hHeld.2))).trans (hHeld.2)
            refine ⟨_, rfl, ?_⟩
            replace HO_0 := rb HO_0 hb
            replace HK := Aside0.mk (Kept.below (S := (fun k_ => P0_ k_)) (by repeat (first | (with_reducible first | exact HK.out | apply Kept.alloc | apply Kept.drewN | apply Kept.drew) | exact HK.out)) hb)
            replace HB := bs HB hb
            (try clear hb)
            (try clear hb2)
            (try clear hk)
            (try clear hi)
            refine hK.out _ _ ⟨HS0_, HS1_⟩ (fun hHeld => ?_)
            clear hK K
            refine norm_ (a' := ?_) ?_ ?_
            rotate_left
            ·show Act.put _ (some 32) _ = _
             simp only [Act.put, List.setIfInBounds_toArray, List.set_cons_zero, List.set_cons_succ, i64_w, i32_w]
             rfl
            refine pu 15 33 ?_
            refine pu 16 34 ?_
            refine done_ (done_of HT_.out (by kernel_rfl)) ?_
            try go_wp2
            go_meet
            case rel => exact ⟨_, (decide (t103 < 0)), (by first | rfl | (simp; done) | (simp [*]; done)), H', ⟨by have := HK1.out; have := HK2.out; first | omega | exact Nat.le_refl _⟩, ⟨pR HO_0.out⟩, ⟨by repeat (first | (with_reducible first | exact HK.out | apply Kept.alloc | apply Kept.drewN | apply Kept.drew) | exact HK.out)⟩, ⟨pE HB⟩⟩
           ·rw [if_neg c12] at H
            exact absurd H (by simp)
          ·rw [if_neg c11] at H
           exact absurd H (by simp)
         ·rw [if_neg c9] at H
          exact absurd H (by simp)
        ·rw [if_neg c8] at H
         exact absurd H (by simp)
       ·rw [if_neg c7] at H
        have c7b0 : decide (a1 < x9_2) = false := decide_eq_false c7
        clear c7
        (first | rw [c7b0] | (simp only [i64_w, i32_w]; rw [c7b0]) | skip)
        have H' := Aside0.mk H
        clear H
        try go_wp2
        replace HO_0 := Aside0.mk (Kd.R_drew HO_0.out)
        replace HK := Aside0.mk (Kept.drew HK.out)
        replace HB := Aside0.mk (below_drew1 HB.out)
        refine start_ (n := 17) (S := fun w' => True) (ds := []) #[false, false, false, false, false, false, false, false, false, false, false, false, false, false, false, false, false] (by kernel_rfl) rfl rfl trivial (fun hHeld => ?_); refine with_tabW slices_insertionSortCmpFunc_int_at_turn_day_before_bound.tab4 slices_insertionSortCmpFunc_int_at_turn_day_before_bound.bits4 (fun HT_ HW_ => ?_)
        generalize wr.drew = w17 at HO_0 HK HB hHeld ⊢
        refine pu 0 18 ?_
        refine pu 1 19 ?_
        refine pu 2 20 ?_
        refine pu 3 21 ?_
        refine pd 4 22 ?_
        refine pd 5 23 ?_
        refine pd 6 24 ?_
        refine pd 7 25 ?_
        refine pd 8 26 ?_
        refine pd 9 27 ?_
        refine pd 10 28 ?_
        refine pd 11 29 ?_
        refine pd 12 30 ?_
        refine pd 13 31 ?_
        refine pd 14 32 ?_
        refine pd 15 33 ?_
        refine pu 16 34 ?_
        refine done_ (done_of HT_.out (by kernel_rfl)) ?_
        try go_wp2
        go_meet
        case rel => exact ⟨_, (false), (by first | rfl | (simp; done) | (simp [*]; done)), H', ⟨by have := HK1.out; have := HK2.out; first | omega | exact Nat.le_refl _⟩, ⟨pR HO_0.out⟩, ⟨by repeat (first | (with_reducible first | exact HK.out | apply Kept.alloc | apply Kept.drewN | apply Kept.drew) | exact HK.out)⟩, ⟨pE HB⟩⟩
      case rest =>
       clear HC6
       try clear c1
       try clear p1
       try clear q1
       try clear hx1
       try clear p2
       try clear c3
       try clear c5
       try clear c5b0
       try clear p6
       try clear c7
       try clear c7b0
       try clear c8
       try clear c8b0
       try clear c9
       try clear c9b0
       try clear p10
       try clear q10
       try clear hx10
       try clear c11
       try clear c11b0
       try clear c12
       try clear c12b0
       try clear hx101_0
       try clear hx102_0
       try clear p101
       try clear p102
       try clear p2
       try clear q101
       try clear q102
       obtain ⟨kq, x34_5, rfl, HA, HJ5, HO_0, HK, HB⟩ := hcut
       cases kq with
       | zero => exact absurd HA.out (by simp [slices_insertionSortCmpFunc_int_at_turn_day_before_bound.j2])
       | succ kj5 =>
        have H := HA.out
        clear HA
        simp only [slices_insertionSortCmpFunc_int_at_turn_day_before_bound.j2] at H
        by_cases c18 : x34_5 = true
        ·subst c18
         rw [if_pos rfl] at H
         obtain ⟨ji19, hji19⟩ : ∃ j_ : Int, (wrap64 (x9_2 - 1)) = j_ := ⟨_, rfl⟩
         replace H : (if 0 ≤ (ji19) then (if (ji19) < (x0_2.length : Int) then (if 0 ≤ x9_2 then (if x9_2 < (x0_2.length : Int) then (slices_insertionSortCmpFunc_int_at_turn_day_before_bound.l1 kj5 ((x0_2.set (x9_2 : Int).toNat (rd x0_2 (ji19))).set ((ji19) : Int).toNat (rd x0_2 x9_2)) a1 a2 x8_1 ji19 l3_0 l3_1) else (none)) else (none)) else (none)) else (none)) = some r := by first | (rw [hji19] at H; exact H) | (simp only [hji19] at H ⊢; exact H)
         have hji19w : (IntKind.i64.wrap (x9_2 - 1)) = ji19 := (i64_w _).trans hji19
         by_cases c20 : 0 ≤ (ji19)
         ·rw [if_pos c20] at H
          have c20b0 : decide (0 ≤ (ji19)) = true := decide_eq_true c20
          clear c20
          by_cases c21 : (ji19) < (x0_2.length : Int)
          ·rw [if_pos c21] at H
           have c21b0 : decide ((ji19) < (x0_2.length : Int)) = true := decide_eq_true c21
           clear c21
           by_cases c22 : 0 ≤ x9_2
           ·rw [if_pos c22] at H
            have c22b0 : decide (0 ≤ x9_2) = true := decide_eq_true c22
            clear c22
            by_cases c23 : x9_2 < (x0_2.length : Int)
            ·rw [if_pos c23] at H
             have c23b0 : decide (x9_2 < (x0_2.length : Int)) = true := decide_eq_true c23
             clear c23
             obtain ⟨y106, hy106⟩ : ∃ y_ : List Int, y_ = (x0_2.set (x9_2 : Int).toNat (rd x0_2 (ji19))) := ⟨_, rfl⟩
             replace H : (slices_insertionSortCmpFunc_int_at_turn_day_before_bound.l1 kj5 (y106.set ((ji19) : Int).toNat (rd x0_2 x9_2)) a1 a2 x8_1 ji19 l3_0 l3_1) = some r := yy hy106 H
             have Ny106 := Aside0.mk hy106
             clear hy106
             obtain ⟨y107, hy107⟩ : ∃ y_ : List Int, y_ = (y106.set ((ji19) : Int).toNat (rd x0_2 x9_2)) := ⟨_, rfl⟩
             replace H : (slices_insertionSortCmpFunc_int_at_turn_day_before_bound.l1 kj5 y107 a1 a2 x8_1 ji19 l3_0 l3_1) = some r := yy hy107 H
             have Ny107 := Aside0.mk hy107
             clear hy107
             have H' := Aside0.mk H
             clear H
             try go_wp2
             replace HO_0 := Aside0.mk (Kd.R_drew HO_0.out)
             replace HK := Aside0.mk (Kept.drew HK.out)
             replace HB := Aside0.mk (below_drew1 HB.out)
             obtain ⟨Ao27, co27, eo27⟩ := Kd.R_slice HO_0.out
             (first | subst eo27 | (injection eo27 with f1_ f2_ f3_; have f4_ := f1_.symm; have f5_ := f3_.symm; clear f1_ f2_ f3_; subst f4_; subst f5_))
             have p104 : 0 ≤ ((ji19) : Int) := dT
             have q104 : (ji19) < (x0_2.length : Int) := dT
             obtain ⟨ad104, e104, hx104_0⟩ := Kd.at_int (Kd.R_reads' HO_0.out).2.2 (ji19) p104 q104
             cases e104
             replace p104 := eq_true p104
             replace q104 := eq_true q104
             have p105 : 0 ≤ (x9_2 : Int) := dT
             have q105 : x9_2 < (x0_2.length : Int) := dT
             obtain ⟨ad105, e105, hx105_0⟩ := Kd.at_int (Kd.R_reads' HO_0.out).2.2 x9_2 p105 q105
             obtain rfl : ad104 = ad105 := (by injection e105)
             replace p105 := eq_true p105
             replace q105 := eq_true q105
             have p24 : 0 ≤ (x9_2 : Int) := dT
             have q24 : (x9_2 : Int) < ((x0_2.length : Int) : Int) := dT
             obtain ⟨go24, co24, eo24, gb24, gl24, cl24, HG24⟩ := Kd.R_form HO_0.out (by omega)
             (first | cases eo24 | (injection eo24 with ea_ en_ ec_; (first | subst ea_ | (injection ea_ with ea_; subst ea_)); subst ec_; clear en_))
             have GB24 := Aside0.mk gb24
             have GG24 := Aside0.mk HG24
             clear gb24 gl24 HG24
             have HMgo24 := Aside0.mk (show (P0_ go24 ∨ w.heap.size ≤ go24) from (HO_0.out.1 _ rfl))
             (first | simp only [add_plain] at hx104_0 | skip)
             (first | simp only [add_plain] at hx105_0 | skip)
             obtain ⟨hx24_0, hf24_0⟩ := Kd.R_celln 0 HO_0.out (x9_2 : Int) p24 q24
             replace p24 := eq_true p24
             replace q24 := eq_true q24
             have HP28 := Kd.R_putn HO_0.out (x9_2 : Int) (rd x0_2 (ji19))
             rw [← Ny106.out] at HP28
             have HQ28 := Aside0.mk HP28
             clear HP28
             have p25 : 0 ≤ ((ji19) : Int) := dT
             have q25 : ((ji19) : Int) < ((x0_2.length : Int) : Int) := dT
             obtain ⟨hx25_0, hf25_0⟩ := Kd.R_celln 0 HQ28.out ((ji19) : Int) p25 q25
             replace p25 := eq_true p25
             replace q25 := eq_true q25
             have HP29 := Kd.R_putn HQ28.out ((ji19) : Int) (rd x0_2 x9_2)
             rw [← Ny107.out] at HP29
             have HQ29 := Aside0.mk HP29
             clear HP29
             refine start_ (n := 18) (S := fun w' => w'.cell? ⟨go24, ((ji19)).toNat, none⟩ = some (.int .i64 (rd x0_2 (ji19))) ∧ w'.cell? ⟨go24, (x9_2).toNat, none⟩ = some (.int .i64 (rd x0_2 x9_2))) (ds := [15, 17]) #[false, false, false, false, false, false, false, false, false, false, false, false, false, false, false, false, false, false] (by kernel_rfl) rfl rfl ⟨hx104_0, hx105_0⟩ (fun hHeld => ?_); refine with_tabW slices_insertionSortCmpFunc_int_at_turn_day_before_bound.tab6 slices_insertionSortCmpFunc_int_at_turn_day_before_bound.bits6 (fun HT_ HW_ => ?_)
             generalize wc.drew = w26 at HO_0 HK HB GG24 HQ28 HQ29 hf24_0 hf25_0 hx104_0 hx105_0 hx24_0 hx25_0 hHeld ⊢
             refine pu 0 37 ?_
             refine pu 1 38 ?_
             refine pu 2 39 ?_
             refine pu 3 40 ?_
             refine pu 4 41 ?_
             refine pu 5 42 ?_
             refine pu 6 43 ?_
             refine pu 7 44 ?_
             refine pu 8 45 ?_
             refine pu 10 47 ?_
             refine pu 11 48 ?_
             refine pu 12 49 ?_
             refine tk 9 46 hHeld ?_
             refine tk 13 50 hHeld ?_
             refine pu 14 51 ?_
             refine last_ (i := 15) (N := none) #[true, true, true, true, true, true, true, true, true, true, true, true, true, true, true, true, false, false] rfl rfl (one_of HT_.out (by kernel_rfl)) (by decide) (fun K hK => ?_)
             refine skip_ (w1 := ?_) (by rfl) rfl ?_ ?_
             rotate_left
             ·go_simp
              rfl
             refine hK.out _ _ ?_
             clear hK K
             refine pu 16 52 ?_
             refine last_ (i := 17) (N := none) #[true, true, true, true, true, true, true, true, true, true, true, true, true, true, true, true, true, true] rfl rfl (one_of HT_.out (by kernel_rfl)) (by decide) (fun K hK => ?_)
             refine skip_ (w1 := ?_) (by rfl) rfl ?_ ?_
             rotate_left
             ·go_simp
              rfl
             refine hK.out _ _ ?_
             clear hK K
             refine done_ (done_of HT_.out (by kernel_rfl)) ?_
             try go_wp2
             go_roundg kj5
             case measure => have := HK1.out; have := HK2.out; have := HJ5.out; omega
             case rel => exact ⟨(y107), (ji19), (by first | rfl | (simp; done) | (simp only [← hji19] <;> (first | rfl | simp)) | (simp [*]; done)), H', ⟨by have := HK1.out; have := HK2.out; have := HJ5.out; omega⟩, ⟨pR HQ29.out⟩, ⟨by repeat (first | (with_reducible first | exact HK.out | apply Kept.alloc | apply Kept.drewN | apply Kept.drew | refine Kept.setCell ?_ HMgo24.out _ | refine Kept.setCell ?_ HMgo24.out _) | exact HK.out)⟩, ⟨pE HB⟩⟩
            ·rw [if_neg c23] at H
             exact absurd H (by simp)
           ·rw [if_neg c22] at H
            exact absurd H (by simp)
          ·rw [if_neg c21] at H
           exact absurd H (by simp)
         ·rw [if_neg c20] at H
          exact absurd H (by simp)
        ·replace c18 := Bool.eq_false_iff.mpr c18
         subst c18
         rw [if_neg (show ¬ (false = true) by decide)] at H
         have H' := Aside0.mk H
         clear H
         go_wp2
         go_roundg kj5
         case measure => have := HK1.out; have := HK2.out; have := HJ5.out; omega
         case rel => exact ⟨(x0_2), (wrap64 (x8_1 + 1)), (by first | rfl | (simp; done) | (simp [*]; done)), H', ⟨by have := HK1.out; have := HK2.out; have := HJ5.out; omega⟩, ⟨pR HO_0.out⟩, ⟨by repeat (first | (with_reducible first | exact HK.out | apply Kept.alloc | apply Kept.drewN | apply Kept.drew) | exact HK.out)⟩, ⟨pE HB⟩⟩
   ·rw [if_neg c5] at H
    have c5b0 : decide (x8_1 < a2) = false := decide_eq_false c5
    clear c5
    obtain rfl := Option.some.inj H
    go_wp2
    first | go_end0 | ((try simp only [Exit.inBlock, Exit.then]); refine bodyPost_ret (results_none rfl _ _ _) rfl ?_)
    exact ⟨eT, pR HO_0.out, pE HB, by repeat (first | (with_reducible first | exact HK.out | apply Kept.alloc | apply Kept.drewN | apply Kept.drew) | exact HK.out)⟩
end Go.Proofs.YtlmglnobdcgbeaaGreat.P
namespace Go.Proofs.YtlmglnobdcgbeaaGreat.P
open Go.RowKit Go.Proofs.YtlmglnobdcgbeaaGreatW.PrintWords Go.Proofs.YtlmglnobdcgbeaaGreatW.PrintLast Go.Proofs.YtlmglnobdcgbeaaGreatW.PrintMore
def same (c x : S67) : Bool := decide (x.f0 = c.f0) && decide (x.f1 = c.f1)
def ear (cl : List S67) (a : Nat) : Nat := ((cl.take a).filter (same (rd_T67 cl a))).length
theorem ear_le (cl : List S67) (a : Nat) : ear cl a ≤ a := by
  unfold ear
  exact Nat.le_trans (List.length_filter_le _ _) (List.length_take_le _ _)
theorem nth_l (cl ys : List S67) (c : S67) (u v : Int) (hl : ys.length ≤ 1000) : ∀ (d i k : Nat) (m : Nat), i + d = ys.length → m ≤ i → 2 * d < k →
    turn_day_nth.l0 k m ys (ys.length : Int) i c.f0 c.f1 u v = some ((m + ((ys.drop i).filter (same c)).length : Nat) : Int)
  | 0, i, k, m, hd, hm, hk => by
    obtain ⟨k, rfl⟩ : ∃ m, k = m + 1 := ⟨k - 1, by omega⟩
    rw [turn_day_nth.l0, if_neg (by omega), List.drop_of_length_le (by omega)]; simp
  | d + 1, i, k, m, hd, hm, hk => by
    obtain ⟨k, rfl⟩ : ∃ m, k = m + 1 := ⟨k - 1, by omega⟩
    obtain ⟨k, rfl⟩ : ∃ m, k = m + 1 := ⟨k - 1, by omega⟩
    have hlt : i < ys.length := by omega
    have hj : ∀ b : Bool, turn_day_nth.j1 (k + 1) m ys (ys.length : Int) i b c.f0 c.f1 u v = some (((if b = true then m + 1 else m) + ((ys.drop (i + 1)).filter (same c)).length : Nat) : Int) := fun b => by
      rw [turn_day_nth.j1, nx i (by omega), nx m (by omega)]
      cases b
      · simp only [Bool.false_eq_true, if_false]; exact nth_l cl ys c u v hl d (i + 1) k m (by omega) (by omega) (by omega)
      · simp only [if_true]; exact nth_l cl ys c u v hl d (i + 1) k (m + 1) (by omega) (by omega) (by omega)
    rw [turn_day_nth.l0, if_pos (by omega), if_pos (by omega), if_pos (by omega), rd67_at ys i hlt, hj, hj, List.drop_eq_getElem_cons hlt, List.filter_cons]
    unfold same
    by_cases h0 : ys[i].f0 = c.f0
    · rw [if_pos h0]
      by_cases h1 : ys[i].f1 = c.f1
      · simp [h0, h1]; omega
      · simp [h0, h1]
    · rw [if_neg h0]; simp [h0]
theorem nth_eq (cl : List S67) (rk : List Int) (a : Nat) (ha : a < cl.length) (hl : cl.length ≤ 1000) (k : Nat) (hk : 2 * cl.length < k) : turn_day_nth.f k cl rk a = some (ear cl a : Int) := by
  unfold turn_day_nth.f
  rw [if_pos (by omega), if_pos (by omega), if_pos (by omega), Option.bind_some, Int.toNat_natCast]
  have := nth_l cl (cl.take a) (rd_T67 cl a) (rd_T67 cl a).f2.f0 (rd_T67 cl a).f2.f1 (by simp; omega) (cl.take a).length 0 k 0 (by omega) (by omega) (by simp; omega)
  simp only [Int.ofNat_zero, List.drop_zero, Nat.zero_add] at this
  exact this
theorem earlier_l (cl : List S67) (rk : List Int) (a : Nat) (ha : a < cl.length) (hl : cl.length ≤ 1000) : ∀ (d i k m : Nat), i + d = a → m ≤ i → 2 * d < k →
    walkmillref04_Earlier.l0 k a m i cl rk = some ((m + (((cl.take a).drop i).filter (same (rd_T67 cl a))).length : Nat) : Int)
  | 0, i, k, m, hd, hm, hk => by
    obtain ⟨k, rfl⟩ : ∃ m, k = m + 1 := ⟨k - 1, by omega⟩
    rw [walkmillref04_Earlier.l0, if_neg (by omega), List.drop_of_length_le (by simp; omega)]; simp
  | d + 1, i, k, m, hd, hm, hk => by
    obtain ⟨k, rfl⟩ : ∃ m, k = m + 1 := ⟨k - 1, by omega⟩
    obtain ⟨k, rfl⟩ : ∃ m, k = m + 1 := ⟨k - 1, by omega⟩
    have hlt : i < (cl.take a).length := by simp; omega
    have hj : ∀ b : Bool, walkmillref04_Earlier.j1 (k + 1) a m i b cl rk = some (((if b = true then m + 1 else m) + (((cl.take a).drop (i + 1)).filter (same (rd_T67 cl a))).length : Nat) : Int) := fun b => by
      rw [walkmillref04_Earlier.j1, nx i (by omega), nx m (by omega)]
      cases b
      · simp only [Bool.false_eq_true, if_false]; exact earlier_l cl rk a ha hl d (i + 1) k m (by omega) (by omega) (by omega)
      · simp only [if_true]; exact earlier_l cl rk a ha hl d (i + 1) k (m + 1) (by omega) (by omega) (by omega)
    rw [walkmillref04_Earlier.l0, if_pos (by omega), if_pos (by omega), if_pos (by omega), if_pos (by omega), if_pos (by omega), rd67_at cl i (by omega), hj, hj, List.drop_eq_getElem_cons hlt, List.filter_cons]
    have hg : (cl.take a)[i] = cl[i]'(by omega) := by simp
    rw [hg]
    have hs : same (rd_T67 cl a) (cl[i]'(by omega)) = (decide ((cl[i]'(by omega)).f0 = (rd_T67 cl a).f0) && decide ((cl[i]'(by omega)).f1 = (rd_T67 cl a).f1)) := rfl
    rw [hs]
    by_cases h0 : (cl[i]'(by omega)).f0 = (rd_T67 cl a).f0
    · rw [if_pos h0]
      by_cases h1 : (cl[i]'(by omega)).f1 = (rd_T67 cl a).f1
      · simp [h0, h1]; omega
      · simp [h0, h1]
    · rw [if_neg h0]; simp [h0]
theorem earlier_eq (cl : List S67) (rk : List Int) (a : Nat) (ha : a < cl.length) (hl : cl.length ≤ 1000) (k : Nat) (hk : 2 * cl.length < k) : walkmillref04_Earlier.f k cl rk a = some (ear cl a : Int) := by
  unfold walkmillref04_Earlier.f
  have := earlier_l cl rk a ha hl a 0 k 0 (by omega) (by omega) (by omega)
  simp only [Int.ofNat_zero, List.drop_zero, Nat.zero_add] at this
  exact this
theorem ear_lt (cl : List S67) (a b : Nat) (hab : a < b) (hb : b < cl.length) (h0 : (rd_T67 cl a).f0 = (rd_T67 cl b).f0) (h1 : (rd_T67 cl a).f1 = (rd_T67 cl b).f1) : ear cl a < ear cl b := by
  unfold ear
  have hs : same (rd_T67 cl a) = same (rd_T67 cl b) := by funext x; unfold same; rw [h0, h1]
  rw [hs]
  have hsub : (cl.take (a + 1)).Sublist (cl.take b) := by
    have : cl.take (a + 1) = (cl.take b).take (a + 1) := by rw [List.take_take, Nat.min_eq_left (by omega)]
    rw [this]; exact List.take_sublist _ _
  have hle := (hsub.filter (same (rd_T67 cl b))).length_le
  have ha : a < cl.length := by omega
  have hx : same (rd_T67 cl b) cl[a] = true := by
    have := rd67_at cl a ha
    unfold same; rw [← this, h0, h1]; simp
  rw [List.take_succ_eq_append_getElem ha, List.filter_append, List.length_append, List.filter_cons, hx] at hle
  simp at hle
  omega
def key (cl : List S67) (rk : List Int) (a : Int) : Int := (((rd_T67 cl a).f1 * 100 + ear cl a.toNat) * 10 + rd rk (rd_T67 cl a).f0) * 100 + a
theorem rank_bd {rk : List Int} (hp : rk.Perm (rng rk.length)) (h6 : rk.length ≤ 6) (x : Int) : 0 ≤ rd rk x ∧ rd rk x ≤ 5 := by
  unfold rd
  rcases Nat.lt_or_ge x.toNat rk.length with h | h
  · have hm : rk.getD x.toNat 0 ∈ rk := by rw [List.getD_eq_getElem?_getD, List.getElem?_eq_getElem h]; simp
    have := mem_rng.1 (hp.mem_iff.1 hm)
    omega
  · rw [List.getD_eq_getElem?_getD, List.getElem?_eq_none h]; simp
theorem rank_inj {rk : List Int} (hp : rk.Perm (rng rk.length)) {x y : Int} (hx : 0 ≤ x ∧ x < rk.length) (hy : 0 ≤ y ∧ y < rk.length) (h : rd rk x = rd rk y) : x = y := by
  have hn : rk.Nodup := hp.nodup_iff.2 (rng_nodup _)
  have ex : rd rk x = rk[x.toNat]'(by omega) := by have := rd_at rk x.toNat (by omega); rwa [show ((x.toNat : Nat) : Int) = x by omega] at this
  have ey : rd rk y = rk[y.toNat]'(by omega) := by have := rd_at rk y.toNat (by omega); rwa [show ((y.toNat : Nat) : Int) = y by omega] at this
  rw [ex, ey] at h
  rw [List.nodup_iff_pairwise_ne, List.pairwise_iff_getElem] at hn
  rcases Nat.lt_trichotomy x.toNat y.toNat with h1 | h1 | h1
  · exact absurd h (hn _ _ (by omega) (by omega) h1)
  · omega
  · exact absurd h.symm (hn _ _ (by omega) (by omega) h1)
theorem cl_ok {cl : List S67} {rk : List Int} (v : Valid cl rk) (a : Nat) (ha : a < cl.length) : 0 ≤ (rd_T67 cl a).f0 ∧ (rd_T67 cl a).f0 < rk.length ∧ 0 ≤ (rd_T67 cl a).f1 ∧ (rd_T67 cl a).f1 ≤ 200 ∧ 1 ≤ (rd_T67 cl a).f2.f0 ∧ (rd_T67 cl a).f2.f0 ≤ (rd_T67 cl a).f2.f1 ∧ (rd_T67 cl a).f2.f1 ≤ 600 := by
  rw [rd67_at cl a ha]; exact v.ok _ (List.getElem_mem _)
theorem key_inj (cl : List S67) (rk : List Int) (hc : cl.length ≤ 100) (a b : Int) (ha : 0 ≤ a ∧ a < cl.length) (hb : 0 ≤ b ∧ b < cl.length) (h : key cl rk a = key cl rk b) : a = b := by
  unfold key at h; omega
theorem key_cases {cl : List S67} {rk : List Int} (v : Valid cl rk) (a b : Nat) (ha : a < cl.length) (hb : b < cl.length) (hne : a ≠ b) :
    (rd_T67 cl a).f1 ≠ (rd_T67 cl b).f1 ∨ ear cl a ≠ ear cl b ∨ rd rk (rd_T67 cl a).f0 ≠ rd rk (rd_T67 cl b).f0 := by
  refine Decidable.by_contra fun h => ?_
  simp only [not_or, Decidable.not_not] at h
  obtain ⟨h1, h2, h3⟩ := h
  have oa := cl_ok v a ha
  have ob := cl_ok v b hb
  have h4 := rank_inj v.perm ⟨oa.1, oa.2.1⟩ ⟨ob.1, ob.2.1⟩ h3
  rcases Nat.lt_or_gt_of_ne hne with hlt | hgt
  · have := ear_lt cl a b hlt hb h4 h1; omega
  · have := ear_lt cl b a hgt ha h4.symm h1.symm; omega
theorem or_eq (p q r s : Int) (k : Nat) (hk : 5 < k) : cmp_Or_int.f k [p, q, r, s] = some (if p ≠ 0 then p else if q ≠ 0 then q else if r ≠ 0 then r else s) := by
  obtain ⟨k, rfl⟩ : ∃ m, k = m + 5 := ⟨k - 5, by omega⟩
  have w1 : wrap64 ((0 : Int) + 1) = 1 := by rw [w64_of (by omega) (by omega)]; rfl
  have w2 : wrap64 ((1 : Int) + 1) = 2 := by rw [w64_of (by omega) (by omega)]; rfl
  have w3 : wrap64 ((2 : Int) + 1) = 3 := by rw [w64_of (by omega) (by omega)]; rfl
  have w4 : wrap64 ((3 : Int) + 1) = 4 := by rw [w64_of (by omega) (by omega)]; rfl
  have r0 : rd [p, q, r, s] 0 = p := rfl
  have r1 : rd [p, q, r, s] 1 = q := rfl
  have r2 : rd [p, q, r, s] 2 = r := rfl
  have r3 : rd [p, q, r, s] 3 = s := rfl
  unfold cmp_Or_int.f
  simp only [cmp_Or_int.l0, w1, w2, w3, w4, r0, r1, r2, r3, List.length_cons, List.length_nil]
  by_cases hp : p = 0
  · by_cases hq : q = 0
    · by_cases hr : r = 0
      · by_cases hs : s = 0
        · simp [hp, hq, hr, hs]
        · simp [hp, hq, hr, hs]
      · simp [hp, hq, hr]
    · simp [hp, hq]
  · simp [hp]
theorem before_eq {cl : List S67} {rk : List Int} (v : Valid cl rk) (a b : Int) (ha : 0 ≤ a ∧ a < cl.length) (hb : 0 ≤ b ∧ b < cl.length) (k : Nat) (hk : 30 < k) :
    ∃ c, turn_day_before.f k cl rk a b = some c ∧ (c < 0 ↔ key cl rk a < key cl rk b) := by
  have h10 := v.c10
  have na := nth_eq cl rk a.toNat (by omega) (by omega) k (by omega)
  have nb := nth_eq cl rk b.toNat (by omega) (by omega) k (by omega)
  have oa := cl_ok v a.toNat (by omega)
  have ob := cl_ok v b.toNat (by omega)
  have ea := ear_le cl a.toNat
  have eb := ear_le cl b.toNat
  have ra := rank_bd v.perm v.r6 (rd_T67 cl a).f0
  have rb := rank_bd v.perm v.r6 (rd_T67 cl b).f0
  rw [show ((a.toNat : Nat) : Int) = a by omega] at na oa
  rw [show ((b.toNat : Nat) : Int) = b by omega] at nb ob
  unfold turn_day_before.f
  rw [if_pos ha.1, if_pos ha.2, if_pos hb.1, if_pos hb.2, na, nb]
  simp only [Option.bind_some]
  rw [if_pos oa.1, if_pos oa.2.1, if_pos ob.1, if_pos ob.2.1, or_eq _ _ _ _ k (by omega), Option.bind_some, w64_of (n := (rd_T67 cl a).f1 - (rd_T67 cl b).f1) (by omega) (by omega),
    w64_of (n := (ear cl a.toNat : Int) - ear cl b.toNat) (by omega) (by omega), w64_of (n := rd rk (rd_T67 cl a).f0 - rd rk (rd_T67 cl b).f0) (by omega) (by omega), w64_of (n := a - b) (by omega) (by omega)]
  refine ⟨_, rfl, ?_⟩
  unfold key
  generalize (rd_T67 cl a).f1 = c1 at *
  generalize (rd_T67 cl b).f1 = c2 at *
  generalize rd rk (rd_T67 cl a).f0 = r1 at *
  generalize rd rk (rd_T67 cl b).f0 = r2 at *
  generalize ear cl a.toNat = e1 at *
  generalize ear cl b.toNat = e2 at *
  clear na nb v
  split
  · omega
  split
  · omega
  split
  · omega
  · omega
theorem rBefore_eq {cl : List S67} {rk : List Int} (v : Valid cl rk) (a b : Int) (ha : 0 ≤ a ∧ a < cl.length) (hb : 0 ≤ b ∧ b < cl.length) (hne : a ≠ b) (k : Nat) (hk : 30 < k) :
    walkmillref04_Before.f k cl rk a b = some (decide (key cl rk a < key cl rk b)) := by
  have h10 := v.c10
  have na := earlier_eq cl rk a.toNat (by omega) (by omega) k (by omega)
  have nb := earlier_eq cl rk b.toNat (by omega) (by omega) k (by omega)
  have oa := cl_ok v a.toNat (by omega)
  have ob := cl_ok v b.toNat (by omega)
  have ea := ear_le cl a.toNat
  have eb := ear_le cl b.toNat
  have ra := rank_bd v.perm v.r6 (rd_T67 cl a).f0
  have rb := rank_bd v.perm v.r6 (rd_T67 cl b).f0
  have kc := key_cases v a.toNat b.toNat (by omega) (by omega) (by omega)
  rw [show ((a.toNat : Nat) : Int) = a by omega] at na oa kc
  rw [show ((b.toNat : Nat) : Int) = b by omega] at nb ob kc
  unfold walkmillref04_Before.f
  rw [if_pos ha.1, if_pos ha.2, if_pos hb.1, if_pos hb.2, na, nb]
  simp only [Option.bind_some]
  rw [if_pos oa.1, if_pos oa.2.1, if_pos ob.1, if_pos ob.2.1]
  unfold key
  generalize (rd_T67 cl a).f1 = c1 at *
  generalize (rd_T67 cl b).f1 = c2 at *
  generalize rd rk (rd_T67 cl a).f0 = r1 at *
  generalize rd rk (rd_T67 cl b).f0 = r2 at *
  generalize ear cl a.toNat = e1 at *
  generalize ear cl b.toNat = e2 at *
  clear na nb v
  split
  · split
    · congr 1; exact decide_eq_decide.2 (by omega)
    · congr 1; exact decide_eq_decide.2 (by omega)
  · congr 1; exact decide_eq_decide.2 (by omega)
def inN (n : Nat) (l : List Int) : Prop := ∀ x ∈ l, 0 ≤ x ∧ x < (n : Int)
def byKey (g : Int → Int) (l : List Int) : Prop := l.Pairwise (fun a b => g a ≤ g b)
def Less (cl : List S67) (rk : List Int) : Prop := ∀ (a b : Int), 0 ≤ a ∧ a < cl.length → 0 ≤ b ∧ b < cl.length → ∀ k, 30 < k → ∃ c, turn_day_before.f k cl rk a b = some c ∧ (c < 0 ↔ key cl rk a < key cl rk b)
theorem rd_mid (p q : List Int) (x : Int) : rd (p ++ x :: q) (p.length : Int) = x := by
  unfold rd; simp [List.getD_eq_getElem?_getD]
theorem rd_mid1 (p q : List Int) (u x : Int) : rd (p ++ u :: x :: q) ((p.length + 1 : Nat) : Int) = x := by
  have := rd_mid (p ++ [u]) q x
  simpa using this
theorem swap_mid (u v : Int) (q : List Int) : ∀ p : List Int, ((p ++ u :: v :: q).set (p.length + 1) u).set p.length v = p ++ v :: u :: q
  | [] => rfl
  | a :: p => by simp [swap_mid u v q p]
theorem ins_l1 (cl : List S67) (rk : List Int) (hb : Less cl rk) (bd : Int) (r : List Int) (v : Int) (i : Int) : ∀ (m : Nat) (s1 s2 : List Int) (k : Nat), s1.length = m → 2 * m + 40 < k → (m + s2.length + r.length : Nat) < 1000 → inN cl.length (s1 ++ v :: (s2 ++ r)) → byKey (key cl rk) (s1 ++ s2) → (∀ y ∈ s2, key cl rk v < key cl rk y) →
    ∃ (s1' s2' : List Int) (k' : Nat), slices_insertionSortCmpFunc_int_at_turn_day_before_bound.l1 k (s1 ++ v :: (s2 ++ r)) 0 bd i m cl rk = slices_insertionSortCmpFunc_int_at_turn_day_before_bound.l0 k' (s1' ++ v :: (s2' ++ r)) 0 bd (wrap64 (i + 1)) cl rk ∧ k ≤ k' + 2 * m + 2 ∧ s1' ++ s2' = s1 ++ s2 ∧ (∀ y ∈ s2', key cl rk v < key cl rk y) ∧ (∀ y ∈ s1', key cl rk y ≤ key cl rk v)
  | 0, s1, s2, k, hm, hkk, hn, hr, hs, h2 => by
    obtain ⟨k, rfl⟩ : ∃ m, k = m + 1 := ⟨k - 1, by omega⟩
    obtain ⟨k, rfl⟩ : ∃ m, k = m + 1 := ⟨k - 1, by omega⟩
    obtain rfl : s1 = [] := List.eq_nil_of_length_eq_zero hm
    exact ⟨[], s2, k, by rw [slices_insertionSortCmpFunc_int_at_turn_day_before_bound.l1, if_neg (by omega), slices_insertionSortCmpFunc_int_at_turn_day_before_bound.j2, if_neg (by simp)], by omega, rfl, h2, fun y hy => (by cases hy)⟩
  | m + 1, s1, s2, k, hm, hkk, hn, hr, hs, h2 => by
    obtain ⟨k, rfl⟩ : ∃ m, k = m + 1 := ⟨k - 1, by omega⟩
    obtain ⟨p, u, rfl⟩ : ∃ p u, s1 = p ++ [u] := by
      have hne : s1 ≠ [] := by intro e; subst e; simp at hm
      exact ⟨s1.dropLast, s1.getLast hne, (List.dropLast_concat_getLast hne).symm⟩
    have hp : p.length = m := by simpa using hm
    subst hp
    have e0 : (p ++ [u]) ++ v :: (s2 ++ r) = p ++ u :: v :: (s2 ++ r) := by simp
    have hu := hr u (by simp)
    have hv := hr v (by simp)
    have ej : wrap64 (((p.length + 1 : Nat) : Int) - 1) = (p.length : Int) := by rw [w64_of (by omega) (by omega)]; omega
    have hlen : ((p ++ u :: v :: (s2 ++ r)).length : Int) = (p.length : Int) + 2 + s2.length + r.length := by simp; omega
    obtain ⟨c, hc1, hc2⟩ := hb v u hv hu k (by omega)
    rw [e0, slices_insertionSortCmpFunc_int_at_turn_day_before_bound.l1, if_pos (by omega), if_pos (by omega), hlen, if_pos (by omega), ej, if_pos (by omega), if_pos (by omega), rd_mid1, rd_mid, hc1, Option.bind_some]
    obtain ⟨k, rfl⟩ : ∃ m, k = m + 1 := ⟨k - 1, by omega⟩
    rw [slices_insertionSortCmpFunc_int_at_turn_day_before_bound.j2]
    by_cases hc : key cl rk v < key cl rk u
    · rw [if_pos (decide_eq_true (hc2.2 hc)), ej, if_pos (by omega), hlen, if_pos (by omega), if_pos (by omega), if_pos (by omega), Int.toNat_natCast, Int.toNat_natCast, rd_mid, rd_mid1, swap_mid]
      have e1 : p ++ v :: u :: (s2 ++ r) = p ++ v :: ((u :: s2) ++ r) := by simp
      rw [e1]
      obtain ⟨s1', s2', k', q1, q2, q3, q4, q5⟩ := ins_l1 cl rk hb bd r v i p.length p (u :: s2) k rfl (by omega) (by simp; omega) (fun x hx => hr x (by simp at hx ⊢; rcases hx with h | h | h | h | h <;> simp [h])) (by simpa using hs) (fun y hy => by
        rcases List.mem_cons.1 hy with rfl | hy
        · exact hc
        · exact h2 y hy)
      exact ⟨s1', s2', k', q1, by omega, by rw [q3]; simp, q4, q5⟩
    · rw [if_neg (by simp; have := fun h => hc (hc2.1 h); omega)]
      refine ⟨p ++ [u], s2, k, by rw [e0], by omega, rfl, h2, fun y hy => ?_⟩
      rcases List.mem_append.1 hy with hy | hy
      · have : byKey (key cl rk) (p ++ [u]) := List.Pairwise.sublist (List.sublist_append_left _ _) hs
        have := (List.pairwise_append.1 this).2.2 y hy u (by simp)
        omega
      · obtain rfl := List.mem_singleton.1 hy; omega
theorem ins_l0 (cl : List S67) (rk : List Int) (hb : Less cl rk) : ∀ (d : Nat) (s r : List Int) (k : Nat), r.length = d → 50 * d + 50 < k → s.length + d ≤ 15 → inN cl.length (s ++ r) → byKey (key cl rk) s →
    ∃ ys, slices_insertionSortCmpFunc_int_at_turn_day_before_bound.l0 k (s ++ r) 0 ((s.length + d : Nat) : Int) s.length cl rk = some ys ∧ ys.Perm (s ++ r) ∧ byKey (key cl rk) ys
  | 0, s, r, k, hd, hkk, hn, hr, hs => by
    obtain ⟨k, rfl⟩ : ∃ m, k = m + 1 := ⟨k - 1, by omega⟩
    obtain rfl : r = [] := List.eq_nil_of_length_eq_zero hd
    exact ⟨s ++ [], by rw [slices_insertionSortCmpFunc_int_at_turn_day_before_bound.l0, if_neg (by omega)], List.Perm.refl _, by simpa using hs⟩
  | d + 1, s, r, k, hd, hkk, hn, hr, hs => by
    obtain ⟨k, rfl⟩ : ∃ m, k = m + 1 := ⟨k - 1, by omega⟩
    obtain ⟨v, r, rfl⟩ : ∃ v r', r = v :: r' := by cases r with | nil => cases hd | cons v r => exact ⟨v, r, rfl⟩
    have hrl : r.length = d := by simpa using hd
    rw [slices_insertionSortCmpFunc_int_at_turn_day_before_bound.l0, if_pos (by omega)]
    obtain ⟨s1, s2, k', q1, q2, q3, q4, q5⟩ := ins_l1 cl rk hb ((s.length + (d + 1) : Nat) : Int) r v s.length s.length s [] k rfl (by omega) (by simp; omega) (by simpa using hr) (by simpa using hs) (fun y hy => (by cases hy))
    rw [List.nil_append] at q1
    rw [q1, nx s.length (by omega)]
    rw [List.append_nil] at q3
    have hl : (s1 ++ v :: s2).length = s.length + 1 := by rw [← q3]; simp; omega
    have hp1 : (s1 ++ v :: s2 ++ r).Perm (s ++ v :: r) := by
      rw [← q3, List.append_assoc, List.append_assoc]
      refine List.Perm.append_left s1 ?_
      rw [List.cons_append]
      exact List.perm_middle.symm
    have hs' : byKey (key cl rk) (s1 ++ v :: s2) := by
      rw [← q3] at hs
      obtain ⟨a1, a2, a3⟩ := List.pairwise_append.1 hs
      refine List.pairwise_append.2 ⟨a1, List.pairwise_cons.2 ⟨fun y hy => Int.le_of_lt (q4 y hy), a2⟩, fun x hx y hy => ?_⟩
      rcases List.mem_cons.1 hy with rfl | hy
      · exact q5 x hx
      · exact a3 x hx y hy
    obtain ⟨ys, y1, y2, y3⟩ := ins_l0 cl rk hb d (s1 ++ v :: s2) r k' hrl (by have := congrArg List.length q3; simp at this; omega) (by omega) (fun x hx => hr x (hp1.mem_iff.1 hx)) hs'
    refine ⟨ys, ?_, y2.trans hp1, y3⟩
    rw [hl] at y1
    rw [show s1 ++ v :: (s2 ++ r) = s1 ++ v :: s2 ++ r by simp, show s.length + (d + 1) = s.length + 1 + d by omega]
    exact y1
end Go.Proofs.YtlmglnobdcgbeaaGreat.P
namespace Go.Proofs.YtlmglnobdcgbeaaGreat.P
open Go.RowKit Go.Proofs.YtlmglnobdcgbeaaGreatW.PrintWords Go.Proofs.YtlmglnobdcgbeaaGreatW.PrintLast Go.Proofs.YtlmglnobdcgbeaaGreatW.PrintMore
attribute [local go_sem] max2_int min2_int max_two min_two max_three min_three max_four min_four
def turn_open.j0 : Nat → Int → Bool → List (S67) → List Int → Option ((List (S67)) × List Int × Int)
 | 0, _, _, _, _ => none
 | k + 1, x8, x24, x102000, x102001 => if x24 = true then (some (x102000, x102001, 3)) else (some (x102000, x102001, x8))
def turn_open.f (k : Nat) (l0_0 : List (S67)) (l0_1 : List Int) (a1 : Int) (a2 : Int) : Option ((List (S67)) × List Int × Int) := (turn_Check.f k l0_0 l0_1).bind fun t103 => (if t103 = 0 then ((turn_within.f 1 5 (([a1] : List Int))).bind fun t107 => (if t107 = true then ((turn_within.f 0 500 (([a2] : List Int))).bind fun t111 => (turn_open.j0 k t103 (!t111) l0_0 l0_1)) else (turn_open.j0 k t103 true l0_0 l0_1))) else (turn_open.j0 k t103 false l0_0 l0_1))
theorem turn_open.mono_l : ∀ k, (∀ y0 y1 y2 y3, LeO (turn_open.j0 k y0 y1 y2 y3) (turn_open.j0 (k + 1) y0 y1 y2 y3))
 | 0 => fun _ _ _ _ r h => by simp [turn_open.j0] at h
 | k + 1 => by
  have ih0 := turn_open.mono_l k
  ·intro y0 y1 y2 y3
   unfold turn_open.j0
   repeat' first
   | (with_reducible exact ih0 _ _ _ _)
   | (with_reducible exact turn_Check.mono _ _ _)
   | (with_reducible exact LeO.refl _)
   | (with_reducible exact LeO.none _)
   | (with_reducible refine LeO.ite ?_ ?_)
   | (with_reducible refine LeO.bind ?_ (fun _ => ?_))
   | exact ih0 _ _ _ _
   | exact turn_Check.mono _ _ _
   | exact LeO.none _
   | refine LeO.ite ?_ ?_
   | refine LeO.bind ?_ (fun _ => ?_)
theorem turn_open.mono : ∀ a0 a1 a2 a3 k, LeO (turn_open.f k a0 a1 a2 a3) (turn_open.f (k + 1) a0 a1 a2 a3) := by
 intro a0 a1 a2 a3 k
 have ih0 := turn_open.mono_l k
 unfold turn_open.f
 repeat' first
   | (with_reducible exact ih0 _ _ _ _)
   | (with_reducible exact turn_Check.mono _ _ _)
   | (with_reducible exact LeO.refl _)
   | (with_reducible exact LeO.none _)
   | (with_reducible refine LeO.ite ?_ ?_)
   | (with_reducible refine LeO.bind ?_ (fun _ => ?_))
   | exact ih0 _ _ _ _
   | exact turn_Check.mono _ _ _
   | exact LeO.none _
   | refine LeO.ite ?_ ?_
   | refine LeO.bind ?_ (fun _ => ?_)
set_option maxHeartbeats 8000000 in
set_option maxRecDepth 100000 in
theorem turn_open.calls (k : Nat) (P0_0_ : Nat → Prop) (A0_0 : Option Addr) (c0_0 : Nat) (l0_0 : List (S67)) (P0_1_ : Nat → Prop) (A0_1 : Option Addr) (c0_1 : Nat) (l0_1 : List Int) (a1 : Int) (a2 : Int) (r1 : List (S67)) (r2 : List Int) (r3 : Int) (w : World) (hs0_0 : Kd.V k67 67 w w.heap.size (fun k_ => P0_0_ k_) (.slice A0_0 l0_0.length c0_0) l0_0) (hs0_1 : Kd.V (Kd.int .i64) 3 w w.heap.size (fun k_ => P0_1_ k_) (.slice A0_1 l0_1.length c0_1) l0_1) (h : turn_open.f k l0_0 l0_1 a1 a2 = some (r1, r2, r3)) :
  Calls Tryz.prog 62 #[.agg #[.slice A0_0 l0_0.length c0_0, .slice A0_1 l0_1.length c0_1], .int .i64 a1, .int .i64 a2] w fun e w' => ∃ v0_ v1_ : Value, e = .returned (.tuple #[.agg #[v0_, v1_], .int .i64 r3]) ∧ Kd.V k67 67 w' w.heap.size (fun k_ => ((P0_0_ k_ ∨ P0_1_ k_) ∨ w.heap.size ≤ k_)) v0_ r1 ∧ Kd.V (Kd.int .i64) 3 w' w.heap.size (fun k_ => ((P0_0_ k_ ∨ P0_1_ k_) ∨ w.heap.size ≤ k_)) v1_ r2 ∧ Below w.heap.size w w' := by
 have hu25 := Tryz.underlying25
 have hu99 := Tryz.underlying99
 have HO0_0 := Aside0.mk (show Kd.V k67 67 w w.heap.size (fun k_ => ((P0_0_ k_ ∨ P0_1_ k_) ∨ w.heap.size ≤ k_)) (.slice A0_0 l0_0.length c0_0) l0_0 from Kd.V_mono hs0_0 (fun k_ hk => .inl (.inl hk)))
 have HO0_1 := Aside0.mk (show Kd.V (Kd.int .i64) 3 w w.heap.size (fun k_ => ((P0_0_ k_ ∨ P0_1_ k_) ∨ w.heap.size ≤ k_)) (.slice A0_1 l0_1.length c0_1) l0_1 from Kd.V_mono hs0_1 (fun k_ hk => .inl (.inr hk)))
 have HB := Aside0.mk (Below.refl w.heap.size w)
 have H : ((turn_Check.f k l0_0 l0_1).bind fun t103 => (if t103 = 0 then ((turn_within.f 1 5 (([a1] : List Int))).bind fun t107 => (if t107 = true then ((turn_within.f 0 500 (([a2] : List Int))).bind fun t111 => (turn_open.j0 k t103 (!t111) l0_0 l0_1)) else (turn_open.j0 k t103 true l0_0 l0_1))) else (turn_open.j0 k t103 false l0_0 l0_1))) = some (r1, r2, r3) := h
 clear h
 obtain ⟨t103, A4, H⟩ := bi H
 have HC5 := Aside0.mk H
 clear H
 go_enter Tryz.func62, Tryz.ntmps62
 go_upto_region 2 with (first | ((with_reducible refine gate_dst (N := 3) rfl ?_); (try (refine gate_guard (by rfl) ?_; dsimp only)); refine bx 3 #[.slice A0_0 l0_0.length c0_0, .slice A0_1 l0_1.length c0_1] 25 ?_; intro gb101 hg w6 hbox hb; replace HO0_0 := ve HO0_0 hg hb; replace HO0_1 := ve HO0_1 hg hb; have BK101 := hbox; have GW101 := gs HB hg; have GE101 := gs HB hg; replace HB := bs HB hb; clear hb hbox hg) | ((with_reducible refine gate_dst (N := 6) rfl ?_); (try (refine gate_guard (by rfl) ?_; dsimp only)); refine bx 6 #[.slice none 0 0, .slice none 0 0] 99 ?_; intro gb102 hg w7 hbox hb; replace HO0_0 := ve HO0_0 hg hb; replace HO0_1 := ve HO0_1 hg hb; have BK102 := hbox; have GW102 := gs HB hg; have GE102 := gs HB hg; replace HB := bs HB hb; have NB101_102 := nl BK101 hg; have NB102_101 := nr BK101 hg; replace BK101 := bb BK101 hb; clear hb hbox hg; have hnb8 := NB101_102.out; have hnc8 := NB102_101.out; obtain ⟨hcz9_0, hcz9_1, hfz9_0, hfz9_1⟩ := cf2 BK101) | ((with_reducible refine gc 19 rfl ?_); refine gL 10 Tryz.func19 #[.agg #[.slice A0_0 l0_0.length c0_0, .slice A0_1 l0_1.length c0_1]] ?_; (with_reducible refine (turn_Check.calls k _ _ l0_0 _ _ l0_1 t103 _ ?side1 ?side2 ?side3 ?side4 A4.out).mono ?_); (case side1 => exact pC (Kd.V_reads' HO0_0.out).2.2); (case side2 => exact (Kd.V_reads' HO0_0.out).2.1); (case side3 => exact pC (Kd.V_reads' HO0_1.out).2.2); (case side4 => exact (Kd.V_reads' HO0_1.out).2.1); rintro e w10 ⟨rfl, hb⟩; refine ⟨_, rfl, ?_⟩; replace HO0_0 := vb HO0_0 hb; replace HO0_1 := vb HO0_1 hb; replace BK101 := bb BK101 hb; replace BK102 := bb BK102 hb; replace HB := bs HB hb; clear hb))
 (try simp only [Act.put, List.setIfInBounds_toArray, List.set_cons_zero, List.set_cons_succ])
 go_cut [24] (fun v24 wc => ∃ (kq : Nat) (x24_4 : Bool), v24 = .bool x24_4 ∧ Aside0 (turn_open.j0 kq t103 x24_4 l0_0 l0_1 = some (r1, r2, r3)) ∧ Aside0 (kq ≤ k) ∧ Aside0 (Kd.V k67 67 wc w.heap.size (fun k_ => ((P0_0_ k_ ∨ P0_1_ k_) ∨ w.heap.size ≤ k_) ∧ k_ ≠ gb101 ∧ k_ ≠ gb102) (.slice A0_0 l0_0.length c0_0) l0_0) ∧ Aside0 (Kd.V (Kd.int .i64) 3 wc w.heap.size (fun k_ => ((P0_0_ k_ ∨ P0_1_ k_) ∨ w.heap.size ≤ k_) ∧ k_ ≠ gb101 ∧ k_ ≠ gb102) (.slice A0_1 l0_1.length c0_1) l0_1) ∧ Aside0 (wc.heap[gb101]? = some (.cells #[(.slice A0_0 l0_0.length c0_0), (.slice A0_1 l0_1.length c0_1)] 25 (0, 0))) ∧ Aside0 (wc.heap[gb102]? = some (.cells #[(.slice none 0 0), (.slice none 0 0)] 99 (0, 0))) ∧ Aside0 (Below w.heap.size w wc))
 case first =>
  have H := HC5.out
  clear HC5
  by_cases c11 : t103 = 0
  ·rw [if_pos c11] at H
   have c11b0 : (t103 == 0) = true := beq_iff_eq.mpr c11
   have c11b1 : (t103 != 0) = false := bne_eq_false_iff_eq.mpr c11
   clear c11
   (first | rw [c11b0] | (simp only [i64_w, i32_w]; rw [c11b0]) | skip)
   obtain ⟨y104, hy104⟩ : ∃ y_ : List Int, y_ = (([a1] : List Int)) := ⟨_, rfl⟩
   replace H : Option.bind (turn_within.f 1 5 y104) _ = some (r1, r2, r3) := yy hy104 H
   have Ny104 := Aside0.mk hy104
   clear hy104
   obtain ⟨t107, A12, H⟩ := bi H
   by_cases c13 : t107 = true
   ·subst c13
    rw [if_pos rfl] at H
    obtain ⟨y108, hy108⟩ : ∃ y_ : List Int, y_ = (([a2] : List Int)) := ⟨_, rfl⟩
    replace H : Option.bind (turn_within.f 0 500 y108) _ = some (r1, r2, r3) := yy hy108 H
    have Ny108 := Aside0.mk hy108
    clear hy108
    obtain ⟨t111, A14, H⟩ := bi H
    have H' := Aside0.mk H
    clear H
    go_wp2_with (first | ((with_reducible refine gate_dst (N := 15) rfl ?_); (try (refine gate_guard (by rfl) ?_; dsimp only)); refine Kd.R_lit (Kd.int .i64) _ 3 ?hg (N := 15) ?hd (xs := ([a1] : List Int)) (inner := [.int .i64 a1]) (ok := fun _ => True) (okp := fun _ => True) ?hr ?hp (fun _ hk => hk) trivial (Below.refl _ _) (Nat.le_refl _) (by simp) ?_; (case hd => rfl); (case hg => rfl); (case hr => first | (go_simp; done) | (go_simp; rfl)); (case hp => exact (Reps.one (show Kd.M (Kd.int .i64) _ _ _ a1 [.int .i64 a1] from rfl) (Reps.none _ _))); intro v105 w15 ho16 hb hg_ hnew_; clear hg_ hnew_; (first | rw [← Ny104.out] at ho16 | (simp only [Int.reduceToNat] at ho16; rw [← Ny104.out] at ho16)); replace HO0_0 := Aside0.mk (Kd.V_elder' (pV HO0_0.out) (Kd.R_base ho16) hb); replace HO0_1 := Aside0.mk (Kd.V_elder' (pV HO0_1.out) (Kd.R_base ho16) hb); have HO106 := Aside0.mk (Kd.R_lower (Kd.R_newM (M := fun k_ => (w.heap.size ≤ k_)) ho16 (below_size (pE HB)) (fun k_ h_ => h_)) (below_size (pE HB))); replace BK101 := bb BK101 hb; replace BK102 := bb BK102 hb; replace HB := bs HB hb; clear hb ho16; obtain ⟨Ao17, co17, eo17⟩ := Kd.R_slice HO106.out; subst eo17) | (go_at_call 59; (with_reducible refine (turn_within.calls 1 5 _ _ y104 true _ ?side1 ?side2 A12.out).mono ?_); (case side1 => exact pC (Kd.R_reads' HO106.out).2.2); (case side2 => exact (Kd.R_reads' HO106.out).2.1); rintro e w18 ⟨rfl, hb⟩; replace HO0_0 := vb HO0_0 hb; replace HO0_1 := vb HO0_1 hb; replace HO106 := rb HO106 hb; replace BK101 := bb BK101 hb; replace BK102 := bb BK102 hb; replace HB := bs HB hb; (try clear hb); (try clear hb2); (try clear hk); (try clear hi)) | ((with_reducible refine gate_dst (N := 20) rfl ?_); (try (refine gate_guard (by rfl) ?_; dsimp only)); refine Kd.R_lit (Kd.int .i64) _ 3 ?hg (N := 20) ?hd (xs := ([a2] : List Int)) (inner := [.int .i64 a2]) (ok := fun _ => True) (okp := fun _ => True) ?hr ?hp (fun _ hk => hk) trivial (Below.refl _ _) (Nat.le_refl _) (by simp) ?_; (case hd => rfl); (case hg => rfl); (case hr => first | (go_simp; done) | (go_simp; rfl)); (case hp => exact (Reps.one (show Kd.M (Kd.int .i64) _ _ _ a2 [.int .i64 a2] from rfl) (Reps.none _ _))); intro v109 w19 ho20 hb hg_ hnew_; clear hg_ hnew_; (first | rw [← Ny108.out] at ho20 | (simp only [Int.reduceToNat] at ho20; rw [← Ny108.out] at ho20)); replace HO0_0 := Aside0.mk (Kd.V_elder' (pV HO0_0.out) (Kd.R_base ho20) hb); replace HO0_1 := Aside0.mk (Kd.V_elder' (pV HO0_1.out) (Kd.R_base ho20) hb); have HO110 := Aside0.mk (Kd.R_lower (Kd.R_new' (Kd.R_newM (M := fun k_ => (w.heap.size ≤ k_)) ho20 (below_size (pE HB)) (fun k_ h_ => h_)) (Kd.R_lt (pR HO106.out))) (below_size (pE HB))); replace HO106 := re HO106 ho20 hb; replace BK101 := bb BK101 hb; replace BK102 := bb BK102 hb; replace HB := bs HB hb; clear hb ho20; obtain ⟨Ao21, co21, eo21⟩ := Kd.R_slice HO110.out; subst eo21) | (go_at_call 59; (with_reducible refine (turn_within.calls 0 500 _ _ y108 t111 _ ?side1 ?side2 A14.out).mono ?_); (case side1 => exact pC (Kd.R_reads' HO110.out).2.2); (case side2 => exact (Kd.R_reads' HO110.out).2.1); rintro e w22 ⟨rfl, hb⟩; replace HO0_0 := vb HO0_0 hb; replace HO0_1 := vb HO0_1 hb; replace HO106 := rb HO106 hb; replace HO110 := rb HO110 hb; replace BK101 := bb BK101 hb; replace BK102 := bb BK102 hb; replace HB := bs HB hb; (try clear hb); (try clear hb2); (try clear hk); (try clear hi)))
    go_meet
    case rel => exact ⟨_, (!t111), (by first | rfl | (simp; done) | (simp [*]; done)), H', ⟨by first | omega | exact Nat.le_refl _⟩, ⟨by (with_reducible repeat (first | apply Kd.V_alloc | apply Kd.V_drewN | apply Kd.V_drew)); exact Kd.V_mono HO0_0.out (fun _ hk => ⟨hk.1.1.1.1, ⟨hk.1.1.1.2, hk.1.1.2⟩⟩)⟩, ⟨by (with_reducible repeat (first | apply Kd.V_alloc | apply Kd.V_drewN | apply Kd.V_drew)); exact Kd.V_mono HO0_1.out (fun _ hk => ⟨hk.1.1.1.1, ⟨hk.1.1.1.2, hk.1.1.2⟩⟩)⟩, ⟨pB BK101.out⟩, ⟨pB BK102.out⟩, ⟨pE HB⟩⟩
   ·replace c13 := Bool.eq_false_iff.mpr c13
    subst c13
    rw [if_neg (show ¬ (false = true) by decide)] at H
    have H' := Aside0.mk H
    clear H
    go_wp2_with (first | ((with_reducible refine gate_dst (N := 15) rfl ?_); (try (refine gate_guard (by rfl) ?_; dsimp only)); refine Kd.R_lit (Kd.int .i64) _ 3 ?hg (N := 15) ?hd (xs := ([a1] : List Int)) (inner := [.int .i64 a1]) (ok := fun _ => True) (okp := fun _ => True) ?hr ?hp (fun _ hk => hk) trivial (Below.refl _ _) (Nat.le_refl _) (by simp) ?_; (case hd => rfl); (case hg => rfl); (case hr => first | (go_simp; done) | (go_simp; rfl)); (case hp => exact (Reps.one (show Kd.M (Kd.int .i64) _ _ _ a1 [.int .i64 a1] from rfl) (Reps.none _ _))); intro v105 w23 ho24 hb hg_ hnew_; clear hg_ hnew_; (first | rw [← Ny104.out] at ho24 | (simp only [Int.reduceToNat] at ho24; rw [← Ny104.out] at ho24)); replace HO0_0 := Aside0.mk (Kd.V_elder' (pV HO0_0.out) (Kd.R_base ho24) hb); replace HO0_1 := Aside0.mk (Kd.V_elder' (pV HO0_1.out) (Kd.R_base ho24) hb); have HO106 := Aside0.mk (Kd.R_lower (Kd.R_newM (M := fun k_ => (w.heap.size ≤ k_)) ho24 (below_size (pE HB)) (fun k_ h_ => h_)) (below_size (pE HB))); replace BK101 := bb BK101 hb; replace BK102 := bb BK102 hb; replace HB := bs HB hb; clear hb ho24; obtain ⟨Ao25, co25, eo25⟩ := Kd.R_slice HO106.out; subst eo25) | (go_at_call 59; (with_reducible refine (turn_within.calls 1 5 _ _ y104 false _ ?side1 ?side2 A12.out).mono ?_); (case side1 => exact pC (Kd.R_reads' HO106.out).2.2); (case side2 => exact (Kd.R_reads' HO106.out).2.1); rintro e w26 ⟨rfl, hb⟩; replace HO0_0 := vb HO0_0 hb; replace HO0_1 := vb HO0_1 hb; replace HO106 := rb HO106 hb; replace BK101 := bb BK101 hb; replace BK102 := bb BK102 hb; replace HB := bs HB hb; (try clear hb); (try clear hb2); (try clear hk); (try clear hi)))
    go_meet
    case rel => exact ⟨_, (true), (by first | rfl | (simp; done) | (simp [*]; done)), H', ⟨by first | omega | exact Nat.le_refl _⟩, ⟨by (with_reducible repeat (first | apply Kd.V_alloc | apply Kd.V_drewN | apply Kd.V_drew)); exact Kd.V_mono HO0_0.out (fun _ hk => ⟨hk.1.1.1, ⟨hk.1.1.2, hk.1.2⟩⟩)⟩, ⟨by (with_reducible repeat (first | apply Kd.V_alloc | apply Kd.V_drewN | apply Kd.V_drew)); exact Kd.V_mono HO0_1.out (fun _ hk => ⟨hk.1.1.1, ⟨hk.1.1.2, hk.1.2⟩⟩)⟩, ⟨pB BK101.out⟩, ⟨pB BK102.out⟩, ⟨pE HB⟩⟩
  ·rw [if_neg c11] at H
   have c11b0 : (t103 == 0) = false := beq_eq_false_iff_ne.mpr c11
   have c11b1 : (t103 != 0) = true := bne_iff_ne.mpr c11
   (first | rw [c11b0] | (simp only [i64_w, i32_w]; rw [c11b0]) | skip)
   have H' := Aside0.mk H
   clear H
   go_wp2
   go_meet
   case rel => exact ⟨_, (false), (by first | rfl | (simp; done) | (simp [*]; done)), H', ⟨by first | omega | exact Nat.le_refl _⟩, ⟨by (with_reducible repeat (first | apply Kd.V_alloc | apply Kd.V_drewN | apply Kd.V_drew)); exact Kd.V_mono HO0_0.out (fun _ hk => ⟨hk.1.1, ⟨hk.1.2, hk.2⟩⟩)⟩, ⟨by (with_reducible repeat (first | apply Kd.V_alloc | apply Kd.V_drewN | apply Kd.V_drew)); exact Kd.V_mono HO0_1.out (fun _ hk => ⟨hk.1.1, ⟨hk.1.2, hk.2⟩⟩)⟩, ⟨pB BK101.out⟩, ⟨pB BK102.out⟩, ⟨pE HB⟩⟩
 case rest =>
  clear HC5
  try clear c1
  try clear p2
  try clear c6
  try clear c8
  try clear c11
  try clear c11b0
  try clear c11b1
  try clear c13
  try clear c19
  try clear hcz9_0
  try clear hcz9_1
  try clear hfz9_0
  try clear hfz9_1
  obtain ⟨kq, x24_4, rfl, HA, HJ4, HO_102000, HO_102001, BK101, BK102, HB⟩ := hcut
  cases kq with
  | zero => exact absurd HA.out (by simp [turn_open.j0])
  | succ kj4 =>
   have H := HA.out
   clear HA
   simp only [turn_open.j0] at H
   by_cases c27 : x24_4 = true
   ·subst c27
    rw [if_pos rfl] at H
    simp only [Option.some.injEq, Prod.mk.injEq] at H
    obtain ⟨rfl, rfl, rfl⟩ := H
    have hnb28 := NB101_102.out
    have hnc28 := NB102_101.out
    obtain ⟨_, _, _, _⟩ := cf2 BK101
    obtain ⟨_, _, _, _⟩ := cf2 BK102
    go_wp2
    refine bodyPost_ret (results_ct rfl _ _ gb102 99 #[.slice A0_0 l0_0.length c0_0, .slice A0_1 l0_1.length c0_1] (0, 0) _ rfl (by refine pB ?_; refine blk_put (cs := #[.slice A0_0 l0_0.length c0_0, .slice none 0 0]) ?_ 1 _ rfl; refine pB ?_; refine blk_put (cs := #[.slice none 0 0, .slice none 0 0]) ?_ 0 _ rfl; exact pB BK102.out) Tryz.underlying99 rfl (by kernel_rfl)) rfl ?_
    exact ⟨_, _, eT, by (with_reducible repeat (first | apply Kd.V_alloc | apply Kd.V_drewN | apply Kd.V_drew)); exact Kd.V_mono (Kd.V_far (p := ⟨gb102, 1, none⟩) (Kd.V_far (p := ⟨gb102, 0, none⟩) (Kd.V_mono HO_102000.out (fun k_ hk => (⟨hk, hk.2.2⟩ : _ ∧ k_ ≠ gb102))) (fun _ hk => hk.2) (.slice A0_0 l0_0.length c0_0)) (fun _ hk => hk.2) (.slice A0_1 l0_1.length c0_1)) (fun _ hk => hk.1.1), by (with_reducible repeat (first | apply Kd.V_alloc | apply Kd.V_drewN | apply Kd.V_drew)); exact Kd.V_mono (Kd.V_far (p := ⟨gb102, 1, none⟩) (Kd.V_far (p := ⟨gb102, 0, none⟩) (Kd.V_mono HO_102001.out (fun k_ hk => (⟨hk, hk.2.2⟩ : _ ∧ k_ ≠ gb102))) (fun _ hk => hk.2) (.slice A0_0 l0_0.length c0_0)) (fun _ hk => hk.2) (.slice A0_1 l0_1.length c0_1)) (fun _ hk => hk.1.1), pE HB⟩
   ·replace c27 := Bool.eq_false_iff.mpr c27
    subst c27
    rw [if_neg (show ¬ (false = true) by decide)] at H
    simp only [Option.some.injEq, Prod.mk.injEq] at H
    obtain ⟨rfl, rfl, rfl⟩ := H
    have hnb31 := NB101_102.out
    have hnc31 := NB102_101.out
    obtain ⟨_, _, _, _⟩ := cf2 BK101
    obtain ⟨_, _, _, _⟩ := cf2 BK102
    go_wp2
    refine bodyPost_ret (results_ct rfl _ _ gb102 99 #[.slice A0_0 l0_0.length c0_0, .slice A0_1 l0_1.length c0_1] (0, 0) _ rfl (by refine pB ?_; refine blk_put (cs := #[.slice A0_0 l0_0.length c0_0, .slice none 0 0]) ?_ 1 _ rfl; refine pB ?_; refine blk_put (cs := #[.slice none 0 0, .slice none 0 0]) ?_ 0 _ rfl; exact pB BK102.out) Tryz.underlying99 rfl (by kernel_rfl)) rfl ?_
    exact ⟨_, _, eT, by (with_reducible repeat (first | apply Kd.V_alloc | apply Kd.V_drewN | apply Kd.V_drew)); exact Kd.V_mono (Kd.V_far (p := ⟨gb102, 1, none⟩) (Kd.V_far (p := ⟨gb102, 0, none⟩) (Kd.V_mono HO_102000.out (fun k_ hk => (⟨hk, hk.2.2⟩ : _ ∧ k_ ≠ gb102))) (fun _ hk => hk.2) (.slice A0_0 l0_0.length c0_0)) (fun _ hk => hk.2) (.slice A0_1 l0_1.length c0_1)) (fun _ hk => hk.1.1), by (with_reducible repeat (first | apply Kd.V_alloc | apply Kd.V_drewN | apply Kd.V_drew)); exact Kd.V_mono (Kd.V_far (p := ⟨gb102, 1, none⟩) (Kd.V_far (p := ⟨gb102, 0, none⟩) (Kd.V_mono HO_102001.out (fun k_ hk => (⟨hk, hk.2.2⟩ : _ ∧ k_ ≠ gb102))) (fun _ hk => hk.2) (.slice A0_0 l0_0.length c0_0)) (fun _ hk => hk.2) (.slice A0_1 l0_1.length c0_1)) (fun _ hk => hk.1.1), pE HB⟩
def slices_pdqsortCmpFunc_int_at_turn_day_before_bound.l0 : Nat → List Int → Int → Int → Int → Bool → List (S67) → List Int → Option (List Int)
 | 0, _, _, _, _, _, _, _ => none
 | k + 1, x0, x1, x2, x3, x10, x75000, x75001 => if (wrap64 (x2 - x1)) ≤ 12 then ((slices_insertionSortCmpFunc_int_at_turn_day_before_bound.f k x0 x1 x2 x75000 x75001).bind fun t101 => (some t101)) else (if x3 = 0 then (none) else (if x10 = true then (none) else (none)))
def slices_pdqsortCmpFunc_int_at_turn_day_before_bound.f (k : Nat) (l0 : List Int) (a1 : Int) (a2 : Int) (a3 : Int) (l4_0 : List (S67)) (l4_1 : List Int) : Option (List Int) := slices_pdqsortCmpFunc_int_at_turn_day_before_bound.l0 k l0 a1 a2 a3 true l4_0 l4_1
theorem slices_pdqsortCmpFunc_int_at_turn_day_before_bound.mono_l : ∀ k, (∀ y0 y1 y2 y3 y4 y5 y6, LeO (slices_pdqsortCmpFunc_int_at_turn_day_before_bound.l0 k y0 y1 y2 y3 y4 y5 y6) (slices_pdqsortCmpFunc_int_at_turn_day_before_bound.l0 (k + 1) y0 y1 y2 y3 y4 y5 y6))
 | 0 => fun _ _ _ _ _ _ _ r h => by simp [slices_pdqsortCmpFunc_int_at_turn_day_before_bound.l0] at h
 | k + 1 => by
  have ih0 := slices_pdqsortCmpFunc_int_at_turn_day_before_bound.mono_l k
  ·intro y0 y1 y2 y3 y4 y5 y6
   unfold slices_pdqsortCmpFunc_int_at_turn_day_before_bound.l0
   repeat' first
   | (with_reducible exact ih0 _ _ _ _ _ _ _)
   | (with_reducible exact slices_insertionSortCmpFunc_int_at_turn_day_before_bound.mono _ _ _ _ _ _)
   | (with_reducible exact LeO.refl _)
   | (with_reducible exact LeO.none _)
   | (with_reducible refine LeO.ite ?_ ?_)
   | (with_reducible refine LeO.bind ?_ (fun _ => ?_))
   | exact ih0 _ _ _ _ _ _ _
   | exact slices_insertionSortCmpFunc_int_at_turn_day_before_bound.mono _ _ _ _ _ _
   | exact LeO.none _
   | refine LeO.ite ?_ ?_
   | refine LeO.bind ?_ (fun _ => ?_)
theorem slices_pdqsortCmpFunc_int_at_turn_day_before_bound.mono : ∀ a0 a1 a2 a3 a4 a5 k, LeO (slices_pdqsortCmpFunc_int_at_turn_day_before_bound.f k a0 a1 a2 a3 a4 a5) (slices_pdqsortCmpFunc_int_at_turn_day_before_bound.f (k + 1) a0 a1 a2 a3 a4 a5) := by
 intro a0 a1 a2 a3 a4 a5 k
 have ih0 := slices_pdqsortCmpFunc_int_at_turn_day_before_bound.mono_l k
 unfold slices_pdqsortCmpFunc_int_at_turn_day_before_bound.f
 repeat' first
   | (with_reducible exact ih0 _ _ _ _ _ _ _)
   | (with_reducible exact slices_insertionSortCmpFunc_int_at_turn_day_before_bound.mono _ _ _ _ _ _)
   | (with_reducible exact LeO.refl _)
   | (with_reducible exact LeO.none _)
   | (with_reducible refine LeO.ite ?_ ?_)
   | (with_reducible refine LeO.bind ?_ (fun _ => ?_))
   | exact ih0 _ _ _ _ _ _ _
   | exact slices_insertionSortCmpFunc_int_at_turn_day_before_bound.mono _ _ _ _ _ _
   | exact LeO.none _
   | refine LeO.ite ?_ ?_
   | refine LeO.bind ?_ (fun _ => ?_)
set_option maxHeartbeats 8000000 in
set_option maxRecDepth 100000 in
theorem slices_pdqsortCmpFunc_int_at_turn_day_before_bound.calls (k : Nat) (P0_ : Nat → Prop) (u9000_ : Value) (l0 : List Int) (a1 : Int) (a2 : Int) (a3 : Int) (A4_0 : Option Addr) (c4_0 : Nat) (l4_0 : List (S67)) (A4_1 : Option Addr) (c4_1 : Nat) (l4_1 : List Int) (r : List Int) (w0 w : World) (hB : Below w0.heap.size w0 w) (ho0 : Kd.R (Kd.int .i64) 3 w w0.heap.size P0_ u9000_ l0) (hr4_0 : ∀ W_, Kept w W_ (fun k_ => P0_ k_) → Kd.C k67 W_ A4_0 l4_0.length l4_0) (hc4_0 : l4_0.length ≤ c4_0) (hr4_1 : ∀ W_, Kept w W_ (fun k_ => P0_ k_) → Kd.C (Kd.int .i64) W_ A4_1 l4_1.length l4_1) (hc4_1 : l4_1.length ≤ c4_1) (h : slices_pdqsortCmpFunc_int_at_turn_day_before_bound.f k l0 a1 a2 a3 l4_0 l4_1 = some r) :
  Calls Tryz.prog 119 #[u9000_, .int .i64 a1, .int .i64 a2, .int .i64 a3, .func (.func 80) #[.agg #[.slice A4_0 l4_0.length c4_0, .slice A4_1 l4_1.length c4_1]] #[]] w fun e w' => e = .returned (.tuple #[]) ∧ Kd.R (Kd.int .i64) 3 w' w0.heap.size (fun k_ => (P0_ k_ ∨ w.heap.size ≤ k_)) u9000_ r ∧ Below w0.heap.size w0 w' ∧ Kept w w' (fun k_ => P0_ k_) := by
 have HO0 := Aside0.mk (show Kd.R (Kd.int .i64) 3 w w0.heap.size (fun k_ => (P0_ k_ ∨ w.heap.size ≤ k_)) u9000_ l0 from Kd.R_mono ho0 (fun k_ hk => (.inl hk)))
 have HR4_0 := Aside0.mk hr4_0
 have HC4_0 := Aside0.mk hc4_0
 clear hr4_0 hc4_0
 have HR4_1 := Aside0.mk hr4_1
 have HC4_1 := Aside0.mk hc4_1
 clear hr4_1 hc4_1
 have HK := Aside0.mk (Kept.refl w (fun k_ => P0_ k_))
 have HW0 := Aside0.mk hB.size
 have HB := Aside0.mk hB
 clear hB
 have H : (slices_pdqsortCmpFunc_int_at_turn_day_before_bound.l0 k l0 a1 a2 a3 true l4_0 l4_1) = some r := h
 clear h
 have H' := Aside0.mk H
 clear H
 go_enter Tryz.func119, Tryz.ntmps119
 go_wp2
 (try simp only [Act.put, List.setIfInBounds_toArray, List.set_cons_zero, List.set_cons_succ])
 go_loopg [1, 2, 3, 10] k (fun kq v1 v2 v3 v10 w' => ∃ (x0_1 : List Int) (x1_1 : Int) (x2_1 : Int) (x3_1 : Int) (x10_1 : Bool), v1 = .int .i64 x1_1 ∧ v2 = .int .i64 x2_1 ∧ v3 = .int .i64 x3_1 ∧ v10 = .bool x10_1 ∧ Aside0 (slices_pdqsortCmpFunc_int_at_turn_day_before_bound.l0 kq x0_1 x1_1 x2_1 x3_1 x10_1 l4_0 l4_1 = some r) ∧ Aside0 (kq ≤ k) ∧ Aside0 (Kd.R (Kd.int .i64) 3 w' w0.heap.size (fun k_ => (P0_ k_ ∨ w.heap.size ≤ k_)) u9000_ x0_1) ∧ Aside0 (Kept w w' (fun k_ => P0_ k_)) ∧ Aside0 (Below w0.heap.size w0 w'))
 case atStart => exact ⟨(l0), (a1), (a2), (a3), (true), (by first | rfl | (simp; done) | (simp [*]; done)), (by first | rfl | (simp; done) | (simp [*]; done)), (by first | rfl | (simp; done) | (simp [*]; done)), (by first | rfl | (simp; done) | (simp [*]; done)), H', ⟨Nat.le_refl _⟩, ⟨pR HO0.out⟩, ⟨by repeat (first | (with_reducible first | exact HK.out | apply Kept.alloc | apply Kept.drewN | apply Kept.drew) | exact HK.out)⟩, ⟨pE HB⟩⟩
 case round =>
  clear H'
  try clear p2
  try clear c4
  obtain ⟨x0_1, x1_1, x2_1, x3_1, x10_1, rfl, rfl, rfl, rfl, HA, HK1, HO_0, HK, HB⟩ := hrel
  cases gk with
  | zero => exact absurd HA.out (by simp [slices_pdqsortCmpFunc_int_at_turn_day_before_bound.l0])
  | succ k1 =>
   have H := HA.out
   clear HA
   simp only [slices_pdqsortCmpFunc_int_at_turn_day_before_bound.l0] at H
   by_cases c6 : (wrap64 (x2_1 - x1_1)) ≤ 12
   ·rw [if_pos c6] at H
    have c6b0 : decide ((wrap64 (x2_1 - x1_1)) ≤ 12) = true := decide_eq_true c6
    clear c6
    obtain ⟨t101, A7, H⟩ := bi H
    obtain rfl := Option.some.inj H
    obtain ⟨Ao8, co8, eo8⟩ := Kd.R_slice HO_0.out
    subst eo8
    go_wp2_with (first | ((with_reducible refine gc 125 rfl ?_); refine gL 30 Tryz.func125 #[.slice Ao8 x0_1.length co8, .int .i64 x1_1, .int .i64 x2_1, .func (.func 80) #[.agg #[.slice A4_0 l4_0.length c4_0, .slice A4_1 l4_1.length c4_1]] #[]] ?_; (with_reducible refine (slices_insertionSortCmpFunc_int_at_turn_day_before_bound.calls k1 (fun k_ => some k_ = (.slice Ao8 x0_1.length co8 : Value).ownBlock) (.slice Ao8 x0_1.length co8) x0_1 x1_1 x2_1 _ _ l4_0 _ _ l4_1 t101 w0 _ ?side1 ?side2 ?side3 ?side4 ?side5 ?side6 A7.out).mono ?_); (case side1 => repeat (first | (with_reducible first | exact HB.out | apply below_alloc | apply pw_below_drewN | apply below_drew1) | exact HB.out)); (case side2 => exact Kd.R_tight rfl HO_0.out); (case side3 => exact Kd.C_kept_call HR4_0.out (by repeat (first | (with_reducible first | exact HK.out | apply Kept.alloc | apply Kept.drewN | apply Kept.drew) | exact HK.out)) (fun k_ hs_ => (fun e_ => (HO_0.out.1 k_ e_.symm)) hs_)); (case side4 => exact HC4_0.out); (case side5 => exact Kd.C_kept_call HR4_1.out (by repeat (first | (with_reducible first | exact HK.out | apply Kept.alloc | apply Kept.drewN | apply Kept.drew) | exact HK.out)) (fun k_ hs_ => (fun e_ => (HO_0.out.1 k_ e_.symm)) hs_)); (case side6 => exact HC4_1.out); rintro e w9 ⟨rfl, hy0, hb, hkp⟩; refine ⟨_, rfl, ?_⟩; replace HK := Aside0.mk (Kept.then_ (S := (fun k_ => P0_ k_)) (by repeat (first | (with_reducible first | exact HK.out | apply Kept.alloc | apply Kept.drewN | apply Kept.drew) | exact HK.out)) hkp (fun k_ hs_ => (fun e_ => (HO_0.out.1 k_ e_.symm)) hs_)); replace HO_0 := Aside0.mk (Kd.R_reok rfl hy0 (fun k_ e_ => HO_0.out.1 k_ e_)); replace HB := Aside0.mk (hb); clear hb hkp hy0))
    first | go_end0 | ((try simp only [Exit.inBlock, Exit.then]); refine bodyPost_ret (results_none rfl _ _ _) rfl ?_)
    exact ⟨eT, pR HO_0.out, pE HB, by repeat (first | (with_reducible first | exact HK.out | apply Kept.alloc | apply Kept.drewN | apply Kept.drew) | exact HK.out)⟩
   ·rw [if_neg c6] at H
    have c6b0 : decide ((wrap64 (x2_1 - x1_1)) ≤ 12) = false := decide_eq_false c6
    clear c6
    by_cases c10 : x3_1 = 0
    ·rw [if_pos c10] at H
     exact absurd H (by simp)
    ·rw [if_neg c10] at H
     have c10b0 : (x3_1 == 0) = false := beq_eq_false_iff_ne.mpr c10
     have c10b1 : (x3_1 != 0) = true := bne_iff_ne.mpr c10
     by_cases c11 : x10_1 = true
     ·subst c11
      rw [if_pos rfl] at H
      exact absurd H (by simp)
     ·replace c11 := Bool.eq_false_iff.mpr c11
      subst c11
      rw [if_neg (show ¬ (false = true) by decide)] at H
      exact absurd H (by simp)
def slices_SortFunc_int_int_at_turn_day_before_bound.f (k : Nat) (l0 : List Int) (l1_0 : List (S67)) (l1_1 : List Int) : Option (List Int) := (bits_Len.f k (IntKind.u64.wrap ((l0.length : Int)))).bind fun t101 => ((slices_pdqsortCmpFunc_int_at_turn_day_before_bound.f k l0 0 (l0.length : Int) t101 l1_0 l1_1).bind fun t102 => (some t102))
theorem slices_SortFunc_int_int_at_turn_day_before_bound.mono : ∀ a0 a1 a2 k, LeO (slices_SortFunc_int_int_at_turn_day_before_bound.f k a0 a1 a2) (slices_SortFunc_int_int_at_turn_day_before_bound.f (k + 1) a0 a1 a2) := by
 intro a0 a1 a2 k
 unfold slices_SortFunc_int_int_at_turn_day_before_bound.f
 repeat' first
   | (with_reducible exact bits_Len.mono _ _)
   | (with_reducible exact slices_pdqsortCmpFunc_int_at_turn_day_before_bound.mono _ _ _ _ _ _ _)
   | (with_reducible exact LeO.refl _)
   | (with_reducible exact LeO.none _)
   | (with_reducible refine LeO.ite ?_ ?_)
   | (with_reducible refine LeO.bind ?_ (fun _ => ?_))
   | exact bits_Len.mono _ _
   | exact slices_pdqsortCmpFunc_int_at_turn_day_before_bound.mono _ _ _ _ _ _ _
   | exact LeO.none _
   | refine LeO.ite ?_ ?_
   | refine LeO.bind ?_ (fun _ => ?_)
set_option maxHeartbeats 8000000 in
set_option maxRecDepth 100000 in
theorem slices_SortFunc_int_int_at_turn_day_before_bound.calls (k : Nat) (P0_ : Nat → Prop) (u9000_ : Value) (l0 : List Int) (A1_0 : Option Addr) (c1_0 : Nat) (l1_0 : List (S67)) (A1_1 : Option Addr) (c1_1 : Nat) (l1_1 : List Int) (r : List Int) (w0 w : World) (hB : Below w0.heap.size w0 w) (ho0 : Kd.R (Kd.int .i64) 3 w w0.heap.size P0_ u9000_ l0) (hr1_0 : ∀ W_, Kept w W_ (fun k_ => P0_ k_) → Kd.C k67 W_ A1_0 l1_0.length l1_0) (hc1_0 : l1_0.length ≤ c1_0) (hr1_1 : ∀ W_, Kept w W_ (fun k_ => P0_ k_) → Kd.C (Kd.int .i64) W_ A1_1 l1_1.length l1_1) (hc1_1 : l1_1.length ≤ c1_1) (h : slices_SortFunc_int_int_at_turn_day_before_bound.f k l0 l1_0 l1_1 = some r) :
  Calls Tryz.prog 97 #[u9000_, .func (.func 80) #[.agg #[.slice A1_0 l1_0.length c1_0, .slice A1_1 l1_1.length c1_1]] #[]] w fun e w' => e = .returned (.tuple #[]) ∧ Kd.R (Kd.int .i64) 3 w' w0.heap.size (fun k_ => (P0_ k_ ∨ w.heap.size ≤ k_)) u9000_ r ∧ Below w0.heap.size w0 w' ∧ Kept w w' (fun k_ => P0_ k_) := by
 have HO0 := Aside0.mk (show Kd.R (Kd.int .i64) 3 w w0.heap.size (fun k_ => (P0_ k_ ∨ w.heap.size ≤ k_)) u9000_ l0 from Kd.R_mono ho0 (fun k_ hk => (.inl hk)))
 have HR1_0 := Aside0.mk hr1_0
 have HC1_0 := Aside0.mk hc1_0
 clear hr1_0 hc1_0
 have HR1_1 := Aside0.mk hr1_1
 have HC1_1 := Aside0.mk hc1_1
 clear hr1_1 hc1_1
 have HK := Aside0.mk (Kept.refl w (fun k_ => P0_ k_))
 have HW0 := Aside0.mk hB.size
 have HB := Aside0.mk hB
 clear hB
 have H : ((bits_Len.f k (IntKind.u64.wrap ((l0.length : Int)))).bind fun t101 => ((slices_pdqsortCmpFunc_int_at_turn_day_before_bound.f k l0 0 (l0.length : Int) t101 l1_0 l1_1).bind fun t102 => (some t102))) = some r := h
 clear h
 obtain ⟨t101, A3, H⟩ := bi H
 obtain ⟨t102, A4, H⟩ := bi H
 obtain rfl := Option.some.inj H
 obtain ⟨Ao5, co5, eo5⟩ := Kd.R_slice HO0.out
 subst eo5
 go_enter Tryz.func97, Tryz.ntmps97
 go_wp2_with (first | ((with_reducible refine gc 120 rfl ?_); refine gL 11 Tryz.func120 #[.int .u64 (IntKind.u64.wrap ((l0.length : Int)))] ?_; (with_reducible refine (bits_Len.calls k (IntKind.u64.wrap ((l0.length : Int))) t101 _ A3.out).mono ?_); rintro e w' ⟨rfl, ⟨nd, rfl⟩⟩; refine ⟨_, rfl, ?_⟩) | ((with_reducible refine gc 119 rfl ?_); refine gL 13 Tryz.func119 #[.slice Ao5 l0.length co5, .int .i64 0, .int .i64 (l0.length : Int), .int .i64 t101, .func (.func 80) #[.agg #[.slice A1_0 l1_0.length c1_0, .slice A1_1 l1_1.length c1_1]] #[]] ?_; (with_reducible refine (slices_pdqsortCmpFunc_int_at_turn_day_before_bound.calls k (fun k_ => some k_ = (.slice Ao5 l0.length co5 : Value).ownBlock) (.slice Ao5 l0.length co5) l0 0 (l0.length : Int) t101 _ _ l1_0 _ _ l1_1 t102 w0 _ ?side1 ?side2 ?side3 ?side4 ?side5 ?side6 A4.out).mono ?_); (case side1 => repeat (first | (with_reducible first | exact HB.out | apply below_alloc | apply pw_below_drewN | apply below_drew1) | exact HB.out)); (case side2 => exact Kd.R_tight rfl HO0.out); (case side3 => exact Kd.C_kept_call HR1_0.out (by repeat (first | (with_reducible first | exact HK.out | apply Kept.alloc | apply Kept.drewN | apply Kept.drew) | exact HK.out)) (fun k_ hs_ => (fun e_ => (HO0.out.1 k_ e_.symm)) hs_)); (case side4 => exact HC1_0.out); (case side5 => exact Kd.C_kept_call HR1_1.out (by repeat (first | (with_reducible first | exact HK.out | apply Kept.alloc | apply Kept.drewN | apply Kept.drew) | exact HK.out)) (fun k_ hs_ => (fun e_ => (HO0.out.1 k_ e_.symm)) hs_)); (case side6 => exact HC1_1.out); rintro e w6 ⟨rfl, hy0, hb, hkp⟩; refine ⟨_, rfl, ?_⟩; replace HK := Aside0.mk (Kept.then_ (S := (fun k_ => P0_ k_)) (by repeat (first | (with_reducible first | exact HK.out | apply Kept.alloc | apply Kept.drewN | apply Kept.drew) | exact HK.out)) hkp (fun k_ hs_ => (fun e_ => (HO0.out.1 k_ e_.symm)) hs_)); replace HO0 := Aside0.mk (Kd.R_reok rfl hy0 (fun k_ e_ => HO0.out.1 k_ e_)); replace HB := Aside0.mk (hb); clear hb hkp hy0))
 first | go_end0 | ((try simp only [Exit.inBlock, Exit.then]); refine bodyPost_ret (results_none rfl _ _ _) rfl ?_)
 exact ⟨eT, pR HO0.out, pE HB, by repeat (first | (with_reducible first | exact HK.out | apply Kept.alloc | apply Kept.drewN | apply Kept.drew) | exact HK.out)⟩
def turn_day_order.l0 : Nat → List Int → Int → Int → List (S67) → List Int → Option (List Int)
 | 0, _, _, _, _, _ => none
 | k + 1, x2, x7, x8, x102000, x102001 => if x8 < x7 then (if x2.length < 17592186044416 then (turn_day_order.l0 k (x2 ++ [x8]) x7 (wrap64 (x8 + 1)) x102000 x102001) else (none)) else ((slices_SortFunc_int_int_at_turn_day_before_bound.f k x2 x102000 x102001).bind fun t106 => (some t106))
def turn_day_order.f (k : Nat) (l0_0 : List (S67)) (l0_1 : List Int) : Option (List Int) := turn_day_order.l0 k ([] : List Int) (l0_0.length : Int) 0 l0_0 l0_1
theorem turn_day_order.mono_l : ∀ k, (∀ y0 y1 y2 y3 y4, LeO (turn_day_order.l0 k y0 y1 y2 y3 y4) (turn_day_order.l0 (k + 1) y0 y1 y2 y3 y4))
 | 0 => fun _ _ _ _ _ r h => by simp [turn_day_order.l0] at h
 | k + 1 => by
  have ih0 := turn_day_order.mono_l k
  ·intro y0 y1 y2 y3 y4
   unfold turn_day_order.l0
   repeat' first
   | (with_reducible exact ih0 _ _ _ _ _)
   | (with_reducible exact slices_SortFunc_int_int_at_turn_day_before_bound.mono _ _ _ _)
   | (with_reducible exact LeO.refl _)
   | (with_reducible exact LeO.none _)
   | (with_reducible refine LeO.ite ?_ ?_)
   | (with_reducible refine LeO.bind ?_ (fun _ => ?_))
   | exact ih0 _ _ _ _ _
   | exact slices_SortFunc_int_int_at_turn_day_before_bound.mono _ _ _ _
   | exact LeO.none _
   | refine LeO.ite ?_ ?_
   | refine LeO.bind ?_ (fun _ => ?_)
theorem turn_day_order.mono : ∀ a0 a1 k, LeO (turn_day_order.f k a0 a1) (turn_day_order.f (k + 1) a0 a1) := by
 intro a0 a1 k
 have ih0 := turn_day_order.mono_l k
 unfold turn_day_order.f
 repeat' first
   | (with_reducible exact ih0 _ _ _ _ _)
   | (with_reducible exact slices_SortFunc_int_int_at_turn_day_before_bound.mono _ _ _ _)
   | (with_reducible exact LeO.refl _)
   | (with_reducible exact LeO.none _)
   | (with_reducible refine LeO.ite ?_ ?_)
   | (with_reducible refine LeO.bind ?_ (fun _ => ?_))
   | exact ih0 _ _ _ _ _
   | exact slices_SortFunc_int_int_at_turn_day_before_bound.mono _ _ _ _
   | exact LeO.none _
   | refine LeO.ite ?_ ?_
   | refine LeO.bind ?_ (fun _ => ?_)
set_option maxHeartbeats 8000000 in
set_option maxRecDepth 100000 in
theorem turn_day_order.calls (k : Nat) (A0_0 : Option Addr) (c0_0 : Nat) (l0_0 : List (S67)) (A0_1 : Option Addr) (c0_1 : Nat) (l0_1 : List Int) (r : List Int) (w : World) (hr0_0 : Kd.C k67 w A0_0 l0_0.length l0_0) (hc0_0 : l0_0.length ≤ c0_0) (hr0_1 : Kd.C (Kd.int .i64) w A0_1 l0_1.length l0_1) (hc0_1 : l0_1.length ≤ c0_1) (h : turn_day_order.f k l0_0 l0_1 = some r) :
  Calls Tryz.prog 63 #[.agg #[.slice A0_0 l0_0.length c0_0, .slice A0_1 l0_1.length c0_1]] w fun e w' => ∃ v0_ : Value, e = .returned (v0_) ∧ Kd.R (Kd.int .i64) 3 w' w.heap.size (fun _ => True) v0_ r ∧ Below w.heap.size w w' := by
 have hu99 := Tryz.underlying99
 have HR0_0 := Aside0.mk hr0_0
 have HC0_0 := Aside0.mk hc0_0
 clear hr0_0 hc0_0
 have HR0_1 := Aside0.mk hr0_1
 have HC0_1 := Aside0.mk hc0_1
 clear hr0_1 hc0_1
 have HB := Aside0.mk (Below.refl w.heap.size w)
 have H : (turn_day_order.l0 k ([] : List Int) (l0_0.length : Int) 0 l0_0 l0_1) = some r := h
 clear h
 have H' := Aside0.mk H
 clear H
 go_enter Tryz.func63, Tryz.ntmps63
 go_wp2_with (first | ((with_reducible refine gate_dst (N := 1) rfl ?_); refine bx 1 #[.slice A0_0 l0_0.length c0_0, .slice A0_1 l0_1.length c0_1] 99 ?_; intro gb101 hg w2 hbox hb; have BK101 := hbox; have GW101 := gs HB hg; have GE101 := gs HB hg; replace HB := bs HB hb; clear hb hbox hg; obtain ⟨hcz3_0, hcz3_1, hfz3_0, hfz3_1⟩ := cf2 BK101))
 go_loopg [2, 8] k (fun kq v2 v8 w' => ∃ (x2_1 : List Int) (x8_1 : Int), v8 = .int .i64 x8_1 ∧ Aside0 (turn_day_order.l0 kq x2_1 (l0_0.length : Int) x8_1 l0_0 l0_1 = some r) ∧ Aside0 (kq ≤ k) ∧ Aside0 (Kd.R (Kd.int .i64) 3 w' w.heap.size (fun _ => True) v2 x2_1) ∧ Aside0 (w'.heap[gb101]? = some (.cells #[(.slice A0_0 l0_0.length c0_0), (.slice A0_1 l0_1.length c0_1)] 99 (0, 0))) ∧ Aside0 (Below w.heap.size w w'))
 case atStart => exact ⟨(([] : List Int)), (0), (by first | rfl | (simp; done) | (simp [*]; done)), H', ⟨Nat.le_refl _⟩, ⟨by first | exact Kd.R_nil _ _ _ _ _ | exact Kd.N_nil _ _ _ _ _ | exact Kd.V_nil _ _ _ _ _ | exact Kd.Q_nil _ _ _ _ _ | exact Kd.S_nil _ _ _ _ _⟩, ⟨pB BK101.out⟩, ⟨pE HB⟩⟩
 case round =>
  clear H'
  try clear p2
  try clear hcz3_0
  try clear hcz3_1
  try clear hfz3_0
  try clear hfz3_1
  obtain ⟨x2_1, x8_1, rfl, HA, HK1, HO_2, BK101, HB⟩ := hrel
  cases gk with
  | zero => exact absurd HA.out (by simp [turn_day_order.l0])
  | succ k1 =>
   have H := HA.out
   clear HA
   simp only [turn_day_order.l0] at H
   by_cases c4 : x8_1 < (l0_0.length : Int)
   ·rw [if_pos c4] at H
    have c4b0 : decide (x8_1 < (l0_0.length : Int)) = true := decide_eq_true c4
    clear c4
    by_cases c5 : x2_1.length < 17592186044416
    ·rw [if_pos c5] at H
     have LMc5 := Aside0.mk c5
     clear c5
     obtain ⟨y102, hy102⟩ : ∃ y_ : List Int, y_ = (x2_1 ++ [x8_1]) := ⟨_, rfl⟩
     replace H : (turn_day_order.l0 k1 y102 (l0_0.length : Int) (wrap64 (x8_1 + 1)) l0_0 l0_1) = some r := yy hy102 H
     have Ny102 := Aside0.mk hy102
     clear hy102
     have H' := Aside0.mk H
     clear H
     go_wp2_with (first | ((with_reducible refine gate_builtin (b := .append) (xs := #[.tmp 11, .tmp 13]) rfl ?_); at_builtin; refine Kd.R_append (Kd.int .i64) (w0 := w) w.heap.size rfl (.tmp 11) (.tmp 13) 23 3 (.int .i64 0) 8 rfl Tryz.underlying23 info3 rfl (by decide) (by omega) u2 x2_1 x8_1 [.int .i64 x8_1] (fun _ => True) (fun _ => False) rfl rfl ?aP (fun _ hk => hk.elim) ?aF ?aO ?aB ?aS ?aL ?_; (case aP => exact rfl); (case aB => exact (pE HB)); (case aF => exact (fun _ _ => trivial)); (case aO => exact (pR HO_2.out)); (case aS => exact (below_size (pE HB))); (case aL => have := LMc5.out; omega); intro v103 w6 ho hb hg hat; rw [← Ny102.out] at ho; replace BK101 := Aside0.mk (blk_grown (g := gb101) (o := .cells #[.slice A0_0 l0_0.length c0_0, .slice A0_1 l0_1.length c0_1] 99 (0, 0)) (pB BK101.out) hg (Kd.R_ne HO_2.out BK101.out (by decide))); replace HB := Aside0.mk (hb); have HO104 := Aside0.mk (ho); clear HO_2; clear ho hb hg hat))
     go_roundg k1
     case measure => have := HK1.out; omega
     case rel => exact ⟨(y102), (wrap64 (x8_1 + 1)), (by first | rfl | (simp; done) | (simp [*]; done)), H', ⟨by have := HK1.out; omega⟩, ⟨pR HO104.out⟩, ⟨pB BK101.out⟩, ⟨pE HB⟩⟩
    ·rw [if_neg c5] at H
     exact absurd H (by simp)
   ·rw [if_neg c4] at H
    have c4b0 : decide (x8_1 < (l0_0.length : Int)) = false := decide_eq_false c4
    clear c4
    obtain ⟨t106, A7, H⟩ := bi H
    obtain rfl := Option.some.inj H
    obtain ⟨_, _, _, _⟩ := cf2 BK101
    obtain ⟨Ao9, co9, eo9⟩ := Kd.R_slice HO_2.out
    subst eo9
    go_wp2_with (first | ((with_reducible refine gc 97 rfl ?_); refine gL 19 Tryz.func97 #[.slice Ao9 x2_1.length co9, .func (.func 80) #[.agg #[.slice A0_0 l0_0.length c0_0, .slice A0_1 l0_1.length c0_1]] #[]] ?_; (with_reducible refine (slices_SortFunc_int_int_at_turn_day_before_bound.calls k1 (fun k_ => some k_ = (.slice Ao9 x2_1.length co9 : Value).ownBlock) (.slice Ao9 x2_1.length co9) x2_1 _ _ l0_0 _ _ l0_1 t106 w _ ?side1 ?side2 ?side3 ?side4 ?side5 ?side6 A7.out).mono ?_); (case side1 => repeat (first | (with_reducible first | exact HB.out | apply below_alloc | apply pw_below_drewN | apply below_drew1 | refine below_set ?_ GE101.out) | exact HB.out)); (case side2 => exact Kd.R_tight rfl HO_2.out); (case side3 => exact Kd.C_kept_came k67_heap HR0_0.out (pE HB) (fun k_ hs_ => (fun e_ => Kd.R_base HO_2.out k_ e_.symm) hs_)); (case side4 => exact HC0_0.out); (case side5 => exact Kd.C_kept_came (Kd.heap_int .i64) HR0_1.out (pE HB) (fun k_ hs_ => (fun e_ => Kd.R_base HO_2.out k_ e_.symm) hs_)); (case side6 => exact HC0_1.out); rintro e w10 ⟨rfl, hy0, hb, hkp⟩; refine ⟨_, rfl, ?_⟩; replace BK101 := Aside0.mk (blk_kept (pB BK101.out) hkp (fun hs_ => (fun e_ => (Kd.R_ne HO_2.out BK101.out (by decide)) e_) hs_)); replace HO_2 := Aside0.mk (Kd.R_reok rfl hy0 (fun k_ e_ => HO_2.out.1 k_ e_)); replace HB := Aside0.mk (hb); clear hb hkp hy0))
    go_ret
    exact ⟨_, eT, pR HO_2.out, pE HB⟩
def turn_Order.f (k : Nat) (l0_0 : List (S67)) (l0_1 : List Int) : Option (List Int × Int) := (turn_open.f k l0_0 l0_1 1 0).bind fun bt102 => (if bt102.2.2 = 0 then ((turn_day_order.f k bt102.1 bt102.2.1).bind fun t110 => (some (t110, 0))) else (some (([] : List Int), bt102.2.2)))
theorem turn_Order.mono : ∀ a0 a1 k, LeO (turn_Order.f k a0 a1) (turn_Order.f (k + 1) a0 a1) := by
 intro a0 a1 k
 unfold turn_Order.f
 repeat' first
   | (with_reducible exact turn_day_order.mono _ _ _)
   | (with_reducible exact turn_open.mono _ _ _ _ _)
   | (with_reducible exact LeO.refl _)
   | (with_reducible exact LeO.none _)
   | (with_reducible refine LeO.ite ?_ ?_)
   | (with_reducible refine LeO.bind ?_ (fun _ => ?_))
   | exact turn_day_order.mono _ _ _
   | exact turn_open.mono _ _ _ _ _
   | exact LeO.none _
   | refine LeO.ite ?_ ?_
   | refine LeO.bind ?_ (fun _ => ?_)
set_option maxHeartbeats 8000000 in
set_option maxRecDepth 100000 in
theorem turn_Order.calls (k : Nat) (A0_0 : Option Addr) (c0_0 : Nat) (l0_0 : List (S67)) (A0_1 : Option Addr) (c0_1 : Nat) (l0_1 : List Int) (r1 : List Int) (r2 : Int) (w : World) (hr0_0 : Kd.C k67 w A0_0 l0_0.length l0_0) (hc0_0 : l0_0.length ≤ c0_0) (hr0_1 : Kd.C (Kd.int .i64) w A0_1 l0_1.length l0_1) (hc0_1 : l0_1.length ≤ c0_1) (h : turn_Order.f k l0_0 l0_1 = some (r1, r2)) :
  Calls Tryz.prog 20 #[.agg #[.slice A0_0 l0_0.length c0_0, .slice A0_1 l0_1.length c0_1]] w fun e w' => ∃ v0_ : Value, e = .returned (.tuple #[v0_, .int .i64 r2]) ∧ Kd.R (Kd.int .i64) 3 w' w.heap.size (fun _ => True) v0_ r1 ∧ Below w.heap.size w w' := by
 have hu25 := Tryz.underlying25
 have hu99 := Tryz.underlying99
 have HR0_0 := Aside0.mk hr0_0
 have HC0_0 := Aside0.mk hc0_0
 clear hr0_0 hc0_0
 have HR0_1 := Aside0.mk hr0_1
 have HC0_1 := Aside0.mk hc0_1
 clear hr0_1 hc0_1
 have HB := Aside0.mk (Below.refl w.heap.size w)
 have H : ((turn_open.f k l0_0 l0_1 1 0).bind fun bt102 => (if bt102.2.2 = 0 then ((turn_day_order.f k bt102.1 bt102.2.1).bind fun t110 => (some (t110, 0))) else (some (([] : List Int), bt102.2.2)))) = some (r1, r2) := h
 clear h
 obtain ⟨⟨t102, t105, t108⟩, A2, H⟩ := bi H
 by_cases c3 : t108 = 0
 ·rw [if_pos c3] at H
  have c3b0 : (t108 == 0) = true := beq_iff_eq.mpr c3
  have c3b1 : (t108 != 0) = false := bne_eq_false_iff_eq.mpr c3
  clear c3
  obtain ⟨t110, A4, H⟩ := bi H
  simp only [Option.some.injEq, Prod.mk.injEq] at H
  obtain ⟨rfl, rfl⟩ := H
  go_enter Tryz.func20, Tryz.ntmps20
  go_wp2_with (first | ((with_reducible refine gate_dst (N := 1) rfl ?_); refine bx 1 #[.slice A0_0 l0_0.length c0_0, .slice A0_1 l0_1.length c0_1] 25 ?_; intro gb101 hg w5 hbox hb; have BK101 := hbox; have GW101 := gs HB hg; have GE101 := gs HB hg; replace HB := bs HB hb; clear hb hbox hg; obtain ⟨_, _, _, _⟩ := cf2 BK101) | ((with_reducible refine gc 62 rfl ?_); refine gL 8 Tryz.func62 #[.agg #[.slice A0_0 l0_0.length c0_0, .slice A0_1 l0_1.length c0_1], .int .i64 1, .int .i64 0] ?_; (with_reducible refine (turn_open.calls k (fun k_ => k_ < w.heap.size) _ _ l0_0 (fun k_ => k_ < w.heap.size) _ _ l0_1 1 0 t102 t105 t108 _ ?side1 ?side2 A2.out).mono ?_); (case side1 => exact Kd.V_mk HC0_0.out (Kd.F_below (Kd.C_F k67_heap HR0_0.out) (pE HB))); (case side2 => exact Kd.V_mk HC0_1.out (Kd.F_below (Kd.C_F (Kd.heap_int .i64) HR0_1.out) (pE HB))); rintro e w7 ⟨v103, v106, rfl, ho0, ho1, hb⟩; refine ⟨_, rfl, ?_⟩; have HO104 := Aside0.mk (Kd.V_lower (Kd.V_mono (ok' := fun k_ => k_ ≠ gb101) ho0 (fun k_ hk_ => Or.elim hk_ (fun hs_ => Or.elim hs_ (fun hs_ => fun e_ => Nat.not_le.2 hs_ (by rw [e_]; exact GW101.out)) (fun hs_ => fun e_ => Nat.not_le.2 hs_ (by rw [e_]; exact GW101.out))) (fun hn_ => (Kd.freshB (g := gb101) (o := .cells #[.slice A0_0 l0_0.length c0_0, .slice A0_1 l0_1.length c0_1] 25 (0, 0)) (pB BK101.out) k_ hn_)))) (below_size (pE HB))); have HO107 := Aside0.mk (Kd.V_lower (Kd.V_mono (ok' := fun k_ => k_ ≠ gb101) ho1 (fun k_ hk_ => Or.elim hk_ (fun hs_ => Or.elim hs_ (fun hs_ => fun e_ => Nat.not_le.2 hs_ (by rw [e_]; exact GW101.out)) (fun hs_ => fun e_ => Nat.not_le.2 hs_ (by rw [e_]; exact GW101.out))) (fun hn_ => (Kd.freshB (g := gb101) (o := .cells #[.slice A0_0 l0_0.length c0_0, .slice A0_1 l0_1.length c0_1] 25 (0, 0)) (pB BK101.out) k_ hn_)))) (below_size (pE HB))); replace BK101 := bb BK101 hb; replace HB := bs HB hb; clear hb ho0 ho1) | ((with_reducible refine gate_dst (N := 4) rfl ?_); refine bx 4 #[.slice none 0 0, .slice none 0 0] 99 ?_; intro gb109 hg w8 hbox hb; replace HO104 := ve HO104 hg hb; replace HO107 := ve HO107 hg hb; have BK109 := hbox; have GW109 := gs HB hg; have GE109 := gs HB hg; replace HB := bs HB hb; have NB101_109 := nl BK101 hg; have NB109_101 := nr BK101 hg; replace BK101 := bb BK101 hb; clear hb hbox hg; obtain ⟨Ao9, co9, eo9⟩ := Kd.V_slice HO104.out; subst eo9; have hnb10 := NB109_101.out; have hnc10 := NB101_109.out; obtain ⟨_, _, _, _⟩ := cf2 BK109; obtain ⟨Ao12, co12, eo12⟩ := Kd.V_slice HO107.out; subst eo12) | ((with_reducible refine gc 63 rfl ?_); refine gL 15 Tryz.func63 #[.agg #[.slice Ao9 t102.length co9, .slice Ao12 t105.length co12]] ?_; (with_reducible refine (turn_day_order.calls k _ _ t102 _ _ t105 t110 _ ?side1 ?side2 ?side3 ?side4 A4.out).mono ?_); (case side1 => refine (Kd.V_reads' (e := 67) (base := w.heap.size) (ok := fun k_ => (k_ ≠ gb101 ∧ k_ ≠ gb109)) (n := t102.length) (c := co9) ?_).2.2; exact (by refine pV ?_; exact (Kd.V_mono (Kd.V_far (p := ⟨gb109, 1, none⟩) (Kd.V_far (p := ⟨gb109, 0, none⟩) (Kd.V_mono HO104.out (fun k_ hk => (⟨hk, hk.2⟩ : _ ∧ k_ ≠ gb109))) (fun _ hk => hk.2) (.slice Ao9 t102.length co9)) (fun _ hk => hk.2) (.slice Ao12 t105.length co12)) (fun _ h_ => h_.1)))); (case side2 => exact (Kd.V_reads' HO104.out).2.1); (case side3 => refine (Kd.V_reads' (e := 3) (base := w.heap.size) (ok := fun k_ => (k_ ≠ gb101 ∧ k_ ≠ gb109)) (n := t105.length) (c := co12) ?_).2.2; exact (by refine pV ?_; exact (Kd.V_mono (Kd.V_far (p := ⟨gb109, 1, none⟩) (Kd.V_far (p := ⟨gb109, 0, none⟩) (Kd.V_mono HO107.out (fun k_ hk => (⟨hk, hk.2⟩ : _ ∧ k_ ≠ gb109))) (fun _ hk => hk.2) (.slice Ao9 t102.length co9)) (fun _ hk => hk.2) (.slice Ao12 t105.length co12)) (fun _ h_ => h_.1)))); (case side4 => exact (Kd.V_reads' HO107.out).2.1); rintro e w13 ⟨v111, rfl, ho0, hb⟩; refine ⟨_, rfl, ?_⟩; replace HO104 := Aside0.mk (Kd.V_elder' (by refine pV ?_; exact (Kd.V_mono (Kd.V_far (p := ⟨gb109, 1, none⟩) (Kd.V_far (p := ⟨gb109, 0, none⟩) (Kd.V_mono HO104.out (fun k_ hk => (⟨hk, hk.2⟩ : _ ∧ k_ ≠ gb109))) (fun _ hk => hk.2) (.slice Ao9 t102.length co9)) (fun _ hk => hk.2) (.slice Ao12 t105.length co12)) (fun _ h_ => h_.1))) (Kd.R_base ho0) hb); replace HO107 := Aside0.mk (Kd.V_elder' (by refine pV ?_; exact (Kd.V_mono (Kd.V_far (p := ⟨gb109, 1, none⟩) (Kd.V_far (p := ⟨gb109, 0, none⟩) (Kd.V_mono HO107.out (fun k_ hk => (⟨hk, hk.2⟩ : _ ∧ k_ ≠ gb109))) (fun _ hk => hk.2) (.slice Ao9 t102.length co9)) (fun _ hk => hk.2) (.slice Ao12 t105.length co12)) (fun _ h_ => h_.1))) (Kd.R_base ho0) hb); have HO112 := rl ho0 HB; replace BK101 := bf BK101 hb; replace BK109 := Aside0.mk (blk_below (g := gb109) (o := .cells #[.slice Ao9 t102.length co9, .slice Ao12 t105.length co12] 99 (0, 0)) (by refine pB ?_; refine blk_put (cs := #[.slice Ao9 t102.length co9, .slice none 0 0]) ?_ 1 _ rfl; refine pB ?_; refine blk_put (cs := #[.slice none 0 0, .slice none 0 0]) ?_ 0 _ rfl; exact pB BK109.out) hb); replace HB := bs HB hb; clear hb ho0))
  go_ret2
  exact ⟨_, eT, pR HO112.out, pE HB⟩
 ·rw [if_neg c3] at H
  have c3b0 : (t108 == 0) = false := beq_eq_false_iff_ne.mpr c3
  have c3b1 : (t108 != 0) = true := bne_iff_ne.mpr c3
  simp only [Option.some.injEq, Prod.mk.injEq] at H
  obtain ⟨rfl, rfl⟩ := H
  go_enter Tryz.func20, Tryz.ntmps20
  go_wp2_with (first | ((with_reducible refine gate_dst (N := 1) rfl ?_); refine bx 1 #[.slice A0_0 l0_0.length c0_0, .slice A0_1 l0_1.length c0_1] 25 ?_; intro gb101 hg w14 hbox hb; have BK101 := hbox; have GW101 := gs HB hg; have GE101 := gs HB hg; replace HB := bs HB hb; clear hb hbox hg; obtain ⟨_, _, _, _⟩ := cf2 BK101) | ((with_reducible refine gc 62 rfl ?_); refine gL 8 Tryz.func62 #[.agg #[.slice A0_0 l0_0.length c0_0, .slice A0_1 l0_1.length c0_1], .int .i64 1, .int .i64 0] ?_; (with_reducible refine (turn_open.calls k (fun k_ => k_ < w.heap.size) _ _ l0_0 (fun k_ => k_ < w.heap.size) _ _ l0_1 1 0 t102 t105 t108 _ ?side1 ?side2 A2.out).mono ?_); (case side1 => exact Kd.V_mk HC0_0.out (Kd.F_below (Kd.C_F k67_heap HR0_0.out) (pE HB))); (case side2 => exact Kd.V_mk HC0_1.out (Kd.F_below (Kd.C_F (Kd.heap_int .i64) HR0_1.out) (pE HB))); rintro e w16 ⟨v103, v106, rfl, ho0, ho1, hb⟩; refine ⟨_, rfl, ?_⟩; have HO104 := Aside0.mk (Kd.V_lower (Kd.V_mono (ok' := fun k_ => k_ ≠ gb101) ho0 (fun k_ hk_ => Or.elim hk_ (fun hs_ => Or.elim hs_ (fun hs_ => fun e_ => Nat.not_le.2 hs_ (by rw [e_]; exact GW101.out)) (fun hs_ => fun e_ => Nat.not_le.2 hs_ (by rw [e_]; exact GW101.out))) (fun hn_ => (Kd.freshB (g := gb101) (o := .cells #[.slice A0_0 l0_0.length c0_0, .slice A0_1 l0_1.length c0_1] 25 (0, 0)) (pB BK101.out) k_ hn_)))) (below_size (pE HB))); have HO107 := Aside0.mk (Kd.V_lower (Kd.V_mono (ok' := fun k_ => k_ ≠ gb101) ho1 (fun k_ hk_ => Or.elim hk_ (fun hs_ => Or.elim hs_ (fun hs_ => fun e_ => Nat.not_le.2 hs_ (by rw [e_]; exact GW101.out)) (fun hs_ => fun e_ => Nat.not_le.2 hs_ (by rw [e_]; exact GW101.out))) (fun hn_ => (Kd.freshB (g := gb101) (o := .cells #[.slice A0_0 l0_0.length c0_0, .slice A0_1 l0_1.length c0_1] 25 (0, 0)) (pB BK101.out) k_ hn_)))) (below_size (pE HB))); replace BK101 := bb BK101 hb; replace HB := bs HB hb; clear hb ho0 ho1) | ((with_reducible refine gate_dst (N := 4) rfl ?_); refine bx 4 #[.slice none 0 0, .slice none 0 0] 99 ?_; intro gb109 hg w17 hbox hb; replace HO104 := ve HO104 hg hb; replace HO107 := ve HO107 hg hb; have BK109 := hbox; have GW109 := gs HB hg; have GE109 := gs HB hg; replace HB := bs HB hb; have NB101_109 := nl BK101 hg; have NB109_101 := nr BK101 hg; replace BK101 := bb BK101 hb; clear hb hbox hg; obtain ⟨Ao18, co18, eo18⟩ := Kd.V_slice HO104.out; subst eo18; have hnb19 := NB109_101.out; have hnc19 := NB101_109.out; obtain ⟨_, _, _, _⟩ := cf2 BK109; obtain ⟨Ao21, co21, eo21⟩ := Kd.V_slice HO107.out; subst eo21))
  go_ret2
  exact ⟨_, eT, by first | exact Kd.R_nil _ _ _ _ _ | exact Kd.N_nil _ _ _ _ _ | exact Kd.V_nil _ _ _ _ _ | exact Kd.Q_nil _ _ _ _ _ | exact Kd.S_nil _ _ _ _ _, pE HB⟩
mutual
def walkmillref04_Order.l0 : Nat → List Int → Int → List (S67) → List Int → Option (List Int)
 | 0, _, _, _, _ => none
 | k + 1, x3, x4, x102000, x102001 => if x4 < (x102000.length : Int) then (walkmillref04_Order.l1 k x3 x4 0 0 x102000 x102001) else (some x3)
def walkmillref04_Order.l1 : Nat → List Int → Int → Int → Int → List (S67) → List Int → Option (List Int)
 | 0, _, _, _, _, _, _ => none
 | k + 1, x3, x4, x5, x6, x102000, x102001 => if x6 < (x102000.length : Int) then (if x6 = x4 then (walkmillref04_Order.j2 k x3 x4 x5 x6 false x102000 x102001) else ((walkmillref04_Before.f k x102000 x102001 x6 x4).bind fun t106 => (walkmillref04_Order.j2 k x3 x4 x5 x6 t106 x102000 x102001))) else (if 0 ≤ x5 then (if x5 < (x3.length : Int) then (walkmillref04_Order.l0 k (x3.set (x5 : Int).toNat x4) (wrap64 (x4 + 1)) x102000 x102001) else (none)) else (none))
def walkmillref04_Order.j2 : Nat → List Int → Int → Int → Int → Bool → List (S67) → List Int → Option (List Int)
 | 0, _, _, _, _, _, _, _ => none
 | k + 1, x3, x4, x5, x6, x33, x102000, x102001 => if x33 = true then (walkmillref04_Order.l1 k x3 x4 (wrap64 (x5 + 1)) (wrap64 (x6 + 1)) x102000 x102001) else (walkmillref04_Order.l1 k x3 x4 x5 (wrap64 (x6 + 1)) x102000 x102001)
end
def walkmillref04_Order.f (k : Nat) (l0_0 : List (S67)) (l0_1 : List Int) : Option (List Int) := if 0 ≤ (l0_0.length : Int) then (if ((l0_0.length : Int) : Int).toNat ≤ 35184372088832 then (walkmillref04_Order.l0 k (List.replicate ((l0_0.length : Int) : Int).toNat 0) 0 l0_0 l0_1) else (none)) else (none)
theorem walkmillref04_Order.mono_l : ∀ k, (∀ y0 y1 y2 y3, LeO (walkmillref04_Order.l0 k y0 y1 y2 y3) (walkmillref04_Order.l0 (k + 1) y0 y1 y2 y3)) ∧ (∀ y0 y1 y2 y3 y4 y5, LeO (walkmillref04_Order.l1 k y0 y1 y2 y3 y4 y5) (walkmillref04_Order.l1 (k + 1) y0 y1 y2 y3 y4 y5)) ∧ (∀ y0 y1 y2 y3 y4 y5 y6, LeO (walkmillref04_Order.j2 k y0 y1 y2 y3 y4 y5 y6) (walkmillref04_Order.j2 (k + 1) y0 y1 y2 y3 y4 y5 y6))
 | 0 => ⟨fun _ _ _ _ r h => by simp [walkmillref04_Order.l0] at h, fun _ _ _ _ _ _ r h => by simp [walkmillref04_Order.l1] at h, fun _ _ _ _ _ _ _ r h => by simp [walkmillref04_Order.j2] at h⟩
 | k + 1 => by
  obtain ⟨ih0, ih1, ih2⟩ := walkmillref04_Order.mono_l k
  refine ⟨?_, ?_, ?_⟩
  ·intro y0 y1 y2 y3
   unfold walkmillref04_Order.l0
   repeat' first
   | (with_reducible exact ih0 _ _ _ _)
   | (with_reducible exact ih1 _ _ _ _ _ _)
   | (with_reducible exact ih2 _ _ _ _ _ _ _)
   | (with_reducible exact walkmillref04_Before.mono _ _ _ _ _)
   | (with_reducible exact LeO.refl _)
   | (with_reducible exact LeO.none _)
   | (with_reducible refine LeO.ite ?_ ?_)
   | (with_reducible refine LeO.bind ?_ (fun _ => ?_))
   | exact ih0 _ _ _ _
   | exact ih1 _ _ _ _ _ _
   | exact ih2 _ _ _ _ _ _ _
   | exact walkmillref04_Before.mono _ _ _ _ _
   | exact LeO.none _
   | refine LeO.ite ?_ ?_
   | refine LeO.bind ?_ (fun _ => ?_)
  ·intro y0 y1 y2 y3 y4 y5
   unfold walkmillref04_Order.l1
   repeat' first
   | (with_reducible exact ih0 _ _ _ _)
   | (with_reducible exact ih1 _ _ _ _ _ _)
   | (with_reducible exact ih2 _ _ _ _ _ _ _)
   | (with_reducible exact walkmillref04_Before.mono _ _ _ _ _)
   | (with_reducible exact LeO.refl _)
   | (with_reducible exact LeO.none _)
   | (with_reducible refine LeO.ite ?_ ?_)
   | (with_reducible refine LeO.bind ?_ (fun _ => ?_))
   | exact ih0 _ _ _ _
   | exact ih1 _ _ _ _ _ _
   | exact ih2 _ _ _ _ _ _ _
   | exact walkmillref04_Before.mono _ _ _ _ _
   | exact LeO.none _
   | refine LeO.ite ?_ ?_
   | refine LeO.bind ?_ (fun _ => ?_)
  ·intro y0 y1 y2 y3 y4 y5 y6
   unfold walkmillref04_Order.j2
   repeat' first
   | (with_reducible exact ih0 _ _ _ _)
   | (with_reducible exact ih1 _ _ _ _ _ _)
   | (with_reducible exact ih2 _ _ _ _ _ _ _)
   | (with_reducible exact walkmillref04_Before.mono _ _ _ _ _)
   | (with_reducible exact LeO.refl _)
   | (with_reducible exact LeO.none _)
   | (with_reducible refine LeO.ite ?_ ?_)
   | (with_reducible refine LeO.bind ?_ (fun _ => ?_))
   | exact ih0 _ _ _ _
   | exact ih1 _ _ _ _ _ _
   | exact ih2 _ _ _ _ _ _ _
   | exact walkmillref04_Before.mono _ _ _ _ _
   | exact LeO.none _
   | refine LeO.ite ?_ ?_
   | refine LeO.bind ?_ (fun _ => ?_)
theorem walkmillref04_Order.mono : ∀ a0 a1 k, LeO (walkmillref04_Order.f k a0 a1) (walkmillref04_Order.f (k + 1) a0 a1) := by
 intro a0 a1 k
 obtain ⟨ih0, ih1, ih2⟩ := walkmillref04_Order.mono_l k
 unfold walkmillref04_Order.f
 repeat' first
   | (with_reducible exact ih0 _ _ _ _)
   | (with_reducible exact ih1 _ _ _ _ _ _)
   | (with_reducible exact ih2 _ _ _ _ _ _ _)
   | (with_reducible exact walkmillref04_Before.mono _ _ _ _ _)
   | (with_reducible exact LeO.refl _)
   | (with_reducible exact LeO.none _)
   | (with_reducible refine LeO.ite ?_ ?_)
   | (with_reducible refine LeO.bind ?_ (fun _ => ?_))
   | exact ih0 _ _ _ _
   | exact ih1 _ _ _ _ _ _
   | exact ih2 _ _ _ _ _ _ _
   | exact walkmillref04_Before.mono _ _ _ _ _
   | exact LeO.none _
   | refine LeO.ite ?_ ?_
   | refine LeO.bind ?_ (fun _ => ?_)
set_option maxHeartbeats 8000000 in
set_option maxRecDepth 100000 in
theorem walkmillref04_Order.calls (k : Nat) (A0_0 : Option Addr) (c0_0 : Nat) (l0_0 : List (S67)) (A0_1 : Option Addr) (c0_1 : Nat) (l0_1 : List Int) (r : List Int) (w : World) (hr0_0 : Kd.C k67 w A0_0 l0_0.length l0_0) (hc0_0 : l0_0.length ≤ c0_0) (hr0_1 : Kd.C (Kd.int .i64) w A0_1 l0_1.length l0_1) (hc0_1 : l0_1.length ≤ c0_1) (h : walkmillref04_Order.f k l0_0 l0_1 = some r) :
  Calls Tryz.prog 24 #[.agg #[.slice A0_0 l0_0.length c0_0, .slice A0_1 l0_1.length c0_1]] w fun e w' => ∃ v0_ : Value, e = .returned (v0_) ∧ Kd.R (Kd.int .i64) 3 w' w.heap.size (fun _ => True) v0_ r ∧ Below w.heap.size w w' := by
 have hu25 := Tryz.underlying25
 have HR0_0 := Aside0.mk hr0_0
 have HC0_0 := Aside0.mk hc0_0
 clear hr0_0 hc0_0
 have HR0_1 := Aside0.mk hr0_1
 have HC0_1 := Aside0.mk hc0_1
 clear hr0_1 hc0_1
 have HB := Aside0.mk (Below.refl w.heap.size w)
 have H : (if 0 ≤ (l0_0.length : Int) then (if ((l0_0.length : Int) : Int).toNat ≤ 35184372088832 then (walkmillref04_Order.l0 k (List.replicate ((l0_0.length : Int) : Int).toNat 0) 0 l0_0 l0_1) else (none)) else (none)) = some r := h
 clear h
 by_cases c2 : 0 ≤ (l0_0.length : Int)
 ·rw [if_pos c2] at H
  have c2b0 := eq_true c2
  have c2b1 : decide (0 ≤ (l0_0.length : Int)) = true := decide_eq_true c2
  clear c2
  by_cases c3 : ((l0_0.length : Int) : Int).toNat ≤ 35184372088832
  ·rw [if_pos c3] at H
   have c3b0 := eq_true c3
   have c3b1 : decide (((l0_0.length : Int) : Int).toNat ≤ 35184372088832) = true := decide_eq_true c3
   clear c3
   obtain ⟨y102, hy102⟩ : ∃ y_ : List Int, y_ = (List.replicate ((l0_0.length : Int) : Int).toNat 0) := ⟨_, rfl⟩
   replace H : (walkmillref04_Order.l0 k y102 0 l0_0 l0_1) = some r := yy hy102 H
   have Ny102 := Aside0.mk hy102
   clear hy102
   have H' := Aside0.mk H
   clear H
   go_enter Tryz.func24, Tryz.ntmps24
   go_wp2_with (first | ((with_reducible refine gate_dst (N := 1) rfl ?_); refine bx 1 #[.slice A0_0 l0_0.length c0_0, .slice A0_1 l0_1.length c0_1] 25 ?_; intro gb101 hg w4 hbox hb; have BK101 := hbox; have GW101 := gs HB hg; have GE101 := gs HB hg; replace HB := bs HB hb; clear hb hbox hg; obtain ⟨hcz5_0, hcz5_1, hfz5_0, hfz5_1⟩ := cf2 BK101) | ((with_reducible refine gate_dst (N := 10) rfl ?_); refine Kd.R_make (Kd.int .i64) _ 3 rfl (N := 10) rfl 23 _ _ rfl (l0_0.length : Int) rfl rfl Tryz.underlying23 (.int .i64 0) 8 info3 rfl (by decide) (by omega) 0 (ok := fun _ => True) (okp := fun _ => True) rfl (fun _ hk => hk) trivial (dT) (Nat.le_trans (Nat.mul_le_mul_right _ (dT : (l0_0.length : Int).toNat ≤ 35184372088832)) (by omega)) (Below.refl _ _) (Nat.le_refl _) ?_; intro v103 w6 ho7 hb hg_ hnew_; clear hg_ hnew_; (first | rw [← Ny102.out] at ho7 | (simp only [Int.reduceToNat] at ho7; rw [← Ny102.out] at ho7)); have HO104 := rl ho7 HB; replace BK101 := bb BK101 hb; replace HB := bs HB hb; clear hb ho7))
   go_loopg [4] k (fun kq v4 w' => ∃ (x3_1 : List Int) (x4_1 : Int), v4 = .int .i64 x4_1 ∧ Aside0 (walkmillref04_Order.l0 kq x3_1 x4_1 l0_0 l0_1 = some r) ∧ Aside0 (kq ≤ k) ∧ Aside0 (Kd.R (Kd.int .i64) 3 w' w.heap.size (fun _ => True) v103 x3_1) ∧ Aside0 (w'.heap[gb101]? = some (.cells #[(.slice A0_0 l0_0.length c0_0), (.slice A0_1 l0_1.length c0_1)] 25 (0, 0))) ∧ Aside0 (Below w.heap.size w w'))
   case atStart => exact ⟨(y102), (0), (by first | rfl | (simp; done) | (simp [*]; done)), H', ⟨Nat.le_refl _⟩, ⟨pR HO104.out⟩, ⟨pB BK101.out⟩, ⟨pE HB⟩⟩
   case round =>
    clear H'
    try clear c2
    try clear c2b0
    try clear c2b1
    try clear p2
    try clear c3
    try clear c3b0
    try clear c3b1
    try clear hcz5_0
    try clear hcz5_1
    try clear hfz5_0
    try clear hfz5_1
    obtain ⟨x3_1, x4_1, rfl, HA, HK1, HO_3, BK101, HB⟩ := hrel
    cases gk with
    | zero => exact absurd HA.out (by simp [walkmillref04_Order.l0])
    | succ k1 =>
     have H := HA.out
     clear HA
     simp only [walkmillref04_Order.l0] at H
     by_cases c8 : x4_1 < (l0_0.length : Int)
     ·rw [if_pos c8] at H
      have c8b0 : decide (x4_1 < (l0_0.length : Int)) = true := decide_eq_true c8
      clear c8
      have H' := Aside0.mk H
      clear H
      obtain ⟨hcz9_0, hcz9_1, hfz9_0, hfz9_1⟩ := cf2 BK101
      go_wp2
      go_loopg [5, 6] k1 (fun kq v5 v6 w' => ∃ (x5_2 : Int) (x6_2 : Int), v5 = .int .i64 x5_2 ∧ v6 = .int .i64 x6_2 ∧ Aside0 (walkmillref04_Order.l1 kq x3_1 x4_1 x5_2 x6_2 l0_0 l0_1 = some r) ∧ Aside0 (kq ≤ k1) ∧ Aside0 (Kd.R (Kd.int .i64) 3 w' w.heap.size (fun _ => True) v103 x3_1) ∧ Aside0 (w'.heap[gb101]? = some (.cells #[(.slice A0_0 l0_0.length c0_0), (.slice A0_1 l0_1.length c0_1)] 25 (0, 0))) ∧ Aside0 (Below w.heap.size w w'))
      case atStart => exact ⟨(0), (0), (by first | rfl | (simp; done) | (simp [*]; done)), (by first | rfl | (simp; done) | (simp [*]; done)), H', ⟨Nat.le_refl _⟩, ⟨pR HO_3.out⟩, ⟨pB BK101.out⟩, ⟨pE HB⟩⟩
      case round =>
       clear H'
       try clear c2
       try clear c2b0
       try clear c2b1
       try clear p2
       try clear c3
       try clear c3b0
       try clear c3b1
       try clear c8
       try clear c8b0
       try clear hcz5_0
       try clear hcz5_1
       try clear hcz9_0
       try clear hcz9_1
       try clear hfz5_0
       try clear hfz5_1
       try clear hfz9_0
       try clear hfz9_1
       try clear p2
       obtain ⟨x5_2, x6_2, rfl, rfl, HA, HK2, HO_3, BK101, HB⟩ := hrel
       cases gk with
       | zero => exact absurd HA.out (by simp [walkmillref04_Order.l1])
       | succ k2 =>
        have H := HA.out
        clear HA
        simp only [walkmillref04_Order.l1] at H
        by_cases c10 : x6_2 < (l0_0.length : Int)
        ·rw [if_pos c10] at H
         have c10b0 : decide (x6_2 < (l0_0.length : Int)) = true := decide_eq_true c10
         clear c10
         have HC11 := Aside0.mk H
         clear H
         obtain ⟨hcz12_0, hcz12_1, hfz12_0, hfz12_1⟩ := cf2 BK101
         go_upto_region 9 with (fail)
         go_cut [33] (fun v33 wc => ∃ (kq : Nat) (x33_10 : Bool), v33 = .bool x33_10 ∧ Aside0 (walkmillref04_Order.j2 kq x3_1 x4_1 x5_2 x6_2 x33_10 l0_0 l0_1 = some r) ∧ Aside0 (kq ≤ k2) ∧ Aside0 (Kd.R (Kd.int .i64) 3 wc w.heap.size (fun _ => True) v103 x3_1) ∧ Aside0 (wc.heap[gb101]? = some (.cells #[(.slice A0_0 l0_0.length c0_0), (.slice A0_1 l0_1.length c0_1)] 25 (0, 0))) ∧ Aside0 (Below w.heap.size w wc))
         case first =>
          have H := HC11.out
          clear HC11
          by_cases c13 : x6_2 = x4_1
          ·rw [if_pos c13] at H
           have c13b0 : (x6_2 == x4_1) = true := beq_iff_eq.mpr c13
           have c13b1 : (x6_2 != x4_1) = false := bne_eq_false_iff_eq.mpr c13
           clear c13
           (first | rw [c13b0] | (simp only [i64_w, i32_w]; rw [c13b0]) | skip)
           have H' := Aside0.mk H
           clear H
           go_wp2
           go_meet
           case rel => exact ⟨_, (false), (by first | rfl | (simp; done) | (simp [*]; done)), H', ⟨by have := HK1.out; have := HK2.out; first | omega | exact Nat.le_refl _⟩, ⟨pR HO_3.out⟩, ⟨pB BK101.out⟩, ⟨pE HB⟩⟩
          ·rw [if_neg c13] at H
           have c13b0 : (x6_2 == x4_1) = false := beq_eq_false_iff_ne.mpr c13
           have c13b1 : (x6_2 != x4_1) = true := bne_iff_ne.mpr c13
           (first | rw [c13b0] | (simp only [i64_w, i32_w]; rw [c13b0]) | skip)
           obtain ⟨t106, A14, H⟩ := bi H
           have H' := Aside0.mk H
           clear H
           obtain ⟨hcz15_0, hcz15_1, hfz15_0, hfz15_1⟩ := cf2 BK101
           go_wp2_with (first | (go_at_call 64; (with_reducible refine (walkmillref04_Before.calls k2 _ _ l0_0 _ _ l0_1 x6_2 x4_1 t106 _ ?side1 ?side2 ?side3 ?side4 A14.out).mono ?_); (case side1 => exact pC (Kd.C_below HR0_0.out HB.out)); (case side2 => exact HC0_0.out); (case side3 => exact pC (Kd.C_below HR0_1.out HB.out)); (case side4 => exact HC0_1.out); rintro e w16 ⟨rfl, hb⟩; replace HO_3 := rb HO_3 hb; replace BK101 := bb BK101 hb; replace HB := bs HB hb; (try clear hb); (try clear hb2); (try clear hk); (try clear hi)))
           go_meet
           case rel => exact ⟨_, (t106), (by first | rfl | (simp; done) | (simp [*]; done)), H', ⟨by have := HK1.out; have := HK2.out; first | omega | exact Nat.le_refl _⟩, ⟨pR HO_3.out⟩, ⟨pB BK101.out⟩, ⟨pE HB⟩⟩
         case rest =>
          clear HC11
          try clear c1
          try clear c2
          try clear c2b0
          try clear c2b1
          try clear p2
          try clear c3
          try clear c3b0
          try clear c3b1
          try clear c8
          try clear c8b0
          try clear c10
          try clear c10b0
          try clear c13
          try clear c13b0
          try clear c13b1
          try clear hcz12_0
          try clear hcz12_1
          try clear hcz15_0
          try clear hcz15_1
          try clear hcz5_0
          try clear hcz5_1
          try clear hcz9_0
          try clear hcz9_1
          try clear hfz12_0
          try clear hfz12_1
          try clear hfz15_0
          try clear hfz15_1
          try clear hfz5_0
          try clear hfz5_1
          try clear hfz9_0
          try clear hfz9_1
          try clear p2
          obtain ⟨kq, x33_10, rfl, HA, HJ10, HO_3, BK101, HB⟩ := hcut
          cases kq with
          | zero => exact absurd HA.out (by simp [walkmillref04_Order.j2])
          | succ kj10 =>
           have H := HA.out
           clear HA
           simp only [walkmillref04_Order.j2] at H
           by_cases c17 : x33_10 = true
           ·subst c17
            rw [if_pos rfl] at H
            have H' := Aside0.mk H
            clear H
            go_wp2
            go_roundg kj10
            case measure => have := HK1.out; have := HK2.out; have := HJ10.out; omega
            case rel => exact ⟨(wrap64 (x5_2 + 1)), (wrap64 (x6_2 + 1)), (by first | rfl | (simp; done) | (simp [*]; done)), (by first | rfl | (simp; done) | (simp [*]; done)), H', ⟨by have := HK1.out; have := HK2.out; have := HJ10.out; omega⟩, ⟨pR HO_3.out⟩, ⟨pB BK101.out⟩, ⟨pE HB⟩⟩
           ·replace c17 := Bool.eq_false_iff.mpr c17
            subst c17
            rw [if_neg (show ¬ (false = true) by decide)] at H
            have H' := Aside0.mk H
            clear H
            go_wp2
            go_roundg kj10
            case measure => have := HK1.out; have := HK2.out; have := HJ10.out; omega
            case rel => exact ⟨(x5_2), (wrap64 (x6_2 + 1)), (by first | rfl | (simp; done) | (simp [*]; done)), (by first | rfl | (simp; done) | (simp [*]; done)), H', ⟨by have := HK1.out; have := HK2.out; have := HJ10.out; omega⟩, ⟨pR HO_3.out⟩, ⟨pB BK101.out⟩, ⟨pE HB⟩⟩
        ·rw [if_neg c10] at H
         have c10b0 : decide (x6_2 < (l0_0.length : Int)) = false := decide_eq_false c10
         clear c10
         by_cases c18 : 0 ≤ x5_2
         ·rw [if_pos c18] at H
          have c18b0 : decide (0 ≤ x5_2) = true := decide_eq_true c18
          clear c18
          by_cases c19 : x5_2 < (x3_1.length : Int)
          ·rw [if_pos c19] at H
           have c19b0 : decide (x5_2 < (x3_1.length : Int)) = true := decide_eq_true c19
           clear c19
           obtain ⟨y105, hy105⟩ : ∃ y_ : List Int, y_ = (x3_1.set (x5_2 : Int).toNat x4_1) := ⟨_, rfl⟩
           replace H : (walkmillref04_Order.l0 k2 y105 (wrap64 (x4_1 + 1)) l0_0 l0_1) = some r := yy hy105 H
           have Ny105 := Aside0.mk hy105
           clear hy105
           have H' := Aside0.mk H
           clear H
           obtain ⟨_, _, _, _⟩ := cf2 BK101
           have p20 : 0 ≤ (x5_2 : Int) := dT
           have q20 : (x5_2 : Int) < ((x3_1.length : Int) : Int) := dT
           obtain ⟨go20, co20, eo20, gb20, gl20, cl20, HG20⟩ := Kd.R_form HO_3.out (by omega)
           (first | cases eo20 | (injection eo20 with ea_ en_ ec_; (first | subst ea_ | (injection ea_ with ea_; subst ea_)); subst ec_; clear en_))
           have GB20 := Aside0.mk gb20
           have GG20 := Aside0.mk HG20
           clear gb20 gl20 HG20
           obtain ⟨hx20_0, hf20_0⟩ := Kd.R_celln 0 HO_3.out (x5_2 : Int) p20 q20
           replace p20 := eq_true p20
           replace q20 := eq_true q20
           have HP22 := Kd.R_putg HO_3.out (x5_2 : Int) x4_1
           go_wp2_with (first | ((with_reducible refine gate_store (t := 3) (p := 39) rfl ?_); refine store_event (t := 3) (p := 39) (v := ?vo_w23) (w1 := (wr.setCell ⟨go20, (x5_2 : Int).toNat, none⟩ (.int .i64 x4_1))) ?hg ?ho ?hn ?hr ?_; (case ho => rfl); (case hg => rfl); (case hn => rfl); (case hr => first | (go_simp; done) | (go_simp; rfl)); intro w23 hw; have hg : wr.grownBy w23 (some go20) := (by rw [hw]; exact HP22.2); have hp_ : Kd.R (Kd.int .i64) 3 w23 w.heap.size (fun _ => True) (.slice (some ⟨go20, 0, none⟩) x3_1.length co20) y105 := (by rw [hw, Ny105.out]; exact HP22.1); clear HP22; replace BK101 := Aside0.mk (blk_grown (g := gb101) (o := .cells #[.slice A0_0 l0_0.length c0_0, .slice A0_1 l0_1.length c0_1] 25 (0, 0)) (pB BK101.out) hg (Kd.R_ne HO_3.out BK101.out (by decide))); replace HO_3 := Aside0.mk (hp_); replace HB := Aside0.mk ((by rw [hw]; exact below_set (HB.out) GB20.out : Below w.heap.size w w23)); clear hg hw hp_))
           go_roundg k2
           case measure => have := HK1.out; have := HK2.out; omega
           case rel => exact ⟨(y105), (wrap64 (x4_1 + 1)), (by first | rfl | (simp; done) | (simp [*]; done)), H', ⟨by have := HK1.out; have := HK2.out; omega⟩, ⟨pR HO_3.out⟩, ⟨pB BK101.out⟩, ⟨pE HB⟩⟩
          ·rw [if_neg c19] at H
           exact absurd H (by simp)
         ·rw [if_neg c18] at H
          exact absurd H (by simp)
     ·rw [if_neg c8] at H
      have c8b0 : decide (x4_1 < (l0_0.length : Int)) = false := decide_eq_false c8
      clear c8
      obtain rfl := Option.some.inj H
      obtain ⟨_, _, _, _⟩ := cf2 BK101
      go_wp2
      go_ret
      exact ⟨_, eT, pR HO_3.out, pE HB⟩
  ·rw [if_neg c3] at H
   exact absurd H (by simp)
 ·rw [if_neg c2] at H
  exact absurd H (by simp)
end Go.Proofs.YtlmglnobdcgbeaaGreat.P
namespace Go.Proofs.YtlmglnobdcgbeaaGreat.P
open Go.RowKit Go.Proofs.YtlmglnobdcgbeaaGreatW.PrintWords Go.Proofs.YtlmglnobdcgbeaaGreatW.PrintLast Go.Proofs.YtlmglnobdcgbeaaGreatW.PrintMore
theorem len_some (k : Nat) (a : Int) : ∃ L, bits_Len.f (k + 2) a = some L := by
  have m0 : ∀ y : Int, 0 ≤ y % 256 := fun y => by omega
  have m1 : ∀ y : Int, y % 256 < 256 := fun y => by omega
  have j1 : ∀ x n : Int, ∃ L, bits_Len64.j1 (k + 1) x n = some L := by
    intro x n
    rw [bits_Len64.j1]
    split <;> (rw [if_pos (m0 _), if_pos (m1 _)]; exact ⟨_, rfl⟩)
  have j : ∀ x n : Int, ∃ L, bits_Len64.j0 (k + 2) x n = some L := by
    intro x n
    rw [bits_Len64.j0]
    split <;> exact j1 _ _
  unfold bits_Len.f bits_Len64.f
  split
  · obtain ⟨L, e⟩ := j (a / 4294967296) 32
    exact ⟨L, by rw [e]; rfl⟩
  · obtain ⟨L, e⟩ := j a 0
    exact ⟨L, by rw [e]; rfl⟩
def ordA (cl : List S67) (rk : List Int) : List Int := (rng cl.length).mergeSort fun a b => decide (key cl rk a ≤ key cl rk b)
theorem ordA_perm (cl : List S67) (rk : List Int) : (ordA cl rk).Perm (rng cl.length) := List.mergeSort_perm _ _
theorem ordA_byKey (cl : List S67) (rk : List Int) : byKey (key cl rk) (ordA cl rk) := by
  have := List.pairwise_mergeSort (le := fun a b : Int => decide (key cl rk a ≤ key cl rk b)) (fun a b c h1 h2 => by simp at *; omega) (fun a b => by simp; omega) (rng cl.length)
  exact this.imp (fun h => by simpa using h)
theorem ordA_uniq (cl : List S67) (rk : List Int) (hc : cl.length ≤ 100) (ys : List Int) (hp : ys.Perm (rng cl.length)) (hs : byKey (key cl rk) ys) : ys = ordA cl rk :=
  sorted_key (g := key cl rk) ys _ (hp.trans (ordA_perm cl rk).symm) hs (ordA_byKey cl rk) (fun a ha b hb h => key_inj cl rk hc a b (mem_rng.1 (hp.mem_iff.1 ha)) (mem_rng.1 (hp.mem_iff.1 hb)) h)
theorem sort_ok {cl : List S67} {rk : List Int} (v : Valid cl rk) (k : Nat) (hkk : 1000 < k) :
    slices_SortFunc_int_int_at_turn_day_before_bound.f k (rng cl.length) cl rk = some (ordA cl rk) := by
  have h10 := v.c10
  have hb : Less cl rk := fun a b ha hb k hk => before_eq v a b ha hb k hk
  obtain ⟨k, rfl⟩ : ∃ m, k = m + 2 := ⟨k - 2, by omega⟩
  obtain ⟨L, eL⟩ := len_some k (IntKind.u64.wrap ((rng cl.length).length : Int))
  have hr : inN cl.length (rng cl.length) := fun x hx => mem_rng.1 hx
  have hlen : (rng cl.length).length = cl.length := rng_length _
  generalize hl : rng cl.length = l at *
  have key_ : ∃ ys, slices_insertionSortCmpFunc_int_at_turn_day_before_bound.f (k + 1) l 0 (l.length : Int) cl rk = some ys ∧ ys.Perm l ∧ byKey (key cl rk) ys := by
    unfold slices_insertionSortCmpFunc_int_at_turn_day_before_bound.f
    rw [show wrap64 (0 + 1) = 1 by rw [w64_of (by omega) (by omega)]; rfl]
    cases l with
    | nil =>
      exact ⟨[], by rw [slices_insertionSortCmpFunc_int_at_turn_day_before_bound.l0, if_neg (by simp)], List.Perm.refl _, List.Pairwise.nil⟩
    | cons v r =>
      have := ins_l0 cl rk hb r.length [v] r (k + 1) rfl (by simp at hlen; omega) (by simp at hlen ⊢; omega) hr (List.pairwise_singleton _ _)
      simpa [Nat.add_comm] using this
  obtain ⟨ys, y1, y2, y3⟩ := key_
  unfold slices_SortFunc_int_int_at_turn_day_before_bound.f slices_pdqsortCmpFunc_int_at_turn_day_before_bound.f
  rw [eL, Option.bind_some, slices_pdqsortCmpFunc_int_at_turn_day_before_bound.l0, w64_of (n := (l.length : Int) - 0) (by omega) (by omega), if_pos (by omega), y1]
  exact congrArg some (ordA_uniq cl rk (by omega) ys (by rw [hl]; exact y2) y3)
theorem tOrder_l {cl : List S67} {rk : List Int} (v : Valid cl rk) : ∀ (d i k : Nat), i + d = cl.length → d + 1100 < k → turn_day_order.l0 k (rng i) (cl.length : Int) i cl rk = some (ordA cl rk)
  | 0, i, k, hd, hk => by
    obtain ⟨k, rfl⟩ : ∃ m, k = m + 1 := ⟨k - 1, by omega⟩
    rw [turn_day_order.l0, if_neg (by omega), show i = cl.length by omega, sort_ok v k (by omega)]; rfl
  | d + 1, i, k, hd, hk => by
    obtain ⟨k, rfl⟩ : ∃ m, k = m + 1 := ⟨k - 1, by omega⟩
    have h10 := v.c10
    rw [turn_day_order.l0, if_pos (by omega), if_pos (by rw [rng_length]; omega), nx i (by omega), ← rng_succ]
    exact tOrder_l v d (i + 1) k (by omega) (by omega)
theorem dayOrder_eq {cl : List S67} {rk : List Int} (v : Valid cl rk) (k : Nat) (hk : 1200 < k) : turn_day_order.f k cl rk = some (ordA cl rk) := by
  have h10 := v.c10
  exact tOrder_l v cl.length 0 k (by omega) (by omega)
theorem open_eq (cl : List S67) (rk : List Int) (hr : rk.length ≤ 1000) (s l : Int) (k : Nat) (hk : 0 < k) : turn_open.f k cl rk s l = some (cl, rk, if chk cl rk = 0 then (if (isIn 1 5 s && isIn 0 500 l) = true then 0 else 3) else chk cl rk) := by
  obtain ⟨k, rfl⟩ : ∃ m, k = m + 1 := ⟨k - 1, by omega⟩
  unfold turn_open.f
  rw [tCheck_eq cl rk hr (k + 1) (by omega), within_eq, within_eq]
  simp only [Option.bind_some, List.all_cons, List.all_nil, Bool.and_true]
  have hj : ∀ (e : Int) (b : Bool), turn_open.j0 (k + 1) e b cl rk = some (cl, rk, if b = true then 3 else e) := fun e b => by
    rw [turn_open.j0]; cases b <;> simp
  rw [hj, hj, hj]
  by_cases h : chk cl rk = 0
  · simp only [h, if_true]; cases isIn 1 5 s <;> cases isIn 0 500 l <;> simp
  · simp only [h, if_false]; simp
def cntA (cl : List S67) (rk : List Int) (a : Int) : Nat := (rng cl.length).countP fun b => decide (key cl rk b < key cl rk a)
theorem rng_drop (n i : Nat) (h : i < n) : (rng n).drop i = (i : Int) :: (rng n).drop (i + 1) := by
  have hl : i < (rng n).length := by rw [rng_length]; exact h
  rw [List.drop_eq_getElem_cons hl, rng_getElem]
theorem rOrder_l1 {cl : List S67} {rk : List Int} (v : Valid cl rk) (out : List Int) (a : Nat) (ha : a < cl.length) (R : List Int) (m : Nat) (hn : ∀ k, m < k → walkmillref04_Order.l1 k out a (cntA cl rk a) cl.length cl rk = some R) :
    ∀ (d b k c : Nat), b + d = cl.length → 2 * d + m + 40 < k → c ≤ b → c + ((rng cl.length).drop b).countP (fun b => decide (key cl rk b < key cl rk a)) = cntA cl rk a → walkmillref04_Order.l1 k out a c b cl rk = some R
  | 0, b, k, c, hd, hk, hcb, hc => by
    rw [List.drop_of_length_le (by rw [rng_length]; omega), List.countP_nil] at hc
    rw [show c = cntA cl rk a by omega, show b = cl.length by omega]
    exact hn k (by omega)
  | d + 1, b, k, c, hd, hk, hcb, hc => by
    obtain ⟨k, rfl⟩ : ∃ m, k = m + 1 := ⟨k - 1, by omega⟩
    have h10 := v.c10
    rw [rng_drop _ _ (show b < cl.length by omega), List.countP_cons] at hc
    have hj : ∀ q : Bool, (q = decide (key cl rk b < key cl rk a)) → walkmillref04_Order.j2 k out a c b q cl rk = some R := fun q hq => by
      obtain ⟨k, rfl⟩ : ∃ m, k = m + 1 := ⟨k - 1, by omega⟩
      rw [walkmillref04_Order.j2, nx b (by omega), nx c (by omega)]
      cases q
      · rw [if_neg (by simp)]
        rw [← hq] at hc
        exact rOrder_l1 v out a ha R m hn d (b + 1) k c (by omega) (by omega) (by omega) (by simpa using hc)
      · rw [if_pos rfl]
        rw [← hq] at hc
        exact rOrder_l1 v out a ha R m hn d (b + 1) k (c + 1) (by omega) (by omega) (by omega) (by simp at hc; omega)
    rw [walkmillref04_Order.l1, if_pos (by omega)]
    by_cases e : (b : Int) = a
    · rw [if_pos e]
      refine hj false ?_
      rw [e, decide_eq_false (by omega)]
    · rw [if_neg e, rBefore_eq v b a (by omega) (by omega) (by omega) k (by omega), Option.bind_some]
      exact hj _ rfl
theorem cnt_at {cl : List S67} {rk : List Int} (hc : cl.length ≤ 100) (p : Nat) (hp : p < (ordA cl rk).length) : cntA cl rk (ordA cl rk)[p] = p := by
  unfold cntA
  rw [← (ordA_perm cl rk).countP_eq]
  have hs := ordA_byKey cl rk
  have hin : ∀ x ∈ ordA cl rk, 0 ≤ x ∧ x < cl.length := fun x hx => mem_rng.1 ((ordA_perm cl rk).mem_iff.1 hx)
  have hnd : (ordA cl rk).Nodup := (ordA_perm cl rk).nodup_iff.2 (rng_nodup _)
  generalize ordA cl rk = L at *
  obtain ⟨x, hx⟩ : ∃ x, L[p] = x := ⟨_, rfl⟩
  have hsplit : L = L.take p ++ x :: L.drop (p + 1) := by rw [← hx, ← List.drop_eq_getElem_cons hp, List.take_append_drop]
  rw [hx]
  rw [hsplit] at hs hnd
  obtain ⟨_, s2, s3⟩ := List.pairwise_append.1 hs
  obtain ⟨s4, _⟩ := List.pairwise_cons.1 s2
  obtain ⟨_, n2, n3⟩ := List.pairwise_append.1 (List.nodup_iff_pairwise_ne.1 hnd)
  rw [hsplit, List.countP_append, List.countP_cons]
  have hxi : 0 ≤ x ∧ x < cl.length := hin x (by rw [← hx]; exact List.getElem_mem _)
  have c1 : (L.take p).countP (fun b => decide (key cl rk b < key cl rk x)) = p := by
    have : (L.take p).countP (fun b => decide (key cl rk b < key cl rk x)) = (L.take p).length := List.countP_eq_length.2 (fun y hy => by
      have h1 := s3 y hy x (by simp)
      have h2 := n3 y hy x (by simp)
      have h3 : key cl rk y ≠ key cl rk x := fun e => h2 (key_inj cl rk hc y x (hin y (List.mem_of_mem_take hy)) hxi e)
      exact decide_eq_true (by omega))
    rw [this, List.length_take]; omega
  have c2 : (L.drop (p + 1)).countP (fun b => decide (key cl rk b < key cl rk x)) = 0 := List.countP_eq_zero.2 (fun y hy => by
    have h1 := s4 y hy
    simp; omega)
  rw [c1, c2]; simp
theorem rOrder_l0 {cl : List S67} {rk : List Int} (v : Valid cl rk) : ∀ (d a k : Nat) (out : List Int), a + d = cl.length → 100 * d + 10 < k → out.length = cl.length → (∀ p (hp : p < (ordA cl rk).length), (ordA cl rk)[p] < (a : Int) → out[p]? = some (ordA cl rk)[p]) →
    walkmillref04_Order.l0 k out a cl rk = some (ordA cl rk)
  | 0, a, k, out, hd, hk, hl, ho => by
    obtain ⟨k, rfl⟩ : ∃ m, k = m + 1 := ⟨k - 1, by omega⟩
    rw [walkmillref04_Order.l0, if_neg (by omega)]
    congr 1
    have hL : (ordA cl rk).length = cl.length := by rw [(ordA_perm cl rk).length_eq, rng_length]
    refine List.ext_getElem? fun p => ?_
    rcases Nat.lt_or_ge p cl.length with hp | hp
    · have hp' : p < (ordA cl rk).length := by omega
      have hm := mem_rng.1 ((ordA_perm cl rk).mem_iff.1 (List.getElem_mem hp'))
      rw [ho p hp' (by omega), List.getElem?_eq_getElem hp']
    · rw [List.getElem?_eq_none (by omega), List.getElem?_eq_none (by omega)]
  | d + 1, a, k, out, hd, hk, hl, ho => by
    obtain ⟨k, rfl⟩ : ∃ m, k = m + 1 := ⟨k - 1, by omega⟩
    have h10 := v.c10
    have hL : (ordA cl rk).length = cl.length := by rw [(ordA_perm cl rk).length_eq, rng_length]
    obtain ⟨p, hp, hpa⟩ : ∃ (p : Nat) (hp : p < (ordA cl rk).length), (ordA cl rk)[p] = (a : Int) := List.getElem_of_mem ((ordA_perm cl rk).mem_iff.2 (mem_rng.2 (by omega)))
    have hcp : cntA cl rk a = p := by rw [← hpa]; exact cnt_at (by omega) p hp
    rw [walkmillref04_Order.l0, if_pos (by omega)]
    refine rOrder_l1 v out a (by omega) (ordA cl rk) (100 * d + 11) (fun k hk => ?_) cl.length 0 k 0 (by omega) (by omega) (by omega) (by rw [List.drop_zero, Nat.zero_add]; rfl)
    obtain ⟨k, rfl⟩ : ∃ m, k = m + 1 := ⟨k - 1, by omega⟩
    rw [walkmillref04_Order.l1, if_neg (by omega), hcp, if_pos (by omega), if_pos (by omega), nx a (by omega), Int.toNat_natCast]
    refine rOrder_l0 v d (a + 1) k _ (by omega) (by omega) (by rw [List.length_set]; exact hl) fun q hq hlt => ?_
    by_cases e : q = p
    · subst e; rw [List.getElem?_set_self (by omega), hpa]
    · rw [List.getElem?_set_ne (by omega)]
      have hnd : (ordA cl rk).Nodup := (ordA_perm cl rk).nodup_iff.2 (rng_nodup _)
      have : (ordA cl rk)[q] ≠ (a : Int) := fun e2 => by
        rw [← hpa] at e2
        rw [List.nodup_iff_pairwise_ne, List.pairwise_iff_getElem] at hnd
        rcases Nat.lt_or_gt_of_ne e with h | h
        · exact hnd q p hq hp h e2
        · exact hnd p q hp hq h e2.symm
      exact ho q hq (by omega)
theorem rOrder_eq {cl : List S67} {rk : List Int} (v : Valid cl rk) (k : Nat) (hk : 1200 < k) : walkmillref04_Order.f k cl rk = some (ordA cl rk) := by
  have h10 := v.c10
  unfold walkmillref04_Order.f
  rw [if_pos (by omega), if_pos (by omega), Int.toNat_natCast]
  exact rOrder_l0 v cl.length 0 k _ (by omega) (by omega) (by simp) (fun p hp h => by have := mem_rng.1 ((ordA_perm cl rk).mem_iff.1 (List.getElem_mem hp)); omega)
end Go.Proofs.YtlmglnobdcgbeaaGreat.P
namespace Go.Proofs.YtlmglnobdcgbeaaGreat.P
open Go.RowKit Go.Proofs.YtlmglnobdcgbeaaGreatW.PrintWords Go.Proofs.YtlmglnobdcgbeaaGreatW.PrintLast Go.Proofs.YtlmglnobdcgbeaaGreatW.PrintMore
attribute [local go_sem] max2_int min2_int max_two min_two max_three min_three max_four min_four
def walkmilllaw04_long.f (l0_0 : List (S67)) (l0_1 : List Int) : Option (Bool) := if (l0_0.length : Int) > 20 then (some true) else (some (decide ((l0_1.length : Int) > 10)))
set_option maxHeartbeats 8000000 in
set_option maxRecDepth 100000 in
theorem walkmilllaw04_long.calls (A0_0 : Option Addr) (c0_0 : Nat) (l0_0 : List (S67)) (A0_1 : Option Addr) (c0_1 : Nat) (l0_1 : List Int) (r : Bool) (w : World) (hr0_0 : Kd.C k67 w A0_0 l0_0.length l0_0) (hc0_0 : l0_0.length ≤ c0_0) (hr0_1 : Kd.C (Kd.int .i64) w A0_1 l0_1.length l0_1) (hc0_1 : l0_1.length ≤ c0_1) (h : walkmilllaw04_long.f l0_0 l0_1 = some r) :
  Calls Tryz.prog 16 #[.agg #[.slice A0_0 l0_0.length c0_0, .slice A0_1 l0_1.length c0_1]] w fun e w' => e = .returned (.bool r) ∧ Below w.heap.size w w' := by
 have hu25 := Tryz.underlying25
 have HR0_0 := Aside0.mk hr0_0
 have HC0_0 := Aside0.mk hc0_0
 clear hr0_0 hc0_0
 have HR0_1 := Aside0.mk hr0_1
 have HC0_1 := Aside0.mk hc0_1
 clear hr0_1 hc0_1
 have HB := Aside0.mk (Below.refl w.heap.size w)
 have H : (if (l0_0.length : Int) > 20 then (some true) else (some (decide ((l0_1.length : Int) > 10)))) = some r := h
 clear h
 by_cases c2 : (l0_0.length : Int) > 20
 ·rw [if_pos c2] at H
  have c2b0 : decide (20 < (l0_0.length : Int)) = true := decide_eq_true c2
  have c2b1 : decide (20 < l0_0.length) = true := decide_eq_true (by omega)
  clear c2
  obtain rfl := Option.some.inj H
  go_enter Tryz.func16, Tryz.ntmps16
  go_wp2_with (first | ((with_reducible refine gate_dst (N := 1) rfl ?_); (try (refine gate_guard (by rfl) ?_; dsimp only)); refine bx 1 #[.slice A0_0 l0_0.length c0_0, .slice A0_1 l0_1.length c0_1] 25 ?_; intro gb101 hg w3 hbox hb; have BK101 := hbox; have GW101 := gs HB hg; have GE101 := gs HB hg; replace HB := bs HB hb; clear hb hbox hg; obtain ⟨_, _, _, _⟩ := cf2 BK101))
  go_ret
  exact ⟨eT, pE HB⟩
 ·rw [if_neg c2] at H
  have c2b0 : decide (20 < (l0_0.length : Int)) = false := decide_eq_false c2
  have c2b1 : decide (20 < l0_0.length) = false := decide_eq_false (by omega)
  clear c2
  obtain rfl := Option.some.inj H
  go_enter Tryz.func16, Tryz.ntmps16
  go_wp2_with (first | ((with_reducible refine gate_dst (N := 1) rfl ?_); (try (refine gate_guard (by rfl) ?_; dsimp only)); refine bx 1 #[.slice A0_0 l0_0.length c0_0, .slice A0_1 l0_1.length c0_1] 25 ?_; intro gb101 hg w5 hbox hb; have BK101 := hbox; have GW101 := gs HB hg; have GE101 := gs HB hg; replace HB := bs HB hb; clear hb hbox hg; obtain ⟨_, _, _, _⟩ := cf2 BK101))
  go_ret
  exact ⟨eT, pE HB⟩
def walkmillref04_Copy.f (l0_0 : List (S67)) (l0_1 : List Int) : Option ((List (S67)) × List Int) := (some (([] : List (S67)) : List (S67))).bind fun y103 => (if y103.length + l0_0.length < 4398046511104 then ((some (([] : List Int) : List Int)).bind fun y109 => (if y109.length + l0_1.length < 17592186044416 then (some ((y103 ++ l0_0), (y109 ++ l0_1))) else (none))) else (none))
def walkmillref04_Copy.T1 : Bool × List (List Nat × List Nat) := (true, [([], []), ([], []), ([1], [1]), ([0, 2], [0, 2]), ([], []), ([], []), ([5], [5]), ([4, 6, 3], [4, 6]), ([3, 7], [3, 7]), ([8, 7, 0, 1, 2, 3, 4, 5, 6, 7, 8], [8])])
def walkmillref04_Copy.B1 : List Nat := [0, 0, 2, 7, 0, 0, 32, 127, 255, 511]
theorem walkmillref04_Copy.tab1 : rtab .any (opsOf Tryz.f18 1) = walkmillref04_Copy.T1 := by kernel_rfl
theorem walkmillref04_Copy.bits1 : waitsOk walkmillref04_Copy.T1.2 walkmillref04_Copy.B1 = true := by kernel_rfl
set_option maxHeartbeats 8000000 in
set_option maxRecDepth 100000 in
theorem walkmillref04_Copy.calls (A0_0 : Option Addr) (c0_0 : Nat) (l0_0 : List (S67)) (A0_1 : Option Addr) (c0_1 : Nat) (l0_1 : List Int) (r1 : List (S67)) (r2 : List Int) (w : World) (hr0_0 : Kd.C k67 w A0_0 l0_0.length l0_0) (hc0_0 : l0_0.length ≤ c0_0) (hr0_1 : Kd.C (Kd.int .i64) w A0_1 l0_1.length l0_1) (hc0_1 : l0_1.length ≤ c0_1) (h : walkmillref04_Copy.f l0_0 l0_1 = some (r1, r2)) :
  Calls Tryz.prog 18 #[.agg #[.slice A0_0 l0_0.length c0_0, .slice A0_1 l0_1.length c0_1]] w fun e w' => ∃ v0_ v1_ : Value, e = .returned (.agg #[v0_, v1_]) ∧ Kd.R k67 67 w' w.heap.size (fun _ => True) v0_ r1 ∧ Kd.R (Kd.int .i64) 3 w' w.heap.size (fun _ => True) v1_ r2 ∧ Below w.heap.size w w' := by
 have hu25 := Tryz.underlying25
 have HR0_0 := Aside0.mk hr0_0
 have HC0_0 := Aside0.mk hc0_0
 clear hr0_0 hc0_0
 have HR0_1 := Aside0.mk hr0_1
 have HC0_1 := Aside0.mk hc0_1
 clear hr0_1 hc0_1
 have HB := Aside0.mk (Below.refl w.heap.size w)
 have H : ((some (([] : List (S67)) : List (S67))).bind fun y103 => (if y103.length + l0_0.length < 4398046511104 then ((some (([] : List Int) : List Int)).bind fun y109 => (if y109.length + l0_1.length < 17592186044416 then (some ((y103 ++ l0_0), (y109 ++ l0_1))) else (none))) else (none))) = some (r1, r2) := h
 clear h
 obtain ⟨y103, hy103⟩ : ∃ y_ : List (S67), y_ = (([] : List (S67))) := ⟨_, rfl⟩
 replace H : (if y103.length + l0_0.length < 4398046511104 then ((some (([] : List Int) : List Int)).bind fun y109 => (if y109.length + l0_1.length < 17592186044416 then (some ((y103 ++ l0_0), (y109 ++ l0_1))) else (none))) else (none)) = some (r1, r2) := yy hy103 H
 have Ny103 := Aside0.mk hy103
 clear hy103
 by_cases c2 : y103.length + l0_0.length < 4398046511104
 ·rw [if_pos c2] at H
  have LMc2 := Aside0.mk c2
  clear c2
  obtain ⟨y106, hy106⟩ : ∃ y_ : List (S67), y_ = (y103 ++ l0_0) := ⟨_, rfl⟩
  replace H : ((some (([] : List Int) : List Int)).bind fun y109 => (if y109.length + l0_1.length < 17592186044416 then (some (y106, (y109 ++ l0_1))) else (none))) = some (r1, r2) := yy hy106 H
  have Ny106 := Aside0.mk hy106
  clear hy106
  obtain ⟨y109, hy109⟩ : ∃ y_ : List Int, y_ = (([] : List Int)) := ⟨_, rfl⟩
  replace H : (if y109.length + l0_1.length < 17592186044416 then (some (y106, (y109 ++ l0_1))) else (none)) = some (r1, r2) := yy hy109 H
  have Ny109 := Aside0.mk hy109
  clear hy109
  by_cases c3 : y109.length + l0_1.length < 17592186044416
  ·rw [if_pos c3] at H
   have LMc3 := Aside0.mk c3
   clear c3
   obtain ⟨y112, hy112⟩ : ∃ y_ : List Int, y_ = (y109 ++ l0_1) := ⟨_, rfl⟩
   replace H : (some (y106, y112)) = some (r1, r2) := yy hy112 H
   have Ny112 := Aside0.mk hy112
   clear hy112
   simp only [Option.some.injEq, Prod.mk.injEq] at H
   obtain ⟨rfl, rfl⟩ := H
   go_enter Tryz.func18, Tryz.ntmps18
   try go_wp2_with (first | ((with_reducible refine gate_dst (N := 1) rfl ?_); refine bx 1 #[.slice A0_0 l0_0.length c0_0, .slice A0_1 l0_1.length c0_1] 25 ?_; intro gb101 hg w4 hbox hb; have BK101 := hbox; have GW101 := gs HB hg; have GE101 := gs HB hg; replace HB := bs HB hb; clear hb hbox hg) | ((with_reducible refine gate_dst (N := 2) rfl ?_); refine bx 2 #[.slice none 0 0, .slice none 0 0] 25 ?_; intro gb102 hg w5 hbox hb; have BK102 := hbox; have GW102 := gs HB hg; have GE102 := gs HB hg; replace HB := bs HB hb; have NB101_102 := nl BK101 hg; have NB102_101 := nr BK101 hg; replace BK101 := bb BK101 hb; clear hb hbox hg))
   replace BK101 := Aside0.mk (blk_drew BK101.out)
   replace BK102 := Aside0.mk (blk_drew BK102.out)
   replace HB := Aside0.mk (below_drew1 HB.out)
   refine start_ (n := 10) (S := fun w' => w'.cell? ⟨gb101, 0, none⟩ = some (.slice A0_0 l0_0.length c0_0) ∧ w'.cell? ⟨gb101, 1, none⟩ = some (.slice A0_1 l0_1.length c0_1)) (ds := []) #[false, false, false, false, false, false, false, false, false, false] (by kernel_rfl) rfl rfl ⟨(blk_cell BK101.out 0).trans rfl, (blk_cell BK101.out 1).trans rfl⟩ (fun hHeld => ?_); refine with_tabW walkmillref04_Copy.tab1 walkmillref04_Copy.bits1 (fun HT_ HW_ => ?_)
   generalize w5.drew = w6 at BK101 BK102 HB hHeld ⊢
   refine pu 1 4 ?_
   refine pu 5 8 ?_
   refine tk 2 5 hHeld ?_
   refine tk 6 9 hHeld ?_
   refine join_ (σ := Value × Value × Value) 3 #[true, true, true, true, true, true, true, false, false, false] (fun s_ => [(3, s_.1), (6, s_.2.1), (7, s_.2.2)]) (fun s_ w' => (w'.cell? ⟨gb101, 0, none⟩ = some (.slice A0_0 l0_0.length c0_0) ∧ w'.cell? ⟨gb101, 1, none⟩ = some (.slice A0_1 l0_1.length c0_1)) ∧ (Kd.R k67 67 w' w.heap.size (fun _ => True) s_.2.1 y106) ∧ (Kd.R (Kd.int .i64) 3 w' w.heap.size (fun _ => True) s_.2.2 y109) ∧ (w'.heap[gb101]? = some (.cells #[.slice A0_0 l0_0.length c0_0, .slice A0_1 l0_1.length c0_1] 25 (0, 0))) ∧ (w'.heap[gb102]? = some (.cells #[.slice none 0 0, .slice none 0 0] 25 (0, 0))) ∧ (Below w.heap.size w w')) ?_ ?_
   rotate_left
   ·intro hCont
    refine two_ (i := 0) (j := 4) (Ni := some 3) (Nj := some 7) #[true, true, true, false, false, true, true, false, false, false] #[false, true, true, false, true, true, true, false, false, false] rfl rfl rfl rfl (two_of HT_.out (by kernel_rfl)) (by decide) (by decide) (fun K hK => ?_) (fun K hK => ?_)
    ·skip
     refine Kd.R_lit_step k67 _ 67 ?hg (N := 3) ?hd (xs := ([] : List (S67))) (inner := []) (ok := fun _ => True) (okp := fun _ => True) ?hr ?hp (fun _ hk => hk) trivial (Below.refl _ _) (Nat.le_refl _) (by simp) ?_; (case hd => rfl); (case hg => rfl); (case hr => first | (go_simp; done) | (go_simp; rfl)); (case hp => exact (Reps.none _ _))
     intro v104 w7 ho8 hb hg_ hnew_
     clear hg_ hnew_
     (first | rw [← Ny103.out] at ho8 | (simp only [Int.reduceToNat] at ho8; rw [← Ny103.out] at ho8))
     have HO105 := rl ho8 HB
     replace BK101 := bb BK101 hb
     replace BK102 := bb BK102 hb
     replace HB := bs HB hb
     clear hb ho8
     refine hK.out _ _ ⟨(blk_cell BK101.out 0).trans rfl, (blk_cell BK101.out 1).trans rfl⟩ (fun hHeld => ?_)
     clear hK K
     refine norm_ (a' := ?_) ?_ ?_
     rotate_left
     ·show Act.put _ (some 3) _ = _
      simp only [Act.put, List.setIfInBounds_toArray, List.set_cons_zero, List.set_cons_succ, i64_w, i32_w]
      rfl
     refine two_ (i := 3) (j := 4) (Ni := some 6) (Nj := some 7) #[true, true, true, true, false, true, true, false, false, false] #[true, true, true, false, true, true, true, false, false, false] rfl rfl rfl rfl (two_of HT_.out (by kernel_rfl)) (by decide) (by decide) (fun K hK => ?_) (fun K hK => ?_)
     ·skip
      refine Kd.R_append_rows_step k67 (w0 := w) w.heap.size (by rfl) (.tmp 3) (.tmp 5) 22 67 (.agg #[(.int .i64 0), (.int .i64 0), (.int .i64 0), (.int .i64 0)]) 32 rfl Tryz.underlying22 info67 rfl (by decide) (by omega) v104 y103 l0_0 _ _ _ (fun _ => True) (fun _ => False) rfl rfl ?aO ?aR (fun _ _ h => h) (fun _ h => h.elim) ?aF ?aB ?aS ?aL ?_
      (case aR => exact pC (Kd.C_below HR0_0.out HB.out))
      (case aB => exact (pE HB))
      (case aF => exact (fun _ _ => trivial))
      (case aO => exact (pR HO105.out))
      (case aS => exact (below_size (pE HB)))
      (case aL => have := LMc2.out; omega)
      intro v107 w9 ho hb hg hat
      rw [← Ny106.out] at ho
      replace BK101 := Aside0.mk (blk_grown (g := gb101) (o := .cells #[.slice A0_0 l0_0.length c0_0, .slice A0_1 l0_1.length c0_1] 25 (0, 0)) (pB BK101.out) hg (Kd.R_ne HO105.out BK101.out (by decide)))
      replace BK102 := Aside0.mk (blk_grown (g := gb102) (o := .cells #[.slice none 0 0, .slice none 0 0] 25 (0, 0)) (pB BK102.out) hg (Kd.R_ne HO105.out BK102.out (by decide)))
      replace HB := Aside0.mk (hb)
      have HO108 := Aside0.mk (ho)
      clear HO105 ho hb hg hat
      refine hK.out _ _ ⟨(blk_cell BK101.out 0).trans rfl, (blk_cell BK101.out 1).trans rfl⟩ (fun hHeld => ?_)
      clear hK K
      refine norm_ (a' := ?_) ?_ ?_
      rotate_left
      ·show Act.put _ (some 6) _ = _
       simp only [Act.put, List.setIfInBounds_toArray, List.set_cons_zero, List.set_cons_succ, i64_w, i32_w]
       rfl
      refine on 4 (fun K hK => ?_)
      refine Kd.R_lit_step (Kd.int .i64) _ 3 ?hg (N := 7) ?hd (xs := ([] : List Int)) (inner := []) (ok := fun _ => True) (okp := fun _ => True) ?hr ?hp (fun _ hk => hk) trivial (Below.refl _ _) (Nat.le_refl _) (by simp) ?_; (case hd => rfl); (case hg => rfl); (case hr => first | (go_simp; done) | (go_simp; rfl)); (case hp => exact (Reps.none _ _))
      intro v110 w10 ho11 hb hg_ hnew_
      clear hg_ hnew_
      (first | rw [← Ny109.out] at ho11 | (simp only [Int.reduceToNat] at ho11; rw [← Ny109.out] at ho11))
      replace HO108 := rb HO108 hb
      have HO111 := rl ho11 HB
      replace BK101 := bb BK101 hb
      replace BK102 := bb BK102 hb
      replace HB := bs HB hb
      clear hb ho11
      refine hK.out _ _ ⟨(blk_cell BK101.out 0).trans rfl, (blk_cell BK101.out 1).trans rfl⟩ (fun hHeld => ?_)
      clear hK K
      refine norm_ (a' := ?_) ?_ ?_
      rotate_left
      ·show Act.put _ (some 7) _ = _
       simp only [Act.put, List.setIfInBounds_toArray, List.set_cons_zero, List.set_cons_succ, i64_w, i32_w]
       rfl
      exact norm_ (by simp only [putAll, Act.put, List.setIfInBounds_toArray, List.set_cons_zero, List.set_cons_succ]) (hCont (v104, v107, v110) _ ⟨hHeld, (pR HO108.out), (pR HO111.out), (pB BK101.out), (pB BK102.out), (pE HB)⟩)
     ·skip
      refine Kd.R_lit_step (Kd.int .i64) _ 3 ?hg (N := 7) ?hd (xs := ([] : List Int)) (inner := []) (ok := fun _ => True) (okp := fun _ => True) ?hr ?hp (fun _ hk => hk) trivial (Below.refl _ _) (Nat.le_refl _) (by simp) ?_; (case hd => rfl); (case hg => rfl); (case hr => first | (go_simp; done) | (go_simp; rfl)); (case hp => exact (Reps.none _ _))
      intro v110 w9 ho10 hb hg_ hnew_
      clear hg_ hnew_
      (first | rw [← Ny109.out] at ho10 | (simp only [Int.reduceToNat] at ho10; rw [← Ny109.out] at ho10))
      replace HO105 := rb HO105 hb
      have HO111 := rl ho10 HB
      replace BK101 := bb BK101 hb
      replace BK102 := bb BK102 hb
      replace HB := bs HB hb
      clear hb ho10
      refine hK.out _ _ ⟨(blk_cell BK101.out 0).trans rfl, (blk_cell BK101.out 1).trans rfl⟩ (fun hHeld => ?_)
      clear hK K
      refine norm_ (a' := ?_) ?_ ?_
      rotate_left
      ·show Act.put _ (some 7) _ = _
       simp only [Act.put, List.setIfInBounds_toArray, List.set_cons_zero, List.set_cons_succ, i64_w, i32_w]
       rfl
      refine on 3 (fun K hK => ?_)
      refine Kd.R_append_rows_step k67 (w0 := w) w.heap.size (by rfl) (.tmp 3) (.tmp 5) 22 67 (.agg #[(.int .i64 0), (.int .i64 0), (.int .i64 0), (.int .i64 0)]) 32 rfl Tryz.underlying22 info67 rfl (by decide) (by omega) v104 y103 l0_0 _ _ _ (fun _ => True) (fun _ => False) rfl rfl ?aO ?aR (fun _ _ h => h) (fun _ h => h.elim) ?aF ?aB ?aS ?aL ?_
      (case aR => exact pC (Kd.C_below HR0_0.out HB.out))
      (case aB => exact (pE HB))
      (case aF => exact (fun _ _ => trivial))
      (case aO => exact (pR HO105.out))
      (case aS => exact (below_size (pE HB)))
      (case aL => have := LMc2.out; omega)
      intro v107 w11 ho hb hg hat
      rw [← Ny106.out] at ho
      replace BK101 := Aside0.mk (blk_grown (g := gb101) (o := .cells #[.slice A0_0 l0_0.length c0_0, .slice A0_1 l0_1.length c0_1] 25 (0, 0)) (pB BK101.out) hg (Kd.R_ne HO105.out BK101.out (by decide)))
      replace BK102 := Aside0.mk (blk_grown (g := gb102) (o := .cells #[.slice none 0 0, .slice none 0 0] 25 (0, 0)) (pB BK102.out) hg (Kd.R_ne HO105.out BK102.out (by decide)))
      replace HO111 := Aside0.mk (Kd.R_over' (pR HO111.out) (Kd.R_typed (pR HO105.out)) (by decide) hg)
      replace HB := Aside0.mk (hb)
      have HO108 := Aside0.mk (ho)
      clear HO105 ho hb hg hat
      refine hK.out _ _ ⟨(blk_cell BK101.out 0).trans rfl, (blk_cell BK101.out 1).trans rfl⟩ (fun hHeld => ?_)
      clear hK K
      refine norm_ (a' := ?_) ?_ ?_
      rotate_left
      ·show Act.put _ (some 6) _ = _
       simp only [Act.put, List.setIfInBounds_toArray, List.set_cons_zero, List.set_cons_succ, i64_w, i32_w]
       rfl
      exact norm_ (by simp only [putAll, Act.put, List.setIfInBounds_toArray, List.set_cons_zero, List.set_cons_succ]) (hCont (v104, v107, v110) _ ⟨hHeld, (pR HO108.out), (pR HO111.out), (pB BK101.out), (pB BK102.out), (pE HB)⟩)
    ·skip
     refine Kd.R_lit_step (Kd.int .i64) _ 3 ?hg (N := 7) ?hd (xs := ([] : List Int)) (inner := []) (ok := fun _ => True) (okp := fun _ => True) ?hr ?hp (fun _ hk => hk) trivial (Below.refl _ _) (Nat.le_refl _) (by simp) ?_; (case hd => rfl); (case hg => rfl); (case hr => first | (go_simp; done) | (go_simp; rfl)); (case hp => exact (Reps.none _ _))
     intro v110 w7 ho8 hb hg_ hnew_
     clear hg_ hnew_
     (first | rw [← Ny109.out] at ho8 | (simp only [Int.reduceToNat] at ho8; rw [← Ny109.out] at ho8))
     have HO111 := rl ho8 HB
     replace BK101 := bb BK101 hb
     replace BK102 := bb BK102 hb
     replace HB := bs HB hb
     clear hb ho8
     refine hK.out _ _ ⟨(blk_cell BK101.out 0).trans rfl, (blk_cell BK101.out 1).trans rfl⟩ (fun hHeld => ?_)
     clear hK K
     refine norm_ (a' := ?_) ?_ ?_
     rotate_left
     ·show Act.put _ (some 7) _ = _
      simp only [Act.put, List.setIfInBounds_toArray, List.set_cons_zero, List.set_cons_succ, i64_w, i32_w]
      rfl
     refine on 0 (fun K hK => ?_)
     refine Kd.R_lit_step k67 _ 67 ?hg (N := 3) ?hd (xs := ([] : List (S67))) (inner := []) (ok := fun _ => True) (okp := fun _ => True) ?hr ?hp (fun _ hk => hk) trivial (Below.refl _ _) (Nat.le_refl _) (by simp) ?_; (case hd => rfl); (case hg => rfl); (case hr => first | (go_simp; done) | (go_simp; rfl)); (case hp => exact (Reps.none _ _))
     intro v104 w9 ho10 hb hg_ hnew_
     clear hg_ hnew_
     (first | rw [← Ny103.out] at ho10 | (simp only [Int.reduceToNat] at ho10; rw [← Ny103.out] at ho10))
     replace HO111 := rb HO111 hb
     have HO105 := rl ho10 HB
     replace BK101 := bb BK101 hb
     replace BK102 := bb BK102 hb
     replace HB := bs HB hb
     clear hb ho10
     refine hK.out _ _ ⟨(blk_cell BK101.out 0).trans rfl, (blk_cell BK101.out 1).trans rfl⟩ (fun hHeld => ?_)
     clear hK K
     refine norm_ (a' := ?_) ?_ ?_
     rotate_left
     ·show Act.put _ (some 3) _ = _
      simp only [Act.put, List.setIfInBounds_toArray, List.set_cons_zero, List.set_cons_succ, i64_w, i32_w]
      rfl
     refine on 3 (fun K hK => ?_)
     refine Kd.R_append_rows_step k67 (w0 := w) w.heap.size (by rfl) (.tmp 3) (.tmp 5) 22 67 (.agg #[(.int .i64 0), (.int .i64 0), (.int .i64 0), (.int .i64 0)]) 32 rfl Tryz.underlying22 info67 rfl (by decide) (by omega) v104 y103 l0_0 _ _ _ (fun _ => True) (fun _ => False) rfl rfl ?aO ?aR (fun _ _ h => h) (fun _ h => h.elim) ?aF ?aB ?aS ?aL ?_
     (case aR => exact pC (Kd.C_below HR0_0.out HB.out))
     (case aB => exact (pE HB))
     (case aF => exact (fun _ _ => trivial))
     (case aO => exact (pR HO105.out))
     (case aS => exact (below_size (pE HB)))
     (case aL => have := LMc2.out; omega)
     intro v107 w11 ho hb hg hat
     rw [← Ny106.out] at ho
     replace BK101 := Aside0.mk (blk_grown (g := gb101) (o := .cells #[.slice A0_0 l0_0.length c0_0, .slice A0_1 l0_1.length c0_1] 25 (0, 0)) (pB BK101.out) hg (Kd.R_ne HO105.out BK101.out (by decide)))
     replace BK102 := Aside0.mk (blk_grown (g := gb102) (o := .cells #[.slice none 0 0, .slice none 0 0] 25 (0, 0)) (pB BK102.out) hg (Kd.R_ne HO105.out BK102.out (by decide)))
     replace HO111 := Aside0.mk (Kd.R_over' (pR HO111.out) (Kd.R_typed (pR HO105.out)) (by decide) hg)
     replace HB := Aside0.mk (hb)
     have HO108 := Aside0.mk (ho)
     clear HO105 ho hb hg hat
     refine hK.out _ _ ⟨(blk_cell BK101.out 0).trans rfl, (blk_cell BK101.out 1).trans rfl⟩ (fun hHeld => ?_)
     clear hK K
     refine norm_ (a' := ?_) ?_ ?_
     rotate_left
     ·show Act.put _ (some 6) _ = _
      simp only [Act.put, List.setIfInBounds_toArray, List.set_cons_zero, List.set_cons_succ, i64_w, i32_w]
      rfl
     exact norm_ (by simp only [putAll, Act.put, List.setIfInBounds_toArray, List.set_cons_zero, List.set_cons_succ]) (hCont (v104, v107, v110) _ ⟨hHeld, (pR HO108.out), (pR HO111.out), (pB BK101.out), (pB BK102.out), (pE HB)⟩)
   rintro ⟨v104, v107, v110⟩ w12 ⟨hS_, h0_, h1_, h2_, h3_, h4_⟩
   have n0_ : Aside0 (Kd.R k67 67 w12 w.heap.size (fun _ => True) v107 y106) := ⟨h0_⟩
   have n1_ : Aside0 (Kd.R (Kd.int .i64) 3 w12 w.heap.size (fun _ => True) v110 y109) := ⟨h1_⟩
   have n2_ : Aside0 (w12.heap[gb101]? = some (.cells #[.slice A0_0 l0_0.length c0_0, .slice A0_1 l0_1.length c0_1] 25 (0, 0))) := ⟨h2_⟩
   have n3_ : Aside0 (w12.heap[gb102]? = some (.cells #[.slice none 0 0, .slice none 0 0] 25 (0, 0))) := ⟨h3_⟩
   have n4_ : Aside0 (Below w.heap.size w w12) := ⟨h4_⟩
   clear BK101 BK102 HB h0_ h1_ h2_ h3_ h4_
   have HO108 := n0_
   have HO111 := n1_
   have BK101 := n2_
   have BK102 := n3_
   have HB := n4_
   clear n0_ n1_ n2_ n3_ n4_
   have hHeld : w12.cell? ⟨gb101, 0, none⟩ = some (.slice A0_0 l0_0.length c0_0) ∧ w12.cell? ⟨gb101, 1, none⟩ = some (.slice A0_1 l0_1.length c0_1) := hS_
   refine norm_ (a' := ?_) ?_ ?_
   rotate_left
   ·simp only [putAll, Act.put, List.setIfInBounds_toArray, List.set_cons_zero, List.set_cons_succ]
    rfl
   refine on 7 (fun K hK => ?_)
   refine Kd.R_append_rows_step (Kd.int .i64) (w0 := w) w.heap.size (by rfl) (.tmp 7) (.tmp 9) 23 3 (.int .i64 0) 8 rfl Tryz.underlying23 info3 rfl (by decide) (by omega) v110 y109 l0_1 _ _ _ (fun _ => True) (fun _ => False) rfl rfl ?aO ?aR (fun _ _ h => h) (fun _ h => h.elim) ?aF ?aB ?aS ?aL ?_
   (case aR => exact pC (Kd.C_below HR0_1.out HB.out))
   (case aB => exact (pE HB))
   (case aF => exact (fun _ _ => trivial))
   (case aO => exact (pR HO111.out))
   (case aS => exact (below_size (pE HB)))
   (case aL => have := LMc3.out; omega)
   intro v113 w13 ho hb hg hat
   rw [← Ny112.out] at ho
   replace BK101 := Aside0.mk (blk_grown (g := gb101) (o := .cells #[.slice A0_0 l0_0.length c0_0, .slice A0_1 l0_1.length c0_1] 25 (0, 0)) (pB BK101.out) hg (Kd.R_ne HO111.out BK101.out (by decide)))
   replace BK102 := Aside0.mk (blk_grown (g := gb102) (o := .cells #[.slice none 0 0, .slice none 0 0] 25 (0, 0)) (pB BK102.out) hg (Kd.R_ne HO111.out BK102.out (by decide)))
   replace HO108 := Aside0.mk (Kd.R_over' (pR HO108.out) (Kd.R_typed (pR HO111.out)) (by decide) hg)
   replace HB := Aside0.mk (hb)
   have HO114 := Aside0.mk (ho)
   clear HO111 ho hb hg hat
   obtain ⟨Ao14, co14, eo14⟩ := Kd.R_slice HO114.out
   (first | subst eo14 | (injection eo14 with f1_ f2_ f3_; have f4_ := f1_.symm; have f5_ := f3_.symm; clear f1_ f2_ f3_; subst f4_; subst f5_))
   obtain ⟨Ao15, co15, eo15⟩ := Kd.R_slice HO108.out
   (first | subst eo15 | (injection eo15 with f1_ f2_ f3_; have f4_ := f1_.symm; have f5_ := f3_.symm; clear f1_ f2_ f3_; subst f4_; subst f5_))
   refine hK.out _ _ ⟨(blk_cell BK101.out 0).trans rfl, (blk_cell BK101.out 1).trans rfl⟩ (fun hHeld => ?_)
   clear hK K
   refine norm_ (a' := ?_) ?_ ?_
   rotate_left
   ·show Act.put _ (some 10) _ = _
    simp only [Act.put, List.setIfInBounds_toArray, List.set_cons_zero, List.set_cons_succ, i64_w, i32_w]
    rfl
   refine pu 8 11 ?_
   refine on 9 (fun K hK => ?_)
   have hs16 : w13.cell? ⟨gb102, 0, none⟩ = some (.slice none 0 0) := (blk_cell BK102.out 0).trans rfl
   have hfs16 := blk_frozen BK102.out 0
   have hns16_0 := NB101_102.out
   have hms16_0 := NB102_101.out
   have hs17 : w13.cell? ⟨gb102, 1, none⟩ = some (.slice none 0 0) := (blk_cell BK102.out 1).trans rfl
   have hfs17 := blk_frozen BK102.out 1
   have hns17_0 := NB101_102.out
   have hms17_0 := NB102_101.out
   refine skip_ (w1 := ?_) (by rfl) rfl ?_ ?_
   rotate_left
   ·go_simp
    rfl
   refine hK.out _ _ ⟨((cell_far (p := ⟨gb102, _, none⟩) NB101_102.out _).trans (((cell_far (p := ⟨gb102, _, none⟩) NB101_102.out _).trans (hHeld.1)))), ((cell_far (p := ⟨gb102, _, none⟩) NB101_102.out _).trans (((cell_far (p := ⟨gb102, _, none⟩) NB101_102.out _).trans (hHeld.2))))⟩ (fun hHeld => ?_)
   clear hK K
   refine done_ (done_of HT_.out (by kernel_rfl)) ?_
   try go_wp2
   refine bodyPost_ret (results_cell_row rfl _ _ gb102 25 #[.slice Ao15 y106.length co15, .slice Ao14 y112.length co14] (0, 0) _ rfl (by refine pB ?_; refine blk_put (cs := #[.slice Ao15 y106.length co15, .slice none 0 0]) ?_ 1 _ rfl; refine pB ?_; refine blk_put (cs := #[.slice none 0 0, .slice none 0 0]) ?_ 0 _ rfl; exact pB BK102.out) Tryz.underlying25 rfl (by kernel_rfl)) rfl ?_
   exact ⟨_, _, eT, by (with_reducible repeat (first | apply Kd.R_alloc | apply Kd.R_drewN | apply Kd.R_drew)); exact Kd.R_mono (Kd.R_far (p := ⟨gb102, 1, none⟩) (Kd.R_far (p := ⟨gb102, 0, none⟩) (Kd.R_types HO108.out BK102.out (by decide)) (fun _ hk => hk.2) (.slice Ao15 y106.length co15)) (fun _ hk => hk.2) (.slice Ao14 y112.length co14)) (fun _ hk => trivial), by (with_reducible repeat (first | apply Kd.R_alloc | apply Kd.R_drewN | apply Kd.R_drew)); exact Kd.R_mono (Kd.R_far (p := ⟨gb102, 1, none⟩) (Kd.R_far (p := ⟨gb102, 0, none⟩) (Kd.R_types HO114.out BK102.out (by decide)) (fun _ hk => hk.2) (.slice Ao15 y106.length co15)) (fun _ hk => hk.2) (.slice Ao14 y112.length co14)) (fun _ hk => trivial), pE HB⟩
  ·rw [if_neg c3] at H
   exact absurd H (by simp)
 ·rw [if_neg c2] at H
  exact absurd H (by simp)
def walkmillref04_Ints.l0 : Nat → List Int → List Int → Int → Option (Bool)
 | 0, _, _, _ => none
 | k + 1, x0, x1, x5 => if x5 < (x0.length : Int) then (if 0 ≤ x5 then (if x5 < (x1.length : Int) then (if (rd x0 x5) = (rd x1 x5) then (walkmillref04_Ints.l0 k x0 x1 (wrap64 (x5 + 1))) else (some false)) else (none)) else (none)) else (some true)
def walkmillref04_Ints.f (k : Nat) (l0 : List Int) (l1 : List Int) : Option (Bool) := if (l0.length : Int) = (l1.length : Int) then (walkmillref04_Ints.l0 k l0 l1 0) else (some false)
theorem walkmillref04_Ints.mono_l : ∀ k, (∀ y0 y1 y2, LeO (walkmillref04_Ints.l0 k y0 y1 y2) (walkmillref04_Ints.l0 (k + 1) y0 y1 y2))
 | 0 => fun _ _ _ r h => by simp [walkmillref04_Ints.l0] at h
 | k + 1 => by
  have ih0 := walkmillref04_Ints.mono_l k
  ·intro y0 y1 y2
   unfold walkmillref04_Ints.l0
   repeat' first
   | (with_reducible exact ih0 _ _ _)
   | (with_reducible exact LeO.refl _)
   | (with_reducible exact LeO.none _)
   | (with_reducible refine LeO.ite ?_ ?_)
   | (with_reducible refine LeO.bind ?_ (fun _ => ?_))
   | exact ih0 _ _ _
   | exact LeO.none _
   | refine LeO.ite ?_ ?_
   | refine LeO.bind ?_ (fun _ => ?_)
theorem walkmillref04_Ints.mono : ∀ a0 a1 k, LeO (walkmillref04_Ints.f k a0 a1) (walkmillref04_Ints.f (k + 1) a0 a1) := by
 intro a0 a1 k
 have ih0 := walkmillref04_Ints.mono_l k
 unfold walkmillref04_Ints.f
 repeat' first
   | (with_reducible exact ih0 _ _ _)
   | (with_reducible exact LeO.refl _)
   | (with_reducible exact LeO.none _)
   | (with_reducible refine LeO.ite ?_ ?_)
   | (with_reducible refine LeO.bind ?_ (fun _ => ?_))
   | exact ih0 _ _ _
   | exact LeO.none _
   | refine LeO.ite ?_ ?_
   | refine LeO.bind ?_ (fun _ => ?_)
set_option maxHeartbeats 8000000 in
set_option maxRecDepth 100000 in
theorem walkmillref04_Ints.calls (k : Nat) (A0 : Option Addr) (c0 : Nat) (l0 : List Int) (A1 : Option Addr) (c1 : Nat) (l1 : List Int) (r : Bool) (w : World) (hr0 : Kd.C (Kd.int .i64) w A0 l0.length l0) (hc0 : l0.length ≤ c0) (hr1 : Kd.C (Kd.int .i64) w A1 l1.length l1) (hc1 : l1.length ≤ c1) (h : walkmillref04_Ints.f k l0 l1 = some r) :
  Calls Tryz.prog 23 #[.slice A0 l0.length c0, .slice A1 l1.length c1] w fun e w' => e = .returned (.bool r) ∧ Drawn0 w w' := by
 have HR0 := Aside0.mk hr0
 have HC0 := Aside0.mk hc0
 clear hr0 hc0
 have HR1 := Aside0.mk hr1
 have HC1 := Aside0.mk hc1
 clear hr1 hc1
 have H : (if (l0.length : Int) = (l1.length : Int) then (walkmillref04_Ints.l0 k l0 l1 0) else (some false)) = some r := h
 clear h
 by_cases c3 : (l0.length : Int) = (l1.length : Int)
 ·rw [if_pos c3] at H
  have c3b0 : ((l0.length : Int) == (l1.length : Int)) = true := beq_iff_eq.mpr c3
  have c3b1 : ((l0.length : Int) != (l1.length : Int)) = false := bne_eq_false_iff_eq.mpr c3
  have c3b2 : (l0.length == l1.length) = true := by first | simpa using c3 | (simp at c3 ⊢; omega)
  clear c3
  have H' := Aside0.mk H
  clear H
  go_enter Tryz.func23, Tryz.ntmps23
  go_wp2
  repeat (go_quiet (fail); try go_wp2)
  go_loopg [5] k (fun kq v5 w' => ∃ (x5_1 : Int), v5 = .int .i64 x5_1 ∧ Aside0 (walkmillref04_Ints.l0 kq l0 l1 x5_1 = some r) ∧ Aside0 (kq ≤ k) ∧ Drawn0 w w')
  case atStart => exact ⟨(0), (by first | rfl | (simp; done) | (simp [*]; done)), H', ⟨Nat.le_refl _⟩, by repeat (first | exact Drawn0.refl _ | apply Drawn0.step)⟩
  case round =>
   clear H'
   try clear c1
   try clear c2
   try clear p2
   try clear c3
   try clear c3b0
   try clear c3b1
   try clear c3b2
   obtain ⟨x5_1, rfl, HA, HK1, ⟨m1, rfl⟩⟩ := hrel
   cases gk with
   | zero => exact absurd HA.out (by simp [walkmillref04_Ints.l0])
   | succ k1 =>
    have H := HA.out
    clear HA
    simp only [walkmillref04_Ints.l0] at H
    by_cases c4 : x5_1 < (l0.length : Int)
    ·rw [if_pos c4] at H
     have c4b0 : decide (x5_1 < (l0.length : Int)) = true := decide_eq_true c4
     clear c4
     by_cases c5 : 0 ≤ x5_1
     ·rw [if_pos c5] at H
      have c5b0 : decide (0 ≤ x5_1) = true := decide_eq_true c5
      clear c5
      by_cases c6 : x5_1 < (l1.length : Int)
      ·rw [if_pos c6] at H
       have c6b0 : decide (x5_1 < (l1.length : Int)) = true := decide_eq_true c6
       clear c6
       by_cases c7 : (rd l0 x5_1) = (rd l1 x5_1)
       ·rw [if_pos c7] at H
        have c7b0 : ((rd l0 x5_1) == (rd l1 x5_1)) = true := beq_iff_eq.mpr c7
        have c7b1 : ((rd l0 x5_1) != (rd l1 x5_1)) = false := bne_eq_false_iff_eq.mpr c7
        clear c7
        have H' := Aside0.mk H
        clear H
        have p101 : 0 ≤ (x5_1 : Int) := dT
        have q101 : x5_1 < (l0.length : Int) := dT
        obtain ⟨ad101, e101, hx101_0⟩ := Kd.at_int HR0.out x5_1 p101 q101
        cases e101
        replace p101 := eq_true p101
        replace q101 := eq_true q101
        have p102 : 0 ≤ (x5_1 : Int) := dT
        have q102 : x5_1 < (l1.length : Int) := dT
        obtain ⟨ad102, e102, hx102_0⟩ := Kd.at_int HR1.out x5_1 p102 q102
        cases e102
        replace p102 := eq_true p102
        replace q102 := eq_true q102
        go_wp2
        repeat (go_quiet (fail); try go_wp2)
        go_roundg k1
        case measure => have := HK1.out; omega
        case rel => exact ⟨(wrap64 (x5_1 + 1)), (by first | rfl | (simp; done) | (simp [*]; done)), H', ⟨by have := HK1.out; omega⟩, by repeat (first | exact Drawn0.refl _ | apply Drawn0.step)⟩
       ·rw [if_neg c7] at H
        have c7b0 : ((rd l0 x5_1) == (rd l1 x5_1)) = false := beq_eq_false_iff_ne.mpr c7
        have c7b1 : ((rd l0 x5_1) != (rd l1 x5_1)) = true := bne_iff_ne.mpr c7
        obtain rfl := Option.some.inj H
        have p101 : 0 ≤ (x5_1 : Int) := dT
        have q101 : x5_1 < (l0.length : Int) := dT
        obtain ⟨ad101, e101, hx101_0⟩ := Kd.at_int HR0.out x5_1 p101 q101
        cases e101
        replace p101 := eq_true p101
        replace q101 := eq_true q101
        have p102 : 0 ≤ (x5_1 : Int) := dT
        have q102 : x5_1 < (l1.length : Int) := dT
        obtain ⟨ad102, e102, hx102_0⟩ := Kd.at_int HR1.out x5_1 p102 q102
        cases e102
        replace p102 := eq_true p102
        replace q102 := eq_true q102
        go_wp2
        repeat (go_quiet (fail); try go_wp2)
        go_ret
        exact ⟨by first | rfl | (simp; done) | (simp [*]; done), by repeat (first | exact Drawn0.refl _ | apply Drawn0.step)⟩
      ·rw [if_neg c6] at H
       exact absurd H (by simp)
     ·rw [if_neg c5] at H
      exact absurd H (by simp)
    ·rw [if_neg c4] at H
     have c4b0 : decide (x5_1 < (l0.length : Int)) = false := decide_eq_false c4
     clear c4
     obtain rfl := Option.some.inj H
     go_wp2
     repeat (go_quiet (fail); try go_wp2)
     go_ret
     exact ⟨by first | rfl | (simp; done) | (simp [*]; done), by repeat (first | exact Drawn0.refl _ | apply Drawn0.step)⟩
 ·rw [if_neg c3] at H
  have c3b0 : ((l0.length : Int) == (l1.length : Int)) = false := beq_eq_false_iff_ne.mpr c3
  have c3b1 : ((l0.length : Int) != (l1.length : Int)) = true := bne_iff_ne.mpr c3
  have c3b2 : (l0.length == l1.length) = false := by first | simpa using c3 | (simp at c3 ⊢; omega)
  obtain rfl := Option.some.inj H
  go_enter Tryz.func23, Tryz.ntmps23
  go_wp2
  repeat (go_quiet (fail); try go_wp2)
  go_ret
  exact ⟨by first | rfl | (simp; done) | (simp [*]; done), by repeat (first | exact Drawn0.refl _ | apply Drawn0.step)⟩
theorem eqA42 (d : Nat) (w : World) (x0 y0 : Int) (x1 y1 : Int) :
    (Op.equalIn (d + 2) 42 (.agg #[.int .i64 x0, .int .i64 x1]) (.agg #[.int .i64 y0, .int .i64 y1])).run Tryz.prog w = .ok (x0 == y0 && (x1 == y1)) w := by
  refine eqA_of Tryz.underlying42 (by kernel_rfl) ?_
  refine eqf_cons (by rfl) (by go_simp; rfl) (by go_simp; rfl) (by go_simp) ?_
  exact eqf_last (by rfl) (by go_simp; rfl) (by go_simp; rfl) (by go_simp)
theorem eqA67 (d : Nat) (w : World) (x0 y0 : Int) (x1 y1 : Int) (x2 y2 : Int) (x3 y3 : Int) :
    (Op.equalIn (d + 3) 67 (.agg #[.int .i64 x0, .int .i64 x1, .int .i64 x2, .int .i64 x3]) (.agg #[.int .i64 y0, .int .i64 y1, .int .i64 y2, .int .i64 y3])).run Tryz.prog w = .ok (x0 == y0 && (x1 == y1 && ((x2 == y2 && (x3 == y3))))) w := by
  refine eqA_of Tryz.underlying67 (by kernel_rfl) ?_
  refine eqf_cons (by rfl) (by go_simp; rfl) (by go_simp; rfl) (by go_simp) ?_
  refine eqf_cons (by rfl) (by go_simp; rfl) (by go_simp; rfl) (by go_simp) ?_
  exact eqf_last (by rfl) (by go_simp) (by go_simp) (eqA42 (d + 0) w _ _ _ _)
end Go.Proofs.YtlmglnobdcgbeaaGreat.P
namespace Go.Proofs.YtlmglnobdcgbeaaGreat.P
open Go.RowKit Go.Proofs.YtlmglnobdcgbeaaGreatW.PrintWords Go.Proofs.YtlmglnobdcgbeaaGreatW.PrintLast Go.Proofs.YtlmglnobdcgbeaaGreatW.PrintMore
attribute [local go_sem] max2_int min2_int max_two min_two max_three min_three max_four min_four
attribute [local go_sem high] eqA67
mutual
def walkmillref04_Same.j0 : Nat → Bool → List (S67) → List Int → List (S67) → List Int → Option (Bool)
 | 0, _, _, _, _, _ => none
 | k + 1, x20, x102000, x102001, x103000, x103001 => if x20 = true then (some false) else (walkmillref04_Same.l0 k 0 x102000 x102001 x103000 x103001)
def walkmillref04_Same.l0 : Nat → Int → List (S67) → List Int → List (S67) → List Int → Option (Bool)
 | 0, _, _, _, _, _ => none
 | k + 1, x5, x102000, x102001, x103000, x103001 => if x5 < (x102000.length : Int) then (if 0 ≤ x5 then (if x5 < (x103000.length : Int) then (if (!(((rd_T67 x102000 x5).f0) == ((rd_T67 x103000 x5).f0)) || (!(((rd_T67 x102000 x5).f1) == ((rd_T67 x103000 x5).f1)) || ((!(((rd_T67 x102000 x5).f2.f0) == ((rd_T67 x103000 x5).f2.f0)) || (!(((rd_T67 x102000 x5).f2.f1) == ((rd_T67 x103000 x5).f2.f1))))))) = true then (some false) else (walkmillref04_Same.l0 k (wrap64 (x5 + 1)) x102000 x102001 x103000 x103001)) else (none)) else (none)) else (some true)
end
def walkmillref04_Same.f (k : Nat) (l0_0 : List (S67)) (l0_1 : List Int) (l1_0 : List (S67)) (l1_1 : List Int) : Option (Bool) := if (l0_0.length : Int) = (l1_0.length : Int) then ((walkmillref04_Ints.f k l0_1 l1_1).bind fun t103 => (walkmillref04_Same.j0 k (!t103) l0_0 l0_1 l1_0 l1_1)) else (walkmillref04_Same.j0 k true l0_0 l0_1 l1_0 l1_1)
theorem walkmillref04_Same.mono_l : ∀ k, (∀ y0 y1 y2 y3 y4, LeO (walkmillref04_Same.j0 k y0 y1 y2 y3 y4) (walkmillref04_Same.j0 (k + 1) y0 y1 y2 y3 y4)) ∧ (∀ y0 y1 y2 y3 y4, LeO (walkmillref04_Same.l0 k y0 y1 y2 y3 y4) (walkmillref04_Same.l0 (k + 1) y0 y1 y2 y3 y4))
 | 0 => ⟨fun _ _ _ _ _ r h => by simp [walkmillref04_Same.j0] at h, fun _ _ _ _ _ r h => by simp [walkmillref04_Same.l0] at h⟩
 | k + 1 => by
  obtain ⟨ih0, ih1⟩ := walkmillref04_Same.mono_l k
  refine ⟨?_, ?_⟩
  ·intro y0 y1 y2 y3 y4
   unfold walkmillref04_Same.j0
   repeat' first
   | (with_reducible exact ih0 _ _ _ _ _)
   | (with_reducible exact ih1 _ _ _ _ _)
   | (with_reducible exact walkmillref04_Ints.mono _ _ _)
   | (with_reducible exact LeO.refl _)
   | (with_reducible exact LeO.none _)
   | (with_reducible refine LeO.ite ?_ ?_)
   | (with_reducible refine LeO.bind ?_ (fun _ => ?_))
   | exact ih0 _ _ _ _ _
   | exact ih1 _ _ _ _ _
   | exact walkmillref04_Ints.mono _ _ _
   | exact LeO.none _
   | refine LeO.ite ?_ ?_
   | refine LeO.bind ?_ (fun _ => ?_)
  ·intro y0 y1 y2 y3 y4
   unfold walkmillref04_Same.l0
   repeat' first
   | (with_reducible exact ih0 _ _ _ _ _)
   | (with_reducible exact ih1 _ _ _ _ _)
   | (with_reducible exact walkmillref04_Ints.mono _ _ _)
   | (with_reducible exact LeO.refl _)
   | (with_reducible exact LeO.none _)
   | (with_reducible refine LeO.ite ?_ ?_)
   | (with_reducible refine LeO.bind ?_ (fun _ => ?_))
   | exact ih0 _ _ _ _ _
   | exact ih1 _ _ _ _ _
   | exact walkmillref04_Ints.mono _ _ _
   | exact LeO.none _
   | refine LeO.ite ?_ ?_
   | refine LeO.bind ?_ (fun _ => ?_)
theorem walkmillref04_Same.mono : ∀ a0 a1 a2 a3 k, LeO (walkmillref04_Same.f k a0 a1 a2 a3) (walkmillref04_Same.f (k + 1) a0 a1 a2 a3) := by
 intro a0 a1 a2 a3 k
 obtain ⟨ih0, ih1⟩ := walkmillref04_Same.mono_l k
 unfold walkmillref04_Same.f
 repeat' first
   | (with_reducible exact ih0 _ _ _ _ _)
   | (with_reducible exact ih1 _ _ _ _ _)
   | (with_reducible exact walkmillref04_Ints.mono _ _ _)
   | (with_reducible exact LeO.refl _)
   | (with_reducible exact LeO.none _)
   | (with_reducible refine LeO.ite ?_ ?_)
   | (with_reducible refine LeO.bind ?_ (fun _ => ?_))
   | exact ih0 _ _ _ _ _
   | exact ih1 _ _ _ _ _
   | exact walkmillref04_Ints.mono _ _ _
   | exact LeO.none _
   | refine LeO.ite ?_ ?_
   | refine LeO.bind ?_ (fun _ => ?_)
set_option maxHeartbeats 8000000 in
set_option maxRecDepth 100000 in
theorem walkmillref04_Same.calls (k : Nat) (A0_0 : Option Addr) (c0_0 : Nat) (l0_0 : List (S67)) (A0_1 : Option Addr) (c0_1 : Nat) (l0_1 : List Int) (A1_0 : Option Addr) (c1_0 : Nat) (l1_0 : List (S67)) (A1_1 : Option Addr) (c1_1 : Nat) (l1_1 : List Int) (r : Bool) (w : World) (hr0_0 : Kd.C k67 w A0_0 l0_0.length l0_0) (hc0_0 : l0_0.length ≤ c0_0) (hr0_1 : Kd.C (Kd.int .i64) w A0_1 l0_1.length l0_1) (hc0_1 : l0_1.length ≤ c0_1) (hr1_0 : Kd.C k67 w A1_0 l1_0.length l1_0) (hc1_0 : l1_0.length ≤ c1_0) (hr1_1 : Kd.C (Kd.int .i64) w A1_1 l1_1.length l1_1) (hc1_1 : l1_1.length ≤ c1_1) (h : walkmillref04_Same.f k l0_0 l0_1 l1_0 l1_1 = some r) :
  Calls Tryz.prog 22 #[.agg #[.slice A0_0 l0_0.length c0_0, .slice A0_1 l0_1.length c0_1], .agg #[.slice A1_0 l1_0.length c1_0, .slice A1_1 l1_1.length c1_1]] w fun e w' => e = .returned (.bool r) ∧ Below w.heap.size w w' := by
 have hu25 := Tryz.underlying25
 have hu67 := Tryz.underlying67
 have HR0_0 := Aside0.mk hr0_0
 have HC0_0 := Aside0.mk hc0_0
 clear hr0_0 hc0_0
 have HR0_1 := Aside0.mk hr0_1
 have HC0_1 := Aside0.mk hc0_1
 clear hr0_1 hc0_1
 have HR1_0 := Aside0.mk hr1_0
 have HC1_0 := Aside0.mk hc1_0
 clear hr1_0 hc1_0
 have HR1_1 := Aside0.mk hr1_1
 have HC1_1 := Aside0.mk hc1_1
 clear hr1_1 hc1_1
 have HB := Aside0.mk (Below.refl w.heap.size w)
 have H : (if (l0_0.length : Int) = (l1_0.length : Int) then ((walkmillref04_Ints.f k l0_1 l1_1).bind fun t103 => (walkmillref04_Same.j0 k (!t103) l0_0 l0_1 l1_0 l1_1)) else (walkmillref04_Same.j0 k true l0_0 l0_1 l1_0 l1_1)) = some r := h
 clear h
 have HC3 := Aside0.mk H
 clear H
 go_enter Tryz.func22, Tryz.ntmps22
 go_upto_region 1 with (first | ((with_reducible refine gate_dst (N := 2) rfl ?_); refine bx 2 #[.slice A0_0 l0_0.length c0_0, .slice A0_1 l0_1.length c0_1] 25 ?_; intro gb101 hg w4 hbox hb; have BK101 := hbox; have GW101 := gs HB hg; have GE101 := gs HB hg; replace HB := bs HB hb; clear hb hbox hg) | ((with_reducible refine gate_dst (N := 3) rfl ?_); refine bx 3 #[.slice A1_0 l1_0.length c1_0, .slice A1_1 l1_1.length c1_1] 25 ?_; intro gb102 hg w5 hbox hb; have BK102 := hbox; have GW102 := gs HB hg; have GE102 := gs HB hg; replace HB := bs HB hb; have NB101_102 := nl BK101 hg; have NB102_101 := nr BK101 hg; replace BK101 := bb BK101 hb; clear hb hbox hg))
 repeat (go_quiet (first | ((with_reducible refine gate_dst (N := 2) rfl ?_); refine bx 2 #[.slice A0_0 l0_0.length c0_0, .slice A0_1 l0_1.length c0_1] 25 ?_; intro gb101 hg w4 hbox hb; have BK101 := hbox; have GW101 := gs HB hg; have GE101 := gs HB hg; replace HB := bs HB hb; clear hb hbox hg) | ((with_reducible refine gate_dst (N := 3) rfl ?_); refine bx 3 #[.slice A1_0 l1_0.length c1_0, .slice A1_1 l1_1.length c1_1] 25 ?_; intro gb102 hg w5 hbox hb; have BK102 := hbox; have GW102 := gs HB hg; have GE102 := gs HB hg; replace HB := bs HB hb; have NB101_102 := nl BK101 hg; have NB102_101 := nr BK101 hg; replace BK101 := bb BK101 hb; clear hb hbox hg)); go_upto_region 1 with (first | ((with_reducible refine gate_dst (N := 2) rfl ?_); refine bx 2 #[.slice A0_0 l0_0.length c0_0, .slice A0_1 l0_1.length c0_1] 25 ?_; intro gb101 hg w4 hbox hb; have BK101 := hbox; have GW101 := gs HB hg; have GE101 := gs HB hg; replace HB := bs HB hb; clear hb hbox hg) | ((with_reducible refine gate_dst (N := 3) rfl ?_); refine bx 3 #[.slice A1_0 l1_0.length c1_0, .slice A1_1 l1_1.length c1_1] 25 ?_; intro gb102 hg w5 hbox hb; have BK102 := hbox; have GW102 := gs HB hg; have GE102 := gs HB hg; replace HB := bs HB hb; have NB101_102 := nl BK101 hg; have NB102_101 := nr BK101 hg; replace BK101 := bb BK101 hb; clear hb hbox hg)))
 (try simp only [Act.put, List.setIfInBounds_toArray, List.set_cons_zero, List.set_cons_succ])
 go_cut [20] (fun v20 wc => ∃ (kq : Nat) (x20_2 : Bool), v20 = .bool x20_2 ∧ Aside0 (walkmillref04_Same.j0 kq x20_2 l0_0 l0_1 l1_0 l1_1 = some r) ∧ Aside0 (kq ≤ k) ∧ Aside0 (wc.heap[gb101]? = some (.cells #[(.slice A0_0 l0_0.length c0_0), (.slice A0_1 l0_1.length c0_1)] 25 (0, 0))) ∧ Aside0 (wc.heap[gb102]? = some (.cells #[(.slice A1_0 l1_0.length c1_0), (.slice A1_1 l1_1.length c1_1)] 25 (0, 0))) ∧ Aside0 (Below w.heap.size w wc))
 case first =>
  have H := HC3.out
  clear HC3
  by_cases c6 : (l0_0.length : Int) = (l1_0.length : Int)
  ·rw [if_pos c6] at H
   have c6b0 : ((l0_0.length : Int) == (l1_0.length : Int)) = true := beq_iff_eq.mpr c6
   have c6b1 : ((l0_0.length : Int) != (l1_0.length : Int)) = false := bne_eq_false_iff_eq.mpr c6
   have c6b2 : (l0_0.length == l1_0.length) = true := by first | simpa using c6 | (simp at c6 ⊢; omega)
   clear c6
   (first | rw [c6b0] | (simp only [i64_w, i32_w]; rw [c6b0]) | skip)
   obtain ⟨t103, A7, H⟩ := bi H
   have H' := Aside0.mk H
   clear H
   have hnb8 := NB101_102.out
   have hnc8 := NB102_101.out
   obtain ⟨hcz9_0, hcz9_1, hfz9_0, hfz9_1⟩ := cf2 BK101
   obtain ⟨hcz10_0, hcz10_1, hfz10_0, hfz10_1⟩ := cf2 BK102
   go_wp2_with (first | (go_at_call 23; (with_reducible refine (walkmillref04_Ints.calls k _ _ l0_1 _ _ l1_1 t103 _ ?side1 ?side2 ?side3 ?side4 A7.out).mono ?_); (case side1 => exact pC (Kd.C_below HR0_1.out HB.out)); (case side2 => exact HC0_1.out); (case side3 => exact pC (Kd.C_below HR1_1.out HB.out)); (case side4 => exact HC1_1.out); rintro e w' ⟨rfl, ⟨nd, rfl⟩⟩; (try first | exact ⟨rfl, _, World.drewN_drewN _ _ _⟩ | exact ⟨rfl, _, Eq.trans (World.drewN_drewN _ _ _) (congrArg (World.drewN _) (Nat.add_assoc _ _ _))⟩)))
   repeat (go_quiet (first | (go_at_call 23; (with_reducible refine (walkmillref04_Ints.calls k _ _ l0_1 _ _ l1_1 t103 _ ?side1 ?side2 ?side3 ?side4 A7.out).mono ?_); (case side1 => exact pC (Kd.C_below HR0_1.out HB.out)); (case side2 => exact HC0_1.out); (case side3 => exact pC (Kd.C_below HR1_1.out HB.out)); (case side4 => exact HC1_1.out); rintro e w' ⟨rfl, ⟨nd, rfl⟩⟩; (try first | exact ⟨rfl, _, World.drewN_drewN _ _ _⟩ | exact ⟨rfl, _, Eq.trans (World.drewN_drewN _ _ _) (congrArg (World.drewN _) (Nat.add_assoc _ _ _))⟩))); try go_wp2_with (first | (go_at_call 23; (with_reducible refine (walkmillref04_Ints.calls k _ _ l0_1 _ _ l1_1 t103 _ ?side1 ?side2 ?side3 ?side4 A7.out).mono ?_); (case side1 => exact pC (Kd.C_below HR0_1.out HB.out)); (case side2 => exact HC0_1.out); (case side3 => exact pC (Kd.C_below HR1_1.out HB.out)); (case side4 => exact HC1_1.out); rintro e w' ⟨rfl, ⟨nd, rfl⟩⟩; (try first | exact ⟨rfl, _, World.drewN_drewN _ _ _⟩ | exact ⟨rfl, _, Eq.trans (World.drewN_drewN _ _ _) (congrArg (World.drewN _) (Nat.add_assoc _ _ _))⟩))))
   go_meet
   case rel => exact ⟨_, (!t103), (by first | rfl | (simp; done) | (simp [*]; done)), H', ⟨by first | omega | exact Nat.le_refl _⟩, ⟨pB BK101.out⟩, ⟨pB BK102.out⟩, ⟨pE HB⟩⟩
  ·rw [if_neg c6] at H
   have c6b0 : ((l0_0.length : Int) == (l1_0.length : Int)) = false := beq_eq_false_iff_ne.mpr c6
   have c6b1 : ((l0_0.length : Int) != (l1_0.length : Int)) = true := bne_iff_ne.mpr c6
   have c6b2 : (l0_0.length == l1_0.length) = false := by first | simpa using c6 | (simp at c6 ⊢; omega)
   (first | rw [c6b0] | (simp only [i64_w, i32_w]; rw [c6b0]) | skip)
   have H' := Aside0.mk H
   clear H
   have hnb11 := NB101_102.out
   have hnc11 := NB102_101.out
   obtain ⟨hcz12_0, hcz12_1, hfz12_0, hfz12_1⟩ := cf2 BK101
   obtain ⟨hcz13_0, hcz13_1, hfz13_0, hfz13_1⟩ := cf2 BK102
   go_wp2
   repeat (go_quiet (fail); try go_wp2)
   go_meet
   case rel => exact ⟨_, (true), (by first | rfl | (simp; done) | (simp [*]; done)), H', ⟨by first | omega | exact Nat.le_refl _⟩, ⟨pB BK101.out⟩, ⟨pB BK102.out⟩, ⟨pE HB⟩⟩
 case rest =>
  clear HC3
  try clear c1
  try clear c2
  try clear p2
  try clear c6
  try clear c6b0
  try clear c6b1
  try clear c6b2
  try clear c8
  try clear c11
  try clear hcz10_0
  try clear hcz10_1
  try clear hcz12_0
  try clear hcz12_1
  try clear hcz13_0
  try clear hcz13_1
  try clear hcz9_0
  try clear hcz9_1
  try clear hfz10_0
  try clear hfz10_1
  try clear hfz12_0
  try clear hfz12_1
  try clear hfz13_0
  try clear hfz13_1
  try clear hfz9_0
  try clear hfz9_1
  obtain ⟨kq, x20_2, rfl, HA, HJ2, BK101, BK102, HB⟩ := hcut
  cases kq with
  | zero => exact absurd HA.out (by simp [walkmillref04_Same.j0])
  | succ kj2 =>
   have H := HA.out
   clear HA
   simp only [walkmillref04_Same.j0] at H
   by_cases c14 : x20_2 = true
   ·subst c14
    rw [if_pos rfl] at H
    obtain rfl := Option.some.inj H
    go_wp2
    repeat (go_quiet (fail); try go_wp2)
    go_ret
    exact ⟨eT, pE HB⟩
   ·replace c14 := Bool.eq_false_iff.mpr c14
    subst c14
    rw [if_neg (show ¬ (false = true) by decide)] at H
    have H' := Aside0.mk H
    clear H
    go_wp2
    repeat (go_quiet (fail); try go_wp2)
    go_loopg [5] kj2 (fun kq v5 w' => ∃ (x5_2 : Int), v5 = .int .i64 x5_2 ∧ Aside0 (walkmillref04_Same.l0 kq x5_2 l0_0 l0_1 l1_0 l1_1 = some r) ∧ Aside0 (kq ≤ kj2) ∧ Aside0 (w'.heap[gb101]? = some (.cells #[(.slice A0_0 l0_0.length c0_0), (.slice A0_1 l0_1.length c0_1)] 25 (0, 0))) ∧ Aside0 (w'.heap[gb102]? = some (.cells #[(.slice A1_0 l1_0.length c1_0), (.slice A1_1 l1_1.length c1_1)] 25 (0, 0))) ∧ Aside0 (Below w.heap.size w w'))
    case atStart => exact ⟨(0), (by first | rfl | (simp; done) | (simp [*]; done)), H', ⟨Nat.le_refl _⟩, ⟨pB BK101.out⟩, ⟨pB BK102.out⟩, ⟨pE HB⟩⟩
    case round =>
     clear H'
     try clear c1
     try clear c2
     try clear p2
     try clear c6
     try clear c6b0
     try clear c6b1
     try clear c6b2
     try clear c8
     try clear c11
     try clear c14
     try clear hcz10_0
     try clear hcz10_1
     try clear hcz12_0
     try clear hcz12_1
     try clear hcz13_0
     try clear hcz13_1
     try clear hcz9_0
     try clear hcz9_1
     try clear hfz10_0
     try clear hfz10_1
     try clear hfz12_0
     try clear hfz12_1
     try clear hfz13_0
     try clear hfz13_1
     try clear hfz9_0
     try clear hfz9_1
     try clear p2
     obtain ⟨x5_2, rfl, HA, HK2, BK101, BK102, HB⟩ := hrel
     cases gk with
     | zero => exact absurd HA.out (by simp [walkmillref04_Same.l0])
     | succ k2 =>
      have H := HA.out
      clear HA
      simp only [walkmillref04_Same.l0] at H
      by_cases c15 : x5_2 < (l0_0.length : Int)
      ·rw [if_pos c15] at H
       have c15b0 : decide (x5_2 < (l0_0.length : Int)) = true := decide_eq_true c15
       clear c15
       by_cases c16 : 0 ≤ x5_2
       ·rw [if_pos c16] at H
        have c16b0 : decide (0 ≤ x5_2) = true := decide_eq_true c16
        clear c16
        by_cases c17 : x5_2 < (l1_0.length : Int)
        ·rw [if_pos c17] at H
         have c17b0 : decide (x5_2 < (l1_0.length : Int)) = true := decide_eq_true c17
         clear c17
         by_cases c18 : (!(((rd_T67 l0_0 x5_2).f0) == ((rd_T67 l1_0 x5_2).f0)) || (!(((rd_T67 l0_0 x5_2).f1) == ((rd_T67 l1_0 x5_2).f1)) || ((!(((rd_T67 l0_0 x5_2).f2.f0) == ((rd_T67 l1_0 x5_2).f2.f0)) || (!(((rd_T67 l0_0 x5_2).f2.f1) == ((rd_T67 l1_0 x5_2).f2.f1))))))) = true
         ·rw [if_pos c18] at H
          have c18b0 : (!(((rd_T67 l0_0 x5_2).f0) == ((rd_T67 l1_0 x5_2).f0)) || (!(((rd_T67 l0_0 x5_2).f1) == ((rd_T67 l1_0 x5_2).f1)) || ((!(((rd_T67 l0_0 x5_2).f2.f0) == ((rd_T67 l1_0 x5_2).f2.f0)) || (!(((rd_T67 l0_0 x5_2).f2.f1) == ((rd_T67 l1_0 x5_2).f2.f1))))))) = true := c18
          clear c18
          obtain rfl := Option.some.inj H
          have hnb19 := NB101_102.out
          have hnc19 := NB102_101.out
          obtain ⟨_, _, _, _⟩ := cf2 BK101
          have p104 : 0 ≤ (x5_2 : Int) := dT
          have q104 : x5_2 < (l0_0.length : Int) := dT
          obtain ⟨ad104, e104, hx104_0, hx104_1, hx104_2, hx104_3⟩ := at_T67 HR0_0.out x5_2 p104 q104
          cases e104
          replace hx104_0 := cut_ HB hx104_0
          replace hx104_1 := cut_ HB hx104_1
          replace hx104_2 := cut_ HB hx104_2
          replace hx104_3 := cut_ HB hx104_3
          replace p104 := eq_true p104
          replace q104 := eq_true q104
          obtain ⟨_, _, _, _⟩ := cf2 BK102
          have p105 : 0 ≤ (x5_2 : Int) := dT
          have q105 : x5_2 < (l1_0.length : Int) := dT
          obtain ⟨ad105, e105, hx105_0, hx105_1, hx105_2, hx105_3⟩ := at_T67 HR1_0.out x5_2 p105 q105
          cases e105
          replace hx105_0 := cut_ HB hx105_0
          replace hx105_1 := cut_ HB hx105_1
          replace hx105_2 := cut_ HB hx105_2
          replace hx105_3 := cut_ HB hx105_3
          replace p105 := eq_true p105
          replace q105 := eq_true q105
          go_wp2
          repeat (go_quiet (fail); try go_wp2)
          go_ret
          exact ⟨eT, pE HB⟩
         ·rw [if_neg c18] at H
          have c18b0 : (!(((rd_T67 l0_0 x5_2).f0) == ((rd_T67 l1_0 x5_2).f0)) || (!(((rd_T67 l0_0 x5_2).f1) == ((rd_T67 l1_0 x5_2).f1)) || ((!(((rd_T67 l0_0 x5_2).f2.f0) == ((rd_T67 l1_0 x5_2).f2.f0)) || (!(((rd_T67 l0_0 x5_2).f2.f1) == ((rd_T67 l1_0 x5_2).f2.f1))))))) = false := by simpa using c18
          clear c18
          have H' := Aside0.mk H
          clear H
          have hnb22 := NB101_102.out
          have hnc22 := NB102_101.out
          obtain ⟨_, _, _, _⟩ := cf2 BK101
          have p104 : 0 ≤ (x5_2 : Int) := dT
          have q104 : x5_2 < (l0_0.length : Int) := dT
          obtain ⟨ad104, e104, hx104_0, hx104_1, hx104_2, hx104_3⟩ := at_T67 HR0_0.out x5_2 p104 q104
          cases e104
          replace hx104_0 := cut_ HB hx104_0
          replace hx104_1 := cut_ HB hx104_1
          replace hx104_2 := cut_ HB hx104_2
          replace hx104_3 := cut_ HB hx104_3
          replace p104 := eq_true p104
          replace q104 := eq_true q104
          obtain ⟨_, _, _, _⟩ := cf2 BK102
          have p105 : 0 ≤ (x5_2 : Int) := dT
          have q105 : x5_2 < (l1_0.length : Int) := dT
          obtain ⟨ad105, e105, hx105_0, hx105_1, hx105_2, hx105_3⟩ := at_T67 HR1_0.out x5_2 p105 q105
          cases e105
          replace hx105_0 := cut_ HB hx105_0
          replace hx105_1 := cut_ HB hx105_1
          replace hx105_2 := cut_ HB hx105_2
          replace hx105_3 := cut_ HB hx105_3
          replace p105 := eq_true p105
          replace q105 := eq_true q105
          go_wp2
          repeat (go_quiet (fail); try go_wp2)
          go_roundg k2
          case measure => have := HJ2.out; have := HK2.out; omega
          case rel => exact ⟨(wrap64 (x5_2 + 1)), (by first | rfl | (simp; done) | (simp [*]; done)), H', ⟨by have := HJ2.out; have := HK2.out; omega⟩, ⟨pB BK101.out⟩, ⟨pB BK102.out⟩, ⟨pE HB⟩⟩
        ·rw [if_neg c17] at H
         exact absurd H (by simp)
       ·rw [if_neg c16] at H
        exact absurd H (by simp)
      ·rw [if_neg c15] at H
       have c15b0 : decide (x5_2 < (l0_0.length : Int)) = false := decide_eq_false c15
       clear c15
       obtain rfl := Option.some.inj H
       have hnb25 := NB101_102.out
       have hnc25 := NB102_101.out
       obtain ⟨_, _, _, _⟩ := cf2 BK101
       go_wp2
       repeat (go_quiet (fail); try go_wp2)
       go_ret
       exact ⟨eT, pE HB⟩
end Go.Proofs.YtlmglnobdcgbeaaGreat.P
namespace Go.Proofs.YtlmglnobdcgbeaaGreat.P
open Go.RowKit Go.Proofs.YtlmglnobdcgbeaaGreatW.PrintWords Go.Proofs.YtlmglnobdcgbeaaGreatW.PrintLast Go.Proofs.YtlmglnobdcgbeaaGreatW.PrintMore
theorem rInts_l (l : List Int) (hn : l.length ≤ 1000) : ∀ d (i : Nat) k, l.length - i = d → i ≤ l.length → d < k → walkmillref04_Ints.l0 k l l i = some true
  | 0, i, k, hd, hi, hk => by
    obtain ⟨k, rfl⟩ : ∃ m, k = m + 1 := ⟨k - 1, by omega⟩
    unfold walkmillref04_Ints.l0
    rw [if_neg (by omega)]
  | d + 1, i, k, hd, hi, hk => by
    obtain ⟨k, rfl⟩ : ∃ m, k = m + 1 := ⟨k - 1, by omega⟩
    unfold walkmillref04_Ints.l0
    rw [if_pos (by omega), if_pos (by omega), if_pos (by omega), if_pos rfl, nx i (by omega)]
    exact rInts_l l hn d (i + 1) k (by omega) (by omega) (by omega)
theorem rInts_same (k : Nat) (l : List Int) (hn : l.length ≤ 1000) (hk : l.length < k) : walkmillref04_Ints.f k l l = some true := by
  unfold walkmillref04_Ints.f
  rw [if_pos rfl]
  exact rInts_l l hn l.length 0 k (by omega) (by omega) hk
theorem rSame_l (cl : List S67) (rk : List Int) (hn : cl.length ≤ 1000) : ∀ d (i : Nat) k, cl.length - i = d → i ≤ cl.length → d < k → walkmillref04_Same.l0 k i cl rk cl rk = some true
  | 0, i, k, hd, hi, hk => by
    obtain ⟨k, rfl⟩ : ∃ m, k = m + 1 := ⟨k - 1, by omega⟩
    unfold walkmillref04_Same.l0
    rw [if_neg (by omega)]
  | d + 1, i, k, hd, hi, hk => by
    obtain ⟨k, rfl⟩ : ∃ m, k = m + 1 := ⟨k - 1, by omega⟩
    unfold walkmillref04_Same.l0
    rw [if_pos (by omega), if_pos (by omega), if_pos (by omega), if_neg (by simp), nx i (by omega)]
    exact rSame_l cl rk hn d (i + 1) k (by omega) (by omega) (by omega)
theorem rSame_eq (k : Nat) (cl : List S67) (rk : List Int) (hm : cl.length ≤ 1000) (hn : rk.length ≤ 1000) (hk : cl.length + rk.length + 2 < k) : walkmillref04_Same.f k cl rk cl rk = some true := by
  unfold walkmillref04_Same.f
  rw [if_pos rfl, rInts_same k rk hn (by omega), Option.bind_some]
  obtain ⟨k, rfl⟩ : ∃ m, k = m + 1 := ⟨k - 1, by omega⟩
  rw [walkmillref04_Same.j0, if_neg (by simp)]
  exact rSame_l cl rk hm cl.length 0 k (by omega) (by omega) (by omega)
theorem copy_eq (cl : List S67) (rk : List Int) (hm : cl.length ≤ 1000) (hn : rk.length ≤ 1000) : walkmillref04_Copy.f cl rk = some (cl, rk) := by
  unfold walkmillref04_Copy.f
  simp only [Option.bind_some, List.nil_append, List.length_nil]
  rw [if_pos (by omega), if_pos (by omega)]
theorem long_eq (cl : List S67) (rk : List Int) : walkmilllaw04_long.f cl rk = some (decide (20 < cl.length) || decide (10 < rk.length)) := by
  unfold walkmilllaw04_long.f
  by_cases h : (cl.length : Int) > 20
  · rw [if_pos h, decide_eq_true (by omega)]; rfl
  · rw [if_neg h, decide_eq_false (p := 20 < cl.length) (by omega), Bool.false_or]
    congr 1; exact decide_eq_decide.2 (by omega)
end Go.Proofs.YtlmglnobdcgbeaaGreat.P
namespace Go.Proofs.YtlmglnobdcgbeaaGreat.P
open Go.RowKit Go.Shelf Go.Proofs.YtlmglnobdcgbeaaGreatW.PrintWords Go.Proofs.YtlmglnobdcgbeaaGreatW.PrintLast Go.Proofs.YtlmglnobdcgbeaaGreatW.PrintMore Go.Proofs.YtlmglnobdcgbeaaGreat.R
attribute [local go_sem] max2_int min2_int max_two min_two max_three min_three max_four min_four
def turn_round.T5 : Bool × List (List Nat × List Nat) := (true, [([], []), ([], []), ([1], [1]), ([], []), ([3], [3]), ([4], [4]), ([2, 5], [2, 5]), ([0, 6], [0, 6]), ([], []), ([8, 7, 0, 1, 2, 3, 4, 5, 6, 7, 8], [7, 8])])
def turn_round.B5 : List Nat := [0, 0, 2, 0, 8, 24, 62, 127, 0, 511]
theorem turn_round.tab5 : rtab .any (opsOf Tryz.f99 5) = turn_round.T5 := by kernel_rfl
theorem turn_round.bits5 : waitsOk turn_round.T5.2 turn_round.B5 = true := by kernel_rfl
def turn_round.T6 : Bool × List (List Nat × List Nat) := (true, [([], []), ([0], [0]), ([], []), ([], []), ([3], [3]), ([2, 4], [2, 4]), ([1, 5], [1, 5]), ([0, 1, 2, 3, 4, 5, 6], []), ([7, 6, 5, 0, 1, 2, 3, 4, 5, 6], [6, 7])])
def turn_round.B6 : List Nat := [0, 1, 0, 0, 8, 28, 63, 127, 255]
theorem turn_round.tab6 : rtab .any (opsOf Tryz.f99 6) = turn_round.T6 := by kernel_rfl
theorem turn_round.bits6 : waitsOk turn_round.T6.2 turn_round.B6 = true := by kernel_rfl
def loopBody : Code → Option Code
  | .seq a b => match loopBody a with | some x => some x | none => loopBody b
  | .block _ c => loopBody c
  | .loop c => some c
  | .cond _ a b => match loopBody a with | some x => some x | none => loopBody b
  | _ => none
def firstBlock : Code → Option Code
  | .seq a b => match firstBlock a with | some x => some x | none => firstBlock b
  | .block _ c => some c
  | .cond _ a b => match firstBlock a with | some x => some x | none => firstBlock b
  | _ => none
def seqL : Code → List Code
  | .seq a b => a :: seqL b
  | c => [c]
structure TurnDone (P0_ : Nat → Prop) (w0 w : World) (u : Value) (l0 : List Int) (x tk dn : Int) (g10 : Nat) (w' : World) : Prop where
  t : w'.heap[g10]? = some (.cells #[.int .i64 x, .int .i64 tk, .int .i64 dn] 107 (0, 0))
  ge : w.heap.size ≤ g10
  row : Kd.R (Kd.int .i64) 3 w' w0.heap.size (fun k_ => (P0_ k_ ∨ w.heap.size ≤ k_)) u (l0.set 0 dn)
  bel : Below w0.heap.size w0 w'
  kept : Kept w w' (fun k_ => P0_ k_)
set_option maxHeartbeats 16000000 in
set_option maxRecDepth 100000 in
theorem turn_round {n : Nat} {Q : Exit → Act → World → Prop} (P0_ : Nat → Prop) (u9000_ : Value) (l0 : List Int) (a1 : Int) (B3 : Nat) (A3_0 : Option Addr) (c3_0 : Nat) (l3_0 : List (S67)) (A3_1 : Option Addr) (c3_1 : Nat) (l3_1 : List Int) (B4 : Nat) (g : FuncId) (fng : Func) (w0 w : World)
    (hB : Below w0.heap.size w0 w) (ho0 : Kd.R (Kd.int .i64) 3 w w0.heap.size P0_ u9000_ l0) (hb3 : w.heap[B3]? = some (.cells #[.slice A3_0 l3_0.length c3_0, .slice A3_1 l3_1.length c3_1] 99 (0, 0))) (hr3_0 : Kd.C k67 w A3_0 l3_0.length l3_0)
    (hb4 : w.heap[B4]? = some (.cells #[.func (.func g) #[] #[]] 135 (0, 0))) (nb3_4 : B3 ≠ B4) (hg1 : Tryz.prog.funcs[g]? = some fng) (hg2 : (fng.name == "runtime.NumGoroutine") = false) (hg3 : fng.body.isSome = true)
    (t105 : Int) (hof : ∀ W_, Calls Tryz.prog g #[.agg #[.int .i64 ((rd_T67 l3_0 a1).f2.f0), .int .i64 ((rd_T67 l3_0 a1).f2.f1)]] W_ fun e w' => e = .returned (.int .i64 t105) ∧ Below W_.heap.size W_ w')
    (c6 : 0 ≤ a1) (c7 : a1 < (l3_0.length : Int)) (c8 : 0 < (l0.length : Int)) (y0 y1 y2 y5 y7 y9 y10 y11 y12 y13 y14 y15 y16 y17 y18 y19 y20 y21 y22 y23 y24 y25 y26 y27 y28 y29 y30 y31 y32 y33 y34 y35 y36 y37 y38 y39 y40 y41 y42 y43 y44 y45 y46 y47 y48 y49 y50 y51 : Value) (ds : List Deferred) (r4 r5 r6 r7 z : Code) (hc : ((Tryz.f99.body.bind loopBody).bind firstBlock).map (fun c => ((seqL c).drop 1).take 4) = some [r4, r5, r6, r7])
    (hqp : ∀ c a a' w, a.defers = a'.defers → Q (.panic c) a w → Q (.panic c) a' w)
    (hQ : ∀ (g10 : Nat) (w' : World) (z9 z19 z20 z21 z22 z23 z24 z25 z26 z27 z28 z29 z30 z31 z32 z33 z34 z35 z36 z37 z38 z39 z40 z41 z42 z43 z44 : Value), TurnDone P0_ w0 w u9000_ l0 a1 (mx ((rd_T67 l3_0 a1).f1) (rd l0 0)) (wrap64 ((mx ((rd_T67 l3_0 a1).f1) (rd l0 0)) + t105)) g10 w' → z.wpIn Fence.wide n Tryz.prog Q { tmps := #[y0, y1, y2, .pointer (some ⟨B3, 0, none⟩), .pointer (some ⟨B4, 0, none⟩), y5, u9000_, y7, .int .i64 a1, z9, .pointer (some ⟨g10, 0, none⟩), y11, y12, y13, y14, y15, y16, y17, y18, z19, z20, z21, z22, z23, z24, z25, z26, z27, z28, z29, z30, z31, z32, z33, z34, z35, z36, z37, z38, z39, z40, z41, z42, z43, z44, y45, y46, y47, y48, y49, y50, y51], defers := ds } w') :
    (r4.seq (r5.seq (r6.seq (r7.seq z)))).wpIn Fence.wide n Tryz.prog Q { tmps := #[y0, y1, y2, .pointer (some ⟨B3, 0, none⟩), .pointer (some ⟨B4, 0, none⟩), y5, u9000_, y7, .int .i64 a1, y9, y10, y11, y12, y13, y14, y15, y16, y17, y18, y19, y20, y21, y22, y23, y24, y25, y26, y27, y28, y29, y30, y31, y32, y33, y34, y35, y36, y37, y38, y39, y40, y41, y42, y43, y44, y45, y46, y47, y48, y49, y50, y51], defers := ds } w := by
  simp only [Tryz.f99, Option.bind_some, loopBody, firstBlock, seqL, Option.map_some, List.drop_succ_cons, List.drop_zero, List.take_succ_cons, List.take_zero, Option.some.injEq, List.cons.injEq, and_true] at hc
  obtain ⟨rfl, rfl, rfl, rfl⟩ := hc
  have hu67 := Tryz.underlying67
  have hu107 := Tryz.underlying107
  have hu42 := Tryz.underlying42
  have HO0 := Aside0.mk (show Kd.R (Kd.int .i64) 3 w w0.heap.size (fun k_ => (P0_ k_ ∨ w.heap.size ≤ k_)) u9000_ l0 from Kd.R_mono ho0 (fun k_ hk => (.inl hk)))
  have HR3_0 := Aside0.mk hr3_0
  clear hr3_0
  have BK3 := Aside0.mk hb3
  clear hb3
  have BK4 := Aside0.mk hb4
  clear hb4
  have NB3_4 := Aside0.mk nb3_4
  have NB4_3 := Aside0.mk nb3_4.symm
  clear nb3_4
  have HK := Aside0.mk (Kept.refl w (fun k_ => P0_ k_))
  have HW0 := Aside0.mk hB.size
  have HB := Aside0.mk hB
  clear hB ho0
  have HG1 := Aside0.mk hg1
  have HG2 := Aside0.mk hg2
  have HG3 := Aside0.mk hg3
  have HOF := Aside0.mk hof
  have HQ := Aside0.mk hQ
  have HQP := Aside0.mk hqp
  clear hqp hg1 hg2 hg3 hof hQ
  have c6b0 : decide (0 ≤ a1) = true := decide_eq_true c6
  clear c6
  have c7b0 : decide (a1 < (l3_0.length : Int)) = true := decide_eq_true c7
  clear c7
  have c8b0 : decide (0 < (l0.length : Int)) = true := decide_eq_true c8
  have c8b1 : decide (0 < l0.length) = true := decide_eq_true (by omega)
  clear c8
  obtain ⟨ji9, hji9⟩ : ∃ j_ : Int, (mx ((rd_T67 l3_0 a1).f1) (rd l0 0)) = j_ := ⟨_, rfl⟩
  have hji9_ : (if ((rd_T67 l3_0 a1).f1) < (rd l0 0) then (rd l0 0) else ((rd_T67 l3_0 a1).f1)) = ji9 := hji9
  obtain ⟨y106, hy106⟩ : ∃ y_ : List Int, y_ = (l0.set (0 : Int).toNat (wrap64 ((ji9) + t105))) := ⟨_, rfl⟩
  have Ny106 := Aside0.mk hy106
  clear hy106
  have hnb12 := NB3_4.out
  have hnc12 := NB4_3.out
  obtain ⟨_, _, _, _⟩ := cf2 BK3
  have p101 : 0 ≤ (a1 : Int) := dT
  have q101 : a1 < (l3_0.length : Int) := dT
  obtain ⟨ad101, e101, hx101_0, hx101_1, hx101_2, hx101_3⟩ := at_T67 HR3_0.out a1 p101 q101
  cases e101
  replace p101 := eq_true p101
  replace q101 := eq_true q101
  go_wp2_with (first | ((with_reducible refine gate_dst (N := 9) rfl ?_); refine bx 9 #[.int .i64 0, .int .i64 0, .int .i64 0, .int .i64 0] 67 ?_; intro gb102 hg w14 hbox hb; replace HO0 := rb HO0 hb; have BK102 := hbox; have GW102 := Aside0.mk ((by rw [hg]; exact (by first | exact HK.out.1 | exact (show Kept w _ (fun k_ => P0_ k_) from by repeat (first | (with_reducible first | exact HK.out | apply Kept.alloc | apply Kept.drewN | apply Kept.drew | refine Kept.setCell ?_ (.inr GW3.out) _ | refine Kept.setCell ?_ (.inr GW4.out) _) | exact HK.out)).1) : w.heap.size ≤ gb102)); replace HK := Aside0.mk (Kept.below (S := (fun k_ => P0_ k_)) (by repeat (first | (with_reducible first | exact HK.out | apply Kept.alloc | apply Kept.drewN | apply Kept.drew | refine Kept.setCell ?_ (.inr GW3.out) _ | refine Kept.setCell ?_ (.inr GW4.out) _) | exact HK.out)) hb); have GE102 := Aside0.mk ((by rw [hg]; exact (below_size (pE HB)) : w0.heap.size ≤ gb102)); replace HB := bs HB hb; have NB3_102 := nl BK3 hg; have NB102_3 := nr BK3 hg; replace BK3 := bb BK3 hb; have NB4_102 := nl BK4 hg; have NB102_4 := nr BK4 hg; replace BK4 := bb BK4 hb; clear hb hbox hg; have hnb15 := NB102_3.out; have hnc15 := NB3_102.out; have hnb16 := NB102_4.out; have hnc16 := NB4_102.out; obtain ⟨_, _, _, _, _, _, _, _⟩ := cf4 BK102) | (with_reducible refine regW_lit_ ?_) | gi_step)
  have n0_ : Aside0 (Kd.R (Kd.int .i64) 3 ((((w14.setCell ⟨gb102, 0, none⟩ (.int .i64 ((rd_T67 l3_0 a1).f0))).setCell ⟨gb102, 1, none⟩ (.int .i64 ((rd_T67 l3_0 a1).f1))).setCell ⟨gb102, 2, none⟩ (.int .i64 ((rd_T67 l3_0 a1).f2.f0))).setCell ⟨gb102, 3, none⟩ (.int .i64 ((rd_T67 l3_0 a1).f2.f1))) w0.heap.size (fun k_ => (P0_ k_ ∨ w.heap.size ≤ k_)) u9000_ l0) := ⟨by (with_reducible repeat (first | apply Kd.R_alloc | apply Kd.R_drewN | apply Kd.R_drew)); exact Kd.R_mono (Kd.R_far (p := ⟨gb102, 3, none⟩) (Kd.R_far (p := ⟨gb102, 2, none⟩) (Kd.R_far (p := ⟨gb102, 1, none⟩) (Kd.R_far (p := ⟨gb102, 0, none⟩) (Kd.R_types HO0.out BK102.out (by decide)) (fun _ hk => hk.2) (.int .i64 ((rd_T67 l3_0 a1).f0))) (fun _ hk => hk.2) (.int .i64 ((rd_T67 l3_0 a1).f1))) (fun _ hk => hk.2) (.int .i64 ((rd_T67 l3_0 a1).f2.f0))) (fun _ hk => hk.2) (.int .i64 ((rd_T67 l3_0 a1).f2.f1))) (fun _ hk => hk.1)⟩
  have n1_ : Aside0 (((((w14.setCell ⟨gb102, 0, none⟩ (.int .i64 ((rd_T67 l3_0 a1).f0))).setCell ⟨gb102, 1, none⟩ (.int .i64 ((rd_T67 l3_0 a1).f1))).setCell ⟨gb102, 2, none⟩ (.int .i64 ((rd_T67 l3_0 a1).f2.f0))).setCell ⟨gb102, 3, none⟩ (.int .i64 ((rd_T67 l3_0 a1).f2.f1))).heap[B3]? = some (.cells #[.slice (some ad101) l3_0.length c3_0, .slice A3_1 l3_1.length c3_1] 99 (0, 0))) := ⟨pF BK3⟩
  have n2_ : Aside0 (((((w14.setCell ⟨gb102, 0, none⟩ (.int .i64 ((rd_T67 l3_0 a1).f0))).setCell ⟨gb102, 1, none⟩ (.int .i64 ((rd_T67 l3_0 a1).f1))).setCell ⟨gb102, 2, none⟩ (.int .i64 ((rd_T67 l3_0 a1).f2.f0))).setCell ⟨gb102, 3, none⟩ (.int .i64 ((rd_T67 l3_0 a1).f2.f1))).heap[B4]? = some (.cells #[.func (.func g) #[] #[]] 135 (0, 0))) := ⟨pF BK4⟩
  have n3_ : Aside0 (((((w14.setCell ⟨gb102, 0, none⟩ (.int .i64 ((rd_T67 l3_0 a1).f0))).setCell ⟨gb102, 1, none⟩ (.int .i64 ((rd_T67 l3_0 a1).f1))).setCell ⟨gb102, 2, none⟩ (.int .i64 ((rd_T67 l3_0 a1).f2.f0))).setCell ⟨gb102, 3, none⟩ (.int .i64 ((rd_T67 l3_0 a1).f2.f1))).heap[gb102]? = some (.cells #[.int .i64 ((rd_T67 l3_0 a1).f0), .int .i64 ((rd_T67 l3_0 a1).f1), .int .i64 ((rd_T67 l3_0 a1).f2.f0), .int .i64 ((rd_T67 l3_0 a1).f2.f1)] 67 (0, 0))) := ⟨by refine pB ?_; refine blk_put (cs := #[.int .i64 ((rd_T67 l3_0 a1).f0), .int .i64 ((rd_T67 l3_0 a1).f1), .int .i64 ((rd_T67 l3_0 a1).f2.f0), .int .i64 0]) ?_ 3 _ rfl; refine pB ?_; refine blk_put (cs := #[.int .i64 ((rd_T67 l3_0 a1).f0), .int .i64 ((rd_T67 l3_0 a1).f1), .int .i64 0, .int .i64 0]) ?_ 2 _ rfl; refine pB ?_; refine blk_put (cs := #[.int .i64 ((rd_T67 l3_0 a1).f0), .int .i64 0, .int .i64 0, .int .i64 0]) ?_ 1 _ rfl; refine pB ?_; refine blk_put (cs := #[.int .i64 0, .int .i64 0, .int .i64 0, .int .i64 0]) ?_ 0 _ rfl; exact pB BK102.out⟩
  have n4_ : Aside0 (Kept w ((((w14.setCell ⟨gb102, 0, none⟩ (.int .i64 ((rd_T67 l3_0 a1).f0))).setCell ⟨gb102, 1, none⟩ (.int .i64 ((rd_T67 l3_0 a1).f1))).setCell ⟨gb102, 2, none⟩ (.int .i64 ((rd_T67 l3_0 a1).f2.f0))).setCell ⟨gb102, 3, none⟩ (.int .i64 ((rd_T67 l3_0 a1).f2.f1))) (fun k_ => P0_ k_)) := ⟨by repeat (first | (with_reducible first | exact HK.out | apply Kept.alloc | apply Kept.drewN | apply Kept.drew | refine Kept.setCell ?_ (.inr GW3.out) _ | refine Kept.setCell ?_ (.inr GW4.out) _ | refine Kept.setCell ?_ (.inr GW102.out) _) | exact HK.out)⟩
  have n5_ : Aside0 (Below w0.heap.size w0 ((((w14.setCell ⟨gb102, 0, none⟩ (.int .i64 ((rd_T67 l3_0 a1).f0))).setCell ⟨gb102, 1, none⟩ (.int .i64 ((rd_T67 l3_0 a1).f1))).setCell ⟨gb102, 2, none⟩ (.int .i64 ((rd_T67 l3_0 a1).f2.f0))).setCell ⟨gb102, 3, none⟩ (.int .i64 ((rd_T67 l3_0 a1).f2.f1)))) := ⟨pE HB⟩
  (try clear HO0)
  (try clear BK3)
  (try clear BK4)
  (try clear BK102)
  (try clear HK)
  (try clear HB)
  generalize ((((w14.setCell ⟨gb102, 0, none⟩ (.int .i64 ((rd_T67 l3_0 a1).f0))).setCell ⟨gb102, 1, none⟩ (.int .i64 ((rd_T67 l3_0 a1).f1))).setCell ⟨gb102, 2, none⟩ (.int .i64 ((rd_T67 l3_0 a1).f2.f0))).setCell ⟨gb102, 3, none⟩ (.int .i64 ((rd_T67 l3_0 a1).f2.f1))) = w18 at n0_ n1_ n2_ n3_ n4_ n5_ ⊢
  have HO0 := n0_
  have BK3 := n1_
  have BK4 := n2_
  have BK102 := n3_
  have HK := n4_
  have HB := n5_
  clear n0_ n1_ n2_ n3_ n4_ n5_
  replace HO0 := Aside0.mk (Kd.R_drew HO0.out)
  replace BK3 := Aside0.mk (blk_drew BK3.out)
  replace BK4 := Aside0.mk (blk_drew BK4.out)
  replace BK102 := Aside0.mk (blk_drew BK102.out)
  replace HK := Aside0.mk (Kept.drew HK.out)
  replace HB := Aside0.mk (below_drew1 HB.out)
  obtain ⟨Ao20, co20, eo20⟩ := Kd.R_slice HO0.out
  (first | subst eo20 | (injection eo20 with f1_ f2_ f3_; have f4_ := f1_.symm; have f5_ := f3_.symm; clear f1_ f2_ f3_; subst f4_; subst f5_))
  have p103 : 0 ≤ (0 : Int) := (by omega)
  have q103 : 0 < (l0.length : Int) := dT
  obtain ⟨ad103, e103, hx103_0⟩ := Kd.at_int (Kd.R_reads' HO0.out).2.2 0 p103 q103
  cases e103
  have qi103 : (0 < l0.length) = True := eq_true (by omega)
  (try rw [show ((0 : Int)).toNat = 0 from rfl] at hx103_0)
  (try rw [Addr.add_zero'] at hx103_0)
  replace p103 := eq_true p103
  replace q103 := eq_true q103
  refine wpIn_wide.2 (start_ (n := 10) (S := fun w' => w'.cell? ⟨gb102, 0, none⟩ = some (.int .i64 ((rd_T67 l3_0 a1).f0)) ∧ w'.cell? ⟨gb102, 1, none⟩ = some (.int .i64 ((rd_T67 l3_0 a1).f1)) ∧ w'.cell? ⟨gb102, 2, none⟩ = some (.int .i64 ((rd_T67 l3_0 a1).f2.f0)) ∧ w'.cell? ⟨gb102, 3, none⟩ = some (.int .i64 ((rd_T67 l3_0 a1).f2.f1)) ∧ w'.cell? ad103 = some (.int .i64 (rd l0 0))) (ds := []) #[false, false, false, false, false, false, false, false, false, false] (by kernel_rfl) rfl rfl ⟨(blk_cell BK102.out 0).trans rfl, (blk_cell BK102.out 1).trans rfl, (blk_cell BK102.out 2).trans rfl, (blk_cell BK102.out 3).trans rfl, hx103_0⟩ (fun hHeld => ?_)); refine with_tabW turn_round.tab5 turn_round.bits5 (fun HT_ HW_ => ?_)
  generalize w18.drew = w19 at HO0 BK3 BK4 BK102 HK HB hx103_0 hHeld ⊢
  refine pu 0 25 ?_ (hQ := (fun c_ a_ w_ h_ => HQP.out c_ _ a_ w_ (by rfl) h_))
  refine pu 1 26 ?_ (hQ := (fun c_ a_ w_ h_ => HQP.out c_ _ a_ w_ (by rfl) h_))
  refine pu 3 28 ?_ (hQ := (fun c_ a_ w_ h_ => HQP.out c_ _ a_ w_ (by rfl) h_))
  refine pu 4 29 ?_ (hQ := (fun c_ a_ w_ h_ => HQP.out c_ _ a_ w_ (by rfl) h_))
  refine tk 2 27 hHeld ?_ (hQ := (fun c_ a_ w_ h_ => HQP.out c_ _ a_ w_ (by rfl) h_))
  refine tk 5 30 hHeld ?_ (hQ := (fun c_ a_ w_ h_ => HQP.out c_ _ a_ w_ (by rfl) h_))
  refine pu 6 31 ?_ (hQ := (fun c_ a_ w_ h_ => HQP.out c_ _ a_ w_ (by rfl) h_))
  refine pu 7 32 ?_ (hQ := (fun c_ a_ w_ h_ => HQP.out c_ _ a_ w_ (by rfl) h_))
  refine on 8 (fun K hK => ?_)
  refine box_step ?hg (N := 10) ?hd (cs := #[.int .i64 0, .int .i64 0, .int .i64 0]) (t := 107) ?hr ?_; (case hd => rfl); (case hg => rfl); (case hr => first | (go_simp; done) | (go_simp; rfl))
  intro gb104 hg w21 hbox hb
  have HS4_ := (hb.cell (World.block_lt_of_cell? _ _ (hHeld.2.2.2.2))).trans (hHeld.2.2.2.2)
  replace HO0 := rb HO0 hb
  have BK104 := Aside0.mk (hbox)
  have GW104 := Aside0.mk ((by rw [hg]; exact (by first | exact HK.out.1 | exact (show Kept w _ (fun k_ => P0_ k_) from by repeat (first | (with_reducible first | exact HK.out | apply Kept.alloc | apply Kept.drewN | apply Kept.drew | refine Kept.setCell ?_ (.inr GW3.out) _ | refine Kept.setCell ?_ (.inr GW4.out) _ | refine Kept.setCell ?_ (.inr GW102.out) _) | exact HK.out)).1) : w.heap.size ≤ gb104))
  replace HK := Aside0.mk (Kept.below (S := (fun k_ => P0_ k_)) (by repeat (first | (with_reducible first | exact HK.out | apply Kept.alloc | apply Kept.drewN | apply Kept.drew | refine Kept.setCell ?_ (.inr GW3.out) _ | refine Kept.setCell ?_ (.inr GW4.out) _ | refine Kept.setCell ?_ (.inr GW102.out) _) | exact HK.out)) hb)
  have GE104 := Aside0.mk ((by rw [hg]; exact (below_size (pE HB)) : w0.heap.size ≤ gb104))
  replace HB := bs HB hb
  have NB3_104 := nl BK3 hg
  have NB104_3 := nr BK3 hg
  replace BK3 := bb BK3 hb
  have NB4_104 := nl BK4 hg
  have NB104_4 := nr BK4 hg
  replace BK4 := bb BK4 hb
  have NB102_104 := nl BK102 hg
  have NB104_102 := nr BK102 hg
  replace BK102 := bb BK102 hb
  clear hb hbox hg
  refine hK.out _ _ ⟨(blk_cell BK102.out 0).trans rfl, (blk_cell BK102.out 1).trans rfl, (blk_cell BK102.out 2).trans rfl, (blk_cell BK102.out 3).trans rfl, HS4_⟩ (fun hHeld => ?_)
  clear hK K
  refine norm_ (a' := ?_) ?_ ?_
  rotate_left
  · show Act.put _ (some 10) _ = _
    simp only [Act.put, List.setIfInBounds_toArray, List.set_cons_zero, List.set_cons_succ, i64_w, i32_w]
    rfl
  refine on 9 (fun K hK => ?_)
  have hs22 : w21.cell? ⟨gb104, 0, none⟩ = some (.int .i64 0) := (blk_cell BK104.out 0).trans rfl
  have hfs22 := blk_frozen BK104.out 0
  have hns22_0 := NB3_104.out
  have hns22_1 := NB4_104.out
  have hns22_2 := NB102_104.out
  have hms22_0 := NB104_3.out
  have hms22_1 := NB104_4.out
  have hms22_2 := NB104_102.out
  have hs23 : w21.cell? ⟨gb104, 1, none⟩ = some (.int .i64 0) := (blk_cell BK104.out 1).trans rfl
  have hfs23 := blk_frozen BK104.out 1
  have hns23_0 := NB3_104.out
  have hns23_1 := NB4_104.out
  have hns23_2 := NB102_104.out
  have hms23_0 := NB104_3.out
  have hms23_1 := NB104_4.out
  have hms23_2 := NB104_102.out
  have hs24 : w21.cell? ⟨gb104, 2, none⟩ = some (.int .i64 0) := (blk_cell BK104.out 2).trans rfl
  have hfs24 := blk_frozen BK104.out 2
  have hns24_0 := NB3_104.out
  have hns24_1 := NB4_104.out
  have hns24_2 := NB102_104.out
  have hms24_0 := NB104_3.out
  have hms24_1 := NB104_4.out
  have hms24_2 := NB104_102.out
  refine skip_ (w1 := ?_) (by rfl) rfl ?_ ?_
  rotate_left
  · go_simp
    rfl
  refine hK.out _ _ ⟨((cell_far (p := ⟨gb104, _, none⟩) NB102_104.out _).trans (((cell_far (p := ⟨gb104, _, none⟩) NB102_104.out _).trans (((cell_far (p := ⟨gb104, _, none⟩) NB102_104.out _).trans (hHeld.1)))))), ((cell_far (p := ⟨gb104, _, none⟩) NB102_104.out _).trans (((cell_far (p := ⟨gb104, _, none⟩) NB102_104.out _).trans (((cell_far (p := ⟨gb104, _, none⟩) NB102_104.out _).trans (hHeld.2.1)))))), ((cell_far (p := ⟨gb104, _, none⟩) NB102_104.out _).trans (((cell_far (p := ⟨gb104, _, none⟩) NB102_104.out _).trans (((cell_far (p := ⟨gb104, _, none⟩) NB102_104.out _).trans (hHeld.2.2.1)))))), ((cell_far (p := ⟨gb104, _, none⟩) NB102_104.out _).trans (((cell_far (p := ⟨gb104, _, none⟩) NB102_104.out _).trans (((cell_far (p := ⟨gb104, _, none⟩) NB102_104.out _).trans (hHeld.2.2.2.1)))))), ((cell_far (p := ⟨gb104, _, none⟩) (by first | exact Kd.own_blk (Kd.R_ne HO0.out BK104.out (by decide)) | (rw [add_block]; exact Kd.own_blk (Kd.R_ne HO0.out BK104.out (by decide))) | (show (Addr.add _ _).block ≠ _; rw [add_block]; exact Kd.own_blk (Kd.R_ne HO0.out BK104.out (by decide))) | (dsimp only; exact Kd.own_blk (Kd.R_ne HO0.out BK104.out (by decide)))) _).trans (((cell_far (p := ⟨gb104, _, none⟩) (by first | exact Kd.own_blk (Kd.R_ne HO0.out BK104.out (by decide)) | (rw [add_block]; exact Kd.own_blk (Kd.R_ne HO0.out BK104.out (by decide))) | (show (Addr.add _ _).block ≠ _; rw [add_block]; exact Kd.own_blk (Kd.R_ne HO0.out BK104.out (by decide))) | (dsimp only; exact Kd.own_blk (Kd.R_ne HO0.out BK104.out (by decide)))) _).trans (((cell_far (p := ⟨gb104, _, none⟩) (by first | exact Kd.own_blk (Kd.R_ne HO0.out BK104.out (by decide)) | (rw [add_block]; exact Kd.own_blk (Kd.R_ne HO0.out BK104.out (by decide))) | (show (Addr.add _ _).block ≠ _; rw [add_block]; exact Kd.own_blk (Kd.R_ne HO0.out BK104.out (by decide))) | (dsimp only; exact Kd.own_blk (Kd.R_ne HO0.out BK104.out (by decide)))) _).trans (hHeld.2.2.2.2))))))⟩ (fun hHeld => ?_)
  clear hK K
  refine done_ (done_of HT_.out (by kernel_rfl)) ?_
  go_wp2_with (first | (with_reducible refine regW_lit_ ?_) | gi_step)
  have n0_ : Aside0 (Kd.R (Kd.int .i64) 3 (((w21.setCell ⟨gb104, 0, none⟩ (.int .i64 a1)).setCell ⟨gb104, 1, none⟩ (.int .i64 ji9)).setCell ⟨gb104, 2, none⟩ (.int .i64 0)) w0.heap.size (fun k_ => (P0_ k_ ∨ w.heap.size ≤ k_)) (.slice (some ad103) l0.length co20) l0) := ⟨by (with_reducible repeat (first | apply Kd.R_alloc | apply Kd.R_drewN | apply Kd.R_drew)); exact Kd.R_mono (Kd.R_far (p := ⟨gb104, 2, none⟩) (Kd.R_far (p := ⟨gb104, 1, none⟩) (Kd.R_far (p := ⟨gb104, 0, none⟩) (Kd.R_types HO0.out BK104.out (by decide)) (fun _ hk => hk.2) (.int .i64 a1)) (fun _ hk => hk.2) (.int .i64 ji9)) (fun _ hk => hk.2) (.int .i64 0)) (fun _ hk => hk.1)⟩
  have n1_ : Aside0 ((((w21.setCell ⟨gb104, 0, none⟩ (.int .i64 a1)).setCell ⟨gb104, 1, none⟩ (.int .i64 ji9)).setCell ⟨gb104, 2, none⟩ (.int .i64 0)).heap[B3]? = some (.cells #[.slice (some ad101) l3_0.length c3_0, .slice A3_1 l3_1.length c3_1] 99 (0, 0))) := ⟨pF BK3⟩
  have n2_ : Aside0 ((((w21.setCell ⟨gb104, 0, none⟩ (.int .i64 a1)).setCell ⟨gb104, 1, none⟩ (.int .i64 ji9)).setCell ⟨gb104, 2, none⟩ (.int .i64 0)).heap[B4]? = some (.cells #[.func (.func g) #[] #[]] 135 (0, 0))) := ⟨pF BK4⟩
  have n3_ : Aside0 ((((w21.setCell ⟨gb104, 0, none⟩ (.int .i64 a1)).setCell ⟨gb104, 1, none⟩ (.int .i64 ji9)).setCell ⟨gb104, 2, none⟩ (.int .i64 0)).heap[gb102]? = some (.cells #[.int .i64 ((rd_T67 l3_0 a1).f0), .int .i64 ((rd_T67 l3_0 a1).f1), .int .i64 ((rd_T67 l3_0 a1).f2.f0), .int .i64 ((rd_T67 l3_0 a1).f2.f1)] 67 (0, 0))) := ⟨pF BK102⟩
  have n4_ : Aside0 ((((w21.setCell ⟨gb104, 0, none⟩ (.int .i64 a1)).setCell ⟨gb104, 1, none⟩ (.int .i64 ji9)).setCell ⟨gb104, 2, none⟩ (.int .i64 0)).heap[gb104]? = some (.cells #[.int .i64 a1, .int .i64 ji9, .int .i64 0] 107 (0, 0))) := ⟨by refine pB ?_; refine blk_put (cs := #[.int .i64 a1, .int .i64 ji9, .int .i64 0]) ?_ 2 _ rfl; refine pB ?_; refine blk_put (cs := #[.int .i64 a1, .int .i64 0, .int .i64 0]) ?_ 1 _ rfl; refine pB ?_; refine blk_put (cs := #[.int .i64 0, .int .i64 0, .int .i64 0]) ?_ 0 _ rfl; exact pB BK104.out⟩
  have n5_ : Aside0 (Kept w (((w21.setCell ⟨gb104, 0, none⟩ (.int .i64 a1)).setCell ⟨gb104, 1, none⟩ (.int .i64 ji9)).setCell ⟨gb104, 2, none⟩ (.int .i64 0)) (fun k_ => P0_ k_)) := ⟨by repeat (first | (with_reducible first | exact HK.out | apply Kept.alloc | apply Kept.drewN | apply Kept.drew | refine Kept.setCell ?_ (.inr GW3.out) _ | refine Kept.setCell ?_ (.inr GW4.out) _ | refine Kept.setCell ?_ (.inr GW102.out) _ | refine Kept.setCell ?_ (.inr GW104.out) _) | exact HK.out)⟩
  have n6_ : Aside0 (Below w0.heap.size w0 (((w21.setCell ⟨gb104, 0, none⟩ (.int .i64 a1)).setCell ⟨gb104, 1, none⟩ (.int .i64 ji9)).setCell ⟨gb104, 2, none⟩ (.int .i64 0))) := ⟨pE HB⟩
  (try clear HO0)
  (try clear BK3)
  (try clear BK4)
  (try clear BK102)
  (try clear BK104)
  (try clear HK)
  (try clear HB)
  generalize (((w21.setCell ⟨gb104, 0, none⟩ (.int .i64 a1)).setCell ⟨gb104, 1, none⟩ (.int .i64 ji9)).setCell ⟨gb104, 2, none⟩ (.int .i64 0)) = w25 at n0_ n1_ n2_ n3_ n4_ n5_ n6_ ⊢
  have HO0 := n0_
  have BK3 := n1_
  have BK4 := n2_
  have BK102 := n3_
  have BK104 := n4_
  have HK := n5_
  have HB := n6_
  clear n0_ n1_ n2_ n3_ n4_ n5_ n6_
  replace HO0 := Aside0.mk (Kd.R_drew HO0.out)
  replace BK3 := Aside0.mk (blk_drew BK3.out)
  replace BK4 := Aside0.mk (blk_drew BK4.out)
  replace BK102 := Aside0.mk (blk_drew BK102.out)
  replace BK104 := Aside0.mk (blk_drew BK104.out)
  replace HK := Aside0.mk (Kept.drew HK.out)
  replace HB := Aside0.mk (below_drew1 HB.out)
  refine wpIn_wide.2 (start_ (n := 9) (S := fun w' => w'.cell? ⟨gb104, 0, none⟩ = some (.int .i64 a1) ∧ w'.cell? ⟨gb104, 1, none⟩ = some (.int .i64 ji9) ∧ w'.cell? ⟨gb104, 2, none⟩ = some (.int .i64 0) ∧ w'.cell? ⟨B4, 0, none⟩ = some (.func (.func g) #[] #[]) ∧ w'.cell? ⟨gb102, 0, none⟩ = some (.int .i64 ((rd_T67 l3_0 a1).f0)) ∧ w'.cell? ⟨gb102, 1, none⟩ = some (.int .i64 ((rd_T67 l3_0 a1).f1)) ∧ w'.cell? ⟨gb102, 2, none⟩ = some (.int .i64 ((rd_T67 l3_0 a1).f2.f0)) ∧ w'.cell? ⟨gb102, 3, none⟩ = some (.int .i64 ((rd_T67 l3_0 a1).f2.f1))) (ds := [8]) #[false, false, false, false, false, false, false, false, false] (by kernel_rfl) rfl rfl ⟨(blk_cell BK104.out 0).trans rfl, (blk_cell BK104.out 1).trans rfl, (blk_cell BK104.out 2).trans rfl, (blk_cell BK4.out 0).trans rfl, (blk_cell BK102.out 0).trans rfl, (blk_cell BK102.out 1).trans rfl, (blk_cell BK102.out 2).trans rfl, (blk_cell BK102.out 3).trans rfl⟩ (fun hHeld => ?_)); refine with_tabW turn_round.tab6 turn_round.bits6 (fun HT_ HW_ => ?_)
  generalize w25.drew = w26 at HO0 BK3 BK4 BK102 BK104 HK HB hHeld ⊢
  refine pu 0 33 ?_ (hQ := (fun c_ a_ w_ h_ => HQP.out c_ _ a_ w_ (by rfl) h_))
  refine pu 3 36 ?_ (hQ := (fun c_ a_ w_ h_ => HQP.out c_ _ a_ w_ (by rfl) h_))
  refine tk 1 34 hHeld ?_ (hQ := (fun c_ a_ w_ h_ => HQP.out c_ _ a_ w_ (by rfl) h_))
  refine tk 2 35 hHeld ?_ (hQ := (fun c_ a_ w_ h_ => HQP.out c_ _ a_ w_ (by rfl) h_))
  refine tk 4 37 hHeld ?_ (hQ := (fun c_ a_ w_ h_ => HQP.out c_ _ a_ w_ (by rfl) h_))
  refine on 5 (fun K hK => ?_)
  refine goesV_ HG1.out HG2.out HG3.out #[.agg #[.int .i64 ((rd_T67 l3_0 a1).f2.f0), .int .i64 ((rd_T67 l3_0 a1).f2.f1)]] (by rfl) rfl rfl rfl (by (try simp only [List.map_toArray, List.map_cons, List.map_nil]); first | done | rfl | (simp only [List.length_drop, List.length_take]; rfl)) ?_
  with_reducible refine (HOF.out _).mono ?_
  rintro e w27 ⟨rfl, hb⟩
  refine ⟨_, rfl, ?_⟩
  replace HO0 := rb HO0 hb
  replace BK3 := bb BK3 hb
  replace BK4 := bb BK4 hb
  replace BK102 := bb BK102 hb
  replace BK104 := bb BK104 hb
  replace HK := Aside0.mk (Kept.below (S := (fun k_ => P0_ k_)) (by repeat (first | (with_reducible first | exact HK.out | apply Kept.alloc | apply Kept.drewN | apply Kept.drew | refine Kept.setCell ?_ (.inr GW3.out) _ | refine Kept.setCell ?_ (.inr GW4.out) _ | refine Kept.setCell ?_ (.inr GW102.out) _ | refine Kept.setCell ?_ (.inr GW104.out) _) | exact HK.out)) hb)
  replace HB := bs HB hb
  (try clear hb)
  (try clear hb2)
  (try clear hk)
  (try clear hi)
  refine hK.out _ _ ⟨(blk_cell BK104.out 0).trans rfl, (blk_cell BK104.out 1).trans rfl, (blk_cell BK104.out 2).trans rfl, (blk_cell BK4.out 0).trans rfl, (blk_cell BK102.out 0).trans rfl, (blk_cell BK102.out 1).trans rfl, (blk_cell BK102.out 2).trans rfl, (blk_cell BK102.out 3).trans rfl⟩ (fun hHeld => ?_)
  clear hK K
  refine norm_ (a' := ?_) ?_ ?_
  rotate_left
  · show Act.put _ (some 38) _ = _
    simp only [Act.put, List.setIfInBounds_toArray, List.set_cons_zero, List.set_cons_succ, i64_w, i32_w]
    rfl
  refine pu 6 39 ?_ (hQ := (fun c_ a_ w_ h_ => HQP.out c_ _ a_ w_ (by rfl) h_))
  refine pu 7 40 ?_ (hQ := (fun c_ a_ w_ h_ => HQP.out c_ _ a_ w_ (by rfl) h_))
  refine last_ (i := 8) (N := none) #[true, true, true, true, true, true, true, true, true] rfl rfl (one_of HT_.out (by kernel_rfl)) (by decide) (fun K hK => ?_)
  have hs28 : w27.cell? ⟨gb104, 2, none⟩ = some (.int .i64 0) := (blk_cell BK104.out 2).trans rfl
  have hfs28 := blk_frozen BK104.out 2
  have hns28_0 := NB3_104.out
  have hns28_1 := NB4_104.out
  have hns28_2 := NB102_104.out
  have hms28_0 := NB104_3.out
  have hms28_1 := NB104_4.out
  have hms28_2 := NB104_102.out
  refine skip_ (w1 := ?_) (by rfl) rfl ?_ ?_
  rotate_left
  · go_simp
    rfl
  refine hK.out _ _ ?_
  clear hK K
  refine done_ (done_of HT_.out (by kernel_rfl)) ?_
  have n0_ : Aside0 (Kd.R (Kd.int .i64) 3 (w27.setCell ⟨gb104, 2, none⟩ (.int .i64 (wrap64 ((ji9) + t105)))) w0.heap.size (fun k_ => (P0_ k_ ∨ w.heap.size ≤ k_)) (.slice (some ad103) l0.length co20) l0) := ⟨by (with_reducible repeat (first | apply Kd.R_alloc | apply Kd.R_drewN | apply Kd.R_drew)); exact Kd.R_mono (Kd.R_far (p := ⟨gb104, 2, none⟩) (Kd.R_types HO0.out BK104.out (by decide)) (fun _ hk => hk.2) (.int .i64 (wrap64 ((ji9) + t105)))) (fun _ hk => hk.1)⟩
  have n1_ : Aside0 ((w27.setCell ⟨gb104, 2, none⟩ (.int .i64 (wrap64 ((ji9) + t105)))).heap[B3]? = some (.cells #[.slice (some ad101) l3_0.length c3_0, .slice A3_1 l3_1.length c3_1] 99 (0, 0))) := ⟨pF BK3⟩
  have n2_ : Aside0 ((w27.setCell ⟨gb104, 2, none⟩ (.int .i64 (wrap64 ((ji9) + t105)))).heap[B4]? = some (.cells #[.func (.func g) #[] #[]] 135 (0, 0))) := ⟨pF BK4⟩
  have n3_ : Aside0 ((w27.setCell ⟨gb104, 2, none⟩ (.int .i64 (wrap64 ((ji9) + t105)))).heap[gb102]? = some (.cells #[.int .i64 ((rd_T67 l3_0 a1).f0), .int .i64 ((rd_T67 l3_0 a1).f1), .int .i64 ((rd_T67 l3_0 a1).f2.f0), .int .i64 ((rd_T67 l3_0 a1).f2.f1)] 67 (0, 0))) := ⟨pF BK102⟩
  have n4_ : Aside0 ((w27.setCell ⟨gb104, 2, none⟩ (.int .i64 (wrap64 ((ji9) + t105)))).heap[gb104]? = some (.cells #[.int .i64 a1, .int .i64 ji9, .int .i64 (wrap64 ((ji9) + t105))] 107 (0, 0))) := ⟨by refine pB ?_; refine blk_put (cs := #[.int .i64 a1, .int .i64 ji9, .int .i64 0]) ?_ 2 _ rfl; exact pB BK104.out⟩
  have n5_ : Aside0 (Kept w (w27.setCell ⟨gb104, 2, none⟩ (.int .i64 (wrap64 ((ji9) + t105)))) (fun k_ => P0_ k_)) := ⟨by repeat (first | (with_reducible first | exact HK.out | apply Kept.alloc | apply Kept.drewN | apply Kept.drew | refine Kept.setCell ?_ (.inr GW3.out) _ | refine Kept.setCell ?_ (.inr GW4.out) _ | refine Kept.setCell ?_ (.inr GW102.out) _ | refine Kept.setCell ?_ (.inr GW104.out) _) | exact HK.out)⟩
  have n6_ : Aside0 (Below w0.heap.size w0 (w27.setCell ⟨gb104, 2, none⟩ (.int .i64 (wrap64 ((ji9) + t105))))) := ⟨pE HB⟩
  (try clear HO0)
  (try clear BK3)
  (try clear BK4)
  (try clear BK102)
  (try clear BK104)
  (try clear HK)
  (try clear HB)
  generalize (w27.setCell ⟨gb104, 2, none⟩ (.int .i64 (wrap64 ((ji9) + t105)))) = w29 at n0_ n1_ n2_ n3_ n4_ n5_ n6_ ⊢
  have HO0 := n0_
  have BK3 := n1_
  have BK4 := n2_
  have BK102 := n3_
  have BK104 := n4_
  have HK := n5_
  have HB := n6_
  clear n0_ n1_ n2_ n3_ n4_ n5_ n6_
  have hnb30 := NB104_3.out
  have hnc30 := NB3_104.out
  have hnb31 := NB104_4.out
  have hnc31 := NB4_104.out
  have hnb32 := NB104_102.out
  have hnc32 := NB102_104.out
  have hcz33_0 := cz0 BK104
  have hcz33_1 := cz1 BK104
  have hcz33_2 : w29.cell? ⟨gb104, 2, none⟩ = some (.int .i64 (wrap64 ((ji9) + t105))) := (blk_cell BK104.out 2).trans rfl
  have hfz33_0 := blk_frozen BK104.out 0
  have hfz33_1 := blk_frozen BK104.out 1
  have hfz33_2 := blk_frozen BK104.out 2
  have p11 : 0 ≤ (0 : Int) := (by omega)
  have q11 : (0 : Int) < ((l0.length : Int) : Int) := dT
  have qi11 : (0 < l0.length) = True := eq_true (by omega)
  obtain ⟨go11, co11, eo11, gb11, gl11, cl11, HG11⟩ := Kd.R_form HO0.out (by omega)
  (first | cases eo11 | (injection eo11 with ea_ en_ ec_; (first | subst ea_ | (injection ea_ with ea_; subst ea_)); subst ec_; clear en_))
  have GB11 := Aside0.mk gb11
  have GG11 := Aside0.mk HG11
  clear gb11 gl11 HG11
  have HMgo11 := Aside0.mk (show (P0_ go11 ∨ w.heap.size ≤ go11) from (HO0.out.1 _ rfl))
  (first | simp only [add_plain] at hx103_0 | skip)
  obtain ⟨hx11_0, hf11_0⟩ := Kd.R_celln 0 HO0.out (0 : Int) p11 q11
  (try rw [show ((0 : Int)).toNat = 0 from rfl] at hx11_0)
  (try simp only [Nat.reduceMul, Nat.zero_mul, Nat.zero_add, Nat.reduceAdd] at hx11_0)
  (try rw [show ((0 : Int)).toNat = 0 from rfl] at hf11_0)
  (try simp only [Nat.reduceMul, Nat.zero_mul, Nat.zero_add, Nat.reduceAdd] at hf11_0)
  replace p11 := eq_true p11
  replace q11 := eq_true q11
  obtain ⟨hy34_, hz34_⟩ := Kd.R_celln 0 HO0.out (0 : Int) (by omega) (dT)
  (try simp only [Int.reduceToNat, Int.toNat_zero, Int.toNat_ofNat, Nat.reduceMul, Nat.zero_mul, Nat.zero_add] at hy34_ hz34_)
  (try rw [show ((0 : Int)).toNat = 0 from rfl] at hy34_)
  (try rw [show ((0 : Int)).toNat = 0 from rfl] at hz34_)
  have HP34 := Kd.R_putg HO0.out (0 : Int) (wrap64 ((ji9) + t105))
  go_wp2_with (first | ((with_reducible refine gate_store (t := 3) (p := 44) rfl ?_); refine store_event (t := 3) (p := 44) (v := ?vo_w35) (w1 := (w29.setCell ⟨go11, (0 : Int).toNat, none⟩ (.int .i64 (wrap64 ((ji9) + t105))))) ?hg ?ho ?hn ?hr ?_; (case ho => rfl); (case hg => rfl); (case hn => rfl); (case hr => first | (go_simp; done) | (go_simp; rfl)); intro w35 hw; have hg : w29.grownBy w35 (some go11) := (by rw [hw]; exact HP34.2); have hp_ : Kd.R (Kd.int .i64) 3 w35 w0.heap.size (fun k_ => (P0_ k_ ∨ w.heap.size ≤ k_)) (.slice (some ⟨go11, 0, none⟩) l0.length co20) y106 := (by rw [hw, Ny106.out]; exact HP34.1); clear HP34; replace BK3 := Aside0.mk (blk_grown (g := B3) (o := .cells #[.slice (some ad101) l3_0.length c3_0, .slice A3_1 l3_1.length c3_1] 99 (0, 0)) (pB BK3.out) hg (Kd.R_ne HO0.out BK3.out (by decide))); replace BK4 := Aside0.mk (blk_grown (g := B4) (o := .cells #[.func (.func g) #[] #[]] 135 (0, 0)) (pB BK4.out) hg (Kd.R_ne HO0.out BK4.out (by decide))); replace BK102 := Aside0.mk (blk_grown (g := gb102) (o := .cells #[.int .i64 ((rd_T67 l3_0 a1).f0), .int .i64 ((rd_T67 l3_0 a1).f1), .int .i64 ((rd_T67 l3_0 a1).f2.f0), .int .i64 ((rd_T67 l3_0 a1).f2.f1)] 67 (0, 0)) (pB BK102.out) hg (Kd.R_ne HO0.out BK102.out (by decide))); replace BK104 := Aside0.mk (blk_grown (g := gb104) (o := .cells #[.int .i64 a1, .int .i64 ji9, .int .i64 (wrap64 ((ji9) + t105))] 107 (0, 0)) (pB BK104.out) hg (Kd.R_ne HO0.out BK104.out (by decide))); replace HB := Aside0.mk ((by rw [hw]; exact below_set (HB.out) GB11.out : Below w0.heap.size w0 w35)); replace HK := Aside0.mk (Kept.of_grown (S := (fun k_ => P0_ k_)) hg (by repeat (first | (with_reducible first | exact HK.out | apply Kept.alloc | apply Kept.drewN | apply Kept.drew | refine Kept.setCell ?_ (.inr GW3.out) _ | refine Kept.setCell ?_ (.inr GW4.out) _ | refine Kept.setCell ?_ (.inr GW102.out) _ | refine Kept.setCell ?_ (.inr GW104.out) _) | exact HK.out)) (fun k_ e_ => (HO0.out.1 k_ e_))); replace HO0 := Aside0.mk (hp_); clear hg hw hp_; have hcz36_0 := cz0 BK104; have hcz36_1 := cz1 BK104; have hcz36_2 : w35.cell? ⟨gb104, 2, none⟩ = some (.int .i64 (wrap64 ((ji9) + t105))) := (blk_cell BK104.out 2).trans rfl; have hfz36_0 := blk_frozen BK104.out 0; have hfz36_1 := blk_frozen BK104.out 1; have hfz36_2 := blk_frozen BK104.out 2) | (with_reducible refine regW_lit_ ?_) | gi_step)
  refine HQ.out gb104 _ _ _ _ _ _ _ _ _ _ _ _ _ _ _ _ _ _ _ _ _ _ _ _ _ _ _ _ ⟨?t, ?ge, ?row, ?bel, ?kept⟩
  case t => rw [hji9]; exact BK104.out
  case ge => first | exact GW104.out | (rcases GW104.out with h_ | h_; exact h_) | exact Nat.le_trans HW0.out GE104.out
  case row => rw [hji9]; have h_ := HO0.out; rw [Ny106.out] at h_; exact h_
  case bel => exact HB.out
  case kept => exact HK.out
end Go.Proofs.YtlmglnobdcgbeaaGreat.P
namespace Go.Proofs.YtlmglnobdcgbeaaGreat.P
open Go.RowKit Go.Shelf Go.Proofs.YtlmglnobdcgbeaaGreatW.PrintWords Go.Proofs.YtlmglnobdcgbeaaGreatW.PrintLast Go.Proofs.YtlmglnobdcgbeaaGreatW.PrintMore Go.Proofs.YtlmglnobdcgbeaaGreat.R
def takenT (cl : List S67) (fr : List Int) (x : Int) : Int := mx ((rd_T67 cl x).f1) (rd fr 0)
def doneT (of : Int → Int → Int) (cl : List S67) (fr : List Int) (x : Int) : Int := wrap64 (takenT cl fr x + of ((rd_T67 cl x).f2.f0) ((rd_T67 cl x).f2.f1))
def freeT (of : Int → Int → Int) (cl : List S67) : List Int → List Int → List Int
  | fr, [] => fr
  | fr, x :: xs => freeT of cl (srt (fr.set 0 (doneT of cl fr x))) xs
def runT (of : Int → Int → Int) (cl : List S67) : List Int → List Int → List (Int × Int × Int)
  | _, [] => []
  | fr, x :: xs => (x, takenT cl fr x, doneT of cl fr x) :: runT of cl (srt (fr.set 0 (doneT of cl fr x))) xs
theorem freeT_len (of : Int → Int → Int) (cl : List S67) : ∀ (xs fr : List Int), (freeT of cl fr xs).length = fr.length
  | [], _ => rfl
  | x :: xs, fr => by rw [freeT, freeT_len of cl xs]; simp [srt_length]
theorem runT_len (of : Int → Int → Int) (cl : List S67) : ∀ (xs fr : List Int), (runT of cl fr xs).length = xs.length
  | [], _ => rfl
  | x :: xs, fr => by rw [runT, List.length_cons, runT_len of cl xs]; rfl
theorem runT_at (of : Int → Int → Int) (cl : List S67) : ∀ (xs fr : List Int) (k : Nat) (h : k < xs.length), (runT of cl fr xs)[k]? = some (xs[k], takenT cl (freeT of cl fr (xs.take k)) xs[k], doneT of cl (freeT of cl fr (xs.take k)) xs[k])
  | [], _, _, h => by simp at h
  | x :: xs, fr, 0, h => rfl
  | x :: xs, fr, k + 1, h => by
    have := runT_at of cl xs (srt (fr.set 0 (doneT of cl fr x))) k (by simpa using h)
    simpa [runT, freeT] using this
theorem freeT_snoc (of : Int → Int → Int) (cl : List S67) : ∀ (xs fr : List Int) (x : Int), freeT of cl fr (xs ++ [x]) = srt ((freeT of cl fr xs).set 0 (doneT of cl (freeT of cl fr xs) x))
  | [], _, _ => rfl
  | y :: xs, fr, x => freeT_snoc of cl xs _ x
theorem freeT_next (of : Int → Int → Int) (cl : List S67) (xs fr : List Int) (k : Nat) (h : k < xs.length) : freeT of cl fr (xs.take (k + 1)) = srt ((freeT of cl fr (xs.take k)).set 0 (doneT of cl (freeT of cl fr (xs.take k)) xs[k])) := by
  rw [List.take_succ_eq_append_getElem h, freeT_snoc]
def RvT (x : Int × Int × Int) (vs : Array Value) (W : World) : Prop := vs = #[.agg #[.int .i64 x.1, .int .i64 x.2.1, .int .i64 x.2.2]]
structure CapT (B1 B2 B3 B4 : Nat) (m : Nat) (A2 : Option Addr) (c2 : Nat) (ord : List Int) (A3 : Option Addr) (c3 : Nat) (cl : List S67) (A4 : Option Addr) (c4 : Nat) (rk : List Int) (g : FuncId) (W : World) : Prop where
  b1 : W.heap[B1]? = some (.cells #[.int .i64 (m : Int)] 3 (0, 0))
  b2 : W.heap[B2]? = some (.cells #[.slice A2 ord.length c2] 23 (0, 0))
  b3 : W.heap[B3]? = some (.cells #[.slice A3 cl.length c3, .slice A4 rk.length c4] 99 (0, 0))
  b4 : W.heap[B4]? = some (.cells #[.func (.func g) #[] #[]] 135 (0, 0))
  r2 : Kd.C (Kd.int .i64) W A2 ord.length ord
  r3 : Kd.C k67 W A3 cl.length cl
theorem trunc (W : World) (b : Nat) (h : b ≤ W.heap.size) : ∃ w0 : World, w0.heap.size = b ∧ Below w0.heap.size w0 W := by
  refine ⟨{ W with heap := W.heap.extract 0 b }, by simp; omega, rfl, rfl, rfl, by simp; omega, fun k hk => ?_⟩
  have hk' : k < b := by simp at hk; omega
  show W.heap[k]? = (W.heap.extract 0 b)[k]?
  rw [Array.getElem?_extract]
  simp [hk']; omega
theorem R_keepb {W W' : World} {b g n c : Nat} {ok ok' : Nat → Prop} {xs : List Int} (h : Kd.R (Kd.int .i64) 3 W b ok (.slice (some ⟨g, 0, none⟩) n c) xs) (hs : W'.heap[g]? = W.heap[g]?) (ho : ok' g) : Kd.R (Kd.int .i64) 3 W' b ok' (.slice (some ⟨g, 0, none⟩) n c) xs := by
  refine Kd.R_mono (Kd.R_move (Kd.R_tight rfl h) fun k hk => ?_) (fun k hk => ?_)
  · have e : k = g := by simpa [Value.ownBlock] using hk
    subst e; exact hs
  · have e : k = g := by simpa [Value.ownBlock] using hk
    subst e; exact ho
structure Stopped (p : Prop) : Prop where
  out : p
theorem stop_ (k : Nat) {F : Fence} {n : Nat} {P : Program} {Q : Exit → Act → World → Prop} {a : Act} {w : World} {ops : Array Oper} {d : Bool} {c : Code} (h : Stopped ((Code.seq (Code.region k ops d) c).wpIn F n P Q a w)) : (Code.seq (Code.region k ops d) c).wpIn F n P Q a w := h.out
theorem made_form {w1 : World} {b b0 m : Nat} {v : Value} (ho : Kd.R (Kd.int .i64) 3 w1 b (fun k_ => k_ = b0) v (List.replicate m 0)) (hm : 1 ≤ m) : ∃ cp, v = .slice (some ⟨b0, 0, none⟩) m cp ∧ b0 + 1 ≤ w1.heap.size := by
  rcases R_block ho with ⟨_, h2⟩ | ⟨g, cap, cur, h1, h2, h3, _⟩
  · have := congrArg List.length h2; simp at this; omega
  · have e : g = b0 := ho.1 g (by rw [h1]; rfl)
    subst e
    rw [List.length_replicate] at h1
    exact ⟨cap, h1, (Array.getElem?_eq_some_iff.1 h3).1⟩
set_option maxHeartbeats 16000000 in
set_option maxRecDepth 100000 in
theorem turns_iter (of : Int → Int → Int) (B1 B2 B3 B4 m : Nat) (A2 : Option Addr) (c2 : Nat) (ord : List Int) (A3 : Option Addr) (c3 : Nat) (cl : List S67) (A4 : Option Addr) (c4 : Nat) (rk : List Int) (g : FuncId) (fng : Func) (n : Nat) (w : World) (Ex E : Nat → Prop)
    (hg1 : Tryz.prog.funcs[g]? = some fng) (hg2 : (fng.name == "runtime.NumGoroutine") = false) (hg3 : fng.body.isSome = true)
    (hof : ∀ x y W_, Calls Tryz.prog g #[.agg #[.int .i64 x, .int .i64 y]] W_ fun e w' => e = .returned (.int .i64 (of x y)) ∧ Below W_.heap.size W_ w')
    (hm : 1 ≤ m) (hm2 : m ≤ 1000) (hin : ∀ x ∈ ord, 0 ≤ x ∧ x < (cl.length : Int)) (n34 : B3 ≠ B4) (hE : E 0)
    (hC : ∀ W', w.heap.size ≤ W'.heap.size → (∀ k, k < w.heap.size → ¬ Ex k → W'.heap[k]? = w.heap[k]?) → CapT B1 B2 B3 B4 m A2 c2 ord A3 c3 cl A4 c4 rk g W') :
    IterC Fence.wide n Tryz.prog 99 #[.pointer (some ⟨B1, 0, none⟩), .pointer (some ⟨B2, 0, none⟩), .pointer (some ⟨B3, 0, none⟩), .pointer (some ⟨B4, 0, none⟩)] (runT of cl (List.replicate m 0) ord) RvT Ex 1 E w := by
  intro l J Jx W hW hJ hJx hY h0
  have hcap := hC W hW.size (fun k hk _ => hW.block k hk)
  have hbig : ord.length ≤ 9223372036854775807 := hcap.r2.2.1
  have hc1 : W.cell? ⟨B1, 0, none⟩ = some (.int .i64 (m : Int)) := (blk_cell hcap.b1 0).trans rfl
  have hc2 : W.cell? ⟨B2, 0, none⟩ = some (.slice A2 ord.length c2) := (blk_cell hcap.b2 0).trans rfl
  have hB1l := (Array.getElem?_eq_some_iff.1 hcap.b1).1
  have hB2l := (Array.getElem?_eq_some_iff.1 hcap.b2).1
  have hB3l := (Array.getElem?_eq_some_iff.1 hcap.b3).1
  have hB4l := (Array.getElem?_eq_some_iff.1 hcap.b4).1
  have HC := Aside0.mk hC
  have HJ := Aside0.mk hJ
  have HJx := Aside0.mk hJx
  have HY := Aside0.mk hY
  have HW := Aside0.mk hW
  have HOF := Aside0.mk hof
  have HIN := Aside0.mk hin
  have HCAP := Aside0.mk hcap
  clear hC hJ hJx hY hcap hW hof hin
  obtain ⟨b0, hb0⟩ : ∃ b0, W.heap.size = b0 := ⟨_, rfl⟩
  have hmi : (0 : Int) ≤ (m : Int) := by omega
  have HM := Aside0.mk (show (m : Int).toNat = m from Int.toNat_natCast m)
  refine callsIn_of_wp Tryz.func99 rfl trivial ?_ rfl
  simp only [Tryz.ntmps99, List.size_toArray, List.length_cons, List.length_nil, Nat.reduceAdd, Nat.reduceSub, Array.replicate_succ, Array.replicate_zero, List.push_toArray, List.append_toArray, List.nil_append, List.cons_append]
  go_wp2_with (first
    | ((with_reducible refine gate_dst (N := 12) rfl ?_); refine Kd.R_make (Kd.int .i64) _ 3 rfl (N := 12) rfl 23 _ _ rfl (m : Int) rfl rfl Tryz.underlying23 (.int .i64 0) 8 info3 rfl (by decide) (by omega) 0 (w0 := W) (ok := fun k_ => k_ = b0) (okp := fun _ => False) rfl (fun _ hk => hk.elim) hb0 hmi (by rw [HM.out]; omega) (Below.refl _ _) (Nat.le_refl _) ?_; intro vfr w1 ho1 hb1 hg_ hnew_; clear hg_ hnew_
       rw [HM.out] at ho1
       obtain ⟨cp, rfl, hs1⟩ := made_form ho1 hm
       have hc2' : w1.cell? ⟨B2, 0, none⟩ = some (.slice A2 ord.length c2) := (blk_cell ((hb1.block B2 hB2l).trans HCAP.out.b2) 0).trans rfl
       have hJ1 : J 0 w1 := HJ.out 0 W w1 h0 (IStep.of_below hb1)
       have HB1 := Aside0.mk hb1
       have HO1 := Aside0.mk ho1
       clear hb1 ho1 h0)
    | (with_reducible refine regW_lit_ ?_) | gi_step)
  gi_loopw [15] (fun i wr => ∃ k : Nat, k ≤ ord.length ∧ i = .int .i64 k ∧ J k wr ∧ Aside0 (b0 + 1 ≤ wr.heap.size) ∧ Aside0 (∀ j, j < w.heap.size → ¬ Ex j → wr.heap[j]? = w.heap[j]?) ∧ Aside0 (Kd.R (Kd.int .i64) 3 wr b0 (fun k_ => k_ = b0) (.slice (some ⟨b0, 0, none⟩) m cp) (freeT of cl (List.replicate m 0) (ord.take k))))
    (fun i _ => ord.length - (intOf i).toNat)
  case atStart =>
    refine ⟨0, Nat.zero_le _, rfl, hJ1, ⟨hs1⟩, ⟨fun j hj hx => ?_⟩, ⟨?_⟩⟩
    · have hjW : j < W.heap.size := Nat.lt_of_lt_of_le hj HW.out.size
      exact (HB1.out.block j hjW).trans (HW.out.block j hj)
    · have h_ := HO1.out
      rw [hb0] at h_
      exact h_
  case round =>
    obtain ⟨k, hk, rfl, hJs, HS, HK, HF⟩ := hrel
    clear HO1 HB1 hJ1 hs1 hc1 hc2'
    by_cases hlt : k < ord.length
    · have hcapr := HC.out wr (Nat.le_trans HW.out.size (by rw [hb0]; have := HS.out; omega)) HK.out
      obtain ⟨ad, rfl, hcell⟩ := Kd.at_int hcapr.r2 (k : Int) (by omega) (by omega)
      rw [Int.toNat_natCast] at hcell
      have hrd : rd ord (k : Int) = ord[k] := by simp [rd, List.getD_eq_getElem?_getD, List.getElem?_eq_getElem hlt]
      rw [hrd] at hcell
      have hxi := HIN.out ord[k] (List.getElem_mem hlt)
      have hrun := runT_at of cl ord (List.replicate m 0) k hlt
      have hnext := freeT_next of cl ord (List.replicate m 0) k hlt
      have hfl : (freeT of cl (List.replicate m 0) (ord.take k)).length = m := by rw [freeT_len]; simp
      obtain ⟨w0, hw0, hbw0⟩ := trunc wr b0 (by have := HS.out; omega)
      have hF' : Kd.R (Kd.int .i64) 3 wr w0.heap.size (fun k_ => k_ = b0) (.slice (some ⟨b0, 0, none⟩) m cp) (freeT of cl (List.replicate m 0) (ord.take k)) := by rw [hw0]; exact HF.out
      generalize freeT of cl (List.replicate m 0) (ord.take k) = fr at hrun hnext hfl hF' HF
      generalize ord[k] = x at hcell hrun hnext hxi
      have HCR := Aside0.mk hcapr
      have HRUN := Aside0.mk hrun
      have HNEXT := Aside0.mk hnext
      have HFL := Aside0.mk hfl
      have HW0 := Aside0.mk hw0
      have HBW0 := Aside0.mk hbw0
      have HF2 := Aside0.mk hF'
      have HX := Aside0.mk hxi
      clear hcapr hrun hnext hfl hw0 hbw0 hF' hxi hrd
      go_wp2_with (first
        | (with_reducible refine stop_ 4 ?_)
        | (with_reducible refine regW_lit_ ?_) | gi_step)
      refine ⟨turn_round (fun k_ => k_ = b0) (.slice (some ⟨b0, 0, none⟩) m cp) fr x B3 A3 c3 cl A4 c4 rk B4 g fng w0 wr HBW0.out HF2.out HCR.out.b3 HCR.out.r3 HCR.out.b4 n34 hg1 hg2 hg3 (of ((rd_T67 cl x).f2.f0) ((rd_T67 cl x).f2.f1)) (fun W_ => HOF.out _ _ W_) HX.out.1 HX.out.2 ?c8 _ _ _ _ _ _ _ _ _ _ _ _ _ _ _ _ _ _ _ _ _ _ _ _ _ _ _ _ _ _ _ _ _ _ _ _ _ _ _ _ _ _ _ _ _ _ _ _ [] _ _ _ _ _ ?hc ?hqp ?hq⟩
      case c8 => have := HFL.out; omega
      case hc => kernel_rfl
      case hqp =>
        intro c_ a1_ a2_ w_ e_ h_
        cases a1_
        cases a2_
        cases e_
        exact h_
      case hq =>
        intro g10 w2 z9 z19 z20 z21 z22 z23 z24 z25 z26 z27 z28 z29 z30 z31 z32 z33 z34 z35 z36 z37 z38 z39 z40 z41 z42 z43 z44 hd
        have hdn : wrap64 (mx (rd_T67 cl x).f1 (rd fr 0) + of (rd_T67 cl x).f2.f0 (rd_T67 cl x).f2.f1) = doneT of cl fr x := rfl
        have htk : mx (rd_T67 cl x).f1 (rd fr 0) = takenT cl fr x := rfl
        rw [hdn, htk] at hd
        generalize doneT of cl fr x = dn at hd HRUN HNEXT
        generalize takenT cl fr x = tk at hd HRUN
        obtain ⟨t1, t2, t3, t4, t5⟩ := hd
        have ht3 : Kd.R (Kd.int .i64) 3 w2 b0 (fun _ => True) (.slice (some ⟨b0, 0, none⟩) m cp) (fr.set 0 dn) := by rw [HW0.out] at t3; exact Kd.R_mono t3 (fun _ _ => trivial)
        have hsrt := sort_calls ht3 (by rw [List.length_set, HFL.out]; omega)
        rw [HNEXT.out.symm] at hsrt
        have HSRT := Aside0.mk hsrt
        have T1 := Aside0.mk t1
        have T2 := Aside0.mk t2
        have T4 := Aside0.mk t4
        have T5 := Aside0.mk t5
        clear hsrt t1 t2 t3 t4 t5 ht3 htk hdn
        have hu107 := Tryz.underlying107
        go_wp2_with (first
          | (go_at_call 100; refine HSRT.out.mono ?_; rintro e w3 ⟨rfl, hr3, hg3⟩)
          | (with_reducible refine stop_ 9 ?_)
          | (with_reducible refine regW_lit_ ?_) | gi_step)
        have hgb : w3.heap[g10]? = some (.cells #[.int .i64 x, .int .i64 tk, .int .i64 dn] 107 (0, 0)) := (hg3.block g10 (Array.getElem?_eq_some_iff.1 T1.out).1 (fun e_ => by have h1_ := T2.out; have h2_ := HS.out; have e2 : g10 = b0 := (by simpa [Value.ownBlock] using e_); omega)).trans T1.out
        have hz0 : w3.cell? ⟨g10, 0, none⟩ = some (.int .i64 x) := (blk_cell hgb 0).trans rfl
        have hz1 : w3.cell? ⟨g10, 1, none⟩ = some (.int .i64 tk) := (blk_cell hgb 1).trans rfl
        have hz2 : w3.cell? ⟨g10, 2, none⟩ = some (.int .i64 dn) := (blk_cell hgb 2).trans rfl
        have hsz2 : wr.heap.size ≤ w2.heap.size := T5.out.1
        have hsame : ∀ j, j < wr.heap.size → j ≠ b0 → w3.heap[j]? = wr.heap[j]? := fun j hj hne => (hg3.block j (by omega) (fun e_ => hne (by simpa [Value.ownBlock] using e_))).trans (T5.out.2 j hj hne)
        have hst : IStep W.heap.size W.heap.size 1 wr w3 := ⟨hg3.os.trans (T4.out.os.trans HBW0.out.os.symm), hg3.tape.trans (T4.out.tape.trans HBW0.out.tape.symm), hg3.output.trans (T4.out.output.trans HBW0.out.output.symm), Nat.le_trans hsz2 hg3.size, fun j o ho h1 _ => (hsame j (Array.getElem?_eq_some_iff.1 ho).1 (by omega)).trans ho⟩
        have hsz3 := hg3.size
        obtain ⟨fn, tmps, assign, body, hy, hR⟩ := HY.out k (x, tk, dn) #[.agg #[.int .i64 x, .int .i64 tk, .int .i64 dn]] w3 HRUN.out (HJ.out k wr w3 hJs hst) rfl (by have := HS.out; omega)
        have HR := Aside0.mk hR
        have HR3 := Aside0.mk hr3
        have HSM := Aside0.mk hsame
        have HZ3 := Aside0.mk (Nat.le_trans hsz2 hsz3)
        clear hR hr3 hsame hst hg3 hgb hsz2 hsz3
        refine ⟨?_⟩
        gi_wp2
        refine ⟨fun h0_ => (by cases h0_), HR.out.mono ?_⟩
        rintro e W3 (⟨rfl, hJ3, hk3⟩ | ⟨rfl, hJx3, hk3⟩)
        · have H3 := Aside0.mk hk3
          clear hk3
          gi_wp2
          go_roundw
          case rel =>
            refine ⟨k + 1, by omega, by simp, hJ3, ⟨?_⟩, ⟨fun j hj hx => ?_⟩, ⟨?_⟩⟩
            · have h1_ := H3.out.size; have h2_ := HZ3.out; have h3_ := HS.out; omega
            · have hjr : j < wr.heap.size := by have h1_ := HW.out.size; have h2_ := HS.out; omega
              exact (H3.out.same j (by have h1_ := HZ3.out; omega) (.inl ⟨hj, hx⟩)).trans ((HSM.out j hjr (by have h1_ := HW.out.size; omega)).trans (HK.out j hj hx))
            · exact R_keepb HR3.out (H3.out.same b0 (by have h1_ := HZ3.out; have h2_ := HS.out; omega) (.inr ⟨by omega, by rw [hb0, Nat.sub_self]; exact hE⟩)) rfl
          case measure => simp [intOf]; omega
        · clear hk3
          gi_wp2
          refine bodyPost_ret (results_none rfl _ _ _) rfl ?_
          refine ⟨⟨_, rfl⟩, .inr ⟨_, ?_, hJx3⟩⟩
          rw [runT_len]; omega
    · obtain rfl : k = ord.length := by omega
      gi_wp2
      go_end0
      refine ⟨⟨_, rfl⟩, .inl ?_⟩
      rw [runT_len]
      exact hJs
set_option maxHeartbeats 1000000 in
theorem turns_calls (A3 : Option Addr) (n3 c3 : Nat) (A4 : Option Addr) (n4 c4 : Nat) (A2 : Option Addr) (n2 c2 : Nat) (m : Int) (g : FuncId) (w : World) :
    Calls Tryz.prog 65 #[.agg #[.slice A3 n3 c3, .slice A4 n4 c4], .slice A2 n2 c2, .int .i64 m, .func (.func g) #[] #[]] w fun e w' =>
      e = .returned (.func (.func 99) #[] #[.pointer (some ⟨w.heap.size + 2, 0, none⟩), .pointer (some ⟨w.heap.size + 1, 0, none⟩), .pointer (some ⟨w.heap.size, 0, none⟩), .pointer (some ⟨w.heap.size + 3, 0, none⟩)]) ∧
      w' = (((w.alloc (.cells #[.slice A3 n3 c3, .slice A4 n4 c4] 99)).alloc (.cells #[.slice A2 n2 c2] 23)).alloc (.cells #[.int .i64 m] 3)).alloc (.cells #[.func (.func g) #[] #[]] 135) := by
  have hu1 := Tryz.underlying99
  have hu2 := Tryz.underlying25
  have hu3 := Tryz.underlying135
  go_enter Tryz.func65, Tryz.ntmps65
  go_wp2
  go_ret
  exact ⟨rfl, rfl⟩
theorem four_alloc (w : World) (o1 o2 o3 o4 : Obj) : let w' := (((w.alloc o1).alloc o2).alloc o3).alloc o4; Below w.heap.size w w' ∧ w'.heap.size = w.heap.size + 4 ∧ w'.heap[w.heap.size]? = some o1 ∧ w'.heap[w.heap.size + 1]? = some o2 ∧ w'.heap[w.heap.size + 2]? = some o3 ∧ w'.heap[w.heap.size + 3]? = some o4 := by
  intro w'
  have s1 : (w.alloc o1).heap.size = w.heap.size + 1 := World.size_alloc _ _
  have s2 : ((w.alloc o1).alloc o2).heap.size = w.heap.size + 2 := by rw [World.size_alloc, s1]
  have s3 : (((w.alloc o1).alloc o2).alloc o3).heap.size = w.heap.size + 3 := by rw [World.size_alloc, s2]
  have e1 := World.alloc_heap_new w o1
  have e2 := World.alloc_heap_new (w.alloc o1) o2
  have e3 := World.alloc_heap_new ((w.alloc o1).alloc o2) o3
  have e4 := World.alloc_heap_new (((w.alloc o1).alloc o2).alloc o3) o4
  rw [s1] at e2
  rw [s2] at e3
  rw [s3] at e4
  refine ⟨(((Below.refl _ w).alloc (Nat.le_refl _) _).alloc (by omega) _).alloc (by omega) _ |>.alloc (by omega) _, by show (World.alloc _ o4).heap.size = _; rw [World.size_alloc, s3], ?_, ?_, ?_, e4⟩
  · exact (Below.heap_alloc _ _ _ (by omega)).trans ((Below.heap_alloc _ _ _ (by omega)).trans ((Below.heap_alloc _ _ _ (by omega)).trans e1))
  · exact (Below.heap_alloc _ _ _ (by omega)).trans ((Below.heap_alloc _ _ _ (by omega)).trans e2)
  · exact (Below.heap_alloc _ _ _ (by omega)).trans e3
end Go.Proofs.YtlmglnobdcgbeaaGreat.P
