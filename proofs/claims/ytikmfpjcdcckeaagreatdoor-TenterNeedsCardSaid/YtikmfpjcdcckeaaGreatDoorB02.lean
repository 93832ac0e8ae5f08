/- Part 2 of what the law's proof needs: words, walks of functions and plain facts. -/
import Derived.Shelf.SlicesQ.Load
import Derived.Shelf.Abstract
import Derived.Lib.Hide
import Derived.Lib.BufferMore
import Derived.Lib.LazyBuf
import Derived.Test.YtikmfpjcdcckeaaGreatDoorB01
set_option linter.unusedVariables false
set_option linter.unusedSimpArgs false
namespace Go.Proofs.YtikmfpjcdcckeaaGreatDoor.P
open Go.RowKit Go.Proofs.YtikmfpjcdcckeaaGreatDoorW.PrintWords Go.Proofs.YtikmfpjcdcckeaaGreatDoorW.PrintLast Go.Proofs.YtikmfpjcdcckeaaGreatDoorW.PrintMore
attribute [local go_sem] max2_int min2_int max_two min_two max_three min_three max_four min_four
def tenter_isSpan.f (a0_0 : Int) (a0_1 : Int) (a1 : Int) (a2 : Int) : Option (Bool) := (tenter_within.f a1 a2 (([a0_0, a0_1] : List Int))).bind fun t105 => (if t105 = true then (some (decide (a0_0 ≤ a0_1))) else (some false))
set_option maxHeartbeats 8000000 in
set_option maxRecDepth 100000 in
theorem tenter_isSpan.calls (a0_0 : Int) (a0_1 : Int) (a1 : Int) (a2 : Int) (r : Bool) (w : World) (h : tenter_isSpan.f a0_0 a0_1 a1 a2 = some r) :
    Calls Tryz.prog 54 #[.agg #[.int .i64 a0_0, .int .i64 a0_1], .int .i64 a1, .int .i64 a2] w fun e w' => e = .returned (.bool r) ∧ Below w.heap.size w w' := by
  have hu36 := Tryz.underlying36
  have HB := Aside0.mk (Below.refl w.heap.size w)
  have H : ((tenter_within.f a1 a2 (([a0_0, a0_1] : List Int))).bind fun t105 => (if t105 = true then (some (decide (a0_0 ≤ a0_1))) else (some false))) = some r := h
  clear h
  obtain ⟨y102, hy102⟩ : ∃ y_ : List Int, y_ = (([a0_0, a0_1] : List Int)) := ⟨_, rfl⟩
  replace H : ((tenter_within.f a1 a2 y102).bind fun t105 => (if t105 = true then (some (decide (a0_0 ≤ a0_1))) else (some false))) = some r := by first | (rw [hy102]; with_reducible exact H) | (have H2_ := (Option.bind_some _ _).symm.trans H; rw [hy102]; with_reducible exact H2_) | (have H2_ := (Option.bind_some _ _).symm.trans H; with_reducible exact H2_) | with_reducible exact H | (rw [hy102]; exact H) | exact H
  have Ny102 := Aside0.mk hy102
  clear hy102
  replace H := Option.bind_eq_some_iff.mp H
  obtain ⟨t105, A40, H⟩ := H
  replace H : (if t105 = true then (some (decide (a0_0 ≤ a0_1))) else (some false)) = some r := H
  have A4 := Aside0.mk A40
  clear A40
  by_cases c5 : t105 = true
  · subst c5
    have H1 : (some (decide (a0_0 ≤ a0_1))) = some r := by rw [if_pos rfl] at H; exact H
    clear H
    have H := H1
    clear H1
    obtain rfl := Option.some.inj H
    go_enter Tryz.func54, Tryz.ntmps54
    go_wp2_with (first | ((with_reducible refine gate_dst (N := 3) rfl ?_); refine box_event ?hg (N := 3) ?hd (cs := #[.int .i64 a0_0, .int .i64 a0_1]) (t := 36) ?hr ?_; (case hd => rfl); (case hg => rfl); (case hr => first | (go_simp; done) | (go_simp; rfl)); intro gb101 hg w6 hbox hb; have n0_ := Aside0.mk (below_step (by repeat (first | (with_reducible first | exact HB.out | apply below_alloc | apply pw_below_drewN | apply below_drew1) | exact HB.out)) hb); have n1_ := Aside0.mk (hbox); have n2_ := Aside0.mk ((by rw [hg]; exact (below_size (by repeat (first | (with_reducible first | exact HB.out | apply below_alloc | apply pw_below_drewN | apply below_drew1) | exact HB.out))) : w.heap.size ≤ gb101)); have n3_ := Aside0.mk ((by rw [hg]; exact (below_size (by repeat (first | (with_reducible first | exact HB.out | apply below_alloc | apply pw_below_drewN | apply below_drew1) | exact HB.out))) : w.heap.size ≤ gb101)); clear HB; have HB := n0_; have BK101 := n1_; have GW101 := n2_; have GE101 := n3_; clear n0_ n1_ n2_ n3_; clear hb hbox hg; have hcz7_0 : w6.cell? ⟨gb101, 0, none⟩ = some (.int .i64 a0_0) := (blk_cell BK101.out 0).trans rfl; have hcz7_1 : w6.cell? ⟨gb101, 1, none⟩ = some (.int .i64 a0_1) := (blk_cell BK101.out 1).trans rfl; have hfz7_0 := blk_frozen BK101.out 0; have hfz7_1 := blk_frozen BK101.out 1) | ((with_reducible refine gate_dst (N := 13) rfl ?_); refine Kd.R_lit (Kd.int .i64) _ 3 ?hg (N := 13) ?hd (xs := ([a0_0, a0_1] : List Int)) (inner := [.int .i64 a0_0, .int .i64 a0_1]) (ok := fun _ => True) (okp := fun _ => True) ?hr ?hp (fun _ hk => hk) trivial (Below.refl _ _) (Nat.le_refl _) (by simp) ?_; (case hd => rfl); (case hg => rfl); (case hr => first | (go_simp; done) | (go_simp; rfl)); (case hp => exact (Reps.one (show Kd.M (Kd.int .i64) _ _ _ a0_0 [.int .i64 a0_0] from rfl) (Reps.one (show Kd.M (Kd.int .i64) _ _ _ a0_1 [.int .i64 a0_1] from rfl) (Reps.none _ _)))); intro v103 w8 ho9 hb hg_ hnew_; clear hg_ hnew_; (first | rw [← Ny102.out] at ho9 | (simp only [Int.reduceToNat] at ho9; rw [← Ny102.out] at ho9)); have n0_ := Aside0.mk (Kd.R_lower ho9 (below_size (by repeat (first | (with_reducible first | exact HB.out | apply below_alloc | apply pw_below_drewN | apply below_drew1 | refine below_set ?_ GE101.out) | exact HB.out)))); have n1_ := Aside0.mk (blk_below (g := gb101) (o := .cells #[.int .i64 a0_0, .int .i64 a0_1] 36 (0, 0)) (by (with_reducible repeat (first | refine blk_drewN ?_ _ | refine blk_drew ?_ | refine blk_alloc ?_ _)); exact BK101.out) hb); have n2_ := Aside0.mk (below_step (by repeat (first | (with_reducible first | exact HB.out | apply below_alloc | apply pw_below_drewN | apply below_drew1 | refine below_set ?_ GE101.out) | exact HB.out)) hb); clear BK101; clear HB; have HO104 := n0_; have BK101 := n1_; have HB := n2_; clear n0_ n1_ n2_; clear hb ho9; obtain ⟨Ao10, co10, eo10⟩ := Kd.R_slice HO104.out; subst eo10) | ((with_reducible refine gate_callee (f := 55) rfl ?_); refine goesL_ (some 14) rfl rfl Tryz.func55 (by kernel_rfl) rfl #[.int .i64 a1, .int .i64 a2, .slice Ao10 y102.length co10] rfl (by (try simp only [List.map_toArray, List.map_cons, List.map_nil]); first | done | rfl | (simp only [List.length_drop, List.length_take]; rfl)) ?_; (with_reducible refine (tenter_within.calls a1 a2 _ _ y102 true _ ?side1 ?side2 A4.out).mono ?_); (case side1 => repeat (first | exact (Kd.R_reads' HO104.out).2.2 | (with_reducible refine Kd.C_alloc ?_ _) | (with_reducible refine Kd.C_drewN ?_ _) | (with_reducible refine Kd.C_drew ?_))); (case side2 => exact (Kd.R_reads' HO104.out).2.1); rintro e w11 ⟨rfl, hb⟩; refine ⟨_, rfl, ?_⟩; have n0_ := Aside0.mk (Kd.R_below (by (with_reducible repeat (first | apply Kd.R_alloc | apply Kd.R_drewN | apply Kd.R_drew)); exact HO104.out) hb); have n1_ := Aside0.mk (blk_below (g := gb101) (o := .cells #[.int .i64 a0_0, .int .i64 a0_1] 36 (0, 0)) (by (with_reducible repeat (first | refine blk_drewN ?_ _ | refine blk_drew ?_ | refine blk_alloc ?_ _)); exact BK101.out) hb); have n2_ := Aside0.mk (below_step (by repeat (first | (with_reducible first | exact HB.out | apply below_alloc | apply pw_below_drewN | apply below_drew1 | refine below_set ?_ GE101.out) | exact HB.out)) hb); clear HO104; clear BK101; clear HB; have HO104 := n0_; have BK101 := n1_; have HB := n2_; clear n0_ n1_ n2_; (try clear hb); (try clear hb2); (try clear hk); (try clear hi); have hcz12_0 : w11.cell? ⟨gb101, 0, none⟩ = some (.int .i64 a0_0) := (blk_cell BK101.out 0).trans rfl; have hcz12_1 : w11.cell? ⟨gb101, 1, none⟩ = some (.int .i64 a0_1) := (blk_cell BK101.out 1).trans rfl; have hfz12_0 := blk_frozen BK101.out 0; have hfz12_1 := blk_frozen BK101.out 1))
    go_ret
    exact ⟨by first | rfl | (simp [errW_none, errW_some] <;> rfl) | (simp [*, errW_none, errW_some] <;> rfl), by repeat (first | (with_reducible first | exact HB.out | apply below_alloc | apply pw_below_drewN | apply below_drew1 | refine below_set ?_ GE101.out) | exact HB.out)⟩
  · replace c5 := Bool.eq_false_iff.mpr c5
    subst c5
    have H1 : (some false) = some r := by rw [if_neg (show ¬ (false = true) by decide)] at H; exact H
    clear H
    have H := H1
    clear H1
    obtain rfl := Option.some.inj H
    go_enter Tryz.func54, Tryz.ntmps54
    go_wp2_with (first | ((with_reducible refine gate_dst (N := 3) rfl ?_); refine box_event ?hg (N := 3) ?hd (cs := #[.int .i64 a0_0, .int .i64 a0_1]) (t := 36) ?hr ?_; (case hd => rfl); (case hg => rfl); (case hr => first | (go_simp; done) | (go_simp; rfl)); intro gb101 hg w13 hbox hb; have n0_ := Aside0.mk (below_step (by repeat (first | (with_reducible first | exact HB.out | apply below_alloc | apply pw_below_drewN | apply below_drew1) | exact HB.out)) hb); have n1_ := Aside0.mk (hbox); have n2_ := Aside0.mk ((by rw [hg]; exact (below_size (by repeat (first | (with_reducible first | exact HB.out | apply below_alloc | apply pw_below_drewN | apply below_drew1) | exact HB.out))) : w.heap.size ≤ gb101)); have n3_ := Aside0.mk ((by rw [hg]; exact (below_size (by repeat (first | (with_reducible first | exact HB.out | apply below_alloc | apply pw_below_drewN | apply below_drew1) | exact HB.out))) : w.heap.size ≤ gb101)); clear HB; have HB := n0_; have BK101 := n1_; have GW101 := n2_; have GE101 := n3_; clear n0_ n1_ n2_ n3_; clear hb hbox hg; have hcz14_0 : w13.cell? ⟨gb101, 0, none⟩ = some (.int .i64 a0_0) := (blk_cell BK101.out 0).trans rfl; have hcz14_1 : w13.cell? ⟨gb101, 1, none⟩ = some (.int .i64 a0_1) := (blk_cell BK101.out 1).trans rfl; have hfz14_0 := blk_frozen BK101.out 0; have hfz14_1 := blk_frozen BK101.out 1) | ((with_reducible refine gate_dst (N := 13) rfl ?_); refine Kd.R_lit (Kd.int .i64) _ 3 ?hg (N := 13) ?hd (xs := ([a0_0, a0_1] : List Int)) (inner := [.int .i64 a0_0, .int .i64 a0_1]) (ok := fun _ => True) (okp := fun _ => True) ?hr ?hp (fun _ hk => hk) trivial (Below.refl _ _) (Nat.le_refl _) (by simp) ?_; (case hd => rfl); (case hg => rfl); (case hr => first | (go_simp; done) | (go_simp; rfl)); (case hp => exact (Reps.one (show Kd.M (Kd.int .i64) _ _ _ a0_0 [.int .i64 a0_0] from rfl) (Reps.one (show Kd.M (Kd.int .i64) _ _ _ a0_1 [.int .i64 a0_1] from rfl) (Reps.none _ _)))); intro v103 w15 ho16 hb hg_ hnew_; clear hg_ hnew_; (first | rw [← Ny102.out] at ho16 | (simp only [Int.reduceToNat] at ho16; rw [← Ny102.out] at ho16)); have n0_ := Aside0.mk (Kd.R_lower ho16 (below_size (by repeat (first | (with_reducible first | exact HB.out | apply below_alloc | apply pw_below_drewN | apply below_drew1 | refine below_set ?_ GE101.out) | exact HB.out)))); have n1_ := Aside0.mk (blk_below (g := gb101) (o := .cells #[.int .i64 a0_0, .int .i64 a0_1] 36 (0, 0)) (by (with_reducible repeat (first | refine blk_drewN ?_ _ | refine blk_drew ?_ | refine blk_alloc ?_ _)); exact BK101.out) hb); have n2_ := Aside0.mk (below_step (by repeat (first | (with_reducible first | exact HB.out | apply below_alloc | apply pw_below_drewN | apply below_drew1 | refine below_set ?_ GE101.out) | exact HB.out)) hb); clear BK101; clear HB; have HO104 := n0_; have BK101 := n1_; have HB := n2_; clear n0_ n1_ n2_; clear hb ho16; obtain ⟨Ao17, co17, eo17⟩ := Kd.R_slice HO104.out; subst eo17) | ((with_reducible refine gate_callee (f := 55) rfl ?_); refine goesL_ (some 14) rfl rfl Tryz.func55 (by kernel_rfl) rfl #[.int .i64 a1, .int .i64 a2, .slice Ao17 y102.length co17] rfl (by (try simp only [List.map_toArray, List.map_cons, List.map_nil]); first | done | rfl | (simp only [List.length_drop, List.length_take]; rfl)) ?_; (with_reducible refine (tenter_within.calls a1 a2 _ _ y102 false _ ?side1 ?side2 A4.out).mono ?_); (case side1 => repeat (first | exact (Kd.R_reads' HO104.out).2.2 | (with_reducible refine Kd.C_alloc ?_ _) | (with_reducible refine Kd.C_drewN ?_ _) | (with_reducible refine Kd.C_drew ?_))); (case side2 => exact (Kd.R_reads' HO104.out).2.1); rintro e w18 ⟨rfl, hb⟩; refine ⟨_, rfl, ?_⟩; have n0_ := Aside0.mk (Kd.R_below (by (with_reducible repeat (first | apply Kd.R_alloc | apply Kd.R_drewN | apply Kd.R_drew)); exact HO104.out) hb); have n1_ := Aside0.mk (blk_below (g := gb101) (o := .cells #[.int .i64 a0_0, .int .i64 a0_1] 36 (0, 0)) (by (with_reducible repeat (first | refine blk_drewN ?_ _ | refine blk_drew ?_ | refine blk_alloc ?_ _)); exact BK101.out) hb); have n2_ := Aside0.mk (below_step (by repeat (first | (with_reducible first | exact HB.out | apply below_alloc | apply pw_below_drewN | apply below_drew1 | refine below_set ?_ GE101.out) | exact HB.out)) hb); clear HO104; clear BK101; clear HB; have HO104 := n0_; have BK101 := n1_; have HB := n2_; clear n0_ n1_ n2_; (try clear hb); (try clear hb2); (try clear hk); (try clear hi)))
    go_ret
    exact ⟨by first | rfl | (simp [errW_none, errW_some] <;> rfl) | (simp [*, errW_none, errW_some] <;> rfl), by repeat (first | (with_reducible first | exact HB.out | apply below_alloc | apply pw_below_drewN | apply below_drew1 | refine below_set ?_ GE101.out) | exact HB.out)⟩
def tenter_Check_1.f (a0_0 : Int) (a0_1 : Int) (a0_2 : Int) (a0_3 : Int) : Option (Bool) := (tenter_isSpan.f a0_0 a0_1 1 2000).bind fun t102 => (if t102 = true then ((tenter_isSpan.f a0_2 a0_3 0 500).bind fun t103 => (some (!t103))) else (some true))
set_option maxHeartbeats 8000000 in
set_option maxRecDepth 100000 in
theorem tenter_Check_1.calls (a0_0 : Int) (a0_1 : Int) (a0_2 : Int) (a0_3 : Int) (r : Bool) (w : World) (h : tenter_Check_1.f a0_0 a0_1 a0_2 a0_3 = some r) :
    Calls Tryz.prog 53 #[.agg #[.int .i64 a0_0, .int .i64 a0_1, .int .i64 a0_2, .int .i64 a0_3]] w fun e w' => e = .returned (.bool r) ∧ Below w.heap.size w w' := by
  have hu43 := Tryz.underlying43
  have hu36 := Tryz.underlying36
  have HB := Aside0.mk (Below.refl w.heap.size w)
  have H : ((tenter_isSpan.f a0_0 a0_1 1 2000).bind fun t102 => (if t102 = true then ((tenter_isSpan.f a0_2 a0_3 0 500).bind fun t103 => (some (!t103))) else (some true))) = some r := h
  clear h
  replace H := Option.bind_eq_some_iff.mp H
  obtain ⟨t102, A20, H⟩ := H
  replace H : (if t102 = true then ((tenter_isSpan.f a0_2 a0_3 0 500).bind fun t103 => (some (!t103))) else (some true)) = some r := H
  have A2 := Aside0.mk A20
  clear A20
  by_cases c3 : t102 = true
  · subst c3
    have H1 : ((tenter_isSpan.f a0_2 a0_3 0 500).bind fun t103 => (some (!t103))) = some r := by rw [if_pos rfl] at H; exact H
    clear H
    have H := H1
    clear H1
    replace H := Option.bind_eq_some_iff.mp H
    obtain ⟨t103, A40, H⟩ := H
    replace H : (some (!t103)) = some r := H
    have A4 := Aside0.mk A40
    clear A40
    obtain rfl := Option.some.inj H
    go_enter Tryz.func53, Tryz.ntmps53
    go_wp2_with (first | ((with_reducible refine gate_dst (N := 1) rfl ?_); refine box_event ?hg (N := 1) ?hd (cs := #[.int .i64 a0_0, .int .i64 a0_1, .int .i64 a0_2, .int .i64 a0_3]) (t := 43) ?hr ?_; (case hd => rfl); (case hg => rfl); (case hr => first | (go_simp; done) | (go_simp; rfl)); intro gb101 hg w5 hbox hb; have n0_ := Aside0.mk (below_step (by repeat (first | (with_reducible first | exact HB.out | apply below_alloc | apply pw_below_drewN | apply below_drew1) | exact HB.out)) hb); have n1_ := Aside0.mk (hbox); have n2_ := Aside0.mk ((by rw [hg]; exact (below_size (by repeat (first | (with_reducible first | exact HB.out | apply below_alloc | apply pw_below_drewN | apply below_drew1) | exact HB.out))) : w.heap.size ≤ gb101)); have n3_ := Aside0.mk ((by rw [hg]; exact (below_size (by repeat (first | (with_reducible first | exact HB.out | apply below_alloc | apply pw_below_drewN | apply below_drew1) | exact HB.out))) : w.heap.size ≤ gb101)); clear HB; have HB := n0_; have BK101 := n1_; have GW101 := n2_; have GE101 := n3_; clear n0_ n1_ n2_ n3_; clear hb hbox hg; have hcz6_0 : w5.cell? ⟨gb101, 0, none⟩ = some (.int .i64 a0_0) := (blk_cell BK101.out 0).trans rfl; have hcz6_1 : w5.cell? ⟨gb101, 1, none⟩ = some (.int .i64 a0_1) := (blk_cell BK101.out 1).trans rfl; have hcz6_2 : w5.cell? ⟨gb101, 2, none⟩ = some (.int .i64 a0_2) := (blk_cell BK101.out 2).trans rfl; have hcz6_3 : w5.cell? ⟨gb101, 3, none⟩ = some (.int .i64 a0_3) := (blk_cell BK101.out 3).trans rfl; have hfz6_0 := blk_frozen BK101.out 0; have hfz6_1 := blk_frozen BK101.out 1; have hfz6_2 := blk_frozen BK101.out 2; have hfz6_3 := blk_frozen BK101.out 3) | ((with_reducible refine gate_callee (f := 54) rfl ?_); refine goesL_ (some 5) rfl rfl Tryz.func54 (by kernel_rfl) rfl #[.agg #[.int .i64 a0_0, .int .i64 a0_1], .int .i64 1, .int .i64 2000] rfl (by (try simp only [List.map_toArray, List.map_cons, List.map_nil]); first | done | rfl | (simp only [List.length_drop, List.length_take]; rfl)) ?_; (with_reducible refine (tenter_isSpan.calls a0_0 a0_1 1 2000 true _ A2.out).mono ?_); rintro e w7 ⟨rfl, hb⟩; refine ⟨_, rfl, ?_⟩; have n0_ := Aside0.mk (blk_below (g := gb101) (o := .cells #[.int .i64 a0_0, .int .i64 a0_1, .int .i64 a0_2, .int .i64 a0_3] 43 (0, 0)) (by (with_reducible repeat (first | refine blk_drewN ?_ _ | refine blk_drew ?_ | refine blk_alloc ?_ _)); exact BK101.out) hb); have n1_ := Aside0.mk (below_step (by repeat (first | (with_reducible first | exact HB.out | apply below_alloc | apply pw_below_drewN | apply below_drew1 | refine below_set ?_ GE101.out) | exact HB.out)) hb); clear BK101; clear HB; have BK101 := n0_; have HB := n1_; clear n0_ n1_; (try clear hb); (try clear hb2); (try clear hk); (try clear hi); have hcz8_0 : w7.cell? ⟨gb101, 0, none⟩ = some (.int .i64 a0_0) := (blk_cell BK101.out 0).trans rfl; have hcz8_1 : w7.cell? ⟨gb101, 1, none⟩ = some (.int .i64 a0_1) := (blk_cell BK101.out 1).trans rfl; have hcz8_2 : w7.cell? ⟨gb101, 2, none⟩ = some (.int .i64 a0_2) := (blk_cell BK101.out 2).trans rfl; have hcz8_3 : w7.cell? ⟨gb101, 3, none⟩ = some (.int .i64 a0_3) := (blk_cell BK101.out 3).trans rfl; have hfz8_0 := blk_frozen BK101.out 0; have hfz8_1 := blk_frozen BK101.out 1; have hfz8_2 := blk_frozen BK101.out 2; have hfz8_3 := blk_frozen BK101.out 3) | (go_at_call 54; (with_reducible refine (tenter_isSpan.calls a0_2 a0_3 0 500 t103 _ A4.out).mono ?_); rintro e w9 ⟨rfl, hb⟩; have n0_ := Aside0.mk (blk_below (g := gb101) (o := .cells #[.int .i64 a0_0, .int .i64 a0_1, .int .i64 a0_2, .int .i64 a0_3] 43 (0, 0)) (by (with_reducible repeat (first | refine blk_drewN ?_ _ | refine blk_drew ?_ | refine blk_alloc ?_ _)); exact BK101.out) hb); have n1_ := Aside0.mk (below_step (by repeat (first | (with_reducible first | exact HB.out | apply below_alloc | apply pw_below_drewN | apply below_drew1 | refine below_set ?_ GE101.out) | exact HB.out)) hb); clear BK101; clear HB; have BK101 := n0_; have HB := n1_; clear n0_ n1_; (try clear hb); (try clear hb2); (try clear hk); (try clear hi)))
    go_ret
    exact ⟨by first | rfl | (simp [errW_none, errW_some] <;> rfl) | (simp [*, errW_none, errW_some] <;> rfl), by repeat (first | (with_reducible first | exact HB.out | apply below_alloc | apply pw_below_drewN | apply below_drew1 | refine below_set ?_ GE101.out) | exact HB.out)⟩
  · replace c3 := Bool.eq_false_iff.mpr c3
    subst c3
    have H1 : (some true) = some r := by rw [if_neg (show ¬ (false = true) by decide)] at H; exact H
    clear H
    have H := H1
    clear H1
    obtain rfl := Option.some.inj H
    go_enter Tryz.func53, Tryz.ntmps53
    go_wp2_with (first | ((with_reducible refine gate_dst (N := 1) rfl ?_); refine box_event ?hg (N := 1) ?hd (cs := #[.int .i64 a0_0, .int .i64 a0_1, .int .i64 a0_2, .int .i64 a0_3]) (t := 43) ?hr ?_; (case hd => rfl); (case hg => rfl); (case hr => first | (go_simp; done) | (go_simp; rfl)); intro gb101 hg w10 hbox hb; have n0_ := Aside0.mk (below_step (by repeat (first | (with_reducible first | exact HB.out | apply below_alloc | apply pw_below_drewN | apply below_drew1) | exact HB.out)) hb); have n1_ := Aside0.mk (hbox); have n2_ := Aside0.mk ((by rw [hg]; exact (below_size (by repeat (first | (with_reducible first | exact HB.out | apply below_alloc | apply pw_below_drewN | apply below_drew1) | exact HB.out))) : w.heap.size ≤ gb101)); have n3_ := Aside0.mk ((by rw [hg]; exact (below_size (by repeat (first | (with_reducible first | exact HB.out | apply below_alloc | apply pw_below_drewN | apply below_drew1) | exact HB.out))) : w.heap.size ≤ gb101)); clear HB; have HB := n0_; have BK101 := n1_; have GW101 := n2_; have GE101 := n3_; clear n0_ n1_ n2_ n3_; clear hb hbox hg; have hcz11_0 : w10.cell? ⟨gb101, 0, none⟩ = some (.int .i64 a0_0) := (blk_cell BK101.out 0).trans rfl; have hcz11_1 : w10.cell? ⟨gb101, 1, none⟩ = some (.int .i64 a0_1) := (blk_cell BK101.out 1).trans rfl; have hcz11_2 : w10.cell? ⟨gb101, 2, none⟩ = some (.int .i64 a0_2) := (blk_cell BK101.out 2).trans rfl; have hcz11_3 : w10.cell? ⟨gb101, 3, none⟩ = some (.int .i64 a0_3) := (blk_cell BK101.out 3).trans rfl; have hfz11_0 := blk_frozen BK101.out 0; have hfz11_1 := blk_frozen BK101.out 1; have hfz11_2 := blk_frozen BK101.out 2; have hfz11_3 := blk_frozen BK101.out 3) | ((with_reducible refine gate_callee (f := 54) rfl ?_); refine goesL_ (some 5) rfl rfl Tryz.func54 (by kernel_rfl) rfl #[.agg #[.int .i64 a0_0, .int .i64 a0_1], .int .i64 1, .int .i64 2000] rfl (by (try simp only [List.map_toArray, List.map_cons, List.map_nil]); first | done | rfl | (simp only [List.length_drop, List.length_take]; rfl)) ?_; (with_reducible refine (tenter_isSpan.calls a0_0 a0_1 1 2000 false _ A2.out).mono ?_); rintro e w12 ⟨rfl, hb⟩; refine ⟨_, rfl, ?_⟩; have n0_ := Aside0.mk (blk_below (g := gb101) (o := .cells #[.int .i64 a0_0, .int .i64 a0_1, .int .i64 a0_2, .int .i64 a0_3] 43 (0, 0)) (by (with_reducible repeat (first | refine blk_drewN ?_ _ | refine blk_drew ?_ | refine blk_alloc ?_ _)); exact BK101.out) hb); have n1_ := Aside0.mk (below_step (by repeat (first | (with_reducible first | exact HB.out | apply below_alloc | apply pw_below_drewN | apply below_drew1 | refine below_set ?_ GE101.out) | exact HB.out)) hb); clear BK101; clear HB; have BK101 := n0_; have HB := n1_; clear n0_ n1_; (try clear hb); (try clear hb2); (try clear hk); (try clear hi)))
    go_ret
    exact ⟨by first | rfl | (simp [errW_none, errW_some] <;> rfl) | (simp [*, errW_none, errW_some] <;> rfl), by repeat (first | (with_reducible first | exact HB.out | apply below_alloc | apply pw_below_drewN | apply below_drew1 | refine below_set ?_ GE101.out) | exact HB.out)⟩
set_option maxHeartbeats 4000000 in
set_option maxRecDepth 100000 in
theorem hof90.callsO (q : S43 → Option Bool) (g : Nat) (lb : Array Value) (eg : ∀ args w, (callFunc g args).run Tryz.prog w = .ok (.enter g args) w) (Ad : Option Addr) (c : Nat) (l : List S43) (r : Int) (w : World) (hr : Kd.C k43 w Ad l.length l)
    (hp : ∀ x ∈ l, ∀ b, q x = some b → ∀ (W : World), Below w.heap.size w W → Calls Tryz.prog g (#[.agg #[.int .i64 x.f0.f0, .int .i64 x.f0.f1, .int .i64 x.f1.f0, .int .i64 x.f1.f1]] ++ lb) W fun e w' => e = .returned (.bool b) ∧ Below W.heap.size W w') (h : idxO q l 0 = some r) :
    Calls Tryz.prog 90 #[.slice Ad l.length c, .func (.func g) #[] lb] w fun e w' => e = .returned (.int .i64 r) ∧ Below w.heap.size w w' := by
  have hbig : l.length ≤ 9223372036854775807 := hr.2.1
  have e0 := Lib.hid (idxO_drop q l)
  have hr' := Lib.hid hr
  have hp' := Lib.hid hp
  have H0 : Hid (idxO q (l.drop 0) 0 = some r) := Lib.hid (by rw [List.drop_zero]; exact h)
  clear hr hp h
  go_enter Tryz.func90, Tryz.ntmps90
  go_wp2
  go_loopg [5, 8] l.length (fun gg _ s8 wr => ∃ kk : Nat, kk ≤ l.length ∧ l.length - kk ≤ gg ∧ s8 = .int .i64 kk ∧ Aside (Below w.heap.size w wr) ∧ Aside (idxO q (l.drop kk) kk = some r))
  case atStart => exact ⟨0, Nat.zero_le _, by omega, rfl, Below.refl _ w, H0.out⟩
  case round =>
    obtain ⟨kk, hkk, hg, rfl, BW, HE⟩ := hrel
    by_cases hlt : kk < l.length
    · have hltz : (kk : Int) < (l.length : Int) := by omega
      obtain ⟨ad, rfl, h0_, h1_, h2_, h3_⟩ := at_T43 (Kd.C_below hr'.out BW.out) (kk : Int) (by omega) (by omega)
      simp only [Int.toNat_natCast] at h0_ h1_ h2_ h3_
      have hrd : rd_T43 l (kk : Int) = l[kk] := by simp [rd_T43, List.getD_eq_getElem?_getD, List.getElem?_eq_getElem hlt]
      rw [hrd] at h0_ h1_ h2_ h3_
      clear hrd
      have H1 := HE.out
      rw [e0.out kk hlt] at H1
      obtain ⟨b, hb, H2⟩ := Option.bind_eq_some_iff.mp H1
      have hcall := hp'.out l[kk] (List.getElem_mem hlt) b hb wr BW.out
      generalize hy : l[kk] = y at h0_ h1_ h2_ h3_ hcall
      have H2' := Lib.hid H2
      clear hy H2 H1 hb
      cases b with
      | true =>
        go_wp2_with (go_at_fn g; refine hcall.mono ?_; rintro e w' ⟨rfl, hb'⟩)
        go_ret
        refine ⟨?_, Below.trans BW.out (hb'.mono BW.out.size)⟩
        have H3 := H2'.out
        simp only [if_true] at H3
        rw [← Option.some.inj H3]
        rfl
      | false =>
        go_wp2_with (go_at_fn g; refine hcall.mono ?_; rintro e w' ⟨rfl, hb'⟩)
        go_roundg (l.length - (kk + 1))
        case measure => omega
        case rel =>
          refine ⟨kk + 1, by omega, by omega, by go_num, Below.trans BW.out (hb'.mono BW.out.size), (show Aside _ from ?_)⟩
          have H3 := H2'.out
          have H4 : idxO q (l.drop (kk + 1)) (kk + 1) = some r := by simpa using H3
          exact H4
    · have hltz : ¬ (kk : Int) < (l.length : Int) := by omega
      have HK := Lib.hid (show l.length ≤ kk by omega)
      go_wp2
      go_ret
      refine ⟨?_, BW.out⟩
      have H3 := HE.out
      rw [List.drop_eq_nil_of_le HK.out] at H3
      have H4 : some (-1 : Int) = some r := H3
      rw [← Option.some.inj H4]
      rfl
set_option maxHeartbeats 4000000 in
theorem hof56.callsO (q : S43 → Option Bool) (g : Nat) (lb : Array Value) (eg : ∀ args w, (callFunc g args).run Tryz.prog w = .ok (.enter g args) w) (Ad : Option Addr) (c : Nat) (l : List S43) (r : Bool) (w : World) (hr : Kd.C k43 w Ad l.length l)
    (hp : ∀ x ∈ l, ∀ b, q x = some b → ∀ (W : World), Below w.heap.size w W → Calls Tryz.prog g (#[.agg #[.int .i64 x.f0.f0, .int .i64 x.f0.f1, .int .i64 x.f1.f0, .int .i64 x.f1.f1]] ++ lb) W fun e w' => e = .returned (.bool b) ∧ Below W.heap.size W w') (h : anyO q l = some r) :
    Calls Tryz.prog 56 #[.slice Ad l.length c, .func (.func g) #[] lb] w fun e w' => e = .returned (.bool r) ∧ Below w.heap.size w w' := by
  obtain ⟨j, h1, rfl⟩ := idxO_any q l 0 r h
  have hcon := Lib.hid (hof90.callsO q g lb eg Ad c l j w hr hp h1)
  clear hr hp h1 h
  go_enter Tryz.func56, Tryz.ntmps56
  go_wp2_with (go_at_call 90; refine hcon.out.mono ?_; rintro e w' ⟨rfl, hb'⟩)
  go_ret
  exact ⟨rfl, hb'⟩
def any_at_tenter_Check_1.f (l : List S43) : Option Bool := anyO (fun x => tenter_Check_1.f x.f0.f0 x.f0.f1 x.f1.f0 x.f1.f1) l
theorem any_at_tenter_Check_1.calls (Ad : Option Addr) (c : Nat) (l : List S43) (r : Bool) (w : World) (hr : Kd.C k43 w Ad l.length l) (hc : l.length ≤ c) (h : any_at_tenter_Check_1.f l = some r) :
    Calls Tryz.prog 56 #[.slice Ad l.length c, .func (.func 53) #[] #[]] w fun e w' => e = .returned (.bool r) ∧ Below w.heap.size w w' :=
  hof56.callsO (fun x => tenter_Check_1.f x.f0.f0 x.f0.f1 x.f1.f0 x.f1.f1) 53 _ (enters_of Tryz.func53 (by kernel_rfl) rfl) Ad c l r w hr (fun x hx b hq W hbW => by
    have hcl := tenter_Check_1.calls x.f0.f0 x.f0.f1 x.f1.f0 x.f1.f1 b W hq
    exact hcl) h
def tenter_Check.f (l0_0 : List (S43)) (l0_1 : List Int) (a0_2 : Int) (a0_3 : Int) : Option (Int) := if (l0_0.length : Int) > 7 then (some 5) else ((tenter_within.f 1 3 (([(l0_1.length : Int)] : List Int))).bind fun t105 => (if t105 = true then ((any_at_tenter_Check_1.f l0_0).bind fun t106 => (if t106 = true then (some 2) else ((tenter_within.f 1 2000 l0_1).bind fun t107 => (if t107 = true then ((tenter_within.f 0 50 (([a0_2] : List Int))).bind fun t111 => (if t111 = true then ((tenter_within.f 0 200 (([a0_3] : List Int))).bind fun t115 => (if t115 = true then (some 0) else (some 2))) else (some 2))) else (some 2))))) else (some 4)))
set_option maxHeartbeats 8000000 in
set_option maxRecDepth 100000 in
theorem tenter_Check.calls (A0_0 : Option Addr) (c0_0 : Nat) (l0_0 : List (S43)) (A0_1 : Option Addr) (c0_1 : Nat) (l0_1 : List Int) (a0_2 : Int) (a0_3 : Int) (r : Int) (w : World) (hr0_0 : Kd.C k43 w A0_0 l0_0.length l0_0) (hc0_0 : l0_0.length ≤ c0_0) (hr0_1 : Kd.C (Kd.int .i64) w A0_1 l0_1.length l0_1) (hc0_1 : l0_1.length ≤ c0_1) (h : tenter_Check.f l0_0 l0_1 a0_2 a0_3 = some r) :
    Calls Tryz.prog 15 #[.agg #[.slice A0_0 l0_0.length c0_0, .slice A0_1 l0_1.length c0_1, .int .i64 a0_2, .int .i64 a0_3]] w fun e w' => e = .returned (.int .i64 r) ∧ Below w.heap.size w w' := by
  have hu25 := Tryz.underlying25
  have HR0_0 := Aside0.mk hr0_0
  have HC0_0 := Aside0.mk hc0_0
  clear hr0_0 hc0_0
  have HR0_1 := Aside0.mk hr0_1
  have HC0_1 := Aside0.mk hc0_1
  clear hr0_1 hc0_1
  have HB := Aside0.mk (Below.refl w.heap.size w)
  have H : (if (l0_0.length : Int) > 7 then (some 5) else ((tenter_within.f 1 3 (([(l0_1.length : Int)] : List Int))).bind fun t105 => (if t105 = true then ((any_at_tenter_Check_1.f l0_0).bind fun t106 => (if t106 = true then (some 2) else ((tenter_within.f 1 2000 l0_1).bind fun t107 => (if t107 = true then ((tenter_within.f 0 50 (([a0_2] : List Int))).bind fun t111 => (if t111 = true then ((tenter_within.f 0 200 (([a0_3] : List Int))).bind fun t115 => (if t115 = true then (some 0) else (some 2))) else (some 2))) else (some 2))))) else (some 4)))) = some r := h
  clear h
  by_cases c2 : (l0_0.length : Int) > 7
  · rw [if_pos c2] at H
    have c2b0 : decide (7 < (l0_0.length : Int)) = true := decide_eq_true c2
    have c2b1 : decide (7 < l0_0.length) = true := decide_eq_true (by omega)
    clear c2
    obtain rfl := Option.some.inj H
    go_enter Tryz.func15, Tryz.ntmps15
    go_wp2_with (first | ((with_reducible refine gate_dst (N := 1) rfl ?_); refine bx 1 #[.slice A0_0 l0_0.length c0_0, .slice A0_1 l0_1.length c0_1, .int .i64 a0_2, .int .i64 a0_3] 25 ?_; intro gb101 hg w3 hbox hb; have BK101 := hbox; have GW101 := gs HB hg; have GE101 := gs HB hg; replace HB := bs HB hb; clear hb hbox hg; obtain ⟨_, _, _, _, _, _, _, _⟩ := cf4 BK101))
    go_ret
    exact ⟨eT, pE HB⟩
  · rw [if_neg c2] at H
    have c2b0 : decide (7 < (l0_0.length : Int)) = false := decide_eq_false c2
    have c2b1 : decide (7 < l0_0.length) = false := decide_eq_false (by omega)
    clear c2
    obtain ⟨y102, hy102⟩ : ∃ y_ : List Int, y_ = (([(l0_1.length : Int)] : List Int)) := ⟨_, rfl⟩
    replace H : Option.bind (tenter_within.f 1 3 y102) _ = some r := yy hy102 H
    have Ny102 := Aside0.mk hy102
    clear hy102
    obtain ⟨t105, A5, H⟩ := bi H
    by_cases c6 : t105 = true
    · subst c6
      rw [if_pos rfl] at H
      obtain ⟨t106, A7, H⟩ := bi H
      by_cases c8 : t106 = true
      · subst c8
        rw [if_pos rfl] at H
        obtain rfl := Option.some.inj H
        go_enter Tryz.func15, Tryz.ntmps15
        go_wp2_with (first | ((with_reducible refine gate_dst (N := 1) rfl ?_); refine bx 1 #[.slice A0_0 l0_0.length c0_0, .slice A0_1 l0_1.length c0_1, .int .i64 a0_2, .int .i64 a0_3] 25 ?_; intro gb101 hg w9 hbox hb; have BK101 := hbox; have GW101 := gs HB hg; have GE101 := gs HB hg; replace HB := bs HB hb; clear hb hbox hg; obtain ⟨_, _, _, _, _, _, _, _⟩ := cf4 BK101) | ((with_reducible refine gate_dst (N := 13) rfl ?_); refine Kd.R_lit (Kd.int .i64) _ 3 ?hg (N := 13) ?hd (xs := ([(l0_1.length : Int)] : List Int)) (inner := [.int .i64 (l0_1.length : Int)]) (ok := fun _ => True) (okp := fun _ => True) ?hr ?hp (fun _ hk => hk) trivial (Below.refl _ _) (Nat.le_refl _) (by simp) ?_; (case hd => rfl); (case hg => rfl); (case hr => first | (go_simp; done) | (go_simp; rfl)); (case hp => exact (Reps.one (show Kd.M (Kd.int .i64) _ _ _ (l0_1.length : Int) [.int .i64 (l0_1.length : Int)] from rfl) (Reps.none _ _))); intro v103 w11 ho12 hb hg_ hnew_; clear hg_ hnew_; (first | rw [← Ny102.out] at ho12 | (simp only [Int.reduceToNat] at ho12; rw [← Ny102.out] at ho12)); have HO104 := rl ho12 HB; replace BK101 := bb BK101 hb; replace HB := bs HB hb; clear hb ho12; obtain ⟨Ao13, co13, eo13⟩ := Kd.R_slice HO104.out; subst eo13) | ((with_reducible refine gc 55 rfl ?_); refine gL 14 Tryz.func55 #[.int .i64 1, .int .i64 3, .slice Ao13 y102.length co13] ?_; (with_reducible refine (tenter_within.calls 1 3 _ _ y102 true _ ?side1 ?side2 A5.out).mono ?_); (case side1 => exact pC (Kd.R_reads' HO104.out).2.2); (case side2 => exact (Kd.R_reads' HO104.out).2.1); rintro e w14 ⟨rfl, hb⟩; refine ⟨_, rfl, ?_⟩; replace HO104 := rb HO104 hb; replace BK101 := bb BK101 hb; replace HB := bs HB hb; clear hb; obtain ⟨_, _, _, _, _, _, _, _⟩ := cf4 BK101) | ((with_reducible refine gc 56 rfl ?_); refine gL 20 Tryz.func56 #[.slice A0_0 l0_0.length c0_0, .func (.func 53) #[] #[]] ?_; (with_reducible refine (any_at_tenter_Check_1.calls _ _ l0_0  true _ ?side1 ?side2 A7.out).mono ?_); (case side1 => exact pC (Kd.C_below HR0_0.out HB.out)); (case side2 => exact HC0_0.out); rintro e w16 ⟨rfl, hb⟩; refine ⟨_, rfl, ?_⟩; replace HO104 := rb HO104 hb; replace BK101 := bb BK101 hb; replace HB := bs HB hb; clear hb))
        go_ret
        exact ⟨eT, pE HB⟩
      · replace c8 := Bool.eq_false_iff.mpr c8
        subst c8
        rw [if_neg (show ¬ (false = true) by decide)] at H
        obtain ⟨t107, A17, H⟩ := bi H
        by_cases c18 : t107 = true
        · subst c18
          rw [if_pos rfl] at H
          obtain ⟨y108, hy108⟩ : ∃ y_ : List Int, y_ = (([a0_2] : List Int)) := ⟨_, rfl⟩
          replace H : Option.bind (tenter_within.f 0 50 y108) _ = some r := yy hy108 H
          have Ny108 := Aside0.mk hy108
          clear hy108
          obtain ⟨t111, A19, H⟩ := bi H
          by_cases c20 : t111 = true
          · subst c20
            rw [if_pos rfl] at H
            obtain ⟨y112, hy112⟩ : ∃ y_ : List Int, y_ = (([a0_3] : List Int)) := ⟨_, rfl⟩
            replace H : Option.bind (tenter_within.f 0 200 y112) _ = some r := yy hy112 H
            have Ny112 := Aside0.mk hy112
            clear hy112
            obtain ⟨t115, A21, H⟩ := bi H
            by_cases c22 : t115 = true
            · subst c22
              rw [if_pos rfl] at H
              obtain rfl := Option.some.inj H
              go_enter Tryz.func15, Tryz.ntmps15
              go_wp2_with (first | ((with_reducible refine gate_dst (N := 1) rfl ?_); refine bx 1 #[.slice A0_0 l0_0.length c0_0, .slice A0_1 l0_1.length c0_1, .int .i64 a0_2, .int .i64 a0_3] 25 ?_; intro gb101 hg w23 hbox hb; have BK101 := hbox; have GW101 := gs HB hg; have GE101 := gs HB hg; replace HB := bs HB hb; clear hb hbox hg; obtain ⟨_, _, _, _, _, _, _, _⟩ := cf4 BK101) | ((with_reducible refine gate_dst (N := 13) rfl ?_); refine Kd.R_lit (Kd.int .i64) _ 3 ?hg (N := 13) ?hd (xs := ([(l0_1.length : Int)] : List Int)) (inner := [.int .i64 (l0_1.length : Int)]) (ok := fun _ => True) (okp := fun _ => True) ?hr ?hp (fun _ hk => hk) trivial (Below.refl _ _) (Nat.le_refl _) (by simp) ?_; (case hd => rfl); (case hg => rfl); (case hr => first | (go_simp; done) | (go_simp; rfl)); (case hp => exact (Reps.one (show Kd.M (Kd.int .i64) _ _ _ (l0_1.length : Int) [.int .i64 (l0_1.length : Int)] from rfl) (Reps.none _ _))); intro v103 w25 ho26 hb hg_ hnew_; clear hg_ hnew_; (first | rw [← Ny102.out] at ho26 | (simp only [Int.reduceToNat] at ho26; rw [← Ny102.out] at ho26)); have HO104 := rl ho26 HB; replace BK101 := bb BK101 hb; replace HB := bs HB hb; clear hb ho26; obtain ⟨Ao27, co27, eo27⟩ := Kd.R_slice HO104.out; subst eo27) | ((with_reducible refine gc 55 rfl ?_); refine gL 14 Tryz.func55 #[.int .i64 1, .int .i64 3, .slice Ao27 y102.length co27] ?_; (with_reducible refine (tenter_within.calls 1 3 _ _ y102 true _ ?side1 ?side2 A5.out).mono ?_); (case side1 => exact pC (Kd.R_reads' HO104.out).2.2); (case side2 => exact (Kd.R_reads' HO104.out).2.1); rintro e w28 ⟨rfl, hb⟩; refine ⟨_, rfl, ?_⟩; replace HO104 := rb HO104 hb; replace BK101 := bb BK101 hb; replace HB := bs HB hb; clear hb; obtain ⟨_, _, _, _, _, _, _, _⟩ := cf4 BK101) | ((with_reducible refine gc 56 rfl ?_); refine gL 20 Tryz.func56 #[.slice A0_0 l0_0.length c0_0, .func (.func 53) #[] #[]] ?_; (with_reducible refine (any_at_tenter_Check_1.calls _ _ l0_0  false _ ?side1 ?side2 A7.out).mono ?_); (case side1 => exact pC (Kd.C_below HR0_0.out HB.out)); (case side2 => exact HC0_0.out); rintro e w30 ⟨rfl, hb⟩; refine ⟨_, rfl, ?_⟩; replace HO104 := rb HO104 hb; replace BK101 := bb BK101 hb; replace HB := bs HB hb; clear hb; obtain ⟨_, _, _, _, _, _, _, _⟩ := cf4 BK101) | ((with_reducible refine gc 55 rfl ?_); refine gL 23 Tryz.func55 #[.int .i64 1, .int .i64 2000, .slice A0_1 l0_1.length c0_1] ?_; (with_reducible refine (tenter_within.calls 1 2000 _ _ l0_1 true _ ?side1 ?side2 A17.out).mono ?_); (case side1 => exact pC (Kd.C_below HR0_1.out HB.out)); (case side2 => exact HC0_1.out); rintro e w32 ⟨rfl, hb⟩; refine ⟨_, rfl, ?_⟩; replace HO104 := rb HO104 hb; replace BK101 := bb BK101 hb; replace HB := bs HB hb; clear hb; obtain ⟨_, _, _, _, _, _, _, _⟩ := cf4 BK101) | ((with_reducible refine gate_dst (N := 27) rfl ?_); refine Kd.R_lit (Kd.int .i64) _ 3 ?hg (N := 27) ?hd (xs := ([a0_2] : List Int)) (inner := [.int .i64 a0_2]) (ok := fun _ => True) (okp := fun _ => True) ?hr ?hp (fun _ hk => hk) trivial (Below.refl _ _) (Nat.le_refl _) (by simp) ?_; (case hd => rfl); (case hg => rfl); (case hr => first | (go_simp; done) | (go_simp; rfl)); (case hp => exact (Reps.one (show Kd.M (Kd.int .i64) _ _ _ a0_2 [.int .i64 a0_2] from rfl) (Reps.none _ _))); intro v109 w34 ho35 hb hg_ hnew_; clear hg_ hnew_; (first | rw [← Ny108.out] at ho35 | (simp only [Int.reduceToNat] at ho35; rw [← Ny108.out] at ho35)); have HO110 := Aside0.mk (Kd.R_lower (Kd.R_new' ho35 (Kd.R_lt (pR HO104.out))) (below_size (pE HB))); replace HO104 := re HO104 ho35 hb; replace BK101 := bb BK101 hb; replace HB := bs HB hb; clear hb ho35; obtain ⟨Ao36, co36, eo36⟩ := Kd.R_slice HO110.out; subst eo36) | ((with_reducible refine gc 55 rfl ?_); refine gL 28 Tryz.func55 #[.int .i64 0, .int .i64 50, .slice Ao36 y108.length co36] ?_; (with_reducible refine (tenter_within.calls 0 50 _ _ y108 true _ ?side1 ?side2 A19.out).mono ?_); (case side1 => exact pC (Kd.R_reads' HO110.out).2.2); (case side2 => exact (Kd.R_reads' HO110.out).2.1); rintro e w37 ⟨rfl, hb⟩; refine ⟨_, rfl, ?_⟩; replace HO104 := rb HO104 hb; replace HO110 := rb HO110 hb; replace BK101 := bb BK101 hb; replace HB := bs HB hb; clear hb; obtain ⟨_, _, _, _, _, _, _, _⟩ := cf4 BK101) | ((with_reducible refine gate_dst (N := 32) rfl ?_); refine Kd.R_lit (Kd.int .i64) _ 3 ?hg (N := 32) ?hd (xs := ([a0_3] : List Int)) (inner := [.int .i64 a0_3]) (ok := fun _ => True) (okp := fun _ => True) ?hr ?hp (fun _ hk => hk) trivial (Below.refl _ _) (Nat.le_refl _) (by simp) ?_; (case hd => rfl); (case hg => rfl); (case hr => first | (go_simp; done) | (go_simp; rfl)); (case hp => exact (Reps.one (show Kd.M (Kd.int .i64) _ _ _ a0_3 [.int .i64 a0_3] from rfl) (Reps.none _ _))); intro v113 w39 ho40 hb hg_ hnew_; clear hg_ hnew_; (first | rw [← Ny112.out] at ho40 | (simp only [Int.reduceToNat] at ho40; rw [← Ny112.out] at ho40)); have HO114 := Aside0.mk (Kd.R_lower (Kd.R_new' (Kd.R_new' ho40 (Kd.R_lt (pR HO104.out))) (Kd.R_lt (pR HO110.out))) (below_size (pE HB))); replace HO104 := re HO104 ho40 hb; replace HO110 := re HO110 ho40 hb; replace BK101 := bb BK101 hb; replace HB := bs HB hb; clear hb ho40; obtain ⟨Ao41, co41, eo41⟩ := Kd.R_slice HO114.out; subst eo41) | ((with_reducible refine gc 55 rfl ?_); refine gL 33 Tryz.func55 #[.int .i64 0, .int .i64 200, .slice Ao41 y112.length co41] ?_; (with_reducible refine (tenter_within.calls 0 200 _ _ y112 true _ ?side1 ?side2 A21.out).mono ?_); (case side1 => exact pC (Kd.R_reads' HO114.out).2.2); (case side2 => exact (Kd.R_reads' HO114.out).2.1); rintro e w42 ⟨rfl, hb⟩; refine ⟨_, rfl, ?_⟩; replace HO104 := rb HO104 hb; replace HO110 := rb HO110 hb; replace HO114 := rb HO114 hb; replace BK101 := bb BK101 hb; replace HB := bs HB hb; clear hb))
              go_ret
              exact ⟨eT, pE HB⟩
            · replace c22 := Bool.eq_false_iff.mpr c22
              subst c22
              rw [if_neg (show ¬ (false = true) by decide)] at H
              obtain rfl := Option.some.inj H
              go_enter Tryz.func15, Tryz.ntmps15
              go_wp2_with (first | ((with_reducible refine gate_dst (N := 1) rfl ?_); refine bx 1 #[.slice A0_0 l0_0.length c0_0, .slice A0_1 l0_1.length c0_1, .int .i64 a0_2, .int .i64 a0_3] 25 ?_; intro gb101 hg w43 hbox hb; have BK101 := hbox; have GW101 := gs HB hg; have GE101 := gs HB hg; replace HB := bs HB hb; clear hb hbox hg; obtain ⟨_, _, _, _, _, _, _, _⟩ := cf4 BK101) | ((with_reducible refine gate_dst (N := 13) rfl ?_); refine Kd.R_lit (Kd.int .i64) _ 3 ?hg (N := 13) ?hd (xs := ([(l0_1.length : Int)] : List Int)) (inner := [.int .i64 (l0_1.length : Int)]) (ok := fun _ => True) (okp := fun _ => True) ?hr ?hp (fun _ hk => hk) trivial (Below.refl _ _) (Nat.le_refl _) (by simp) ?_; (case hd => rfl); (case hg => rfl); (case hr => first | (go_simp; done) | (go_simp; rfl)); (case hp => exact (Reps.one (show Kd.M (Kd.int .i64) _ _ _ (l0_1.length : Int) [.int .i64 (l0_1.length : Int)] from rfl) (Reps.none _ _))); intro v103 w45 ho46 hb hg_ hnew_; clear hg_ hnew_; (first | rw [← Ny102.out] at ho46 | (simp only [Int.reduceToNat] at ho46; rw [← Ny102.out] at ho46)); have HO104 := rl ho46 HB; replace BK101 := bb BK101 hb; replace HB := bs HB hb; clear hb ho46; obtain ⟨Ao47, co47, eo47⟩ := Kd.R_slice HO104.out; subst eo47) | ((with_reducible refine gc 55 rfl ?_); refine gL 14 Tryz.func55 #[.int .i64 1, .int .i64 3, .slice Ao47 y102.length co47] ?_; (with_reducible refine (tenter_within.calls 1 3 _ _ y102 true _ ?side1 ?side2 A5.out).mono ?_); (case side1 => exact pC (Kd.R_reads' HO104.out).2.2); (case side2 => exact (Kd.R_reads' HO104.out).2.1); rintro e w48 ⟨rfl, hb⟩; refine ⟨_, rfl, ?_⟩; replace HO104 := rb HO104 hb; replace BK101 := bb BK101 hb; replace HB := bs HB hb; clear hb; obtain ⟨_, _, _, _, _, _, _, _⟩ := cf4 BK101) | ((with_reducible refine gc 56 rfl ?_); refine gL 20 Tryz.func56 #[.slice A0_0 l0_0.length c0_0, .func (.func 53) #[] #[]] ?_; (with_reducible refine (any_at_tenter_Check_1.calls _ _ l0_0  false _ ?side1 ?side2 A7.out).mono ?_); (case side1 => exact pC (Kd.C_below HR0_0.out HB.out)); (case side2 => exact HC0_0.out); rintro e w50 ⟨rfl, hb⟩; refine ⟨_, rfl, ?_⟩; replace HO104 := rb HO104 hb; replace BK101 := bb BK101 hb; replace HB := bs HB hb; clear hb; obtain ⟨_, _, _, _, _, _, _, _⟩ := cf4 BK101) | ((with_reducible refine gc 55 rfl ?_); refine gL 23 Tryz.func55 #[.int .i64 1, .int .i64 2000, .slice A0_1 l0_1.length c0_1] ?_; (with_reducible refine (tenter_within.calls 1 2000 _ _ l0_1 true _ ?side1 ?side2 A17.out).mono ?_); (case side1 => exact pC (Kd.C_below HR0_1.out HB.out)); (case side2 => exact HC0_1.out); rintro e w52 ⟨rfl, hb⟩; refine ⟨_, rfl, ?_⟩; replace HO104 := rb HO104 hb; replace BK101 := bb BK101 hb; replace HB := bs HB hb; clear hb; obtain ⟨_, _, _, _, _, _, _, _⟩ := cf4 BK101) | ((with_reducible refine gate_dst (N := 27) rfl ?_); refine Kd.R_lit (Kd.int .i64) _ 3 ?hg (N := 27) ?hd (xs := ([a0_2] : List Int)) (inner := [.int .i64 a0_2]) (ok := fun _ => True) (okp := fun _ => True) ?hr ?hp (fun _ hk => hk) trivial (Below.refl _ _) (Nat.le_refl _) (by simp) ?_; (case hd => rfl); (case hg => rfl); (case hr => first | (go_simp; done) | (go_simp; rfl)); (case hp => exact (Reps.one (show Kd.M (Kd.int .i64) _ _ _ a0_2 [.int .i64 a0_2] from rfl) (Reps.none _ _))); intro v109 w54 ho55 hb hg_ hnew_; clear hg_ hnew_; (first | rw [← Ny108.out] at ho55 | (simp only [Int.reduceToNat] at ho55; rw [← Ny108.out] at ho55)); have HO110 := Aside0.mk (Kd.R_lower (Kd.R_new' ho55 (Kd.R_lt (pR HO104.out))) (below_size (pE HB))); replace HO104 := re HO104 ho55 hb; replace BK101 := bb BK101 hb; replace HB := bs HB hb; clear hb ho55; obtain ⟨Ao56, co56, eo56⟩ := Kd.R_slice HO110.out; subst eo56) | ((with_reducible refine gc 55 rfl ?_); refine gL 28 Tryz.func55 #[.int .i64 0, .int .i64 50, .slice Ao56 y108.length co56] ?_; (with_reducible refine (tenter_within.calls 0 50 _ _ y108 true _ ?side1 ?side2 A19.out).mono ?_); (case side1 => exact pC (Kd.R_reads' HO110.out).2.2); (case side2 => exact (Kd.R_reads' HO110.out).2.1); rintro e w57 ⟨rfl, hb⟩; refine ⟨_, rfl, ?_⟩; replace HO104 := rb HO104 hb; replace HO110 := rb HO110 hb; replace BK101 := bb BK101 hb; replace HB := bs HB hb; clear hb; obtain ⟨_, _, _, _, _, _, _, _⟩ := cf4 BK101) | ((with_reducible refine gate_dst (N := 32) rfl ?_); refine Kd.R_lit (Kd.int .i64) _ 3 ?hg (N := 32) ?hd (xs := ([a0_3] : List Int)) (inner := [.int .i64 a0_3]) (ok := fun _ => True) (okp := fun _ => True) ?hr ?hp (fun _ hk => hk) trivial (Below.refl _ _) (Nat.le_refl _) (by simp) ?_; (case hd => rfl); (case hg => rfl); (case hr => first | (go_simp; done) | (go_simp; rfl)); (case hp => exact (Reps.one (show Kd.M (Kd.int .i64) _ _ _ a0_3 [.int .i64 a0_3] from rfl) (Reps.none _ _))); intro v113 w59 ho60 hb hg_ hnew_; clear hg_ hnew_; (first | rw [← Ny112.out] at ho60 | (simp only [Int.reduceToNat] at ho60; rw [← Ny112.out] at ho60)); have HO114 := Aside0.mk (Kd.R_lower (Kd.R_new' (Kd.R_new' ho60 (Kd.R_lt (pR HO104.out))) (Kd.R_lt (pR HO110.out))) (below_size (pE HB))); replace HO104 := re HO104 ho60 hb; replace HO110 := re HO110 ho60 hb; replace BK101 := bb BK101 hb; replace HB := bs HB hb; clear hb ho60; obtain ⟨Ao61, co61, eo61⟩ := Kd.R_slice HO114.out; subst eo61) | ((with_reducible refine gc 55 rfl ?_); refine gL 33 Tryz.func55 #[.int .i64 0, .int .i64 200, .slice Ao61 y112.length co61] ?_; (with_reducible refine (tenter_within.calls 0 200 _ _ y112 false _ ?side1 ?side2 A21.out).mono ?_); (case side1 => exact pC (Kd.R_reads' HO114.out).2.2); (case side2 => exact (Kd.R_reads' HO114.out).2.1); rintro e w62 ⟨rfl, hb⟩; refine ⟨_, rfl, ?_⟩; replace HO104 := rb HO104 hb; replace HO110 := rb HO110 hb; replace HO114 := rb HO114 hb; replace BK101 := bb BK101 hb; replace HB := bs HB hb; clear hb))
              go_ret
              exact ⟨eT, pE HB⟩
          · replace c20 := Bool.eq_false_iff.mpr c20
            subst c20
            rw [if_neg (show ¬ (false = true) by decide)] at H
            obtain rfl := Option.some.inj H
            go_enter Tryz.func15, Tryz.ntmps15
            go_wp2_with (first | ((with_reducible refine gate_dst (N := 1) rfl ?_); refine bx 1 #[.slice A0_0 l0_0.length c0_0, .slice A0_1 l0_1.length c0_1, .int .i64 a0_2, .int .i64 a0_3] 25 ?_; intro gb101 hg w63 hbox hb; have BK101 := hbox; have GW101 := gs HB hg; have GE101 := gs HB hg; replace HB := bs HB hb; clear hb hbox hg; obtain ⟨_, _, _, _, _, _, _, _⟩ := cf4 BK101) | ((with_reducible refine gate_dst (N := 13) rfl ?_); refine Kd.R_lit (Kd.int .i64) _ 3 ?hg (N := 13) ?hd (xs := ([(l0_1.length : Int)] : List Int)) (inner := [.int .i64 (l0_1.length : Int)]) (ok := fun _ => True) (okp := fun _ => True) ?hr ?hp (fun _ hk => hk) trivial (Below.refl _ _) (Nat.le_refl _) (by simp) ?_; (case hd => rfl); (case hg => rfl); (case hr => first | (go_simp; done) | (go_simp; rfl)); (case hp => exact (Reps.one (show Kd.M (Kd.int .i64) _ _ _ (l0_1.length : Int) [.int .i64 (l0_1.length : Int)] from rfl) (Reps.none _ _))); intro v103 w65 ho66 hb hg_ hnew_; clear hg_ hnew_; (first | rw [← Ny102.out] at ho66 | (simp only [Int.reduceToNat] at ho66; rw [← Ny102.out] at ho66)); have HO104 := rl ho66 HB; replace BK101 := bb BK101 hb; replace HB := bs HB hb; clear hb ho66; obtain ⟨Ao67, co67, eo67⟩ := Kd.R_slice HO104.out; subst eo67) | ((with_reducible refine gc 55 rfl ?_); refine gL 14 Tryz.func55 #[.int .i64 1, .int .i64 3, .slice Ao67 y102.length co67] ?_; (with_reducible refine (tenter_within.calls 1 3 _ _ y102 true _ ?side1 ?side2 A5.out).mono ?_); (case side1 => exact pC (Kd.R_reads' HO104.out).2.2); (case side2 => exact (Kd.R_reads' HO104.out).2.1); rintro e w68 ⟨rfl, hb⟩; refine ⟨_, rfl, ?_⟩; replace HO104 := rb HO104 hb; replace BK101 := bb BK101 hb; replace HB := bs HB hb; clear hb; obtain ⟨_, _, _, _, _, _, _, _⟩ := cf4 BK101) | ((with_reducible refine gc 56 rfl ?_); refine gL 20 Tryz.func56 #[.slice A0_0 l0_0.length c0_0, .func (.func 53) #[] #[]] ?_; (with_reducible refine (any_at_tenter_Check_1.calls _ _ l0_0  false _ ?side1 ?side2 A7.out).mono ?_); (case side1 => exact pC (Kd.C_below HR0_0.out HB.out)); (case side2 => exact HC0_0.out); rintro e w70 ⟨rfl, hb⟩; refine ⟨_, rfl, ?_⟩; replace HO104 := rb HO104 hb; replace BK101 := bb BK101 hb; replace HB := bs HB hb; clear hb; obtain ⟨_, _, _, _, _, _, _, _⟩ := cf4 BK101) | ((with_reducible refine gc 55 rfl ?_); refine gL 23 Tryz.func55 #[.int .i64 1, .int .i64 2000, .slice A0_1 l0_1.length c0_1] ?_; (with_reducible refine (tenter_within.calls 1 2000 _ _ l0_1 true _ ?side1 ?side2 A17.out).mono ?_); (case side1 => exact pC (Kd.C_below HR0_1.out HB.out)); (case side2 => exact HC0_1.out); rintro e w72 ⟨rfl, hb⟩; refine ⟨_, rfl, ?_⟩; replace HO104 := rb HO104 hb; replace BK101 := bb BK101 hb; replace HB := bs HB hb; clear hb; obtain ⟨_, _, _, _, _, _, _, _⟩ := cf4 BK101) | ((with_reducible refine gate_dst (N := 27) rfl ?_); refine Kd.R_lit (Kd.int .i64) _ 3 ?hg (N := 27) ?hd (xs := ([a0_2] : List Int)) (inner := [.int .i64 a0_2]) (ok := fun _ => True) (okp := fun _ => True) ?hr ?hp (fun _ hk => hk) trivial (Below.refl _ _) (Nat.le_refl _) (by simp) ?_; (case hd => rfl); (case hg => rfl); (case hr => first | (go_simp; done) | (go_simp; rfl)); (case hp => exact (Reps.one (show Kd.M (Kd.int .i64) _ _ _ a0_2 [.int .i64 a0_2] from rfl) (Reps.none _ _))); intro v109 w74 ho75 hb hg_ hnew_; clear hg_ hnew_; (first | rw [← Ny108.out] at ho75 | (simp only [Int.reduceToNat] at ho75; rw [← Ny108.out] at ho75)); have HO110 := Aside0.mk (Kd.R_lower (Kd.R_new' ho75 (Kd.R_lt (pR HO104.out))) (below_size (pE HB))); replace HO104 := re HO104 ho75 hb; replace BK101 := bb BK101 hb; replace HB := bs HB hb; clear hb ho75; obtain ⟨Ao76, co76, eo76⟩ := Kd.R_slice HO110.out; subst eo76) | ((with_reducible refine gc 55 rfl ?_); refine gL 28 Tryz.func55 #[.int .i64 0, .int .i64 50, .slice Ao76 y108.length co76] ?_; (with_reducible refine (tenter_within.calls 0 50 _ _ y108 false _ ?side1 ?side2 A19.out).mono ?_); (case side1 => exact pC (Kd.R_reads' HO110.out).2.2); (case side2 => exact (Kd.R_reads' HO110.out).2.1); rintro e w77 ⟨rfl, hb⟩; refine ⟨_, rfl, ?_⟩; replace HO104 := rb HO104 hb; replace HO110 := rb HO110 hb; replace BK101 := bb BK101 hb; replace HB := bs HB hb; clear hb))
            go_ret
            exact ⟨eT, pE HB⟩
        · replace c18 := Bool.eq_false_iff.mpr c18
          subst c18
          rw [if_neg (show ¬ (false = true) by decide)] at H
          obtain rfl := Option.some.inj H
          go_enter Tryz.func15, Tryz.ntmps15
          go_wp2_with (first | ((with_reducible refine gate_dst (N := 1) rfl ?_); refine bx 1 #[.slice A0_0 l0_0.length c0_0, .slice A0_1 l0_1.length c0_1, .int .i64 a0_2, .int .i64 a0_3] 25 ?_; intro gb101 hg w78 hbox hb; have BK101 := hbox; have GW101 := gs HB hg; have GE101 := gs HB hg; replace HB := bs HB hb; clear hb hbox hg; obtain ⟨_, _, _, _, _, _, _, _⟩ := cf4 BK101) | ((with_reducible refine gate_dst (N := 13) rfl ?_); refine Kd.R_lit (Kd.int .i64) _ 3 ?hg (N := 13) ?hd (xs := ([(l0_1.length : Int)] : List Int)) (inner := [.int .i64 (l0_1.length : Int)]) (ok := fun _ => True) (okp := fun _ => True) ?hr ?hp (fun _ hk => hk) trivial (Below.refl _ _) (Nat.le_refl _) (by simp) ?_; (case hd => rfl); (case hg => rfl); (case hr => first | (go_simp; done) | (go_simp; rfl)); (case hp => exact (Reps.one (show Kd.M (Kd.int .i64) _ _ _ (l0_1.length : Int) [.int .i64 (l0_1.length : Int)] from rfl) (Reps.none _ _))); intro v103 w80 ho81 hb hg_ hnew_; clear hg_ hnew_; (first | rw [← Ny102.out] at ho81 | (simp only [Int.reduceToNat] at ho81; rw [← Ny102.out] at ho81)); have HO104 := rl ho81 HB; replace BK101 := bb BK101 hb; replace HB := bs HB hb; clear hb ho81; obtain ⟨Ao82, co82, eo82⟩ := Kd.R_slice HO104.out; subst eo82) | ((with_reducible refine gc 55 rfl ?_); refine gL 14 Tryz.func55 #[.int .i64 1, .int .i64 3, .slice Ao82 y102.length co82] ?_; (with_reducible refine (tenter_within.calls 1 3 _ _ y102 true _ ?side1 ?side2 A5.out).mono ?_); (case side1 => exact pC (Kd.R_reads' HO104.out).2.2); (case side2 => exact (Kd.R_reads' HO104.out).2.1); rintro e w83 ⟨rfl, hb⟩; refine ⟨_, rfl, ?_⟩; replace HO104 := rb HO104 hb; replace BK101 := bb BK101 hb; replace HB := bs HB hb; clear hb; obtain ⟨_, _, _, _, _, _, _, _⟩ := cf4 BK101) | ((with_reducible refine gc 56 rfl ?_); refine gL 20 Tryz.func56 #[.slice A0_0 l0_0.length c0_0, .func (.func 53) #[] #[]] ?_; (with_reducible refine (any_at_tenter_Check_1.calls _ _ l0_0  false _ ?side1 ?side2 A7.out).mono ?_); (case side1 => exact pC (Kd.C_below HR0_0.out HB.out)); (case side2 => exact HC0_0.out); rintro e w85 ⟨rfl, hb⟩; refine ⟨_, rfl, ?_⟩; replace HO104 := rb HO104 hb; replace BK101 := bb BK101 hb; replace HB := bs HB hb; clear hb; obtain ⟨_, _, _, _, _, _, _, _⟩ := cf4 BK101) | ((with_reducible refine gc 55 rfl ?_); refine gL 23 Tryz.func55 #[.int .i64 1, .int .i64 2000, .slice A0_1 l0_1.length c0_1] ?_; (with_reducible refine (tenter_within.calls 1 2000 _ _ l0_1 false _ ?side1 ?side2 A17.out).mono ?_); (case side1 => exact pC (Kd.C_below HR0_1.out HB.out)); (case side2 => exact HC0_1.out); rintro e w87 ⟨rfl, hb⟩; refine ⟨_, rfl, ?_⟩; replace HO104 := rb HO104 hb; replace BK101 := bb BK101 hb; replace HB := bs HB hb; clear hb))
          go_ret
          exact ⟨eT, pE HB⟩
    · replace c6 := Bool.eq_false_iff.mpr c6
      subst c6
      rw [if_neg (show ¬ (false = true) by decide)] at H
      obtain rfl := Option.some.inj H
      go_enter Tryz.func15, Tryz.ntmps15
      go_wp2_with (first | ((with_reducible refine gate_dst (N := 1) rfl ?_); refine bx 1 #[.slice A0_0 l0_0.length c0_0, .slice A0_1 l0_1.length c0_1, .int .i64 a0_2, .int .i64 a0_3] 25 ?_; intro gb101 hg w88 hbox hb; have BK101 := hbox; have GW101 := gs HB hg; have GE101 := gs HB hg; replace HB := bs HB hb; clear hb hbox hg; obtain ⟨_, _, _, _, _, _, _, _⟩ := cf4 BK101) | ((with_reducible refine gate_dst (N := 13) rfl ?_); refine Kd.R_lit (Kd.int .i64) _ 3 ?hg (N := 13) ?hd (xs := ([(l0_1.length : Int)] : List Int)) (inner := [.int .i64 (l0_1.length : Int)]) (ok := fun _ => True) (okp := fun _ => True) ?hr ?hp (fun _ hk => hk) trivial (Below.refl _ _) (Nat.le_refl _) (by simp) ?_; (case hd => rfl); (case hg => rfl); (case hr => first | (go_simp; done) | (go_simp; rfl)); (case hp => exact (Reps.one (show Kd.M (Kd.int .i64) _ _ _ (l0_1.length : Int) [.int .i64 (l0_1.length : Int)] from rfl) (Reps.none _ _))); intro v103 w90 ho91 hb hg_ hnew_; clear hg_ hnew_; (first | rw [← Ny102.out] at ho91 | (simp only [Int.reduceToNat] at ho91; rw [← Ny102.out] at ho91)); have HO104 := rl ho91 HB; replace BK101 := bb BK101 hb; replace HB := bs HB hb; clear hb ho91; obtain ⟨Ao92, co92, eo92⟩ := Kd.R_slice HO104.out; subst eo92) | ((with_reducible refine gc 55 rfl ?_); refine gL 14 Tryz.func55 #[.int .i64 1, .int .i64 3, .slice Ao92 y102.length co92] ?_; (with_reducible refine (tenter_within.calls 1 3 _ _ y102 false _ ?side1 ?side2 A5.out).mono ?_); (case side1 => exact pC (Kd.R_reads' HO104.out).2.2); (case side2 => exact (Kd.R_reads' HO104.out).2.1); rintro e w93 ⟨rfl, hb⟩; refine ⟨_, rfl, ?_⟩; replace HO104 := rb HO104 hb; replace BK101 := bb BK101 hb; replace HB := bs HB hb; clear hb))
      go_ret
      exact ⟨eT, pE HB⟩
def walkmillref05_In.f (a0 : Int) (a1 : Int) (a2 : Int) : Option (Bool) := if a0 ≥ a1 then (some (decide (a0 ≤ a2))) else (some false)
set_option maxHeartbeats 8000000 in
set_option maxRecDepth 100000 in
theorem walkmillref05_In.calls (a0 : Int) (a1 : Int) (a2 : Int) (r : Bool) (w : World) (h : walkmillref05_In.f a0 a1 a2 = some r) :
    Calls Tryz.prog 22 #[.int .i64 a0, .int .i64 a1, .int .i64 a2] w fun e w' => e = .returned (.bool r) ∧ Drawn0 w w' := by
  have H : (if a0 ≥ a1 then (some (decide (a0 ≤ a2))) else (some false)) = some r := h
  clear h
  by_cases c4 : a0 ≥ a1
  · rw [if_pos c4] at H
    have c4b0 : decide (a1 ≤ a0) = true := decide_eq_true c4
    clear c4
    obtain rfl := Option.some.inj H
    go_enter Tryz.func22, Tryz.ntmps22
    go_wp2
    go_ret
    exact ⟨by first | rfl | (simp; done) | (simp [*]; done), by repeat (first | exact Drawn0.refl _ | apply Drawn0.step)⟩
  · rw [if_neg c4] at H
    have c4b0 : decide (a1 ≤ a0) = false := decide_eq_false c4
    clear c4
    obtain rfl := Option.some.inj H
    go_enter Tryz.func22, Tryz.ntmps22
    go_wp2
    go_ret
    exact ⟨by first | rfl | (simp; done) | (simp [*]; done), by repeat (first | exact Drawn0.refl _ | apply Drawn0.step)⟩
def walkmillref05_Span.f (a0_0 : Int) (a0_1 : Int) (a1 : Int) (a2 : Int) : Option (Bool) := (walkmillref05_In.f a0_0 a1 a0_1).bind fun t102 => (if t102 = true then (some (decide (a0_1 ≤ a2))) else (some false))
set_option maxHeartbeats 8000000 in
set_option maxRecDepth 100000 in
theorem walkmillref05_Span.calls (a0_0 : Int) (a0_1 : Int) (a1 : Int) (a2 : Int) (r : Bool) (w : World) (h : walkmillref05_Span.f a0_0 a0_1 a1 a2 = some r) :
    Calls Tryz.prog 58 #[.agg #[.int .i64 a0_0, .int .i64 a0_1], .int .i64 a1, .int .i64 a2] w fun e w' => e = .returned (.bool r) ∧ Below w.heap.size w w' := by
  have hu36 := Tryz.underlying36
  have HB := Aside0.mk (Below.refl w.heap.size w)
  have H : ((walkmillref05_In.f a0_0 a1 a0_1).bind fun t102 => (if t102 = true then (some (decide (a0_1 ≤ a2))) else (some false))) = some r := h
  clear h
  replace H := Option.bind_eq_some_iff.mp H
  obtain ⟨t102, A40, H⟩ := H
  replace H : (if t102 = true then (some (decide (a0_1 ≤ a2))) else (some false)) = some r := H
  have A4 := Aside0.mk A40
  clear A40
  by_cases c5 : t102 = true
  · subst c5
    have H1 : (some (decide (a0_1 ≤ a2))) = some r := by rw [if_pos rfl] at H; exact H
    clear H
    have H := H1
    clear H1
    obtain rfl := Option.some.inj H
    go_enter Tryz.func58, Tryz.ntmps58
    go_wp2_with (first | ((with_reducible refine gate_dst (N := 3) rfl ?_); refine box_event ?hg (N := 3) ?hd (cs := #[.int .i64 a0_0, .int .i64 a0_1]) (t := 36) ?hr ?_; (case hd => rfl); (case hg => rfl); (case hr => first | (go_simp; done) | (go_simp; rfl)); intro gb101 hg w6 hbox hb; have n0_ := Aside0.mk (below_step (by repeat (first | (with_reducible first | exact HB.out | apply below_alloc | apply pw_below_drewN | apply below_drew1) | exact HB.out)) hb); have n1_ := Aside0.mk (hbox); have n2_ := Aside0.mk ((by rw [hg]; exact (below_size (by repeat (first | (with_reducible first | exact HB.out | apply below_alloc | apply pw_below_drewN | apply below_drew1) | exact HB.out))) : w.heap.size ≤ gb101)); have n3_ := Aside0.mk ((by rw [hg]; exact (below_size (by repeat (first | (with_reducible first | exact HB.out | apply below_alloc | apply pw_below_drewN | apply below_drew1) | exact HB.out))) : w.heap.size ≤ gb101)); clear HB; have HB := n0_; have BK101 := n1_; have GW101 := n2_; have GE101 := n3_; clear n0_ n1_ n2_ n3_; clear hb hbox hg; have hcz7_0 : w6.cell? ⟨gb101, 0, none⟩ = some (.int .i64 a0_0) := (blk_cell BK101.out 0).trans rfl; have hcz7_1 : w6.cell? ⟨gb101, 1, none⟩ = some (.int .i64 a0_1) := (blk_cell BK101.out 1).trans rfl; have hfz7_0 := blk_frozen BK101.out 0; have hfz7_1 := blk_frozen BK101.out 1) | ((with_reducible refine gate_callee (f := 22) rfl ?_); refine goesL_ (some 12) rfl rfl Tryz.func22 (by kernel_rfl) rfl #[.int .i64 a0_0, .int .i64 a1, .int .i64 a0_1] rfl (by (try simp only [List.map_toArray, List.map_cons, List.map_nil]); first | done | rfl | (simp only [List.length_drop, List.length_take]; rfl)) ?_; (with_reducible refine (walkmillref05_In.calls a0_0 a1 a0_1 true _ A4.out).mono ?_); rintro e w' ⟨rfl, ⟨nd, rfl⟩⟩; refine ⟨_, rfl, ?_⟩))
    go_ret
    exact ⟨by first | rfl | (simp [errW_none, errW_some] <;> rfl) | (simp [*, errW_none, errW_some] <;> rfl), by repeat (first | (with_reducible first | exact HB.out | apply below_alloc | apply pw_below_drewN | apply below_drew1 | refine below_set ?_ GE101.out) | exact HB.out)⟩
  · replace c5 := Bool.eq_false_iff.mpr c5
    subst c5
    have H1 : (some false) = some r := by rw [if_neg (show ¬ (false = true) by decide)] at H; exact H
    clear H
    have H := H1
    clear H1
    obtain rfl := Option.some.inj H
    go_enter Tryz.func58, Tryz.ntmps58
    go_wp2_with (first | ((with_reducible refine gate_dst (N := 3) rfl ?_); refine box_event ?hg (N := 3) ?hd (cs := #[.int .i64 a0_0, .int .i64 a0_1]) (t := 36) ?hr ?_; (case hd => rfl); (case hg => rfl); (case hr => first | (go_simp; done) | (go_simp; rfl)); intro gb101 hg w8 hbox hb; have n0_ := Aside0.mk (below_step (by repeat (first | (with_reducible first | exact HB.out | apply below_alloc | apply pw_below_drewN | apply below_drew1) | exact HB.out)) hb); have n1_ := Aside0.mk (hbox); have n2_ := Aside0.mk ((by rw [hg]; exact (below_size (by repeat (first | (with_reducible first | exact HB.out | apply below_alloc | apply pw_below_drewN | apply below_drew1) | exact HB.out))) : w.heap.size ≤ gb101)); have n3_ := Aside0.mk ((by rw [hg]; exact (below_size (by repeat (first | (with_reducible first | exact HB.out | apply below_alloc | apply pw_below_drewN | apply below_drew1) | exact HB.out))) : w.heap.size ≤ gb101)); clear HB; have HB := n0_; have BK101 := n1_; have GW101 := n2_; have GE101 := n3_; clear n0_ n1_ n2_ n3_; clear hb hbox hg; have hcz9_0 : w8.cell? ⟨gb101, 0, none⟩ = some (.int .i64 a0_0) := (blk_cell BK101.out 0).trans rfl; have hcz9_1 : w8.cell? ⟨gb101, 1, none⟩ = some (.int .i64 a0_1) := (blk_cell BK101.out 1).trans rfl; have hfz9_0 := blk_frozen BK101.out 0; have hfz9_1 := blk_frozen BK101.out 1) | ((with_reducible refine gate_callee (f := 22) rfl ?_); refine goesL_ (some 12) rfl rfl Tryz.func22 (by kernel_rfl) rfl #[.int .i64 a0_0, .int .i64 a1, .int .i64 a0_1] rfl (by (try simp only [List.map_toArray, List.map_cons, List.map_nil]); first | done | rfl | (simp only [List.length_drop, List.length_take]; rfl)) ?_; (with_reducible refine (walkmillref05_In.calls a0_0 a1 a0_1 false _ A4.out).mono ?_); rintro e w' ⟨rfl, ⟨nd, rfl⟩⟩; refine ⟨_, rfl, ?_⟩))
    go_ret
    exact ⟨by first | rfl | (simp [errW_none, errW_some] <;> rfl) | (simp [*, errW_none, errW_some] <;> rfl), by repeat (first | (with_reducible first | exact HB.out | apply below_alloc | apply pw_below_drewN | apply below_drew1 | refine below_set ?_ GE101.out) | exact HB.out)⟩
mutual
def walkmillref05_Check.j0 : Nat → Bool → List (S43) → List Int → Int → Int → Option (Int)
 | 0, _, _, _, _, _ => none
 | k + 1, x3, x102000, x102001, x102002, x102003 => walkmillref05_Check.l0 k x3 0 x102000 x102001 x102002 x102003
def walkmillref05_Check.l0 : Nat → Bool → Int → List (S43) → List Int → Int → Int → Option (Int)
 | 0, _, _, _, _, _, _ => none
 | k + 1, x3, x4, x102000, x102001, x102002, x102003 => if x4 < (x102000.length : Int) then (if x3 = true then (if 0 ≤ x4 then ((walkmillref05_Span.f ((rd_T43 x102000 x4).f0.f0) ((rd_T43 x102000 x4).f0.f1) 1 2000).bind fun t106 => (if t106 = true then ((walkmillref05_Span.f ((rd_T43 x102000 x4).f1.f0) ((rd_T43 x102000 x4).f1.f1) 0 500).bind fun t108 => (walkmillref05_Check.l0 k t108 (wrap64 (x4 + 1)) x102000 x102001 x102002 x102003)) else (walkmillref05_Check.l0 k false (wrap64 (x4 + 1)) x102000 x102001 x102002 x102003))) else (none)) else (walkmillref05_Check.l0 k false (wrap64 (x4 + 1)) x102000 x102001 x102002 x102003)) else (walkmillref05_Check.l1 k x3 0 x102000 x102001 x102002 x102003)
def walkmillref05_Check.l1 : Nat → Bool → Int → List (S43) → List Int → Int → Int → Option (Int)
 | 0, _, _, _, _, _, _ => none
 | k + 1, x3, x5, x102000, x102001, x102002, x102003 => if x5 < (x102001.length : Int) then (if x3 = true then (if 0 ≤ x5 then ((walkmillref05_In.f (rd x102001 x5) 1 2000).bind fun t110 => (walkmillref05_Check.l1 k t110 (wrap64 (x5 + 1)) x102000 x102001 x102002 x102003)) else (none)) else (walkmillref05_Check.l1 k false (wrap64 (x5 + 1)) x102000 x102001 x102002 x102003)) else (if x3 = true then (some 0) else (some 2))
end
def walkmillref05_Check.f (k : Nat) (l0_0 : List (S43)) (l0_1 : List Int) (a0_2 : Int) (a0_3 : Int) : Option (Int) := if (l0_0.length : Int) > 7 then (some 5) else ((walkmillref05_In.f (l0_1.length : Int) 1 3).bind fun t102 => (if t102 = true then ((walkmillref05_In.f a0_2 0 50).bind fun t103 => (if t103 = true then ((walkmillref05_In.f a0_3 0 200).bind fun t104 => (walkmillref05_Check.j0 k t104 l0_0 l0_1 a0_2 a0_3)) else (walkmillref05_Check.j0 k false l0_0 l0_1 a0_2 a0_3))) else (some 4)))
theorem walkmillref05_Check.mono_l : ∀ k, (∀ y0 y1 y2 y3 y4, LeO (walkmillref05_Check.j0 k y0 y1 y2 y3 y4) (walkmillref05_Check.j0 (k + 1) y0 y1 y2 y3 y4)) ∧ (∀ y0 y1 y2 y3 y4 y5, LeO (walkmillref05_Check.l0 k y0 y1 y2 y3 y4 y5) (walkmillref05_Check.l0 (k + 1) y0 y1 y2 y3 y4 y5)) ∧ (∀ y0 y1 y2 y3 y4 y5, LeO (walkmillref05_Check.l1 k y0 y1 y2 y3 y4 y5) (walkmillref05_Check.l1 (k + 1) y0 y1 y2 y3 y4 y5))
 | 0 => ⟨fun _ _ _ _ _ r h => by simp [walkmillref05_Check.j0] at h, fun _ _ _ _ _ _ r h => by simp [walkmillref05_Check.l0] at h, fun _ _ _ _ _ _ r h => by simp [walkmillref05_Check.l1] at h⟩
 | k + 1 => by
  obtain ⟨ih0, ih1, ih2⟩ := walkmillref05_Check.mono_l k
  refine ⟨?_, ?_, ?_⟩
  ·intro y0 y1 y2 y3 y4
   unfold walkmillref05_Check.j0
   repeat' first
   | (with_reducible exact ih0 _ _ _ _ _)
   | (with_reducible exact ih1 _ _ _ _ _ _)
   | (with_reducible exact ih2 _ _ _ _ _ _)
   | (with_reducible exact LeO.refl _)
   | (with_reducible exact LeO.none _)
   | (with_reducible refine LeO.ite ?_ ?_)
   | (with_reducible refine LeO.bind ?_ (fun _ => ?_))
   | exact ih0 _ _ _ _ _
   | exact ih1 _ _ _ _ _ _
   | exact ih2 _ _ _ _ _ _
   | exact LeO.none _
   | refine LeO.ite ?_ ?_
   | refine LeO.bind ?_ (fun _ => ?_)
  ·intro y0 y1 y2 y3 y4 y5
   unfold walkmillref05_Check.l0
   repeat' first
   | (with_reducible exact ih0 _ _ _ _ _)
   | (with_reducible exact ih1 _ _ _ _ _ _)
   | (with_reducible exact ih2 _ _ _ _ _ _)
   | (with_reducible exact LeO.refl _)
   | (with_reducible exact LeO.none _)
   | (with_reducible refine LeO.ite ?_ ?_)
   | (with_reducible refine LeO.bind ?_ (fun _ => ?_))
   | exact ih0 _ _ _ _ _
   | exact ih1 _ _ _ _ _ _
   | exact ih2 _ _ _ _ _ _
   | exact LeO.none _
   | refine LeO.ite ?_ ?_
   | refine LeO.bind ?_ (fun _ => ?_)
  ·intro y0 y1 y2 y3 y4 y5
   unfold walkmillref05_Check.l1
   repeat' first
   | (with_reducible exact ih0 _ _ _ _ _)
   | (with_reducible exact ih1 _ _ _ _ _ _)
   | (with_reducible exact ih2 _ _ _ _ _ _)
   | (with_reducible exact LeO.refl _)
   | (with_reducible exact LeO.none _)
   | (with_reducible refine LeO.ite ?_ ?_)
   | (with_reducible refine LeO.bind ?_ (fun _ => ?_))
   | exact ih0 _ _ _ _ _
   | exact ih1 _ _ _ _ _ _
   | exact ih2 _ _ _ _ _ _
   | exact LeO.none _
   | refine LeO.ite ?_ ?_
   | refine LeO.bind ?_ (fun _ => ?_)
theorem walkmillref05_Check.mono : ∀ a0 a1 a2 a3 k, LeO (walkmillref05_Check.f k a0 a1 a2 a3) (walkmillref05_Check.f (k + 1) a0 a1 a2 a3) := by
 intro a0 a1 a2 a3 k
 obtain ⟨ih0, ih1, ih2⟩ := walkmillref05_Check.mono_l k
 unfold walkmillref05_Check.f
 repeat' first
   | (with_reducible exact ih0 _ _ _ _ _)
   | (with_reducible exact ih1 _ _ _ _ _ _)
   | (with_reducible exact ih2 _ _ _ _ _ _)
   | (with_reducible exact LeO.refl _)
   | (with_reducible exact LeO.none _)
   | (with_reducible refine LeO.ite ?_ ?_)
   | (with_reducible refine LeO.bind ?_ (fun _ => ?_))
   | exact ih0 _ _ _ _ _
   | exact ih1 _ _ _ _ _ _
   | exact ih2 _ _ _ _ _ _
   | exact LeO.none _
   | refine LeO.ite ?_ ?_
   | refine LeO.bind ?_ (fun _ => ?_)
set_option maxHeartbeats 8000000 in
set_option maxRecDepth 100000 in
theorem walkmillref05_Check.calls (k : Nat) (A0_0 : Option Addr) (c0_0 : Nat) (l0_0 : List (S43)) (A0_1 : Option Addr) (c0_1 : Nat) (l0_1 : List Int) (a0_2 : Int) (a0_3 : Int) (r : Int) (w : World) (hr0_0 : Kd.C k43 w A0_0 l0_0.length l0_0) (hc0_0 : l0_0.length ≤ c0_0) (hr0_1 : Kd.C (Kd.int .i64) w A0_1 l0_1.length l0_1) (hc0_1 : l0_1.length ≤ c0_1) (h : walkmillref05_Check.f k l0_0 l0_1 a0_2 a0_3 = some r) :
  Calls Tryz.prog 17 #[.agg #[.slice A0_0 l0_0.length c0_0, .slice A0_1 l0_1.length c0_1, .int .i64 a0_2, .int .i64 a0_3]] w fun e w' => e = .returned (.int .i64 r) ∧ Below w.heap.size w w' := by
 have hu25 := Tryz.underlying25
 have hu36 := Tryz.underlying36
 have HR0_0 := Aside0.mk hr0_0
 have HC0_0 := Aside0.mk hc0_0
 clear hr0_0 hc0_0
 have HR0_1 := Aside0.mk hr0_1
 have HC0_1 := Aside0.mk hc0_1
 clear hr0_1 hc0_1
 have HB := Aside0.mk (Below.refl w.heap.size w)
 have H : (if (l0_0.length : Int) > 7 then (some 5) else ((walkmillref05_In.f (l0_1.length : Int) 1 3).bind fun t102 => (if t102 = true then ((walkmillref05_In.f a0_2 0 50).bind fun t103 => (if t103 = true then ((walkmillref05_In.f a0_3 0 200).bind fun t104 => (walkmillref05_Check.j0 k t104 l0_0 l0_1 a0_2 a0_3)) else (walkmillref05_Check.j0 k false l0_0 l0_1 a0_2 a0_3))) else (some 4)))) = some r := h
 clear h
 by_cases c2 : (l0_0.length : Int) > 7
 ·rw [if_pos c2] at H
  have c2b0 : decide (7 < (l0_0.length : Int)) = true := decide_eq_true c2
  have c2b1 : decide (7 < l0_0.length) = true := decide_eq_true (by omega)
  clear c2
  obtain rfl := Option.some.inj H
  go_enter Tryz.func17, Tryz.ntmps17
  go_wp2_with (first | ((with_reducible refine gate_dst (N := 1) rfl ?_); refine bx 1 #[.slice A0_0 l0_0.length c0_0, .slice A0_1 l0_1.length c0_1, .int .i64 a0_2, .int .i64 a0_3] 25 ?_; intro gb101 hg w3 hbox hb; have BK101 := hbox; have GW101 := gs HB hg; have GE101 := gs HB hg; replace HB := bs HB hb; clear hb hbox hg; obtain ⟨hcz4_0, hcz4_1, hcz4_2, hcz4_3, hfz4_0, hfz4_1, hfz4_2, hfz4_3⟩ := cf4 BK101))
  go_ret
  exact ⟨eT, pE HB⟩
 ·rw [if_neg c2] at H
  have c2b0 : decide (7 < (l0_0.length : Int)) = false := decide_eq_false c2
  have c2b1 : decide (7 < l0_0.length) = false := decide_eq_false (by omega)
  clear c2
  obtain ⟨t102, A5, H⟩ := bi H
  by_cases c6 : t102 = true
  ·subst c6
   rw [if_pos rfl] at H
   have HC7 := Aside0.mk H
   clear H
   go_enter Tryz.func17, Tryz.ntmps17
   go_upto_region 5 with (first | ((with_reducible refine gate_dst (N := 1) rfl ?_); refine bx 1 #[.slice A0_0 l0_0.length c0_0, .slice A0_1 l0_1.length c0_1, .int .i64 a0_2, .int .i64 a0_3] 25 ?_; intro gb101 hg w8 hbox hb; have BK101 := hbox; have GW101 := gs HB hg; have GE101 := gs HB hg; replace HB := bs HB hb; clear hb hbox hg; obtain ⟨hcz9_0, hcz9_1, hcz9_2, hcz9_3, hfz9_0, hfz9_1, hfz9_2, hfz9_3⟩ := cf4 BK101) | ((with_reducible refine gc 22 rfl ?_); refine gL 13 Tryz.func22 #[.int .i64 (l0_1.length : Int), .int .i64 1, .int .i64 3] ?_; (with_reducible refine (walkmillref05_In.calls (l0_1.length : Int) 1 3 true _ A5.out).mono ?_); rintro e w' ⟨rfl, ⟨nd, rfl⟩⟩; refine ⟨_, rfl, ?_⟩))
   (try simp only [Act.put, List.setIfInBounds_toArray, List.set_cons_zero, List.set_cons_succ])
   go_cut [3] (fun v3 wc => ∃ (kq : Nat) (x3_6 : Bool), v3 = .bool x3_6 ∧ Aside0 (walkmillref05_Check.j0 kq x3_6 l0_0 l0_1 a0_2 a0_3 = some r) ∧ Aside0 (kq ≤ k) ∧ Aside0 (wc.heap[gb101]? = some (.cells #[(.slice A0_0 l0_0.length c0_0), (.slice A0_1 l0_1.length c0_1), .int .i64 a0_2, .int .i64 a0_3] 25 (0, 0))) ∧ Aside0 (Below w.heap.size w wc))
   case first =>
    have H := HC7.out
    clear HC7
    obtain ⟨t103, A10, H⟩ := bi H
    by_cases c11 : t103 = true
    ·subst c11
     rw [if_pos rfl] at H
     obtain ⟨t104, A12, H⟩ := bi H
     have H' := Aside0.mk H
     clear H
     obtain ⟨hcz13_0, hcz13_1, hcz13_2, hcz13_3, hfz13_0, hfz13_1, hfz13_2, hfz13_3⟩ := cf4 BK101
     go_wp2_with (first | ((with_reducible refine gc 22 rfl ?_); refine gL 17 Tryz.func22 #[.int .i64 a0_2, .int .i64 0, .int .i64 50] ?_; (with_reducible refine (walkmillref05_In.calls a0_2 0 50 true _ A10.out).mono ?_); rintro e w' ⟨rfl, ⟨nd, rfl⟩⟩; refine ⟨_, rfl, ?_⟩) | (go_at_call 22; (with_reducible refine (walkmillref05_In.calls a0_3 0 200 t104 _ A12.out).mono ?_); rintro e w' ⟨rfl, ⟨nd, rfl⟩⟩))
     go_meet
     case rel => exact ⟨_, (t104), (by first | rfl | (simp; done) | (simp [*]; done)), H', ⟨by first | omega | exact Nat.le_refl _⟩, ⟨by (with_reducible repeat (first | refine blk_drewN ?_ _ | refine blk_drew ?_ | refine blk_alloc ?_ _)); exact BK101.out⟩, ⟨pE HB⟩⟩
    ·replace c11 := Bool.eq_false_iff.mpr c11
     subst c11
     rw [if_neg (show ¬ (false = true) by decide)] at H
     have H' := Aside0.mk H
     clear H
     obtain ⟨hcz14_0, hcz14_1, hcz14_2, hcz14_3, hfz14_0, hfz14_1, hfz14_2, hfz14_3⟩ := cf4 BK101
     go_wp2_with (first | ((with_reducible refine gc 22 rfl ?_); refine gL 17 Tryz.func22 #[.int .i64 a0_2, .int .i64 0, .int .i64 50] ?_; (with_reducible refine (walkmillref05_In.calls a0_2 0 50 false _ A10.out).mono ?_); rintro e w' ⟨rfl, ⟨nd, rfl⟩⟩; refine ⟨_, rfl, ?_⟩))
     go_meet
     case rel => exact ⟨_, (false), (by first | rfl | (simp; done) | (simp [*]; done)), H', ⟨by first | omega | exact Nat.le_refl _⟩, ⟨by (with_reducible repeat (first | refine blk_drewN ?_ _ | refine blk_drew ?_ | refine blk_alloc ?_ _)); exact BK101.out⟩, ⟨pE HB⟩⟩
   case rest =>
    clear HC7
    try clear c1
    try clear c2
    try clear c2b0
    try clear c2b1
    try clear p2
    try clear c6
    try clear c11
    try clear hcz13_0
    try clear hcz13_1
    try clear hcz13_2
    try clear hcz13_3
    try clear hcz14_0
    try clear hcz14_1
    try clear hcz14_2
    try clear hcz14_3
    try clear hcz4_0
    try clear hcz4_1
    try clear hcz4_2
    try clear hcz4_3
    try clear hcz9_0
    try clear hcz9_1
    try clear hcz9_2
    try clear hcz9_3
    try clear hfz13_0
    try clear hfz13_1
    try clear hfz13_2
    try clear hfz13_3
    try clear hfz14_0
    try clear hfz14_1
    try clear hfz14_2
    try clear hfz14_3
    try clear hfz4_0
    try clear hfz4_1
    try clear hfz4_2
    try clear hfz4_3
    try clear hfz9_0
    try clear hfz9_1
    try clear hfz9_2
    try clear hfz9_3
    obtain ⟨kq, x3_6, rfl, HA, HJ6, BK101, HB⟩ := hcut
    cases kq with
    | zero => exact absurd HA.out (by simp [walkmillref05_Check.j0])
    | succ kj6 =>
     have H := HA.out
     clear HA
     simp only [walkmillref05_Check.j0] at H
     have H' := Aside0.mk H
     clear H
     go_wp2
     go_loopg [3, 4] kj6 (fun kq v3 v4 w' => ∃ (x3_2 : Bool) (x4_2 : Int), v3 = .bool x3_2 ∧ v4 = .int .i64 x4_2 ∧ Aside0 (walkmillref05_Check.l0 kq x3_2 x4_2 l0_0 l0_1 a0_2 a0_3 = some r) ∧ Aside0 (kq ≤ kj6) ∧ Aside0 (w'.heap[gb101]? = some (.cells #[(.slice A0_0 l0_0.length c0_0), (.slice A0_1 l0_1.length c0_1), .int .i64 a0_2, .int .i64 a0_3] 25 (0, 0))) ∧ Aside0 (Below w.heap.size w w'))
     case atStart => exact ⟨(x3_6), (0), (by first | rfl | (simp; done) | (simp [*]; done)), (by first | rfl | (simp; done) | (simp [*]; done)), H', ⟨Nat.le_refl _⟩, ⟨by (with_reducible repeat (first | refine blk_drewN ?_ _ | refine blk_drew ?_ | refine blk_alloc ?_ _)); exact BK101.out⟩, ⟨pE HB⟩⟩
     case round =>
      clear H'
      try clear c1
      try clear c2
      try clear c2b0
      try clear c2b1
      try clear p2
      try clear c6
      try clear c11
      try clear hcz13_0
      try clear hcz13_1
      try clear hcz13_2
      try clear hcz13_3
      try clear hcz14_0
      try clear hcz14_1
      try clear hcz14_2
      try clear hcz14_3
      try clear hcz4_0
      try clear hcz4_1
      try clear hcz4_2
      try clear hcz4_3
      try clear hcz9_0
      try clear hcz9_1
      try clear hcz9_2
      try clear hcz9_3
      try clear hfz13_0
      try clear hfz13_1
      try clear hfz13_2
      try clear hfz13_3
      try clear hfz14_0
      try clear hfz14_1
      try clear hfz14_2
      try clear hfz14_3
      try clear hfz4_0
      try clear hfz4_1
      try clear hfz4_2
      try clear hfz4_3
      try clear hfz9_0
      try clear hfz9_1
      try clear hfz9_2
      try clear hfz9_3
      try clear p2
      obtain ⟨x3_2, x4_2, rfl, rfl, HA, HK2, BK101, HB⟩ := hrel
      cases gk with
      | zero => exact absurd HA.out (by simp [walkmillref05_Check.l0])
      | succ k2 =>
       have H := HA.out
       clear HA
       simp only [walkmillref05_Check.l0] at H
       by_cases c15 : x4_2 < (l0_0.length : Int)
       ·rw [if_pos c15] at H
        have c15b0 : decide (x4_2 < (l0_0.length : Int)) = true := decide_eq_true c15
        clear c15
        by_cases c16 : x3_2 = true
        ·subst c16
         rw [if_pos rfl] at H
         by_cases c17 : 0 ≤ x4_2
         ·rw [if_pos c17] at H
          have c17b0 : decide (0 ≤ x4_2) = true := decide_eq_true c17
          clear c17
          obtain ⟨t106, A18, H⟩ := bi H
          by_cases c19 : t106 = true
          ·subst c19
           rw [if_pos rfl] at H
           obtain ⟨t108, A20, H⟩ := bi H
           have H' := Aside0.mk H
           clear H
           obtain ⟨hcz21_0, hcz21_1, hcz21_2, hcz21_3, hfz21_0, hfz21_1, hfz21_2, hfz21_3⟩ := cf4 BK101
           have p105 : 0 ≤ (x4_2 : Int) := dT
           have q105 : x4_2 < (l0_0.length : Int) := dT
           obtain ⟨ad105, e105, hx105_0, hx105_1, hx105_2, hx105_3⟩ := at_T43 HR0_0.out x4_2 p105 q105
           cases e105
           replace hx105_0 := cut_ HB hx105_0
           replace hx105_1 := cut_ HB hx105_1
           replace hx105_2 := cut_ HB hx105_2
           replace hx105_3 := cut_ HB hx105_3
           replace p105 := eq_true p105
           replace q105 := eq_true q105
           go_wp2_with (first | (go_at_call 58; (with_reducible refine (walkmillref05_Span.calls ((rd_T43 l0_0 x4_2).f0.f0) ((rd_T43 l0_0 x4_2).f0.f1) 1 2000 true _ A18.out).mono ?_); rintro e w22 ⟨rfl, hb⟩; replace BK101 := bb BK101 hb; replace HB := bs HB hb; (try clear hb); (try clear hb2); (try clear hk); (try clear hi); obtain ⟨hcz23_0, hcz23_1, hcz23_2, hcz23_3, hfz23_0, hfz23_1, hfz23_2, hfz23_3⟩ := cf4 BK101; have p107 : 0 ≤ (x4_2 : Int) := dT; have q107 : x4_2 < (l0_0.length : Int) := dT; obtain ⟨ad107, e107, hx107_0, hx107_1, hx107_2, hx107_3⟩ := at_T43 HR0_0.out x4_2 p107 q107; obtain rfl : ad105 = ad107 := (by injection e107); replace hx107_0 := cut_ HB hx107_0; replace hx107_1 := cut_ HB hx107_1; replace hx107_2 := cut_ HB hx107_2; replace hx107_3 := cut_ HB hx107_3; replace p107 := eq_true p107; replace q107 := eq_true q107) | (go_at_call 58; (with_reducible refine (walkmillref05_Span.calls ((rd_T43 l0_0 x4_2).f1.f0) ((rd_T43 l0_0 x4_2).f1.f1) 0 500 t108 _ A20.out).mono ?_); rintro e w24 ⟨rfl, hb⟩; replace BK101 := bb BK101 hb; replace HB := bs HB hb; (try clear hb); (try clear hb2); (try clear hk); (try clear hi)))
           go_roundg k2
           case measure => have := HJ6.out; have := HK2.out; omega
           case rel => exact ⟨(t108), (wrap64 (x4_2 + 1)), (by first | rfl | (simp; done) | (simp [*]; done)), (by first | rfl | (simp; done) | (simp [*]; done)), H', ⟨by have := HJ6.out; have := HK2.out; omega⟩, ⟨by (with_reducible repeat (first | refine blk_drewN ?_ _ | refine blk_drew ?_ | refine blk_alloc ?_ _)); exact BK101.out⟩, ⟨pE HB⟩⟩
          ·replace c19 := Bool.eq_false_iff.mpr c19
           subst c19
           rw [if_neg (show ¬ (false = true) by decide)] at H
           have H' := Aside0.mk H
           clear H
           obtain ⟨hcz25_0, hcz25_1, hcz25_2, hcz25_3, hfz25_0, hfz25_1, hfz25_2, hfz25_3⟩ := cf4 BK101
           have p105 : 0 ≤ (x4_2 : Int) := dT
           have q105 : x4_2 < (l0_0.length : Int) := dT
           obtain ⟨ad105, e105, hx105_0, hx105_1, hx105_2, hx105_3⟩ := at_T43 HR0_0.out x4_2 p105 q105
           cases e105
           replace hx105_0 := cut_ HB hx105_0
           replace hx105_1 := cut_ HB hx105_1
           replace hx105_2 := cut_ HB hx105_2
           replace hx105_3 := cut_ HB hx105_3
           replace p105 := eq_true p105
           replace q105 := eq_true q105
           go_wp2_with (first | (go_at_call 58; (with_reducible refine (walkmillref05_Span.calls ((rd_T43 l0_0 x4_2).f0.f0) ((rd_T43 l0_0 x4_2).f0.f1) 1 2000 false _ A18.out).mono ?_); rintro e w26 ⟨rfl, hb⟩; replace BK101 := bb BK101 hb; replace HB := bs HB hb; (try clear hb); (try clear hb2); (try clear hk); (try clear hi)))
           go_roundg k2
           case measure => have := HJ6.out; have := HK2.out; omega
           case rel => exact ⟨(false), (wrap64 (x4_2 + 1)), (by first | rfl | (simp; done) | (simp [*]; done)), (by first | rfl | (simp; done) | (simp [*]; done)), H', ⟨by have := HJ6.out; have := HK2.out; omega⟩, ⟨by (with_reducible repeat (first | refine blk_drewN ?_ _ | refine blk_drew ?_ | refine blk_alloc ?_ _)); exact BK101.out⟩, ⟨pE HB⟩⟩
         ·rw [if_neg c17] at H
          exact absurd H (by simp)
        ·replace c16 := Bool.eq_false_iff.mpr c16
         subst c16
         rw [if_neg (show ¬ (false = true) by decide)] at H
         have H' := Aside0.mk H
         clear H
         obtain ⟨hcz27_0, hcz27_1, hcz27_2, hcz27_3, hfz27_0, hfz27_1, hfz27_2, hfz27_3⟩ := cf4 BK101
         go_wp2
         go_roundg k2
         case measure => have := HJ6.out; have := HK2.out; omega
         case rel => exact ⟨(false), (wrap64 (x4_2 + 1)), (by first | rfl | (simp; done) | (simp [*]; done)), (by first | rfl | (simp; done) | (simp [*]; done)), H', ⟨by have := HJ6.out; have := HK2.out; omega⟩, ⟨by (with_reducible repeat (first | refine blk_drewN ?_ _ | refine blk_drew ?_ | refine blk_alloc ?_ _)); exact BK101.out⟩, ⟨pE HB⟩⟩
       ·rw [if_neg c15] at H
        have c15b0 : decide (x4_2 < (l0_0.length : Int)) = false := decide_eq_false c15
        clear c15
        have H' := Aside0.mk H
        clear H
        obtain ⟨hcz28_0, hcz28_1, hcz28_2, hcz28_3, hfz28_0, hfz28_1, hfz28_2, hfz28_3⟩ := cf4 BK101
        go_wp2
        go_loopg [3, 5] k2 (fun kq v3 v5 w' => ∃ (x3_3 : Bool) (x5_3 : Int), v3 = .bool x3_3 ∧ v5 = .int .i64 x5_3 ∧ Aside0 (walkmillref05_Check.l1 kq x3_3 x5_3 l0_0 l0_1 a0_2 a0_3 = some r) ∧ Aside0 (kq ≤ k2) ∧ Aside0 (w'.heap[gb101]? = some (.cells #[(.slice A0_0 l0_0.length c0_0), (.slice A0_1 l0_1.length c0_1), .int .i64 a0_2, .int .i64 a0_3] 25 (0, 0))) ∧ Aside0 (Below w.heap.size w w'))
        case atStart => exact ⟨(x3_2), (0), (by first | rfl | (simp; done) | (simp [*]; done)), (by first | rfl | (simp; done) | (simp [*]; done)), H', ⟨Nat.le_refl _⟩, ⟨by (with_reducible repeat (first | refine blk_drewN ?_ _ | refine blk_drew ?_ | refine blk_alloc ?_ _)); exact BK101.out⟩, ⟨pE HB⟩⟩
        case round =>
         clear H'
         try clear c1
         try clear p1
         try clear q1
         try clear hx1
         try clear c2
         try clear c2b0
         try clear c2b1
         try clear p2
         try clear c6
         try clear p6
         try clear p10
         try clear q10
         try clear hx10
         try clear c11
         try clear c15
         try clear c15b0
         try clear c16
         try clear c17
         try clear c17b0
         try clear c19
         try clear c22
         try clear hcz13_0
         try clear hcz13_1
         try clear hcz13_2
         try clear hcz13_3
         try clear hcz14_0
         try clear hcz14_1
         try clear hcz14_2
         try clear hcz14_3
         try clear hcz21_0
         try clear hcz21_1
         try clear hcz21_2
         try clear hcz21_3
         try clear hcz23_0
         try clear hcz23_1
         try clear hcz23_2
         try clear hcz23_3
         try clear hcz25_0
         try clear hcz25_1
         try clear hcz25_2
         try clear hcz25_3
         try clear hcz27_0
         try clear hcz27_1
         try clear hcz27_2
         try clear hcz27_3
         try clear hcz28_0
         try clear hcz28_1
         try clear hcz28_2
         try clear hcz28_3
         try clear hcz4_0
         try clear hcz4_1
         try clear hcz4_2
         try clear hcz4_3
         try clear hcz9_0
         try clear hcz9_1
         try clear hcz9_2
         try clear hcz9_3
         try clear hfz13_0
         try clear hfz13_1
         try clear hfz13_2
         try clear hfz13_3
         try clear hfz14_0
         try clear hfz14_1
         try clear hfz14_2
         try clear hfz14_3
         try clear hfz21_0
         try clear hfz21_1
         try clear hfz21_2
         try clear hfz21_3
         try clear hfz23_0
         try clear hfz23_1
         try clear hfz23_2
         try clear hfz23_3
         try clear hfz25_0
         try clear hfz25_1
         try clear hfz25_2
         try clear hfz25_3
         try clear hfz27_0
         try clear hfz27_1
         try clear hfz27_2
         try clear hfz27_3
         try clear hfz28_0
         try clear hfz28_1
         try clear hfz28_2
         try clear hfz28_3
         try clear hfz4_0
         try clear hfz4_1
         try clear hfz4_2
         try clear hfz4_3
         try clear hfz9_0
         try clear hfz9_1
         try clear hfz9_2
         try clear hfz9_3
         try clear hx105_0
         try clear hx105_1
         try clear hx105_2
         try clear hx105_3
         try clear hx107_0
         try clear hx107_1
         try clear hx107_2
         try clear hx107_3
         try clear p105
         try clear p107
         try clear p2
         try clear q105
         try clear q107
         obtain ⟨x3_3, x5_3, rfl, rfl, HA, HK3, BK101, HB⟩ := hrel
         cases gk with
         | zero => exact absurd HA.out (by simp [walkmillref05_Check.l1])
         | succ k3 =>
          have H := HA.out
          clear HA
          simp only [walkmillref05_Check.l1] at H
          by_cases c29 : x5_3 < (l0_1.length : Int)
          ·rw [if_pos c29] at H
           have c29b0 : decide (x5_3 < (l0_1.length : Int)) = true := decide_eq_true c29
           clear c29
           by_cases c30 : x3_3 = true
           ·subst c30
            rw [if_pos rfl] at H
            by_cases c31 : 0 ≤ x5_3
            ·rw [if_pos c31] at H
             have c31b0 : decide (0 ≤ x5_3) = true := decide_eq_true c31
             clear c31
             obtain ⟨t110, A32, H⟩ := bi H
             have H' := Aside0.mk H
             clear H
             obtain ⟨_, _, _, _, _, _, _, _⟩ := cf4 BK101
             have p109 : 0 ≤ (x5_3 : Int) := dT
             have q109 : x5_3 < (l0_1.length : Int) := dT
             obtain ⟨ad109, e109, hx109_0⟩ := Kd.at_int HR0_1.out x5_3 p109 q109
             cases e109
             replace hx109_0 := cut_ HB hx109_0
             replace p109 := eq_true p109
             replace q109 := eq_true q109
             go_wp2_with (first | (go_at_call 22; (with_reducible refine (walkmillref05_In.calls (rd l0_1 x5_3) 1 2000 t110 _ A32.out).mono ?_); rintro e w' ⟨rfl, ⟨nd, rfl⟩⟩))
             go_roundg k3
             case measure => have := HJ6.out; have := HK2.out; have := HK3.out; omega
             case rel => exact ⟨(t110), (wrap64 (x5_3 + 1)), (by first | rfl | (simp; done) | (simp [*]; done)), (by first | rfl | (simp; done) | (simp [*]; done)), H', ⟨by have := HJ6.out; have := HK2.out; have := HK3.out; omega⟩, ⟨by (with_reducible repeat (first | refine blk_drewN ?_ _ | refine blk_drew ?_ | refine blk_alloc ?_ _)); exact BK101.out⟩, ⟨pE HB⟩⟩
            ·rw [if_neg c31] at H
             exact absurd H (by simp)
           ·replace c30 := Bool.eq_false_iff.mpr c30
            subst c30
            rw [if_neg (show ¬ (false = true) by decide)] at H
            have H' := Aside0.mk H
            clear H
            obtain ⟨_, _, _, _, _, _, _, _⟩ := cf4 BK101
            go_wp2
            go_roundg k3
            case measure => have := HJ6.out; have := HK2.out; have := HK3.out; omega
            case rel => exact ⟨(false), (wrap64 (x5_3 + 1)), (by first | rfl | (simp; done) | (simp [*]; done)), (by first | rfl | (simp; done) | (simp [*]; done)), H', ⟨by have := HJ6.out; have := HK2.out; have := HK3.out; omega⟩, ⟨by (with_reducible repeat (first | refine blk_drewN ?_ _ | refine blk_drew ?_ | refine blk_alloc ?_ _)); exact BK101.out⟩, ⟨pE HB⟩⟩
          ·rw [if_neg c29] at H
           have c29b0 : decide (x5_3 < (l0_1.length : Int)) = false := decide_eq_false c29
           clear c29
           by_cases c35 : x3_3 = true
           ·subst c35
            rw [if_pos rfl] at H
            obtain rfl := Option.some.inj H
            obtain ⟨_, _, _, _, _, _, _, _⟩ := cf4 BK101
            go_wp2
            go_ret
            exact ⟨eT, pE HB⟩
           ·replace c35 := Bool.eq_false_iff.mpr c35
            subst c35
            rw [if_neg (show ¬ (false = true) by decide)] at H
            obtain rfl := Option.some.inj H
            obtain ⟨_, _, _, _, _, _, _, _⟩ := cf4 BK101
            go_wp2
            go_ret
            exact ⟨eT, pE HB⟩
  ·replace c6 := Bool.eq_false_iff.mpr c6
   subst c6
   rw [if_neg (show ¬ (false = true) by decide)] at H
   obtain rfl := Option.some.inj H
   go_enter Tryz.func17, Tryz.ntmps17
   go_wp2_with (first | ((with_reducible refine gate_dst (N := 1) rfl ?_); refine bx 1 #[.slice A0_0 l0_0.length c0_0, .slice A0_1 l0_1.length c0_1, .int .i64 a0_2, .int .i64 a0_3] 25 ?_; intro gb101 hg w38 hbox hb; have BK101 := hbox; have GW101 := gs HB hg; have GE101 := gs HB hg; replace HB := bs HB hb; clear hb hbox hg; obtain ⟨_, _, _, _, _, _, _, _⟩ := cf4 BK101) | ((with_reducible refine gc 22 rfl ?_); refine gL 13 Tryz.func22 #[.int .i64 (l0_1.length : Int), .int .i64 1, .int .i64 3] ?_; (with_reducible refine (walkmillref05_In.calls (l0_1.length : Int) 1 3 false _ A5.out).mono ?_); rintro e w' ⟨rfl, ⟨nd, rfl⟩⟩; refine ⟨_, rfl, ?_⟩))
   go_ret
   exact ⟨eT, pE HB⟩
def walkmillref05_Ints.l0 : Nat → List Int → List Int → Int → Option (Bool)
  | 0, _, _, _ => none
  | k + 1, x0, x1, x5 => if x5 < (x0.length : Int) then (if 0 ≤ x5 then (if x5 < (x1.length : Int) then (if (rd x0 x5) = (rd x1 x5) then (walkmillref05_Ints.l0 k x0 x1 (wrap64 (x5 + 1))) else (some false)) else (none)) else (none)) else (some true)
def walkmillref05_Ints.f (k : Nat) (l0 : List Int) (l1 : List Int) : Option (Bool) := if (l0.length : Int) = (l1.length : Int) then (walkmillref05_Ints.l0 k l0 l1 0) else (some false)
theorem walkmillref05_Ints.mono_l : ∀ k, (∀ y0 y1 y2, LeO (walkmillref05_Ints.l0 k y0 y1 y2) (walkmillref05_Ints.l0 (k + 1) y0 y1 y2))
  | 0 => fun _ _ _ r h => by simp [walkmillref05_Ints.l0] at h
  | k + 1 => by
    have ih0 := walkmillref05_Ints.mono_l k
    · intro y0 y1 y2
      unfold walkmillref05_Ints.l0
      repeat' first
      | (with_reducible exact ih0 _ _ _)
      | (with_reducible exact LeO.refl _)
      | (with_reducible exact LeO.none _)
      | (with_reducible refine LeO.ite ?_ ?_)
      | (with_reducible refine LeO.bind ?_ (fun _ => ?_))
      | exact ih0 _ _ _
      | exact LeO.none _
      | refine LeO.ite ?_ ?_
      | refine LeO.bind ?_ (fun _ => ?_)
theorem walkmillref05_Ints.mono : ∀ a0 a1 k, LeO (walkmillref05_Ints.f k a0 a1) (walkmillref05_Ints.f (k + 1) a0 a1) := by
  intro a0 a1 k
  have ih0 := walkmillref05_Ints.mono_l k
  unfold walkmillref05_Ints.f
  repeat' first
      | (with_reducible exact ih0 _ _ _)
      | (with_reducible exact LeO.refl _)
      | (with_reducible exact LeO.none _)
      | (with_reducible refine LeO.ite ?_ ?_)
      | (with_reducible refine LeO.bind ?_ (fun _ => ?_))
      | exact ih0 _ _ _
      | exact LeO.none _
      | refine LeO.ite ?_ ?_
      | refine LeO.bind ?_ (fun _ => ?_)
set_option maxHeartbeats 8000000 in
set_option maxRecDepth 100000 in
theorem walkmillref05_Ints.calls (k : Nat) (A0 : Option Addr) (c0 : Nat) (l0 : List Int) (A1 : Option Addr) (c1 : Nat) (l1 : List Int) (r : Bool) (w : World) (hr0 : Kd.C (Kd.int .i64) w A0 l0.length l0) (hc0 : l0.length ≤ c0) (hr1 : Kd.C (Kd.int .i64) w A1 l1.length l1) (hc1 : l1.length ≤ c1) (h : walkmillref05_Ints.f k l0 l1 = some r) :
    Calls Tryz.prog 31 #[.slice A0 l0.length c0, .slice A1 l1.length c1] w fun e w' => e = .returned (.bool r) ∧ Drawn0 w w' := by
  have HR0 := Aside0.mk hr0
  have HC0 := Aside0.mk hc0
  clear hr0 hc0
  have HR1 := Aside0.mk hr1
  have HC1 := Aside0.mk hc1
  clear hr1 hc1
  have H : (if (l0.length : Int) = (l1.length : Int) then (walkmillref05_Ints.l0 k l0 l1 0) else (some false)) = some r := h
  clear h
  by_cases c3 : (l0.length : Int) = (l1.length : Int)
  · rw [if_pos c3] at H
    have c3b0 : ((l0.length : Int) == (l1.length : Int)) = true := beq_iff_eq.mpr c3
    have c3b1 : ((l0.length : Int) != (l1.length : Int)) = false := bne_eq_false_iff_eq.mpr c3
    have c3b2 : (l0.length == l1.length) = true := by first | simpa using c3 | (simp at c3 ⊢; omega)
    clear c3
    have H' := Aside0.mk H
    clear H
    go_enter Tryz.func31, Tryz.ntmps31
    go_wp2
    repeat (go_quiet (fail); try go_wp2)
    go_loopg [5] k (fun kq v5 w' => ∃ (x5_1 : Int), v5 = .int .i64 x5_1 ∧ Aside0 (walkmillref05_Ints.l0 kq l0 l1 x5_1 = some r) ∧ Aside0 (kq ≤ k) ∧ Drawn0 w w')
    case atStart => exact ⟨(0), (by first | rfl | (simp; done) | (simp [*]; done)), H', ⟨Nat.le_refl _⟩, by repeat (first | exact Drawn0.refl _ | apply Drawn0.step)⟩
    case round =>
      clear H'
      try clear c1
      try clear p2
      try clear c3
      try clear c3b0
      try clear c3b1
      try clear c3b2
      obtain ⟨x5_1, rfl, HA, HK1, ⟨m1, rfl⟩⟩ := hrel
      cases gk with
      | zero => exact absurd HA.out (by simp [walkmillref05_Ints.l0])
      | succ k1 =>
        have H := HA.out
        clear HA
        simp only [walkmillref05_Ints.l0] at H
        by_cases c4 : x5_1 < (l0.length : Int)
        · rw [if_pos c4] at H
          have c4b0 : decide (x5_1 < (l0.length : Int)) = true := decide_eq_true c4
          clear c4
          by_cases c5 : 0 ≤ x5_1
          · rw [if_pos c5] at H
            have c5b0 : decide (0 ≤ x5_1) = true := decide_eq_true c5
            clear c5
            by_cases c6 : x5_1 < (l1.length : Int)
            · rw [if_pos c6] at H
              have c6b0 : decide (x5_1 < (l1.length : Int)) = true := decide_eq_true c6
              clear c6
              by_cases c7 : (rd l0 x5_1) = (rd l1 x5_1)
              · rw [if_pos c7] at H
                have c7b0 : ((rd l0 x5_1) == (rd l1 x5_1)) = true := beq_iff_eq.mpr c7
                have c7b1 : ((rd l0 x5_1) != (rd l1 x5_1)) = false := bne_eq_false_iff_eq.mpr c7
                clear c7
                have H' := Aside0.mk H
                clear H
                have p101 : 0 ≤ (x5_1 : Int) := of_decide_eq_true (by first | (with_reducible assumption) | assumption)
                have q101 : x5_1 < (l0.length : Int) := of_decide_eq_true (by first | (with_reducible assumption) | assumption)
                obtain ⟨ad101, e101, hx101_0⟩ := Kd.at_int HR0.out x5_1 p101 q101
                cases e101
                replace p101 := eq_true p101
                replace q101 := eq_true q101
                have p102 : 0 ≤ (x5_1 : Int) := of_decide_eq_true (by first | (with_reducible assumption) | assumption)
                have q102 : x5_1 < (l1.length : Int) := of_decide_eq_true (by first | (with_reducible assumption) | assumption)
                obtain ⟨ad102, e102, hx102_0⟩ := Kd.at_int HR1.out x5_1 p102 q102
                cases e102
                replace p102 := eq_true p102
                replace q102 := eq_true q102
                go_wp2
                repeat (go_quiet (fail); try go_wp2)
                go_roundg k1
                case measure => have := HK1.out; omega
                case rel => exact ⟨(wrap64 (x5_1 + 1)), (by first | rfl | (simp; done) | (simp [*]; done)), H', ⟨by have := HK1.out; omega⟩, by repeat (first | exact Drawn0.refl _ | apply Drawn0.step)⟩
              · rw [if_neg c7] at H
                have c7b0 : ((rd l0 x5_1) == (rd l1 x5_1)) = false := beq_eq_false_iff_ne.mpr c7
                have c7b1 : ((rd l0 x5_1) != (rd l1 x5_1)) = true := bne_iff_ne.mpr c7
                obtain rfl := Option.some.inj H
                have p101 : 0 ≤ (x5_1 : Int) := of_decide_eq_true (by first | (with_reducible assumption) | assumption)
                have q101 : x5_1 < (l0.length : Int) := of_decide_eq_true (by first | (with_reducible assumption) | assumption)
                obtain ⟨ad101, e101, hx101_0⟩ := Kd.at_int HR0.out x5_1 p101 q101
                cases e101
                replace p101 := eq_true p101
                replace q101 := eq_true q101
                have p102 : 0 ≤ (x5_1 : Int) := of_decide_eq_true (by first | (with_reducible assumption) | assumption)
                have q102 : x5_1 < (l1.length : Int) := of_decide_eq_true (by first | (with_reducible assumption) | assumption)
                obtain ⟨ad102, e102, hx102_0⟩ := Kd.at_int HR1.out x5_1 p102 q102
                cases e102
                replace p102 := eq_true p102
                replace q102 := eq_true q102
                go_wp2
                repeat (go_quiet (fail); try go_wp2)
                go_ret
                exact ⟨by first | rfl | (simp; done) | (simp [*]; done), by repeat (first | exact Drawn0.refl _ | apply Drawn0.step)⟩
            · rw [if_neg c6] at H
              exact absurd H (by simp)
          · rw [if_neg c5] at H
            exact absurd H (by simp)
        · rw [if_neg c4] at H
          have c4b0 : decide (x5_1 < (l0.length : Int)) = false := decide_eq_false c4
          clear c4
          obtain rfl := Option.some.inj H
          go_wp2
          repeat (go_quiet (fail); try go_wp2)
          go_ret
          exact ⟨by first | rfl | (simp; done) | (simp [*]; done), by repeat (first | exact Drawn0.refl _ | apply Drawn0.step)⟩
  · rw [if_neg c3] at H
    have c3b0 : ((l0.length : Int) == (l1.length : Int)) = false := beq_eq_false_iff_ne.mpr c3
    have c3b1 : ((l0.length : Int) != (l1.length : Int)) = true := bne_iff_ne.mpr c3
    have c3b2 : (l0.length == l1.length) = false := by first | simpa using c3 | (simp at c3 ⊢; omega)
    obtain rfl := Option.some.inj H
    go_enter Tryz.func31, Tryz.ntmps31
    go_wp2
    repeat (go_quiet (fail); try go_wp2)
    go_ret
    exact ⟨by first | rfl | (simp; done) | (simp [*]; done), by repeat (first | exact Drawn0.refl _ | apply Drawn0.step)⟩
theorem eqA36 (d : Nat) (w : World) (x0 y0 : Int) (x1 y1 : Int) :
    (Op.equalIn (d + 2) 36 (.agg #[.int .i64 x0, .int .i64 x1]) (.agg #[.int .i64 y0, .int .i64 y1])).run Tryz.prog w = .ok (x0 == y0 && (x1 == y1)) w := by
  refine eqA_of Tryz.underlying36 (by kernel_rfl) ?_
  refine eqf_cons (by rfl) (by go_simp; rfl) (by go_simp; rfl) (by go_simp) ?_
  exact eqf_last (by rfl) (by go_simp; rfl) (by go_simp; rfl) (by go_simp)
theorem eqA43 (d : Nat) (w : World) (x0 y0 : Int) (x1 y1 : Int) (x2 y2 : Int) (x3 y3 : Int) :
    (Op.equalIn (d + 3) 43 (.agg #[.int .i64 x0, .int .i64 x1, .int .i64 x2, .int .i64 x3]) (.agg #[.int .i64 y0, .int .i64 y1, .int .i64 y2, .int .i64 y3])).run Tryz.prog w = .ok ((x0 == y0 && (x1 == y1)) && ((x2 == y2 && (x3 == y3)))) w := by
  refine eqA_of Tryz.underlying43 (by kernel_rfl) ?_
  refine eqf_cons (by rfl) (by go_simp) (by go_simp) (eqA36 (d + 0) w _ _ _ _) ?_
  exact eqf_last (by rfl) (by go_simp) (by go_simp) (eqA36 (d + 0) w _ _ _ _)
end Go.Proofs.YtikmfpjcdcckeaaGreatDoor.P
namespace Go.Proofs.YtikmfpjcdcckeaaGreatDoor.P
open Go.RowKit Go.Proofs.YtikmfpjcdcckeaaGreatDoorW.PrintWords Go.Proofs.YtikmfpjcdcckeaaGreatDoorW.PrintLast Go.Proofs.YtikmfpjcdcckeaaGreatDoorW.PrintMore
attribute [local go_sem] max2_int min2_int max_two min_two max_three min_three max_four min_four
attribute [local go_sem high] eqA43
mutual
def walkmillref05_Same.j0 : Nat → Bool → List (S43) → List Int → Int → Int → List (S43) → List Int → Int → Int → Option (Bool)
 | 0, _, _, _, _, _, _, _, _, _ => none
 | k + 1, x34, x102000, x102001, x102002, x102003, x103000, x103001, x103002, x103003 => if x34 = true then (some false) else (walkmillref05_Same.l0 k 0 x102000 x102001 x102002 x102003 x103000 x103001 x103002 x103003)
def walkmillref05_Same.l0 : Nat → Int → List (S43) → List Int → Int → Int → List (S43) → List Int → Int → Int → Option (Bool)
 | 0, _, _, _, _, _, _, _, _, _ => none
 | k + 1, x5, x102000, x102001, x102002, x102003, x103000, x103001, x103002, x103003 => if x5 < (x102000.length : Int) then (if 0 ≤ x5 then (if x5 < (x103000.length : Int) then (if ((!(((rd_T43 x102000 x5).f0.f0) == ((rd_T43 x103000 x5).f0.f0)) || (!(((rd_T43 x102000 x5).f0.f1) == ((rd_T43 x103000 x5).f0.f1)))) || ((!(((rd_T43 x102000 x5).f1.f0) == ((rd_T43 x103000 x5).f1.f0)) || (!(((rd_T43 x102000 x5).f1.f1) == ((rd_T43 x103000 x5).f1.f1)))))) = true then (some false) else (walkmillref05_Same.l0 k (wrap64 (x5 + 1)) x102000 x102001 x102002 x102003 x103000 x103001 x103002 x103003)) else (none)) else (none)) else (some true)
end
def walkmillref05_Same.f (k : Nat) (l0_0 : List (S43)) (l0_1 : List Int) (a0_2 : Int) (a0_3 : Int) (l1_0 : List (S43)) (l1_1 : List Int) (a1_2 : Int) (a1_3 : Int) : Option (Bool) := (walkmillref05_Ints.f k l0_1 l1_1).bind fun t103 => (if t103 = true then (if (l0_0.length : Int) = (l1_0.length : Int) then (if a0_2 = a1_2 then (walkmillref05_Same.j0 k (a0_3 != a1_3) l0_0 l0_1 a0_2 a0_3 l1_0 l1_1 a1_2 a1_3) else (walkmillref05_Same.j0 k true l0_0 l0_1 a0_2 a0_3 l1_0 l1_1 a1_2 a1_3)) else (walkmillref05_Same.j0 k true l0_0 l0_1 a0_2 a0_3 l1_0 l1_1 a1_2 a1_3)) else (walkmillref05_Same.j0 k true l0_0 l0_1 a0_2 a0_3 l1_0 l1_1 a1_2 a1_3))
theorem walkmillref05_Same.mono_l : ∀ k, (∀ y0 y1 y2 y3 y4 y5 y6 y7 y8, LeO (walkmillref05_Same.j0 k y0 y1 y2 y3 y4 y5 y6 y7 y8) (walkmillref05_Same.j0 (k + 1) y0 y1 y2 y3 y4 y5 y6 y7 y8)) ∧ (∀ y0 y1 y2 y3 y4 y5 y6 y7 y8, LeO (walkmillref05_Same.l0 k y0 y1 y2 y3 y4 y5 y6 y7 y8) (walkmillref05_Same.l0 (k + 1) y0 y1 y2 y3 y4 y5 y6 y7 y8))
 | 0 => ⟨fun _ _ _ _ _ _ _ _ _ r h => by simp [walkmillref05_Same.j0] at h, fun _ _ _ _ _ _ _ _ _ r h => by simp [walkmillref05_Same.l0] at h⟩
 | k + 1 => by
  obtain ⟨ih0, ih1⟩ := walkmillref05_Same.mono_l k
  refine ⟨?_, ?_⟩
  ·intro y0 y1 y2 y3 y4 y5 y6 y7 y8
   unfold walkmillref05_Same.j0
   repeat' first
   | (with_reducible exact ih0 _ _ _ _ _ _ _ _ _)
   | (with_reducible exact ih1 _ _ _ _ _ _ _ _ _)
   | (with_reducible exact walkmillref05_Ints.mono _ _ _)
   | (with_reducible exact LeO.refl _)
   | (with_reducible exact LeO.none _)
   | (with_reducible refine LeO.ite ?_ ?_)
   | (with_reducible refine LeO.bind ?_ (fun _ => ?_))
   | exact ih0 _ _ _ _ _ _ _ _ _
   | exact ih1 _ _ _ _ _ _ _ _ _
   | exact walkmillref05_Ints.mono _ _ _
   | exact LeO.none _
   | refine LeO.ite ?_ ?_
   | refine LeO.bind ?_ (fun _ => ?_)
  ·intro y0 y1 y2 y3 y4 y5 y6 y7 y8
   unfold walkmillref05_Same.l0
   repeat' first
   | (with_reducible exact ih0 _ _ _ _ _ _ _ _ _)
   | (with_reducible exact ih1 _ _ _ _ _ _ _ _ _)
   | (with_reducible exact walkmillref05_Ints.mono _ _ _)
   | (with_reducible exact LeO.refl _)
   | (with_reducible exact LeO.none _)
   | (with_reducible refine LeO.ite ?_ ?_)
   | (with_reducible refine LeO.bind ?_ (fun _ => ?_))
   | exact ih0 _ _ _ _ _ _ _ _ _
   | exact ih1 _ _ _ _ _ _ _ _ _
   | exact walkmillref05_Ints.mono _ _ _
   | exact LeO.none _
   | refine LeO.ite ?_ ?_
   | refine LeO.bind ?_ (fun _ => ?_)
theorem walkmillref05_Same.mono : ∀ a0 a1 a2 a3 a4 a5 a6 a7 k, LeO (walkmillref05_Same.f k a0 a1 a2 a3 a4 a5 a6 a7) (walkmillref05_Same.f (k + 1) a0 a1 a2 a3 a4 a5 a6 a7) := by
 intro a0 a1 a2 a3 a4 a5 a6 a7 k
 obtain ⟨ih0, ih1⟩ := walkmillref05_Same.mono_l k
 unfold walkmillref05_Same.f
 repeat' first
   | (with_reducible exact ih0 _ _ _ _ _ _ _ _ _)
   | (with_reducible exact ih1 _ _ _ _ _ _ _ _ _)
   | (with_reducible exact walkmillref05_Ints.mono _ _ _)
   | (with_reducible exact LeO.refl _)
   | (with_reducible exact LeO.none _)
   | (with_reducible refine LeO.ite ?_ ?_)
   | (with_reducible refine LeO.bind ?_ (fun _ => ?_))
   | exact ih0 _ _ _ _ _ _ _ _ _
   | exact ih1 _ _ _ _ _ _ _ _ _
   | exact walkmillref05_Ints.mono _ _ _
   | exact LeO.none _
   | refine LeO.ite ?_ ?_
   | refine LeO.bind ?_ (fun _ => ?_)
set_option maxHeartbeats 8000000 in
set_option maxRecDepth 100000 in
theorem walkmillref05_Same.calls (k : Nat) (A0_0 : Option Addr) (c0_0 : Nat) (l0_0 : List (S43)) (A0_1 : Option Addr) (c0_1 : Nat) (l0_1 : List Int) (a0_2 : Int) (a0_3 : Int) (A1_0 : Option Addr) (c1_0 : Nat) (l1_0 : List (S43)) (A1_1 : Option Addr) (c1_1 : Nat) (l1_1 : List Int) (a1_2 : Int) (a1_3 : Int) (r : Bool) (w : World) (hr0_0 : Kd.C k43 w A0_0 l0_0.length l0_0) (hc0_0 : l0_0.length ≤ c0_0) (hr0_1 : Kd.C (Kd.int .i64) w A0_1 l0_1.length l0_1) (hc0_1 : l0_1.length ≤ c0_1) (hr1_0 : Kd.C k43 w A1_0 l1_0.length l1_0) (hc1_0 : l1_0.length ≤ c1_0) (hr1_1 : Kd.C (Kd.int .i64) w A1_1 l1_1.length l1_1) (hc1_1 : l1_1.length ≤ c1_1) (h : walkmillref05_Same.f k l0_0 l0_1 a0_2 a0_3 l1_0 l1_1 a1_2 a1_3 = some r) :
  Calls Tryz.prog 18 #[.agg #[.slice A0_0 l0_0.length c0_0, .slice A0_1 l0_1.length c0_1, .int .i64 a0_2, .int .i64 a0_3], .agg #[.slice A1_0 l1_0.length c1_0, .slice A1_1 l1_1.length c1_1, .int .i64 a1_2, .int .i64 a1_3]] w fun e w' => e = .returned (.bool r) ∧ Below w.heap.size w w' := by
 have hu25 := Tryz.underlying25
 have hu43 := Tryz.underlying43
 have HR0_0 := Aside0.mk hr0_0
 have HC0_0 := Aside0.mk hc0_0
 clear hr0_0 hc0_0
 have HR0_1 := Aside0.mk hr0_1
 have HC0_1 := Aside0.mk hc0_1
 clear hr0_1 hc0_1
 have HR1_0 := Aside0.mk hr1_0
 have HC1_0 := Aside0.mk hc1_0
 clear hr1_0 hc1_0
 have HR1_1 := Aside0.mk hr1_1
 have HC1_1 := Aside0.mk hc1_1
 clear hr1_1 hc1_1
 have HB := Aside0.mk (Below.refl w.heap.size w)
 have H : ((walkmillref05_Ints.f k l0_1 l1_1).bind fun t103 => (if t103 = true then (if (l0_0.length : Int) = (l1_0.length : Int) then (if a0_2 = a1_2 then (walkmillref05_Same.j0 k (a0_3 != a1_3) l0_0 l0_1 a0_2 a0_3 l1_0 l1_1 a1_2 a1_3) else (walkmillref05_Same.j0 k true l0_0 l0_1 a0_2 a0_3 l1_0 l1_1 a1_2 a1_3)) else (walkmillref05_Same.j0 k true l0_0 l0_1 a0_2 a0_3 l1_0 l1_1 a1_2 a1_3)) else (walkmillref05_Same.j0 k true l0_0 l0_1 a0_2 a0_3 l1_0 l1_1 a1_2 a1_3))) = some r := h
 clear h
 have HC3 := Aside0.mk H
 clear H
 go_enter Tryz.func18, Tryz.ntmps18
 go_upto_region 1 with (first | ((with_reducible refine gate_dst (N := 2) rfl ?_); (try (refine gate_guard (by rfl) ?_; dsimp only)); refine bx 2 #[.slice A0_0 l0_0.length c0_0, .slice A0_1 l0_1.length c0_1, .int .i64 a0_2, .int .i64 a0_3] 25 ?_; intro gb101 hg w4 hbox hb; have BK101 := hbox; have GW101 := gs HB hg; have GE101 := gs HB hg; replace HB := bs HB hb; clear hb hbox hg) | ((with_reducible refine gate_dst (N := 3) rfl ?_); (try (refine gate_guard (by rfl) ?_; dsimp only)); refine bx 3 #[.slice A1_0 l1_0.length c1_0, .slice A1_1 l1_1.length c1_1, .int .i64 a1_2, .int .i64 a1_3] 25 ?_; intro gb102 hg w5 hbox hb; have BK102 := hbox; have GW102 := gs HB hg; have GE102 := gs HB hg; replace HB := bs HB hb; have NB101_102 := nl BK101 hg; have NB102_101 := nr BK101 hg; replace BK101 := bb BK101 hb; clear hb hbox hg))
 repeat (go_quiet (first | ((with_reducible refine gate_dst (N := 2) rfl ?_); (try (refine gate_guard (by rfl) ?_; dsimp only)); refine bx 2 #[.slice A0_0 l0_0.length c0_0, .slice A0_1 l0_1.length c0_1, .int .i64 a0_2, .int .i64 a0_3] 25 ?_; intro gb101 hg w4 hbox hb; have BK101 := hbox; have GW101 := gs HB hg; have GE101 := gs HB hg; replace HB := bs HB hb; clear hb hbox hg) | ((with_reducible refine gate_dst (N := 3) rfl ?_); (try (refine gate_guard (by rfl) ?_; dsimp only)); refine bx 3 #[.slice A1_0 l1_0.length c1_0, .slice A1_1 l1_1.length c1_1, .int .i64 a1_2, .int .i64 a1_3] 25 ?_; intro gb102 hg w5 hbox hb; have BK102 := hbox; have GW102 := gs HB hg; have GE102 := gs HB hg; replace HB := bs HB hb; have NB101_102 := nl BK101 hg; have NB102_101 := nr BK101 hg; replace BK101 := bb BK101 hb; clear hb hbox hg)); go_upto_region 1 with (first | ((with_reducible refine gate_dst (N := 2) rfl ?_); (try (refine gate_guard (by rfl) ?_; dsimp only)); refine bx 2 #[.slice A0_0 l0_0.length c0_0, .slice A0_1 l0_1.length c0_1, .int .i64 a0_2, .int .i64 a0_3] 25 ?_; intro gb101 hg w4 hbox hb; have BK101 := hbox; have GW101 := gs HB hg; have GE101 := gs HB hg; replace HB := bs HB hb; clear hb hbox hg) | ((with_reducible refine gate_dst (N := 3) rfl ?_); (try (refine gate_guard (by rfl) ?_; dsimp only)); refine bx 3 #[.slice A1_0 l1_0.length c1_0, .slice A1_1 l1_1.length c1_1, .int .i64 a1_2, .int .i64 a1_3] 25 ?_; intro gb102 hg w5 hbox hb; have BK102 := hbox; have GW102 := gs HB hg; have GE102 := gs HB hg; replace HB := bs HB hb; have NB101_102 := nl BK101 hg; have NB102_101 := nr BK101 hg; replace BK101 := bb BK101 hb; clear hb hbox hg)))
 (try simp only [Act.put, List.setIfInBounds_toArray, List.set_cons_zero, List.set_cons_succ])
 go_cut [34] (fun v34 wc => ∃ (kq : Nat) (x34_2 : Bool), v34 = .bool x34_2 ∧ Aside0 (walkmillref05_Same.j0 kq x34_2 l0_0 l0_1 a0_2 a0_3 l1_0 l1_1 a1_2 a1_3 = some r) ∧ Aside0 (kq ≤ k) ∧ Aside0 (wc.heap[gb101]? = some (.cells #[(.slice A0_0 l0_0.length c0_0), (.slice A0_1 l0_1.length c0_1), .int .i64 a0_2, .int .i64 a0_3] 25 (0, 0))) ∧ Aside0 (wc.heap[gb102]? = some (.cells #[(.slice A1_0 l1_0.length c1_0), (.slice A1_1 l1_1.length c1_1), .int .i64 a1_2, .int .i64 a1_3] 25 (0, 0))) ∧ Aside0 (Below w.heap.size w wc))
 case first =>
  have H := HC3.out
  clear HC3
  obtain ⟨t103, A6, H⟩ := bi H
  by_cases c7 : t103 = true
  ·subst c7
   rw [if_pos rfl] at H
   by_cases c8 : (l0_0.length : Int) = (l1_0.length : Int)
   ·rw [if_pos c8] at H
    have c8b0 : ((l0_0.length : Int) == (l1_0.length : Int)) = true := beq_iff_eq.mpr c8
    have c8b1 : ((l0_0.length : Int) != (l1_0.length : Int)) = false := bne_eq_false_iff_eq.mpr c8
    have c8b2 : (l0_0.length == l1_0.length) = true := by first | simpa using c8 | (simp at c8 ⊢; omega)
    clear c8
    (first | rw [c8b0] | (simp only [i64_w, i32_w]; rw [c8b0]) | skip)
    by_cases c9 : a0_2 = a1_2
    ·rw [if_pos c9] at H
     have c9b0 : (a0_2 == a1_2) = true := beq_iff_eq.mpr c9
     have c9b1 : (a0_2 != a1_2) = false := bne_eq_false_iff_eq.mpr c9
     clear c9
     have H' := Aside0.mk H
     clear H
     have hnb10 := NB101_102.out
     have hnc10 := NB102_101.out
     obtain ⟨hcz11_0, hcz11_1, hcz11_2, hcz11_3, hfz11_0, hfz11_1, hfz11_2, hfz11_3⟩ := cf4 BK101
     obtain ⟨hcz12_0, hcz12_1, hcz12_2, hcz12_3, hfz12_0, hfz12_1, hfz12_2, hfz12_3⟩ := cf4 BK102
     go_wp2_with (first | (go_at_call 31; (with_reducible refine (walkmillref05_Ints.calls k _ _ l0_1 _ _ l1_1 true _ ?side1 ?side2 ?side3 ?side4 A6.out).mono ?_); (case side1 => exact pC (Kd.C_below HR0_1.out HB.out)); (case side2 => exact HC0_1.out); (case side3 => exact pC (Kd.C_below HR1_1.out HB.out)); (case side4 => exact HC1_1.out); rintro e w' ⟨rfl, ⟨nd, rfl⟩⟩; (try first | exact ⟨rfl, _, World.drewN_drewN _ _ _⟩ | exact ⟨rfl, _, Eq.trans (World.drewN_drewN _ _ _) (congrArg (World.drewN _) (Nat.add_assoc _ _ _))⟩)))
     repeat (go_quiet (first | (go_at_call 31; (with_reducible refine (walkmillref05_Ints.calls k _ _ l0_1 _ _ l1_1 true _ ?side1 ?side2 ?side3 ?side4 A6.out).mono ?_); (case side1 => exact pC (Kd.C_below HR0_1.out HB.out)); (case side2 => exact HC0_1.out); (case side3 => exact pC (Kd.C_below HR1_1.out HB.out)); (case side4 => exact HC1_1.out); rintro e w' ⟨rfl, ⟨nd, rfl⟩⟩; (try first | exact ⟨rfl, _, World.drewN_drewN _ _ _⟩ | exact ⟨rfl, _, Eq.trans (World.drewN_drewN _ _ _) (congrArg (World.drewN _) (Nat.add_assoc _ _ _))⟩))); try go_wp2_with (first | (go_at_call 31; (with_reducible refine (walkmillref05_Ints.calls k _ _ l0_1 _ _ l1_1 true _ ?side1 ?side2 ?side3 ?side4 A6.out).mono ?_); (case side1 => exact pC (Kd.C_below HR0_1.out HB.out)); (case side2 => exact HC0_1.out); (case side3 => exact pC (Kd.C_below HR1_1.out HB.out)); (case side4 => exact HC1_1.out); rintro e w' ⟨rfl, ⟨nd, rfl⟩⟩; (try first | exact ⟨rfl, _, World.drewN_drewN _ _ _⟩ | exact ⟨rfl, _, Eq.trans (World.drewN_drewN _ _ _) (congrArg (World.drewN _) (Nat.add_assoc _ _ _))⟩))))
     go_meet
     case rel => exact ⟨_, ((a0_3 != a1_3)), (by first | rfl | (simp; done) | (simp [*]; done)), H', ⟨by first | omega | exact Nat.le_refl _⟩, ⟨by (with_reducible repeat (first | refine blk_drewN ?_ _ | refine blk_drew ?_ | refine blk_alloc ?_ _)); exact BK101.out⟩, ⟨by (with_reducible repeat (first | refine blk_drewN ?_ _ | refine blk_drew ?_ | refine blk_alloc ?_ _)); exact BK102.out⟩, ⟨pE HB⟩⟩
    ·rw [if_neg c9] at H
     have c9b0 : (a0_2 == a1_2) = false := beq_eq_false_iff_ne.mpr c9
     have c9b1 : (a0_2 != a1_2) = true := bne_iff_ne.mpr c9
     have H' := Aside0.mk H
     clear H
     have hnb13 := NB101_102.out
     have hnc13 := NB102_101.out
     obtain ⟨hcz14_0, hcz14_1, hcz14_2, hcz14_3, hfz14_0, hfz14_1, hfz14_2, hfz14_3⟩ := cf4 BK101
     obtain ⟨hcz15_0, hcz15_1, hcz15_2, hcz15_3, hfz15_0, hfz15_1, hfz15_2, hfz15_3⟩ := cf4 BK102
     go_wp2_with (first | (go_at_call 31; (with_reducible refine (walkmillref05_Ints.calls k _ _ l0_1 _ _ l1_1 true _ ?side1 ?side2 ?side3 ?side4 A6.out).mono ?_); (case side1 => exact pC (Kd.C_below HR0_1.out HB.out)); (case side2 => exact HC0_1.out); (case side3 => exact pC (Kd.C_below HR1_1.out HB.out)); (case side4 => exact HC1_1.out); rintro e w' ⟨rfl, ⟨nd, rfl⟩⟩; (try first | exact ⟨rfl, _, World.drewN_drewN _ _ _⟩ | exact ⟨rfl, _, Eq.trans (World.drewN_drewN _ _ _) (congrArg (World.drewN _) (Nat.add_assoc _ _ _))⟩)))
     repeat (go_quiet (first | (go_at_call 31; (with_reducible refine (walkmillref05_Ints.calls k _ _ l0_1 _ _ l1_1 true _ ?side1 ?side2 ?side3 ?side4 A6.out).mono ?_); (case side1 => exact pC (Kd.C_below HR0_1.out HB.out)); (case side2 => exact HC0_1.out); (case side3 => exact pC (Kd.C_below HR1_1.out HB.out)); (case side4 => exact HC1_1.out); rintro e w' ⟨rfl, ⟨nd, rfl⟩⟩; (try first | exact ⟨rfl, _, World.drewN_drewN _ _ _⟩ | exact ⟨rfl, _, Eq.trans (World.drewN_drewN _ _ _) (congrArg (World.drewN _) (Nat.add_assoc _ _ _))⟩))); try go_wp2_with (first | (go_at_call 31; (with_reducible refine (walkmillref05_Ints.calls k _ _ l0_1 _ _ l1_1 true _ ?side1 ?side2 ?side3 ?side4 A6.out).mono ?_); (case side1 => exact pC (Kd.C_below HR0_1.out HB.out)); (case side2 => exact HC0_1.out); (case side3 => exact pC (Kd.C_below HR1_1.out HB.out)); (case side4 => exact HC1_1.out); rintro e w' ⟨rfl, ⟨nd, rfl⟩⟩; (try first | exact ⟨rfl, _, World.drewN_drewN _ _ _⟩ | exact ⟨rfl, _, Eq.trans (World.drewN_drewN _ _ _) (congrArg (World.drewN _) (Nat.add_assoc _ _ _))⟩))))
     go_meet
     case rel => exact ⟨_, (true), (by first | rfl | (simp; done) | (simp [*]; done)), H', ⟨by first | omega | exact Nat.le_refl _⟩, ⟨by (with_reducible repeat (first | refine blk_drewN ?_ _ | refine blk_drew ?_ | refine blk_alloc ?_ _)); exact BK101.out⟩, ⟨by (with_reducible repeat (first | refine blk_drewN ?_ _ | refine blk_drew ?_ | refine blk_alloc ?_ _)); exact BK102.out⟩, ⟨pE HB⟩⟩
   ·rw [if_neg c8] at H
    have c8b0 : ((l0_0.length : Int) == (l1_0.length : Int)) = false := beq_eq_false_iff_ne.mpr c8
    have c8b1 : ((l0_0.length : Int) != (l1_0.length : Int)) = true := bne_iff_ne.mpr c8
    have c8b2 : (l0_0.length == l1_0.length) = false := by first | simpa using c8 | (simp at c8 ⊢; omega)
    (first | rw [c8b0] | (simp only [i64_w, i32_w]; rw [c8b0]) | skip)
    have H' := Aside0.mk H
    clear H
    have hnb16 := NB101_102.out
    have hnc16 := NB102_101.out
    obtain ⟨hcz17_0, hcz17_1, hcz17_2, hcz17_3, hfz17_0, hfz17_1, hfz17_2, hfz17_3⟩ := cf4 BK101
    obtain ⟨hcz18_0, hcz18_1, hcz18_2, hcz18_3, hfz18_0, hfz18_1, hfz18_2, hfz18_3⟩ := cf4 BK102
    go_wp2_with (first | (go_at_call 31; (with_reducible refine (walkmillref05_Ints.calls k _ _ l0_1 _ _ l1_1 true _ ?side1 ?side2 ?side3 ?side4 A6.out).mono ?_); (case side1 => exact pC (Kd.C_below HR0_1.out HB.out)); (case side2 => exact HC0_1.out); (case side3 => exact pC (Kd.C_below HR1_1.out HB.out)); (case side4 => exact HC1_1.out); rintro e w' ⟨rfl, ⟨nd, rfl⟩⟩; (try first | exact ⟨rfl, _, World.drewN_drewN _ _ _⟩ | exact ⟨rfl, _, Eq.trans (World.drewN_drewN _ _ _) (congrArg (World.drewN _) (Nat.add_assoc _ _ _))⟩)))
    repeat (go_quiet (first | (go_at_call 31; (with_reducible refine (walkmillref05_Ints.calls k _ _ l0_1 _ _ l1_1 true _ ?side1 ?side2 ?side3 ?side4 A6.out).mono ?_); (case side1 => exact pC (Kd.C_below HR0_1.out HB.out)); (case side2 => exact HC0_1.out); (case side3 => exact pC (Kd.C_below HR1_1.out HB.out)); (case side4 => exact HC1_1.out); rintro e w' ⟨rfl, ⟨nd, rfl⟩⟩; (try first | exact ⟨rfl, _, World.drewN_drewN _ _ _⟩ | exact ⟨rfl, _, Eq.trans (World.drewN_drewN _ _ _) (congrArg (World.drewN _) (Nat.add_assoc _ _ _))⟩))); try go_wp2_with (first | (go_at_call 31; (with_reducible refine (walkmillref05_Ints.calls k _ _ l0_1 _ _ l1_1 true _ ?side1 ?side2 ?side3 ?side4 A6.out).mono ?_); (case side1 => exact pC (Kd.C_below HR0_1.out HB.out)); (case side2 => exact HC0_1.out); (case side3 => exact pC (Kd.C_below HR1_1.out HB.out)); (case side4 => exact HC1_1.out); rintro e w' ⟨rfl, ⟨nd, rfl⟩⟩; (try first | exact ⟨rfl, _, World.drewN_drewN _ _ _⟩ | exact ⟨rfl, _, Eq.trans (World.drewN_drewN _ _ _) (congrArg (World.drewN _) (Nat.add_assoc _ _ _))⟩))))
    go_meet
    case rel => exact ⟨_, (true), (by first | rfl | (simp; done) | (simp [*]; done)), H', ⟨by first | omega | exact Nat.le_refl _⟩, ⟨by (with_reducible repeat (first | refine blk_drewN ?_ _ | refine blk_drew ?_ | refine blk_alloc ?_ _)); exact BK101.out⟩, ⟨by (with_reducible repeat (first | refine blk_drewN ?_ _ | refine blk_drew ?_ | refine blk_alloc ?_ _)); exact BK102.out⟩, ⟨pE HB⟩⟩
  ·replace c7 := Bool.eq_false_iff.mpr c7
   subst c7
   rw [if_neg (show ¬ (false = true) by decide)] at H
   have H' := Aside0.mk H
   clear H
   have hnb19 := NB101_102.out
   have hnc19 := NB102_101.out
   obtain ⟨hcz20_0, hcz20_1, hcz20_2, hcz20_3, hfz20_0, hfz20_1, hfz20_2, hfz20_3⟩ := cf4 BK101
   obtain ⟨hcz21_0, hcz21_1, hcz21_2, hcz21_3, hfz21_0, hfz21_1, hfz21_2, hfz21_3⟩ := cf4 BK102
   go_wp2_with (first | (go_at_call 31; (with_reducible refine (walkmillref05_Ints.calls k _ _ l0_1 _ _ l1_1 false _ ?side1 ?side2 ?side3 ?side4 A6.out).mono ?_); (case side1 => exact pC (Kd.C_below HR0_1.out HB.out)); (case side2 => exact HC0_1.out); (case side3 => exact pC (Kd.C_below HR1_1.out HB.out)); (case side4 => exact HC1_1.out); rintro e w' ⟨rfl, ⟨nd, rfl⟩⟩; (try first | exact ⟨rfl, _, World.drewN_drewN _ _ _⟩ | exact ⟨rfl, _, Eq.trans (World.drewN_drewN _ _ _) (congrArg (World.drewN _) (Nat.add_assoc _ _ _))⟩)))
   repeat (go_quiet (first | (go_at_call 31; (with_reducible refine (walkmillref05_Ints.calls k _ _ l0_1 _ _ l1_1 false _ ?side1 ?side2 ?side3 ?side4 A6.out).mono ?_); (case side1 => exact pC (Kd.C_below HR0_1.out HB.out)); (case side2 => exact HC0_1.out); (case side3 => exact pC (Kd.C_below HR1_1.out HB.out)); (case side4 => exact HC1_1.out); rintro e w' ⟨rfl, ⟨nd, rfl⟩⟩; (try first | exact ⟨rfl, _, World.drewN_drewN _ _ _⟩ | exact ⟨rfl, _, Eq.trans (World.drewN_drewN _ _ _) (congrArg (World.drewN _) (Nat.add_assoc _ _ _))⟩))); try go_wp2_with (first | (go_at_call 31; (with_reducible refine (walkmillref05_Ints.calls k _ _ l0_1 _ _ l1_1 false _ ?side1 ?side2 ?side3 ?side4 A6.out).mono ?_); (case side1 => exact pC (Kd.C_below HR0_1.out HB.out)); (case side2 => exact HC0_1.out); (case side3 => exact pC (Kd.C_below HR1_1.out HB.out)); (case side4 => exact HC1_1.out); rintro e w' ⟨rfl, ⟨nd, rfl⟩⟩; (try first | exact ⟨rfl, _, World.drewN_drewN _ _ _⟩ | exact ⟨rfl, _, Eq.trans (World.drewN_drewN _ _ _) (congrArg (World.drewN _) (Nat.add_assoc _ _ _))⟩))))
   go_meet
   case rel => exact ⟨_, (true), (by first | rfl | (simp; done) | (simp [*]; done)), H', ⟨by first | omega | exact Nat.le_refl _⟩, ⟨by (with_reducible repeat (first | refine blk_drewN ?_ _ | refine blk_drew ?_ | refine blk_alloc ?_ _)); exact BK101.out⟩, ⟨by (with_reducible repeat (first | refine blk_drewN ?_ _ | refine blk_drew ?_ | refine blk_alloc ?_ _)); exact BK102.out⟩, ⟨pE HB⟩⟩
 case rest =>
  clear HC3
  try clear c1
  try clear p2
  try clear c7
  try clear c8
  try clear c8b0
  try clear c8b1
  try clear c8b2
  try clear c9
  try clear c9b0
  try clear c9b1
  try clear c10
  try clear c13
  try clear c16
  try clear c18
  try clear c19
  try clear hcz11_0
  try clear hcz11_1
  try clear hcz11_2
  try clear hcz11_3
  try clear hcz12_0
  try clear hcz12_1
  try clear hcz12_2
  try clear hcz12_3
  try clear hcz14_0
  try clear hcz14_1
  try clear hcz14_2
  try clear hcz14_3
  try clear hcz15_0
  try clear hcz15_1
  try clear hcz15_2
  try clear hcz15_3
  try clear hcz17_0
  try clear hcz17_1
  try clear hcz17_2
  try clear hcz17_3
  try clear hcz18_0
  try clear hcz18_1
  try clear hcz18_2
  try clear hcz18_3
  try clear hcz20_0
  try clear hcz20_1
  try clear hcz20_2
  try clear hcz20_3
  try clear hcz21_0
  try clear hcz21_1
  try clear hcz21_2
  try clear hcz21_3
  try clear hfz11_0
  try clear hfz11_1
  try clear hfz11_2
  try clear hfz11_3
  try clear hfz12_0
  try clear hfz12_1
  try clear hfz12_2
  try clear hfz12_3
  try clear hfz14_0
  try clear hfz14_1
  try clear hfz14_2
  try clear hfz14_3
  try clear hfz15_0
  try clear hfz15_1
  try clear hfz15_2
  try clear hfz15_3
  try clear hfz17_0
  try clear hfz17_1
  try clear hfz17_2
  try clear hfz17_3
  try clear hfz18_0
  try clear hfz18_1
  try clear hfz18_2
  try clear hfz18_3
  try clear hfz20_0
  try clear hfz20_1
  try clear hfz20_2
  try clear hfz20_3
  try clear hfz21_0
  try clear hfz21_1
  try clear hfz21_2
  try clear hfz21_3
  obtain ⟨kq, x34_2, rfl, HA, HJ2, BK101, BK102, HB⟩ := hcut
  cases kq with
  | zero => exact absurd HA.out (by simp [walkmillref05_Same.j0])
  | succ kj2 =>
   have H := HA.out
   clear HA
   simp only [walkmillref05_Same.j0] at H
   by_cases c22 : x34_2 = true
   ·subst c22
    rw [if_pos rfl] at H
    obtain rfl := Option.some.inj H
    go_wp2
    repeat (go_quiet (fail); try go_wp2)
    go_ret
    exact ⟨eT, pE HB⟩
   ·replace c22 := Bool.eq_false_iff.mpr c22
    subst c22
    rw [if_neg (show ¬ (false = true) by decide)] at H
    have H' := Aside0.mk H
    clear H
    go_wp2
    repeat (go_quiet (fail); try go_wp2)
    go_loopg [5] kj2 (fun kq v5 w' => ∃ (x5_2 : Int), v5 = .int .i64 x5_2 ∧ Aside0 (walkmillref05_Same.l0 kq x5_2 l0_0 l0_1 a0_2 a0_3 l1_0 l1_1 a1_2 a1_3 = some r) ∧ Aside0 (kq ≤ kj2) ∧ Aside0 (w'.heap[gb101]? = some (.cells #[(.slice A0_0 l0_0.length c0_0), (.slice A0_1 l0_1.length c0_1), .int .i64 a0_2, .int .i64 a0_3] 25 (0, 0))) ∧ Aside0 (w'.heap[gb102]? = some (.cells #[(.slice A1_0 l1_0.length c1_0), (.slice A1_1 l1_1.length c1_1), .int .i64 a1_2, .int .i64 a1_3] 25 (0, 0))) ∧ Aside0 (Below w.heap.size w w'))
    case atStart => exact ⟨(0), (by first | rfl | (simp; done) | (simp [*]; done)), H', ⟨Nat.le_refl _⟩, ⟨by (with_reducible repeat (first | refine blk_drewN ?_ _ | refine blk_drew ?_ | refine blk_alloc ?_ _)); exact BK101.out⟩, ⟨by (with_reducible repeat (first | refine blk_drewN ?_ _ | refine blk_drew ?_ | refine blk_alloc ?_ _)); exact BK102.out⟩, ⟨pE HB⟩⟩
    case round =>
     clear H'
     try clear c1
     try clear c2
     try clear p2
     try clear c7
     try clear c8
     try clear c8b0
     try clear c8b1
     try clear c8b2
     try clear c9
     try clear c9b0
     try clear c9b1
     try clear c10
     try clear c13
     try clear c16
     try clear c18
     try clear c19
     try clear c22
     try clear hcz11_0
     try clear hcz11_1
     try clear hcz11_2
     try clear hcz11_3
     try clear hcz12_0
     try clear hcz12_1
     try clear hcz12_2
     try clear hcz12_3
     try clear hcz14_0
     try clear hcz14_1
     try clear hcz14_2
     try clear hcz14_3
     try clear hcz15_0
     try clear hcz15_1
     try clear hcz15_2
     try clear hcz15_3
     try clear hcz17_0
     try clear hcz17_1
     try clear hcz17_2
     try clear hcz17_3
     try clear hcz18_0
     try clear hcz18_1
     try clear hcz18_2
     try clear hcz18_3
     try clear hcz20_0
     try clear hcz20_1
     try clear hcz20_2
     try clear hcz20_3
     try clear hcz21_0
     try clear hcz21_1
     try clear hcz21_2
     try clear hcz21_3
     try clear hfz11_0
     try clear hfz11_1
     try clear hfz11_2
     try clear hfz11_3
     try clear hfz12_0
     try clear hfz12_1
     try clear hfz12_2
     try clear hfz12_3
     try clear hfz14_0
     try clear hfz14_1
     try clear hfz14_2
     try clear hfz14_3
     try clear hfz15_0
     try clear hfz15_1
     try clear hfz15_2
     try clear hfz15_3
     try clear hfz17_0
     try clear hfz17_1
     try clear hfz17_2
     try clear hfz17_3
     try clear hfz18_0
     try clear hfz18_1
     try clear hfz18_2
     try clear hfz18_3
     try clear hfz20_0
     try clear hfz20_1
     try clear hfz20_2
     try clear hfz20_3
     try clear hfz21_0
     try clear hfz21_1
     try clear hfz21_2
     try clear hfz21_3
     try clear p2
     obtain ⟨x5_2, rfl, HA, HK2, BK101, BK102, HB⟩ := hrel
     cases gk with
     | zero => exact absurd HA.out (by simp [walkmillref05_Same.l0])
     | succ k2 =>
      have H := HA.out
      clear HA
      simp only [walkmillref05_Same.l0] at H
      by_cases c23 : x5_2 < (l0_0.length : Int)
      ·rw [if_pos c23] at H
       have c23b0 : decide (x5_2 < (l0_0.length : Int)) = true := decide_eq_true c23
       clear c23
       by_cases c24 : 0 ≤ x5_2
       ·rw [if_pos c24] at H
        have c24b0 : decide (0 ≤ x5_2) = true := decide_eq_true c24
        clear c24
        by_cases c25 : x5_2 < (l1_0.length : Int)
        ·rw [if_pos c25] at H
         have c25b0 : decide (x5_2 < (l1_0.length : Int)) = true := decide_eq_true c25
         clear c25
         by_cases c26 : ((!(((rd_T43 l0_0 x5_2).f0.f0) == ((rd_T43 l1_0 x5_2).f0.f0)) || (!(((rd_T43 l0_0 x5_2).f0.f1) == ((rd_T43 l1_0 x5_2).f0.f1)))) || ((!(((rd_T43 l0_0 x5_2).f1.f0) == ((rd_T43 l1_0 x5_2).f1.f0)) || (!(((rd_T43 l0_0 x5_2).f1.f1) == ((rd_T43 l1_0 x5_2).f1.f1)))))) = true
         ·rw [if_pos c26] at H
          have c26b0 : ((!(((rd_T43 l0_0 x5_2).f0.f0) == ((rd_T43 l1_0 x5_2).f0.f0)) || (!(((rd_T43 l0_0 x5_2).f0.f1) == ((rd_T43 l1_0 x5_2).f0.f1)))) || ((!(((rd_T43 l0_0 x5_2).f1.f0) == ((rd_T43 l1_0 x5_2).f1.f0)) || (!(((rd_T43 l0_0 x5_2).f1.f1) == ((rd_T43 l1_0 x5_2).f1.f1)))))) = true := c26
          clear c26
          obtain rfl := Option.some.inj H
          have hnb27 := NB101_102.out
          have hnc27 := NB102_101.out
          obtain ⟨_, _, _, _, _, _, _, _⟩ := cf4 BK101
          have p104 : 0 ≤ (x5_2 : Int) := dT
          have q104 : x5_2 < (l0_0.length : Int) := dT
          obtain ⟨ad104, e104, hx104_0, hx104_1, hx104_2, hx104_3⟩ := at_T43 HR0_0.out x5_2 p104 q104
          cases e104
          replace hx104_0 := cut_ HB hx104_0
          replace hx104_1 := cut_ HB hx104_1
          replace hx104_2 := cut_ HB hx104_2
          replace hx104_3 := cut_ HB hx104_3
          replace p104 := eq_true p104
          replace q104 := eq_true q104
          obtain ⟨_, _, _, _, _, _, _, _⟩ := cf4 BK102
          have p105 : 0 ≤ (x5_2 : Int) := dT
          have q105 : x5_2 < (l1_0.length : Int) := dT
          obtain ⟨ad105, e105, hx105_0, hx105_1, hx105_2, hx105_3⟩ := at_T43 HR1_0.out x5_2 p105 q105
          cases e105
          replace hx105_0 := cut_ HB hx105_0
          replace hx105_1 := cut_ HB hx105_1
          replace hx105_2 := cut_ HB hx105_2
          replace hx105_3 := cut_ HB hx105_3
          replace p105 := eq_true p105
          replace q105 := eq_true q105
          go_wp2
          repeat (go_quiet (fail); try go_wp2)
          go_ret
          exact ⟨eT, pE HB⟩
         ·rw [if_neg c26] at H
          have c26b0 : ((!(((rd_T43 l0_0 x5_2).f0.f0) == ((rd_T43 l1_0 x5_2).f0.f0)) || (!(((rd_T43 l0_0 x5_2).f0.f1) == ((rd_T43 l1_0 x5_2).f0.f1)))) || ((!(((rd_T43 l0_0 x5_2).f1.f0) == ((rd_T43 l1_0 x5_2).f1.f0)) || (!(((rd_T43 l0_0 x5_2).f1.f1) == ((rd_T43 l1_0 x5_2).f1.f1)))))) = false := by simpa using c26
          clear c26
          have H' := Aside0.mk H
          clear H
          have hnb30 := NB101_102.out
          have hnc30 := NB102_101.out
          obtain ⟨_, _, _, _, _, _, _, _⟩ := cf4 BK101
          have p104 : 0 ≤ (x5_2 : Int) := dT
          have q104 : x5_2 < (l0_0.length : Int) := dT
          obtain ⟨ad104, e104, hx104_0, hx104_1, hx104_2, hx104_3⟩ := at_T43 HR0_0.out x5_2 p104 q104
          cases e104
          replace hx104_0 := cut_ HB hx104_0
          replace hx104_1 := cut_ HB hx104_1
          replace hx104_2 := cut_ HB hx104_2
          replace hx104_3 := cut_ HB hx104_3
          replace p104 := eq_true p104
          replace q104 := eq_true q104
          obtain ⟨_, _, _, _, _, _, _, _⟩ := cf4 BK102
          have p105 : 0 ≤ (x5_2 : Int) := dT
          have q105 : x5_2 < (l1_0.length : Int) := dT
          obtain ⟨ad105, e105, hx105_0, hx105_1, hx105_2, hx105_3⟩ := at_T43 HR1_0.out x5_2 p105 q105
          cases e105
          replace hx105_0 := cut_ HB hx105_0
          replace hx105_1 := cut_ HB hx105_1
          replace hx105_2 := cut_ HB hx105_2
          replace hx105_3 := cut_ HB hx105_3
          replace p105 := eq_true p105
          replace q105 := eq_true q105
          go_wp2
          repeat (go_quiet (fail); try go_wp2)
          go_roundg k2
          case measure => have := HJ2.out; have := HK2.out; omega
          case rel => exact ⟨(wrap64 (x5_2 + 1)), (by first | rfl | (simp; done) | (simp [*]; done)), H', ⟨by have := HJ2.out; have := HK2.out; omega⟩, ⟨by (with_reducible repeat (first | refine blk_drewN ?_ _ | refine blk_drew ?_ | refine blk_alloc ?_ _)); exact BK101.out⟩, ⟨by (with_reducible repeat (first | refine blk_drewN ?_ _ | refine blk_drew ?_ | refine blk_alloc ?_ _)); exact BK102.out⟩, ⟨pE HB⟩⟩
        ·rw [if_neg c25] at H
         exact absurd H (by simp)
       ·rw [if_neg c24] at H
        exact absurd H (by simp)
      ·rw [if_neg c23] at H
       have c23b0 : decide (x5_2 < (l0_0.length : Int)) = false := decide_eq_false c23
       clear c23
       obtain rfl := Option.some.inj H
       have hnb33 := NB101_102.out
       have hnc33 := NB102_101.out
       obtain ⟨_, _, _, _, _, _, _, _⟩ := cf4 BK101
       go_wp2
       repeat (go_quiet (fail); try go_wp2)
       go_ret
       exact ⟨eT, pE HB⟩
end Go.Proofs.YtikmfpjcdcckeaaGreatDoor.P
namespace Go.Proofs.YtikmfpjcdcckeaaGreatDoor.P
open Go.RowKit Go.Proofs.YtikmfpjcdcckeaaGreatDoorW.PrintWords Go.Proofs.YtikmfpjcdcckeaaGreatDoorW.PrintLast Go.Proofs.YtikmfpjcdcckeaaGreatDoorW.PrintMore
attribute [local go_sem] max2_int min2_int max_two min_two max_three min_three max_four min_four
attribute [local go_sem high] eqA36
def walkmillref05_Spans.l0 : Nat → List (S36) → List (S36) → Int → Option (Bool)
  | 0, _, _, _ => none
  | k + 1, x0, x1, x5 => if x5 < (x0.length : Int) then (if 0 ≤ x5 then (if x5 < (x1.length : Int) then (if (!(((rd_T36 x0 x5).f0) == ((rd_T36 x1 x5).f0)) || (!(((rd_T36 x0 x5).f1) == ((rd_T36 x1 x5).f1)))) = true then (some false) else (walkmillref05_Spans.l0 k x0 x1 (wrap64 (x5 + 1)))) else (none)) else (none)) else (some true)
def walkmillref05_Spans.f (k : Nat) (l0 : List (S36)) (l1 : List (S36)) : Option (Bool) := if (l0.length : Int) = (l1.length : Int) then (walkmillref05_Spans.l0 k l0 l1 0) else (some false)
theorem walkmillref05_Spans.mono_l : ∀ k, (∀ y0 y1 y2, LeO (walkmillref05_Spans.l0 k y0 y1 y2) (walkmillref05_Spans.l0 (k + 1) y0 y1 y2))
  | 0 => fun _ _ _ r h => by simp [walkmillref05_Spans.l0] at h
  | k + 1 => by
    have ih0 := walkmillref05_Spans.mono_l k
    · intro y0 y1 y2
      unfold walkmillref05_Spans.l0
      repeat' first
      | (with_reducible exact ih0 _ _ _)
      | (with_reducible exact LeO.refl _)
      | (with_reducible exact LeO.none _)
      | (with_reducible refine LeO.ite ?_ ?_)
      | (with_reducible refine LeO.bind ?_ (fun _ => ?_))
      | exact ih0 _ _ _
      | exact LeO.none _
      | refine LeO.ite ?_ ?_
      | refine LeO.bind ?_ (fun _ => ?_)
theorem walkmillref05_Spans.mono : ∀ a0 a1 k, LeO (walkmillref05_Spans.f k a0 a1) (walkmillref05_Spans.f (k + 1) a0 a1) := by
  intro a0 a1 k
  have ih0 := walkmillref05_Spans.mono_l k
  unfold walkmillref05_Spans.f
  repeat' first
      | (with_reducible exact ih0 _ _ _)
      | (with_reducible exact LeO.refl _)
      | (with_reducible exact LeO.none _)
      | (with_reducible refine LeO.ite ?_ ?_)
      | (with_reducible refine LeO.bind ?_ (fun _ => ?_))
      | exact ih0 _ _ _
      | exact LeO.none _
      | refine LeO.ite ?_ ?_
      | refine LeO.bind ?_ (fun _ => ?_)
set_option maxHeartbeats 8000000 in
set_option maxRecDepth 100000 in
theorem walkmillref05_Spans.calls (k : Nat) (A0 : Option Addr) (c0 : Nat) (l0 : List (S36)) (A1 : Option Addr) (c1 : Nat) (l1 : List (S36)) (r : Bool) (w : World) (hr0 : Kd.C k36 w A0 l0.length l0) (hc0 : l0.length ≤ c0) (hr1 : Kd.C k36 w A1 l1.length l1) (hc1 : l1.length ≤ c1) (h : walkmillref05_Spans.f k l0 l1 = some r) :
    Calls Tryz.prog 35 #[.slice A0 l0.length c0, .slice A1 l1.length c1] w fun e w' => e = .returned (.bool r) ∧ Drawn0 w w' := by
  have hu36 := Tryz.underlying36
  have HR0 := Aside0.mk hr0
  have HC0 := Aside0.mk hc0
  clear hr0 hc0
  have HR1 := Aside0.mk hr1
  have HC1 := Aside0.mk hc1
  clear hr1 hc1
  have H : (if (l0.length : Int) = (l1.length : Int) then (walkmillref05_Spans.l0 k l0 l1 0) else (some false)) = some r := h
  clear h
  by_cases c3 : (l0.length : Int) = (l1.length : Int)
  · rw [if_pos c3] at H
    have c3b0 : ((l0.length : Int) == (l1.length : Int)) = true := beq_iff_eq.mpr c3
    have c3b1 : ((l0.length : Int) != (l1.length : Int)) = false := bne_eq_false_iff_eq.mpr c3
    have c3b2 : (l0.length == l1.length) = true := by first | simpa using c3 | (simp at c3 ⊢; omega)
    clear c3
    have H' := Aside0.mk H
    clear H
    go_enter Tryz.func35, Tryz.ntmps35
    go_wp2
    repeat (go_quiet (fail); try go_wp2)
    go_loopg [5] k (fun kq v5 w' => ∃ (x5_1 : Int), v5 = .int .i64 x5_1 ∧ Aside0 (walkmillref05_Spans.l0 kq l0 l1 x5_1 = some r) ∧ Aside0 (kq ≤ k) ∧ Drawn0 w w')
    case atStart => exact ⟨(0), (by first | rfl | (simp; done) | (simp [*]; done)), H', ⟨Nat.le_refl _⟩, by repeat (first | exact Drawn0.refl _ | apply Drawn0.step)⟩
    case round =>
      clear H'
      try clear c1
      try clear p2
      try clear c3
      try clear c3b0
      try clear c3b1
      try clear c3b2
      obtain ⟨x5_1, rfl, HA, HK1, ⟨m1, rfl⟩⟩ := hrel
      cases gk with
      | zero => exact absurd HA.out (by simp [walkmillref05_Spans.l0])
      | succ k1 =>
        have H := HA.out
        clear HA
        simp only [walkmillref05_Spans.l0] at H
        by_cases c4 : x5_1 < (l0.length : Int)
        · rw [if_pos c4] at H
          have c4b0 : decide (x5_1 < (l0.length : Int)) = true := decide_eq_true c4
          clear c4
          by_cases c5 : 0 ≤ x5_1
          · rw [if_pos c5] at H
            have c5b0 : decide (0 ≤ x5_1) = true := decide_eq_true c5
            clear c5
            by_cases c6 : x5_1 < (l1.length : Int)
            · rw [if_pos c6] at H
              have c6b0 : decide (x5_1 < (l1.length : Int)) = true := decide_eq_true c6
              clear c6
              by_cases c7 : (!(((rd_T36 l0 x5_1).f0) == ((rd_T36 l1 x5_1).f0)) || (!(((rd_T36 l0 x5_1).f1) == ((rd_T36 l1 x5_1).f1)))) = true
              · rw [if_pos c7] at H
                have c7b0 : (!(((rd_T36 l0 x5_1).f0) == ((rd_T36 l1 x5_1).f0)) || (!(((rd_T36 l0 x5_1).f1) == ((rd_T36 l1 x5_1).f1)))) = true := c7
                clear c7
                obtain rfl := Option.some.inj H
                have p101 : 0 ≤ (x5_1 : Int) := of_decide_eq_true (by first | (with_reducible assumption) | assumption)
                have q101 : x5_1 < (l0.length : Int) := of_decide_eq_true (by first | (with_reducible assumption) | assumption)
                obtain ⟨ad101, e101, hx101_0, hx101_1⟩ := at_T36 HR0.out x5_1 p101 q101
                cases e101
                replace p101 := eq_true p101
                replace q101 := eq_true q101
                have p102 : 0 ≤ (x5_1 : Int) := of_decide_eq_true (by first | (with_reducible assumption) | assumption)
                have q102 : x5_1 < (l1.length : Int) := of_decide_eq_true (by first | (with_reducible assumption) | assumption)
                obtain ⟨ad102, e102, hx102_0, hx102_1⟩ := at_T36 HR1.out x5_1 p102 q102
                cases e102
                replace p102 := eq_true p102
                replace q102 := eq_true q102
                go_wp2
                repeat (go_quiet (fail); try go_wp2)
                go_ret
                exact ⟨by first | rfl | (simp; done) | (simp [*]; done), by repeat (first | exact Drawn0.refl _ | apply Drawn0.step)⟩
              · rw [if_neg c7] at H
                have c7b0 : (!(((rd_T36 l0 x5_1).f0) == ((rd_T36 l1 x5_1).f0)) || (!(((rd_T36 l0 x5_1).f1) == ((rd_T36 l1 x5_1).f1)))) = false := by simpa using c7
                clear c7
                have H' := Aside0.mk H
                clear H
                have p101 : 0 ≤ (x5_1 : Int) := of_decide_eq_true (by first | (with_reducible assumption) | assumption)
                have q101 : x5_1 < (l0.length : Int) := of_decide_eq_true (by first | (with_reducible assumption) | assumption)
                obtain ⟨ad101, e101, hx101_0, hx101_1⟩ := at_T36 HR0.out x5_1 p101 q101
                cases e101
                replace p101 := eq_true p101
                replace q101 := eq_true q101
                have p102 : 0 ≤ (x5_1 : Int) := of_decide_eq_true (by first | (with_reducible assumption) | assumption)
                have q102 : x5_1 < (l1.length : Int) := of_decide_eq_true (by first | (with_reducible assumption) | assumption)
                obtain ⟨ad102, e102, hx102_0, hx102_1⟩ := at_T36 HR1.out x5_1 p102 q102
                cases e102
                replace p102 := eq_true p102
                replace q102 := eq_true q102
                go_wp2
                repeat (go_quiet (fail); try go_wp2)
                go_roundg k1
                case measure => have := HK1.out; omega
                case rel => exact ⟨(wrap64 (x5_1 + 1)), (by first | rfl | (simp; done) | (simp [*]; done)), H', ⟨by have := HK1.out; omega⟩, by repeat (first | exact Drawn0.refl _ | apply Drawn0.step)⟩
            · rw [if_neg c6] at H
              exact absurd H (by simp)
          · rw [if_neg c5] at H
            exact absurd H (by simp)
        · rw [if_neg c4] at H
          have c4b0 : decide (x5_1 < (l0.length : Int)) = false := decide_eq_false c4
          clear c4
          obtain rfl := Option.some.inj H
          go_wp2
          repeat (go_quiet (fail); try go_wp2)
          go_ret
          exact ⟨by first | rfl | (simp; done) | (simp [*]; done), by repeat (first | exact Drawn0.refl _ | apply Drawn0.step)⟩
  · rw [if_neg c3] at H
    have c3b0 : ((l0.length : Int) == (l1.length : Int)) = false := beq_eq_false_iff_ne.mpr c3
    have c3b1 : ((l0.length : Int) != (l1.length : Int)) = true := bne_iff_ne.mpr c3
    have c3b2 : (l0.length == l1.length) = false := by first | simpa using c3 | (simp at c3 ⊢; omega)
    obtain rfl := Option.some.inj H
    go_enter Tryz.func35, Tryz.ntmps35
    go_wp2
    repeat (go_quiet (fail); try go_wp2)
    go_ret
    exact ⟨by first | rfl | (simp; done) | (simp [*]; done), by repeat (first | exact Drawn0.refl _ | apply Drawn0.step)⟩
end Go.Proofs.YtikmfpjcdcckeaaGreatDoor.P
namespace Go.Proofs.YtikmfpjcdcckeaaGreatDoor.P
open Go.RowKit Go.Proofs.YtikmfpjcdcckeaaGreatDoorW.PrintWords Go.Proofs.YtikmfpjcdcckeaaGreatDoorW.PrintLast Go.Proofs.YtikmfpjcdcckeaaGreatDoorW.PrintMore
attribute [local go_sem] max2_int min2_int max_two min_two max_three min_three max_four min_four
def walkmillref05_Weather.l0 : Nat → List (S36) → Int → Int → Option (Int)
 | 0, _, _, _ => none
 | k + 1, x1, x2, x8 => if x8 < (x1.length : Int) then (if 0 ≤ x8 then ((walkmillref05_Span.f ((rd_T36 x1 x8).f0) ((rd_T36 x1 x8).f1) 0 100).bind fun t105 => (if t105 = true then (walkmillref05_Weather.l0 k x1 x2 (wrap64 (x8 + 1))) else (some 3))) else (none)) else ((walkmillref05_In.f x2 0 (x1.length : Int)).bind fun t106 => (if t106 = true then (some 0) else (some 3)))
def walkmillref05_Weather.f (k : Nat) (l0_0 : List (S43)) (l0_1 : List Int) (a0_2 : Int) (a0_3 : Int) (l1 : List (S36)) (a2 : Int) : Option (Int) := (walkmillref05_Check.f k l0_0 l0_1 a0_2 a0_3).bind fun t102 => (if t102 = 0 then ((walkmillref05_In.f (l1.length : Int) 1 24).bind fun t103 => (if t103 = true then (walkmillref05_Weather.l0 k l1 a2 0) else (some 8))) else (some t102))
theorem walkmillref05_Weather.mono_l : ∀ k, (∀ y0 y1 y2, LeO (walkmillref05_Weather.l0 k y0 y1 y2) (walkmillref05_Weather.l0 (k + 1) y0 y1 y2))
 | 0 => fun _ _ _ r h => by simp [walkmillref05_Weather.l0] at h
 | k + 1 => by
  have ih0 := walkmillref05_Weather.mono_l k
  ·intro y0 y1 y2
   unfold walkmillref05_Weather.l0
   repeat' first
   | (with_reducible exact ih0 _ _ _)
   | (with_reducible exact walkmillref05_Check.mono _ _ _ _ _)
   | (with_reducible exact LeO.refl _)
   | (with_reducible exact LeO.none _)
   | (with_reducible refine LeO.ite ?_ ?_)
   | (with_reducible refine LeO.bind ?_ (fun _ => ?_))
   | exact ih0 _ _ _
   | exact walkmillref05_Check.mono _ _ _ _ _
   | exact LeO.none _
   | refine LeO.ite ?_ ?_
   | refine LeO.bind ?_ (fun _ => ?_)
theorem walkmillref05_Weather.mono : ∀ a0 a1 a2 a3 a4 a5 k, LeO (walkmillref05_Weather.f k a0 a1 a2 a3 a4 a5) (walkmillref05_Weather.f (k + 1) a0 a1 a2 a3 a4 a5) := by
 intro a0 a1 a2 a3 a4 a5 k
 have ih0 := walkmillref05_Weather.mono_l k
 unfold walkmillref05_Weather.f
 repeat' first
   | (with_reducible exact ih0 _ _ _)
   | (with_reducible exact walkmillref05_Check.mono _ _ _ _ _)
   | (with_reducible exact LeO.refl _)
   | (with_reducible exact LeO.none _)
   | (with_reducible refine LeO.ite ?_ ?_)
   | (with_reducible refine LeO.bind ?_ (fun _ => ?_))
   | exact ih0 _ _ _
   | exact walkmillref05_Check.mono _ _ _ _ _
   | exact LeO.none _
   | refine LeO.ite ?_ ?_
   | refine LeO.bind ?_ (fun _ => ?_)
set_option maxHeartbeats 8000000 in
set_option maxRecDepth 100000 in
theorem walkmillref05_Weather.calls (k : Nat) (A0_0 : Option Addr) (c0_0 : Nat) (l0_0 : List (S43)) (A0_1 : Option Addr) (c0_1 : Nat) (l0_1 : List Int) (a0_2 : Int) (a0_3 : Int) (A1 : Option Addr) (c1 : Nat) (l1 : List (S36)) (a2 : Int) (r : Int) (w : World) (hr0_0 : Kd.C k43 w A0_0 l0_0.length l0_0) (hc0_0 : l0_0.length ≤ c0_0) (hr0_1 : Kd.C (Kd.int .i64) w A0_1 l0_1.length l0_1) (hc0_1 : l0_1.length ≤ c0_1) (hr1 : Kd.C k36 w A1 l1.length l1) (hc1 : l1.length ≤ c1) (h : walkmillref05_Weather.f k l0_0 l0_1 a0_2 a0_3 l1 a2 = some r) :
  Calls Tryz.prog 36 #[.agg #[.slice A0_0 l0_0.length c0_0, .slice A0_1 l0_1.length c0_1, .int .i64 a0_2, .int .i64 a0_3], .slice A1 l1.length c1, .int .i64 a2] w fun e w' => e = .returned (.int .i64 r) ∧ Below w.heap.size w w' := by
 have hu25 := Tryz.underlying25
 have hu36 := Tryz.underlying36
 have HR0_0 := Aside0.mk hr0_0
 have HC0_0 := Aside0.mk hc0_0
 clear hr0_0 hc0_0
 have HR0_1 := Aside0.mk hr0_1
 have HC0_1 := Aside0.mk hc0_1
 clear hr0_1 hc0_1
 have HR1 := Aside0.mk hr1
 have HC1 := Aside0.mk hc1
 clear hr1 hc1
 have HB := Aside0.mk (Below.refl w.heap.size w)
 have H : ((walkmillref05_Check.f k l0_0 l0_1 a0_2 a0_3).bind fun t102 => (if t102 = 0 then ((walkmillref05_In.f (l1.length : Int) 1 24).bind fun t103 => (if t103 = true then (walkmillref05_Weather.l0 k l1 a2 0) else (some 8))) else (some t102))) = some r := h
 clear h
 obtain ⟨t102, A4, H⟩ := bi H
 by_cases c5 : t102 = 0
 ·rw [if_pos c5] at H
  have c5b0 : (t102 == 0) = true := beq_iff_eq.mpr c5
  have c5b1 : (t102 != 0) = false := bne_eq_false_iff_eq.mpr c5
  clear c5
  obtain ⟨t103, A6, H⟩ := bi H
  by_cases c7 : t103 = true
  ·subst c7
   rw [if_pos rfl] at H
   have H' := Aside0.mk H
   clear H
   go_enter Tryz.func36, Tryz.ntmps36
   go_wp2_with (first | ((with_reducible refine gate_dst (N := 3) rfl ?_); refine bx 3 #[.slice A0_0 l0_0.length c0_0, .slice A0_1 l0_1.length c0_1, .int .i64 a0_2, .int .i64 a0_3] 25 ?_; intro gb101 hg w8 hbox hb; have BK101 := hbox; have GW101 := gs HB hg; have GE101 := gs HB hg; replace HB := bs HB hb; clear hb hbox hg; obtain ⟨hcz9_0, hcz9_1, hcz9_2, hcz9_3, hfz9_0, hfz9_1, hfz9_2, hfz9_3⟩ := cf4 BK101) | ((with_reducible refine gc 17 rfl ?_); refine gL 10 Tryz.func17 #[.agg #[.slice A0_0 l0_0.length c0_0, .slice A0_1 l0_1.length c0_1, .int .i64 a0_2, .int .i64 a0_3]] ?_; (with_reducible refine (walkmillref05_Check.calls k _ _ l0_0 _ _ l0_1 a0_2 a0_3 t102 _ ?side1 ?side2 ?side3 ?side4 A4.out).mono ?_); (case side1 => exact pC (Kd.C_below HR0_0.out HB.out)); (case side2 => exact HC0_0.out); (case side3 => exact pC (Kd.C_below HR0_1.out HB.out)); (case side4 => exact HC0_1.out); rintro e w10 ⟨rfl, hb⟩; refine ⟨_, rfl, ?_⟩; replace BK101 := bb BK101 hb; replace HB := bs HB hb; clear hb) | ((with_reducible refine gc 22 rfl ?_); refine gL 16 Tryz.func22 #[.int .i64 (l1.length : Int), .int .i64 1, .int .i64 24] ?_; (with_reducible refine (walkmillref05_In.calls (l1.length : Int) 1 24 true _ A6.out).mono ?_); rintro e w' ⟨rfl, ⟨nd, rfl⟩⟩; refine ⟨_, rfl, ?_⟩))
   go_loopg [8] k (fun kq v8 w' => ∃ (x8_1 : Int), v8 = .int .i64 x8_1 ∧ Aside0 (walkmillref05_Weather.l0 kq l1 a2 x8_1 = some r) ∧ Aside0 (kq ≤ k) ∧ Aside0 (w'.heap[gb101]? = some (.cells #[(.slice A0_0 l0_0.length c0_0), (.slice A0_1 l0_1.length c0_1), .int .i64 a0_2, .int .i64 a0_3] 25 (0, 0))) ∧ Aside0 (Below w.heap.size w w'))
   case atStart => exact ⟨(0), (by first | rfl | (simp; done) | (simp [*]; done)), H', ⟨Nat.le_refl _⟩, ⟨by (with_reducible repeat (first | refine blk_drewN ?_ _ | refine blk_drew ?_ | refine blk_alloc ?_ _)); exact BK101.out⟩, ⟨pE HB⟩⟩
   case round =>
    clear H'
    try clear c1
    try clear c2
    try clear p2
    try clear c3
    try clear c5
    try clear c5b0
    try clear c5b1
    try clear c7
    try clear hcz9_0
    try clear hcz9_1
    try clear hcz9_2
    try clear hcz9_3
    try clear hfz9_0
    try clear hfz9_1
    try clear hfz9_2
    try clear hfz9_3
    obtain ⟨x8_1, rfl, HA, HK1, BK101, HB⟩ := hrel
    cases gk with
    | zero => exact absurd HA.out (by simp [walkmillref05_Weather.l0])
    | succ k1 =>
     have H := HA.out
     clear HA
     simp only [walkmillref05_Weather.l0] at H
     by_cases c11 : x8_1 < (l1.length : Int)
     ·rw [if_pos c11] at H
      have c11b0 : decide (x8_1 < (l1.length : Int)) = true := decide_eq_true c11
      clear c11
      by_cases c12 : 0 ≤ x8_1
      ·rw [if_pos c12] at H
       have c12b0 : decide (0 ≤ x8_1) = true := decide_eq_true c12
       clear c12
       obtain ⟨t105, A13, H⟩ := bi H
       by_cases c14 : t105 = true
       ·subst c14
        rw [if_pos rfl] at H
        have H' := Aside0.mk H
        clear H
        have p104 : 0 ≤ (x8_1 : Int) := dT
        have q104 : x8_1 < (l1.length : Int) := dT
        obtain ⟨ad104, e104, hx104_0, hx104_1⟩ := at_T36 HR1.out x8_1 p104 q104
        cases e104
        replace hx104_0 := cut_ HB hx104_0
        replace hx104_1 := cut_ HB hx104_1
        replace p104 := eq_true p104
        replace q104 := eq_true q104
        go_wp2_with (first | ((with_reducible refine gc 58 rfl ?_); refine gL 28 Tryz.func58 #[.agg #[.int .i64 ((rd_T36 l1 x8_1).f0), .int .i64 ((rd_T36 l1 x8_1).f1)], .int .i64 0, .int .i64 100] ?_; (with_reducible refine (walkmillref05_Span.calls ((rd_T36 l1 x8_1).f0) ((rd_T36 l1 x8_1).f1) 0 100 true _ A13.out).mono ?_); rintro e w15 ⟨rfl, hb⟩; refine ⟨_, rfl, ?_⟩; replace BK101 := bb BK101 hb; replace HB := bs HB hb; clear hb))
        go_roundg k1
        case measure => have := HK1.out; omega
        case rel => exact ⟨(wrap64 (x8_1 + 1)), (by first | rfl | (simp; done) | (simp [*]; done)), H', ⟨by have := HK1.out; omega⟩, ⟨by (with_reducible repeat (first | refine blk_drewN ?_ _ | refine blk_drew ?_ | refine blk_alloc ?_ _)); exact BK101.out⟩, ⟨pE HB⟩⟩
       ·replace c14 := Bool.eq_false_iff.mpr c14
        subst c14
        rw [if_neg (show ¬ (false = true) by decide)] at H
        obtain rfl := Option.some.inj H
        have p104 : 0 ≤ (x8_1 : Int) := dT
        have q104 : x8_1 < (l1.length : Int) := dT
        obtain ⟨ad104, e104, hx104_0, hx104_1⟩ := at_T36 HR1.out x8_1 p104 q104
        cases e104
        replace hx104_0 := cut_ HB hx104_0
        replace hx104_1 := cut_ HB hx104_1
        replace p104 := eq_true p104
        replace q104 := eq_true q104
        go_wp2_with (first | ((with_reducible refine gc 58 rfl ?_); refine gL 28 Tryz.func58 #[.agg #[.int .i64 ((rd_T36 l1 x8_1).f0), .int .i64 ((rd_T36 l1 x8_1).f1)], .int .i64 0, .int .i64 100] ?_; (with_reducible refine (walkmillref05_Span.calls ((rd_T36 l1 x8_1).f0) ((rd_T36 l1 x8_1).f1) 0 100 false _ A13.out).mono ?_); rintro e w16 ⟨rfl, hb⟩; refine ⟨_, rfl, ?_⟩; replace BK101 := bb BK101 hb; replace HB := bs HB hb; clear hb))
        go_ret
        exact ⟨eT, pE HB⟩
      ·rw [if_neg c12] at H
       exact absurd H (by simp)
     ·rw [if_neg c11] at H
      have c11b0 : decide (x8_1 < (l1.length : Int)) = false := decide_eq_false c11
      clear c11
      obtain ⟨t106, A17, H⟩ := bi H
      by_cases c18 : t106 = true
      ·subst c18
       rw [if_pos rfl] at H
       obtain rfl := Option.some.inj H
       go_wp2_with (first | ((with_reducible refine gc 22 rfl ?_); refine gL 33 Tryz.func22 #[.int .i64 a2, .int .i64 0, .int .i64 (l1.length : Int)] ?_; (with_reducible refine (walkmillref05_In.calls a2 0 (l1.length : Int) true _ A17.out).mono ?_); rintro e w' ⟨rfl, ⟨nd, rfl⟩⟩; refine ⟨_, rfl, ?_⟩))
       go_ret
       exact ⟨eT, pE HB⟩
      ·replace c18 := Bool.eq_false_iff.mpr c18
       subst c18
       rw [if_neg (show ¬ (false = true) by decide)] at H
       obtain rfl := Option.some.inj H
       go_wp2_with (first | ((with_reducible refine gc 22 rfl ?_); refine gL 33 Tryz.func22 #[.int .i64 a2, .int .i64 0, .int .i64 (l1.length : Int)] ?_; (with_reducible refine (walkmillref05_In.calls a2 0 (l1.length : Int) false _ A17.out).mono ?_); rintro e w' ⟨rfl, ⟨nd, rfl⟩⟩; refine ⟨_, rfl, ?_⟩))
       go_ret
       exact ⟨eT, pE HB⟩
  ·replace c7 := Bool.eq_false_iff.mpr c7
   subst c7
   rw [if_neg (show ¬ (false = true) by decide)] at H
   obtain rfl := Option.some.inj H
   go_enter Tryz.func36, Tryz.ntmps36
   go_wp2_with (first | ((with_reducible refine gate_dst (N := 3) rfl ?_); refine bx 3 #[.slice A0_0 l0_0.length c0_0, .slice A0_1 l0_1.length c0_1, .int .i64 a0_2, .int .i64 a0_3] 25 ?_; intro gb101 hg w19 hbox hb; have BK101 := hbox; have GW101 := gs HB hg; have GE101 := gs HB hg; replace HB := bs HB hb; clear hb hbox hg; obtain ⟨_, _, _, _, _, _, _, _⟩ := cf4 BK101) | ((with_reducible refine gc 17 rfl ?_); refine gL 10 Tryz.func17 #[.agg #[.slice A0_0 l0_0.length c0_0, .slice A0_1 l0_1.length c0_1, .int .i64 a0_2, .int .i64 a0_3]] ?_; (with_reducible refine (walkmillref05_Check.calls k _ _ l0_0 _ _ l0_1 a0_2 a0_3 t102 _ ?side1 ?side2 ?side3 ?side4 A4.out).mono ?_); (case side1 => exact pC (Kd.C_below HR0_0.out HB.out)); (case side2 => exact HC0_0.out); (case side3 => exact pC (Kd.C_below HR0_1.out HB.out)); (case side4 => exact HC0_1.out); rintro e w21 ⟨rfl, hb⟩; refine ⟨_, rfl, ?_⟩; replace BK101 := bb BK101 hb; replace HB := bs HB hb; clear hb) | ((with_reducible refine gc 22 rfl ?_); refine gL 16 Tryz.func22 #[.int .i64 (l1.length : Int), .int .i64 1, .int .i64 24] ?_; (with_reducible refine (walkmillref05_In.calls (l1.length : Int) 1 24 false _ A6.out).mono ?_); rintro e w' ⟨rfl, ⟨nd, rfl⟩⟩; refine ⟨_, rfl, ?_⟩))
   go_ret
   exact ⟨eT, pE HB⟩
 ·rw [if_neg c5] at H
  have c5b0 : (t102 == 0) = false := beq_eq_false_iff_ne.mpr c5
  have c5b1 : (t102 != 0) = true := bne_iff_ne.mpr c5
  obtain rfl := Option.some.inj H
  go_enter Tryz.func36, Tryz.ntmps36
  go_wp2_with (first | ((with_reducible refine gate_dst (N := 3) rfl ?_); refine bx 3 #[.slice A0_0 l0_0.length c0_0, .slice A0_1 l0_1.length c0_1, .int .i64 a0_2, .int .i64 a0_3] 25 ?_; intro gb101 hg w22 hbox hb; have BK101 := hbox; have GW101 := gs HB hg; have GE101 := gs HB hg; replace HB := bs HB hb; clear hb hbox hg; obtain ⟨_, _, _, _, _, _, _, _⟩ := cf4 BK101) | ((with_reducible refine gc 17 rfl ?_); refine gL 10 Tryz.func17 #[.agg #[.slice A0_0 l0_0.length c0_0, .slice A0_1 l0_1.length c0_1, .int .i64 a0_2, .int .i64 a0_3]] ?_; (with_reducible refine (walkmillref05_Check.calls k _ _ l0_0 _ _ l0_1 a0_2 a0_3 t102 _ ?side1 ?side2 ?side3 ?side4 A4.out).mono ?_); (case side1 => exact pC (Kd.C_below HR0_0.out HB.out)); (case side2 => exact HC0_0.out); (case side3 => exact pC (Kd.C_below HR0_1.out HB.out)); (case side4 => exact HC0_1.out); rintro e w24 ⟨rfl, hb⟩; refine ⟨_, rfl, ?_⟩; replace BK101 := bb BK101 hb; replace HB := bs HB hb; clear hb))
  go_ret
  exact ⟨eT, pE HB⟩
def walkmillref05_Dried.l0 : Nat → List (S36) → Int → Bool → Int → Option (Int)
  | 0, _, _, _, _ => none
  | k + 1, x0, x2, x3, x9 => if x9 ≤ (x0.length : Int) then (if x2 ≤ 0 then (some x9) else (if x9 < (x0.length : Int) then (if x3 = true then (if 0 ≤ x9 then (walkmillref05_Dried.l0 k x0 (wrap64 (x2 - ((rd_T36 x0 x9).f1))) x3 (wrap64 (x9 + 1))) else (none)) else (if 0 ≤ x9 then (walkmillref05_Dried.l0 k x0 (wrap64 (x2 - ((rd_T36 x0 x9).f0))) x3 (wrap64 (x9 + 1))) else (none))) else (walkmillref05_Dried.l0 k x0 x2 x3 (wrap64 (x9 + 1))))) else (some (wrap64 ((x0.length : Int) + 1)))
def walkmillref05_Dried.f (k : Nat) (l0 : List (S36)) (a1 : Int) (a2 : Int) (a3 : Bool) : Option (Int) := walkmillref05_Dried.l0 k l0 a2 a3 a1
theorem walkmillref05_Dried.mono_l : ∀ k, (∀ y0 y1 y2 y3, LeO (walkmillref05_Dried.l0 k y0 y1 y2 y3) (walkmillref05_Dried.l0 (k + 1) y0 y1 y2 y3))
  | 0 => fun _ _ _ _ r h => by simp [walkmillref05_Dried.l0] at h
  | k + 1 => by
    have ih0 := walkmillref05_Dried.mono_l k
    · intro y0 y1 y2 y3
      unfold walkmillref05_Dried.l0
      repeat' first
      | (with_reducible exact ih0 _ _ _ _)
      | (with_reducible exact LeO.refl _)
      | (with_reducible exact LeO.none _)
      | (with_reducible refine LeO.ite ?_ ?_)
      | (with_reducible refine LeO.bind ?_ (fun _ => ?_))
      | exact ih0 _ _ _ _
      | exact LeO.none _
      | refine LeO.ite ?_ ?_
      | refine LeO.bind ?_ (fun _ => ?_)
theorem walkmillref05_Dried.mono : ∀ a0 a1 a2 a3 k, LeO (walkmillref05_Dried.f k a0 a1 a2 a3) (walkmillref05_Dried.f (k + 1) a0 a1 a2 a3) := by
  intro a0 a1 a2 a3 k
  have ih0 := walkmillref05_Dried.mono_l k
  unfold walkmillref05_Dried.f
  repeat' first
      | (with_reducible exact ih0 _ _ _ _)
      | (with_reducible exact LeO.refl _)
      | (with_reducible exact LeO.none _)
      | (with_reducible refine LeO.ite ?_ ?_)
      | (with_reducible refine LeO.bind ?_ (fun _ => ?_))
      | exact ih0 _ _ _ _
      | exact LeO.none _
      | refine LeO.ite ?_ ?_
      | refine LeO.bind ?_ (fun _ => ?_)
set_option maxHeartbeats 8000000 in
set_option maxRecDepth 100000 in
theorem walkmillref05_Dried.calls (k : Nat) (A0 : Option Addr) (c0 : Nat) (l0 : List (S36)) (a1 : Int) (a2 : Int) (a3 : Bool) (r : Int) (w : World) (hr0 : Kd.C k36 w A0 l0.length l0) (hc0 : l0.length ≤ c0) (h : walkmillref05_Dried.f k l0 a1 a2 a3 = some r) :
    Calls Tryz.prog 80 #[.slice A0 l0.length c0, .int .i64 a1, .int .i64 a2, .bool a3] w fun e w' => e = .returned (.int .i64 r) ∧ Drawn0 w w' := by
  have HR0 := Aside0.mk hr0
  have HC0 := Aside0.mk hc0
  clear hr0 hc0
  have H : (walkmillref05_Dried.l0 k l0 a2 a3 a1) = some r := h
  clear h
  have H' := Aside0.mk H
  clear H
  go_enter Tryz.func80, Tryz.ntmps80
  go_wp2
  go_loopg [2, 9] k (fun kq v2 v9 w' => ∃ (x2_1 : Int) (x9_1 : Int), v2 = .int .i64 x2_1 ∧ v9 = .int .i64 x9_1 ∧ Aside0 (walkmillref05_Dried.l0 kq l0 x2_1 a3 x9_1 = some r) ∧ Aside0 (kq ≤ k) ∧ Drawn0 w w')
  case atStart => exact ⟨(a2), (a1), (by first | rfl | (simp; done) | (simp [*]; done)), (by first | rfl | (simp; done) | (simp [*]; done)), H', ⟨Nat.le_refl _⟩, by repeat (first | exact Drawn0.refl _ | apply Drawn0.step)⟩
  case round =>
    clear H'
    try clear p2
    obtain ⟨x2_1, x9_1, rfl, rfl, HA, HK1, ⟨m1, rfl⟩⟩ := hrel
    cases gk with
    | zero => exact absurd HA.out (by simp [walkmillref05_Dried.l0])
    | succ k1 =>
      have H := HA.out
      clear HA
      simp only [walkmillref05_Dried.l0] at H
      by_cases c5 : x9_1 ≤ (l0.length : Int)
      · rw [if_pos c5] at H
        have c5b0 : decide (x9_1 ≤ (l0.length : Int)) = true := decide_eq_true c5
        clear c5
        by_cases c6 : x2_1 ≤ 0
        · rw [if_pos c6] at H
          have c6b0 : decide (x2_1 ≤ 0) = true := decide_eq_true c6
          clear c6
          obtain rfl := Option.some.inj H
          go_wp2
          go_ret
          exact ⟨by first | rfl | (simp; done) | (simp [*]; done), by repeat (first | exact Drawn0.refl _ | apply Drawn0.step)⟩
        · rw [if_neg c6] at H
          have c6b0 : decide (x2_1 ≤ 0) = false := decide_eq_false c6
          clear c6
          by_cases c7 : x9_1 < (l0.length : Int)
          · rw [if_pos c7] at H
            have c7b0 : decide (x9_1 < (l0.length : Int)) = true := decide_eq_true c7
            clear c7
            by_cases c8 : a3 = true
            · subst c8
              have H1 : (if 0 ≤ x9_1 then (walkmillref05_Dried.l0 k1 l0 (wrap64 (x2_1 - ((rd_T36 l0 x9_1).f1))) true (wrap64 (x9_1 + 1))) else (none)) = some r := by rw [if_pos rfl] at H; exact H
              clear H
              have H := H1
              clear H1
              by_cases c9 : 0 ≤ x9_1
              · rw [if_pos c9] at H
                have c9b0 : decide (0 ≤ x9_1) = true := decide_eq_true c9
                clear c9
                have H' := Aside0.mk H
                clear H
                have p101 : 0 ≤ (x9_1 : Int) := of_decide_eq_true (by first | (with_reducible assumption) | assumption)
                have q101 : x9_1 < (l0.length : Int) := of_decide_eq_true (by first | (with_reducible assumption) | assumption)
                obtain ⟨ad101, e101, hx101_0, hx101_1⟩ := at_T36 HR0.out x9_1 p101 q101
                cases e101
                replace p101 := eq_true p101
                replace q101 := eq_true q101
                go_wp2
                go_roundg k1
                case measure => have := HK1.out; omega
                case rel => exact ⟨(wrap64 (x2_1 - ((rd_T36 l0 x9_1).f1))), (wrap64 (x9_1 + 1)), (by first | rfl | (simp; done) | (simp [*]; done)), (by first | rfl | (simp; done) | (simp [*]; done)), H', ⟨by have := HK1.out; omega⟩, by repeat (first | exact Drawn0.refl _ | apply Drawn0.step)⟩
              · rw [if_neg c9] at H
                exact absurd H (by simp)
            · replace c8 := Bool.eq_false_iff.mpr c8
              subst c8
              have H1 : (if 0 ≤ x9_1 then (walkmillref05_Dried.l0 k1 l0 (wrap64 (x2_1 - ((rd_T36 l0 x9_1).f0))) false (wrap64 (x9_1 + 1))) else (none)) = some r := by rw [if_neg (show ¬ (false = true) by decide)] at H; exact H
              clear H
              have H := H1
              clear H1
              by_cases c10 : 0 ≤ x9_1
              · rw [if_pos c10] at H
                have c10b0 : decide (0 ≤ x9_1) = true := decide_eq_true c10
                clear c10
                have H' := Aside0.mk H
                clear H
                have p102 : 0 ≤ (x9_1 : Int) := of_decide_eq_true (by first | (with_reducible assumption) | assumption)
                have q102 : x9_1 < (l0.length : Int) := of_decide_eq_true (by first | (with_reducible assumption) | assumption)
                obtain ⟨ad102, e102, hx102_0, hx102_1⟩ := at_T36 HR0.out x9_1 p102 q102
                cases e102
                replace p102 := eq_true p102
                replace q102 := eq_true q102
                go_wp2
                go_roundg k1
                case measure => have := HK1.out; omega
                case rel => exact ⟨(wrap64 (x2_1 - ((rd_T36 l0 x9_1).f0))), (wrap64 (x9_1 + 1)), (by first | rfl | (simp; done) | (simp [*]; done)), (by first | rfl | (simp; done) | (simp [*]; done)), H', ⟨by have := HK1.out; omega⟩, by repeat (first | exact Drawn0.refl _ | apply Drawn0.step)⟩
              · rw [if_neg c10] at H
                exact absurd H (by simp)
          · rw [if_neg c7] at H
            have c7b0 : decide (x9_1 < (l0.length : Int)) = false := decide_eq_false c7
            clear c7
            have H' := Aside0.mk H
            clear H
            go_wp2
            go_roundg k1
            case measure => have := HK1.out; omega
            case rel => exact ⟨(x2_1), (wrap64 (x9_1 + 1)), (by first | rfl | (simp; done) | (simp [*]; done)), (by first | rfl | (simp; done) | (simp [*]; done)), H', ⟨by have := HK1.out; omega⟩, by repeat (first | exact Drawn0.refl _ | apply Drawn0.step)⟩
      · rw [if_neg c5] at H
        have c5b0 : decide (x9_1 ≤ (l0.length : Int)) = false := decide_eq_false c5
        clear c5
        obtain rfl := Option.some.inj H
        go_wp2
        go_ret
        exact ⟨by first | rfl | (simp; done) | (simp [*]; done), by repeat (first | exact Drawn0.refl _ | apply Drawn0.step)⟩
def walkmillref05_Dry.f (k : Nat) (l0_0 : List (S43)) (l0_1 : List Int) (a0_2 : Int) (a0_3 : Int) (l1 : List (S36)) (a2 : Int) (a3 : Int) : Option (Int × Int) := if 0 ≤ a2 then (if a2 < (l0_0.length : Int) then ((walkmillref05_Dried.f k l1 a3 ((rd_T43 l0_0 a2).f1.f0) true).bind fun t105 => ((walkmillref05_Dried.f k l1 a3 ((rd_T43 l0_0 a2).f1.f1) false).bind fun t106 => (some (t105, t106)))) else (none)) else (none)
theorem walkmillref05_Dry.mono : ∀ a0 a1 a2 a3 a4 a5 a6 k, LeO (walkmillref05_Dry.f k a0 a1 a2 a3 a4 a5 a6) (walkmillref05_Dry.f (k + 1) a0 a1 a2 a3 a4 a5 a6) := by
 intro a0 a1 a2 a3 a4 a5 a6 k
 unfold walkmillref05_Dry.f
 repeat' first
   | (with_reducible exact walkmillref05_Dried.mono _ _ _ _ _)
   | (with_reducible exact LeO.refl _)
   | (with_reducible exact LeO.none _)
   | (with_reducible refine LeO.ite ?_ ?_)
   | (with_reducible refine LeO.bind ?_ (fun _ => ?_))
   | exact walkmillref05_Dried.mono _ _ _ _ _
   | exact LeO.none _
   | refine LeO.ite ?_ ?_
   | refine LeO.bind ?_ (fun _ => ?_)
def walkmillref05_Dry.T2 : Bool × List (List Nat × List Nat) := (true, [([], []), ([], []), ([], []), ([2], [2]), ([0, 1, 3], [0, 1, 3]), ([], []), ([], []), ([], []), ([7], [7]), ([5, 6, 8, 4], [5, 6, 8]), ([4, 9], [4, 9]), ([10, 9, 0, 1, 2, 3, 4, 5, 6, 7, 8, 9, 10], [10])])
def walkmillref05_Dry.B2 : List Nat := [0, 0, 0, 4, 15, 0, 0, 0, 128, 511, 1023, 2047]
theorem walkmillref05_Dry.tab2 : rtab .any (opsOf Tryz.f37 2) = walkmillref05_Dry.T2 := by kernel_rfl
theorem walkmillref05_Dry.bits2 : waitsOk walkmillref05_Dry.T2.2 walkmillref05_Dry.B2 = true := by kernel_rfl
set_option maxHeartbeats 8000000 in
set_option maxRecDepth 100000 in
theorem walkmillref05_Dry.calls (k : Nat) (A0_0 : Option Addr) (c0_0 : Nat) (l0_0 : List (S43)) (A0_1 : Option Addr) (c0_1 : Nat) (l0_1 : List Int) (a0_2 : Int) (a0_3 : Int) (A1 : Option Addr) (c1 : Nat) (l1 : List (S36)) (a2 : Int) (a3 : Int) (r1 : Int) (r2 : Int) (w : World) (hr0_0 : Kd.C k43 w A0_0 l0_0.length l0_0) (hc0_0 : l0_0.length ≤ c0_0) (hr0_1 : Kd.C (Kd.int .i64) w A0_1 l0_1.length l0_1) (hc0_1 : l0_1.length ≤ c0_1) (hr1 : Kd.C k36 w A1 l1.length l1) (hc1 : l1.length ≤ c1) (h : walkmillref05_Dry.f k l0_0 l0_1 a0_2 a0_3 l1 a2 a3 = some (r1, r2)) :
  Calls Tryz.prog 37 #[.agg #[.slice A0_0 l0_0.length c0_0, .slice A0_1 l0_1.length c0_1, .int .i64 a0_2, .int .i64 a0_3], .slice A1 l1.length c1, .int .i64 a2, .int .i64 a3] w fun e w' => e = .returned (.agg #[.int .i64 r1, .int .i64 r2]) ∧ Below w.heap.size w w' := by
 have hu25 := Tryz.underlying25
 have hu36 := Tryz.underlying36
 have HR0_0 := Aside0.mk hr0_0
 have HC0_0 := Aside0.mk hc0_0
 clear hr0_0 hc0_0
 have HR0_1 := Aside0.mk hr0_1
 have HC0_1 := Aside0.mk hc0_1
 clear hr0_1 hc0_1
 have HR1 := Aside0.mk hr1
 have HC1 := Aside0.mk hc1
 clear hr1 hc1
 have HB := Aside0.mk (Below.refl w.heap.size w)
 have H : (if 0 ≤ a2 then (if a2 < (l0_0.length : Int) then ((walkmillref05_Dried.f k l1 a3 ((rd_T43 l0_0 a2).f1.f0) true).bind fun t105 => ((walkmillref05_Dried.f k l1 a3 ((rd_T43 l0_0 a2).f1.f1) false).bind fun t106 => (some (t105, t106)))) else (none)) else (none)) = some (r1, r2) := h
 clear h
 by_cases c5 : 0 ≤ a2
 ·rw [if_pos c5] at H
  have c5b0 : decide (0 ≤ a2) = true := decide_eq_true c5
  clear c5
  by_cases c6 : a2 < (l0_0.length : Int)
  ·rw [if_pos c6] at H
   have c6b0 : decide (a2 < (l0_0.length : Int)) = true := decide_eq_true c6
   clear c6
   obtain ⟨t105, A7, H⟩ := bi H
   obtain ⟨t106, A8, H⟩ := bi H
   simp only [Option.some.injEq, Prod.mk.injEq] at H
   obtain ⟨rfl, rfl⟩ := H
   go_enter Tryz.func37, Tryz.ntmps37
   try go_wp2_with (first | ((with_reducible refine gate_dst (N := 4) rfl ?_); refine bx 4 #[.slice A0_0 l0_0.length c0_0, .slice A0_1 l0_1.length c0_1, .int .i64 a0_2, .int .i64 a0_3] 25 ?_; intro gb101 hg w9 hbox hb; have BK101 := hbox; have GW101 := gs HB hg; have GE101 := gs HB hg; replace HB := bs HB hb; clear hb hbox hg) | ((with_reducible refine gate_dst (N := 8) rfl ?_); refine bx 8 #[.int .i64 0, .int .i64 0] 36 ?_; intro gb102 hg w10 hbox hb; have BK102 := hbox; have GW102 := gs HB hg; have GE102 := gs HB hg; replace HB := bs HB hb; have NB101_102 := nl BK101 hg; have NB102_101 := nr BK101 hg; replace BK101 := bb BK101 hb; clear hb hbox hg; have hnb11 := NB101_102.out; have hnc11 := NB102_101.out; obtain ⟨_, _, _, _, _, _, _, _⟩ := cf4 BK101; have p103 : 0 ≤ (a2 : Int) := dT; have q103 : a2 < (l0_0.length : Int) := dT; obtain ⟨ad103, e103, hx103_0, hx103_1, hx103_2, hx103_3⟩ := at_T43 HR0_0.out a2 p103 q103; cases e103; replace hx103_0 := cut_ HB hx103_0; replace hx103_1 := cut_ HB hx103_1; replace hx103_2 := cut_ HB hx103_2; replace hx103_3 := cut_ HB hx103_3; replace p103 := eq_true p103; replace q103 := eq_true q103) | ((with_reducible refine gate_dst (N := 9) rfl ?_); refine bx 9 #[.int .i64 0, .int .i64 0] 36 ?_; intro gb104 hg w13 hbox hb; have BK104 := hbox; have GW104 := gs HB hg; have GE104 := gs HB hg; replace HB := bs HB hb; have NB101_104 := nl BK101 hg; have NB104_101 := nr BK101 hg; replace BK101 := bb BK101 hb; have NB102_104 := nl BK102 hg; have NB104_102 := nr BK102 hg; replace BK102 := bb BK102 hb; clear hb hbox hg; have hnb14 := NB104_101.out; have hnc14 := NB101_104.out; have hnb15 := NB104_102.out; have hnc15 := NB102_104.out; obtain ⟨_, _, _, _⟩ := cf2 BK104))
   have n0_ : Aside0 (((w13.setCell ⟨gb104, 0, none⟩ (.int .i64 ((rd_T43 l0_0 a2).f1.f0))).setCell ⟨gb104, 1, none⟩ (.int .i64 ((rd_T43 l0_0 a2).f1.f1))).heap[gb101]? = some (.cells #[.slice (some ad103) l0_0.length c0_0, .slice A0_1 l0_1.length c0_1, .int .i64 a0_2, .int .i64 a0_3] 25 (0, 0))) := ⟨by refine pB ?_; refine blk_far ?_ NB101_104.out _; refine pB ?_; refine blk_far ?_ NB101_104.out _; (with_reducible repeat (first | refine blk_drewN ?_ _ | refine blk_drew ?_ | refine blk_alloc ?_ _)); exact BK101.out⟩
   have n1_ : Aside0 (((w13.setCell ⟨gb104, 0, none⟩ (.int .i64 ((rd_T43 l0_0 a2).f1.f0))).setCell ⟨gb104, 1, none⟩ (.int .i64 ((rd_T43 l0_0 a2).f1.f1))).heap[gb102]? = some (.cells #[.int .i64 0, .int .i64 0] 36 (0, 0))) := ⟨by refine pB ?_; refine blk_far ?_ NB102_104.out _; refine pB ?_; refine blk_far ?_ NB102_104.out _; (with_reducible repeat (first | refine blk_drewN ?_ _ | refine blk_drew ?_ | refine blk_alloc ?_ _)); exact BK102.out⟩
   have n2_ : Aside0 (((w13.setCell ⟨gb104, 0, none⟩ (.int .i64 ((rd_T43 l0_0 a2).f1.f0))).setCell ⟨gb104, 1, none⟩ (.int .i64 ((rd_T43 l0_0 a2).f1.f1))).heap[gb104]? = some (.cells #[.int .i64 ((rd_T43 l0_0 a2).f1.f0), .int .i64 ((rd_T43 l0_0 a2).f1.f1)] 36 (0, 0))) := ⟨by refine pB ?_; refine blk_put (cs := #[.int .i64 ((rd_T43 l0_0 a2).f1.f0), .int .i64 0]) ?_ 1 _ rfl; refine pB ?_; refine blk_put (cs := #[.int .i64 0, .int .i64 0]) ?_ 0 _ rfl; (with_reducible repeat (first | refine blk_drewN ?_ _ | refine blk_drew ?_ | refine blk_alloc ?_ _)); exact BK104.out⟩
   have n3_ : Aside0 (Below w.heap.size w ((w13.setCell ⟨gb104, 0, none⟩ (.int .i64 ((rd_T43 l0_0 a2).f1.f0))).setCell ⟨gb104, 1, none⟩ (.int .i64 ((rd_T43 l0_0 a2).f1.f1)))) := ⟨pE HB⟩
   (try clear BK101)
   (try clear BK102)
   (try clear BK104)
   (try clear HB)
   generalize ((w13.setCell ⟨gb104, 0, none⟩ (.int .i64 ((rd_T43 l0_0 a2).f1.f0))).setCell ⟨gb104, 1, none⟩ (.int .i64 ((rd_T43 l0_0 a2).f1.f1))) = w17 at n0_ n1_ n2_ n3_ ⊢
   have BK101 := n0_
   have BK102 := n1_
   have BK104 := n2_
   have HB := n3_
   clear n0_ n1_ n2_ n3_
   replace BK101 := Aside0.mk (blk_drew BK101.out)
   replace BK102 := Aside0.mk (blk_drew BK102.out)
   replace BK104 := Aside0.mk (blk_drew BK104.out)
   replace HB := Aside0.mk (below_drew1 HB.out)
   refine start_ (n := 12) (S := fun w' => w'.cell? ⟨gb104, 0, none⟩ = some (.int .i64 ((rd_T43 l0_0 a2).f1.f0)) ∧ w'.cell? ⟨gb104, 1, none⟩ = some (.int .i64 ((rd_T43 l0_0 a2).f1.f1))) (ds := []) #[false, false, false, false, false, false, false, false, false, false, false, false] (by kernel_rfl) rfl rfl ⟨(blk_cell BK104.out 0).trans rfl, (blk_cell BK104.out 1).trans rfl⟩ (fun hHeld => ?_); refine with_tabW walkmillref05_Dry.tab2 walkmillref05_Dry.bits2 (fun HT_ HW_ => ?_)
   generalize w17.drew = w18 at BK101 BK102 BK104 HB hHeld ⊢
   refine pu 0 16 ?_
   refine pu 1 17 ?_
   refine pu 2 18 ?_
   refine pu 5 21 ?_
   refine pu 6 22 ?_
   refine pu 7 23 ?_
   refine tk 3 19 hHeld ?_
   refine tk 8 24 hHeld ?_
   refine on 4 (fun K hK => ?_)
   refine gO Tryz.func80 #[.slice A1 l1.length c1, .int .i64 a3, .int .i64 ((rd_T43 l0_0 a2).f1.f0), .bool true] ?_
   with_reducible refine (walkmillref05_Dried.calls k _ _ l1 a3 ((rd_T43 l0_0 a2).f1.f0) true t105 _ ?side1 ?side2 A7.out).mono ?_
   (case side1 => exact pC (Kd.C_below HR1.out HB.out))
   (case side2 => exact HC1.out)
   rintro e w' ⟨rfl, ⟨nd, rfl⟩⟩
   refine ⟨_, rfl, ?_⟩
   refine hK.out _ _ ⟨(blk_cell BK104.out 0).trans rfl, (blk_cell BK104.out 1).trans rfl⟩ (fun hHeld => ?_)
   clear hK K
   refine norm_ (a' := ?_) ?_ ?_
   rotate_left
   ·show Act.put _ (some 20) _ = _
    simp only [Act.put, List.setIfInBounds_toArray, List.set_cons_zero, List.set_cons_succ, i64_w, i32_w]
    rfl
   refine on 9 (fun K hK => ?_)
   refine gO Tryz.func80 #[.slice A1 l1.length c1, .int .i64 a3, .int .i64 ((rd_T43 l0_0 a2).f1.f1), .bool false] ?_
   with_reducible refine (walkmillref05_Dried.calls k _ _ l1 a3 ((rd_T43 l0_0 a2).f1.f1) false t106 _ ?side1 ?side2 A8.out).mono ?_
   (case side1 => exact pC (Kd.C_below HR1.out (pE HB)))
   (case side2 => exact HC1.out)
   rintro e w' ⟨rfl, ⟨nd, rfl⟩⟩
   refine ⟨_, rfl, ?_⟩
   refine hK.out _ _ ⟨(blk_cell BK104.out 0).trans rfl, (blk_cell BK104.out 1).trans rfl⟩ (fun hHeld => ?_)
   clear hK K
   refine norm_ (a' := ?_) ?_ ?_
   rotate_left
   ·show Act.put _ (some 25) _ = _
    simp only [Act.put, List.setIfInBounds_toArray, List.set_cons_zero, List.set_cons_succ, i64_w, i32_w]
    rfl
   refine pu 10 26 ?_
   refine on 11 (fun K hK => ?_)
   have hs19 : w18.cell? ⟨gb102, 0, none⟩ = some (.int .i64 0) := (blk_cell BK102.out 0).trans rfl
   have hfs19 := blk_frozen BK102.out 0
   have hns19_0 := NB101_102.out
   have hns19_2 := NB104_102.out
   have hms19_0 := NB102_101.out
   have hms19_2 := NB102_104.out
   have hs20 : w18.cell? ⟨gb102, 1, none⟩ = some (.int .i64 0) := (blk_cell BK102.out 1).trans rfl
   have hfs20 := blk_frozen BK102.out 1
   have hns20_0 := NB101_102.out
   have hns20_2 := NB104_102.out
   have hms20_0 := NB102_101.out
   have hms20_2 := NB102_104.out
   refine skip_ (w1 := ?_) (by rfl) rfl ?_ ?_
   rotate_left
   ·go_simp
    rfl
   refine hK.out _ _ ⟨((cell_far (p := ⟨gb102, _, none⟩) NB104_102.out _).trans (((cell_far (p := ⟨gb102, _, none⟩) NB104_102.out _).trans (hHeld.1)))), ((cell_far (p := ⟨gb102, _, none⟩) NB104_102.out _).trans (((cell_far (p := ⟨gb102, _, none⟩) NB104_102.out _).trans (hHeld.2))))⟩ (fun hHeld => ?_)
   clear hK K
   refine done_ (done_of HT_.out (by kernel_rfl)) ?_
   try go_wp2
   refine bodyPost_ret (results_cell_row rfl _ _ gb102 36 #[.int .i64 t105, .int .i64 t106] (0, 0) _ rfl (by refine pB ?_; refine blk_put (cs := #[.int .i64 t105, .int .i64 0]) ?_ 1 _ rfl; refine pB ?_; refine blk_put (cs := #[.int .i64 0, .int .i64 0]) ?_ 0 _ rfl; (with_reducible repeat (first | refine blk_drewN ?_ _ | refine blk_drew ?_ | refine blk_alloc ?_ _)); exact BK102.out) Tryz.underlying36 rfl (by kernel_rfl)) rfl ?_
   exact ⟨eT, pE HB⟩
  ·rw [if_neg c6] at H
   exact absurd H (by simp)
 ·rw [if_neg c5] at H
  exact absurd H (by simp)
def tenter_newForecast_1.f (a0_0 : Int) (a0_1 : Int) : Option (Bool) := (tenter_isSpan.f a0_0 a0_1 0 100).bind fun t102 => (some (!t102))
set_option maxHeartbeats 8000000 in
set_option maxRecDepth 100000 in
theorem tenter_newForecast_1.calls (a0_0 : Int) (a0_1 : Int) (r : Bool) (w : World) (h : tenter_newForecast_1.f a0_0 a0_1 = some r) :
    Calls Tryz.prog 98 #[.agg #[.int .i64 a0_0, .int .i64 a0_1]] w fun e w' => e = .returned (.bool r) ∧ Below w.heap.size w w' := by
  have hu36 := Tryz.underlying36
  have HB := Aside0.mk (Below.refl w.heap.size w)
  have H : ((tenter_isSpan.f a0_0 a0_1 0 100).bind fun t102 => (some (!t102))) = some r := h
  clear h
  replace H := Option.bind_eq_some_iff.mp H
  obtain ⟨t102, A20, H⟩ := H
  replace H : (some (!t102)) = some r := H
  have A2 := Aside0.mk A20
  clear A20
  obtain rfl := Option.some.inj H
  go_enter Tryz.func98, Tryz.ntmps98
  go_wp2_with (first | ((with_reducible refine gate_dst (N := 1) rfl ?_); refine box_event ?hg (N := 1) ?hd (cs := #[.int .i64 a0_0, .int .i64 a0_1]) (t := 36) ?hr ?_; (case hd => rfl); (case hg => rfl); (case hr => first | (go_simp; done) | (go_simp; rfl)); intro gb101 hg w3 hbox hb; have n0_ := Aside0.mk (below_step (by repeat (first | (with_reducible first | exact HB.out | apply below_alloc | apply pw_below_drewN | apply below_drew1) | exact HB.out)) hb); have n1_ := Aside0.mk (hbox); have n2_ := Aside0.mk ((by rw [hg]; exact (below_size (by repeat (first | (with_reducible first | exact HB.out | apply below_alloc | apply pw_below_drewN | apply below_drew1) | exact HB.out))) : w.heap.size ≤ gb101)); have n3_ := Aside0.mk ((by rw [hg]; exact (below_size (by repeat (first | (with_reducible first | exact HB.out | apply below_alloc | apply pw_below_drewN | apply below_drew1) | exact HB.out))) : w.heap.size ≤ gb101)); clear HB; have HB := n0_; have BK101 := n1_; have GW101 := n2_; have GE101 := n3_; clear n0_ n1_ n2_ n3_; clear hb hbox hg; have hcz4_0 : w3.cell? ⟨gb101, 0, none⟩ = some (.int .i64 a0_0) := (blk_cell BK101.out 0).trans rfl; have hcz4_1 : w3.cell? ⟨gb101, 1, none⟩ = some (.int .i64 a0_1) := (blk_cell BK101.out 1).trans rfl; have hfz4_0 := blk_frozen BK101.out 0; have hfz4_1 := blk_frozen BK101.out 1) | ((with_reducible refine gate_callee (f := 54) rfl ?_); refine goesL_ (some 4) rfl rfl Tryz.func54 (by kernel_rfl) rfl #[.agg #[.int .i64 a0_0, .int .i64 a0_1], .int .i64 0, .int .i64 100] rfl (by (try simp only [List.map_toArray, List.map_cons, List.map_nil]); first | done | rfl | (simp only [List.length_drop, List.length_take]; rfl)) ?_; (with_reducible refine (tenter_isSpan.calls a0_0 a0_1 0 100 t102 _ A2.out).mono ?_); rintro e w5 ⟨rfl, hb⟩; refine ⟨_, rfl, ?_⟩; have n0_ := Aside0.mk (blk_below (g := gb101) (o := .cells #[.int .i64 a0_0, .int .i64 a0_1] 36 (0, 0)) (by (with_reducible repeat (first | refine blk_drewN ?_ _ | refine blk_drew ?_ | refine blk_alloc ?_ _)); exact BK101.out) hb); have n1_ := Aside0.mk (below_step (by repeat (first | (with_reducible first | exact HB.out | apply below_alloc | apply pw_below_drewN | apply below_drew1 | refine below_set ?_ GE101.out) | exact HB.out)) hb); clear BK101; clear HB; have BK101 := n0_; have HB := n1_; clear n0_ n1_; (try clear hb); (try clear hb2); (try clear hk); (try clear hi)))
  go_ret
  exact ⟨by first | rfl | (simp [errW_none, errW_some] <;> rfl) | (simp [*, errW_none, errW_some] <;> rfl), by repeat (first | (with_reducible first | exact HB.out | apply below_alloc | apply pw_below_drewN | apply below_drew1 | refine below_set ?_ GE101.out) | exact HB.out)⟩
set_option maxHeartbeats 4000000 in
set_option maxRecDepth 100000 in
theorem hof121.callsO (q : S36 → Option Bool) (g : Nat) (lb : Array Value) (eg : ∀ args w, (callFunc g args).run Tryz.prog w = .ok (.enter g args) w) (Ad : Option Addr) (c : Nat) (l : List S36) (r : Int) (w : World) (hr : Kd.C k36 w Ad l.length l)
    (hp : ∀ x ∈ l, ∀ b, q x = some b → ∀ (W : World), Below w.heap.size w W → Calls Tryz.prog g (#[.agg #[.int .i64 x.f0, .int .i64 x.f1]] ++ lb) W fun e w' => e = .returned (.bool b) ∧ Below W.heap.size W w') (h : idxO q l 0 = some r) :
    Calls Tryz.prog 121 #[.slice Ad l.length c, .func (.func g) #[] lb] w fun e w' => e = .returned (.int .i64 r) ∧ Below w.heap.size w w' := by
  have hbig : l.length ≤ 9223372036854775807 := hr.2.1
  have e0 := Lib.hid (idxO_drop q l)
  have hr' := Lib.hid hr
  have hp' := Lib.hid hp
  have H0 : Hid (idxO q (l.drop 0) 0 = some r) := Lib.hid (by rw [List.drop_zero]; exact h)
  clear hr hp h
  go_enter Tryz.func121, Tryz.ntmps121
  go_wp2
  go_loopg [5, 8] l.length (fun gg _ s8 wr => ∃ kk : Nat, kk ≤ l.length ∧ l.length - kk ≤ gg ∧ s8 = .int .i64 kk ∧ Aside (Below w.heap.size w wr) ∧ Aside (idxO q (l.drop kk) kk = some r))
  case atStart => exact ⟨0, Nat.zero_le _, by omega, rfl, Below.refl _ w, H0.out⟩
  case round =>
    obtain ⟨kk, hkk, hg, rfl, BW, HE⟩ := hrel
    by_cases hlt : kk < l.length
    · have hltz : (kk : Int) < (l.length : Int) := by omega
      obtain ⟨ad, rfl, h0_, h1_⟩ := at_T36 (Kd.C_below hr'.out BW.out) (kk : Int) (by omega) (by omega)
      simp only [Int.toNat_natCast] at h0_ h1_
      have hrd : rd_T36 l (kk : Int) = l[kk] := by simp [rd_T36, List.getD_eq_getElem?_getD, List.getElem?_eq_getElem hlt]
      rw [hrd] at h0_ h1_
      clear hrd
      have H1 := HE.out
      rw [e0.out kk hlt] at H1
      obtain ⟨b, hb, H2⟩ := Option.bind_eq_some_iff.mp H1
      have hcall := hp'.out l[kk] (List.getElem_mem hlt) b hb wr BW.out
      generalize hy : l[kk] = y at h0_ h1_ hcall
      have H2' := Lib.hid H2
      clear hy H2 H1 hb
      cases b with
      | true =>
        go_wp2_with (go_at_fn g; refine hcall.mono ?_; rintro e w' ⟨rfl, hb'⟩)
        go_ret
        refine ⟨?_, Below.trans BW.out (hb'.mono BW.out.size)⟩
        have H3 := H2'.out
        simp only [if_true] at H3
        rw [← Option.some.inj H3]
        rfl
      | false =>
        go_wp2_with (go_at_fn g; refine hcall.mono ?_; rintro e w' ⟨rfl, hb'⟩)
        go_roundg (l.length - (kk + 1))
        case measure => omega
        case rel =>
          refine ⟨kk + 1, by omega, by omega, by go_num, Below.trans BW.out (hb'.mono BW.out.size), (show Aside _ from ?_)⟩
          have H3 := H2'.out
          have H4 : idxO q (l.drop (kk + 1)) (kk + 1) = some r := by simpa using H3
          exact H4
    · have hltz : ¬ (kk : Int) < (l.length : Int) := by omega
      have HK := Lib.hid (show l.length ≤ kk by omega)
      go_wp2
      go_ret
      refine ⟨?_, BW.out⟩
      have H3 := HE.out
      rw [List.drop_eq_nil_of_le HK.out] at H3
      have H4 : some (-1 : Int) = some r := H3
      rw [← Option.some.inj H4]
      rfl
set_option maxHeartbeats 4000000 in
theorem hof97.callsO (q : S36 → Option Bool) (g : Nat) (lb : Array Value) (eg : ∀ args w, (callFunc g args).run Tryz.prog w = .ok (.enter g args) w) (Ad : Option Addr) (c : Nat) (l : List S36) (r : Bool) (w : World) (hr : Kd.C k36 w Ad l.length l)
    (hp : ∀ x ∈ l, ∀ b, q x = some b → ∀ (W : World), Below w.heap.size w W → Calls Tryz.prog g (#[.agg #[.int .i64 x.f0, .int .i64 x.f1]] ++ lb) W fun e w' => e = .returned (.bool b) ∧ Below W.heap.size W w') (h : anyO q l = some r) :
    Calls Tryz.prog 97 #[.slice Ad l.length c, .func (.func g) #[] lb] w fun e w' => e = .returned (.bool r) ∧ Below w.heap.size w w' := by
  obtain ⟨j, h1, rfl⟩ := idxO_any q l 0 r h
  have hcon := Lib.hid (hof121.callsO q g lb eg Ad c l j w hr hp h1)
  clear hr hp h1 h
  go_enter Tryz.func97, Tryz.ntmps97
  go_wp2_with (go_at_call 121; refine hcon.out.mono ?_; rintro e w' ⟨rfl, hb'⟩)
  go_ret
  exact ⟨rfl, hb'⟩
def any_at_tenter_newForecast_1.f (l : List S36) : Option Bool := anyO (fun x => tenter_newForecast_1.f x.f0 x.f1) l
theorem any_at_tenter_newForecast_1.calls (Ad : Option Addr) (c : Nat) (l : List S36) (r : Bool) (w : World) (hr : Kd.C k36 w Ad l.length l) (hc : l.length ≤ c) (h : any_at_tenter_newForecast_1.f l = some r) :
    Calls Tryz.prog 97 #[.slice Ad l.length c, .func (.func 98) #[] #[]] w fun e w' => e = .returned (.bool r) ∧ Below w.heap.size w w' :=
  hof97.callsO (fun x => tenter_newForecast_1.f x.f0 x.f1) 98 _ (enters_of Tryz.func98 (by kernel_rfl) rfl) Ad c l r w hr (fun x hx b hq W hbW => by
    have hcl := tenter_newForecast_1.calls x.f0 x.f1 b W hq
    exact hcl) h
end Go.Proofs.YtikmfpjcdcckeaaGreatDoor.P
