/- Part 5 of what the law's proof needs: words, walks of functions and plain facts. -/
import Derived.CallsIn
import Derived.RangeFuncCalls
import Derived.KernelRfl
import Derived.Deep.MidRow
import Derived.Deep.AppendSrc
import Derived.Below
import Derived.Test.YtikmfpjcdcckeaaGreatDoorV01
import Derived.Test.YtikmfpjcdcckeaaGreatDoorV02
import Derived.Test.YtikmfpjcdcckeaaGreatDoorV03
import Derived.Test.YtikmfpjcdcckeaaGreatDoorV04
set_option linter.unusedVariables false
set_option linter.unusedSimpArgs false
namespace Go.Proofs.YtikmfpjcdcckeaaGreatDoor.P
open Go.RowKit Go.Proofs.YtikmfpjcdcckeaaGreatDoorW.PrintWords Go.Proofs.YtikmfpjcdcckeaaGreatDoorW.PrintLast Go.Proofs.YtikmfpjcdcckeaaGreatDoorW.PrintMore
attribute [local go_sem] max2_int min2_int max_two min_two max_three min_three max_four min_four
def tenter_high.f (a0_0 : Int) (a0_1 : Int) : Option (Int) := some a0_1
set_option maxHeartbeats 8000000 in
set_option maxRecDepth 100000 in
theorem tenter_high.calls (a0_0 : Int) (a0_1 : Int) (r : Int) (w : World) (h : tenter_high.f a0_0 a0_1 = some r) :
    Calls Tryz.prog 100 #[.agg #[.int .i64 a0_0, .int .i64 a0_1]] w fun e w' => e = .returned (.int .i64 r) ∧ Below w.heap.size w w' := by
  have hu36 := Tryz.underlying36
  have HB := Aside0.mk (Below.refl w.heap.size w)
  have H : (some a0_1) = some r := h
  clear h
  obtain rfl := Option.some.inj H
  go_enter Tryz.func100, Tryz.ntmps100
  go_wp2_with (first | ((with_reducible refine gate_dst (N := 1) rfl ?_); refine box_event ?hg (N := 1) ?hd (cs := #[.int .i64 a0_0, .int .i64 a0_1]) (t := 36) ?hr ?_; (case hd => rfl); (case hg => rfl); (case hr => first | (go_simp; done) | (go_simp; rfl)); intro gb101 hg w2 hbox hb; have n0_ := Aside0.mk (below_step (by repeat (first | (with_reducible first | exact HB.out | apply below_alloc | apply pw_below_drewN | apply below_drew1) | exact HB.out)) hb); have n1_ := Aside0.mk (hbox); have n2_ := Aside0.mk ((by rw [hg]; exact (below_size (by repeat (first | (with_reducible first | exact HB.out | apply below_alloc | apply pw_below_drewN | apply below_drew1) | exact HB.out))) : w.heap.size ≤ gb101)); have n3_ := Aside0.mk ((by rw [hg]; exact (below_size (by repeat (first | (with_reducible first | exact HB.out | apply below_alloc | apply pw_below_drewN | apply below_drew1) | exact HB.out))) : w.heap.size ≤ gb101)); clear HB; have HB := n0_; have BK101 := n1_; have GW101 := n2_; have GE101 := n3_; clear n0_ n1_ n2_ n3_; clear hb hbox hg; have hcz3_0 : w2.cell? ⟨gb101, 0, none⟩ = some (.int .i64 a0_0) := (blk_cell BK101.out 0).trans rfl; have hcz3_1 : w2.cell? ⟨gb101, 1, none⟩ = some (.int .i64 a0_1) := (blk_cell BK101.out 1).trans rfl; have hfz3_0 := blk_frozen BK101.out 0; have hfz3_1 := blk_frozen BK101.out 1))
  go_ret
  exact ⟨by first | rfl | (simp [errW_none, errW_some] <;> rfl) | (simp [*, errW_none, errW_some] <;> rfl), by repeat (first | (with_reducible first | exact HB.out | apply below_alloc | apply pw_below_drewN | apply below_drew1 | refine below_set ?_ GE101.out) | exact HB.out)⟩
def tenter_forecast_dried_at_tenter_high.l0 : Nat → Int → Int → List (S36) → Int → Int → List (S43) → List Int → Int → Int → List (S36) → Option (Int)
  | 0, _, _, _, _, _, _, _, _, _, _ => none
  | k + 1, x1, x2, x14, x15, x16, x102000, x102001, x102002, x102003, x102004 => if x16 < x15 then (if 0 ≤ x16 then (if x16 < (x14.length : Int) then (if x2 ≤ 0 then (some (wrap64 (x1 + x16))) else ((tenter_high.f ((rd_T36 x14 x16).f0) ((rd_T36 x14 x16).f1)).bind fun t108 => (tenter_forecast_dried_at_tenter_high.l0 k x1 (wrap64 (x2 - t108)) x14 x15 (wrap64 (x16 + 1)) x102000 x102001 x102002 x102003 x102004))) else (none)) else (none)) else (if x2 ≤ 0 then (some (x102004.length : Int)) else (some (wrap64 ((x102004.length : Int) + 1))))
def tenter_forecast_dried_at_tenter_high.f (k : Nat) (l0_0 : List (S43)) (l0_1 : List Int) (a0_2 : Int) (a0_3 : Int) (l0_4 : List (S36)) (a1 : Int) (a2 : Int)  : Option (Int) := if 0 ≤ a1 then (if a1 ≤ (l0_4.length : Int) then ((some (l0_4.drop (a1 : Int).toNat : List (S36))).bind fun y102 => (tenter_forecast_dried_at_tenter_high.l0 k a1 a2 y102 (y102.length : Int) 0 l0_0 l0_1 a0_2 a0_3 l0_4)) else (none)) else (none)
theorem tenter_forecast_dried_at_tenter_high.mono_l : ∀ k, (∀ y0 y1 y2 y3 y4 y5 y6 y7 y8 y9, LeO (tenter_forecast_dried_at_tenter_high.l0 k y0 y1 y2 y3 y4 y5 y6 y7 y8 y9) (tenter_forecast_dried_at_tenter_high.l0 (k + 1) y0 y1 y2 y3 y4 y5 y6 y7 y8 y9))
  | 0 => fun _ _ _ _ _ _ _ _ _ _ r h => by simp [tenter_forecast_dried_at_tenter_high.l0] at h
  | k + 1 => by
    have ih0 := tenter_forecast_dried_at_tenter_high.mono_l k
    · intro y0 y1 y2 y3 y4 y5 y6 y7 y8 y9
      unfold tenter_forecast_dried_at_tenter_high.l0
      repeat' first
      | (with_reducible exact ih0 _ _ _ _ _ _ _ _ _ _)
      | (with_reducible exact LeO.refl _)
      | (with_reducible exact LeO.none _)
      | (with_reducible refine LeO.ite ?_ ?_)
      | (with_reducible refine LeO.bind ?_ (fun _ => ?_))
      | exact ih0 _ _ _ _ _ _ _ _ _ _
      | exact LeO.none _
      | refine LeO.ite ?_ ?_
      | refine LeO.bind ?_ (fun _ => ?_)
theorem tenter_forecast_dried_at_tenter_high.mono : ∀ a0 a1 a2 a3 a4 a5 a6 k, LeO (tenter_forecast_dried_at_tenter_high.f k a0 a1 a2 a3 a4 a5 a6) (tenter_forecast_dried_at_tenter_high.f (k + 1) a0 a1 a2 a3 a4 a5 a6) := by
  intro a0 a1 a2 a3 a4 a5 a6 k
  have ih0 := tenter_forecast_dried_at_tenter_high.mono_l k
  unfold tenter_forecast_dried_at_tenter_high.f
  repeat' first
      | (with_reducible exact ih0 _ _ _ _ _ _ _ _ _ _)
      | (with_reducible exact LeO.refl _)
      | (with_reducible exact LeO.none _)
      | (with_reducible refine LeO.ite ?_ ?_)
      | (with_reducible refine LeO.bind ?_ (fun _ => ?_))
      | exact ih0 _ _ _ _ _ _ _ _ _ _
      | exact LeO.none _
      | refine LeO.ite ?_ ?_
      | refine LeO.bind ?_ (fun _ => ?_)
set_option maxHeartbeats 8000000 in
set_option maxRecDepth 100000 in
theorem tenter_forecast_dried_at_tenter_high.calls (k : Nat) (A0_0 : Option Addr) (c0_0 : Nat) (l0_0 : List (S43)) (A0_1 : Option Addr) (c0_1 : Nat) (l0_1 : List Int) (a0_2 : Int) (a0_3 : Int) (A0_4 : Option Addr) (c0_4 : Nat) (l0_4 : List (S36)) (a1 : Int) (a2 : Int)  (r : Int) (w : World) (hr0_0 : Kd.C k43 w A0_0 l0_0.length l0_0) (hc0_0 : l0_0.length ≤ c0_0) (hr0_1 : Kd.C (Kd.int .i64) w A0_1 l0_1.length l0_1) (hc0_1 : l0_1.length ≤ c0_1) (hr0_4 : Kd.C k36 w A0_4 l0_4.length l0_4) (hc0_4 : l0_4.length ≤ c0_4) (h : tenter_forecast_dried_at_tenter_high.f k l0_0 l0_1 a0_2 a0_3 l0_4 a1 a2 = some r) :
    Calls Tryz.prog 99 #[.agg #[.slice A0_0 l0_0.length c0_0, .slice A0_1 l0_1.length c0_1, .int .i64 a0_2, .int .i64 a0_3, .slice A0_4 l0_4.length c0_4], .int .i64 a1, .int .i64 a2, .func (.func 100) #[] #[]] w fun e w' => e = .returned (.int .i64 r) ∧ Below w.heap.size w w' := by
  have hu121 := Tryz.underlying121
  have hu36 := Tryz.underlying36
  have HR0_0 := Aside0.mk hr0_0
  have HC0_0 := Aside0.mk hc0_0
  clear hr0_0 hc0_0
  have HR0_1 := Aside0.mk hr0_1
  have HC0_1 := Aside0.mk hc0_1
  clear hr0_1 hc0_1
  have HR0_4 := Aside0.mk hr0_4
  have HC0_4 := Aside0.mk hc0_4
  clear hr0_4 hc0_4
  have HB := Aside0.mk (Below.refl w.heap.size w)
  have H : (if 0 ≤ a1 then (if a1 ≤ (l0_4.length : Int) then ((some (l0_4.drop (a1 : Int).toNat : List (S36))).bind fun y102 => (tenter_forecast_dried_at_tenter_high.l0 k a1 a2 y102 (y102.length : Int) 0 l0_0 l0_1 a0_2 a0_3 l0_4)) else (none)) else (none)) = some r := h
  clear h
  by_cases c5 : 0 ≤ a1
  · rw [if_pos c5] at H
    have c5b0 := eq_true c5
    have c5b1 : decide (0 ≤ a1) = true := decide_eq_true c5
    clear c5
    by_cases c6 : a1 ≤ (l0_4.length : Int)
    · rw [if_pos c6] at H
      have c6b0 := eq_true c6
      have c6b1 : decide (a1 ≤ (l0_4.length : Int)) = true := decide_eq_true c6
      clear c6
      obtain ⟨y102, hy102⟩ : ∃ y_ : List (S36), y_ = (l0_4.drop (a1 : Int).toNat) := ⟨_, rfl⟩
      replace H : (tenter_forecast_dried_at_tenter_high.l0 k a1 a2 y102 (y102.length : Int) 0 l0_0 l0_1 a0_2 a0_3 l0_4) = some r := by first | (rw [hy102]; with_reducible exact H) | (have H2_ := (Option.bind_some _ _).symm.trans H; rw [hy102]; with_reducible exact H2_) | (have H2_ := (Option.bind_some _ _).symm.trans H; with_reducible exact H2_) | with_reducible exact H | (rw [hy102]; exact H) | exact H
      have Ny102 := Aside0.mk hy102
      clear hy102
      have H' := Aside0.mk H
      clear H
      go_enter Tryz.func99, Tryz.ntmps99
      go_wp2_with (first | ((with_reducible refine gate_dst (N := 4) rfl ?_); refine box_event ?hg (N := 4) ?hd (cs := #[.slice A0_0 l0_0.length c0_0, .slice A0_1 l0_1.length c0_1, .int .i64 a0_2, .int .i64 a0_3, .slice A0_4 l0_4.length c0_4]) (t := 121) ?hr ?_; (case hd => rfl); (case hg => rfl); (case hr => first | (go_simp; done) | (go_simp; rfl)); intro gb101 hg w7 hbox hb; have n0_ := Aside0.mk (below_step (by repeat (first | (with_reducible first | exact HB.out | apply below_alloc | apply pw_below_drewN | apply below_drew1) | exact HB.out)) hb); have n1_ := Aside0.mk (hbox); have n2_ := Aside0.mk ((by rw [hg]; exact (below_size (by repeat (first | (with_reducible first | exact HB.out | apply below_alloc | apply pw_below_drewN | apply below_drew1) | exact HB.out))) : w.heap.size ≤ gb101)); have n3_ := Aside0.mk ((by rw [hg]; exact (below_size (by repeat (first | (with_reducible first | exact HB.out | apply below_alloc | apply pw_below_drewN | apply below_drew1) | exact HB.out))) : w.heap.size ≤ gb101)); clear HB; have HB := n0_; have BK101 := n1_; have GW101 := n2_; have GE101 := n3_; clear n0_ n1_ n2_ n3_; clear hb hbox hg; have hcz8_0 : w7.cell? ⟨gb101, 0, none⟩ = some (.slice A0_0 l0_0.length c0_0) := (blk_cell BK101.out 0).trans rfl; have hcz8_1 : w7.cell? ⟨gb101, 1, none⟩ = some (.slice A0_1 l0_1.length c0_1) := (blk_cell BK101.out 1).trans rfl; have hcz8_2 : w7.cell? ⟨gb101, 2, none⟩ = some (.int .i64 a0_2) := (blk_cell BK101.out 2).trans rfl; have hcz8_3 : w7.cell? ⟨gb101, 3, none⟩ = some (.int .i64 a0_3) := (blk_cell BK101.out 3).trans rfl; have hcz8_4 : w7.cell? ⟨gb101, 4, none⟩ = some (.slice A0_4 l0_4.length c0_4) := (blk_cell BK101.out 4).trans rfl; have hfz8_0 := blk_frozen BK101.out 0; have hfz8_1 := blk_frozen BK101.out 1; have hfz8_2 := blk_frozen BK101.out 2; have hfz8_3 := blk_frozen BK101.out 3; have hfz8_4 := blk_frozen BK101.out 4; have q9 : (a1 : Int) ≤ ((l0_4.length : Int) : Int) := of_decide_eq_true (by first | (with_reducible assumption) | assumption); obtain ⟨i09, hi09, _, hsz9, _⟩ := info_parts info36; have hroom9 : l0_4.length ≤ c0_4 := HC0_4.out; have hC9 : Kd.C k36 _ A0_4 l0_4.length l0_4 := HR0_4.out; have q09 : (0 : Int) ≤ (a1 : Int) := of_decide_eq_true (by first | (with_reducible assumption) | assumption); have hcut9 := cut_from (P := Tryz.prog) 31 36 .i64 Tryz.underlying31 hi09 2 hsz9 A0_4 l0_4.length c0_4 a1 q09 q9; have hr9 := Kd.C_drop (m := (a1 : Int).toNat) (c := c0_4) hC9 (by omega) hroom9; obtain ⟨A9, hA9⟩ : ∃ A1, A1 = (if c0_4 = (a1 : Int).toNat then A0_4 else (A0_4 : Option Addr).map (·.add ((a1 : Int).toNat * 2))) := ⟨_, rfl⟩; obtain ⟨c9, hc9⟩ : ∃ c1, c1 = c0_4 - (a1 : Int).toNat := ⟨_, rfl⟩; have hy9 : y102.length = l0_4.length - (a1 : Int).toNat := (by rw [Ny102.out, List.length_drop] <;> omega); rw [show (l0_4).drop (a1 : Int).toNat = y102 from Ny102.out.symm] at hr9; replace hr9 : Kd.C k36 _ A9 y102.length y102 := (by rw [hA9]; exact hr9); rw [← hy9, ← hA9, ← hc9] at hcut9; have HR105 := Aside0.mk hr9; have HC105 := Aside0.mk (show y102.length ≤ c9 from by rw [hy9, hc9]; exact Nat.sub_le_sub_right hroom9 _); clear hr9 hC9 hroom9 hi09 hsz9 hc9; have KY9 := Aside0.mk hy9; have KA9 := Aside0.mk hA9; clear hy9 hA9; replace q9 := eq_true q9))
      (try simp only [Act.put, List.setIfInBounds_toArray, List.set_cons_zero, List.set_cons_succ])
      go_loopg [2, 16] k (fun kq v2 v16 w' => ∃ (x2_1 : Int) (x16_1 : Int), v2 = .int .i64 x2_1 ∧ v16 = .int .i64 x16_1 ∧ Aside0 (tenter_forecast_dried_at_tenter_high.l0 kq a1 x2_1 y102 (y102.length : Int) x16_1 l0_0 l0_1 a0_2 a0_3 l0_4 = some r) ∧ Aside0 (kq ≤ k) ∧ Aside0 (w'.heap[gb101]? = some (.cells #[(.slice A0_0 l0_0.length c0_0), (.slice A0_1 l0_1.length c0_1), .int .i64 a0_2, .int .i64 a0_3, (.slice A0_4 l0_4.length c0_4)] 121 (0, 0))) ∧ Aside0 (Below w.heap.size w w'))
      case atStart => exact ⟨(a2), (0), (by first | rfl | (simp; done) | (simp [*]; done)), (by first | rfl | (simp; done) | (simp [*]; done)), H', ⟨Nat.le_refl _⟩, ⟨by (with_reducible repeat (first | refine blk_drewN ?_ _ | refine blk_drew ?_ | refine blk_alloc ?_ _)); exact BK101.out⟩, ⟨by repeat (first | (with_reducible first | exact HB.out | apply below_alloc | apply pw_below_drewN | apply below_drew1 | refine below_set ?_ GE101.out) | exact HB.out)⟩⟩
      case round =>
        clear H'
        try clear c1
        try clear p2
        try clear c5
        try clear c5b0
        try clear c5b1
        try clear c6
        try clear c6b0
        try clear c6b1
        try clear c7
        try clear c9
        try clear q9
        try clear hcz8_0
        try clear hcz8_1
        try clear hcz8_2
        try clear hcz8_3
        try clear hcz8_4
        try clear hfz8_0
        try clear hfz8_1
        try clear hfz8_2
        try clear hfz8_3
        try clear hfz8_4
        try clear q09
        try clear q9
        obtain ⟨x2_1, x16_1, rfl, rfl, HA, HK1, BK101, HB⟩ := hrel
        cases gk with
        | zero => exact absurd HA.out (by simp [tenter_forecast_dried_at_tenter_high.l0])
        | succ k1 =>
          have H := HA.out
          clear HA
          simp only [tenter_forecast_dried_at_tenter_high.l0] at H
          by_cases c10 : x16_1 < (y102.length : Int)
          · rw [if_pos c10] at H
            have c10b0 : decide (x16_1 < (y102.length : Int)) = true := decide_eq_true c10
            clear c10
            by_cases c11 : 0 ≤ x16_1
            · rw [if_pos c11] at H
              have c11b0 : decide (0 ≤ x16_1) = true := decide_eq_true c11
              clear c11
              by_cases c12 : x16_1 < (y102.length : Int)
              · rw [if_pos c12] at H
                have c12b0 : decide (x16_1 < (y102.length : Int)) = true := decide_eq_true c12
                clear c12
                by_cases c13 : x2_1 ≤ 0
                · rw [if_pos c13] at H
                  have c13b0 : decide (x2_1 ≤ 0) = true := decide_eq_true c13
                  clear c13
                  obtain rfl := Option.some.inj H
                  have p106 : 0 ≤ (x16_1 : Int) := of_decide_eq_true (by first | (with_reducible assumption) | assumption)
                  have q106 : x16_1 < (y102.length : Int) := of_decide_eq_true (by first | (with_reducible assumption) | assumption)
                  obtain ⟨ad106, e106, hx106_0, hx106_1⟩ := at_T36 HR105.out x16_1 p106 q106
                  cases e106
                  replace hx106_0 := (HB.out.cell (World.block_lt_of_cell? w _ hx106_0)).trans hx106_0
                  replace hx106_1 := (HB.out.cell (World.block_lt_of_cell? w _ hx106_1)).trans hx106_1
                  replace p106 := eq_true p106
                  replace q106 := eq_true q106
                  go_wp2_with (first | ((with_reducible refine gate_dst (N := 10) rfl ?_); refine box_event ?hg (N := 10) ?hd (cs := #[.int .i64 0, .int .i64 0]) (t := 36) ?hr ?_; (case hd => rfl); (case hg => rfl); (case hr => first | (go_simp; done) | (go_simp; rfl)); intro gb107 hg w14 hbox hb; have n0_ := Aside0.mk (blk_below (g := gb101) (o := .cells #[.slice A0_0 l0_0.length c0_0, .slice A0_1 l0_1.length c0_1, .int .i64 a0_2, .int .i64 a0_3, .slice A0_4 l0_4.length c0_4] 121 (0, 0)) (by (with_reducible repeat (first | refine blk_drewN ?_ _ | refine blk_drew ?_ | refine blk_alloc ?_ _)); exact BK101.out) hb); have n1_ := Aside0.mk (below_step (by repeat (first | (with_reducible first | exact HB.out | apply below_alloc | apply pw_below_drewN | apply below_drew1 | refine below_set ?_ GE101.out) | exact HB.out)) hb); have n2_ := Aside0.mk (hbox); have n3_ := Aside0.mk ((by rw [hg]; exact (below_size (by repeat (first | (with_reducible first | exact HB.out | apply below_alloc | apply pw_below_drewN | apply below_drew1 | refine below_set ?_ GE101.out) | exact HB.out))) : w.heap.size ≤ gb107)); have n4_ := Aside0.mk ((by rw [hg]; exact (below_size (by repeat (first | (with_reducible first | exact HB.out | apply below_alloc | apply pw_below_drewN | apply below_drew1 | refine below_set ?_ GE101.out) | exact HB.out))) : w.heap.size ≤ gb107)); have n5_ := Aside0.mk ((by rw [hg]; exact Nat.ne_of_lt (blk_lt (g := gb101) (o := .cells #[.slice A0_0 l0_0.length c0_0, .slice A0_1 l0_1.length c0_1, .int .i64 a0_2, .int .i64 a0_3, .slice A0_4 l0_4.length c0_4] 121 (0, 0)) (by (with_reducible repeat (first | refine blk_drewN ?_ _ | refine blk_drew ?_ | refine blk_alloc ?_ _)); exact BK101.out)) : gb101 ≠ gb107)); have n6_ := Aside0.mk ((by rw [hg]; exact Nat.ne_of_gt (blk_lt (g := gb101) (o := .cells #[.slice A0_0 l0_0.length c0_0, .slice A0_1 l0_1.length c0_1, .int .i64 a0_2, .int .i64 a0_3, .slice A0_4 l0_4.length c0_4] 121 (0, 0)) (by (with_reducible repeat (first | refine blk_drewN ?_ _ | refine blk_drew ?_ | refine blk_alloc ?_ _)); exact BK101.out)) : gb107 ≠ gb101)); clear BK101; clear HB; have BK101 := n0_; have HB := n1_; have BK107 := n2_; have GW107 := n3_; have GE107 := n4_; have NB101_107 := n5_; have NB107_101 := n6_; clear n0_ n1_ n2_ n3_ n4_ n5_ n6_; clear hb hbox hg; have hnb15 := NB107_101.out; have hnc15 := NB101_107.out; have hcz16_0 : w14.cell? ⟨gb107, 0, none⟩ = some (.int .i64 0) := (blk_cell BK107.out 0).trans rfl; have hcz16_1 : w14.cell? ⟨gb107, 1, none⟩ = some (.int .i64 0) := (blk_cell BK107.out 1).trans rfl; have hfz16_0 := blk_frozen BK107.out 0; have hfz16_1 := blk_frozen BK107.out 1))
                  go_ret
                  exact ⟨by first | rfl | (simp [errW_none, errW_some] <;> rfl) | (simp [*, errW_none, errW_some] <;> rfl), by repeat (first | (with_reducible first | exact HB.out | apply below_alloc | apply pw_below_drewN | apply below_drew1 | refine below_set ?_ GE101.out | refine below_set ?_ GE107.out) | exact HB.out)⟩
                · rw [if_neg c13] at H
                  have c13b0 : decide (x2_1 ≤ 0) = false := decide_eq_false c13
                  clear c13
                  replace H := Option.bind_eq_some_iff.mp H
                  obtain ⟨t108, A170, H⟩ := H
                  replace H : (tenter_forecast_dried_at_tenter_high.l0 k1 a1 (wrap64 (x2_1 - t108)) y102 (y102.length : Int) (wrap64 (x16_1 + 1)) l0_0 l0_1 a0_2 a0_3 l0_4) = some r := H
                  have A17 := Aside0.mk A170
                  clear A170
                  have H' := Aside0.mk H
                  clear H
                  have p106 : 0 ≤ (x16_1 : Int) := of_decide_eq_true (by first | (with_reducible assumption) | assumption)
                  have q106 : x16_1 < (y102.length : Int) := of_decide_eq_true (by first | (with_reducible assumption) | assumption)
                  obtain ⟨ad106, e106, hx106_0, hx106_1⟩ := at_T36 HR105.out x16_1 p106 q106
                  cases e106
                  replace hx106_0 := (HB.out.cell (World.block_lt_of_cell? w _ hx106_0)).trans hx106_0
                  replace hx106_1 := (HB.out.cell (World.block_lt_of_cell? w _ hx106_1)).trans hx106_1
                  replace p106 := eq_true p106
                  replace q106 := eq_true q106
                  go_wp2_with (first | ((with_reducible refine gate_dst (N := 10) rfl ?_); refine box_event ?hg (N := 10) ?hd (cs := #[.int .i64 0, .int .i64 0]) (t := 36) ?hr ?_; (case hd => rfl); (case hg => rfl); (case hr => first | (go_simp; done) | (go_simp; rfl)); intro gb107 hg w18 hbox hb; have n0_ := Aside0.mk (blk_below (g := gb101) (o := .cells #[.slice A0_0 l0_0.length c0_0, .slice A0_1 l0_1.length c0_1, .int .i64 a0_2, .int .i64 a0_3, .slice A0_4 l0_4.length c0_4] 121 (0, 0)) (by (with_reducible repeat (first | refine blk_drewN ?_ _ | refine blk_drew ?_ | refine blk_alloc ?_ _)); exact BK101.out) hb); have n1_ := Aside0.mk (below_step (by repeat (first | (with_reducible first | exact HB.out | apply below_alloc | apply pw_below_drewN | apply below_drew1 | refine below_set ?_ GE101.out) | exact HB.out)) hb); have n2_ := Aside0.mk (hbox); have n3_ := Aside0.mk ((by rw [hg]; exact (below_size (by repeat (first | (with_reducible first | exact HB.out | apply below_alloc | apply pw_below_drewN | apply below_drew1 | refine below_set ?_ GE101.out) | exact HB.out))) : w.heap.size ≤ gb107)); have n4_ := Aside0.mk ((by rw [hg]; exact (below_size (by repeat (first | (with_reducible first | exact HB.out | apply below_alloc | apply pw_below_drewN | apply below_drew1 | refine below_set ?_ GE101.out) | exact HB.out))) : w.heap.size ≤ gb107)); have n5_ := Aside0.mk ((by rw [hg]; exact Nat.ne_of_lt (blk_lt (g := gb101) (o := .cells #[.slice A0_0 l0_0.length c0_0, .slice A0_1 l0_1.length c0_1, .int .i64 a0_2, .int .i64 a0_3, .slice A0_4 l0_4.length c0_4] 121 (0, 0)) (by (with_reducible repeat (first | refine blk_drewN ?_ _ | refine blk_drew ?_ | refine blk_alloc ?_ _)); exact BK101.out)) : gb101 ≠ gb107)); have n6_ := Aside0.mk ((by rw [hg]; exact Nat.ne_of_gt (blk_lt (g := gb101) (o := .cells #[.slice A0_0 l0_0.length c0_0, .slice A0_1 l0_1.length c0_1, .int .i64 a0_2, .int .i64 a0_3, .slice A0_4 l0_4.length c0_4] 121 (0, 0)) (by (with_reducible repeat (first | refine blk_drewN ?_ _ | refine blk_drew ?_ | refine blk_alloc ?_ _)); exact BK101.out)) : gb107 ≠ gb101)); clear BK101; clear HB; have BK101 := n0_; have HB := n1_; have BK107 := n2_; have GW107 := n3_; have GE107 := n4_; have NB101_107 := n5_; have NB107_101 := n6_; clear n0_ n1_ n2_ n3_ n4_ n5_ n6_; clear hb hbox hg; have hnb19 := NB107_101.out; have hnc19 := NB101_107.out; have hcz20_0 : w18.cell? ⟨gb107, 0, none⟩ = some (.int .i64 0) := (blk_cell BK107.out 0).trans rfl; have hcz20_1 : w18.cell? ⟨gb107, 1, none⟩ = some (.int .i64 0) := (blk_cell BK107.out 1).trans rfl; have hfz20_0 := blk_frozen BK107.out 0; have hfz20_1 := blk_frozen BK107.out 1) | (go_at_call 100; (with_reducible refine (tenter_high.calls ((rd_T36 y102 x16_1).f0) ((rd_T36 y102 x16_1).f1) t108 _ A17.out).mono ?_); rintro e w21 ⟨rfl, hb⟩; have n0_ := Aside0.mk (blk_below (g := gb101) (o := .cells #[.slice A0_0 l0_0.length c0_0, .slice A0_1 l0_1.length c0_1, .int .i64 a0_2, .int .i64 a0_3, .slice A0_4 l0_4.length c0_4] 121 (0, 0)) (by (with_reducible repeat (first | refine blk_drewN ?_ _ | refine blk_drew ?_ | refine blk_alloc ?_ _)); refine blk_far ?_ NB101_107.out _; (with_reducible repeat (first | refine blk_drewN ?_ _ | refine blk_drew ?_ | refine blk_alloc ?_ _)); refine blk_far ?_ NB101_107.out _; (with_reducible repeat (first | refine blk_drewN ?_ _ | refine blk_drew ?_ | refine blk_alloc ?_ _)); exact BK101.out) hb); have n1_ := Aside0.mk (blk_below (g := gb107) (o := .cells #[.int .i64 ((rd_T36 y102 x16_1).f0), .int .i64 ((rd_T36 y102 x16_1).f1)] 36 (0, 0)) (by (with_reducible repeat (first | refine blk_drewN ?_ _ | refine blk_drew ?_ | refine blk_alloc ?_ _)); refine blk_put (cs := #[.int .i64 ((rd_T36 y102 x16_1).f0), .int .i64 0]) ?_ 1 _ rfl; (with_reducible repeat (first | refine blk_drewN ?_ _ | refine blk_drew ?_ | refine blk_alloc ?_ _)); refine blk_put (cs := #[.int .i64 0, .int .i64 0]) ?_ 0 _ rfl; (with_reducible repeat (first | refine blk_drewN ?_ _ | refine blk_drew ?_ | refine blk_alloc ?_ _)); exact BK107.out) hb); have n2_ := Aside0.mk (below_step (by repeat (first | (with_reducible first | exact HB.out | apply below_alloc | apply pw_below_drewN | apply below_drew1 | refine below_set ?_ GE101.out | refine below_set ?_ GE107.out) | exact HB.out)) hb); clear BK101; clear BK107; clear HB; have BK101 := n0_; have BK107 := n1_; have HB := n2_; clear n0_ n1_ n2_; (try clear hb); (try clear hb2); (try clear hk); (try clear hi)))
                  go_roundg k1
                  case measure => have := HK1.out; omega
                  case rel => exact ⟨(wrap64 (x2_1 - t108)), (wrap64 (x16_1 + 1)), (by first | rfl | (simp; done) | (simp [*]; done)), (by first | rfl | (simp; done) | (simp [*]; done)), H', ⟨by have := HK1.out; omega⟩, ⟨by (with_reducible repeat (first | refine blk_drewN ?_ _ | refine blk_drew ?_ | refine blk_alloc ?_ _)); exact BK101.out⟩, ⟨by repeat (first | (with_reducible first | exact HB.out | apply below_alloc | apply pw_below_drewN | apply below_drew1 | refine below_set ?_ GE101.out | refine below_set ?_ GE107.out) | exact HB.out)⟩⟩
              · rw [if_neg c12] at H
                exact absurd H (by simp)
            · rw [if_neg c11] at H
              exact absurd H (by simp)
          · rw [if_neg c10] at H
            have c10b0 : decide (x16_1 < (y102.length : Int)) = false := decide_eq_false c10
            clear c10
            by_cases c22 : x2_1 ≤ 0
            · rw [if_pos c22] at H
              have c22b0 : decide (x2_1 ≤ 0) = true := decide_eq_true c22
              clear c22
              obtain rfl := Option.some.inj H
              have hcz23_0 : wr.cell? ⟨gb101, 0, none⟩ = some (.slice A0_0 l0_0.length c0_0) := (blk_cell BK101.out 0).trans rfl
              have hcz23_1 : wr.cell? ⟨gb101, 1, none⟩ = some (.slice A0_1 l0_1.length c0_1) := (blk_cell BK101.out 1).trans rfl
              have hcz23_2 : wr.cell? ⟨gb101, 2, none⟩ = some (.int .i64 a0_2) := (blk_cell BK101.out 2).trans rfl
              have hcz23_3 : wr.cell? ⟨gb101, 3, none⟩ = some (.int .i64 a0_3) := (blk_cell BK101.out 3).trans rfl
              have hcz23_4 : wr.cell? ⟨gb101, 4, none⟩ = some (.slice A0_4 l0_4.length c0_4) := (blk_cell BK101.out 4).trans rfl
              have hfz23_0 := blk_frozen BK101.out 0
              have hfz23_1 := blk_frozen BK101.out 1
              have hfz23_2 := blk_frozen BK101.out 2
              have hfz23_3 := blk_frozen BK101.out 3
              have hfz23_4 := blk_frozen BK101.out 4
              go_wp2
              go_ret
              exact ⟨by first | rfl | (simp [errW_none, errW_some] <;> rfl) | (simp [*, errW_none, errW_some] <;> rfl), by repeat (first | (with_reducible first | exact HB.out | apply below_alloc | apply pw_below_drewN | apply below_drew1 | refine below_set ?_ GE101.out) | exact HB.out)⟩
            · rw [if_neg c22] at H
              have c22b0 : decide (x2_1 ≤ 0) = false := decide_eq_false c22
              clear c22
              obtain rfl := Option.some.inj H
              have hcz24_0 : wr.cell? ⟨gb101, 0, none⟩ = some (.slice A0_0 l0_0.length c0_0) := (blk_cell BK101.out 0).trans rfl
              have hcz24_1 : wr.cell? ⟨gb101, 1, none⟩ = some (.slice A0_1 l0_1.length c0_1) := (blk_cell BK101.out 1).trans rfl
              have hcz24_2 : wr.cell? ⟨gb101, 2, none⟩ = some (.int .i64 a0_2) := (blk_cell BK101.out 2).trans rfl
              have hcz24_3 : wr.cell? ⟨gb101, 3, none⟩ = some (.int .i64 a0_3) := (blk_cell BK101.out 3).trans rfl
              have hcz24_4 : wr.cell? ⟨gb101, 4, none⟩ = some (.slice A0_4 l0_4.length c0_4) := (blk_cell BK101.out 4).trans rfl
              have hfz24_0 := blk_frozen BK101.out 0
              have hfz24_1 := blk_frozen BK101.out 1
              have hfz24_2 := blk_frozen BK101.out 2
              have hfz24_3 := blk_frozen BK101.out 3
              have hfz24_4 := blk_frozen BK101.out 4
              go_wp2
              go_ret
              exact ⟨by first | rfl | (simp [errW_none, errW_some] <;> rfl) | (simp [*, errW_none, errW_some] <;> rfl), by repeat (first | (with_reducible first | exact HB.out | apply below_alloc | apply pw_below_drewN | apply below_drew1 | refine below_set ?_ GE101.out) | exact HB.out)⟩
    · rw [if_neg c6] at H
      exact absurd H (by simp)
  · rw [if_neg c5] at H
    exact absurd H (by simp)
def tenter_low.f (a0_0 : Int) (a0_1 : Int) : Option (Int) := some a0_0
set_option maxHeartbeats 8000000 in
set_option maxRecDepth 100000 in
theorem tenter_low.calls (a0_0 : Int) (a0_1 : Int) (r : Int) (w : World) (h : tenter_low.f a0_0 a0_1 = some r) :
    Calls Tryz.prog 101 #[.agg #[.int .i64 a0_0, .int .i64 a0_1]] w fun e w' => e = .returned (.int .i64 r) ∧ Below w.heap.size w w' := by
  have hu36 := Tryz.underlying36
  have HB := Aside0.mk (Below.refl w.heap.size w)
  have H : (some a0_0) = some r := h
  clear h
  obtain rfl := Option.some.inj H
  go_enter Tryz.func101, Tryz.ntmps101
  go_wp2_with (first | ((with_reducible refine gate_dst (N := 1) rfl ?_); refine box_event ?hg (N := 1) ?hd (cs := #[.int .i64 a0_0, .int .i64 a0_1]) (t := 36) ?hr ?_; (case hd => rfl); (case hg => rfl); (case hr => first | (go_simp; done) | (go_simp; rfl)); intro gb101 hg w2 hbox hb; have n0_ := Aside0.mk (below_step (by repeat (first | (with_reducible first | exact HB.out | apply below_alloc | apply pw_below_drewN | apply below_drew1) | exact HB.out)) hb); have n1_ := Aside0.mk (hbox); have n2_ := Aside0.mk ((by rw [hg]; exact (below_size (by repeat (first | (with_reducible first | exact HB.out | apply below_alloc | apply pw_below_drewN | apply below_drew1) | exact HB.out))) : w.heap.size ≤ gb101)); have n3_ := Aside0.mk ((by rw [hg]; exact (below_size (by repeat (first | (with_reducible first | exact HB.out | apply below_alloc | apply pw_below_drewN | apply below_drew1) | exact HB.out))) : w.heap.size ≤ gb101)); clear HB; have HB := n0_; have BK101 := n1_; have GW101 := n2_; have GE101 := n3_; clear n0_ n1_ n2_ n3_; clear hb hbox hg; have hcz3_0 : w2.cell? ⟨gb101, 0, none⟩ = some (.int .i64 a0_0) := (blk_cell BK101.out 0).trans rfl; have hcz3_1 : w2.cell? ⟨gb101, 1, none⟩ = some (.int .i64 a0_1) := (blk_cell BK101.out 1).trans rfl; have hfz3_0 := blk_frozen BK101.out 0; have hfz3_1 := blk_frozen BK101.out 1))
  go_ret
  exact ⟨by first | rfl | (simp [errW_none, errW_some] <;> rfl) | (simp [*, errW_none, errW_some] <;> rfl), by repeat (first | (with_reducible first | exact HB.out | apply below_alloc | apply pw_below_drewN | apply below_drew1 | refine below_set ?_ GE101.out) | exact HB.out)⟩
def tenter_forecast_dried_at_tenter_low.l0 : Nat → Int → Int → List (S36) → Int → Int → List (S43) → List Int → Int → Int → List (S36) → Option (Int)
  | 0, _, _, _, _, _, _, _, _, _, _ => none
  | k + 1, x1, x2, x14, x15, x16, x102000, x102001, x102002, x102003, x102004 => if x16 < x15 then (if 0 ≤ x16 then (if x16 < (x14.length : Int) then (if x2 ≤ 0 then (some (wrap64 (x1 + x16))) else ((tenter_low.f ((rd_T36 x14 x16).f0) ((rd_T36 x14 x16).f1)).bind fun t108 => (tenter_forecast_dried_at_tenter_low.l0 k x1 (wrap64 (x2 - t108)) x14 x15 (wrap64 (x16 + 1)) x102000 x102001 x102002 x102003 x102004))) else (none)) else (none)) else (if x2 ≤ 0 then (some (x102004.length : Int)) else (some (wrap64 ((x102004.length : Int) + 1))))
def tenter_forecast_dried_at_tenter_low.f (k : Nat) (l0_0 : List (S43)) (l0_1 : List Int) (a0_2 : Int) (a0_3 : Int) (l0_4 : List (S36)) (a1 : Int) (a2 : Int)  : Option (Int) := if 0 ≤ a1 then (if a1 ≤ (l0_4.length : Int) then ((some (l0_4.drop (a1 : Int).toNat : List (S36))).bind fun y102 => (tenter_forecast_dried_at_tenter_low.l0 k a1 a2 y102 (y102.length : Int) 0 l0_0 l0_1 a0_2 a0_3 l0_4)) else (none)) else (none)
theorem tenter_forecast_dried_at_tenter_low.mono_l : ∀ k, (∀ y0 y1 y2 y3 y4 y5 y6 y7 y8 y9, LeO (tenter_forecast_dried_at_tenter_low.l0 k y0 y1 y2 y3 y4 y5 y6 y7 y8 y9) (tenter_forecast_dried_at_tenter_low.l0 (k + 1) y0 y1 y2 y3 y4 y5 y6 y7 y8 y9))
  | 0 => fun _ _ _ _ _ _ _ _ _ _ r h => by simp [tenter_forecast_dried_at_tenter_low.l0] at h
  | k + 1 => by
    have ih0 := tenter_forecast_dried_at_tenter_low.mono_l k
    · intro y0 y1 y2 y3 y4 y5 y6 y7 y8 y9
      unfold tenter_forecast_dried_at_tenter_low.l0
      repeat' first
      | (with_reducible exact ih0 _ _ _ _ _ _ _ _ _ _)
      | (with_reducible exact LeO.refl _)
      | (with_reducible exact LeO.none _)
      | (with_reducible refine LeO.ite ?_ ?_)
      | (with_reducible refine LeO.bind ?_ (fun _ => ?_))
      | exact ih0 _ _ _ _ _ _ _ _ _ _
      | exact LeO.none _
      | refine LeO.ite ?_ ?_
      | refine LeO.bind ?_ (fun _ => ?_)
theorem tenter_forecast_dried_at_tenter_low.mono : ∀ a0 a1 a2 a3 a4 a5 a6 k, LeO (tenter_forecast_dried_at_tenter_low.f k a0 a1 a2 a3 a4 a5 a6) (tenter_forecast_dried_at_tenter_low.f (k + 1) a0 a1 a2 a3 a4 a5 a6) := by
  intro a0 a1 a2 a3 a4 a5 a6 k
  have ih0 := tenter_forecast_dried_at_tenter_low.mono_l k
  unfold tenter_forecast_dried_at_tenter_low.f
  repeat' first
      | (with_reducible exact ih0 _ _ _ _ _ _ _ _ _ _)
      | (with_reducible exact LeO.refl _)
      | (with_reducible exact LeO.none _)
      | (with_reducible refine LeO.ite ?_ ?_)
      | (with_reducible refine LeO.bind ?_ (fun _ => ?_))
      | exact ih0 _ _ _ _ _ _ _ _ _ _
      | exact LeO.none _
      | refine LeO.ite ?_ ?_
      | refine LeO.bind ?_ (fun _ => ?_)
set_option maxHeartbeats 8000000 in
set_option maxRecDepth 100000 in
theorem tenter_forecast_dried_at_tenter_low.calls (k : Nat) (A0_0 : Option Addr) (c0_0 : Nat) (l0_0 : List (S43)) (A0_1 : Option Addr) (c0_1 : Nat) (l0_1 : List Int) (a0_2 : Int) (a0_3 : Int) (A0_4 : Option Addr) (c0_4 : Nat) (l0_4 : List (S36)) (a1 : Int) (a2 : Int)  (r : Int) (w : World) (hr0_0 : Kd.C k43 w A0_0 l0_0.length l0_0) (hc0_0 : l0_0.length ≤ c0_0) (hr0_1 : Kd.C (Kd.int .i64) w A0_1 l0_1.length l0_1) (hc0_1 : l0_1.length ≤ c0_1) (hr0_4 : Kd.C k36 w A0_4 l0_4.length l0_4) (hc0_4 : l0_4.length ≤ c0_4) (h : tenter_forecast_dried_at_tenter_low.f k l0_0 l0_1 a0_2 a0_3 l0_4 a1 a2 = some r) :
    Calls Tryz.prog 99 #[.agg #[.slice A0_0 l0_0.length c0_0, .slice A0_1 l0_1.length c0_1, .int .i64 a0_2, .int .i64 a0_3, .slice A0_4 l0_4.length c0_4], .int .i64 a1, .int .i64 a2, .func (.func 101) #[] #[]] w fun e w' => e = .returned (.int .i64 r) ∧ Below w.heap.size w w' := by
  have hu121 := Tryz.underlying121
  have hu36 := Tryz.underlying36
  have HR0_0 := Aside0.mk hr0_0
  have HC0_0 := Aside0.mk hc0_0
  clear hr0_0 hc0_0
  have HR0_1 := Aside0.mk hr0_1
  have HC0_1 := Aside0.mk hc0_1
  clear hr0_1 hc0_1
  have HR0_4 := Aside0.mk hr0_4
  have HC0_4 := Aside0.mk hc0_4
  clear hr0_4 hc0_4
  have HB := Aside0.mk (Below.refl w.heap.size w)
  have H : (if 0 ≤ a1 then (if a1 ≤ (l0_4.length : Int) then ((some (l0_4.drop (a1 : Int).toNat : List (S36))).bind fun y102 => (tenter_forecast_dried_at_tenter_low.l0 k a1 a2 y102 (y102.length : Int) 0 l0_0 l0_1 a0_2 a0_3 l0_4)) else (none)) else (none)) = some r := h
  clear h
  by_cases c5 : 0 ≤ a1
  · rw [if_pos c5] at H
    have c5b0 := eq_true c5
    have c5b1 : decide (0 ≤ a1) = true := decide_eq_true c5
    clear c5
    by_cases c6 : a1 ≤ (l0_4.length : Int)
    · rw [if_pos c6] at H
      have c6b0 := eq_true c6
      have c6b1 : decide (a1 ≤ (l0_4.length : Int)) = true := decide_eq_true c6
      clear c6
      obtain ⟨y102, hy102⟩ : ∃ y_ : List (S36), y_ = (l0_4.drop (a1 : Int).toNat) := ⟨_, rfl⟩
      replace H : (tenter_forecast_dried_at_tenter_low.l0 k a1 a2 y102 (y102.length : Int) 0 l0_0 l0_1 a0_2 a0_3 l0_4) = some r := by first | (rw [hy102]; with_reducible exact H) | (have H2_ := (Option.bind_some _ _).symm.trans H; rw [hy102]; with_reducible exact H2_) | (have H2_ := (Option.bind_some _ _).symm.trans H; with_reducible exact H2_) | with_reducible exact H | (rw [hy102]; exact H) | exact H
      have Ny102 := Aside0.mk hy102
      clear hy102
      have H' := Aside0.mk H
      clear H
      go_enter Tryz.func99, Tryz.ntmps99
      go_wp2_with (first | ((with_reducible refine gate_dst (N := 4) rfl ?_); refine box_event ?hg (N := 4) ?hd (cs := #[.slice A0_0 l0_0.length c0_0, .slice A0_1 l0_1.length c0_1, .int .i64 a0_2, .int .i64 a0_3, .slice A0_4 l0_4.length c0_4]) (t := 121) ?hr ?_; (case hd => rfl); (case hg => rfl); (case hr => first | (go_simp; done) | (go_simp; rfl)); intro gb101 hg w7 hbox hb; have n0_ := Aside0.mk (below_step (by repeat (first | (with_reducible first | exact HB.out | apply below_alloc | apply pw_below_drewN | apply below_drew1) | exact HB.out)) hb); have n1_ := Aside0.mk (hbox); have n2_ := Aside0.mk ((by rw [hg]; exact (below_size (by repeat (first | (with_reducible first | exact HB.out | apply below_alloc | apply pw_below_drewN | apply below_drew1) | exact HB.out))) : w.heap.size ≤ gb101)); have n3_ := Aside0.mk ((by rw [hg]; exact (below_size (by repeat (first | (with_reducible first | exact HB.out | apply below_alloc | apply pw_below_drewN | apply below_drew1) | exact HB.out))) : w.heap.size ≤ gb101)); clear HB; have HB := n0_; have BK101 := n1_; have GW101 := n2_; have GE101 := n3_; clear n0_ n1_ n2_ n3_; clear hb hbox hg; have hcz8_0 : w7.cell? ⟨gb101, 0, none⟩ = some (.slice A0_0 l0_0.length c0_0) := (blk_cell BK101.out 0).trans rfl; have hcz8_1 : w7.cell? ⟨gb101, 1, none⟩ = some (.slice A0_1 l0_1.length c0_1) := (blk_cell BK101.out 1).trans rfl; have hcz8_2 : w7.cell? ⟨gb101, 2, none⟩ = some (.int .i64 a0_2) := (blk_cell BK101.out 2).trans rfl; have hcz8_3 : w7.cell? ⟨gb101, 3, none⟩ = some (.int .i64 a0_3) := (blk_cell BK101.out 3).trans rfl; have hcz8_4 : w7.cell? ⟨gb101, 4, none⟩ = some (.slice A0_4 l0_4.length c0_4) := (blk_cell BK101.out 4).trans rfl; have hfz8_0 := blk_frozen BK101.out 0; have hfz8_1 := blk_frozen BK101.out 1; have hfz8_2 := blk_frozen BK101.out 2; have hfz8_3 := blk_frozen BK101.out 3; have hfz8_4 := blk_frozen BK101.out 4; have q9 : (a1 : Int) ≤ ((l0_4.length : Int) : Int) := of_decide_eq_true (by first | (with_reducible assumption) | assumption); obtain ⟨i09, hi09, _, hsz9, _⟩ := info_parts info36; have hroom9 : l0_4.length ≤ c0_4 := HC0_4.out; have hC9 : Kd.C k36 _ A0_4 l0_4.length l0_4 := HR0_4.out; have q09 : (0 : Int) ≤ (a1 : Int) := of_decide_eq_true (by first | (with_reducible assumption) | assumption); have hcut9 := cut_from (P := Tryz.prog) 31 36 .i64 Tryz.underlying31 hi09 2 hsz9 A0_4 l0_4.length c0_4 a1 q09 q9; have hr9 := Kd.C_drop (m := (a1 : Int).toNat) (c := c0_4) hC9 (by omega) hroom9; obtain ⟨A9, hA9⟩ : ∃ A1, A1 = (if c0_4 = (a1 : Int).toNat then A0_4 else (A0_4 : Option Addr).map (·.add ((a1 : Int).toNat * 2))) := ⟨_, rfl⟩; obtain ⟨c9, hc9⟩ : ∃ c1, c1 = c0_4 - (a1 : Int).toNat := ⟨_, rfl⟩; have hy9 : y102.length = l0_4.length - (a1 : Int).toNat := (by rw [Ny102.out, List.length_drop] <;> omega); rw [show (l0_4).drop (a1 : Int).toNat = y102 from Ny102.out.symm] at hr9; replace hr9 : Kd.C k36 _ A9 y102.length y102 := (by rw [hA9]; exact hr9); rw [← hy9, ← hA9, ← hc9] at hcut9; have HR105 := Aside0.mk hr9; have HC105 := Aside0.mk (show y102.length ≤ c9 from by rw [hy9, hc9]; exact Nat.sub_le_sub_right hroom9 _); clear hr9 hC9 hroom9 hi09 hsz9 hc9; have KY9 := Aside0.mk hy9; have KA9 := Aside0.mk hA9; clear hy9 hA9; replace q9 := eq_true q9))
      (try simp only [Act.put, List.setIfInBounds_toArray, List.set_cons_zero, List.set_cons_succ])
      go_loopg [2, 16] k (fun kq v2 v16 w' => ∃ (x2_1 : Int) (x16_1 : Int), v2 = .int .i64 x2_1 ∧ v16 = .int .i64 x16_1 ∧ Aside0 (tenter_forecast_dried_at_tenter_low.l0 kq a1 x2_1 y102 (y102.length : Int) x16_1 l0_0 l0_1 a0_2 a0_3 l0_4 = some r) ∧ Aside0 (kq ≤ k) ∧ Aside0 (w'.heap[gb101]? = some (.cells #[(.slice A0_0 l0_0.length c0_0), (.slice A0_1 l0_1.length c0_1), .int .i64 a0_2, .int .i64 a0_3, (.slice A0_4 l0_4.length c0_4)] 121 (0, 0))) ∧ Aside0 (Below w.heap.size w w'))
      case atStart => exact ⟨(a2), (0), (by first | rfl | (simp; done) | (simp [*]; done)), (by first | rfl | (simp; done) | (simp [*]; done)), H', ⟨Nat.le_refl _⟩, ⟨by (with_reducible repeat (first | refine blk_drewN ?_ _ | refine blk_drew ?_ | refine blk_alloc ?_ _)); exact BK101.out⟩, ⟨by repeat (first | (with_reducible first | exact HB.out | apply below_alloc | apply pw_below_drewN | apply below_drew1 | refine below_set ?_ GE101.out) | exact HB.out)⟩⟩
      case round =>
        clear H'
        try clear c1
        try clear p2
        try clear c5
        try clear c5b0
        try clear c5b1
        try clear c6
        try clear c6b0
        try clear c6b1
        try clear c7
        try clear c9
        try clear q9
        try clear hcz8_0
        try clear hcz8_1
        try clear hcz8_2
        try clear hcz8_3
        try clear hcz8_4
        try clear hfz8_0
        try clear hfz8_1
        try clear hfz8_2
        try clear hfz8_3
        try clear hfz8_4
        try clear q09
        try clear q9
        obtain ⟨x2_1, x16_1, rfl, rfl, HA, HK1, BK101, HB⟩ := hrel
        cases gk with
        | zero => exact absurd HA.out (by simp [tenter_forecast_dried_at_tenter_low.l0])
        | succ k1 =>
          have H := HA.out
          clear HA
          simp only [tenter_forecast_dried_at_tenter_low.l0] at H
          by_cases c10 : x16_1 < (y102.length : Int)
          · rw [if_pos c10] at H
            have c10b0 : decide (x16_1 < (y102.length : Int)) = true := decide_eq_true c10
            clear c10
            by_cases c11 : 0 ≤ x16_1
            · rw [if_pos c11] at H
              have c11b0 : decide (0 ≤ x16_1) = true := decide_eq_true c11
              clear c11
              by_cases c12 : x16_1 < (y102.length : Int)
              · rw [if_pos c12] at H
                have c12b0 : decide (x16_1 < (y102.length : Int)) = true := decide_eq_true c12
                clear c12
                by_cases c13 : x2_1 ≤ 0
                · rw [if_pos c13] at H
                  have c13b0 : decide (x2_1 ≤ 0) = true := decide_eq_true c13
                  clear c13
                  obtain rfl := Option.some.inj H
                  have p106 : 0 ≤ (x16_1 : Int) := of_decide_eq_true (by first | (with_reducible assumption) | assumption)
                  have q106 : x16_1 < (y102.length : Int) := of_decide_eq_true (by first | (with_reducible assumption) | assumption)
                  obtain ⟨ad106, e106, hx106_0, hx106_1⟩ := at_T36 HR105.out x16_1 p106 q106
                  cases e106
                  replace hx106_0 := (HB.out.cell (World.block_lt_of_cell? w _ hx106_0)).trans hx106_0
                  replace hx106_1 := (HB.out.cell (World.block_lt_of_cell? w _ hx106_1)).trans hx106_1
                  replace p106 := eq_true p106
                  replace q106 := eq_true q106
                  go_wp2_with (first | ((with_reducible refine gate_dst (N := 10) rfl ?_); refine box_event ?hg (N := 10) ?hd (cs := #[.int .i64 0, .int .i64 0]) (t := 36) ?hr ?_; (case hd => rfl); (case hg => rfl); (case hr => first | (go_simp; done) | (go_simp; rfl)); intro gb107 hg w14 hbox hb; have n0_ := Aside0.mk (blk_below (g := gb101) (o := .cells #[.slice A0_0 l0_0.length c0_0, .slice A0_1 l0_1.length c0_1, .int .i64 a0_2, .int .i64 a0_3, .slice A0_4 l0_4.length c0_4] 121 (0, 0)) (by (with_reducible repeat (first | refine blk_drewN ?_ _ | refine blk_drew ?_ | refine blk_alloc ?_ _)); exact BK101.out) hb); have n1_ := Aside0.mk (below_step (by repeat (first | (with_reducible first | exact HB.out | apply below_alloc | apply pw_below_drewN | apply below_drew1 | refine below_set ?_ GE101.out) | exact HB.out)) hb); have n2_ := Aside0.mk (hbox); have n3_ := Aside0.mk ((by rw [hg]; exact (below_size (by repeat (first | (with_reducible first | exact HB.out | apply below_alloc | apply pw_below_drewN | apply below_drew1 | refine below_set ?_ GE101.out) | exact HB.out))) : w.heap.size ≤ gb107)); have n4_ := Aside0.mk ((by rw [hg]; exact (below_size (by repeat (first | (with_reducible first | exact HB.out | apply below_alloc | apply pw_below_drewN | apply below_drew1 | refine below_set ?_ GE101.out) | exact HB.out))) : w.heap.size ≤ gb107)); have n5_ := Aside0.mk ((by rw [hg]; exact Nat.ne_of_lt (blk_lt (g := gb101) (o := .cells #[.slice A0_0 l0_0.length c0_0, .slice A0_1 l0_1.length c0_1, .int .i64 a0_2, .int .i64 a0_3, .slice A0_4 l0_4.length c0_4] 121 (0, 0)) (by (with_reducible repeat (first | refine blk_drewN ?_ _ | refine blk_drew ?_ | refine blk_alloc ?_ _)); exact BK101.out)) : gb101 ≠ gb107)); have n6_ := Aside0.mk ((by rw [hg]; exact Nat.ne_of_gt (blk_lt (g := gb101) (o := .cells #[.slice A0_0 l0_0.length c0_0, .slice A0_1 l0_1.length c0_1, .int .i64 a0_2, .int .i64 a0_3, .slice A0_4 l0_4.length c0_4] 121 (0, 0)) (by (with_reducible repeat (first | refine blk_drewN ?_ _ | refine blk_drew ?_ | refine blk_alloc ?_ _)); exact BK101.out)) : gb107 ≠ gb101)); clear BK101; clear HB; have BK101 := n0_; have HB := n1_; have BK107 := n2_; have GW107 := n3_; have GE107 := n4_; have NB101_107 := n5_; have NB107_101 := n6_; clear n0_ n1_ n2_ n3_ n4_ n5_ n6_; clear hb hbox hg; have hnb15 := NB107_101.out; have hnc15 := NB101_107.out; have hcz16_0 : w14.cell? ⟨gb107, 0, none⟩ = some (.int .i64 0) := (blk_cell BK107.out 0).trans rfl; have hcz16_1 : w14.cell? ⟨gb107, 1, none⟩ = some (.int .i64 0) := (blk_cell BK107.out 1).trans rfl; have hfz16_0 := blk_frozen BK107.out 0; have hfz16_1 := blk_frozen BK107.out 1))
                  go_ret
                  exact ⟨by first | rfl | (simp [errW_none, errW_some] <;> rfl) | (simp [*, errW_none, errW_some] <;> rfl), by repeat (first | (with_reducible first | exact HB.out | apply below_alloc | apply pw_below_drewN | apply below_drew1 | refine below_set ?_ GE101.out | refine below_set ?_ GE107.out) | exact HB.out)⟩
                · rw [if_neg c13] at H
                  have c13b0 : decide (x2_1 ≤ 0) = false := decide_eq_false c13
                  clear c13
                  replace H := Option.bind_eq_some_iff.mp H
                  obtain ⟨t108, A170, H⟩ := H
                  replace H : (tenter_forecast_dried_at_tenter_low.l0 k1 a1 (wrap64 (x2_1 - t108)) y102 (y102.length : Int) (wrap64 (x16_1 + 1)) l0_0 l0_1 a0_2 a0_3 l0_4) = some r := H
                  have A17 := Aside0.mk A170
                  clear A170
                  have H' := Aside0.mk H
                  clear H
                  have p106 : 0 ≤ (x16_1 : Int) := of_decide_eq_true (by first | (with_reducible assumption) | assumption)
                  have q106 : x16_1 < (y102.length : Int) := of_decide_eq_true (by first | (with_reducible assumption) | assumption)
                  obtain ⟨ad106, e106, hx106_0, hx106_1⟩ := at_T36 HR105.out x16_1 p106 q106
                  cases e106
                  replace hx106_0 := (HB.out.cell (World.block_lt_of_cell? w _ hx106_0)).trans hx106_0
                  replace hx106_1 := (HB.out.cell (World.block_lt_of_cell? w _ hx106_1)).trans hx106_1
                  replace p106 := eq_true p106
                  replace q106 := eq_true q106
                  go_wp2_with (first | ((with_reducible refine gate_dst (N := 10) rfl ?_); refine box_event ?hg (N := 10) ?hd (cs := #[.int .i64 0, .int .i64 0]) (t := 36) ?hr ?_; (case hd => rfl); (case hg => rfl); (case hr => first | (go_simp; done) | (go_simp; rfl)); intro gb107 hg w18 hbox hb; have n0_ := Aside0.mk (blk_below (g := gb101) (o := .cells #[.slice A0_0 l0_0.length c0_0, .slice A0_1 l0_1.length c0_1, .int .i64 a0_2, .int .i64 a0_3, .slice A0_4 l0_4.length c0_4] 121 (0, 0)) (by (with_reducible repeat (first | refine blk_drewN ?_ _ | refine blk_drew ?_ | refine blk_alloc ?_ _)); exact BK101.out) hb); have n1_ := Aside0.mk (below_step (by repeat (first | (with_reducible first | exact HB.out | apply below_alloc | apply pw_below_drewN | apply below_drew1 | refine below_set ?_ GE101.out) | exact HB.out)) hb); have n2_ := Aside0.mk (hbox); have n3_ := Aside0.mk ((by rw [hg]; exact (below_size (by repeat (first | (with_reducible first | exact HB.out | apply below_alloc | apply pw_below_drewN | apply below_drew1 | refine below_set ?_ GE101.out) | exact HB.out))) : w.heap.size ≤ gb107)); have n4_ := Aside0.mk ((by rw [hg]; exact (below_size (by repeat (first | (with_reducible first | exact HB.out | apply below_alloc | apply pw_below_drewN | apply below_drew1 | refine below_set ?_ GE101.out) | exact HB.out))) : w.heap.size ≤ gb107)); have n5_ := Aside0.mk ((by rw [hg]; exact Nat.ne_of_lt (blk_lt (g := gb101) (o := .cells #[.slice A0_0 l0_0.length c0_0, .slice A0_1 l0_1.length c0_1, .int .i64 a0_2, .int .i64 a0_3, .slice A0_4 l0_4.length c0_4] 121 (0, 0)) (by (with_reducible repeat (first | refine blk_drewN ?_ _ | refine blk_drew ?_ | refine blk_alloc ?_ _)); exact BK101.out)) : gb101 ≠ gb107)); have n6_ := Aside0.mk ((by rw [hg]; exact Nat.ne_of_gt (blk_lt (g := gb101) (o := .cells #[.slice A0_0 l0_0.length c0_0, .slice A0_1 l0_1.length c0_1, .int .i64 a0_2, .int .i64 a0_3, .slice A0_4 l0_4.length c0_4] 121 (0, 0)) (by (with_reducible repeat (first | refine blk_drewN ?_ _ | refine blk_drew ?_ | refine blk_alloc ?_ _)); exact BK101.out)) : gb107 ≠ gb101)); clear BK101; clear HB; have BK101 := n0_; have HB := n1_; have BK107 := n2_; have GW107 := n3_; have GE107 := n4_; have NB101_107 := n5_; have NB107_101 := n6_; clear n0_ n1_ n2_ n3_ n4_ n5_ n6_; clear hb hbox hg; have hnb19 := NB107_101.out; have hnc19 := NB101_107.out; have hcz20_0 : w18.cell? ⟨gb107, 0, none⟩ = some (.int .i64 0) := (blk_cell BK107.out 0).trans rfl; have hcz20_1 : w18.cell? ⟨gb107, 1, none⟩ = some (.int .i64 0) := (blk_cell BK107.out 1).trans rfl; have hfz20_0 := blk_frozen BK107.out 0; have hfz20_1 := blk_frozen BK107.out 1) | (go_at_call 101; (with_reducible refine (tenter_low.calls ((rd_T36 y102 x16_1).f0) ((rd_T36 y102 x16_1).f1) t108 _ A17.out).mono ?_); rintro e w21 ⟨rfl, hb⟩; have n0_ := Aside0.mk (blk_below (g := gb101) (o := .cells #[.slice A0_0 l0_0.length c0_0, .slice A0_1 l0_1.length c0_1, .int .i64 a0_2, .int .i64 a0_3, .slice A0_4 l0_4.length c0_4] 121 (0, 0)) (by (with_reducible repeat (first | refine blk_drewN ?_ _ | refine blk_drew ?_ | refine blk_alloc ?_ _)); refine blk_far ?_ NB101_107.out _; (with_reducible repeat (first | refine blk_drewN ?_ _ | refine blk_drew ?_ | refine blk_alloc ?_ _)); refine blk_far ?_ NB101_107.out _; (with_reducible repeat (first | refine blk_drewN ?_ _ | refine blk_drew ?_ | refine blk_alloc ?_ _)); exact BK101.out) hb); have n1_ := Aside0.mk (blk_below (g := gb107) (o := .cells #[.int .i64 ((rd_T36 y102 x16_1).f0), .int .i64 ((rd_T36 y102 x16_1).f1)] 36 (0, 0)) (by (with_reducible repeat (first | refine blk_drewN ?_ _ | refine blk_drew ?_ | refine blk_alloc ?_ _)); refine blk_put (cs := #[.int .i64 ((rd_T36 y102 x16_1).f0), .int .i64 0]) ?_ 1 _ rfl; (with_reducible repeat (first | refine blk_drewN ?_ _ | refine blk_drew ?_ | refine blk_alloc ?_ _)); refine blk_put (cs := #[.int .i64 0, .int .i64 0]) ?_ 0 _ rfl; (with_reducible repeat (first | refine blk_drewN ?_ _ | refine blk_drew ?_ | refine blk_alloc ?_ _)); exact BK107.out) hb); have n2_ := Aside0.mk (below_step (by repeat (first | (with_reducible first | exact HB.out | apply below_alloc | apply pw_below_drewN | apply below_drew1 | refine below_set ?_ GE101.out | refine below_set ?_ GE107.out) | exact HB.out)) hb); clear BK101; clear BK107; clear HB; have BK101 := n0_; have BK107 := n1_; have HB := n2_; clear n0_ n1_ n2_; (try clear hb); (try clear hb2); (try clear hk); (try clear hi)))
                  go_roundg k1
                  case measure => have := HK1.out; omega
                  case rel => exact ⟨(wrap64 (x2_1 - t108)), (wrap64 (x16_1 + 1)), (by first | rfl | (simp; done) | (simp [*]; done)), (by first | rfl | (simp; done) | (simp [*]; done)), H', ⟨by have := HK1.out; omega⟩, ⟨by (with_reducible repeat (first | refine blk_drewN ?_ _ | refine blk_drew ?_ | refine blk_alloc ?_ _)); exact BK101.out⟩, ⟨by repeat (first | (with_reducible first | exact HB.out | apply below_alloc | apply pw_below_drewN | apply below_drew1 | refine below_set ?_ GE101.out | refine below_set ?_ GE107.out) | exact HB.out)⟩⟩
              · rw [if_neg c12] at H
                exact absurd H (by simp)
            · rw [if_neg c11] at H
              exact absurd H (by simp)
          · rw [if_neg c10] at H
            have c10b0 : decide (x16_1 < (y102.length : Int)) = false := decide_eq_false c10
            clear c10
            by_cases c22 : x2_1 ≤ 0
            · rw [if_pos c22] at H
              have c22b0 : decide (x2_1 ≤ 0) = true := decide_eq_true c22
              clear c22
              obtain rfl := Option.some.inj H
              have hcz23_0 : wr.cell? ⟨gb101, 0, none⟩ = some (.slice A0_0 l0_0.length c0_0) := (blk_cell BK101.out 0).trans rfl
              have hcz23_1 : wr.cell? ⟨gb101, 1, none⟩ = some (.slice A0_1 l0_1.length c0_1) := (blk_cell BK101.out 1).trans rfl
              have hcz23_2 : wr.cell? ⟨gb101, 2, none⟩ = some (.int .i64 a0_2) := (blk_cell BK101.out 2).trans rfl
              have hcz23_3 : wr.cell? ⟨gb101, 3, none⟩ = some (.int .i64 a0_3) := (blk_cell BK101.out 3).trans rfl
              have hcz23_4 : wr.cell? ⟨gb101, 4, none⟩ = some (.slice A0_4 l0_4.length c0_4) := (blk_cell BK101.out 4).trans rfl
              have hfz23_0 := blk_frozen BK101.out 0
              have hfz23_1 := blk_frozen BK101.out 1
              have hfz23_2 := blk_frozen BK101.out 2
              have hfz23_3 := blk_frozen BK101.out 3
              have hfz23_4 := blk_frozen BK101.out 4
              go_wp2
              go_ret
              exact ⟨by first | rfl | (simp [errW_none, errW_some] <;> rfl) | (simp [*, errW_none, errW_some] <;> rfl), by repeat (first | (with_reducible first | exact HB.out | apply below_alloc | apply pw_below_drewN | apply below_drew1 | refine below_set ?_ GE101.out) | exact HB.out)⟩
            · rw [if_neg c22] at H
              have c22b0 : decide (x2_1 ≤ 0) = false := decide_eq_false c22
              clear c22
              obtain rfl := Option.some.inj H
              have hcz24_0 : wr.cell? ⟨gb101, 0, none⟩ = some (.slice A0_0 l0_0.length c0_0) := (blk_cell BK101.out 0).trans rfl
              have hcz24_1 : wr.cell? ⟨gb101, 1, none⟩ = some (.slice A0_1 l0_1.length c0_1) := (blk_cell BK101.out 1).trans rfl
              have hcz24_2 : wr.cell? ⟨gb101, 2, none⟩ = some (.int .i64 a0_2) := (blk_cell BK101.out 2).trans rfl
              have hcz24_3 : wr.cell? ⟨gb101, 3, none⟩ = some (.int .i64 a0_3) := (blk_cell BK101.out 3).trans rfl
              have hcz24_4 : wr.cell? ⟨gb101, 4, none⟩ = some (.slice A0_4 l0_4.length c0_4) := (blk_cell BK101.out 4).trans rfl
              have hfz24_0 := blk_frozen BK101.out 0
              have hfz24_1 := blk_frozen BK101.out 1
              have hfz24_2 := blk_frozen BK101.out 2
              have hfz24_3 := blk_frozen BK101.out 3
              have hfz24_4 := blk_frozen BK101.out 4
              go_wp2
              go_ret
              exact ⟨by first | rfl | (simp [errW_none, errW_some] <;> rfl) | (simp [*, errW_none, errW_some] <;> rfl), by repeat (first | (with_reducible first | exact HB.out | apply below_alloc | apply pw_below_drewN | apply below_drew1 | refine below_set ?_ GE101.out) | exact HB.out)⟩
    · rw [if_neg c6] at H
      exact absurd H (by simp)
  · rw [if_neg c5] at H
    exact absurd H (by simp)
def tenter_forecast_dry.f (k : Nat) (l0_0 : List (S43)) (l0_1 : List Int) (a0_2 : Int) (a0_3 : Int) (l0_4 : List (S36)) (a1 : Int) (a2 : Int) : Option (Int × Int) := if 0 ≤ a1 then (if a1 < (l0_0.length : Int) then ((tenter_forecast_dried_at_tenter_high.f k l0_0 l0_1 a0_2 a0_3 l0_4 a2 ((rd_T43 l0_0 a1).f1.f0)).bind fun t105 => ((tenter_forecast_dried_at_tenter_low.f k l0_0 l0_1 a0_2 a0_3 l0_4 a2 ((rd_T43 l0_0 a1).f1.f1)).bind fun t106 => (some (t105, t106)))) else (none)) else (none)
theorem tenter_forecast_dry.mono : ∀ a0 a1 a2 a3 a4 a5 a6 k, LeO (tenter_forecast_dry.f k a0 a1 a2 a3 a4 a5 a6) (tenter_forecast_dry.f (k + 1) a0 a1 a2 a3 a4 a5 a6) := by
  intro a0 a1 a2 a3 a4 a5 a6 k
  unfold tenter_forecast_dry.f
  repeat' first
      | (with_reducible exact tenter_forecast_dried_at_tenter_high.mono _ _ _ _ _ _ _ _)
      | (with_reducible exact tenter_forecast_dried_at_tenter_low.mono _ _ _ _ _ _ _ _)
      | (with_reducible exact LeO.refl _)
      | (with_reducible exact LeO.none _)
      | (with_reducible refine LeO.ite ?_ ?_)
      | (with_reducible refine LeO.bind ?_ (fun _ => ?_))
      | exact tenter_forecast_dried_at_tenter_high.mono _ _ _ _ _ _ _ _
      | exact tenter_forecast_dried_at_tenter_low.mono _ _ _ _ _ _ _ _
      | exact LeO.none _
      | refine LeO.ite ?_ ?_
      | refine LeO.bind ?_ (fun _ => ?_)
def tenter_forecast_dry.T2 : Bool × List (List Nat × List Nat) := (true, [([], []), ([], []), ([], []), ([2], [2]), ([0, 1, 3], [0, 1, 3]), ([], []), ([], []), ([], []), ([7], [7]), ([5, 6, 8, 4], [5, 6, 8]), ([4, 9], [4, 9]), ([10, 9, 0, 1, 2, 3, 4, 5, 6, 7, 8, 9, 10], [10])])
def tenter_forecast_dry.B2 : List Nat := [0, 0, 0, 4, 15, 0, 0, 0, 128, 511, 1023, 2047]
theorem tenter_forecast_dry.tab2 : rtab .any (opsOf Tryz.f79 2) = tenter_forecast_dry.T2 := by kernel_rfl
theorem tenter_forecast_dry.bits2 : waitsOk tenter_forecast_dry.T2.2 tenter_forecast_dry.B2 = true := by kernel_rfl
set_option maxHeartbeats 8000000 in
set_option maxRecDepth 100000 in
theorem tenter_forecast_dry.calls (k : Nat) (A0_0 : Option Addr) (c0_0 : Nat) (l0_0 : List (S43)) (A0_1 : Option Addr) (c0_1 : Nat) (l0_1 : List Int) (a0_2 : Int) (a0_3 : Int) (A0_4 : Option Addr) (c0_4 : Nat) (l0_4 : List (S36)) (a1 : Int) (a2 : Int) (r1 : Int) (r2 : Int) (w : World) (hr0_0 : Kd.C k43 w A0_0 l0_0.length l0_0) (hc0_0 : l0_0.length ≤ c0_0) (hr0_1 : Kd.C (Kd.int .i64) w A0_1 l0_1.length l0_1) (hc0_1 : l0_1.length ≤ c0_1) (hr0_4 : Kd.C k36 w A0_4 l0_4.length l0_4) (hc0_4 : l0_4.length ≤ c0_4) (h : tenter_forecast_dry.f k l0_0 l0_1 a0_2 a0_3 l0_4 a1 a2 = some (r1, r2)) :
    Calls Tryz.prog 79 #[.agg #[.slice A0_0 l0_0.length c0_0, .slice A0_1 l0_1.length c0_1, .int .i64 a0_2, .int .i64 a0_3, .slice A0_4 l0_4.length c0_4], .int .i64 a1, .int .i64 a2] w fun e w' => e = .returned (.agg #[.int .i64 r1, .int .i64 r2]) ∧ Below w.heap.size w w' := by
  have hu121 := Tryz.underlying121
  have hu36 := Tryz.underlying36
  have HR0_0 := Aside0.mk hr0_0
  have HC0_0 := Aside0.mk hc0_0
  clear hr0_0 hc0_0
  have HR0_1 := Aside0.mk hr0_1
  have HC0_1 := Aside0.mk hc0_1
  clear hr0_1 hc0_1
  have HR0_4 := Aside0.mk hr0_4
  have HC0_4 := Aside0.mk hc0_4
  clear hr0_4 hc0_4
  have HB := Aside0.mk (Below.refl w.heap.size w)
  have H : (if 0 ≤ a1 then (if a1 < (l0_0.length : Int) then ((tenter_forecast_dried_at_tenter_high.f k l0_0 l0_1 a0_2 a0_3 l0_4 a2 ((rd_T43 l0_0 a1).f1.f0)).bind fun t105 => ((tenter_forecast_dried_at_tenter_low.f k l0_0 l0_1 a0_2 a0_3 l0_4 a2 ((rd_T43 l0_0 a1).f1.f1)).bind fun t106 => (some (t105, t106)))) else (none)) else (none)) = some (r1, r2) := h
  clear h
  by_cases c4 : 0 ≤ a1
  · rw [if_pos c4] at H
    have c4b0 : decide (0 ≤ a1) = true := decide_eq_true c4
    clear c4
    by_cases c5 : a1 < (l0_0.length : Int)
    · rw [if_pos c5] at H
      have c5b0 : decide (a1 < (l0_0.length : Int)) = true := decide_eq_true c5
      clear c5
      replace H := Option.bind_eq_some_iff.mp H
      obtain ⟨t105, A60, H⟩ := H
      replace H : ((tenter_forecast_dried_at_tenter_low.f k l0_0 l0_1 a0_2 a0_3 l0_4 a2 ((rd_T43 l0_0 a1).f1.f1)).bind fun t106 => (some (t105, t106))) = some (r1, r2) := H
      have A6 := Aside0.mk A60
      clear A60
      replace H := Option.bind_eq_some_iff.mp H
      obtain ⟨t106, A70, H⟩ := H
      replace H : (some (t105, t106)) = some (r1, r2) := H
      have A7 := Aside0.mk A70
      clear A70
      simp only [Option.some.injEq, Prod.mk.injEq] at H
      obtain ⟨rfl, rfl⟩ := H
      go_enter Tryz.func79, Tryz.ntmps79
      try go_wp2_with (first | ((with_reducible refine gate_dst (N := 3) rfl ?_); refine box_event ?hg (N := 3) ?hd (cs := #[.slice A0_0 l0_0.length c0_0, .slice A0_1 l0_1.length c0_1, .int .i64 a0_2, .int .i64 a0_3, .slice A0_4 l0_4.length c0_4]) (t := 121) ?hr ?_; (case hd => rfl); (case hg => rfl); (case hr => first | (go_simp; done) | (go_simp; rfl)); intro gb101 hg w8 hbox hb; have n0_ := Aside0.mk (below_step (by repeat (first | (with_reducible first | exact HB.out | apply below_alloc | apply pw_below_drewN | apply below_drew1) | exact HB.out)) hb); have n1_ := Aside0.mk (hbox); have n2_ := Aside0.mk ((by rw [hg]; exact (below_size (by repeat (first | (with_reducible first | exact HB.out | apply below_alloc | apply pw_below_drewN | apply below_drew1) | exact HB.out))) : w.heap.size ≤ gb101)); have n3_ := Aside0.mk ((by rw [hg]; exact (below_size (by repeat (first | (with_reducible first | exact HB.out | apply below_alloc | apply pw_below_drewN | apply below_drew1) | exact HB.out))) : w.heap.size ≤ gb101)); clear HB; have HB := n0_; have BK101 := n1_; have GW101 := n2_; have GE101 := n3_; clear n0_ n1_ n2_ n3_; clear hb hbox hg) | ((with_reducible refine gate_dst (N := 6) rfl ?_); refine box_event ?hg (N := 6) ?hd (cs := #[.int .i64 0, .int .i64 0]) (t := 36) ?hr ?_; (case hd => rfl); (case hg => rfl); (case hr => first | (go_simp; done) | (go_simp; rfl)); intro gb102 hg w9 hbox hb; have n0_ := Aside0.mk (blk_below (g := gb101) (o := .cells #[.slice A0_0 l0_0.length c0_0, .slice A0_1 l0_1.length c0_1, .int .i64 a0_2, .int .i64 a0_3, .slice A0_4 l0_4.length c0_4] 121 (0, 0)) (by (with_reducible repeat (first | refine blk_drewN ?_ _ | refine blk_drew ?_ | refine blk_alloc ?_ _)); exact BK101.out) hb); have n1_ := Aside0.mk (below_step (by repeat (first | (with_reducible first | exact HB.out | apply below_alloc | apply pw_below_drewN | apply below_drew1 | refine below_set ?_ GE101.out) | exact HB.out)) hb); have n2_ := Aside0.mk (hbox); have n3_ := Aside0.mk ((by rw [hg]; exact (below_size (by repeat (first | (with_reducible first | exact HB.out | apply below_alloc | apply pw_below_drewN | apply below_drew1 | refine below_set ?_ GE101.out) | exact HB.out))) : w.heap.size ≤ gb102)); have n4_ := Aside0.mk ((by rw [hg]; exact (below_size (by repeat (first | (with_reducible first | exact HB.out | apply below_alloc | apply pw_below_drewN | apply below_drew1 | refine below_set ?_ GE101.out) | exact HB.out))) : w.heap.size ≤ gb102)); have n5_ := Aside0.mk ((by rw [hg]; exact Nat.ne_of_lt (blk_lt (g := gb101) (o := .cells #[.slice A0_0 l0_0.length c0_0, .slice A0_1 l0_1.length c0_1, .int .i64 a0_2, .int .i64 a0_3, .slice A0_4 l0_4.length c0_4] 121 (0, 0)) (by (with_reducible repeat (first | refine blk_drewN ?_ _ | refine blk_drew ?_ | refine blk_alloc ?_ _)); exact BK101.out)) : gb101 ≠ gb102)); have n6_ := Aside0.mk ((by rw [hg]; exact Nat.ne_of_gt (blk_lt (g := gb101) (o := .cells #[.slice A0_0 l0_0.length c0_0, .slice A0_1 l0_1.length c0_1, .int .i64 a0_2, .int .i64 a0_3, .slice A0_4 l0_4.length c0_4] 121 (0, 0)) (by (with_reducible repeat (first | refine blk_drewN ?_ _ | refine blk_drew ?_ | refine blk_alloc ?_ _)); exact BK101.out)) : gb102 ≠ gb101)); clear BK101; clear HB; have BK101 := n0_; have HB := n1_; have BK102 := n2_; have GW102 := n3_; have GE102 := n4_; have NB101_102 := n5_; have NB102_101 := n6_; clear n0_ n1_ n2_ n3_ n4_ n5_ n6_; clear hb hbox hg; have hnb10 := NB101_102.out; have hnc10 := NB102_101.out; have hcz11_0 : w9.cell? ⟨gb101, 0, none⟩ = some (.slice A0_0 l0_0.length c0_0) := (blk_cell BK101.out 0).trans rfl; have hcz11_1 : w9.cell? ⟨gb101, 1, none⟩ = some (.slice A0_1 l0_1.length c0_1) := (blk_cell BK101.out 1).trans rfl; have hcz11_2 : w9.cell? ⟨gb101, 2, none⟩ = some (.int .i64 a0_2) := (blk_cell BK101.out 2).trans rfl; have hcz11_3 : w9.cell? ⟨gb101, 3, none⟩ = some (.int .i64 a0_3) := (blk_cell BK101.out 3).trans rfl; have hcz11_4 : w9.cell? ⟨gb101, 4, none⟩ = some (.slice A0_4 l0_4.length c0_4) := (blk_cell BK101.out 4).trans rfl; have hfz11_0 := blk_frozen BK101.out 0; have hfz11_1 := blk_frozen BK101.out 1; have hfz11_2 := blk_frozen BK101.out 2; have hfz11_3 := blk_frozen BK101.out 3; have hfz11_4 := blk_frozen BK101.out 4; have p103 : 0 ≤ (a1 : Int) := of_decide_eq_true (by first | (with_reducible assumption) | assumption); have q103 : a1 < (l0_0.length : Int) := of_decide_eq_true (by first | (with_reducible assumption) | assumption); obtain ⟨ad103, e103, hx103_0, hx103_1, hx103_2, hx103_3⟩ := at_T43 HR0_0.out a1 p103 q103; cases e103; replace hx103_0 := (HB.out.cell (World.block_lt_of_cell? w _ hx103_0)).trans hx103_0; replace hx103_1 := (HB.out.cell (World.block_lt_of_cell? w _ hx103_1)).trans hx103_1; replace hx103_2 := (HB.out.cell (World.block_lt_of_cell? w _ hx103_2)).trans hx103_2; replace hx103_3 := (HB.out.cell (World.block_lt_of_cell? w _ hx103_3)).trans hx103_3; replace p103 := eq_true p103; replace q103 := eq_true q103) | ((with_reducible refine gate_dst (N := 7) rfl ?_); refine box_event ?hg (N := 7) ?hd (cs := #[.int .i64 0, .int .i64 0]) (t := 36) ?hr ?_; (case hd => rfl); (case hg => rfl); (case hr => first | (go_simp; done) | (go_simp; rfl)); intro gb104 hg w12 hbox hb; have n0_ := Aside0.mk (blk_below (g := gb101) (o := .cells #[.slice (some ad103) l0_0.length c0_0, .slice A0_1 l0_1.length c0_1, .int .i64 a0_2, .int .i64 a0_3, .slice A0_4 l0_4.length c0_4] 121 (0, 0)) (by (with_reducible repeat (first | refine blk_drewN ?_ _ | refine blk_drew ?_ | refine blk_alloc ?_ _)); exact BK101.out) hb); have n1_ := Aside0.mk (blk_below (g := gb102) (o := .cells #[.int .i64 0, .int .i64 0] 36 (0, 0)) (by (with_reducible repeat (first | refine blk_drewN ?_ _ | refine blk_drew ?_ | refine blk_alloc ?_ _)); exact BK102.out) hb); have n2_ := Aside0.mk (below_step (by repeat (first | (with_reducible first | exact HB.out | apply below_alloc | apply pw_below_drewN | apply below_drew1 | refine below_set ?_ GE101.out | refine below_set ?_ GE102.out) | exact HB.out)) hb); have n3_ := Aside0.mk (hbox); have n4_ := Aside0.mk ((by rw [hg]; exact (below_size (by repeat (first | (with_reducible first | exact HB.out | apply below_alloc | apply pw_below_drewN | apply below_drew1 | refine below_set ?_ GE101.out | refine below_set ?_ GE102.out) | exact HB.out))) : w.heap.size ≤ gb104)); have n5_ := Aside0.mk ((by rw [hg]; exact (below_size (by repeat (first | (with_reducible first | exact HB.out | apply below_alloc | apply pw_below_drewN | apply below_drew1 | refine below_set ?_ GE101.out | refine below_set ?_ GE102.out) | exact HB.out))) : w.heap.size ≤ gb104)); have n6_ := Aside0.mk ((by rw [hg]; exact Nat.ne_of_lt (blk_lt (g := gb101) (o := .cells #[.slice (some ad103) l0_0.length c0_0, .slice A0_1 l0_1.length c0_1, .int .i64 a0_2, .int .i64 a0_3, .slice A0_4 l0_4.length c0_4] 121 (0, 0)) (by (with_reducible repeat (first | refine blk_drewN ?_ _ | refine blk_drew ?_ | refine blk_alloc ?_ _)); exact BK101.out)) : gb101 ≠ gb104)); have n7_ := Aside0.mk ((by rw [hg]; exact Nat.ne_of_gt (blk_lt (g := gb101) (o := .cells #[.slice (some ad103) l0_0.length c0_0, .slice A0_1 l0_1.length c0_1, .int .i64 a0_2, .int .i64 a0_3, .slice A0_4 l0_4.length c0_4] 121 (0, 0)) (by (with_reducible repeat (first | refine blk_drewN ?_ _ | refine blk_drew ?_ | refine blk_alloc ?_ _)); exact BK101.out)) : gb104 ≠ gb101)); have n8_ := Aside0.mk ((by rw [hg]; exact Nat.ne_of_lt (blk_lt (g := gb102) (o := .cells #[.int .i64 0, .int .i64 0] 36 (0, 0)) (by (with_reducible repeat (first | refine blk_drewN ?_ _ | refine blk_drew ?_ | refine blk_alloc ?_ _)); exact BK102.out)) : gb102 ≠ gb104)); have n9_ := Aside0.mk ((by rw [hg]; exact Nat.ne_of_gt (blk_lt (g := gb102) (o := .cells #[.int .i64 0, .int .i64 0] 36 (0, 0)) (by (with_reducible repeat (first | refine blk_drewN ?_ _ | refine blk_drew ?_ | refine blk_alloc ?_ _)); exact BK102.out)) : gb104 ≠ gb102)); clear BK101; clear BK102; clear HB; have BK101 := n0_; have BK102 := n1_; have HB := n2_; have BK104 := n3_; have GW104 := n4_; have GE104 := n5_; have NB101_104 := n6_; have NB104_101 := n7_; have NB102_104 := n8_; have NB104_102 := n9_; clear n0_ n1_ n2_ n3_ n4_ n5_ n6_ n7_ n8_ n9_; clear hb hbox hg; have hnb13 := NB104_101.out; have hnc13 := NB101_104.out; have hnb14 := NB104_102.out; have hnc14 := NB102_104.out; have hcz15_0 : w12.cell? ⟨gb104, 0, none⟩ = some (.int .i64 0) := (blk_cell BK104.out 0).trans rfl; have hcz15_1 : w12.cell? ⟨gb104, 1, none⟩ = some (.int .i64 0) := (blk_cell BK104.out 1).trans rfl; have hfz15_0 := blk_frozen BK104.out 0; have hfz15_1 := blk_frozen BK104.out 1))
      have n0_ : Aside0 (((w12.setCell ⟨gb104, 0, none⟩ (.int .i64 ((rd_T43 l0_0 a1).f1.f0))).setCell ⟨gb104, 1, none⟩ (.int .i64 ((rd_T43 l0_0 a1).f1.f1))).heap[gb101]? = some (.cells #[.slice (some ad103) l0_0.length c0_0, .slice A0_1 l0_1.length c0_1, .int .i64 a0_2, .int .i64 a0_3, .slice A0_4 l0_4.length c0_4] 121 (0, 0))) := ⟨by (with_reducible repeat (first | refine blk_drewN ?_ _ | refine blk_drew ?_ | refine blk_alloc ?_ _)); refine blk_far ?_ NB101_104.out _; (with_reducible repeat (first | refine blk_drewN ?_ _ | refine blk_drew ?_ | refine blk_alloc ?_ _)); refine blk_far ?_ NB101_104.out _; (with_reducible repeat (first | refine blk_drewN ?_ _ | refine blk_drew ?_ | refine blk_alloc ?_ _)); exact BK101.out⟩
      have n1_ : Aside0 (((w12.setCell ⟨gb104, 0, none⟩ (.int .i64 ((rd_T43 l0_0 a1).f1.f0))).setCell ⟨gb104, 1, none⟩ (.int .i64 ((rd_T43 l0_0 a1).f1.f1))).heap[gb102]? = some (.cells #[.int .i64 0, .int .i64 0] 36 (0, 0))) := ⟨by (with_reducible repeat (first | refine blk_drewN ?_ _ | refine blk_drew ?_ | refine blk_alloc ?_ _)); refine blk_far ?_ NB102_104.out _; (with_reducible repeat (first | refine blk_drewN ?_ _ | refine blk_drew ?_ | refine blk_alloc ?_ _)); refine blk_far ?_ NB102_104.out _; (with_reducible repeat (first | refine blk_drewN ?_ _ | refine blk_drew ?_ | refine blk_alloc ?_ _)); exact BK102.out⟩
      have n2_ : Aside0 (((w12.setCell ⟨gb104, 0, none⟩ (.int .i64 ((rd_T43 l0_0 a1).f1.f0))).setCell ⟨gb104, 1, none⟩ (.int .i64 ((rd_T43 l0_0 a1).f1.f1))).heap[gb104]? = some (.cells #[.int .i64 ((rd_T43 l0_0 a1).f1.f0), .int .i64 ((rd_T43 l0_0 a1).f1.f1)] 36 (0, 0))) := ⟨by (with_reducible repeat (first | refine blk_drewN ?_ _ | refine blk_drew ?_ | refine blk_alloc ?_ _)); refine blk_put (cs := #[.int .i64 ((rd_T43 l0_0 a1).f1.f0), .int .i64 0]) ?_ 1 _ rfl; (with_reducible repeat (first | refine blk_drewN ?_ _ | refine blk_drew ?_ | refine blk_alloc ?_ _)); refine blk_put (cs := #[.int .i64 0, .int .i64 0]) ?_ 0 _ rfl; (with_reducible repeat (first | refine blk_drewN ?_ _ | refine blk_drew ?_ | refine blk_alloc ?_ _)); exact BK104.out⟩
      have n3_ : Aside0 (Below w.heap.size w ((w12.setCell ⟨gb104, 0, none⟩ (.int .i64 ((rd_T43 l0_0 a1).f1.f0))).setCell ⟨gb104, 1, none⟩ (.int .i64 ((rd_T43 l0_0 a1).f1.f1)))) := ⟨by repeat (first | (with_reducible first | exact HB.out | apply below_alloc | apply pw_below_drewN | apply below_drew1 | refine below_set ?_ GE101.out | refine below_set ?_ GE102.out | refine below_set ?_ GE104.out) | exact HB.out)⟩
      (try clear BK101)
      (try clear BK102)
      (try clear BK104)
      (try clear HB)
      generalize ((w12.setCell ⟨gb104, 0, none⟩ (.int .i64 ((rd_T43 l0_0 a1).f1.f0))).setCell ⟨gb104, 1, none⟩ (.int .i64 ((rd_T43 l0_0 a1).f1.f1))) = w16 at n0_ n1_ n2_ n3_ ⊢
      have BK101 := n0_
      have BK102 := n1_
      have BK104 := n2_
      have HB := n3_
      clear n0_ n1_ n2_ n3_
      have n0_ := Aside0.mk (blk_drew BK101.out)
      have n1_ := Aside0.mk (blk_drew BK102.out)
      have n2_ := Aside0.mk (blk_drew BK104.out)
      have n3_ := Aside0.mk (below_drew1 HB.out)
      clear BK101
      clear BK102
      clear BK104
      clear HB
      have BK101 := n0_
      have BK102 := n1_
      have BK104 := n2_
      have HB := n3_
      clear n0_ n1_ n2_ n3_
      refine start_ (n := 12) (S := fun w' => w'.cell? ⟨gb101, 0, none⟩ = some (.slice (some ad103) l0_0.length c0_0) ∧ w'.cell? ⟨gb101, 1, none⟩ = some (.slice A0_1 l0_1.length c0_1) ∧ w'.cell? ⟨gb101, 2, none⟩ = some (.int .i64 a0_2) ∧ w'.cell? ⟨gb101, 3, none⟩ = some (.int .i64 a0_3) ∧ w'.cell? ⟨gb101, 4, none⟩ = some (.slice A0_4 l0_4.length c0_4) ∧ w'.cell? ⟨gb104, 0, none⟩ = some (.int .i64 ((rd_T43 l0_0 a1).f1.f0)) ∧ w'.cell? ⟨gb104, 1, none⟩ = some (.int .i64 ((rd_T43 l0_0 a1).f1.f1))) (ds := []) #[false, false, false, false, false, false, false, false, false, false, false, false] (by kernel_rfl) rfl rfl ⟨(blk_cell BK101.out 0).trans rfl, (blk_cell BK101.out 1).trans rfl, (blk_cell BK101.out 2).trans rfl, (blk_cell BK101.out 3).trans rfl, (blk_cell BK101.out 4).trans rfl, (blk_cell BK104.out 0).trans rfl, (blk_cell BK104.out 1).trans rfl⟩ (fun hHeld => ?_); refine with_tabW tenter_forecast_dry.tab2 tenter_forecast_dry.bits2 (fun HT_ HW_ => ?_)
      generalize w16.drew = w17 at BK101 BK102 BK104 HB hHeld ⊢
      refine pure_ (i := 1) (N := some 16) (v := ?_) (a' := ?_) #[false, true, false, false, false, false, false, false, false, false, false, false] rfl rfl (any_of HT_.out (by kernel_rfl)) (fun _ _ _ h => h) (Or.inl ⟨by rfl, ?_⟩) ?_ ?_
      rotate_left
      · intro w'
        go_simp
        with_reducible rfl
      rotate_left
      · simp only [Act.put, List.setIfInBounds_toArray, List.set_cons_zero, List.set_cons_succ, i64_w, i32_w]
        rfl
      refine pure_ (i := 2) (N := some 17) (v := ?_) (a' := ?_) #[false, true, true, false, false, false, false, false, false, false, false, false] rfl rfl (any_of HT_.out (by kernel_rfl)) (fun _ _ _ h => h) (Or.inl ⟨by rfl, ?_⟩) ?_ ?_
      rotate_left
      · intro w'
        go_simp
        with_reducible rfl
      rotate_left
      · simp only [Act.put, List.setIfInBounds_toArray, List.set_cons_zero, List.set_cons_succ, i64_w, i32_w]
        rfl
      refine pure_ (i := 6) (N := some 21) (v := ?_) (a' := ?_) #[false, true, true, false, false, false, true, false, false, false, false, false] rfl rfl (any_of HT_.out (by kernel_rfl)) (fun _ _ _ h => h) (Or.inl ⟨by rfl, ?_⟩) ?_ ?_
      rotate_left
      · intro w'
        go_simp
        with_reducible rfl
      rotate_left
      · simp only [Act.put, List.setIfInBounds_toArray, List.set_cons_zero, List.set_cons_succ, i64_w, i32_w]
        rfl
      refine pure_ (i := 7) (N := some 22) (v := ?_) (a' := ?_) #[false, true, true, false, false, false, true, true, false, false, false, false] rfl rfl (any_of HT_.out (by kernel_rfl)) (fun _ _ _ h => h) (Or.inl ⟨by rfl, ?_⟩) ?_ ?_
      rotate_left
      · intro w'
        go_simp
        with_reducible rfl
      rotate_left
      · simp only [Act.put, List.setIfInBounds_toArray, List.set_cons_zero, List.set_cons_succ, i64_w, i32_w]
        rfl
      refine take_ (i := 0) (N := some 15) (v := ?_) (a' := ?_) #[true, true, true, false, false, false, true, true, false, false, false, false] rfl rfl (take_ofW HT_.out HW_.out (by kernel_rfl)) (fun _ _ _ h => h) (Or.inl ⟨by rfl, ?_⟩) hHeld ?_ ?_
      rotate_left
      · rintro w' ⟨s0, s1, s2, s3, s4, s5, s6⟩
        go_simp
        with_reducible rfl
      rotate_left
      · simp only [Act.put, List.setIfInBounds_toArray, List.set_cons_zero, List.set_cons_succ, i64_w, i32_w]
        rfl
      refine take_ (i := 3) (N := some 18) (v := ?_) (a' := ?_) #[true, true, true, true, false, false, true, true, false, false, false, false] rfl rfl (take_ofW HT_.out HW_.out (by kernel_rfl)) (fun _ _ _ h => h) (Or.inl ⟨by rfl, ?_⟩) hHeld ?_ ?_
      rotate_left
      · rintro w' ⟨s0, s1, s2, s3, s4, s5, s6⟩
        go_simp
        with_reducible rfl
      rotate_left
      · simp only [Act.put, List.setIfInBounds_toArray, List.set_cons_zero, List.set_cons_succ, i64_w, i32_w]
        rfl
      refine take_ (i := 5) (N := some 20) (v := ?_) (a' := ?_) #[true, true, true, true, false, true, true, true, false, false, false, false] rfl rfl (take_ofW HT_.out HW_.out (by kernel_rfl)) (fun _ _ _ h => h) (Or.inl ⟨by rfl, ?_⟩) hHeld ?_ ?_
      rotate_left
      · rintro w' ⟨s0, s1, s2, s3, s4, s5, s6⟩
        go_simp
        with_reducible rfl
      rotate_left
      · simp only [Act.put, List.setIfInBounds_toArray, List.set_cons_zero, List.set_cons_succ, i64_w, i32_w]
        rfl
      refine take_ (i := 8) (N := some 23) (v := ?_) (a' := ?_) #[true, true, true, true, false, true, true, true, true, false, false, false] rfl rfl (take_ofW HT_.out HW_.out (by kernel_rfl)) (fun _ _ _ h => h) (Or.inl ⟨by rfl, ?_⟩) hHeld ?_ ?_
      rotate_left
      · rintro w' ⟨s0, s1, s2, s3, s4, s5, s6⟩
        go_simp
        with_reducible rfl
      rotate_left
      · simp only [Act.put, List.setIfInBounds_toArray, List.set_cons_zero, List.set_cons_succ, i64_w, i32_w]
        rfl
      refine one_ (i := 4) (N := some 19) #[true, true, true, true, true, true, true, true, true, false, false, false] rfl rfl (one_of HT_.out (by kernel_rfl)) (by decide) (fun K hK => ?_)
      refine goes_ Tryz.func99 (by kernel_rfl) rfl #[.agg #[.slice (some ad103) l0_0.length c0_0, .slice A0_1 l0_1.length c0_1, .int .i64 a0_2, .int .i64 a0_3, .slice A0_4 l0_4.length c0_4], .int .i64 a2, .int .i64 ((rd_T43 l0_0 a1).f1.f0), .func (.func 100) #[] #[]] (by rfl) rfl rfl (by (try simp only [List.map_toArray, List.map_cons, List.map_nil]); first | done | rfl | (simp only [List.length_drop, List.length_take]; rfl)) ?_
      with_reducible refine (tenter_forecast_dried_at_tenter_high.calls k _ _ l0_0 _ _ l0_1 a0_2 a0_3 _ _ l0_4 a2 ((rd_T43 l0_0 a1).f1.f0)  t105 _ ?side1 ?side2 ?side3 ?side4 ?side5 ?side6 A6.out).mono ?_
      (case side1 => repeat (first | exact (Kd.C_below HR0_0.out HB.out) | (with_reducible refine Kd.C_alloc ?_ _) | (with_reducible refine Kd.C_drewN ?_ _) | (with_reducible refine Kd.C_drew ?_)))
      (case side2 => exact HC0_0.out)
      (case side3 => repeat (first | exact (Kd.C_below HR0_1.out HB.out) | (with_reducible refine Kd.C_alloc ?_ _) | (with_reducible refine Kd.C_drewN ?_ _) | (with_reducible refine Kd.C_drew ?_)))
      (case side4 => exact HC0_1.out)
      (case side5 => repeat (first | exact (Kd.C_below HR0_4.out HB.out) | (with_reducible refine Kd.C_alloc ?_ _) | (with_reducible refine Kd.C_drewN ?_ _) | (with_reducible refine Kd.C_drew ?_)))
      (case side6 => exact HC0_4.out)
      rintro e w18 ⟨rfl, hb⟩
      refine ⟨_, rfl, ?_⟩
      have n0_ := Aside0.mk (blk_below (g := gb101) (o := .cells #[.slice (some ad103) l0_0.length c0_0, .slice A0_1 l0_1.length c0_1, .int .i64 a0_2, .int .i64 a0_3, .slice A0_4 l0_4.length c0_4] 121 (0, 0)) (by (with_reducible repeat (first | refine blk_drewN ?_ _ | refine blk_drew ?_ | refine blk_alloc ?_ _)); exact BK101.out) hb)
      have n1_ := Aside0.mk (blk_below (g := gb102) (o := .cells #[.int .i64 0, .int .i64 0] 36 (0, 0)) (by (with_reducible repeat (first | refine blk_drewN ?_ _ | refine blk_drew ?_ | refine blk_alloc ?_ _)); exact BK102.out) hb)
      have n2_ := Aside0.mk (blk_below (g := gb104) (o := .cells #[.int .i64 ((rd_T43 l0_0 a1).f1.f0), .int .i64 ((rd_T43 l0_0 a1).f1.f1)] 36 (0, 0)) (by (with_reducible repeat (first | refine blk_drewN ?_ _ | refine blk_drew ?_ | refine blk_alloc ?_ _)); exact BK104.out) hb)
      have n3_ := Aside0.mk (below_step (by repeat (first | (with_reducible first | exact HB.out | apply below_alloc | apply pw_below_drewN | apply below_drew1 | refine below_set ?_ GE101.out | refine below_set ?_ GE102.out | refine below_set ?_ GE104.out) | exact HB.out)) hb)
      clear BK101
      clear BK102
      clear BK104
      clear HB
      have BK101 := n0_
      have BK102 := n1_
      have BK104 := n2_
      have HB := n3_
      clear n0_ n1_ n2_ n3_
      (try clear hb)
      (try clear hb2)
      (try clear hk)
      (try clear hi)
      refine hK.out _ _ ⟨(blk_cell BK101.out 0).trans rfl, (blk_cell BK101.out 1).trans rfl, (blk_cell BK101.out 2).trans rfl, (blk_cell BK101.out 3).trans rfl, (blk_cell BK101.out 4).trans rfl, (blk_cell BK104.out 0).trans rfl, (blk_cell BK104.out 1).trans rfl⟩ (fun hHeld => ?_)
      clear hK K
      refine norm_ (a' := ?_) ?_ ?_
      rotate_left
      · show Act.put _ (some 19) _ = _
        simp only [Act.put, List.setIfInBounds_toArray, List.set_cons_zero, List.set_cons_succ, i64_w, i32_w]
        rfl
      refine one_ (i := 9) (N := some 24) #[true, true, true, true, true, true, true, true, true, true, false, false] rfl rfl (one_of HT_.out (by kernel_rfl)) (by decide) (fun K hK => ?_)
      refine goes_ Tryz.func99 (by kernel_rfl) rfl #[.agg #[.slice (some ad103) l0_0.length c0_0, .slice A0_1 l0_1.length c0_1, .int .i64 a0_2, .int .i64 a0_3, .slice A0_4 l0_4.length c0_4], .int .i64 a2, .int .i64 ((rd_T43 l0_0 a1).f1.f1), .func (.func 101) #[] #[]] (by rfl) rfl rfl (by (try simp only [List.map_toArray, List.map_cons, List.map_nil]); first | done | rfl | (simp only [List.length_drop, List.length_take]; rfl)) ?_
      with_reducible refine (tenter_forecast_dried_at_tenter_low.calls k _ _ l0_0 _ _ l0_1 a0_2 a0_3 _ _ l0_4 a2 ((rd_T43 l0_0 a1).f1.f1)  t106 _ ?side1 ?side2 ?side3 ?side4 ?side5 ?side6 A7.out).mono ?_
      (case side1 => repeat (first | exact (Kd.C_below HR0_0.out HB.out) | (with_reducible refine Kd.C_alloc ?_ _) | (with_reducible refine Kd.C_drewN ?_ _) | (with_reducible refine Kd.C_drew ?_)))
      (case side2 => exact HC0_0.out)
      (case side3 => repeat (first | exact (Kd.C_below HR0_1.out HB.out) | (with_reducible refine Kd.C_alloc ?_ _) | (with_reducible refine Kd.C_drewN ?_ _) | (with_reducible refine Kd.C_drew ?_)))
      (case side4 => exact HC0_1.out)
      (case side5 => repeat (first | exact (Kd.C_below HR0_4.out HB.out) | (with_reducible refine Kd.C_alloc ?_ _) | (with_reducible refine Kd.C_drewN ?_ _) | (with_reducible refine Kd.C_drew ?_)))
      (case side6 => exact HC0_4.out)
      rintro e w19 ⟨rfl, hb⟩
      refine ⟨_, rfl, ?_⟩
      have n0_ := Aside0.mk (blk_below (g := gb101) (o := .cells #[.slice (some ad103) l0_0.length c0_0, .slice A0_1 l0_1.length c0_1, .int .i64 a0_2, .int .i64 a0_3, .slice A0_4 l0_4.length c0_4] 121 (0, 0)) (by (with_reducible repeat (first | refine blk_drewN ?_ _ | refine blk_drew ?_ | refine blk_alloc ?_ _)); exact BK101.out) hb)
      have n1_ := Aside0.mk (blk_below (g := gb102) (o := .cells #[.int .i64 0, .int .i64 0] 36 (0, 0)) (by (with_reducible repeat (first | refine blk_drewN ?_ _ | refine blk_drew ?_ | refine blk_alloc ?_ _)); exact BK102.out) hb)
      have n2_ := Aside0.mk (blk_below (g := gb104) (o := .cells #[.int .i64 ((rd_T43 l0_0 a1).f1.f0), .int .i64 ((rd_T43 l0_0 a1).f1.f1)] 36 (0, 0)) (by (with_reducible repeat (first | refine blk_drewN ?_ _ | refine blk_drew ?_ | refine blk_alloc ?_ _)); exact BK104.out) hb)
      have n3_ := Aside0.mk (below_step (by repeat (first | (with_reducible first | exact HB.out | apply below_alloc | apply pw_below_drewN | apply below_drew1 | refine below_set ?_ GE101.out | refine below_set ?_ GE102.out | refine below_set ?_ GE104.out) | exact HB.out)) hb)
      clear BK101
      clear BK102
      clear BK104
      clear HB
      have BK101 := n0_
      have BK102 := n1_
      have BK104 := n2_
      have HB := n3_
      clear n0_ n1_ n2_ n3_
      (try clear hb)
      (try clear hb2)
      (try clear hk)
      (try clear hi)
      refine hK.out _ _ ⟨(blk_cell BK101.out 0).trans rfl, (blk_cell BK101.out 1).trans rfl, (blk_cell BK101.out 2).trans rfl, (blk_cell BK101.out 3).trans rfl, (blk_cell BK101.out 4).trans rfl, (blk_cell BK104.out 0).trans rfl, (blk_cell BK104.out 1).trans rfl⟩ (fun hHeld => ?_)
      clear hK K
      refine norm_ (a' := ?_) ?_ ?_
      rotate_left
      · show Act.put _ (some 24) _ = _
        simp only [Act.put, List.setIfInBounds_toArray, List.set_cons_zero, List.set_cons_succ, i64_w, i32_w]
        rfl
      refine pure_ (i := 10) (N := some 25) (v := ?_) (a' := ?_) #[true, true, true, true, true, true, true, true, true, true, true, false] rfl rfl (any_of HT_.out (by kernel_rfl)) (fun _ _ _ h => h) (Or.inl ⟨by rfl, ?_⟩) ?_ ?_
      rotate_left
      · intro w'
        go_simp
        with_reducible rfl
      rotate_left
      · simp only [Act.put, List.setIfInBounds_toArray, List.set_cons_zero, List.set_cons_succ, i64_w, i32_w]
        rfl
      refine one_ (i := 11) (N := none) #[true, true, true, true, true, true, true, true, true, true, true, true] rfl rfl (one_of HT_.out (by kernel_rfl)) (by decide) (fun K hK => ?_)
      have hs20 : w19.cell? ⟨gb102, 0, none⟩ = some (.int .i64 0) := (blk_cell BK102.out 0).trans rfl
      have hfs20 := blk_frozen BK102.out 0
      have hns20_0 := NB101_102.out
      have hns20_2 := NB104_102.out
      have hms20_0 := NB102_101.out
      have hms20_2 := NB102_104.out
      have hs21 : w19.cell? ⟨gb102, 1, none⟩ = some (.int .i64 0) := (blk_cell BK102.out 1).trans rfl
      have hfs21 := blk_frozen BK102.out 1
      have hns21_0 := NB101_102.out
      have hns21_2 := NB104_102.out
      have hms21_0 := NB102_101.out
      have hms21_2 := NB102_104.out
      refine skip_ (w1 := ?_) (by rfl) rfl ?_ ?_
      rotate_left
      · go_simp
        rfl
      refine hK.out _ _ ⟨((cell_far (p := ⟨gb102, _, none⟩) NB101_102.out _).trans (((cell_far (p := ⟨gb102, _, none⟩) NB101_102.out _).trans (hHeld.1)))), ((cell_far (p := ⟨gb102, _, none⟩) NB101_102.out _).trans (((cell_far (p := ⟨gb102, _, none⟩) NB101_102.out _).trans (hHeld.2.1)))), ((cell_far (p := ⟨gb102, _, none⟩) NB101_102.out _).trans (((cell_far (p := ⟨gb102, _, none⟩) NB101_102.out _).trans (hHeld.2.2.1)))), ((cell_far (p := ⟨gb102, _, none⟩) NB101_102.out _).trans (((cell_far (p := ⟨gb102, _, none⟩) NB101_102.out _).trans (hHeld.2.2.2.1)))), ((cell_far (p := ⟨gb102, _, none⟩) NB101_102.out _).trans (((cell_far (p := ⟨gb102, _, none⟩) NB101_102.out _).trans (hHeld.2.2.2.2.1)))), ((cell_far (p := ⟨gb102, _, none⟩) NB104_102.out _).trans (((cell_far (p := ⟨gb102, _, none⟩) NB104_102.out _).trans (hHeld.2.2.2.2.2.1)))), ((cell_far (p := ⟨gb102, _, none⟩) NB104_102.out _).trans (((cell_far (p := ⟨gb102, _, none⟩) NB104_102.out _).trans (hHeld.2.2.2.2.2.2))))⟩ (fun hHeld => ?_)
      clear hK K
      refine done_ (done_of HT_.out (by kernel_rfl)) ?_
      try go_wp2
      refine bodyPost_ret (results_cell_row rfl _ _ gb102 36 #[.int .i64 t105, .int .i64 t106] (0, 0) _ rfl (by (with_reducible repeat (first | refine blk_drewN ?_ _ | refine blk_drew ?_ | refine blk_alloc ?_ _)); refine blk_put (cs := #[.int .i64 t105, .int .i64 0]) ?_ 1 _ rfl; (with_reducible repeat (first | refine blk_drewN ?_ _ | refine blk_drew ?_ | refine blk_alloc ?_ _)); refine blk_put (cs := #[.int .i64 0, .int .i64 0]) ?_ 0 _ rfl; (with_reducible repeat (first | refine blk_drewN ?_ _ | refine blk_drew ?_ | refine blk_alloc ?_ _)); exact BK102.out) Tryz.underlying36 rfl (by kernel_rfl)) rfl ?_
      exact ⟨by first | rfl | (simp [errW_none, errW_some] <;> rfl) | (simp [*, errW_none, errW_some] <;> rfl), by repeat (first | (with_reducible first | exact HB.out | apply below_alloc | apply pw_below_drewN | apply below_drew1 | refine below_set ?_ GE101.out | refine below_set ?_ GE102.out | refine below_set ?_ GE104.out) | exact HB.out)⟩
    · rw [if_neg c5] at H
      exact absurd H (by simp)
  · rw [if_neg c4] at H
    exact absurd H (by simp)
end Go.Proofs.YtikmfpjcdcckeaaGreatDoor.P
namespace Go.Proofs.YtikmfpjcdcckeaaGreatDoor.P
open Go.RowKit Go.Proofs.YtikmfpjcdcckeaaGreatDoorW.PrintWords Go.Proofs.YtikmfpjcdcckeaaGreatDoorW.PrintLast Go.Proofs.YtikmfpjcdcckeaaGreatDoorW.PrintMore
theorem newForecast1_eq (x : S36) : tenter_newForecast_1.f x.f0 x.f1 = some (!spanOk x.f0 x.f1 0 100) := by
  unfold tenter_newForecast_1.f
  rw [isSpan_eq]; rfl
def wx (l0 : List S43) (l1 : List Int) (g s : Int) (w : List S36) (h : Int) : Int :=
  if chk l0 l1 g s = 0 then if isIn 1 24 (w.length : Int) = true then if (w.all (fun x => spanOk x.f0 x.f1 0 100) && isIn 0 (w.length : Int) h) = true then 0 else 3 else 8 else chk l0 l1 g s
theorem newForecast_eq (l0 : List S43) (l1 : List Int) (g s : Int) (w : List S36) (h : Int) : tenter_newForecast.f l0 l1 g s w h = some (l0, l1, g, s, w, wx l0 l1 g s w h) := by
  unfold tenter_newForecast.f wx
  rw [tCheck_eq]
  simp only [Option.bind_some]
  by_cases hc : chk l0 l1 g s = 0
  · rw [if_pos hc, if_pos hc, within_eq]
    simp only [Option.bind_some, List.all_cons, List.all_nil, Bool.and_true]
    by_cases h1 : isIn 1 24 (w.length : Int) = true
    · rw [if_pos h1, if_pos h1]
      unfold any_at_tenter_newForecast_1.f
      rw [anyO_pure _ (fun x : S36 => !spanOk x.f0 x.f1 0 100) newForecast1_eq, within_eq]
      simp only [Option.bind_some, List.all_cons, List.all_nil, Bool.and_true]
      have ha : (w.any fun x => !spanOk x.f0 x.f1 0 100) = !w.all (fun x => spanOk x.f0 x.f1 0 100) := by simp [List.any_eq_not_all_not]
      rw [ha]
      cases w.all (fun x => spanOk x.f0 x.f1 0 100) <;> cases isIn 0 (w.length : Int) h <;> rfl
    · rw [if_neg h1, if_neg h1]
  · rw [if_neg hc, if_neg hc]
theorem rWeather_l (w : List S36) (h : Int) (hw : w.length ≤ 1000) : ∀ (d i k : Nat), i + d = w.length → d < k →
    walkmillref05_Weather.l0 k w h i = some (if ((w.drop i).all (fun x => spanOk x.f0 x.f1 0 100) && isIn 0 (w.length : Int) h) = true then 0 else 3)
  | 0, i, k, hd, hk => by
    obtain ⟨k, rfl⟩ : ∃ m, k = m + 1 := ⟨k - 1, by omega⟩
    rw [walkmillref05_Weather.l0, if_neg (by omega), rIn_eq, List.drop_of_length_le (by omega)]
    simp only [Option.bind_some, List.all_nil, Bool.true_and]
    cases isIn 0 (w.length : Int) h <;> rfl
  | d + 1, i, k, hd, hk => by
    obtain ⟨k, rfl⟩ : ∃ m, k = m + 1 := ⟨k - 1, by omega⟩
    have hlt : i < w.length := by omega
    rw [walkmillref05_Weather.l0, if_pos (by omega), if_pos (show (0 : Int) ≤ i by omega), rd36_at w i hlt, rSpan_eq _ _ _ _ (by omega), nx i (by omega), List.drop_eq_getElem_cons hlt]
    simp only [Option.bind_some]
    have ih := rWeather_l w h hw d (i + 1) k (by omega) (by omega)
    by_cases hs : spanOk w[i].f0 w[i].f1 0 100 = true
    · have e : (w[i] :: w.drop (i + 1)).all (fun x => spanOk x.f0 x.f1 0 100) = (w.drop (i + 1)).all (fun x => spanOk x.f0 x.f1 0 100) := by rw [List.all_cons, hs, Bool.true_and]
      rw [if_pos hs, ih]
      by_cases hh : ((w.drop (i + 1)).all (fun x => spanOk x.f0 x.f1 0 100) && isIn 0 (w.length : Int) h) = true
      · rw [if_pos hh, if_pos (by rw [e]; exact hh)]
      · rw [if_neg hh, if_neg (by rw [e]; exact hh)]
    · rw [if_neg hs, if_neg (by rw [List.all_cons, show spanOk w[i].f0 w[i].f1 0 100 = false by simpa using hs]; simp)]
theorem rWeather_eq (k : Nat) (l0 : List S43) (l1 : List Int) (g s : Int) (w : List S36) (h : Int) (hm : l0.length ≤ 1000) (hn : l1.length ≤ 1000) (hw : w.length ≤ 1000) (hk : l0.length + l1.length + w.length + 2 < k) :
    walkmillref05_Weather.f k l0 l1 g s w h = some (wx l0 l1 g s w h) := by
  unfold walkmillref05_Weather.f wx
  rw [rCheck_eq k l0 l1 g s hm hn (by omega)]
  simp only [Option.bind_some]
  by_cases hc : chk l0 l1 g s = 0
  · rw [if_pos hc, if_pos hc, rIn_eq]
    simp only [Option.bind_some]
    by_cases h1 : isIn 1 24 (w.length : Int) = true
    · rw [if_pos h1, if_pos h1]
      have := rWeather_l w h hw w.length 0 k (by omega) (by omega)
      rw [show ((0 : Nat) : Int) = 0 from rfl, List.drop_zero] at this
      exact this
    · rw [if_neg h1, if_neg h1]
  · rw [if_neg hc, if_neg hc]
def dr (e : S36 → Int) : List S36 → Int → Int → Int
  | [], x, p => if x ≤ 0 then p else p + 1
  | y :: r, x, p => if x ≤ 0 then p else dr e r (x - e y) (p + 1)
theorem wx_ok {l0 : List S43} {l1 : List Int} {g s : Int} {w : List S36} {h : Int} (hh : wx l0 l1 g s w h = 0) : chk l0 l1 g s = 0 ∧ 1 ≤ w.length ∧ w.length ≤ 24 ∧ (∀ x ∈ w, 0 ≤ x.f0 ∧ x.f0 ≤ x.f1 ∧ x.f1 ≤ 100) ∧ 0 ≤ h ∧ h ≤ (w.length : Int) := by
  unfold wx at hh
  split at hh
  · split at hh
    · split at hh
      · rename_i h1 h2 h3
        simp only [Bool.and_eq_true, List.all_eq_true, isIn_iff] at h3 h2
        refine ⟨h1, by omega, by omega, fun x hx => ?_, h3.2.1, h3.2.2⟩
        have := h3.1 x hx
        unfold spanOk at this
        simp only [Bool.and_eq_true, isIn_iff, decide_eq_true_eq] at this
        omega
      · cases hh
    · cases hh
  · exact absurd hh (by assumption)
theorem cloth_water {c : S43} (h : clothOk c = true) : 0 ≤ c.f1.f0 ∧ c.f1.f0 ≤ c.f1.f1 ∧ c.f1.f1 ≤ 500 := by
  unfold clothOk spanOk at h
  simp only [Bool.and_eq_true, isIn_iff, decide_eq_true_eq] at h
  omega
theorem rDried_l (w : List S36) (b : Bool) (hw : w.length ≤ 1000) (hb : ∀ x ∈ w, 0 ≤ x.f0 ∧ x.f0 ≤ 100 ∧ 0 ≤ x.f1 ∧ x.f1 ≤ 100) : ∀ (d i k : Nat) (x : Int), i + d = w.length → d + 1 < k → -100 ≤ x → x ≤ 500 →
    walkmillref05_Dried.l0 k w x b i = some (dr (if b = true then S36.f1 else S36.f0) (w.drop i) x i)
  | 0, i, k, x, hd, hk, hx, hx2 => by
    obtain ⟨k, rfl⟩ : ∃ m, k = m + 2 := ⟨k - 2, by omega⟩
    rw [show k + 2 = (k + 1) + 1 by omega, walkmillref05_Dried.l0, if_pos (by omega), List.drop_of_length_le (by omega), dr]
    by_cases h : x ≤ 0
    · rw [if_pos h, if_pos h]
    · rw [if_neg h, if_neg h, if_neg (by omega), nx i (by omega), walkmillref05_Dried.l0, if_neg (by omega), w64_of (by omega) (by omega)]
      congr 1; omega
  | d + 1, i, k, x, hd, hk, hx, hx2 => by
    obtain ⟨k, rfl⟩ : ∃ m, k = m + 1 := ⟨k - 1, by omega⟩
    have hlt : i < w.length := by omega
    have hbi := hb w[i] (List.getElem_mem _)
    rw [walkmillref05_Dried.l0, if_pos (by omega), List.drop_eq_getElem_cons hlt, dr]
    by_cases h : x ≤ 0
    · rw [if_pos h, if_pos h]
    · rw [if_neg h, if_neg h, if_pos (by omega), if_pos (show (0 : Int) ≤ i by omega), if_pos (show (0 : Int) ≤ i by omega), rd36_at w i hlt, nx i (by omega), w64_of (n := x - w[i].f1) (by omega) (by omega), w64_of (n := x - w[i].f0) (by omega) (by omega)]
      cases b with
      | true => rw [if_pos rfl, rDried_l w true hw hb d (i + 1) k _ (by omega) (by omega) (by omega) (by omega)]; simp
      | false => rw [if_neg (by simp), rDried_l w false hw hb d (i + 1) k _ (by omega) (by omega) (by omega) (by omega)]; simp
theorem tDriedH_l (l0 : List S43) (l1 : List Int) (g s p : Int) (w y : List S36) (hy : y.length ≤ 1000) (hp : 0 ≤ p) (hpw : p + (y.length : Int) = (w.length : Int)) (hw : w.length ≤ 1000) (hb : ∀ x ∈ y, 0 ≤ x.f0 ∧ x.f0 ≤ 100 ∧ 0 ≤ x.f1 ∧ x.f1 ≤ 100) : ∀ (d i k : Nat) (x : Int), i + d = y.length → d < k → -100 ≤ x → x ≤ 500 →
    tenter_forecast_dried_at_tenter_high.l0 k p x y (y.length : Int) i l0 l1 g s w = some (dr S36.f1 (y.drop i) x (p + i))
  | 0, i, k, x, hd, hk, hx, hx2 => by
    obtain ⟨k, rfl⟩ : ∃ m, k = m + 1 := ⟨k - 1, by omega⟩
    rw [tenter_forecast_dried_at_tenter_high.l0, if_neg (by omega), List.drop_of_length_le (by omega), dr]
    have e : p + (i : Int) = (w.length : Int) := by omega
    rw [e, w64_of (by omega) (by omega)]
    split <;> rfl
  | d + 1, i, k, x, hd, hk, hx, hx2 => by
    obtain ⟨k, rfl⟩ : ∃ m, k = m + 1 := ⟨k - 1, by omega⟩
    have hlt : i < y.length := by omega
    have hbi := hb y[i] (List.getElem_mem _)
    rw [tenter_forecast_dried_at_tenter_high.l0, if_pos (by omega), if_pos (show (0 : Int) ≤ i by omega), if_pos (by omega), List.drop_eq_getElem_cons hlt, dr]
    by_cases h : x ≤ 0
    · rw [if_pos h, if_pos h, w64_of (by omega) (by omega)]
    · rw [if_neg h, if_neg h]
      unfold tenter_high.f
      simp only [Option.bind_some]
      rw [rd36_at y i hlt, nx i (by omega), w64_of (n := x - y[i].f1) (by omega) (by omega), tDriedH_l l0 l1 g s p w y hy hp hpw hw hb d (i + 1) k _ (by omega) (by omega) (by omega) (by omega)]
      congr 2; omega
theorem tDriedL_l (l0 : List S43) (l1 : List Int) (g s p : Int) (w y : List S36) (hy : y.length ≤ 1000) (hp : 0 ≤ p) (hpw : p + (y.length : Int) = (w.length : Int)) (hw : w.length ≤ 1000) (hb : ∀ x ∈ y, 0 ≤ x.f0 ∧ x.f0 ≤ 100 ∧ 0 ≤ x.f1 ∧ x.f1 ≤ 100) : ∀ (d i k : Nat) (x : Int), i + d = y.length → d < k → -100 ≤ x → x ≤ 500 →
    tenter_forecast_dried_at_tenter_low.l0 k p x y (y.length : Int) i l0 l1 g s w = some (dr S36.f0 (y.drop i) x (p + i))
  | 0, i, k, x, hd, hk, hx, hx2 => by
    obtain ⟨k, rfl⟩ : ∃ m, k = m + 1 := ⟨k - 1, by omega⟩
    rw [tenter_forecast_dried_at_tenter_low.l0, if_neg (by omega), List.drop_of_length_le (by omega), dr]
    have e : p + (i : Int) = (w.length : Int) := by omega
    rw [e, w64_of (by omega) (by omega)]
    split <;> rfl
  | d + 1, i, k, x, hd, hk, hx, hx2 => by
    obtain ⟨k, rfl⟩ : ∃ m, k = m + 1 := ⟨k - 1, by omega⟩
    have hlt : i < y.length := by omega
    have hbi := hb y[i] (List.getElem_mem _)
    rw [tenter_forecast_dried_at_tenter_low.l0, if_pos (by omega), if_pos (show (0 : Int) ≤ i by omega), if_pos (by omega), List.drop_eq_getElem_cons hlt, dr]
    by_cases h : x ≤ 0
    · rw [if_pos h, if_pos h, w64_of (by omega) (by omega)]
    · rw [if_neg h, if_neg h]
      unfold tenter_low.f
      simp only [Option.bind_some]
      rw [rd36_at y i hlt, nx i (by omega), w64_of (n := x - y[i].f0) (by omega) (by omega), tDriedL_l l0 l1 g s p w y hy hp hpw hw hb d (i + 1) k _ (by omega) (by omega) (by omega) (by omega)]
      congr 2; omega
def dryOf (w : List S36) (p : Int) (c : S43) : S36 := ⟨dr S36.f1 (w.drop p.toNat) c.f1.f0 p, dr S36.f0 (w.drop p.toNat) c.f1.f1 p⟩
theorem tDry_at (k : Nat) (l0 : List S43) (l1 : List Int) (g s p : Int) (w : List S36) {h0 : Int} (hh : wx l0 l1 g s w h0 = 0) (hp : 0 ≤ p) (hpw : p ≤ (w.length : Int)) (i : Nat) (hi : i < l0.length) (hk : 30 < k) :
    tenter_forecast_dry.f k l0 l1 g s w i p = some ((dryOf w p l0[i]).f0, (dryOf w p l0[i]).f1) := by
  obtain ⟨hc, h1, h2, h3, h4, h5⟩ := wx_ok hh
  have hw := cloth_water ((chk_ok hc).2.2.2.1 l0[i] (List.getElem_mem _))
  have hb : ∀ x ∈ w.drop p.toNat, 0 ≤ x.f0 ∧ x.f0 ≤ 100 ∧ 0 ≤ x.f1 ∧ x.f1 ≤ 100 := fun x hx => by have := h3 x (List.mem_of_mem_drop hx); omega
  have hl : (w.drop p.toNat).length = w.length - p.toNat := by simp
  have hpl : p + ((w.drop p.toNat).length : Int) = (w.length : Int) := by rw [hl]; omega
  unfold tenter_forecast_dry.f tenter_forecast_dried_at_tenter_high.f tenter_forecast_dried_at_tenter_low.f
  rw [if_pos (by omega), if_pos (by omega), rd43_at l0 i hi, if_pos hp, if_pos hpw, if_pos hp, if_pos hpw]
  have eh := tDriedH_l l0 l1 g s p w (w.drop p.toNat) (by omega) hp hpl (by omega) hb _ 0 k l0[i].f1.f0 (Nat.zero_add _) (by omega) (by omega) (by omega)
  have el := tDriedL_l l0 l1 g s p w (w.drop p.toNat) (by omega) hp hpl (by omega) hb _ 0 k l0[i].f1.f1 (Nat.zero_add _) (by omega) (by omega) (by omega)
  rw [show ((0 : Nat) : Int) = 0 from rfl, List.drop_zero, Int.add_zero] at eh el
  simp only [Option.bind_some]
  rw [eh, el]; rfl
theorem rDry_at (k : Nat) (l0 : List S43) (l1 : List Int) (g s p : Int) (w : List S36) {h0 : Int} (hh : wx l0 l1 g s w h0 = 0) (hp : 0 ≤ p) (hpw : p ≤ (w.length : Int)) (i : Nat) (hi : i < l0.length) (hk : 30 < k) :
    walkmillref05_Dry.f k l0 l1 g s w i p = some ((dryOf w p l0[i]).f0, (dryOf w p l0[i]).f1) := by
  obtain ⟨hc, h1, h2, h3, h4, h5⟩ := wx_ok hh
  have hw := cloth_water ((chk_ok hc).2.2.2.1 l0[i] (List.getElem_mem _))
  have hb : ∀ x ∈ w, 0 ≤ x.f0 ∧ x.f0 ≤ 100 ∧ 0 ≤ x.f1 ∧ x.f1 ≤ 100 := fun x hx => by have := h3 x hx; omega
  obtain ⟨j, rfl⟩ : ∃ j : Nat, p = j := ⟨p.toNat, by omega⟩
  unfold walkmillref05_Dry.f walkmillref05_Dried.f
  rw [if_pos (by omega), if_pos (by omega), rd43_at l0 i hi, rDried_l w true (by omega) hb (w.length - j) j k _ (by omega) (by omega) (by omega) (by omega), rDried_l w false (by omega) hb (w.length - j) j k _ (by omega) (by omega) (by omega) (by omega)]
  simp [dryOf]
theorem rSpans_l (l : List S36) (hn : l.length ≤ 1000) : ∀ d (i : Nat) k, i + d = l.length → d < k → walkmillref05_Spans.l0 k l l i = some true
  | 0, i, k, hd, hk => by
    obtain ⟨k, rfl⟩ : ∃ m, k = m + 1 := ⟨k - 1, by omega⟩
    rw [walkmillref05_Spans.l0, if_neg (by omega)]
  | d + 1, i, k, hd, hk => by
    obtain ⟨k, rfl⟩ : ∃ m, k = m + 1 := ⟨k - 1, by omega⟩
    rw [walkmillref05_Spans.l0, if_pos (by omega), if_pos (by omega), if_pos (by omega), if_neg (by simp), nx i (by omega)]
    exact rSpans_l l hn d (i + 1) k (by omega) (by omega)
theorem rSpans_same (k : Nat) (l : List S36) (hn : l.length ≤ 1000) (hk : l.length < k) : walkmillref05_Spans.f k l l = some true := by
  unfold walkmillref05_Spans.f
  rw [if_pos rfl]
  exact rSpans_l l hn l.length 0 k (by omega) hk
end Go.Proofs.YtikmfpjcdcckeaaGreatDoor.P
namespace Go.Proofs.YtikmfpjcdcckeaaGreatDoor.P
open Go.RowKit Go.Proofs.YtikmfpjcdcckeaaGreatDoorW.PrintWords Go.Proofs.YtikmfpjcdcckeaaGreatDoorW.PrintLast Go.Proofs.YtikmfpjcdcckeaaGreatDoorW.PrintMore
attribute [local go_sem] max2_int min2_int max_two min_two max_three min_three max_four min_four
def walkmilllaw05_large.f (l0_0 : List (S43)) (l0_1 : List Int) (a0_2 : Int) (a0_3 : Int) : Option (Bool) := if (l0_0.length : Int) > 10 then (some true) else (some (decide ((l0_1.length : Int) > 6)))
set_option maxHeartbeats 8000000 in
set_option maxRecDepth 100000 in
theorem walkmilllaw05_large.calls (A0_0 : Option Addr) (c0_0 : Nat) (l0_0 : List (S43)) (A0_1 : Option Addr) (c0_1 : Nat) (l0_1 : List Int) (a0_2 : Int) (a0_3 : Int) (r : Bool) (w : World) (hr0_0 : Kd.C k43 w A0_0 l0_0.length l0_0) (hc0_0 : l0_0.length ≤ c0_0) (hr0_1 : Kd.C (Kd.int .i64) w A0_1 l0_1.length l0_1) (hc0_1 : l0_1.length ≤ c0_1) (h : walkmilllaw05_large.f l0_0 l0_1 a0_2 a0_3 = some r) :
    Calls Tryz.prog 12 #[.agg #[.slice A0_0 l0_0.length c0_0, .slice A0_1 l0_1.length c0_1, .int .i64 a0_2, .int .i64 a0_3]] w fun e w' => e = .returned (.bool r) ∧ Below w.heap.size w w' := by
  have hu25 := Tryz.underlying25
  have HR0_0 := Aside0.mk hr0_0
  have HC0_0 := Aside0.mk hc0_0
  clear hr0_0 hc0_0
  have HR0_1 := Aside0.mk hr0_1
  have HC0_1 := Aside0.mk hc0_1
  clear hr0_1 hc0_1
  have HB := Aside0.mk (Below.refl w.heap.size w)
  have H : (if (l0_0.length : Int) > 10 then (some true) else (some (decide ((l0_1.length : Int) > 6)))) = some r := h
  clear h
  by_cases c2 : (l0_0.length : Int) > 10
  · rw [if_pos c2] at H
    have c2b0 : decide (10 < (l0_0.length : Int)) = true := decide_eq_true c2
    have c2b1 : decide (10 < l0_0.length) = true := decide_eq_true (by omega)
    clear c2
    obtain rfl := Option.some.inj H
    go_enter Tryz.func12, Tryz.ntmps12
    go_wp2_with (first | ((with_reducible refine gate_dst (N := 1) rfl ?_); (try (refine gate_guard (by rfl) ?_; dsimp only)); refine box_event ?hg (N := 1) ?hd (cs := #[.slice A0_0 l0_0.length c0_0, .slice A0_1 l0_1.length c0_1, .int .i64 a0_2, .int .i64 a0_3]) (t := 25) ?hr ?_; (case hd => rfl); (case hg => rfl); (case hr => first | (go_simp; done) | (go_simp; rfl)); intro gb101 hg w3 hbox hb; have n0_ := Aside0.mk (below_step (by repeat (first | (with_reducible first | exact HB.out | apply below_alloc | apply pw_below_drewN | apply below_drew1) | exact HB.out)) hb); have n1_ := Aside0.mk (hbox); have n2_ := Aside0.mk ((by rw [hg]; exact (below_size (by repeat (first | (with_reducible first | exact HB.out | apply below_alloc | apply pw_below_drewN | apply below_drew1) | exact HB.out))) : w.heap.size ≤ gb101)); have n3_ := Aside0.mk ((by rw [hg]; exact (below_size (by repeat (first | (with_reducible first | exact HB.out | apply below_alloc | apply pw_below_drewN | apply below_drew1) | exact HB.out))) : w.heap.size ≤ gb101)); clear HB; have HB := n0_; have BK101 := n1_; have GW101 := n2_; have GE101 := n3_; clear n0_ n1_ n2_ n3_; clear hb hbox hg; have hcz4_0 : w3.cell? ⟨gb101, 0, none⟩ = some (.slice A0_0 l0_0.length c0_0) := (blk_cell BK101.out 0).trans rfl; have hcz4_1 : w3.cell? ⟨gb101, 1, none⟩ = some (.slice A0_1 l0_1.length c0_1) := (blk_cell BK101.out 1).trans rfl; have hcz4_2 : w3.cell? ⟨gb101, 2, none⟩ = some (.int .i64 a0_2) := (blk_cell BK101.out 2).trans rfl; have hcz4_3 : w3.cell? ⟨gb101, 3, none⟩ = some (.int .i64 a0_3) := (blk_cell BK101.out 3).trans rfl; have hfz4_0 := blk_frozen BK101.out 0; have hfz4_1 := blk_frozen BK101.out 1; have hfz4_2 := blk_frozen BK101.out 2; have hfz4_3 := blk_frozen BK101.out 3))
    go_ret
    exact ⟨by first | rfl | (simp [errW_none, errW_some] <;> rfl) | (simp [*, errW_none, errW_some] <;> rfl), by repeat (first | (with_reducible first | exact HB.out | apply below_alloc | apply pw_below_drewN | apply below_drew1 | refine below_set ?_ GE101.out) | exact HB.out)⟩
  · rw [if_neg c2] at H
    have c2b0 : decide (10 < (l0_0.length : Int)) = false := decide_eq_false c2
    have c2b1 : decide (10 < l0_0.length) = false := decide_eq_false (by omega)
    clear c2
    obtain rfl := Option.some.inj H
    go_enter Tryz.func12, Tryz.ntmps12
    go_wp2_with (first | ((with_reducible refine gate_dst (N := 1) rfl ?_); (try (refine gate_guard (by rfl) ?_; dsimp only)); refine box_event ?hg (N := 1) ?hd (cs := #[.slice A0_0 l0_0.length c0_0, .slice A0_1 l0_1.length c0_1, .int .i64 a0_2, .int .i64 a0_3]) (t := 25) ?hr ?_; (case hd => rfl); (case hg => rfl); (case hr => first | (go_simp; done) | (go_simp; rfl)); intro gb101 hg w5 hbox hb; have n0_ := Aside0.mk (below_step (by repeat (first | (with_reducible first | exact HB.out | apply below_alloc | apply pw_below_drewN | apply below_drew1) | exact HB.out)) hb); have n1_ := Aside0.mk (hbox); have n2_ := Aside0.mk ((by rw [hg]; exact (below_size (by repeat (first | (with_reducible first | exact HB.out | apply below_alloc | apply pw_below_drewN | apply below_drew1) | exact HB.out))) : w.heap.size ≤ gb101)); have n3_ := Aside0.mk ((by rw [hg]; exact (below_size (by repeat (first | (with_reducible first | exact HB.out | apply below_alloc | apply pw_below_drewN | apply below_drew1) | exact HB.out))) : w.heap.size ≤ gb101)); clear HB; have HB := n0_; have BK101 := n1_; have GW101 := n2_; have GE101 := n3_; clear n0_ n1_ n2_ n3_; clear hb hbox hg; have hcz6_0 : w5.cell? ⟨gb101, 0, none⟩ = some (.slice A0_0 l0_0.length c0_0) := (blk_cell BK101.out 0).trans rfl; have hcz6_1 : w5.cell? ⟨gb101, 1, none⟩ = some (.slice A0_1 l0_1.length c0_1) := (blk_cell BK101.out 1).trans rfl; have hcz6_2 : w5.cell? ⟨gb101, 2, none⟩ = some (.int .i64 a0_2) := (blk_cell BK101.out 2).trans rfl; have hcz6_3 : w5.cell? ⟨gb101, 3, none⟩ = some (.int .i64 a0_3) := (blk_cell BK101.out 3).trans rfl; have hfz6_0 := blk_frozen BK101.out 0; have hfz6_1 := blk_frozen BK101.out 1; have hfz6_2 := blk_frozen BK101.out 2; have hfz6_3 := blk_frozen BK101.out 3))
    go_ret
    exact ⟨by first | rfl | (simp [errW_none, errW_some] <;> rfl) | (simp [*, errW_none, errW_some] <;> rfl), by repeat (first | (with_reducible first | exact HB.out | apply below_alloc | apply pw_below_drewN | apply below_drew1 | refine below_set ?_ GE101.out) | exact HB.out)⟩
def tenter_Dry.l0 : Nat → Int → List (S36) → Int → Int → List (S43) → List Int → Int → Int → List (S36) → Option ((List (S36)) × Int)
  | 0, _, _, _, _, _, _, _, _, _ => none
  | k + 1, x2, x6, x22, x23, x115000, x115001, x115002, x115003, x115004 => if x23 < x22 then ((tenter_forecast_dry.f k x115000 x115001 x115002 x115003 x115004 x23 x2).bind fun bt115 => (if x6.length < 8796093022208 then (tenter_Dry.l0 k x2 (x6 ++ [(⟨bt115.1, bt115.2⟩ : S36)]) x22 (wrap64 (x23 + 1)) x115000 x115001 x115002 x115003 x115004) else (none))) else (some (x6, 0))
def tenter_Dry.f (k : Nat) (l0_0 : List (S43)) (l0_1 : List Int) (a0_2 : Int) (a0_3 : Int) (l1 : List (S36)) (a2 : Int) : Option ((List (S36)) × Int) := (tenter_newForecast.f l0_0 l0_1 a0_2 a0_3 l1 a2).bind fun bt102 => (if bt102.2.2.2.2.2 = 0 then (tenter_Dry.l0 k a2 ([] : List (S36)) (l0_0.length : Int) 0 bt102.1 bt102.2.1 bt102.2.2.1 bt102.2.2.2.1 bt102.2.2.2.2.1) else (some (([] : List (S36)), bt102.2.2.2.2.2)))
theorem tenter_Dry.mono_l : ∀ k, (∀ y0 y1 y2 y3 y4 y5 y6 y7 y8, LeO (tenter_Dry.l0 k y0 y1 y2 y3 y4 y5 y6 y7 y8) (tenter_Dry.l0 (k + 1) y0 y1 y2 y3 y4 y5 y6 y7 y8))
  | 0 => fun _ _ _ _ _ _ _ _ _ r h => by simp [tenter_Dry.l0] at h
  | k + 1 => by
    have ih0 := tenter_Dry.mono_l k
    · intro y0 y1 y2 y3 y4 y5 y6 y7 y8
      unfold tenter_Dry.l0
      repeat' first
      | (with_reducible exact ih0 _ _ _ _ _ _ _ _ _)
      | (with_reducible exact tenter_forecast_dry.mono _ _ _ _ _ _ _ _)
      | (with_reducible exact LeO.refl _)
      | (with_reducible exact LeO.none _)
      | (with_reducible refine LeO.ite ?_ ?_)
      | (with_reducible refine LeO.bind ?_ (fun _ => ?_))
      | exact ih0 _ _ _ _ _ _ _ _ _
      | exact tenter_forecast_dry.mono _ _ _ _ _ _ _ _
      | exact LeO.none _
      | refine LeO.ite ?_ ?_
      | refine LeO.bind ?_ (fun _ => ?_)
theorem tenter_Dry.mono : ∀ a0 a1 a2 a3 a4 a5 k, LeO (tenter_Dry.f k a0 a1 a2 a3 a4 a5) (tenter_Dry.f (k + 1) a0 a1 a2 a3 a4 a5) := by
  intro a0 a1 a2 a3 a4 a5 k
  have ih0 := tenter_Dry.mono_l k
  unfold tenter_Dry.f
  repeat' first
      | (with_reducible exact ih0 _ _ _ _ _ _ _ _ _)
      | (with_reducible exact tenter_forecast_dry.mono _ _ _ _ _ _ _ _)
      | (with_reducible exact LeO.refl _)
      | (with_reducible exact LeO.none _)
      | (with_reducible refine LeO.ite ?_ ?_)
      | (with_reducible refine LeO.bind ?_ (fun _ => ?_))
      | exact ih0 _ _ _ _ _ _ _ _ _
      | exact tenter_forecast_dry.mono _ _ _ _ _ _ _ _
      | exact LeO.none _
      | refine LeO.ite ?_ ?_
      | refine LeO.bind ?_ (fun _ => ?_)
set_option maxHeartbeats 8000000 in
set_option maxRecDepth 100000 in
theorem tenter_Dry.calls (k : Nat) (A0_0 : Option Addr) (c0_0 : Nat) (l0_0 : List (S43)) (A0_1 : Option Addr) (c0_1 : Nat) (l0_1 : List Int) (a0_2 : Int) (a0_3 : Int) (A1 : Option Addr) (c1 : Nat) (l1 : List (S36)) (a2 : Int) (r1 : List (S36)) (r2 : Int) (w : World) (hr0_0 : Kd.C k43 w A0_0 l0_0.length l0_0) (hc0_0 : l0_0.length ≤ c0_0) (hr0_1 : Kd.C (Kd.int .i64) w A0_1 l0_1.length l0_1) (hc0_1 : l0_1.length ≤ c0_1) (hr1 : Kd.C k36 w A1 l1.length l1) (hc1 : l1.length ≤ c1) (h : tenter_Dry.f k l0_0 l0_1 a0_2 a0_3 l1 a2 = some (r1, r2)) :
    Calls Tryz.prog 34 #[.agg #[.slice A0_0 l0_0.length c0_0, .slice A0_1 l0_1.length c0_1, .int .i64 a0_2, .int .i64 a0_3], .slice A1 l1.length c1, .int .i64 a2] w fun e w' => ∃ v0_ : Value, e = .returned (.tuple #[v0_, .int .i64 r2]) ∧ Kd.R k36 36 w' w.heap.size (fun _ => True) v0_ r1 ∧ Below w.heap.size w w' := by
  have hu25 := Tryz.underlying25
  have hu121 := Tryz.underlying121
  have HR0_0 := Aside0.mk hr0_0
  have HC0_0 := Aside0.mk hc0_0
  clear hr0_0 hc0_0
  have HR0_1 := Aside0.mk hr0_1
  have HC0_1 := Aside0.mk hc0_1
  clear hr0_1 hc0_1
  have HR1 := Aside0.mk hr1
  have HC1 := Aside0.mk hc1
  clear hr1 hc1
  have HB := Aside0.mk (Below.refl w.heap.size w)
  have H : ((tenter_newForecast.f l0_0 l0_1 a0_2 a0_3 l1 a2).bind fun bt102 => (if bt102.2.2.2.2.2 = 0 then (tenter_Dry.l0 k a2 ([] : List (S36)) (l0_0.length : Int) 0 bt102.1 bt102.2.1 bt102.2.2.1 bt102.2.2.2.1 bt102.2.2.2.2.1) else (some (([] : List (S36)), bt102.2.2.2.2.2)))) = some (r1, r2) := h
  clear h
  replace H := Option.bind_eq_some_iff.mp H
  obtain ⟨⟨t102, t105, t108, t109, t110, t113⟩, A40, H⟩ := H
  replace H : (if t113 = 0 then (tenter_Dry.l0 k a2 ([] : List (S36)) (l0_0.length : Int) 0 t102 t105 t108 t109 t110) else (some (([] : List (S36)), t113))) = some (r1, r2) := H
  have A4 := Aside0.mk A40
  clear A40
  by_cases c5 : t113 = 0
  · rw [if_pos c5] at H
    have c5b0 : (t113 == 0) = true := beq_iff_eq.mpr c5
    have c5b1 : (t113 != 0) = false := bne_eq_false_iff_eq.mpr c5
    clear c5
    have H' := Aside0.mk H
    clear H
    go_enter Tryz.func34, Tryz.ntmps34
    go_wp2_with (first | ((with_reducible refine gate_dst (N := 3) rfl ?_); refine box_event ?hg (N := 3) ?hd (cs := #[.slice A0_0 l0_0.length c0_0, .slice A0_1 l0_1.length c0_1, .int .i64 a0_2, .int .i64 a0_3]) (t := 25) ?hr ?_; (case hd => rfl); (case hg => rfl); (case hr => first | (go_simp; done) | (go_simp; rfl)); intro gb101 hg w6 hbox hb; have n0_ := Aside0.mk (below_step (by repeat (first | (with_reducible first | exact HB.out | apply below_alloc | apply pw_below_drewN | apply below_drew1) | exact HB.out)) hb); have n1_ := Aside0.mk (hbox); have n2_ := Aside0.mk ((by rw [hg]; exact (below_size (by repeat (first | (with_reducible first | exact HB.out | apply below_alloc | apply pw_below_drewN | apply below_drew1) | exact HB.out))) : w.heap.size ≤ gb101)); have n3_ := Aside0.mk ((by rw [hg]; exact (below_size (by repeat (first | (with_reducible first | exact HB.out | apply below_alloc | apply pw_below_drewN | apply below_drew1) | exact HB.out))) : w.heap.size ≤ gb101)); clear HB; have HB := n0_; have BK101 := n1_; have GW101 := n2_; have GE101 := n3_; clear n0_ n1_ n2_ n3_; clear hb hbox hg; have hcz7_0 : w6.cell? ⟨gb101, 0, none⟩ = some (.slice A0_0 l0_0.length c0_0) := (blk_cell BK101.out 0).trans rfl; have hcz7_1 : w6.cell? ⟨gb101, 1, none⟩ = some (.slice A0_1 l0_1.length c0_1) := (blk_cell BK101.out 1).trans rfl; have hcz7_2 : w6.cell? ⟨gb101, 2, none⟩ = some (.int .i64 a0_2) := (blk_cell BK101.out 2).trans rfl; have hcz7_3 : w6.cell? ⟨gb101, 3, none⟩ = some (.int .i64 a0_3) := (blk_cell BK101.out 3).trans rfl; have hfz7_0 := blk_frozen BK101.out 0; have hfz7_1 := blk_frozen BK101.out 1; have hfz7_2 := blk_frozen BK101.out 2; have hfz7_3 := blk_frozen BK101.out 3) | ((with_reducible refine gate_callee (f := 78) rfl ?_); refine goesL_ (some 14) rfl rfl Tryz.func78 (by kernel_rfl) rfl #[.agg #[.slice A0_0 l0_0.length c0_0, .slice A0_1 l0_1.length c0_1, .int .i64 a0_2, .int .i64 a0_3], .slice A1 l1.length c1, .int .i64 a2] rfl (by (try simp only [List.map_toArray, List.map_cons, List.map_nil]); first | done | rfl | (simp only [List.length_drop, List.length_take]; rfl)) ?_; (with_reducible refine (tenter_newForecast.calls (fun k_ => k_ < w.heap.size) _ _ l0_0 (fun k_ => k_ < w.heap.size) _ _ l0_1 a0_2 a0_3 (fun k_ => k_ < w.heap.size) _ _ l1 a2 t102 t105 t108 t109 t110 t113 _ ?side1 ?side2 ?side3 A4.out).mono ?_); (case side1 => exact Kd.V_mk HC0_0.out (Kd.F_below (Kd.C_F k43_heap HR0_0.out) (by repeat (first | (with_reducible first | exact HB.out | apply below_alloc | apply pw_below_drewN | apply below_drew1 | refine below_set ?_ GE101.out) | exact HB.out)))); (case side2 => exact Kd.V_mk HC0_1.out (Kd.F_below (Kd.C_F (Kd.heap_int .i64) HR0_1.out) (by repeat (first | (with_reducible first | exact HB.out | apply below_alloc | apply pw_below_drewN | apply below_drew1 | refine below_set ?_ GE101.out) | exact HB.out)))); (case side3 => exact Kd.V_mk HC1.out (Kd.F_below (Kd.C_F k36_heap HR1.out) (by repeat (first | (with_reducible first | exact HB.out | apply below_alloc | apply pw_below_drewN | apply below_drew1 | refine below_set ?_ GE101.out) | exact HB.out)))); rintro e w8 ⟨v103, v106, v111, rfl, ho0, ho1, ho2, hb⟩; refine ⟨_, rfl, ?_⟩; have n0_ := Aside0.mk (Kd.V_lower (Kd.V_mono (ok' := fun k_ => k_ ≠ gb101) ho0 (fun k_ hk_ => Or.elim hk_ (fun hs_ => Or.elim hs_ (fun hs_ => fun e_ => Nat.not_le.2 hs_ (by rw [e_]; exact GW101.out)) (fun hs_ => Or.elim hs_ (fun hs_ => fun e_ => Nat.not_le.2 hs_ (by rw [e_]; exact GW101.out)) (fun hs_ => fun e_ => Nat.not_le.2 hs_ (by rw [e_]; exact GW101.out)))) (fun hn_ => (Kd.freshB (g := gb101) (o := .cells #[.slice A0_0 l0_0.length c0_0, .slice A0_1 l0_1.length c0_1, .int .i64 a0_2, .int .i64 a0_3] 25 (0, 0)) (by (with_reducible repeat (first | refine blk_drewN ?_ _ | refine blk_drew ?_ | refine blk_alloc ?_ _)); exact BK101.out) k_ hn_)))) (below_size (by repeat (first | (with_reducible first | exact HB.out | apply below_alloc | apply pw_below_drewN | apply below_drew1 | refine below_set ?_ GE101.out) | exact HB.out)))); have n1_ := Aside0.mk (Kd.V_lower (Kd.V_mono (ok' := fun k_ => k_ ≠ gb101) ho1 (fun k_ hk_ => Or.elim hk_ (fun hs_ => Or.elim hs_ (fun hs_ => fun e_ => Nat.not_le.2 hs_ (by rw [e_]; exact GW101.out)) (fun hs_ => Or.elim hs_ (fun hs_ => fun e_ => Nat.not_le.2 hs_ (by rw [e_]; exact GW101.out)) (fun hs_ => fun e_ => Nat.not_le.2 hs_ (by rw [e_]; exact GW101.out)))) (fun hn_ => (Kd.freshB (g := gb101) (o := .cells #[.slice A0_0 l0_0.length c0_0, .slice A0_1 l0_1.length c0_1, .int .i64 a0_2, .int .i64 a0_3] 25 (0, 0)) (by (with_reducible repeat (first | refine blk_drewN ?_ _ | refine blk_drew ?_ | refine blk_alloc ?_ _)); exact BK101.out) k_ hn_)))) (below_size (by repeat (first | (with_reducible first | exact HB.out | apply below_alloc | apply pw_below_drewN | apply below_drew1 | refine below_set ?_ GE101.out) | exact HB.out)))); have n2_ := Aside0.mk (Kd.V_lower (Kd.V_mono (ok' := fun k_ => k_ ≠ gb101) ho2 (fun k_ hk_ => Or.elim hk_ (fun hs_ => Or.elim hs_ (fun hs_ => fun e_ => Nat.not_le.2 hs_ (by rw [e_]; exact GW101.out)) (fun hs_ => Or.elim hs_ (fun hs_ => fun e_ => Nat.not_le.2 hs_ (by rw [e_]; exact GW101.out)) (fun hs_ => fun e_ => Nat.not_le.2 hs_ (by rw [e_]; exact GW101.out)))) (fun hn_ => (Kd.freshB (g := gb101) (o := .cells #[.slice A0_0 l0_0.length c0_0, .slice A0_1 l0_1.length c0_1, .int .i64 a0_2, .int .i64 a0_3] 25 (0, 0)) (by (with_reducible repeat (first | refine blk_drewN ?_ _ | refine blk_drew ?_ | refine blk_alloc ?_ _)); exact BK101.out) k_ hn_)))) (below_size (by repeat (first | (with_reducible first | exact HB.out | apply below_alloc | apply pw_below_drewN | apply below_drew1 | refine below_set ?_ GE101.out) | exact HB.out)))); have n3_ := Aside0.mk (blk_below (g := gb101) (o := .cells #[.slice A0_0 l0_0.length c0_0, .slice A0_1 l0_1.length c0_1, .int .i64 a0_2, .int .i64 a0_3] 25 (0, 0)) (by (with_reducible repeat (first | refine blk_drewN ?_ _ | refine blk_drew ?_ | refine blk_alloc ?_ _)); exact BK101.out) hb); have n4_ := Aside0.mk (below_step (by repeat (first | (with_reducible first | exact HB.out | apply below_alloc | apply pw_below_drewN | apply below_drew1 | refine below_set ?_ GE101.out) | exact HB.out)) hb); clear BK101; clear HB; have HO104 := n0_; have HO107 := n1_; have HO112 := n2_; have BK101 := n3_; have HB := n4_; clear n0_ n1_ n2_ n3_ n4_; (try clear hb); (try clear hb2); (try clear hk); (try clear hi); (try clear ho0); (try clear ho1); (try clear ho2)) | ((with_reducible refine gate_dst (N := 8) rfl ?_); refine box_event ?hg (N := 8) ?hd (cs := #[.slice none 0 0, .slice none 0 0, .int .i64 0, .int .i64 0, .slice none 0 0]) (t := 121) ?hr ?_; (case hd => rfl); (case hg => rfl); (case hr => first | (go_simp; done) | (go_simp; rfl)); intro gb114 hg w9 hbox hb; have n0_ := Aside0.mk (Kd.V_below (Kd.V_elderB (by (with_reducible repeat (first | apply Kd.V_alloc | apply Kd.V_drewN | apply Kd.V_drew)); exact HO104.out) gb114 (Nat.le_of_eq hg.symm)) hb); have n1_ := Aside0.mk (Kd.V_below (Kd.V_elderB (by (with_reducible repeat (first | apply Kd.V_alloc | apply Kd.V_drewN | apply Kd.V_drew)); exact HO107.out) gb114 (Nat.le_of_eq hg.symm)) hb); have n2_ := Aside0.mk (Kd.V_below (Kd.V_elderB (by (with_reducible repeat (first | apply Kd.V_alloc | apply Kd.V_drewN | apply Kd.V_drew)); exact HO112.out) gb114 (Nat.le_of_eq hg.symm)) hb); have n3_ := Aside0.mk (blk_below (g := gb101) (o := .cells #[.slice A0_0 l0_0.length c0_0, .slice A0_1 l0_1.length c0_1, .int .i64 a0_2, .int .i64 a0_3] 25 (0, 0)) (by (with_reducible repeat (first | refine blk_drewN ?_ _ | refine blk_drew ?_ | refine blk_alloc ?_ _)); exact BK101.out) hb); have n4_ := Aside0.mk (below_step (by repeat (first | (with_reducible first | exact HB.out | apply below_alloc | apply pw_below_drewN | apply below_drew1 | refine below_set ?_ GE101.out) | exact HB.out)) hb); have n5_ := Aside0.mk (hbox); have n6_ := Aside0.mk ((by rw [hg]; exact (below_size (by repeat (first | (with_reducible first | exact HB.out | apply below_alloc | apply pw_below_drewN | apply below_drew1 | refine below_set ?_ GE101.out) | exact HB.out))) : w.heap.size ≤ gb114)); have n7_ := Aside0.mk ((by rw [hg]; exact (below_size (by repeat (first | (with_reducible first | exact HB.out | apply below_alloc | apply pw_below_drewN | apply below_drew1 | refine below_set ?_ GE101.out) | exact HB.out))) : w.heap.size ≤ gb114)); have n8_ := Aside0.mk ((by rw [hg]; exact Nat.ne_of_lt (blk_lt (g := gb101) (o := .cells #[.slice A0_0 l0_0.length c0_0, .slice A0_1 l0_1.length c0_1, .int .i64 a0_2, .int .i64 a0_3] 25 (0, 0)) (by (with_reducible repeat (first | refine blk_drewN ?_ _ | refine blk_drew ?_ | refine blk_alloc ?_ _)); exact BK101.out)) : gb101 ≠ gb114)); have n9_ := Aside0.mk ((by rw [hg]; exact Nat.ne_of_gt (blk_lt (g := gb101) (o := .cells #[.slice A0_0 l0_0.length c0_0, .slice A0_1 l0_1.length c0_1, .int .i64 a0_2, .int .i64 a0_3] 25 (0, 0)) (by (with_reducible repeat (first | refine blk_drewN ?_ _ | refine blk_drew ?_ | refine blk_alloc ?_ _)); exact BK101.out)) : gb114 ≠ gb101)); clear HO104; clear HO107; clear HO112; clear BK101; clear HB; have HO104 := n0_; have HO107 := n1_; have HO112 := n2_; have BK101 := n3_; have HB := n4_; have BK114 := n5_; have GW114 := n6_; have GE114 := n7_; have NB101_114 := n8_; have NB114_101 := n9_; clear n0_ n1_ n2_ n3_ n4_ n5_ n6_ n7_ n8_ n9_; clear hb hbox hg; obtain ⟨Ao10, co10, eo10⟩ := Kd.V_slice HO104.out; subst eo10; have hnb11 := NB114_101.out; have hnc11 := NB101_114.out; have hcz12_0 : w9.cell? ⟨gb114, 0, none⟩ = some (.slice none 0 0) := (blk_cell BK114.out 0).trans rfl; have hcz12_1 : w9.cell? ⟨gb114, 1, none⟩ = some (.slice none 0 0) := (blk_cell BK114.out 1).trans rfl; have hcz12_2 : w9.cell? ⟨gb114, 2, none⟩ = some (.int .i64 0) := (blk_cell BK114.out 2).trans rfl; have hcz12_3 : w9.cell? ⟨gb114, 3, none⟩ = some (.int .i64 0) := (blk_cell BK114.out 3).trans rfl; have hcz12_4 : w9.cell? ⟨gb114, 4, none⟩ = some (.slice none 0 0) := (blk_cell BK114.out 4).trans rfl; have hfz12_0 := blk_frozen BK114.out 0; have hfz12_1 := blk_frozen BK114.out 1; have hfz12_2 := blk_frozen BK114.out 2; have hfz12_3 := blk_frozen BK114.out 3; have hfz12_4 := blk_frozen BK114.out 4; obtain ⟨Ao13, co13, eo13⟩ := Kd.V_slice HO107.out; subst eo13; obtain ⟨Ao14, co14, eo14⟩ := Kd.V_slice HO112.out; subst eo14; have hcz15_0 : w9.cell? ⟨gb101, 0, none⟩ = some (.slice A0_0 l0_0.length c0_0) := (blk_cell BK101.out 0).trans rfl; have hcz15_1 : w9.cell? ⟨gb101, 1, none⟩ = some (.slice A0_1 l0_1.length c0_1) := (blk_cell BK101.out 1).trans rfl; have hcz15_2 : w9.cell? ⟨gb101, 2, none⟩ = some (.int .i64 a0_2) := (blk_cell BK101.out 2).trans rfl; have hcz15_3 : w9.cell? ⟨gb101, 3, none⟩ = some (.int .i64 a0_3) := (blk_cell BK101.out 3).trans rfl; have hfz15_0 := blk_frozen BK101.out 0; have hfz15_1 := blk_frozen BK101.out 1; have hfz15_2 := blk_frozen BK101.out 2; have hfz15_3 := blk_frozen BK101.out 3))
    go_loopg [6, 23] k (fun kq v6 v23 w' => ∃ (x6_1 : List (S36)) (x23_1 : Int), v23 = .int .i64 x23_1 ∧ Aside0 (tenter_Dry.l0 kq a2 x6_1 (l0_0.length : Int) x23_1 t102 t105 t108 t109 t110 = some (r1, r2)) ∧ Aside0 (kq ≤ k) ∧ Aside0 (Kd.R k36 36 w' w.heap.size (fun _ => True) v6 x6_1) ∧ Aside0 (Kd.V k43 43 w' w.heap.size (fun k_ => some k_ ≠ (v6 : Value).ownBlock ∧ k_ ≠ gb101 ∧ k_ ≠ gb114) (.slice Ao10 t102.length co10) t102) ∧ Aside0 (Kd.V (Kd.int .i64) 3 w' w.heap.size (fun k_ => some k_ ≠ (v6 : Value).ownBlock ∧ k_ ≠ gb101 ∧ k_ ≠ gb114) (.slice Ao13 t105.length co13) t105) ∧ Aside0 (Kd.V k36 36 w' w.heap.size (fun k_ => some k_ ≠ (v6 : Value).ownBlock ∧ k_ ≠ gb101 ∧ k_ ≠ gb114) (.slice Ao14 t110.length co14) t110) ∧ Aside0 (w'.heap[gb101]? = some (.cells #[(.slice A0_0 l0_0.length c0_0), (.slice A0_1 l0_1.length c0_1), .int .i64 a0_2, .int .i64 a0_3] 25 (0, 0))) ∧ Aside0 (w'.heap[gb114]? = some (.cells #[(.slice Ao10 t102.length co10), (.slice Ao13 t105.length co13), .int .i64 t108, .int .i64 t109, (.slice Ao14 t110.length co14)] 121 (0, 0))) ∧ Aside0 (Below w.heap.size w w'))
    case atStart => exact ⟨(([] : List (S36))), (0), (by first | rfl | (simp; done) | (simp [*]; done)), H', ⟨Nat.le_refl _⟩, ⟨by first | exact Kd.R_nil _ _ _ _ _ | exact Kd.N_nil _ _ _ _ _ | exact Kd.V_nil _ _ _ _ _ | exact Kd.Q_nil _ _ _ _ _ | exact Kd.S_nil _ _ _ _ _⟩, ⟨by (with_reducible repeat (first | apply Kd.V_alloc | apply Kd.V_drewN | apply Kd.V_drew)); exact Kd.V_mono (Kd.V_far (p := ⟨gb114, 4, none⟩) (Kd.V_far (p := ⟨gb114, 3, none⟩) (Kd.V_far (p := ⟨gb114, 2, none⟩) (Kd.V_far (p := ⟨gb114, 1, none⟩) (Kd.V_far (p := ⟨gb114, 0, none⟩) (Kd.V_mono HO104.out (fun k_ hk => (⟨hk, hk.2⟩ : _ ∧ k_ ≠ gb114))) (fun _ hk => hk.2) (.slice Ao10 t102.length co10)) (fun _ hk => hk.2) (.slice Ao13 t105.length co13)) (fun _ hk => hk.2) (.int .i64 t108)) (fun _ hk => hk.2) (.int .i64 t109)) (fun _ hk => hk.2) (.slice Ao14 t110.length co14)) (fun _ hk => ⟨(by simp [Value.ownBlock]), ⟨hk.1.1, hk.1.2⟩⟩)⟩, ⟨by (with_reducible repeat (first | apply Kd.V_alloc | apply Kd.V_drewN | apply Kd.V_drew)); exact Kd.V_mono (Kd.V_far (p := ⟨gb114, 4, none⟩) (Kd.V_far (p := ⟨gb114, 3, none⟩) (Kd.V_far (p := ⟨gb114, 2, none⟩) (Kd.V_far (p := ⟨gb114, 1, none⟩) (Kd.V_far (p := ⟨gb114, 0, none⟩) (Kd.V_mono HO107.out (fun k_ hk => (⟨hk, hk.2⟩ : _ ∧ k_ ≠ gb114))) (fun _ hk => hk.2) (.slice Ao10 t102.length co10)) (fun _ hk => hk.2) (.slice Ao13 t105.length co13)) (fun _ hk => hk.2) (.int .i64 t108)) (fun _ hk => hk.2) (.int .i64 t109)) (fun _ hk => hk.2) (.slice Ao14 t110.length co14)) (fun _ hk => ⟨(by simp [Value.ownBlock]), ⟨hk.1.1, hk.1.2⟩⟩)⟩, ⟨by (with_reducible repeat (first | apply Kd.V_alloc | apply Kd.V_drewN | apply Kd.V_drew)); exact Kd.V_mono (Kd.V_far (p := ⟨gb114, 4, none⟩) (Kd.V_far (p := ⟨gb114, 3, none⟩) (Kd.V_far (p := ⟨gb114, 2, none⟩) (Kd.V_far (p := ⟨gb114, 1, none⟩) (Kd.V_far (p := ⟨gb114, 0, none⟩) (Kd.V_mono HO112.out (fun k_ hk => (⟨hk, hk.2⟩ : _ ∧ k_ ≠ gb114))) (fun _ hk => hk.2) (.slice Ao10 t102.length co10)) (fun _ hk => hk.2) (.slice Ao13 t105.length co13)) (fun _ hk => hk.2) (.int .i64 t108)) (fun _ hk => hk.2) (.int .i64 t109)) (fun _ hk => hk.2) (.slice Ao14 t110.length co14)) (fun _ hk => ⟨(by simp [Value.ownBlock]), ⟨hk.1.1, hk.1.2⟩⟩)⟩, ⟨by (with_reducible repeat (first | refine blk_drewN ?_ _ | refine blk_drew ?_ | refine blk_alloc ?_ _)); refine blk_far ?_ NB101_114.out _; (with_reducible repeat (first | refine blk_drewN ?_ _ | refine blk_drew ?_ | refine blk_alloc ?_ _)); refine blk_far ?_ NB101_114.out _; (with_reducible repeat (first | refine blk_drewN ?_ _ | refine blk_drew ?_ | refine blk_alloc ?_ _)); refine blk_far ?_ NB101_114.out _; (with_reducible repeat (first | refine blk_drewN ?_ _ | refine blk_drew ?_ | refine blk_alloc ?_ _)); refine blk_far ?_ NB101_114.out _; (with_reducible repeat (first | refine blk_drewN ?_ _ | refine blk_drew ?_ | refine blk_alloc ?_ _)); refine blk_far ?_ NB101_114.out _; (with_reducible repeat (first | refine blk_drewN ?_ _ | refine blk_drew ?_ | refine blk_alloc ?_ _)); exact BK101.out⟩, ⟨by (with_reducible repeat (first | refine blk_drewN ?_ _ | refine blk_drew ?_ | refine blk_alloc ?_ _)); refine blk_put (cs := #[.slice Ao10 t102.length co10, .slice Ao13 t105.length co13, .int .i64 t108, .int .i64 t109, .slice none 0 0]) ?_ 4 _ rfl; (with_reducible repeat (first | refine blk_drewN ?_ _ | refine blk_drew ?_ | refine blk_alloc ?_ _)); refine blk_put (cs := #[.slice Ao10 t102.length co10, .slice Ao13 t105.length co13, .int .i64 t108, .int .i64 0, .slice none 0 0]) ?_ 3 _ rfl; (with_reducible repeat (first | refine blk_drewN ?_ _ | refine blk_drew ?_ | refine blk_alloc ?_ _)); refine blk_put (cs := #[.slice Ao10 t102.length co10, .slice Ao13 t105.length co13, .int .i64 0, .int .i64 0, .slice none 0 0]) ?_ 2 _ rfl; (with_reducible repeat (first | refine blk_drewN ?_ _ | refine blk_drew ?_ | refine blk_alloc ?_ _)); refine blk_put (cs := #[.slice Ao10 t102.length co10, .slice none 0 0, .int .i64 0, .int .i64 0, .slice none 0 0]) ?_ 1 _ rfl; (with_reducible repeat (first | refine blk_drewN ?_ _ | refine blk_drew ?_ | refine blk_alloc ?_ _)); refine blk_put (cs := #[.slice none 0 0, .slice none 0 0, .int .i64 0, .int .i64 0, .slice none 0 0]) ?_ 0 _ rfl; (with_reducible repeat (first | refine blk_drewN ?_ _ | refine blk_drew ?_ | refine blk_alloc ?_ _)); exact BK114.out⟩, ⟨by repeat (first | (with_reducible first | exact HB.out | apply below_alloc | apply pw_below_drewN | apply below_drew1 | refine below_set ?_ GE101.out | refine below_set ?_ GE114.out) | exact HB.out)⟩⟩
    case round =>
      clear H'
      try clear c1
      try clear p2
      try clear c3
      try clear c5
      try clear c5b0
      try clear c5b1
      try clear c7
      try clear c11
      try clear hcz12_0
      try clear hcz12_1
      try clear hcz12_2
      try clear hcz12_3
      try clear hcz12_4
      try clear hcz15_0
      try clear hcz15_1
      try clear hcz15_2
      try clear hcz15_3
      try clear hcz7_0
      try clear hcz7_1
      try clear hcz7_2
      try clear hcz7_3
      try clear hfz12_0
      try clear hfz12_1
      try clear hfz12_2
      try clear hfz12_3
      try clear hfz12_4
      try clear hfz15_0
      try clear hfz15_1
      try clear hfz15_2
      try clear hfz15_3
      try clear hfz7_0
      try clear hfz7_1
      try clear hfz7_2
      try clear hfz7_3
      obtain ⟨x6_1, x23_1, rfl, HA, HK1, HO_6, HO_115000, HO_115001, HO_115004, BK101, BK114, HB⟩ := hrel
      cases gk with
      | zero => exact absurd HA.out (by simp [tenter_Dry.l0])
      | succ k1 =>
        have H := HA.out
        clear HA
        simp only [tenter_Dry.l0] at H
        by_cases c16 : x23_1 < (l0_0.length : Int)
        · rw [if_pos c16] at H
          have c16b0 : decide (x23_1 < (l0_0.length : Int)) = true := decide_eq_true c16
          clear c16
          replace H := Option.bind_eq_some_iff.mp H
          obtain ⟨⟨t115, t116⟩, A170, H⟩ := H
          replace H : (if x6_1.length < 8796093022208 then (tenter_Dry.l0 k1 a2 (x6_1 ++ [(⟨t115, t116⟩ : S36)]) (l0_0.length : Int) (wrap64 (x23_1 + 1)) t102 t105 t108 t109 t110) else (none)) = some (r1, r2) := H
          have A17 := Aside0.mk A170
          clear A170
          by_cases c18 : x6_1.length < 8796093022208
          · rw [if_pos c18] at H
            have LMc18 := Aside0.mk c18
            clear c18
            obtain ⟨y117, hy117⟩ : ∃ y_ : List (S36), y_ = (x6_1 ++ [(⟨t115, t116⟩ : S36)]) := ⟨_, rfl⟩
            replace H : (tenter_Dry.l0 k1 a2 y117 (l0_0.length : Int) (wrap64 (x23_1 + 1)) t102 t105 t108 t109 t110) = some (r1, r2) := by first | (rw [hy117]; with_reducible exact H) | (have H2_ := (Option.bind_some _ _).symm.trans H; rw [hy117]; with_reducible exact H2_) | (have H2_ := (Option.bind_some _ _).symm.trans H; with_reducible exact H2_) | with_reducible exact H | (rw [hy117]; exact H) | exact H
            have Ny117 := Aside0.mk hy117
            clear hy117
            have H' := Aside0.mk H
            clear H
            have hnb19 := NB114_101.out
            have hnc19 := NB101_114.out
            have hcz20_0 : wr.cell? ⟨gb114, 0, none⟩ = some (.slice Ao10 t102.length co10) := (blk_cell BK114.out 0).trans rfl
            have hcz20_1 : wr.cell? ⟨gb114, 1, none⟩ = some (.slice Ao13 t105.length co13) := (blk_cell BK114.out 1).trans rfl
            have hcz20_2 : wr.cell? ⟨gb114, 2, none⟩ = some (.int .i64 t108) := (blk_cell BK114.out 2).trans rfl
            have hcz20_3 : wr.cell? ⟨gb114, 3, none⟩ = some (.int .i64 t109) := (blk_cell BK114.out 3).trans rfl
            have hcz20_4 : wr.cell? ⟨gb114, 4, none⟩ = some (.slice Ao14 t110.length co14) := (blk_cell BK114.out 4).trans rfl
            have hfz20_0 := blk_frozen BK114.out 0
            have hfz20_1 := blk_frozen BK114.out 1
            have hfz20_2 := blk_frozen BK114.out 2
            have hfz20_3 := blk_frozen BK114.out 3
            have hfz20_4 := blk_frozen BK114.out 4
            go_wp2_with (first | ((with_reducible refine gate_callee (f := 79) rfl ?_); refine goesL_ (some 30) rfl rfl Tryz.func79 (by kernel_rfl) rfl #[.agg #[.slice Ao10 t102.length co10, .slice Ao13 t105.length co13, .int .i64 t108, .int .i64 t109, .slice Ao14 t110.length co14], .int .i64 x23_1, .int .i64 a2] rfl (by (try simp only [List.map_toArray, List.map_cons, List.map_nil]); first | done | rfl | (simp only [List.length_drop, List.length_take]; rfl)) ?_; (with_reducible refine (tenter_forecast_dry.calls k1 _ _ t102 _ _ t105 t108 t109 _ _ t110 x23_1 a2 t115 t116 _ ?side1 ?side2 ?side3 ?side4 ?side5 ?side6 A17.out).mono ?_); (case side1 => repeat (first | exact (Kd.V_reads' HO_115000.out).2.2 | (with_reducible refine Kd.C_alloc ?_ _) | (with_reducible refine Kd.C_drewN ?_ _) | (with_reducible refine Kd.C_drew ?_))); (case side2 => exact (Kd.V_reads' HO_115000.out).2.1); (case side3 => repeat (first | exact (Kd.V_reads' HO_115001.out).2.2 | (with_reducible refine Kd.C_alloc ?_ _) | (with_reducible refine Kd.C_drewN ?_ _) | (with_reducible refine Kd.C_drew ?_))); (case side4 => exact (Kd.V_reads' HO_115001.out).2.1); (case side5 => repeat (first | exact (Kd.V_reads' HO_115004.out).2.2 | (with_reducible refine Kd.C_alloc ?_ _) | (with_reducible refine Kd.C_drewN ?_ _) | (with_reducible refine Kd.C_drew ?_))); (case side6 => exact (Kd.V_reads' HO_115004.out).2.1); rintro e w21 ⟨rfl, hb⟩; refine ⟨_, rfl, ?_⟩; have n0_ := Aside0.mk (Kd.R_below (by (with_reducible repeat (first | apply Kd.R_alloc | apply Kd.R_drewN | apply Kd.R_drew)); exact HO_6.out) hb); have n1_ := Aside0.mk (Kd.V_below (by (with_reducible repeat (first | apply Kd.V_alloc | apply Kd.V_drewN | apply Kd.V_drew)); exact HO_115000.out) hb); have n2_ := Aside0.mk (Kd.V_below (by (with_reducible repeat (first | apply Kd.V_alloc | apply Kd.V_drewN | apply Kd.V_drew)); exact HO_115001.out) hb); have n3_ := Aside0.mk (Kd.V_below (by (with_reducible repeat (first | apply Kd.V_alloc | apply Kd.V_drewN | apply Kd.V_drew)); exact HO_115004.out) hb); have n4_ := Aside0.mk (blk_below (g := gb101) (o := .cells #[.slice A0_0 l0_0.length c0_0, .slice A0_1 l0_1.length c0_1, .int .i64 a0_2, .int .i64 a0_3] 25 (0, 0)) (by (with_reducible repeat (first | refine blk_drewN ?_ _ | refine blk_drew ?_ | refine blk_alloc ?_ _)); exact BK101.out) hb); have n5_ := Aside0.mk (blk_below (g := gb114) (o := .cells #[.slice Ao10 t102.length co10, .slice Ao13 t105.length co13, .int .i64 t108, .int .i64 t109, .slice Ao14 t110.length co14] 121 (0, 0)) (by (with_reducible repeat (first | refine blk_drewN ?_ _ | refine blk_drew ?_ | refine blk_alloc ?_ _)); exact BK114.out) hb); have n6_ := Aside0.mk (below_step (by repeat (first | (with_reducible first | exact HB.out | apply below_alloc | apply pw_below_drewN | apply below_drew1 | refine below_set ?_ GE101.out | refine below_set ?_ GE114.out) | exact HB.out)) hb); clear HO_6; clear HO_115000; clear HO_115001; clear HO_115004; clear BK101; clear BK114; clear HB; have HO_6 := n0_; have HO_115000 := n1_; have HO_115001 := n2_; have HO_115004 := n3_; have BK101 := n4_; have BK114 := n5_; have HB := n6_; clear n0_ n1_ n2_ n3_ n4_ n5_ n6_; (try clear hb); (try clear hb2); (try clear hk); (try clear hi)) | ((with_reducible refine gate_builtin (b := .append) (xs := #[.tmp 26, .tmp 31]) rfl ?_); at_builtin; refine Kd.R_append k36 (w0 := w) w.heap.size rfl (.tmp 26) (.tmp 31) 31 36 (.agg #[(.int .i64 0), (.int .i64 0)]) 16 rfl Tryz.underlying31 info36 rfl (by decide) (by omega) u6 x6_1 (⟨t115, t116⟩ : S36) [.int .i64 t115, .int .i64 t116] (fun _ => True) (fun _ => False) rfl rfl ?aP (fun _ hk => hk.elim) ?aF ?aO ?aB ?aS ?aL ?_; (case aP => exact k36_mkM _ _ _ (⟨t115, t116⟩ : S36)); (case aB => exact (by repeat (first | (with_reducible first | exact HB.out | apply below_alloc | apply pw_below_drewN | apply below_drew1 | refine below_set ?_ GE101.out | refine below_set ?_ GE114.out) | exact HB.out))); (case aF => exact (fun _ _ => trivial)); (case aO => exact (by (with_reducible repeat (first | apply Kd.R_alloc | apply Kd.R_drewN | apply Kd.R_drew)); exact HO_6.out)); (case aS => exact (below_size (by repeat (first | (with_reducible first | exact HB.out | apply below_alloc | apply pw_below_drewN | apply below_drew1 | refine below_set ?_ GE101.out | refine below_set ?_ GE114.out) | exact HB.out)))); (case aL => have := LMc18.out; omega); intro v118 w22 ho hb hg hat; rw [← Ny117.out] at ho; have n0_ := Aside0.mk (Kd.V_afterv (ok := (fun k_ => k_ ≠ gb101 ∧ k_ ≠ gb114)) (by (with_reducible repeat (first | apply Kd.V_alloc | apply Kd.V_drewN | apply Kd.V_drew)); exact Kd.V_mono HO_115000.out (fun _ hk => ⟨⟨hk.2.1, hk.2.2⟩, hk.1⟩)) hg hat); have n1_ := Aside0.mk (Kd.V_afterv (ok := (fun k_ => k_ ≠ gb101 ∧ k_ ≠ gb114)) (by (with_reducible repeat (first | apply Kd.V_alloc | apply Kd.V_drewN | apply Kd.V_drew)); exact Kd.V_mono HO_115001.out (fun _ hk => ⟨⟨hk.2.1, hk.2.2⟩, hk.1⟩)) hg hat); have n2_ := Aside0.mk (Kd.V_afterv (ok := (fun k_ => k_ ≠ gb101 ∧ k_ ≠ gb114)) (by (with_reducible repeat (first | apply Kd.V_alloc | apply Kd.V_drewN | apply Kd.V_drew)); exact Kd.V_mono HO_115004.out (fun _ hk => ⟨⟨hk.2.1, hk.2.2⟩, hk.1⟩)) hg hat); have n3_ := Aside0.mk (blk_grown (g := gb101) (o := .cells #[.slice A0_0 l0_0.length c0_0, .slice A0_1 l0_1.length c0_1, .int .i64 a0_2, .int .i64 a0_3] 25 (0, 0)) (by (with_reducible repeat (first | refine blk_drewN ?_ _ | refine blk_drew ?_ | refine blk_alloc ?_ _)); exact BK101.out) hg (Kd.R_ne HO_6.out BK101.out (by decide))); have n4_ := Aside0.mk (blk_grown (g := gb114) (o := .cells #[.slice Ao10 t102.length co10, .slice Ao13 t105.length co13, .int .i64 t108, .int .i64 t109, .slice Ao14 t110.length co14] 121 (0, 0)) (by (with_reducible repeat (first | refine blk_drewN ?_ _ | refine blk_drew ?_ | refine blk_alloc ?_ _)); exact BK114.out) hg (Kd.R_ne HO_6.out BK114.out (by decide))); have n5_ := Aside0.mk (hb); have n6_ := Aside0.mk (ho); clear HO_115000; clear HO_115001; clear HO_115004; clear BK101; clear BK114; clear HB; clear HO_6; have HO_115000 := n0_; have HO_115001 := n1_; have HO_115004 := n2_; have BK101 := n3_; have BK114 := n4_; have HB := n5_; have HO119 := n6_; clear n0_ n1_ n2_ n3_ n4_ n5_ n6_; clear ho hb hg hat))
            go_roundg k1
            case measure => have := HK1.out; omega
            case rel => exact ⟨(y117), (wrap64 (x23_1 + 1)), (by first | rfl | (simp; done) | (simp [*]; done)), H', ⟨by have := HK1.out; omega⟩, ⟨by (with_reducible repeat (first | apply Kd.R_alloc | apply Kd.R_drewN | apply Kd.R_drew)); exact HO119.out⟩, ⟨by (with_reducible repeat (first | apply Kd.V_alloc | apply Kd.V_drewN | apply Kd.V_drew)); exact Kd.V_mono HO_115000.out (fun _ hk => ⟨hk.2, ⟨hk.1.1, hk.1.2⟩⟩)⟩, ⟨by (with_reducible repeat (first | apply Kd.V_alloc | apply Kd.V_drewN | apply Kd.V_drew)); exact Kd.V_mono HO_115001.out (fun _ hk => ⟨hk.2, ⟨hk.1.1, hk.1.2⟩⟩)⟩, ⟨by (with_reducible repeat (first | apply Kd.V_alloc | apply Kd.V_drewN | apply Kd.V_drew)); exact Kd.V_mono HO_115004.out (fun _ hk => ⟨hk.2, ⟨hk.1.1, hk.1.2⟩⟩)⟩, ⟨by (with_reducible repeat (first | refine blk_drewN ?_ _ | refine blk_drew ?_ | refine blk_alloc ?_ _)); exact BK101.out⟩, ⟨by (with_reducible repeat (first | refine blk_drewN ?_ _ | refine blk_drew ?_ | refine blk_alloc ?_ _)); exact BK114.out⟩, ⟨by repeat (first | (with_reducible first | exact HB.out | apply below_alloc | apply pw_below_drewN | apply below_drew1 | refine below_set ?_ GE101.out | refine below_set ?_ GE114.out) | exact HB.out)⟩⟩
          · rw [if_neg c18] at H
            exact absurd H (by simp)
        · rw [if_neg c16] at H
          have c16b0 : decide (x23_1 < (l0_0.length : Int)) = false := decide_eq_false c16
          clear c16
          simp only [Option.some.injEq, Prod.mk.injEq] at H
          obtain ⟨rfl, rfl⟩ := H
          go_wp2
          go_ret2
          exact ⟨_, by first | rfl | (simp [errW_none, errW_some] <;> rfl) | (simp [*, errW_none, errW_some] <;> rfl), by (with_reducible repeat (first | apply Kd.R_alloc | apply Kd.R_drewN | apply Kd.R_drew)); exact HO_6.out, by repeat (first | (with_reducible first | exact HB.out | apply below_alloc | apply pw_below_drewN | apply below_drew1 | refine below_set ?_ GE101.out | refine below_set ?_ GE114.out) | exact HB.out)⟩
  · rw [if_neg c5] at H
    have c5b0 : (t113 == 0) = false := beq_eq_false_iff_ne.mpr c5
    have c5b1 : (t113 != 0) = true := bne_iff_ne.mpr c5
    simp only [Option.some.injEq, Prod.mk.injEq] at H
    obtain ⟨rfl, rfl⟩ := H
    go_enter Tryz.func34, Tryz.ntmps34
    go_wp2_with (first | ((with_reducible refine gate_dst (N := 3) rfl ?_); refine box_event ?hg (N := 3) ?hd (cs := #[.slice A0_0 l0_0.length c0_0, .slice A0_1 l0_1.length c0_1, .int .i64 a0_2, .int .i64 a0_3]) (t := 25) ?hr ?_; (case hd => rfl); (case hg => rfl); (case hr => first | (go_simp; done) | (go_simp; rfl)); intro gb101 hg w23 hbox hb; have n0_ := Aside0.mk (below_step (by repeat (first | (with_reducible first | exact HB.out | apply below_alloc | apply pw_below_drewN | apply below_drew1) | exact HB.out)) hb); have n1_ := Aside0.mk (hbox); have n2_ := Aside0.mk ((by rw [hg]; exact (below_size (by repeat (first | (with_reducible first | exact HB.out | apply below_alloc | apply pw_below_drewN | apply below_drew1) | exact HB.out))) : w.heap.size ≤ gb101)); have n3_ := Aside0.mk ((by rw [hg]; exact (below_size (by repeat (first | (with_reducible first | exact HB.out | apply below_alloc | apply pw_below_drewN | apply below_drew1) | exact HB.out))) : w.heap.size ≤ gb101)); clear HB; have HB := n0_; have BK101 := n1_; have GW101 := n2_; have GE101 := n3_; clear n0_ n1_ n2_ n3_; clear hb hbox hg; have hcz24_0 : w23.cell? ⟨gb101, 0, none⟩ = some (.slice A0_0 l0_0.length c0_0) := (blk_cell BK101.out 0).trans rfl; have hcz24_1 : w23.cell? ⟨gb101, 1, none⟩ = some (.slice A0_1 l0_1.length c0_1) := (blk_cell BK101.out 1).trans rfl; have hcz24_2 : w23.cell? ⟨gb101, 2, none⟩ = some (.int .i64 a0_2) := (blk_cell BK101.out 2).trans rfl; have hcz24_3 : w23.cell? ⟨gb101, 3, none⟩ = some (.int .i64 a0_3) := (blk_cell BK101.out 3).trans rfl; have hfz24_0 := blk_frozen BK101.out 0; have hfz24_1 := blk_frozen BK101.out 1; have hfz24_2 := blk_frozen BK101.out 2; have hfz24_3 := blk_frozen BK101.out 3) | ((with_reducible refine gate_callee (f := 78) rfl ?_); refine goesL_ (some 14) rfl rfl Tryz.func78 (by kernel_rfl) rfl #[.agg #[.slice A0_0 l0_0.length c0_0, .slice A0_1 l0_1.length c0_1, .int .i64 a0_2, .int .i64 a0_3], .slice A1 l1.length c1, .int .i64 a2] rfl (by (try simp only [List.map_toArray, List.map_cons, List.map_nil]); first | done | rfl | (simp only [List.length_drop, List.length_take]; rfl)) ?_; (with_reducible refine (tenter_newForecast.calls (fun k_ => k_ < w.heap.size) _ _ l0_0 (fun k_ => k_ < w.heap.size) _ _ l0_1 a0_2 a0_3 (fun k_ => k_ < w.heap.size) _ _ l1 a2 t102 t105 t108 t109 t110 t113 _ ?side1 ?side2 ?side3 A4.out).mono ?_); (case side1 => exact Kd.V_mk HC0_0.out (Kd.F_below (Kd.C_F k43_heap HR0_0.out) (by repeat (first | (with_reducible first | exact HB.out | apply below_alloc | apply pw_below_drewN | apply below_drew1 | refine below_set ?_ GE101.out) | exact HB.out)))); (case side2 => exact Kd.V_mk HC0_1.out (Kd.F_below (Kd.C_F (Kd.heap_int .i64) HR0_1.out) (by repeat (first | (with_reducible first | exact HB.out | apply below_alloc | apply pw_below_drewN | apply below_drew1 | refine below_set ?_ GE101.out) | exact HB.out)))); (case side3 => exact Kd.V_mk HC1.out (Kd.F_below (Kd.C_F k36_heap HR1.out) (by repeat (first | (with_reducible first | exact HB.out | apply below_alloc | apply pw_below_drewN | apply below_drew1 | refine below_set ?_ GE101.out) | exact HB.out)))); rintro e w25 ⟨v103, v106, v111, rfl, ho0, ho1, ho2, hb⟩; refine ⟨_, rfl, ?_⟩; have n0_ := Aside0.mk (Kd.V_lower (Kd.V_mono (ok' := fun k_ => k_ ≠ gb101) ho0 (fun k_ hk_ => Or.elim hk_ (fun hs_ => Or.elim hs_ (fun hs_ => fun e_ => Nat.not_le.2 hs_ (by rw [e_]; exact GW101.out)) (fun hs_ => Or.elim hs_ (fun hs_ => fun e_ => Nat.not_le.2 hs_ (by rw [e_]; exact GW101.out)) (fun hs_ => fun e_ => Nat.not_le.2 hs_ (by rw [e_]; exact GW101.out)))) (fun hn_ => (Kd.freshB (g := gb101) (o := .cells #[.slice A0_0 l0_0.length c0_0, .slice A0_1 l0_1.length c0_1, .int .i64 a0_2, .int .i64 a0_3] 25 (0, 0)) (by (with_reducible repeat (first | refine blk_drewN ?_ _ | refine blk_drew ?_ | refine blk_alloc ?_ _)); exact BK101.out) k_ hn_)))) (below_size (by repeat (first | (with_reducible first | exact HB.out | apply below_alloc | apply pw_below_drewN | apply below_drew1 | refine below_set ?_ GE101.out) | exact HB.out)))); have n1_ := Aside0.mk (Kd.V_lower (Kd.V_mono (ok' := fun k_ => k_ ≠ gb101) ho1 (fun k_ hk_ => Or.elim hk_ (fun hs_ => Or.elim hs_ (fun hs_ => fun e_ => Nat.not_le.2 hs_ (by rw [e_]; exact GW101.out)) (fun hs_ => Or.elim hs_ (fun hs_ => fun e_ => Nat.not_le.2 hs_ (by rw [e_]; exact GW101.out)) (fun hs_ => fun e_ => Nat.not_le.2 hs_ (by rw [e_]; exact GW101.out)))) (fun hn_ => (Kd.freshB (g := gb101) (o := .cells #[.slice A0_0 l0_0.length c0_0, .slice A0_1 l0_1.length c0_1, .int .i64 a0_2, .int .i64 a0_3] 25 (0, 0)) (by (with_reducible repeat (first | refine blk_drewN ?_ _ | refine blk_drew ?_ | refine blk_alloc ?_ _)); exact BK101.out) k_ hn_)))) (below_size (by repeat (first | (with_reducible first | exact HB.out | apply below_alloc | apply pw_below_drewN | apply below_drew1 | refine below_set ?_ GE101.out) | exact HB.out)))); have n2_ := Aside0.mk (Kd.V_lower (Kd.V_mono (ok' := fun k_ => k_ ≠ gb101) ho2 (fun k_ hk_ => Or.elim hk_ (fun hs_ => Or.elim hs_ (fun hs_ => fun e_ => Nat.not_le.2 hs_ (by rw [e_]; exact GW101.out)) (fun hs_ => Or.elim hs_ (fun hs_ => fun e_ => Nat.not_le.2 hs_ (by rw [e_]; exact GW101.out)) (fun hs_ => fun e_ => Nat.not_le.2 hs_ (by rw [e_]; exact GW101.out)))) (fun hn_ => (Kd.freshB (g := gb101) (o := .cells #[.slice A0_0 l0_0.length c0_0, .slice A0_1 l0_1.length c0_1, .int .i64 a0_2, .int .i64 a0_3] 25 (0, 0)) (by (with_reducible repeat (first | refine blk_drewN ?_ _ | refine blk_drew ?_ | refine blk_alloc ?_ _)); exact BK101.out) k_ hn_)))) (below_size (by repeat (first | (with_reducible first | exact HB.out | apply below_alloc | apply pw_below_drewN | apply below_drew1 | refine below_set ?_ GE101.out) | exact HB.out)))); have n3_ := Aside0.mk (blk_below (g := gb101) (o := .cells #[.slice A0_0 l0_0.length c0_0, .slice A0_1 l0_1.length c0_1, .int .i64 a0_2, .int .i64 a0_3] 25 (0, 0)) (by (with_reducible repeat (first | refine blk_drewN ?_ _ | refine blk_drew ?_ | refine blk_alloc ?_ _)); exact BK101.out) hb); have n4_ := Aside0.mk (below_step (by repeat (first | (with_reducible first | exact HB.out | apply below_alloc | apply pw_below_drewN | apply below_drew1 | refine below_set ?_ GE101.out) | exact HB.out)) hb); clear BK101; clear HB; have HO104 := n0_; have HO107 := n1_; have HO112 := n2_; have BK101 := n3_; have HB := n4_; clear n0_ n1_ n2_ n3_ n4_; (try clear hb); (try clear hb2); (try clear hk); (try clear hi); (try clear ho0); (try clear ho1); (try clear ho2)) | ((with_reducible refine gate_dst (N := 8) rfl ?_); refine box_event ?hg (N := 8) ?hd (cs := #[.slice none 0 0, .slice none 0 0, .int .i64 0, .int .i64 0, .slice none 0 0]) (t := 121) ?hr ?_; (case hd => rfl); (case hg => rfl); (case hr => first | (go_simp; done) | (go_simp; rfl)); intro gb114 hg w26 hbox hb; have n0_ := Aside0.mk (Kd.V_below (Kd.V_elderB (by (with_reducible repeat (first | apply Kd.V_alloc | apply Kd.V_drewN | apply Kd.V_drew)); exact HO104.out) gb114 (Nat.le_of_eq hg.symm)) hb); have n1_ := Aside0.mk (Kd.V_below (Kd.V_elderB (by (with_reducible repeat (first | apply Kd.V_alloc | apply Kd.V_drewN | apply Kd.V_drew)); exact HO107.out) gb114 (Nat.le_of_eq hg.symm)) hb); have n2_ := Aside0.mk (Kd.V_below (Kd.V_elderB (by (with_reducible repeat (first | apply Kd.V_alloc | apply Kd.V_drewN | apply Kd.V_drew)); exact HO112.out) gb114 (Nat.le_of_eq hg.symm)) hb); have n3_ := Aside0.mk (blk_below (g := gb101) (o := .cells #[.slice A0_0 l0_0.length c0_0, .slice A0_1 l0_1.length c0_1, .int .i64 a0_2, .int .i64 a0_3] 25 (0, 0)) (by (with_reducible repeat (first | refine blk_drewN ?_ _ | refine blk_drew ?_ | refine blk_alloc ?_ _)); exact BK101.out) hb); have n4_ := Aside0.mk (below_step (by repeat (first | (with_reducible first | exact HB.out | apply below_alloc | apply pw_below_drewN | apply below_drew1 | refine below_set ?_ GE101.out) | exact HB.out)) hb); have n5_ := Aside0.mk (hbox); have n6_ := Aside0.mk ((by rw [hg]; exact (below_size (by repeat (first | (with_reducible first | exact HB.out | apply below_alloc | apply pw_below_drewN | apply below_drew1 | refine below_set ?_ GE101.out) | exact HB.out))) : w.heap.size ≤ gb114)); have n7_ := Aside0.mk ((by rw [hg]; exact (below_size (by repeat (first | (with_reducible first | exact HB.out | apply below_alloc | apply pw_below_drewN | apply below_drew1 | refine below_set ?_ GE101.out) | exact HB.out))) : w.heap.size ≤ gb114)); have n8_ := Aside0.mk ((by rw [hg]; exact Nat.ne_of_lt (blk_lt (g := gb101) (o := .cells #[.slice A0_0 l0_0.length c0_0, .slice A0_1 l0_1.length c0_1, .int .i64 a0_2, .int .i64 a0_3] 25 (0, 0)) (by (with_reducible repeat (first | refine blk_drewN ?_ _ | refine blk_drew ?_ | refine blk_alloc ?_ _)); exact BK101.out)) : gb101 ≠ gb114)); have n9_ := Aside0.mk ((by rw [hg]; exact Nat.ne_of_gt (blk_lt (g := gb101) (o := .cells #[.slice A0_0 l0_0.length c0_0, .slice A0_1 l0_1.length c0_1, .int .i64 a0_2, .int .i64 a0_3] 25 (0, 0)) (by (with_reducible repeat (first | refine blk_drewN ?_ _ | refine blk_drew ?_ | refine blk_alloc ?_ _)); exact BK101.out)) : gb114 ≠ gb101)); clear HO104; clear HO107; clear HO112; clear BK101; clear HB; have HO104 := n0_; have HO107 := n1_; have HO112 := n2_; have BK101 := n3_; have HB := n4_; have BK114 := n5_; have GW114 := n6_; have GE114 := n7_; have NB101_114 := n8_; have NB114_101 := n9_; clear n0_ n1_ n2_ n3_ n4_ n5_ n6_ n7_ n8_ n9_; clear hb hbox hg; obtain ⟨Ao27, co27, eo27⟩ := Kd.V_slice HO104.out; subst eo27; have hnb28 := NB114_101.out; have hnc28 := NB101_114.out; have hcz29_0 : w26.cell? ⟨gb114, 0, none⟩ = some (.slice none 0 0) := (blk_cell BK114.out 0).trans rfl; have hcz29_1 : w26.cell? ⟨gb114, 1, none⟩ = some (.slice none 0 0) := (blk_cell BK114.out 1).trans rfl; have hcz29_2 : w26.cell? ⟨gb114, 2, none⟩ = some (.int .i64 0) := (blk_cell BK114.out 2).trans rfl; have hcz29_3 : w26.cell? ⟨gb114, 3, none⟩ = some (.int .i64 0) := (blk_cell BK114.out 3).trans rfl; have hcz29_4 : w26.cell? ⟨gb114, 4, none⟩ = some (.slice none 0 0) := (blk_cell BK114.out 4).trans rfl; have hfz29_0 := blk_frozen BK114.out 0; have hfz29_1 := blk_frozen BK114.out 1; have hfz29_2 := blk_frozen BK114.out 2; have hfz29_3 := blk_frozen BK114.out 3; have hfz29_4 := blk_frozen BK114.out 4; obtain ⟨Ao30, co30, eo30⟩ := Kd.V_slice HO107.out; subst eo30; obtain ⟨Ao31, co31, eo31⟩ := Kd.V_slice HO112.out; subst eo31))
    go_ret2
    exact ⟨_, by first | rfl | (simp [errW_none, errW_some] <;> rfl) | (simp [*, errW_none, errW_some] <;> rfl), by first | exact Kd.R_nil _ _ _ _ _ | exact Kd.N_nil _ _ _ _ _ | exact Kd.V_nil _ _ _ _ _ | exact Kd.Q_nil _ _ _ _ _ | exact Kd.S_nil _ _ _ _ _, by repeat (first | (with_reducible first | exact HB.out | apply below_alloc | apply pw_below_drewN | apply below_drew1 | refine below_set ?_ GE101.out | refine below_set ?_ GE114.out) | exact HB.out)⟩
end Go.Proofs.YtikmfpjcdcckeaaGreatDoor.P
namespace Go.Proofs.YtikmfpjcdcckeaaGreatDoor.D
open Go Go.RowKit
noncomputable section
inductive AV where
  | any
  | lit (v : Value)
  | ptr (b off : Nat)
  | gptr (g off : Nat)
  | slice (b off len : Nat) (cap : Option Nat)
  | empty
  | map (b : Nat)
  | func (fn : Fn) (first captured : List AV)
  | yield (l : Nat)
  | iface (t : TypeId) (v : AV)
  | agg (cs : List AV)
  | tuple (cs : List AV)
  deriving Inhabited
abbrev Phi := Nat → Option (Nat × Nat)
mutual
def VR (φ : Phi) : AV → Value → Prop
  | .any, _ => True
  | .lit v, x => x = v
  | .ptr b o, x => ∃ c m, φ b = some (c, m) ∧ x = .pointer (some ⟨c, o, none⟩)
  | .gptr g o, x => x = .pointer (some ⟨g, o, none⟩)
  | .slice b o n cap, x => ∃ c m k, φ b = some (c, m) ∧ x = .slice (some ⟨c, o, none⟩) n k ∧
      n ≤ k ∧ (∀ k', cap = some k' → k = k') ∧ (cap = none → o = 0 → k = m)
  | .empty, x => ∃ a k, x = .slice (some a) 0 k
  | .map b, x => ∃ c m, φ b = some (c, m) ∧ x = .map (some c)
  | .func fn xs ys, x => ∃ as_ bs : Array Value, x = .func fn as_ bs ∧ VRs φ xs as_.toList ∧ VRs φ ys bs.toList
  | .yield l, x => ∃ c m, φ l = some (c, m) ∧ x = .func (.yield c) #[] #[]
  | .iface t a, x => ∃ y, x = .iface t y ∧ VR φ a y
  | .agg cs, x => ∃ as_ : Array Value, x = .agg as_ ∧ VRs φ cs as_.toList
  | .tuple cs, x => ∃ as_ : Array Value, x = .tuple as_ ∧ VRs φ cs as_.toList
def VRs (φ : Phi) : List AV → List Value → Prop
  | [], l => l = []
  | a :: as_, l => ∃ x xs, l = x :: xs ∧ VR φ a x ∧ VRs φ as_ xs
end
def Phi.le (φ ψ : Phi) : Prop := ∀ b x, φ b = some x → ψ b = some x
theorem Phi.le_refl (φ : Phi) : φ.le φ := fun _ _ h => h
theorem Phi.le_trans {a b c : Phi} (h : a.le b) (k : b.le c) : a.le c := fun x y hx => k x y (h x y hx)
mutual
theorem VR.mono {φ ψ : Phi} (h : φ.le ψ) : ∀ (a : AV) (x : Value), VR φ a x → VR ψ a x
  | .any, _, _ => trivial
  | .lit _, _, hv => hv
  | .ptr _ _, _, ⟨c, m, h1, h2⟩ => ⟨c, m, h _ _ h1, h2⟩
  | .gptr _ _, _, hv => hv
  | .slice _ _ _ _, _, ⟨c, m, k, h1, h2⟩ => ⟨c, m, k, h _ _ h1, h2⟩
  | .empty, _, hv => hv
  | .map _, _, ⟨c, m, h1, h2⟩ => ⟨c, m, h _ _ h1, h2⟩
  | .func _ xs ys, _, ⟨as_, bs, h1, h2, h3⟩ => ⟨as_, bs, h1, VRs.mono h xs _ h2, VRs.mono h ys _ h3⟩
  | .yield _, _, ⟨c, m, h1, h2⟩ => ⟨c, m, h _ _ h1, h2⟩
  | .iface _ a, _, ⟨y, h1, h2⟩ => ⟨y, h1, VR.mono h a y h2⟩
  | .agg cs, _, ⟨as_, h1, h2⟩ => ⟨as_, h1, VRs.mono h cs _ h2⟩
  | .tuple cs, _, ⟨as_, h1, h2⟩ => ⟨as_, h1, VRs.mono h cs _ h2⟩
theorem VRs.mono {φ ψ : Phi} (h : φ.le ψ) : ∀ (as_ : List AV) (l : List Value), VRs φ as_ l → VRs ψ as_ l
  | [], _, hv => hv
  | a :: as_, _, ⟨x, xs, h1, h2, h3⟩ => ⟨x, xs, h1, VR.mono h a x h2, VRs.mono h as_ xs h3⟩
end
theorem VRs.nil {φ : Phi} : VRs φ [] [] := rfl
theorem VRs.cons {φ : Phi} {a : AV} {as_ : List AV} {x : Value} {xs : List Value} (h : VR φ a x) (hs : VRs φ as_ xs) : VRs φ (a :: as_) (x :: xs) := ⟨x, xs, rfl, h, hs⟩
theorem VRs.length {φ : Phi} : ∀ {as_ : List AV} {l : List Value}, VRs φ as_ l → as_.length = l.length
  | [], _, h => by cases h; rfl
  | _ :: _, _, ⟨_, _, h, _, hs⟩ => by subst h; simp [VRs.length hs]
theorem VRs.get {φ : Phi} : ∀ {as_ : List AV} {l : List Value}, VRs φ as_ l → ∀ {i : Nat} {a : AV}, as_[i]? = some a → ∃ x, l[i]? = some x ∧ VR φ a x
  | [], _, _, _, _, h => by simp at h
  | _ :: _, _, ⟨x, xs, h1, h2, h3⟩, 0, a, h => by subst h1; simp at h; subst h; exact ⟨x, by simp, h2⟩
  | _ :: _, _, ⟨x, xs, h1, h2, h3⟩, i + 1, a, h => by subst h1; simp at h; obtain ⟨y, hy⟩ := VRs.get h3 h; exact ⟨y, by simpa using hy⟩
theorem VRs.set {φ : Phi} : ∀ {as_ : List AV} {l : List Value}, VRs φ as_ l → ∀ (i : Nat) {a : AV} {x : Value}, VR φ a x → VRs φ (as_.set i a) (l.set i x)
  | [], _, h, _, _, _, _ => by cases h; exact VRs.nil
  | _ :: _, _, ⟨x, xs, h1, h2, h3⟩, 0, _, _, hv => by subst h1; exact VRs.cons hv h3
  | _ :: _, _, ⟨x, xs, h1, h2, h3⟩, i + 1, _, _, hv => by subst h1; exact VRs.cons h2 (VRs.set h3 i hv)
theorem VRs.append {φ : Phi} : ∀ {as_ : List AV} {l : List Value} {bs : List AV} {k : List Value}, VRs φ as_ l → VRs φ bs k → VRs φ (as_ ++ bs) (l ++ k)
  | [], _, _, _, h, hk => by cases h; exact hk
  | _ :: _, _, _, _, ⟨x, xs, h1, h2, h3⟩, hk => by subst h1; exact VRs.cons h2 (VRs.append h3 hk)
theorem VRs.take {φ : Phi} : ∀ {as_ : List AV} {l : List Value}, VRs φ as_ l → ∀ (n : Nat), VRs φ (as_.take n) (l.take n)
  | [], _, h, n => by cases h; simp [VRs]
  | _ :: _, _, ⟨x, xs, h1, h2, h3⟩, 0 => by simp [VRs]
  | _ :: _, _, ⟨x, xs, h1, h2, h3⟩, n + 1 => by subst h1; exact VRs.cons h2 (VRs.take h3 n)
theorem VRs.drop {φ : Phi} : ∀ {as_ : List AV} {l : List Value}, VRs φ as_ l → ∀ (n : Nat), VRs φ (as_.drop n) (l.drop n)
  | [], _, h, n => by cases h; simp [VRs]
  | _ :: _, _, ⟨x, xs, h1, h2, h3⟩, 0 => by subst h1; exact VRs.cons h2 h3
  | _ :: _, _, ⟨x, xs, h1, h2, h3⟩, n + 1 => by subst h1; exact VRs.drop h3 n
theorem VRs.lits {φ : Phi} : ∀ (l : List Value), VRs φ (l.map .lit) l
  | [] => VRs.nil
  | x :: xs => VRs.cons (show VR φ (.lit x) x from rfl) (VRs.lits xs)
theorem VRs.map_of {α : Type} {φ : Phi} {f : α → AV} {g : α → Value} : ∀ (l : List α), (∀ x ∈ l, VR φ (f x) (g x)) → VRs φ (l.map f) (l.map g)
  | [], _ => VRs.nil
  | x :: xs, h => VRs.cons (h x (by simp)) (VRs.map_of xs fun y hy => h y (by simp [hy]))
mutual
def AV.toV : AV → Option Value
  | .lit v => some v
  | .gptr g o => some (.pointer (some ⟨g, o, none⟩))
  | .iface t a => match a.toV with | some x => some (.iface t x) | none => none
  | .agg cs => match AV.toVs cs with | some l => some (.agg l.toArray) | none => none
  | .tuple cs => match AV.toVs cs with | some l => some (.tuple l.toArray) | none => none
  | _ => none
def AV.toVs : List AV → Option (List Value)
  | [] => some []
  | a :: as_ => match a.toV, AV.toVs as_ with | some x, some xs => some (x :: xs) | _, _ => none
end
mutual
theorem AV.toV_eq {φ : Phi} : ∀ (a : AV) (v x : Value), a.toV = some v → VR φ a x → x = v
  | .any, _, _, h, _ => by simp [AV.toV] at h
  | .lit _, _, _, h, hv => by simp [AV.toV] at h; subst h; exact hv
  | .ptr _ _, _, _, h, _ => by simp [AV.toV] at h
  | .gptr _ _, _, _, h, hv => by simp [AV.toV] at h; subst h; exact hv
  | .slice _ _ _ _, _, _, h, _ => by simp [AV.toV] at h
  | .empty, _, _, h, _ => by simp [AV.toV] at h
  | .map _, _, _, h, _ => by simp [AV.toV] at h
  | .func _ _ _, _, _, h, _ => by simp [AV.toV] at h
  | .yield _, _, _, h, _ => by simp [AV.toV] at h
  | .iface t a, _, _, h, ⟨y, h1, h2⟩ => by
    simp only [AV.toV] at h
    split at h
    · rename_i z hz; cases h; rw [h1, AV.toV_eq a z y hz h2]
    · cases h
  | .agg cs, _, _, h, ⟨as_, h1, h2⟩ => by
    simp only [AV.toV] at h
    split at h
    · rename_i z hz; cases h; rw [h1, ← AV.toVs_eq cs z _ hz h2]
    · cases h
  | .tuple cs, _, _, h, ⟨as_, h1, h2⟩ => by
    simp only [AV.toV] at h
    split at h
    · rename_i z hz; cases h; rw [h1, ← AV.toVs_eq cs z _ hz h2]
    · cases h
theorem AV.toVs_eq {φ : Phi} : ∀ (as_ : List AV) (l k : List Value), AV.toVs as_ = some l → VRs φ as_ k → k = l
  | [], _, _, h, hv => by simp [AV.toVs] at h; subst h; exact hv
  | a :: as_, _, _, h, ⟨x, xs, h1, h2, h3⟩ => by
    simp only [AV.toVs] at h
    split at h
    · rename_i y ys hy hys; cases h; rw [h1, AV.toV_eq a y x hy h2, AV.toVs_eq as_ ys xs hys h3]
    · cases h
end
def AV.view : AV → AV
  | .lit (.agg cs) => .agg (cs.toList.map .lit)
  | .lit (.tuple cs) => .tuple (cs.toList.map .lit)
  | .lit (.iface t v) => .iface t (.lit v)
  | .lit (.func fn a b) => .func fn (a.toList.map .lit) (b.toList.map .lit)
  | a => a
theorem VR.view {φ : Phi} {a : AV} {x : Value} (h : VR φ a x) : VR φ a.view x := by
  unfold AV.view
  split
  · exact ⟨_, h, VRs.lits _⟩
  · exact ⟨_, h, VRs.lits _⟩
  · exact ⟨_, h, rfl⟩
  · exact ⟨_, _, h, VRs.lits _, VRs.lits _⟩
  · exact h
inductive TT where
  | tip
  | node (v : AV) (l r : TT)
def TT.get (t : TT) : Nat → AV :=
  TT.rec (motive := fun _ => Nat → AV) (fun _ => .lit undef)
    (fun v _ _ l r n => Nat.rec (motive := fun _ => AV) v (fun m _ => Nat.rec (motive := fun _ => AV) (l (Nat.div m 2)) (fun _ _ => r (Nat.div m 2)) (Nat.mod m 2)) n) t
def TT.path (d : Nat) : Nat → AV → TT :=
  Nat.rec (motive := fun _ => Nat → AV → TT) (fun _ _ => .tip)
    (fun _ ih n x => Nat.rec (motive := fun _ => TT) (.node x .tip .tip)
      (fun m _ => Nat.rec (motive := fun _ => TT) (.node (.lit undef) (ih (Nat.div m 2) x) .tip) (fun _ _ => .node (.lit undef) .tip (ih (Nat.div m 2) x)) (Nat.mod m 2)) n) d
def TT.set (t : TT) : Nat → AV → TT :=
  TT.rec (motive := fun _ => Nat → AV → TT) (fun n x => TT.path 10 n x)
    (fun v l r ihl ihr n x => Nat.rec (motive := fun _ => TT) (.node x l r)
      (fun m _ => Nat.rec (motive := fun _ => TT) (.node v (ihl (Nat.div m 2) x) r) (fun _ _ => .node v l (ihr (Nat.div m 2) x)) (Nat.mod m 2)) n) t
theorem TT.get_even (v : AV) (l r : TT) (m : Nat) (h : m % 2 = 0) : (TT.node v l r).get (m + 1) = l.get (m / 2) := by
  show Nat.rec (motive := fun _ => AV) _ _ (m % 2) = _
  rw [h]; rfl
theorem TT.get_odd (v : AV) (l r : TT) (m : Nat) (h : m % 2 = 1) : (TT.node v l r).get (m + 1) = r.get (m / 2) := by
  show Nat.rec (motive := fun _ => AV) _ _ (m % 2) = _
  rw [h]; rfl
theorem TT.path_zero (d : Nat) (x : AV) : TT.path (d + 1) 0 x = .node x .tip .tip := rfl
theorem TT.path_even (d m : Nat) (x : AV) (h : m % 2 = 0) : TT.path (d + 1) (m + 1) x = .node (.lit undef) (TT.path d (m / 2) x) .tip := by
  show Nat.rec (motive := fun _ => TT) _ _ (m % 2) = _
  rw [h]; rfl
theorem TT.path_odd (d m : Nat) (x : AV) (h : m % 2 = 1) : TT.path (d + 1) (m + 1) x = .node (.lit undef) .tip (TT.path d (m / 2) x) := by
  show Nat.rec (motive := fun _ => TT) _ _ (m % 2) = _
  rw [h]; rfl
theorem TT.set_zero (v : AV) (l r : TT) (x : AV) : (TT.node v l r).set 0 x = .node x l r := rfl
theorem TT.set_even (v : AV) (l r : TT) (m : Nat) (x : AV) (h : m % 2 = 0) : (TT.node v l r).set (m + 1) x = .node v (l.set (m / 2) x) r := by
  show Nat.rec (motive := fun _ => TT) _ _ (m % 2) = _
  rw [h]; rfl
theorem TT.set_odd (v : AV) (l r : TT) (m : Nat) (x : AV) (h : m % 2 = 1) : (TT.node v l r).set (m + 1) x = .node v l (r.set (m / 2) x) := by
  show Nat.rec (motive := fun _ => TT) _ _ (m % 2) = _
  rw [h]; rfl
theorem par (m : Nat) : m % 2 = 0 ∨ m % 2 = 1 := by omega
theorem TT.get_path_eq : ∀ (d n : Nat) (x : AV), n + 1 < 2 ^ d → (TT.path d n x).get n = x
  | 0, n, _, h => by simp at h
  | d + 1, 0, x, h => rfl
  | d + 1, m + 1, x, h => by
    rw [Nat.pow_succ] at h
    rcases par m with hp | hp
    · rw [TT.path_even _ _ _ hp, TT.get_even _ _ _ _ hp]; exact TT.get_path_eq d _ _ (by omega)
    · rw [TT.path_odd _ _ _ hp, TT.get_odd _ _ _ _ hp]; exact TT.get_path_eq d _ _ (by omega)
theorem TT.get_path_ne : ∀ (d n k : Nat) (x : AV), k ≠ n → (TT.path d n x).get k = .lit undef
  | 0, _, _, _, _ => rfl
  | d + 1, 0, 0, x, h => absurd rfl h
  | d + 1, 0, k + 1, x, h => by
    rw [TT.path_zero]
    rcases par k with hp | hp
    · rw [TT.get_even _ _ _ _ hp]; rfl
    · rw [TT.get_odd _ _ _ _ hp]; rfl
  | d + 1, m + 1, 0, x, h => by
    rcases par m with hp | hp
    · rw [TT.path_even _ _ _ hp]; rfl
    · rw [TT.path_odd _ _ _ hp]; rfl
  | d + 1, m + 1, k + 1, x, h => by
    rcases par m with hp | hp <;> rcases par k with hq | hq
    · rw [TT.path_even _ _ _ hp, TT.get_even _ _ _ _ hq]; exact TT.get_path_ne d _ _ _ (by omega)
    · rw [TT.path_even _ _ _ hp, TT.get_odd _ _ _ _ hq]; rfl
    · rw [TT.path_odd _ _ _ hp, TT.get_even _ _ _ _ hq]; rfl
    · rw [TT.path_odd _ _ _ hp, TT.get_odd _ _ _ _ hq]; exact TT.get_path_ne d _ _ _ (by omega)
theorem TT.get_set_eq : ∀ (t : TT) (n : Nat) (x : AV), n + 1 < 2 ^ 10 → (t.set n x).get n = x
  | .tip, n, x, h => TT.get_path_eq 10 n x h
  | .node v l r, 0, x, h => rfl
  | .node v l r, m + 1, x, h => by
    rcases par m with hp | hp
    · rw [TT.set_even _ _ _ _ _ hp, TT.get_even _ _ _ _ hp]; exact TT.get_set_eq _ _ _ (by omega)
    · rw [TT.set_odd _ _ _ _ _ hp, TT.get_odd _ _ _ _ hp]; exact TT.get_set_eq _ _ _ (by omega)
theorem TT.get_set_ne : ∀ (t : TT) (n k : Nat) (x : AV), k ≠ n → (t.set n x).get k = t.get k
  | .tip, n, k, x, h => TT.get_path_ne 10 n k x h
  | .node v l r, 0, 0, x, h => absurd rfl h
  | .node v l r, 0, k + 1, x, h => by
    rw [TT.set_zero]
    rcases par k with hp | hp
    · rw [TT.get_even _ _ _ _ hp, TT.get_even _ _ _ _ hp]
    · rw [TT.get_odd _ _ _ _ hp, TT.get_odd _ _ _ _ hp]
  | .node v l r, m + 1, 0, x, h => by
    rcases par m with hp | hp
    · rw [TT.set_even _ _ _ _ _ hp]; rfl
    · rw [TT.set_odd _ _ _ _ _ hp]; rfl
  | .node v l r, m + 1, k + 1, x, h => by
    rcases par m with hp | hp <;> rcases par k with hq | hq
    · rw [TT.set_even _ _ _ _ _ hp, TT.get_even _ _ _ _ hq, TT.get_even _ _ _ _ hq]; exact TT.get_set_ne _ _ _ _ (by omega)
    · rw [TT.set_even _ _ _ _ _ hp, TT.get_odd _ _ _ _ hq, TT.get_odd _ _ _ _ hq]
    · rw [TT.set_odd _ _ _ _ _ hp, TT.get_even _ _ _ _ hq, TT.get_even _ _ _ _ hq]
    · rw [TT.set_odd _ _ _ _ _ hp, TT.get_odd _ _ _ _ hq, TT.get_odd _ _ _ _ hq]; exact TT.get_set_ne _ _ _ _ (by omega)
structure ALoop where
  state : LoopState
  pending : Option Code
  n : Nat
  tmps : TT
  params : Array Tmp
  assign : Code
  body : Code
  defers : Nat
inductive Md where
  | exact
  | grow
  | ro
  deriving DecidableEq
inductive AO where
  | cells (cs : List AV) (elem : TypeId) (md : Md)
  | map (es : List (AV × AV × Nat)) (clock : Nat)
  | loop (r : ALoop)
  | defd (isOpen : Bool)
  | sIter (s : ByteArray) (pos : Nat)
  | dead
inductive Tr where
  | tip
  | node (o : AO) (l r : Tr)
def Tr.get (t : Tr) : Nat → Option AO :=
  Tr.rec (motive := fun _ => Nat → Option AO) (fun _ => none)
    (fun v _ _ l r n => Nat.rec (motive := fun _ => Option AO) (some v) (fun m _ => Nat.rec (motive := fun _ => Option AO) (l (Nat.div m 2)) (fun _ _ => r (Nat.div m 2)) (Nat.mod m 2)) n) t
def Tr.set (t : Tr) : Nat → AO → Tr :=
  Tr.rec (motive := fun _ => Nat → AO → Tr) (fun n x => Nat.rec (motive := fun _ => Tr) (.node x .tip .tip) (fun _ _ => .tip) n)
    (fun v l r ihl ihr n x => Nat.rec (motive := fun _ => Tr) (.node x l r)
      (fun m _ => Nat.rec (motive := fun _ => Tr) (.node v (ihl (Nat.div m 2) x) r) (fun _ _ => .node v l (ihr (Nat.div m 2) x)) (Nat.mod m 2)) n) t
theorem Tr.get_even (v : AO) (l r : Tr) (m : Nat) (h : m % 2 = 0) : (Tr.node v l r).get (m + 1) = l.get (m / 2) := by
  show Nat.rec (motive := fun _ => Option AO) _ _ (m % 2) = _
  rw [h]; rfl
theorem Tr.get_odd (v : AO) (l r : Tr) (m : Nat) (h : m % 2 = 1) : (Tr.node v l r).get (m + 1) = r.get (m / 2) := by
  show Nat.rec (motive := fun _ => Option AO) _ _ (m % 2) = _
  rw [h]; rfl
theorem Tr.set_even (v : AO) (l r : Tr) (m : Nat) (x : AO) (h : m % 2 = 0) : (Tr.node v l r).set (m + 1) x = .node v (l.set (m / 2) x) r := by
  show Nat.rec (motive := fun _ => Tr) _ _ (m % 2) = _
  rw [h]; rfl
theorem Tr.set_odd (v : AO) (l r : Tr) (m : Nat) (x : AO) (h : m % 2 = 1) : (Tr.node v l r).set (m + 1) x = .node v l (r.set (m / 2) x) := by
  show Nat.rec (motive := fun _ => Tr) _ _ (m % 2) = _
  rw [h]; rfl
theorem Tr.get_set_ne : ∀ (t : Tr) (n m : Nat) (x : AO), m ≠ n → (t.set n x).get m = t.get m
  | .tip, 0, 0, x, h => absurd rfl h
  | .tip, 0, m + 1, x, h => by
    show (Tr.node x .tip .tip).get (m + 1) = none
    rcases par m with hp | hp
    · rw [Tr.get_even _ _ _ _ hp]; rfl
    · rw [Tr.get_odd _ _ _ _ hp]; rfl
  | .tip, n + 1, m, x, h => rfl
  | .node v l r, 0, 0, x, h => absurd rfl h
  | .node v l r, 0, k + 1, x, h => by
    show (Tr.node x l r).get (k + 1) = _
    rcases par k with hp | hp
    · rw [Tr.get_even _ _ _ _ hp, Tr.get_even _ _ _ _ hp]
    · rw [Tr.get_odd _ _ _ _ hp, Tr.get_odd _ _ _ _ hp]
  | .node v l r, m + 1, 0, x, h => by
    rcases par m with hp | hp
    · rw [Tr.set_even _ _ _ _ _ hp]; rfl
    · rw [Tr.set_odd _ _ _ _ _ hp]; rfl
  | .node v l r, m + 1, k + 1, x, h => by
    rcases par m with hp | hp <;> rcases par k with hq | hq
    · rw [Tr.set_even _ _ _ _ _ hp, Tr.get_even _ _ _ _ hq, Tr.get_even _ _ _ _ hq]; exact Tr.get_set_ne _ _ _ _ (by omega)
    · rw [Tr.set_even _ _ _ _ _ hp, Tr.get_odd _ _ _ _ hq, Tr.get_odd _ _ _ _ hq]
    · rw [Tr.set_odd _ _ _ _ _ hp, Tr.get_even _ _ _ _ hq, Tr.get_even _ _ _ _ hq]
    · rw [Tr.set_odd _ _ _ _ _ hp, Tr.get_odd _ _ _ _ hq, Tr.get_odd _ _ _ _ hq]; exact Tr.get_set_ne _ _ _ _ (by omega)
theorem Tr.get_set_eq : ∀ (t : Tr) (n : Nat) (x : AO), (t.get n).isSome = true → (t.set n x).get n = some x
  | .tip, n, x, h => by cases h
  | .node v l r, 0, x, h => rfl
  | .node v l r, m + 1, x, h => by
    rcases par m with hp | hp
    · rw [Tr.get_even _ _ _ _ hp] at h
      rw [Tr.set_even _ _ _ _ _ hp, Tr.get_even _ _ _ _ hp]; exact Tr.get_set_eq _ _ _ h
    · rw [Tr.get_odd _ _ _ _ hp] at h
      rw [Tr.set_odd _ _ _ _ _ hp, Tr.get_odd _ _ _ _ hp]; exact Tr.get_set_eq _ _ _ h
theorem Tr.set_new : ∀ (t : Tr) (n : Nat) (x y : AO), (t.set n x).get n = some y → y = x
  | .tip, 0, x, y, h => by cases h; rfl
  | .tip, n + 1, x, y, h => by cases h
  | .node v l r, 0, x, y, h => by cases h; rfl
  | .node v l r, m + 1, x, y, h => by
    rcases par m with hp | hp
    · rw [Tr.set_even _ _ _ _ _ hp, Tr.get_even _ _ _ _ hp] at h; exact Tr.set_new _ _ _ _ h
    · rw [Tr.set_odd _ _ _ _ _ hp, Tr.get_odd _ _ _ _ hp] at h; exact Tr.set_new _ _ _ _ h
structure AH where
  size : Nat
  t : Tr
def AH.get (H : AH) (b : Nat) : Option AO :=
  AH.rec (motive := fun _ => Option AO) (fun s t => Nat.rec (motive := fun _ => Option AO) none (fun _ _ => t.get b) (Nat.sub s b)) H
theorem AH.get_eq (H : AH) (b : Nat) : H.get b = if b < H.size then H.t.get b else none := by
  obtain ⟨s, t⟩ := H
  show Nat.rec (motive := fun _ => Option AO) none (fun _ _ => t.get b) (s - b) = if b < s then t.get b else none
  by_cases h : b < s
  · obtain ⟨q, hq⟩ : ∃ q, s - b = q + 1 := ⟨s - b - 1, by omega⟩
    rw [hq, if_pos h]
  · rw [show s - b = 0 by omega, if_neg h]; rfl
def AH.set (H : AH) (b : Nat) (o : AO) : AH := match H with | ⟨s, t⟩ => ⟨s, t.set b o⟩
def AH.push (H : AH) (o : AO) : Option AH :=
  let t := H.t.set H.size o
  match t.get H.size with
  | some _ => some ⟨H.size + 1, t⟩
  | none => none
theorem AH.get_lt {H : AH} {b : Nat} {o : AO} (h : H.get b = some o) : b < H.size := by
  rw [AH.get_eq] at h; split at h
  · assumption
  · cases h
theorem AH.get_set {H : AH} {b : Nat} {o o' : AO} (h : H.get b = some o) (c : Nat) : (H.set b o').get c = if c = b then some o' else H.get c := by
  have hl := AH.get_lt h
  rw [AH.get_eq] at h
  rw [AH.get_eq, AH.get_eq]
  obtain ⟨s, t⟩ := H
  simp only [AH.set] at h hl ⊢
  rw [if_pos hl] at h
  by_cases hc : c = b
  · subst hc; simp only [hl, if_true]; exact Tr.get_set_eq t _ o' (by rw [h]; rfl)
  · rw [if_neg hc, Tr.get_set_ne _ _ _ _ hc]; rfl
theorem AH.get_push {H H' : AH} {o : AO} (h : H.push o = some H') (c : Nat) : c ≠ H.size → H'.get c = H.get c := by
  intro hc
  unfold AH.push at h
  simp only at h
  split at h
  · cases h
    rw [AH.get_eq, AH.get_eq]
    simp only
    rw [Tr.get_set_ne _ _ _ _ hc]
    by_cases h1 : c < H.size
    · rw [if_pos h1, if_pos (by omega)]
    · rw [if_neg h1, if_neg (by omega)]
  · cases h
theorem AH.push_size {H H' : AH} {o : AO} (h : H.push o = some H') : H'.size = H.size + 1 := by
  unfold AH.push at h
  simp only at h
  split at h
  · cases h; rfl
  · cases h
theorem AH.push_new {H H' : AH} {o : AO} (h : H.push o = some H') : H'.get H.size = some o := by
  unfold AH.push at h
  simp only at h
  split at h
  · rename_i y hy
    cases h
    rw [AH.get_eq]
    simp only
    rw [if_pos (Nat.lt_succ_self _), hy, Tr.set_new _ _ _ _ hy]
  · cases h
end
end Go.Proofs.YtikmfpjcdcckeaaGreatDoor.D
namespace Go.Proofs.YtikmfpjcdcckeaaGreatDoor.D
open Go Go.RowKit
noncomputable section
def callE (c : Call) : Bool :=
  match c.callee with
  | .builtin .len | .builtin .cap | .builtin .max | .builtin .min => false
  | _ => true
def isETab : Op → Bool := Op.rec (motive := fun _ => Bool) (fun _ => false) (fun _ => true) (fun _ _ _ => false) (fun _ => false) (fun _ _ => false) (fun _ _ => false) (fun _ _ _ => false) (fun _ _ _ _ => true) (fun _ _ => false) (fun _ _ _ => true) (fun _ => true) (fun _ => true) (fun _ => false) (fun _ _ _ _ _ => false) (fun _ _ _ => false) (fun _ _ _ => false) (fun _ _ => true) (fun _ _ => false) (fun _ _ _ => false) (fun _ _ => false) (fun _ _ => true) (fun _ _ _ => false) (fun _ _ _ _ _ => false) (fun _ _ _ => false) (fun _ _ _ => false) (fun _ _ _ => false) (fun _ _ _ => false) (fun _ _ _ _ => false) (fun _ _ _ _ => true) (fun _ _ _ => true) (fun _ _ _ _ => true) (fun _ _ => true) (fun _ _ => true) (fun _ => true) (fun _ _ _ _ => false) (fun _ _ => false) (fun c => callE c) (fun _ => true) (fun _ => true) (fun _ => true) (fun _ _ => true) (fun _ _ _ => true) (fun _ _ => true)
def isE (o : Oper) : Bool := isETab o.op
def depB (o : Oper) (j : Nat) : Bool := o.after.toList.any fun e => Region.binds .any e && decide (e.on = j)
def regOk (ops : Array Oper) : Bool :=
  (List.range ops.size).all fun i => match ops[i]? with
    | none => true
    | some o => o.after.toList.all (fun e => !Region.binds .any e || decide (e.on < i)) &&
      (List.range ops.size).all fun j => match ops[j]? with
        | none => true
        | some oj => isE oj || (match oj.dst with
          | none => true
          | some d => !(o.looksAt ops).contains d || (!decide (j = i) && depB o j))
def codeOk : Code → Bool
  | .region _ ops d => !d || regOk ops
  | .seq a b => codeOk a && codeOk b
  | .cond _ a b => codeOk a && codeOk b
  | .block _ a => codeOk a
  | .loop a => codeOk a
  | .rangeFunc _ _ a b => codeOk a && codeOk b
  | .scope a => codeOk a
  | _ => true
theorem regOk_before {ops : Array Oper} (h : regOk ops = true) {i : Nat} {o : Oper} (ho : ops[i]? = some o) : ∀ e ∈ o.after, Region.binds .any e = true → e.on < i := by
  intro e he hb
  have hlt : i < ops.size := (Array.getElem?_eq_some_iff.1 ho).1
  have := List.all_eq_true.1 h i (List.mem_range.2 hlt)
  rw [ho] at this
  simp only [Bool.and_eq_true] at this
  have h2 := List.all_eq_true.1 this.1 e (by simpa using he)
  simp [hb] at h2
  exact h2
theorem regOk_reads {ops : Array Oper} (h : regOk ops = true) {i j : Nat} {o oj : Oper} {d : Tmp} (ho : ops[i]? = some o) (hj : ops[j]? = some oj) (hE : isE oj = false) (hd : oj.dst = some d) (hl : d ∈ o.looksAt ops) : j ≠ i ∧ depB o j = true := by
  have hlt : i < ops.size := (Array.getElem?_eq_some_iff.1 ho).1
  have hlj : j < ops.size := (Array.getElem?_eq_some_iff.1 hj).1
  have := List.all_eq_true.1 h i (List.mem_range.2 hlt)
  rw [ho] at this
  simp only [Bool.and_eq_true] at this
  have h2 := List.all_eq_true.1 this.2 j (List.mem_range.2 hlj)
  rw [hj] at h2
  simp only [hE, hd, Bool.false_or] at h2
  simp [hl] at h2
  exact h2
theorem depB_iff {o : Oper} {j : Nat} (h : depB o j = true) : ∃ e ∈ o.after, Region.binds .any e = true ∧ e.on = j := by
  unfold depB at h
  obtain ⟨e, he, hb⟩ := List.any_eq_true.1 h
  simp at hb
  exact ⟨e, by simpa using he, hb.1, hb.2⟩
end
end Go.Proofs.YtikmfpjcdcckeaaGreatDoor.D
namespace Go.Proofs.YtikmfpjcdcckeaaGreatDoor.D
open Go Go.RowKit
noncomputable section
def esz (P : Program) (t : TypeId) : Nat := match P.info? t with | some i => i.size | none => 0
def ES (φ : Phi) : List (AV × AV × Nat) → List MapEntry → Prop
  | [], l => l = []
  | (k, v, b) :: es, l => ∃ e rest, l = e :: rest ∧ VR φ k e.key ∧ VR φ v e.val ∧ e.born = b ∧ ES φ es rest
theorem ES.mono {φ ψ : Phi} (h : φ.le ψ) : ∀ {es : List (AV × AV × Nat)} {l : List MapEntry}, ES φ es l → ES ψ es l
  | [], _, hv => hv
  | (_, _, _) :: _, _, ⟨e, r, h1, h2, h3, h4, h5⟩ => ⟨e, r, h1, h2.mono h, h3.mono h, h4, ES.mono h h5⟩
structure TR (φ : Phi) (n : Nat) (t : TT) (tm : Array Value) : Prop where
  size : tm.size = n
  le : n ≤ 1000
  get : ∀ i, VR φ (t.get i) (tm.getD i undef)
theorem TR.mono {φ ψ : Phi} (h : φ.le ψ) {n : Nat} {t : TT} {tm : Array Value} (hv : TR φ n t tm) : TR ψ n t tm := ⟨hv.size, hv.le, fun i => (hv.get i).mono h⟩
def OR (P : Program) (φ : Phi) (m : Nat) : AO → Obj → Prop
  | .cells cs elem md, o => ∃ (xs : Array Value) (fz : Nat × Nat), o = .cells xs elem fz ∧ (∀ i, i < xs.size → ¬ (fz.1 ≤ i ∧ i < fz.2)) ∧
      VRs φ cs (xs.toList.take cs.length) ∧ (md ≠ .grow → xs.size = cs.length) ∧ (md = .grow → xs.size = m * esz P elem)
  | .map es clock, o => ∃ es' : Array MapEntry, o = .map es' clock ∧ ES φ es es'.toList
  | .loop r, o => ∃ (fn : FuncId) (tm : Array Value) (d m' : Nat), φ r.defers = some (d, m') ∧
      o = .loop { state := r.state, pending := r.pending, fn, tmps := tm, params := r.params, assign := r.assign, body := r.body, defers := d } ∧ TR φ r.n r.tmps tm ∧ codeOk r.assign = true ∧ codeOk r.body = true
  | .defd b, o => o = .deferred (if b then some [] else none)
  | .sIter s p, o => o = .stringIter s p
  | .dead, _ => True
theorem OR.mono {P : Program} {φ ψ : Phi} (h : φ.le ψ) {m : Nat} {ao : AO} {o : Obj} (hv : OR P φ m ao o) : OR P ψ m ao o := by
  cases ao with
  | cells cs elem md => obtain ⟨xs, fz, h1, h2, h3, h4⟩ := hv; exact ⟨xs, fz, h1, h2, h3.mono h, h4⟩
  | map es clock => obtain ⟨es', h1, h2⟩ := hv; exact ⟨es', h1, h2.mono h⟩
  | loop r => obtain ⟨fn, tm, d, m', h1, h2, h3⟩ := hv; exact ⟨fn, tm, d, m', h _ _ h1, h2, h3.1.mono h, h3.2⟩
  | defd b => exact hv
  | sIter s p => exact hv
  | dead => trivial
abbrev Glob := Nat → Option (Array Value)
def GlobAt (w : World) (g : Nat) (vs : Array Value) : Prop := ∃ (xs : Array Value) (e : TypeId) (fz : Nat × Nat), w.heap[g]? = some (.cells xs e fz) ∧ xs.toList.take vs.size = vs.toList
theorem GlobAt.of {w v : World} {g : Nat} {vs : Array Value} (h : GlobAt w g vs) (e : v.heap[g]? = w.heap[g]?) : GlobAt v g vs := let ⟨xs, t, fz, h1, h2⟩ := h; ⟨xs, t, fz, by rw [e]; exact h1, h2⟩
structure R (P : Program) (G : Glob) (n0 : Nat) (φ : Phi) (H : AH) (w : World) : Prop where
  obj : ∀ b c m, φ b = some (c, m) → ∃ ao o, H.get b = some ao ∧ w.heap[c]? = some o ∧ OR P φ m ao o ∧ (n0 ≤ c ∨ ∃ cs e, ao = .cells cs e .ro)
  inj : ∀ b b' c m m', φ b = some (c, m) → φ b' = some (c, m') → H.get b ≠ some .dead → H.get b' ≠ some .dead → b = b'
  low : n0 ≤ w.heap.size
  glob : ∀ g vs, G g = some vs → GlobAt w g vs ∧ g < n0
structure Sim (P : Program) (G : Glob) (n0 : Nat) (φ : Phi) (H : AH) (w : World) (ψ : Phi) (K : AH) (v : World) : Prop where
  le : φ.le ψ
  new : ∀ b, φ b = none → b < H.size → ψ b = none
  sz : H.size ≤ K.size
  r : R P G n0 ψ K v
  bel : Below n0 w v
section
variable {P : Program} {G : Glob} {n0 : Nat} {φ ψ χ : Phi} {H K L : AH} {w v u : World}
theorem Sim.refl (h : R P G n0 φ H w) : Sim P G n0 φ H w φ H w := ⟨Phi.le_refl _, fun _ h _ => h, Nat.le_refl _, h, Below.refl _ _⟩
theorem Sim.trans (h : Sim P G n0 φ H w ψ K v) (k : Sim P G n0 ψ K v χ L u) : Sim P G n0 φ H w χ L u :=
  ⟨Phi.le_trans h.le k.le, fun b hb hs => k.new b (h.new b hb hs) (Nat.lt_of_lt_of_le hs h.sz), Nat.le_trans h.sz k.sz, k.r, h.bel.trans k.bel⟩
structure SameHeap (w v : World) : Prop where
  heap : v.heap = w.heap
  os : v.os = w.os
  tape : v.tape = w.tape
  output : v.output = w.output
theorem SameHeap.refl (w : World) : SameHeap w w := ⟨rfl, rfl, rfl, rfl⟩
theorem SameHeap.drew (w : World) : SameHeap w { w with drawn := w.drawn + 1 } := ⟨rfl, rfl, rfl, rfl⟩
theorem R.same (h : R P G n0 φ H w) (s : SameHeap w v) : R P G n0 φ H v :=
  ⟨fun b c m hb => by rw [s.heap]; exact h.obj b c m hb, h.inj, by rw [s.heap]; exact h.low, fun g vs hg => let ⟨h1, h2⟩ := h.glob g vs hg; ⟨h1.of (by rw [s.heap]), h2⟩⟩
theorem SameHeap.below (s : SameHeap w v) (B : Nat) : Below B w v := ⟨s.os, s.tape, s.output, by rw [s.heap]; exact Nat.le_refl _, fun k _ => by rw [s.heap]⟩
theorem Sim.same (h : R P G n0 φ H w) (s : SameHeap w v) : Sim P G n0 φ H w φ H v := ⟨Phi.le_refl _, fun _ h _ => h, Nat.le_refl _, h.same s, s.below _⟩
theorem R.lt (h : R P G n0 φ H w) {b c m : Nat} (hb : φ b = some (c, m)) : b < H.size ∧ c < w.heap.size := by
  obtain ⟨ao, o, h1, h2, _⟩ := h.obj b c m hb
  exact ⟨AH.get_lt h1, (Array.getElem?_eq_some_iff.1 h2).1⟩
theorem R.none_ge (h : R P G n0 φ H w) {b : Nat} (hb : H.size ≤ b) : φ b = none := by
  cases hp : φ b with
  | none => rfl
  | some x => exact absurd (h.lt (c := x.1) (m := x.2) hp).1 (by omega)
structure Upd (w : World) (c : Nat) (o : Obj) (v : World) : Prop where
  at_ : v.heap[c]? = some o
  other : ∀ k, k ≠ c → v.heap[k]? = w.heap[k]?
  size : v.heap.size = w.heap.size
  os : v.os = w.os
  tape : v.tape = w.tape
  output : v.output = w.output
theorem Upd.below {c : Nat} {o : Obj} (h : Upd w c o v) (hc : n0 ≤ c) : Below n0 w v :=
  ⟨h.os, h.tape, h.output, by rw [h.size]; exact Nat.le_refl _, fun k hk => h.other k (by omega)⟩
theorem Upd.putObj {c : Nat} (o : Obj) (hc : c < w.heap.size) : Upd w c o (w.putObj c o) :=
  ⟨World.putObj_heap_same hc, fun k hk => World.putObj_heap_other hk, World.putObj_size, rfl, rfl, rfl⟩
theorem R.set (h : R P G n0 φ H w) {b c m : Nat} {ao ao' : AO} {o : Obj} (hb : φ b = some (c, m)) (hg : H.get b = some ao) (hd : ao ≠ .dead) (hro : ∀ cs e, ao ≠ .cells cs e .ro)
    (ho : OR P φ m ao' o) (hu : Upd w c o v) : Sim P G n0 φ H w φ (H.set b ao') v := by
  have hc : n0 ≤ c := by
    obtain ⟨ao₁, o₁, h1, _, _, h4⟩ := h.obj b c m hb
    rw [hg] at h1; cases h1
    rcases h4 with h4 | ⟨cs, e, h4⟩
    · exact h4
    · exact absurd h4 (hro cs e)
  refine ⟨Phi.le_refl _, fun _ h _ => h, Nat.le_refl _, ⟨?_, ?_, by rw [hu.size]; exact h.low, ?_⟩, hu.below hc⟩
  · intro b' c' m' hb'
    by_cases hbb : b' = b
    · subst hbb
      rw [hb] at hb'; cases hb'
      exact ⟨ao', o, by rw [AH.get_set hg, if_pos rfl], hu.at_, ho, .inl hc⟩
    · obtain ⟨ao₁, o₁, h1, h2, h3, h4⟩ := h.obj b' c' m' hb'
      by_cases hcc : c' = c
      · subst hcc
        have : H.get b' = some .dead := by
          apply Classical.byContradiction
          intro hn
          exact hbb (h.inj b' b c' m' m hb' hb hn (by rw [hg]; intro e; cases e; exact hd rfl))
        rw [this] at h1; cases h1
        exact ⟨.dead, o, by rw [AH.get_set hg, if_neg hbb, this], hu.at_, trivial, .inl hc⟩
      · exact ⟨ao₁, o₁, by rw [AH.get_set hg, if_neg hbb]; exact h1, by rw [hu.other _ hcc]; exact h2, h3, h4⟩
  · intro b₁ b₂ c' m₁ m₂ h1 h2 hn1 hn2
    refine h.inj b₁ b₂ c' m₁ m₂ h1 h2 ?_ ?_
    · rw [AH.get_set hg] at hn1
      by_cases e : b₁ = b
      · subst e; rw [hg]; intro e; cases e; exact hd rfl
      · rw [if_neg e] at hn1; exact hn1
    · rw [AH.get_set hg] at hn2
      by_cases e : b₂ = b
      · subst e; rw [hg]; intro e; cases e; exact hd rfl
      · rw [if_neg e] at hn2; exact hn2
  · intro g vs hgv
    obtain ⟨he, hlt⟩ := h.glob g vs hgv
    exact ⟨he.of (hu.other g (by omega)), hlt⟩
theorem R.kill (h : R P G n0 φ H w) {b c m : Nat} {ao : AO} (hb : φ b = some (c, m)) (hg : H.get b = some ao) (hro : ∀ cs e, ao ≠ .cells cs e .ro) : Sim P G n0 φ H w φ (H.set b .dead) w := by
  refine ⟨Phi.le_refl _, fun _ h _ => h, Nat.le_refl _, ⟨?_, ?_, h.low, h.glob⟩, Below.refl _ _⟩
  · intro b' c' m' hb'
    obtain ⟨ao₁, o₁, h1, h2, h3, h4⟩ := h.obj b' c' m' hb'
    by_cases hbb : b' = b
    · subst hbb
      rw [hg] at h1; cases h1
      refine ⟨.dead, o₁, by rw [AH.get_set hg, if_pos rfl], h2, trivial, ?_⟩
      rcases h4 with h4 | ⟨cs, e, h4⟩
      · exact .inl h4
      · exact absurd h4 (hro cs e)
    · exact ⟨ao₁, o₁, by rw [AH.get_set hg, if_neg hbb]; exact h1, h2, h3, h4⟩
  · intro b₁ b₂ c' m₁ m₂ h1 h2 hn1 hn2
    refine h.inj b₁ b₂ c' m₁ m₂ h1 h2 ?_ ?_
    · rw [AH.get_set hg] at hn1
      by_cases e : b₁ = b
      · rw [if_pos e] at hn1; exact absurd rfl hn1
      · rw [if_neg e] at hn1; exact hn1
    · rw [AH.get_set hg] at hn2
      by_cases e : b₂ = b
      · rw [if_pos e] at hn2; exact absurd rfl hn2
      · rw [if_neg e] at hn2; exact hn2
theorem R.pushU (h : R P G n0 φ H w) {ao : AO} (hp : H.push ao = some K) : Sim P G n0 φ H w φ K w := by
  have hne : ∀ b x, φ b = some x → b ≠ H.size := fun b x hb => by have := (h.lt (c := x.1) (m := x.2) hb).1; omega
  refine ⟨Phi.le_refl _, fun _ h _ => h, by rw [AH.push_size hp]; omega, ⟨?_, ?_, h.low, h.glob⟩, Below.refl _ _⟩
  · intro b c m hb
    rw [AH.get_push hp b (hne _ _ hb)]
    exact h.obj b c m hb
  · intro b b' c m m' h1 h2
    rw [AH.get_push hp b (hne _ _ h1), AH.get_push hp b' (hne _ _ h2)]
    exact h.inj b b' c m m' h1 h2
def Phi.put (φ : Phi) (p : Nat) (x : Nat × Nat) : Phi := fun b => if b = p then some x else φ b
theorem Phi.put_same (φ : Phi) (p : Nat) (x : Nat × Nat) : φ.put p x p = some x := if_pos rfl
theorem Phi.le_put {φ : Phi} {p : Nat} (x : Nat × Nat) (h : φ p = none) : φ.le (φ.put p x) := fun b y hb => by
  unfold Phi.put
  by_cases e : b = p
  · subst e; rw [h] at hb; cases hb
  · rw [if_neg e]; exact hb
structure New (w : World) (o : Obj) (v : World) : Prop where
  heap : v.heap = w.heap.push o
  os : v.os = w.os
  tape : v.tape = w.tape
  output : v.output = w.output
theorem New.alloc (w : World) (o : Obj) : New w o (w.alloc o) := ⟨rfl, rfl, rfl, rfl⟩
theorem New.old {o : Obj} (h : New w o v) {k : Nat} (hk : k < w.heap.size) : v.heap[k]? = w.heap[k]? := by
  rw [h.heap, Array.getElem?_push, if_neg (by omega)]
theorem New.fresh {o : Obj} (h : New w o v) : v.heap[w.heap.size]? = some o := by rw [h.heap]; simp
theorem New.below {o : Obj} (h : New w o v) (hn : n0 ≤ w.heap.size) : Below n0 w v :=
  ⟨h.os, h.tape, h.output, by rw [h.heap]; simp, fun k hk => h.old (by omega)⟩
theorem R.late (h : R P G n0 φ H w) {p m : Nat} {ao : AO} {o : Obj} (hp : φ p = none) (hg : H.get p = some ao) (ho : OR P (φ.put p (w.heap.size, m)) m ao o) (hn : New w o v) :
    R P G n0 (φ.put p (w.heap.size, m)) H v ∧ Below n0 w v := by
  have hle := Phi.le_put (w.heap.size, m) hp
  refine ⟨⟨?_, ?_, by have := h.low; rw [hn.heap]; simp; omega, ?_⟩, hn.below h.low⟩
  · intro b c m' hb
    unfold Phi.put at hb
    by_cases e : b = p
    · subst e
      rw [if_pos rfl] at hb; cases hb
      exact ⟨ao, o, hg, hn.fresh, ho, .inl h.low⟩
    · rw [if_neg e] at hb
      obtain ⟨ao₁, o₁, h1, h2, h3, h4⟩ := h.obj b c m' hb
      exact ⟨ao₁, o₁, h1, by rw [hn.old (h.lt hb).2]; exact h2, h3.mono hle, h4⟩
  · intro b b' c m₁ m₂ h1 h2 hn1 hn2
    unfold Phi.put at h1 h2
    by_cases e : b = p
    · by_cases e' : b' = p
      · rw [e, e']
      · rw [if_pos e] at h1; rw [if_neg e'] at h2; cases h1
        exact absurd (h.lt h2).2 (by omega)
    · by_cases e' : b' = p
      · rw [if_neg e] at h1; rw [if_pos e'] at h2; cases h2
        exact absurd (h.lt h1).2 (by omega)
      · rw [if_neg e] at h1; rw [if_neg e'] at h2
        exact h.inj b b' c m₁ m₂ h1 h2 hn1 hn2
  · intro g vs hgv
    obtain ⟨he, hlt⟩ := h.glob g vs hgv
    exact ⟨he.of (hn.old (by have := h.low; omega)), hlt⟩
theorem R.push (h : R P G n0 φ H w) {m : Nat} {ao : AO} {o : Obj} (hp : H.push ao = some K) (ho : OR P (φ.put H.size (w.heap.size, m)) m ao o) (hn : New w o v) :
    Sim P G n0 φ H w (φ.put H.size (w.heap.size, m)) K v := by
  have h1 := h.pushU hp
  have hnone : φ H.size = none := h.none_ge (Nat.le_refl _)
  obtain ⟨h2, h3⟩ := h1.r.late hnone (AH.push_new hp) ho hn
  refine ⟨Phi.le_put _ hnone, fun b hb hs => ?_, h1.sz, h2, h3⟩
  unfold Phi.put
  rw [if_neg (by omega)]; exact hb
theorem R.move (h : R P G n0 φ H w) {b c m : Nat} {ao ao' : AO} {o : Obj} (hb : φ b = some (c, m)) (hg : H.get b = some ao) (hd : ao ≠ .dead) (hro : ∀ cs e, ao ≠ .cells cs e .ro)
    (hp : (H.set b .dead).push ao' = some K) (ho : OR P φ m ao' o) (hu : Upd w c o v) : Sim P G n0 φ H w (φ.put H.size (c, m)) K v := by
  have hc : n0 ≤ c := by
    obtain ⟨ao₁, o₁, h1, _, _, h4⟩ := h.obj b c m hb
    rw [hg] at h1; cases h1
    rcases h4 with h4 | ⟨cs, e, h4⟩
    · exact h4
    · exact absurd h4 (hro cs e)
  have hnone : φ H.size = none := h.none_ge (Nat.le_refl _)
  have hle := Phi.le_put (c, m) hnone
  have hbs : b < H.size := AH.get_lt hg
  have hsz : (H.set b .dead).size = H.size := rfl
  have hnew : K.get H.size = some ao' := by have := AH.push_new hp; rwa [hsz] at this
  have hold : ∀ x, x ≠ H.size → x ≠ b → K.get x = H.get x := fun x hx hxb => by
    rw [AH.get_push hp x (by rw [hsz]; exact hx), AH.get_set hg, if_neg hxb]
  have hdead : K.get b = some .dead := by rw [AH.get_push hp b (by rw [hsz]; omega), AH.get_set hg, if_pos rfl]
  refine ⟨hle, fun x hx hs => ?_, by rw [AH.push_size hp, hsz]; omega, ⟨?_, ?_, by rw [hu.size]; exact h.low, ?_⟩, hu.below hc⟩
  · unfold Phi.put; rw [if_neg (by omega)]; exact hx
  · intro x c' m' hx
    unfold Phi.put at hx
    by_cases e : x = H.size
    · rw [if_pos e] at hx; cases hx; subst e
      exact ⟨ao', o, hnew, hu.at_, ho.mono hle, .inl hc⟩
    · rw [if_neg e] at hx
      obtain ⟨ao₁, o₁, h1, h2, h3, h4⟩ := h.obj x c' m' hx
      by_cases hxb : x = b
      · subst hxb
        rw [hb] at hx; cases hx
        exact ⟨.dead, o, hdead, hu.at_, trivial, .inl hc⟩
      · by_cases hcc : c' = c
        · subst hcc
          have : H.get x = some .dead := by
            apply Classical.byContradiction
            intro hn
            exact hxb (h.inj x b c' m' m hx hb hn (by rw [hg]; intro e; cases e; exact hd rfl))
          exact ⟨.dead, o, by rw [hold x e hxb, this], hu.at_, trivial, .inl hc⟩
        · exact ⟨ao₁, o₁, by rw [hold x e hxb]; exact h1, by rw [hu.other _ hcc]; exact h2, h3.mono hle, h4⟩
  · have key : ∀ x c' m', (φ.put H.size (c, m)) x = some (c', m') → K.get x ≠ some .dead → x ≠ b := fun x c' m' _ hn e => by subst e; exact hn hdead
    intro x y c' m₁ m₂ h1 h2 hn1 hn2
    have hxb := key x _ _ h1 hn1
    have hyb := key y _ _ h2 hn2
    unfold Phi.put at h1 h2
    by_cases e : x = H.size
    · by_cases e' : y = H.size
      · rw [e, e']
      · rw [if_pos e] at h1; rw [if_neg e'] at h2; cases h1
        rw [hold y e' hyb] at hn2
        exact absurd (h.inj y b c m₂ m h2 hb hn2 (by rw [hg]; intro e; cases e; exact hd rfl)) hyb
    · by_cases e' : y = H.size
      · rw [if_neg e] at h1; rw [if_pos e'] at h2; cases h2
        rw [hold x e hxb] at hn1
        exact absurd (h.inj x b c m₁ m h1 hb hn1 (by rw [hg]; intro e; cases e; exact hd rfl)) hxb
      · rw [if_neg e] at h1; rw [if_neg e'] at h2
        rw [hold x e hxb] at hn1
        rw [hold y e' hyb] at hn2
        exact h.inj x y c' m₁ m₂ h1 h2 hn1 hn2
  · intro g vs hgv
    obtain ⟨he, hlt⟩ := h.glob g vs hgv
    exact ⟨he.of (hu.other g (by omega)), hlt⟩
end
end
end Go.Proofs.YtikmfpjcdcckeaaGreatDoor.D
namespace Go.Proofs.YtikmfpjcdcckeaaGreatDoor.D
open Go Go.RowKit
noncomputable section
def calm {α : Type} (P : Program) : Sem α → Option α
  | .pure a => some a
  | .program k => calm P (k P)
  | _ => none
theorem calm_run {α : Type} {P : Program} : ∀ {s : Sem α} {a : α}, calm P s = some a → ∀ w, s.run P w = .ok a w := by
  intro s
  induction s with
  | pure a => intro b h w; simp [calm] at h; subst h; rfl
  | program k ih => intro b h w; exact ih P h w
  | _ => intro b h; simp [calm] at h
def AV.one : AV → Bool
  | .any | .agg _ | .tuple _ => false
  | .lit v => v.oneCell'
  | _ => true
theorem AV.one_sound {φ : Phi} {a : AV} {v : Value} (h : a.one = true) (hv : VR φ a v) : v.oneCell' = true := by
  cases a with
  | any => cases h
  | lit u => cases hv; exact h
  | ptr b o => obtain ⟨c, m, _, rfl⟩ := hv; rfl
  | gptr g o => cases hv; rfl
  | slice b o n cap => obtain ⟨c, m, k, _, rfl, _⟩ := hv; rfl
  | empty => obtain ⟨a, k, rfl⟩ := hv; rfl
  | map b => obtain ⟨c, m, _, rfl⟩ := hv; rfl
  | func fn xs ys => obtain ⟨as_, bs, rfl, _⟩ := hv; rfl
  | yield l => obtain ⟨c, m, _, rfl⟩ := hv; rfl
  | iface t a => obtain ⟨y, rfl, _⟩ := hv; rfl
  | agg cs => cases h
  | tuple cs => cases h
def AV.parts : AV → Option (List AV)
  | .any | .tuple _ => none
  | .lit v => some (v.cells.toList.map .lit)
  | .agg cs => some cs
  | a => some [a]
theorem AV.parts_sound {φ : Phi} {a : AV} {cs : List AV} {v : Value} (h : a.parts = some cs) (hv : VR φ a v) : VRs φ cs v.cells.toList := by
  cases a with
  | any => cases h
  | tuple _ => cases h
  | lit u => cases h; cases hv; exact VRs.lits _
  | agg ds => cases h; obtain ⟨as_, rfl, h2⟩ := hv; exact h2
  | ptr b o => cases h; have hv' := hv; obtain ⟨c, m, _, rfl⟩ := hv; exact VRs.cons hv' VRs.nil
  | gptr g o => cases h; have hv' := hv; cases hv; exact VRs.cons hv' VRs.nil
  | slice b o n cap => cases h; have hv' := hv; obtain ⟨c, m, k, _, rfl, _⟩ := hv; exact VRs.cons hv' VRs.nil
  | empty => cases h; have hv' := hv; obtain ⟨a, k, rfl⟩ := hv; exact VRs.cons hv' VRs.nil
  | map b => cases h; have hv' := hv; obtain ⟨c, m, _, rfl⟩ := hv; exact VRs.cons hv' VRs.nil
  | func fn xs ys => cases h; have hv' := hv; obtain ⟨as_, bs, rfl, _⟩ := hv; exact VRs.cons hv' VRs.nil
  | yield l => cases h; have hv' := hv; obtain ⟨c, m, _, rfl⟩ := hv; exact VRs.cons hv' VRs.nil
  | iface t a => cases h; have hv' := hv; obtain ⟨y, rfl, _⟩ := hv; exact VRs.cons hv' VRs.nil
def setMany {α : Type} : List α → Nat → List α → List α
  | l, _, [] => l
  | l, o, x :: xs => setMany (l.set o x) (o + 1) xs
theorem setMany_VRs {φ : Phi} : ∀ (cs : List AV) (xs : List Value) (as_ : List AV) (l : List Value) (o : Nat), VRs φ cs xs → VRs φ as_ l → VRs φ (setMany as_ o cs) (setMany l o xs)
  | [], _, as_, l, o, h, hl => by cases h; exact hl
  | c :: cs, _, as_, l, o, ⟨x, xs, h1, h2, h3⟩, hl => by subst h1; exact setMany_VRs cs xs _ _ _ h3 (hl.set o h2)
theorem setMany_length {α : Type} : ∀ (xs : List α) (l : List α) (o : Nat), (setMany l o xs).length = l.length
  | [], _, _ => rfl
  | x :: xs, l, o => by rw [setMany, setMany_length xs]; simp
theorem foldl_setMany (o : Nat) : ∀ (xs : List Value) (k : Nat) (arr : Array Value),
    ((xs.zipIdx k).foldl (fun cs (p : Value × Nat) => cs.setIfInBounds (o + p.2) p.1) arr).toList = setMany arr.toList (o + k) xs
  | [], _, _ => rfl
  | x :: xs, k, arr => by
    rw [List.zipIdx_cons, List.foldl_cons, foldl_setMany o xs (k + 1)]
    simp only [setMany, Array.toList_setIfInBounds]
    rw [Nat.add_assoc]
def fillA (place : Nat → Option (Nat × Nat)) (cells : List AV) : List (Nat × AV) → Option (List AV)
  | [] => some cells
  | (i, a) :: rest =>
    match place i, a.parts with
    | some (off, size), some cs => if cs.length ≠ size || off + cs.length > cells.length then none else fillA place (setMany cells off cs) rest
    | _, _ => none
theorem fillA_sound {φ : Phi} {place : Nat → Option (Nat × Nat)} : ∀ (ps : List (Nat × AV)) (qs : List (Nat × Value)) (cells : List AV) (arr : Array Value) (out : List AV),
    fillA place cells ps = some out → VRs φ cells arr.toList → ps.map (·.1) = qs.map (·.1) → VRs φ (ps.map (·.2)) (qs.map (·.2)) → ∃ arr', Instr.fill place arr qs = some arr' ∧ VRs φ out arr'.toList
  | [], [], cells, arr, out, h, hc, _, _ => by simp [fillA] at h; subst h; exact ⟨arr, rfl, hc⟩
  | [], _ :: _, _, _, _, _, _, h, _ => by simp at h
  | _ :: _, [], _, _, _, _, _, h, _ => by simp at h
  | (i, a) :: ps, (j, v) :: qs, cells, arr, out, h, hc, hi, hv => by
    simp only [List.map_cons, List.cons.injEq] at hi hv
    obtain ⟨rfl, hi⟩ := hi
    obtain ⟨x, xs, hx, hv1, hv2⟩ := hv
    cases hx
    simp only [fillA] at h
    split at h
    case h_2 => cases h
    rename_i off size cs hp hcs
    split at h
    · cases h
    rename_i hn
    have hvc := AV.parts_sound hcs hv1
    have hlen := hvc.length
    have hlc := hc.length
    simp only [Array.length_toList] at hlen hlc
    simp only [Bool.or_eq_true, decide_eq_true_eq, not_or, bne_iff_ne, ne_eq, Decidable.not_not, Nat.not_lt] at hn
    simp only [Instr.fill, hp]
    rw [if_neg (by simp only [Bool.or_eq_true, decide_eq_true_eq, not_or, bne_iff_ne, ne_eq, Decidable.not_not]; omega)]
    refine fillA_sound ps qs _ _ out h ?_ hi hv2
    have he := foldl_setMany off v.cells.toList 0 arr
    rw [Nat.add_zero] at he
    have : (v.cells.zipIdx.foldl (fun (cs : Array Value) (p : Value × Nat) => cs.setIfInBounds (off + p.2) p.1) arr).toList = setMany arr.toList off v.cells.toList := by
      rw [← he, ← Array.foldl_toList, Array.toList_zipIdx]
    rw [show (v.cells.zipIdx.foldl (fun (cs : Array Value) (x : Value × Nat) => match x with | (c, j) => cs.setIfInBounds (off + j) c) arr) = (v.cells.zipIdx.foldl (fun (cs : Array Value) (p : Value × Nat) => cs.setIfInBounds (off + p.2) p.1) arr) from rfl, this]
    exact setMany_VRs _ _ _ _ _ hvc hc
def isRowB (P : Program) (t : TypeId) : Option Bool :=
  match P.underlying t with
  | some (.struct _) | some (.array _ _) => some true
  | some _ => some false
  | none => none
def sizeB (P : Program) (t : TypeId) : Option Nat := (P.info? t).map (·.size)
theorem run_isAgg {P : Program} {t : TypeId} {b : Bool} (h : isRowB P t = some b) (w : World) : (isAgg t).run P w = .ok b w := by
  unfold isRowB at h
  cases hu : P.underlying t with
  | none => simp [hu] at h
  | some d =>
    unfold isAgg
    rw [Sem.run_bind, run_underlying hu w]
    cases d <;> simp_all
theorem run_sizeB {P : Program} {t : TypeId} {n : Nat} (h : sizeB P t = some n) (w : World) : (sizeOf t).run P w = .ok n w := by
  unfold sizeB at h
  cases hi : P.info? t with
  | none => simp [hi] at h
  | some i => simp [hi] at h; simp [sizeOf, typeInfo, hi, h]
def partA (P : Program) (t : TypeId) (cs : List AV) (off : Nat) : Option AV :=
  match isRowB P t with
  | some true => match sizeB P t with
    | some n => some (.agg ((cs.drop off).take n))
    | none => none
  | some false => cs[off]?
  | none => none
theorem partA_sound {P : Program} {φ : Phi} {t : TypeId} {cs : List AV} {off : Nat} {r : AV} {arr : Array Value} (h : partA P t cs off = some r) (hv : VRs φ cs arr.toList) :
    ∃ v, VR φ r v ∧ ∀ w, (part t arr off).run P w = .ok v w := by
  unfold partA at h
  split at h
  · rename_i hb
    split at h
    · rename_i n hn
      cases h
      refine ⟨.agg (arr.extract off (off + n)), ⟨_, rfl, ?_⟩, fun w => ?_⟩
      · have := (hv.drop off).take n
        rw [Array.toList_extract]
        simpa using this
      · simp [part, run_isAgg hb w, run_sizeB hn w]
    · cases h
  · rename_i hb
    obtain ⟨x, hx, hvx⟩ := hv.get h
    refine ⟨x, hvx, fun w => ?_⟩
    have hx' : arr[off]? = some x := by simpa using hx
    simp [part, run_isAgg hb w, hx']
  · cases h
end
end Go.Proofs.YtikmfpjcdcckeaaGreatDoor.D
namespace Go.Proofs.YtikmfpjcdcckeaaGreatDoor.D
open Go Go.RowKit
noncomputable section
abbrev Ev := Operand → AV
def popFlat (P : Program) (ev : Ev) (o : Oper) : Option AV :=
  match o.op with
  | .select _ _ => none
  | _ => if o.op.operands.toList.all (fun x => (ev x).toV.isSome) then
      match calm P (execOp (fun x => (ev x).toV.getD undef) o) with
      | some (.value v) => some (.lit v)
      | _ => none
    else none
def Yld (P : Program) (φ : Phi) (ρ : Operand → Value) (o : Oper) (r : AV) : Prop := ∃ v, VR φ r v ∧ ∀ w, (execOp ρ o).run P w = .ok (.value v) w
section
variable {P : Program} {φ : Phi} {ev : Ev} {ρ : Operand → Value} {o : Oper} {r : AV}
theorem popFlat_sound (hev : ∀ x, VR φ (ev x) (ρ x)) (h : popFlat P ev o = some r) : Yld P φ ρ o r := by
  unfold popFlat at h
  have hsel : ∀ cs b, o.op ≠ .select cs b := by
    intro cs b e
    rw [e] at h
    cases h
  have h' : (if o.op.operands.toList.all (fun x => (ev x).toV.isSome) = true then
      match calm P (execOp (fun x => (ev x).toV.getD undef) o) with
      | some (.value v) => some (AV.lit v)
      | _ => none
    else none) = some r := by
    cases ho : o.op <;> rw [ho] at h <;> first | (exact h) | (cases h)
  clear h
  split at h'
  case isFalse => cases h'
  rename_i hall
  split at h'
  case h_2 => cases h'
  rename_i v hc
  cases h'
  refine ⟨v, rfl, fun w => ?_⟩
  have : execOp ρ o = execOp (fun x => (ev x).toV.getD undef) o := by
    refine execOp_congr o hsel fun x hx => ?_
    have hs := List.all_eq_true.1 hall x (by simpa using hx)
    obtain ⟨u, hu⟩ := Option.isSome_iff_exists.1 hs
    rw [hu]
    exact AV.toV_eq _ u _ hu (hev x)
  rw [this]
  exact calm_run hc w
def asInt? : AV → Option (IntKind × Int)
  | .lit (.int k n) => some (k, n)
  | _ => none
theorem asInt?_sound {a : AV} {k : IntKind} {n : Int} {v : Value} (h : asInt? a = some (k, n)) (hv : VR φ a v) : v = .int k n := by
  unfold asInt? at h
  split at h
  · cases h; exact hv
  · cases h
def popIndexAddr (P : Program) (t : TypeId) (x ix : AV) : Option AV :=
  match P.underlying t, x, asInt? ix with
  | some (.slice elem), .slice b off len _, some (_, i) =>
    match sizeB P elem with
    | some s => if 0 ≤ i ∧ i < len then some (.ptr b (off + i.toNat * s)) else none
    | none => none
  | some (.array len elem), .ptr b off, some (_, i) =>
    match sizeB P elem with
    | some s => if 0 ≤ i ∧ i < len then some (.ptr b (off + i.toNat * s)) else none
    | none => none
  | some (.array len elem), .gptr b off, some (_, i) =>
    match sizeB P elem with
    | some s => if 0 ≤ i ∧ i < len then some (.gptr b (off + i.toNat * s)) else none
    | none => none
  | _, _, _ => none
theorem popIndexAddr_sound {t : TypeId} {x ix : AV} {xv iv : Value} (hx : VR φ x xv) (hi : VR φ ix iv) (h : popIndexAddr P t x ix = some r) :
    ∃ v, VR φ r v ∧ ∀ w, (Instr.indexAt t xv iv).run P w = .ok v w := by
  unfold popIndexAddr at h
  split at h
  · rename_i elem b off len cap k i hu hii
    split at h
    case h_2 => cases h
    rename_i s hs
    split at h
    case isFalse => cases h
    rename_i hr
    cases h
    obtain ⟨c, m, kk, hb, rfl, _⟩ := hx
    obtain rfl := asInt?_sound hii hi
    refine ⟨.pointer (some ⟨c, off + i.toNat * s, none⟩), ⟨c, m, hb, rfl⟩, fun w => ?_⟩
    simp [Instr.indexAt, asIntOf, run_underlying hu, run_sizeB hs, Addr.add_mid, hr.1, hr.2]
  · rename_i len elem b off k i hu hii
    split at h
    case h_2 => cases h
    rename_i s hs
    split at h
    case isFalse => cases h
    rename_i hr
    cases h
    obtain ⟨c, m, hb, rfl⟩ := hx
    obtain rfl := asInt?_sound hii hi
    refine ⟨.pointer (some ⟨c, off + i.toNat * s, none⟩), ⟨c, m, hb, rfl⟩, fun w => ?_⟩
    simp [Instr.indexAt, Instr.sureAddr, asIntOf, run_underlying hu, run_sizeB hs, Addr.add_mid, hr.1, hr.2]
  · rename_i len elem b off k i hu hii
    split at h
    case h_2 => cases h
    rename_i s hs
    split at h
    case isFalse => cases h
    rename_i hr
    cases h
    cases hx
    obtain rfl := asInt?_sound hii hi
    refine ⟨.pointer (some ⟨b, off + i.toNat * s, none⟩), rfl, fun w => ?_⟩
    simp [Instr.indexAt, Instr.sureAddr, asIntOf, run_underlying hu, run_sizeB hs, Addr.add_mid, hr.1, hr.2]
  · cases h
def popFieldAddr (P : Program) (s : TypeId) (x : AV) (f : Nat) : Option AV :=
  match P.underlying s, x with
  | some (.struct fields), .ptr b off =>
    match fields[f]? with
    | some fd => match sizeB P fd.type with
      | some (_ + 1) => some (.ptr b (off + fd.offset))
      | _ => none
    | none => none
  | _, _ => none
theorem popFieldAddr_sound {s : TypeId} {x : AV} {f : Nat} {xv : Value} (hx : VR φ x xv) (h : popFieldAddr P s x f = some r) :
    ∃ v, VR φ r v ∧ ∀ w, (Instr.fieldAt s xv f).run P w = .ok v w := by
  unfold popFieldAddr at h
  split at h
  case h_2 => cases h
  rename_i fields b off hu
  split at h
  case h_2 => cases h
  rename_i fd hf
  split at h
  case h_2 => cases h
  rename_i n hs
  cases h
  obtain ⟨c, m, hb, rfl⟩ := hx
  refine ⟨.pointer (some ⟨c, off + fd.offset, none⟩), ⟨c, m, hb, rfl⟩, fun w => ?_⟩
  simp [Instr.fieldAt, Instr.sureAddr, run_underlying hu, hf, fieldPlace, run_sizeB hs, Addr.add_mid]
def popField (P : Program) (t : TypeId) (x : AV) (f : Nat) : Option AV :=
  match P.underlying t, x.view with
  | some (.struct fields), .agg cs =>
    match fields[f]? with
    | some fd => partA P fd.type cs fd.offset
    | none => none
  | _, _ => none
theorem popField_sound {t : TypeId} {x : AV} {f : Nat} {xv : Value} (hx : VR φ x xv) (h : popField P t x f = some r) :
    ∃ v, VR φ r v ∧ ∀ w, (Instr.field t xv f).run P w = .ok v w := by
  unfold popField at h
  split at h
  case h_2 => cases h
  rename_i fields cs hu hv
  split at h
  case h_2 => cases h
  rename_i fd hf
  have hx' := hx.view
  rw [hv] at hx'
  obtain ⟨as_, rfl, hcs⟩ := hx'
  obtain ⟨v, h1, h2⟩ := partA_sound h hcs
  refine ⟨v, h1, fun w => ?_⟩
  simp [Instr.field, run_underlying hu, hf, asAgg, h2]
def popIndex (P : Program) (t : TypeId) (x ix : AV) : Option AV :=
  match P.underlying t, x.view, asInt? ix with
  | some (.array len elem), .agg cs, some (_, i) =>
    match sizeB P elem with
    | some s => if 0 ≤ i ∧ i < len then partA P elem cs (i.toNat * s) else none
    | none => none
  | _, _, _ => none
theorem popIndex_sound {t : TypeId} {x ix : AV} {xv iv : Value} (hx : VR φ x xv) (hi : VR φ ix iv) (h : popIndex P t x ix = some r) :
    ∃ v, VR φ r v ∧ ∀ w, (Instr.index t xv iv).run P w = .ok v w := by
  unfold popIndex at h
  split at h
  case h_2 => cases h
  rename_i len elem cs k i hu hv hii
  split at h
  case h_2 => cases h
  rename_i s hs
  split at h
  case isFalse => cases h
  rename_i hr
  have hx' := hx.view
  rw [hv] at hx'
  obtain ⟨as_, rfl, hcs⟩ := hx'
  obtain rfl := asInt?_sound hii hi
  obtain ⟨v, h1, h2⟩ := partA_sound h hcs
  refine ⟨v, h1, fun w => ?_⟩
  simp [Instr.index, asIntOf, run_underlying hu, run_sizeB hs, hr.1, hr.2, h2]
def zeroB (P : Program) (t : TypeId) : Option Value := (P.info? t).bind (·.zero)
theorem run_zeroB {t : TypeId} {z : Value} (h : zeroB P t = some z) (w : World) : (zeroValue t).run P w = .ok z w := by
  unfold zeroB at h
  cases hi : P.info? t with
  | none => simp [hi] at h
  | some i => simp [hi] at h; simp [zeroValue, typeInfo, hi, h]
def placesB (P : Program) : List Field → Option (List (Nat × Nat))
  | [] => some []
  | f :: fs => match sizeB P f.type, placesB P fs with
    | some s, some l => some ((f.offset, s) :: l)
    | _, _ => none
theorem run_placesB : ∀ {fs : List Field} {l : List (Nat × Nat)}, placesB P fs = some l → ∀ w,
    (fs.mapM (fun f => do pure (f.offset, ← sizeOf f.type)) : Sem (List (Nat × Nat))).run P w = .ok l w
  | [], l, h, w => by simp [placesB] at h; subst h; simp
  | f :: fs, l, h, w => by
    simp only [placesB] at h
    split at h
    case h_2 => cases h
    rename_i s l' hs hl
    cases h
    have ih := run_placesB (fs := fs) hl w
    simp at ih
    simp [List.mapM_cons, run_sizeB hs, ih]
def popBuild (P : Program) (t : TypeId) (ps : List (Nat × AV)) : Option AV :=
  match zeroB P t, P.underlying t with
  | some z, some (.struct fields) =>
    match placesB P fields.toList with
    | some pl => (fillA (pl[·]?) (z.cells.toList.map .lit) ps).map .agg
    | none => none
  | some z, some (.array _ elem) =>
    match sizeB P elem with
    | some s => (fillA (fun i => some (i * s, s)) (z.cells.toList.map .lit) ps).map .agg
    | none => none
  | _, _ => none
theorem popBuild_sound {t : TypeId} {ps : List (Nat × AV)} {qs : Array (Nat × Value)} (hi : ps.map (·.1) = qs.toList.map (·.1)) (hv : VRs φ (ps.map (·.2)) (qs.toList.map (·.2)))
    (h : popBuild P t ps = some r) : ∃ v, VR φ r v ∧ ∀ w, (Instr.build t qs).run P w = .ok v w := by
  unfold popBuild at h
  split at h
  · rename_i z fields hz hu
    split at h
    case h_2 => cases h
    rename_i pl hpl
    cases hf : fillA (pl[·]?) (z.cells.toList.map .lit) ps with
    | none => simp [hf] at h
    | some out =>
      simp [hf] at h; subst h
      obtain ⟨arr, h1, h2⟩ := fillA_sound (φ := φ) ps qs.toList _ z.cells out hf (VRs.lits _) hi hv
      refine ⟨.agg arr, ⟨arr, rfl, h2⟩, fun w => ?_⟩
      have hp : (fields.mapM (fun f => do pure (f.offset, ← sizeOf f.type)) : Sem (Array (Nat × Nat))).run P w = .ok pl.toArray w := by
        rw [Array.mapM_eq_mapM_toList, Sem.run_map, run_placesB hpl]; rfl
      simp only [Instr.build, Sem.run_bind, run_zeroB hz, Result.andThen_ok, run_underlying hu, hp]
      rw [show (fun x : Nat => (pl.toArray[x]? : Option (Nat × Nat))) = (fun x : Nat => pl[x]?) from by funext x; simp, h1]
      rfl
  · rename_i z len elem hz hu
    split at h
    case h_2 => cases h
    rename_i s hs
    cases hf : fillA (fun i => some (i * s, s)) (z.cells.toList.map .lit) ps with
    | none => simp [hf] at h
    | some out =>
      simp [hf] at h; subst h
      obtain ⟨arr, h1, h2⟩ := fillA_sound (φ := φ) ps qs.toList _ z.cells out hf (VRs.lits _) hi hv
      refine ⟨.agg arr, ⟨arr, rfl, h2⟩, fun w => ?_⟩
      simp only [Instr.build, Sem.run_bind, run_zeroB hz, Result.andThen_ok, run_underlying hu, run_sizeB hs, h1]
      rfl
  · cases h
def bound? : Option AV → Option (Option Int)
  | none => some none
  | some a => match asInt? a with | some (_, i) => some (some i) | none => none
theorem bound?_none {x : Option AV} {v : Option Value} (h : bound? x = some none) (hx : ∀ a, x = some a → ∃ u, v = some u ∧ VR φ a u) (hn : x = none → v = none) : v = none := by
  cases x with
  | none => exact hn rfl
  | some a => cases ha : asInt? a <;> simp [bound?, ha] at h
theorem bound?_some {x : Option AV} {v : Option Value} {i : Int} (h : bound? x = some (some i)) (hx : ∀ a, x = some a → ∃ u, v = some u ∧ VR φ a u) : ∃ k, v = some (.int k i) := by
  cases x with
  | none => cases h
  | some a =>
    cases ha : asInt? a with
    | none => simp [bound?, ha] at h
    | some p =>
      simp [bound?, ha] at h
      obtain ⟨u, hu, hv⟩ := hx a rfl
      exact ⟨p.1, by rw [hu, asInt?_sound (k := p.1) (n := i) (by rw [ha, ← h]) hv]⟩
theorem run_sliceBound {k : IntKind} {i : Int} {y : Nat} {code : BoundsCode} (h0 : 0 ≤ i) (h1 : i ≤ y) (w : World) : (Instr.sliceBound (.int k i) y code).run P w = .ok i.toNat w := by
  simp [Instr.sliceBound, asIntOf, h0, h1]
theorem run_sliceBounds {len k l h : Nat} {lv hv : Option Value} (hH : hv = none ∧ h = len ∨ ∃ kk i, hv = some (.int kk i) ∧ 0 ≤ i ∧ i ≤ (k : Int) ∧ h = i.toNat)
    (hL : lv = none ∧ l = 0 ∨ ∃ kk i, lv = some (.int kk i) ∧ 0 ≤ i ∧ i ≤ (h : Int) ∧ l = i.toNat) (w : World) : (Instr.sliceBounds true len k lv hv none).run P w = .ok (l, h, k) w := by
  unfold Instr.sliceBounds
  rcases hH with ⟨rfl, rfl⟩ | ⟨kk, i, rfl, h0, h1, rfl⟩ <;> rcases hL with ⟨rfl, rfl⟩ | ⟨kk', i', rfl, h0', h1', rfl⟩
  · simp
  · simp [run_sliceBound h0' h1']
  · simp [run_sliceBound h0 h1]
  · simp [run_sliceBound h0 h1, run_sliceBound h0' h1']
theorem run_sliceBounds3 {len k l h m : Nat} {lv : Option Value} {km kh : IntKind} {m' h' : Int} (hm0 : 0 ≤ m') (hm1 : m' ≤ (k : Int)) (hm : m = m'.toNat) (hh0 : 0 ≤ h') (hh1 : h' ≤ (m : Int)) (hh : h = h'.toNat)
    (hL : lv = none ∧ l = 0 ∨ ∃ kk i, lv = some (.int kk i) ∧ 0 ≤ i ∧ i ≤ (h : Int) ∧ l = i.toNat) (w : World) : (Instr.sliceBounds true len k lv (some (.int kh h')) (some (.int km m'))).run P w = .ok (l, h, m) w := by
  unfold Instr.sliceBounds
  subst hm hh
  rcases hL with ⟨rfl, rfl⟩ | ⟨kk', i', rfl, h0', h1', rfl⟩
  · simp [run_sliceBound hm0 hm1, run_sliceBound hh0 hh1]
  · simp [run_sliceBound hm0 hm1, run_sliceBound hh0 hh1, run_sliceBound h0' h1']
def popSlice (P : Program) (t : TypeId) (x : AV) (lo hi mx : Option AV) : Option AV :=
  match P.underlying t, x with
  | some (.slice elem), .slice b off len cap =>
    match sizeB P elem, bound? lo, bound? hi, bound? mx with
    | some (s + 1), some lo, some hi, some none =>
      let h : Int := hi.getD len
      let l : Int := lo.getD 0
      if 0 ≤ l ∧ l ≤ h then
        match cap with
        | some k =>
          if h ≤ k then some (.slice b (if (k : Int) = l then off else off + l.toNat * (s + 1)) (h.toNat - l.toNat) (some (k - l.toNat))) else none
        | none =>
          if h ≤ len then
            if l = 0 then some (.slice b off h.toNat none)
            else if l < h then some (.slice b (off + l.toNat * (s + 1)) (h.toNat - l.toNat) none)
            else some .empty
          else none
      else none
    | some (s + 1), some lo, some (some h), some (some m) =>
      let l : Int := lo.getD 0
      if 0 ≤ l ∧ l ≤ h ∧ h ≤ m ∧ m ≤ (cap.getD len : Nat) then
        some (.slice b (if m = l then off else off + l.toNat * (s + 1)) (h.toNat - l.toNat) (some (m.toNat - l.toNat)))
      else none
    | _, _, _, _ => none
  | _, _ => none
theorem popSlice_sound {t : TypeId} {x : AV} {lo hi mx : Option AV} {xv : Value} {lv hv mv : Option Value} (hx : VR φ x xv)
    (hl : ∀ a, lo = some a → ∃ u, lv = some u ∧ VR φ a u) (hln : lo = none → lv = none) (hh : ∀ a, hi = some a → ∃ u, hv = some u ∧ VR φ a u) (hhn : hi = none → hv = none)
    (hm : ∀ a, mx = some a → ∃ u, mv = some u ∧ VR φ a u) (hmn : mx = none → mv = none)
    (h : popSlice P t x lo hi mx = some r) : ∃ v, VR φ r v ∧ ∀ w, (Instr.sliceAt t xv lv hv mv).run P w = .ok v w := by
  unfold popSlice at h
  split at h
  case h_2 => cases h
  rename_i elem b off len cap hu
  obtain ⟨c, m, k, hb, rfl, hnk, hk1, hk2⟩ := hx
  split at h
  · rename_i s lo' hi' hs hlo hhi hmx
    obtain rfl := bound?_none hmx hm hmn
    simp only at h
    split at h
    case isFalse => cases h
    rename_i hlh
    have hbounds : ∀ w, (hi'.getD (len : Int) ≤ (k : Int)) → (Instr.sliceBounds true len k lv hv none).run P w = .ok ((lo'.getD 0).toNat, (hi'.getD (len : Int)).toNat, k) w := by
      intro w hy
      refine run_sliceBounds ?_ ?_ w
      · cases hi' with
        | none => exact .inl ⟨bound?_none hhi hh hhn, by simp⟩
        | some i => obtain ⟨kk, rfl⟩ := bound?_some hhi hh; exact .inr ⟨kk, i, rfl, by simp at hlh; omega, by simpa using hy, rfl⟩
      · cases lo' with
        | none => exact .inl ⟨bound?_none hlo hl hln, by simp⟩
        | some i => obtain ⟨kk, rfl⟩ := bound?_some hlo hl; exact .inr ⟨kk, i, rfl, by simp at hlh; omega, by simp at hlh; omega, rfl⟩
    have hrun : ∀ w, (hi'.getD (len : Int) ≤ (k : Int)) → (Instr.sliceAt t (.slice (some ⟨c, off, none⟩) len k) lv hv none).run P w =
        .ok (.slice (if k = (lo'.getD 0).toNat then some ⟨c, off, none⟩ else some ⟨c, off + (lo'.getD 0).toNat * (s + 1), none⟩) ((hi'.getD (len : Int)).toNat - (lo'.getD 0).toNat) (k - (lo'.getD 0).toNat)) w := by
      intro w hy
      simp only [Instr.sliceAt, Instr.slice, Sem.run_bind, run_underlying hu, Result.andThen_ok, hbounds w hy, run_sizeB hs, Option.map_some, Addr.add_mid, Sem.run_pure]
    split at h
    · rename_i k'
      obtain rfl := hk1 k' rfl
      split at h
      case isFalse => cases h
      rename_i hhk
      cases h
      refine ⟨_, ?_, fun w => hrun w hhk⟩
      by_cases e : k = (lo'.getD 0).toNat
      · rw [if_pos e, if_pos (by omega)]
        exact ⟨c, m, _, hb, rfl, by omega, fun _ e => by cases e; rfl, fun e => by cases e⟩
      · rw [if_neg e, if_neg (by omega)]
        exact ⟨c, m, _, hb, rfl, by omega, fun _ e => by cases e; rfl, fun e => by cases e⟩
    · split at h
      case isFalse => cases h
      rename_i hhk
      have hhk' : hi'.getD (len : Int) ≤ (k : Int) := by omega
      split at h
      · rename_i hl0
        cases h
        refine ⟨_, ?_, fun w => hrun w hhk'⟩
        rw [hl0]
        simp only [Int.toNat_zero, Nat.zero_mul, Nat.add_zero, ite_self, Nat.sub_zero]
        exact ⟨c, m, k, hb, rfl, by omega, fun _ e => (by cases e), hk2⟩
      · rename_i hl0
        split at h
        · rename_i hl1
          cases h
          refine ⟨_, ?_, fun w => hrun w hhk'⟩
          rw [if_neg (by omega)]
          refine ⟨c, m, _, hb, rfl, by omega, fun _ e => (by cases e), fun _ e => ?_⟩
          have : 0 < (lo'.getD 0).toNat * (s + 1) := Nat.mul_pos (by omega) (by omega)
          omega
        · cases h
          refine ⟨_, ?_, fun w => hrun w hhk'⟩
          have : (hi'.getD (len : Int)).toNat - (lo'.getD 0).toNat = 0 := by omega
          rw [this]
          split
          · exact ⟨_, _, rfl⟩
          · exact ⟨_, _, rfl⟩
  · rename_i s lo' h' m' hs hlo hhi hmx
    simp only at h
    split at h
    case isFalse => cases h
    rename_i hc
    cases h
    obtain ⟨km, rfl⟩ := bound?_some hmx hm
    obtain ⟨kh, rfl⟩ := bound?_some hhi hh
    have hmk : m' ≤ (k : Int) := by
      cases cap with
      | none => simp at hc; omega
      | some k' => have := hk1 k' rfl; subst this; simp at hc; omega
    have hrun : ∀ w, (Instr.sliceAt t (.slice (some ⟨c, off, none⟩) len k) lv (some (.int kh h')) (some (.int km m'))).run P w =
        .ok (.slice (if m'.toNat = (lo'.getD 0).toNat then some ⟨c, off, none⟩ else some ⟨c, off + (lo'.getD 0).toNat * (s + 1), none⟩) (h'.toNat - (lo'.getD 0).toNat) (m'.toNat - (lo'.getD 0).toNat)) w := by
      intro w
      have hb : (Instr.sliceBounds true len k lv (some (.int kh h')) (some (.int km m'))).run P w = .ok ((lo'.getD 0).toNat, h'.toNat, m'.toNat) w := by
        refine run_sliceBounds3 (by omega) hmk rfl (by omega) (by omega) rfl ?_ w
        cases lo' with
        | none => exact .inl ⟨bound?_none hlo hl hln, by simp⟩
        | some i => obtain ⟨kk, rfl⟩ := bound?_some hlo hl; exact .inr ⟨kk, i, rfl, by simp at hc; omega, by simp at hc; omega, rfl⟩
      simp only [Instr.sliceAt, Instr.slice, Sem.run_bind, run_underlying hu, Result.andThen_ok, hb, run_sizeB hs, Option.map_some, Addr.add_mid, Sem.run_pure]
    refine ⟨_, ?_, hrun⟩
    by_cases e : m'.toNat = (lo'.getD 0).toNat
    · rw [if_pos e, if_pos (by omega)]
      exact ⟨c, m, _, hb, rfl, by omega, fun _ e => by cases e; rfl, fun e => by cases e⟩
    · rw [if_neg e, if_neg (by omega)]
      exact ⟨c, m, _, hb, rfl, by omega, fun _ e => by cases e; rfl, fun e => by cases e⟩
  · cases h
end
end
end Go.Proofs.YtikmfpjcdcckeaaGreatDoor.D
namespace Go.Proofs.YtikmfpjcdcckeaaGreatDoor.D
open Go Go.RowKit
noncomputable section
def nilF (P : Program) (t : TypeId) (a b : AV) : Bool :=
  match P.underlying t, a, b with
  | some (.pointer _), .ptr _ _, .lit (.pointer none) => true
  | some (.pointer _), .lit (.pointer none), .ptr _ _ => true
  | some (.slice _), .slice _ _ _ _, .lit (.slice none _ _) => true
  | some (.slice _), .lit (.slice none _ _), .slice _ _ _ _ => true
  | some (.slice _), .empty, .lit (.slice none _ _) => true
  | some (.slice _), .lit (.slice none _ _), .empty => true
  | some (.map _ _), .map _, .lit (.map none) => true
  | some (.map _ _), .lit (.map none), .map _ => true
  | some (.func _ _ _), .func _ _ _, .lit .nilFunc => true
  | some (.func _ _ _), .lit .nilFunc, .func _ _ _ => true
  | some (.func _ _ _), .yield _, .lit .nilFunc => true
  | some (.func _ _ _), .lit .nilFunc, .yield _ => true
  | some (.interface _), .iface _ _, .lit .nilIface => true
  | some (.interface _), .lit .nilIface, .iface _ _ => true
  | _, _, _ => false
def popNil (P : Program) (op : BinOp) (t : TypeId) (a b : AV) : Option AV :=
  match op with
  | .eql => if nilF P t a b then some (.lit (.bool false)) else none
  | .neq => if nilF P t a b then some (.lit (.bool true)) else none
  | _ => none
section
variable {P : Program} {φ : Phi} {ev : Ev} {ρ : Operand → Value} {o : Oper} {r : AV}
theorem binOp_of_equal {t : TypeId} {x y : Value} {w : World} (op : BinOp) (hop : op = .eql ∨ op = .neq) (hE : (Op.equal t x y).run P w = .ok false w)
    (h1 : binOp .eql t x y = (do pure (.bool (← Op.equal t x y)))) (h2 : binOp .neq t x y = (do pure (.bool (!(← Op.equal t x y))))) : (binOp op t x y).run P w = .ok (.bool (op == .neq)) w := by
  rcases hop with rfl | rfl
  · rw [h1]; simp only [Sem.run_bind, hE, Result.andThen_ok, Sem.run_pure]; rfl
  · rw [h2]; simp only [Sem.run_bind, hE, Result.andThen_ok, Sem.run_pure]; rfl
theorem nilF_sound {t : TypeId} {a b : AV} {x y : Value} (h : nilF P t a b = true) (ha : VR φ a x) (hb : VR φ b y) (w : World) (u v : Operand) (op : BinOp) (hop : op = .eql ∨ op = .neq) :
    (eqGuard op t u v x y).run P w = .ok () w ∧ (binOp op t x y).run P w = .ok (.bool (op == .neq)) w := by
  unfold nilF at h
  split at h <;> (try cases h) <;> rename_i hu <;>
    simp only [VR] at ha hb <;> (try subst ha) <;> (try subst hb) <;>
    (first
      | (obtain ⟨c, m, k, _, rfl, _⟩ := ha)
      | (obtain ⟨c, m, k, _, rfl, _⟩ := hb)
      | (obtain ⟨c, m, _, rfl⟩ := ha)
      | (obtain ⟨c, m, _, rfl⟩ := hb)
      | (obtain ⟨c, m, rfl⟩ := ha)
      | (obtain ⟨c, m, rfl⟩ := hb)
      | (obtain ⟨c, m, rfl, _⟩ := ha)
      | (obtain ⟨c, m, rfl, _⟩ := hb)
      | (obtain ⟨c, rfl, _⟩ := ha)
      | (obtain ⟨c, rfl, _⟩ := hb)) <;>
    (refine ⟨by rcases hop with rfl | rfl <;> rfl, binOp_of_equal op hop ?_ rfl rfl⟩
     show (Op.equalIn (9999 + 1) t _ _).run P w = _
     unfold Op.equalIn
     simp only [Sem.run_bind, run_underlying hu, Result.andThen_ok]
     rfl)
end
end
end Go.Proofs.YtikmfpjcdcckeaaGreatDoor.D
namespace Go.Proofs.YtikmfpjcdcckeaaGreatDoor.D
open Go Go.RowKit
noncomputable section
def popAssert (P : Program) (x : AV) (t : TypeId) (ok : Bool) : Option AV :=
  match P.underlying t, x with
  | some (.interface _), _ => none
  | some _, .iface u v => if u = t then some (if ok then .tuple [v, .lit (.bool true)] else v) else
      if ok then match zeroB P t with | some z => some (.tuple [.lit z, .lit (.bool false)]) | none => none
      else none
  | _, _ => none
def popLen (P : Program) (b : Builtin) (ts : List TypeId) (xs : List AV) : Option AV :=
  match b, ts, xs with
  | .len, t :: _, .slice _ _ n _ :: _ => match P.underlying t with | some (.slice _) => some (.lit (goInt n)) | _ => none
  | .len, t :: _, .empty :: _ => match P.underlying t with | some (.slice _) => some (.lit (goInt 0)) | _ => none
  | .cap, t :: _, .slice _ _ _ (some k) :: _ => match P.underlying t with | some (.slice _) => some (.lit (goInt k)) | _ => none
  | _, _, _ => none
def orElse (a : Option AV) (b : Option AV) : Option AV := match a with | some r => some r | none => b
def pop (P : Program) (ev : Ev) (o : Oper) : Option AV :=
  match o.op with
  | .move x => some (ev x)
  | .assign x => some (ev x)
  | .pick c a b => match ev c with | .lit (.bool t) => some (if t then ev a else ev b) | _ => none
  | .extract t i => match (ev t).view with | .tuple cs => cs[i]? | _ => none
  | .field t x f => popField P t (ev x) f
  | .build t ps => popBuild P t (ps.toList.map fun p => (p.1, ev p.2))
  | .index t x ix => orElse (popIndex P t (ev x) (ev ix)) (popFlat P ev o)
  | .makeInterface t x => match P.underlying t with | some (.interface _) => none | some _ => some (.iface t (ev x)) | none => none
  | .makeFunc fn first captured => some (.func fn (first.toList.map ev) (captured.toList.map ev))
  | .indexAddr t x ix => popIndexAddr P t (ev x) (ev ix)
  | .fieldAddr s x f => popFieldAddr P s (ev x) f
  | .slice t x lo hi mx => orElse (popSlice P t (ev x) (lo.map ev) (hi.map ev) (mx.map ev)) (popFlat P ev o)
  | .nilCheck x => match ev x with
    | .ptr b off => some (.ptr b off)
    | .gptr b off => some (.gptr b off)
    | .iface t v => some (.iface t v)
    | .func (.func f) a b => some (.func (.func f) a b)
    | .yield l => some (.yield l)
    | _ => popFlat P ev o
  | .binOp op t x y _ => orElse (popNil P op t (ev x) (ev y)) (popFlat P ev o)
  | .typeAssert x _ t ok => orElse (popAssert P (ev x) t ok) (popFlat P ev o)
  | .call c => match c.callee with
    | .builtin b => orElse (popLen P b c.argTypes.toList (c.args.toList.map ev)) (popFlat P ev o)
    | _ => none
  | _ => popFlat P ev o
section
variable {P : Program} {φ : Phi} {ev : Ev} {ρ : Operand → Value} {o : Oper} {r : AV}
theorem orElse_some {a b : Option AV} (h : orElse a b = some r) : a = some r ∨ b = some r := by
  cases a with
  | some x => exact .inl h
  | none => exact .inr h
theorem yld_of {s : Sem Value} (he : execOp ρ o = (do pure (.value (← s)))) (h : ∃ v, VR φ r v ∧ ∀ w, s.run P w = .ok v w) : Yld P φ ρ o r := by
  obtain ⟨v, h1, h2⟩ := h
  exact ⟨v, h1, fun w => by rw [he]; simp only [Sem.run_bind, h2 w, Result.andThen_ok, Sem.run_pure]⟩
theorem popAssert_sound {x : AV} {xt t : TypeId} {ok : Bool} {xv : Value} (hx : VR φ x xv) (h : popAssert P x t ok = some r) :
    ∃ v, VR φ r v ∧ ∀ w, (Instr.typeAssert xv xt t ok).run P w = .ok v w := by
  unfold popAssert at h
  split at h
  · cases h
  · rename_i d u v hni hu
    obtain ⟨y, rfl, hy⟩ := hx
    have hnot : ∀ ms, d ≠ .interface ms := fun ms e => hni ms (by first | exact e | rw [hu, e])
    split at h
    · rename_i hut
      subst hut
      cases h
      refine ⟨if ok then .tuple #[y, .bool true] else y, ?_, fun w => ?_⟩
      · cases ok
        · exact hy
        · exact ⟨_, rfl, VRs.cons hy (VRs.cons (show VR φ (.lit _) _ from rfl) VRs.nil)⟩
      · cases d <;> first | exact absurd rfl (hnot _) | (simp [Instr.typeAssert, run_underlying hu])
    · rename_i hut
      split at h
      case isFalse => cases h
      rename_i hok
      split at h
      case h_2 => cases h
      rename_i z hz
      cases h
      refine ⟨.tuple #[z, .bool false], ⟨_, rfl, VRs.cons (show VR φ (.lit _) _ from rfl) (VRs.cons (show VR φ (.lit _) _ from rfl) VRs.nil)⟩, fun w => ?_⟩
      cases d <;> first | exact absurd rfl (hnot _) | (simp [Instr.typeAssert, run_underlying hu, hut, hok, run_zeroB hz])
  · cases h
theorem popLen_sound {b : Builtin} {ts : List TypeId} {ty : TypeId} {xs : List AV} {cs : Array Bool} {as_ : Array TypeId} {vs : Array Value} (ha : as_.toList = ts) (hx : VRs φ xs vs.toList) (h : popLen P b ts xs = some r) :
    ∃ v, VR φ r v ∧ ∀ w, (builtin b as_ ty cs vs).run P w = .ok (.value v) w := by
  unfold popLen at h
  split at h
  · rename_i t ts b' off n cap xs
    split at h
    case h_2 => cases h
    rename_i e hu
    cases h
    obtain ⟨x, xs', hx1, hx2, _⟩ := hx
    obtain ⟨c, m, k, _, rfl, _⟩ := hx2
    refine ⟨goInt n, rfl, fun w => ?_⟩
    have h0 : as_[0]? = some t := by rw [← Array.getElem?_toList, ha]; rfl
    have h1 : vs[0]? = some (.slice (some ⟨c, off, none⟩) n k) := by rw [← Array.getElem?_toList, hx1]; rfl
    simp [builtin, Builtin.len_, h0, h1, run_underlying hu]
  · rename_i t ts xs
    split at h
    case h_2 => cases h
    rename_i e hu
    cases h
    obtain ⟨x, xs', hx1, hx2, _⟩ := hx
    obtain ⟨a, k, rfl⟩ := hx2
    refine ⟨goInt 0, rfl, fun w => ?_⟩
    have h0 : as_[0]? = some t := by rw [← Array.getElem?_toList, ha]; rfl
    have h1 : vs[0]? = some (.slice (some a) 0 k) := by rw [← Array.getElem?_toList, hx1]; rfl
    simp [builtin, Builtin.len_, h0, h1, run_underlying hu]
  · rename_i t ts b' off n k' xs
    split at h
    case h_2 => cases h
    rename_i e hu
    cases h
    obtain ⟨x, xs', hx1, hx2, _⟩ := hx
    obtain ⟨c, m, k, _, rfl, _, hk, _⟩ := hx2
    obtain rfl := hk k' rfl
    refine ⟨goInt k, rfl, fun w => ?_⟩
    have h0 : as_[0]? = some t := by rw [← Array.getElem?_toList, ha]; rfl
    have h1 : vs[0]? = some (.slice (some ⟨c, off, none⟩) n k) := by rw [← Array.getElem?_toList, hx1]; rfl
    simp [builtin, Builtin.cap_, h0, h1, run_underlying hu]
  · cases h
theorem VRs.evs (hev : ∀ x, VR φ (ev x) (ρ x)) (l : Array Operand) : VRs φ (l.toList.map ev) (l.map ρ).toList := by
  rw [Array.toList_map]
  exact VRs.map_of _ fun x _ => hev x
theorem pop_sound (hev : ∀ x, VR φ (ev x) (ρ x)) (h : pop P ev o = some r) : Yld P φ ρ o r := by
  have hfl := fun h => popFlat_sound (P := P) (r := r) (o := o) hev h
  unfold pop at h
  split at h
  · rename_i x ho; cases h; exact ⟨ρ x, hev x, fun w => by simp [execOp, ho]⟩
  · rename_i x ho; cases h; exact ⟨ρ x, hev x, fun w => by simp [execOp, ho]⟩
  · rename_i c a b ho
    split at h
    case h_2 => cases h
    rename_i t hc
    cases h
    have hc' := hev c
    rw [hc] at hc'
    have hc'' : ρ c = .bool t := hc'
    refine ⟨if t then ρ a else ρ b, ?_, fun w => by simp [execOp, ho, hc'', asBool]⟩
    cases t
    · exact hev b
    · exact hev a
  · rename_i t i ho
    split at h
    case h_2 => cases h
    rename_i cs hv
    have hx := (hev t).view
    rw [hv] at hx
    obtain ⟨as_, ha, hcs⟩ := hx
    obtain ⟨y, hy, hvy⟩ := hcs.get h
    have hy' : as_[i]? = some y := by simpa using hy
    exact ⟨y, hvy, fun w => by simp [execOp, ho, ha, Instr.extract, hy']⟩
  · rename_i t x f ho
    exact yld_of (by simp only [execOp, ho]) (popField_sound (hev x) h)
  · rename_i t ps ho
    refine yld_of (s := Instr.build t (ps.map fun x => (x.1, ρ x.2))) (by simp only [execOp, ho]) (popBuild_sound ?_ ?_ h)
    · simp [Function.comp_def]
    · have := VRs.map_of (φ := φ) (f := fun p : Nat × Operand => ev p.2) (g := fun p => ρ p.2) ps.toList fun p _ => hev p.2
      simpa [Function.comp_def] using this
  · rename_i t x ix ho
    rcases orElse_some h with h | h
    · exact yld_of (by simp only [execOp, ho]) (popIndex_sound (hev x) (hev ix) h)
    · exact hfl h
  · rename_i t x ho
    split at h
    · cases h
    · rename_i d hni hu
      cases h
      have hnot : ∀ ms, d ≠ .interface ms := fun ms e => hni ms (by first | exact e | rw [hu, e])
      refine ⟨.iface t (ρ x), ⟨_, rfl, hev x⟩, fun w => ?_⟩
      cases d <;> first | exact absurd rfl (hnot _) | (simp [execOp, ho, Instr.makeInterface, run_underlying hu])
    · cases h
  · rename_i fn first captured ho
    cases h
    exact ⟨.func fn (first.map ρ) (captured.map ρ), ⟨_, _, rfl, VRs.evs hev _, VRs.evs hev _⟩, fun w => by simp [execOp, ho, Instr.makeFunc]⟩
  · rename_i t x ix ho
    exact yld_of (by simp only [execOp, ho]) (popIndexAddr_sound (hev x) (hev ix) h)
  · rename_i s x f ho
    exact yld_of (by simp only [execOp, ho]) (popFieldAddr_sound (hev x) h)
  · rename_i t x lo hi mx ho
    rcases orElse_some h with h | h
    · have key : ∀ (l : Option Operand), (∀ a, l.map ev = some a → ∃ u, l.map ρ = some u ∧ VR φ a u) ∧ (l.map ev = none → l.map ρ = none) := by
        intro l
        cases l with
        | none => exact ⟨fun a e => (by cases e), fun _ => rfl⟩
        | some y => exact ⟨fun a e => (by cases e; exact ⟨_, rfl, hev y⟩), fun e => (by cases e)⟩
      exact yld_of (by simp only [execOp, ho]) (popSlice_sound (hev x) (key lo).1 (key lo).2 (key hi).1 (key hi).2 (key mx).1 (key mx).2 h)
    · exact hfl h
  · rename_i x ho
    split at h
    · rename_i b off hx
      cases h
      have hv := hev x
      rw [hx] at hv
      have hv' := hv
      obtain ⟨c, m, _, hc⟩ := hv
      rw [hc] at hv'
      exact ⟨_, hv', fun w => by simp [execOp, ho, hc]⟩
    · rename_i b off hx
      cases h
      have hv := hev x
      rw [hx] at hv
      have hv' := hv
      have hc : ρ x = .pointer (some ⟨b, off, none⟩) := hv
      rw [hc] at hv'
      exact ⟨_, hv', fun w => by simp [execOp, ho, hc]⟩
    · rename_i b off hx
      cases h
      have hv := hev x
      rw [hx] at hv
      have hv' := hv
      obtain ⟨c, hc, _⟩ := hv
      rw [hc] at hv'
      exact ⟨_, hv', fun w => by simp [execOp, ho, hc]⟩
    · rename_i f a b hx
      cases h
      have hv := hev x
      rw [hx] at hv
      have hv' := hv
      obtain ⟨c, m, hc, _⟩ := hv
      rw [hc] at hv'
      exact ⟨_, hv', fun w => by simp [execOp, ho, hc]⟩
    · rename_i l hx
      cases h
      have hv := hev x
      rw [hx] at hv
      have hv' := hv
      obtain ⟨c, m, _, hc⟩ := hv
      rw [hc] at hv'
      exact ⟨_, hv', fun w => by simp [execOp, ho, hc]⟩
    · exact hfl h
  · rename_i op t x y yt ho
    rcases orElse_some h with h | h
    · have key : ∀ q, nilF P t (ev x) (ev y) = true → (op = .eql ∨ op = .neq) → q = (op == .neq) → r = .lit (.bool q) → Yld P φ ρ o r := by
        intro q hn hop hq hr
        subst hr
        refine ⟨.bool q, rfl, fun w => ?_⟩
        obtain ⟨h1, h2⟩ := nilF_sound hn (hev x) (hev y) w x y op hop
        simp only [execOp, ho, Sem.run_bind, h1, Result.andThen_ok, h2, Sem.run_pure, hq]
      unfold popNil at h
      split at h
      · split at h
        · rename_i hn; cases h; exact key false hn (.inl rfl) rfl rfl
        · cases h
      · split at h
        · rename_i hn; cases h; exact key true hn (.inr rfl) rfl rfl
        · cases h
      · cases h
    · exact hfl h
  · rename_i x xt t ok ho
    rcases orElse_some h with h | h
    · exact yld_of (by simp only [execOp, ho]) (popAssert_sound (xt := xt) (hev x) h)
    · exact hfl h
  · rename_i c ho
    split at h
    · rename_i b hb
      rcases orElse_some h with h | h
      · obtain ⟨v, h1, h2⟩ := popLen_sound (as_ := c.argTypes) (ty := o.type) (cs := (c.args.map fun | .const _ => true | _ => false)) rfl (VRs.evs hev c.args) h
        refine ⟨v, h1, fun w => ?_⟩
        simp only [execOp, ho, resolve, hb, Sem.run_bind, Sem.run_pure, Result.andThen_ok, invoke]
        exact h2 w
      · exact hfl h
    · cases h
  · exact hfl h
end
end
end Go.Proofs.YtikmfpjcdcckeaaGreatDoor.D
