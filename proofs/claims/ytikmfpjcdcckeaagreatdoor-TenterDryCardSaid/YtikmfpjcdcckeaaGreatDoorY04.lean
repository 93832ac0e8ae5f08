/- Part 4 of what the law's proof needs: words, walks of functions and plain facts. -/
import Derived.CallsIn
import Derived.RangeFuncCalls
import Derived.KernelRfl
import Derived.Deep.MidRow
import Derived.Deep.AppendSrc
import Derived.Below
import Derived.Test.YtikmfpjcdcckeaaGreatDoorY01
import Derived.Test.YtikmfpjcdcckeaaGreatDoorY02
import Derived.Test.YtikmfpjcdcckeaaGreatDoorY03
set_option linter.unusedVariables false
set_option linter.unusedSimpArgs false
namespace Go.Proofs.YtikmfpjcdcckeaaGreatDoor.P
open Go.RowKit Go.Proofs.YtikmfpjcdcckeaaGreatDoorW.PrintWords Go.Proofs.YtikmfpjcdcckeaaGreatDoorW.PrintLast Go.Proofs.YtikmfpjcdcckeaaGreatDoorW.PrintMore
attribute [local go_sem] max2_int min2_int max_two min_two max_three min_three max_four min_four
mutual
def walkmilllaw05_Green_weather.l0 : Nat → List (S36) → Int → List (S131) → Int → Int → Int → Int → Int → List (S81) → Option ((List (S36)))
  | 0, _, _, _, _, _, _, _, _, _ => none
  | k + 1, x3, x4, x102000, x102001, x102002, x102003, x102004, x102005, x102006 => if x4 = 0 then (walkmilllaw05_Green_weather.j1 k x3 x4 true x102000 x102001 x102002 x102003 x102004 x102005 x102006) else (if x4 < (x102006.length : Int) then (walkmilllaw05_Green_weather.j1 k x3 x4 (decide (x4 < 12)) x102000 x102001 x102002 x102003 x102004 x102005 x102006) else (walkmilllaw05_Green_weather.j1 k x3 x4 false x102000 x102001 x102002 x102003 x102004 x102005 x102006))
def walkmilllaw05_Green_weather.j1 : Nat → List (S36) → Int → Bool → List (S131) → Int → Int → Int → Int → Int → List (S81) → Option ((List (S36)))
  | 0, _, _, _, _, _, _, _, _, _, _ => none
  | k + 1, x3, x4, x20, x102000, x102001, x102002, x102003, x102004, x102005, x102006 => if x20 = true then (if x4 < (x102006.length : Int) then (if 0 ≤ x4 then ((walkmilllaw05_span.f (Int.tmod (wrap64 ((rd_T81 x102006 x4).f0)) 60) (wrap64 ((Int.tmod (wrap64 ((rd_T81 x102006 x4).f0)) 60) + (Int.tmod (wrap64 ((rd_T81 x102006 x4).f1)) 30)))).bind fun bt107 => (if x3.length < 8796093022208 then (walkmilllaw05_Green_weather.l0 k (x3 ++ [(⟨bt107.1, bt107.2⟩ : S36)]) (wrap64 (x4 + 1)) x102000 x102001 x102002 x102003 x102004 x102005 x102006) else (none))) else (none)) else ((walkmilllaw05_span.f 20 25).bind fun bt112 => (if x3.length < 8796093022208 then (walkmilllaw05_Green_weather.l0 k (x3 ++ [(⟨bt112.1, bt112.2⟩ : S36)]) (wrap64 (x4 + 1)) x102000 x102001 x102002 x102003 x102004 x102005 x102006) else (none)))) else (some x3)
end
def walkmilllaw05_Green_weather.f (k : Nat) (l0_0 : List (S131)) (a0_1 : Int) (a0_2 : Int) (a0_3 : Int) (a0_4 : Int) (a0_5 : Int) (l0_6 : List (S81)) : Option ((List (S36))) := walkmilllaw05_Green_weather.l0 k (([] : List (S36))) 0 l0_0 a0_1 a0_2 a0_3 a0_4 a0_5 l0_6
theorem walkmilllaw05_Green_weather.mono_l : ∀ k, (∀ y0 y1 y2 y3 y4 y5 y6 y7 y8, LeO (walkmilllaw05_Green_weather.l0 k y0 y1 y2 y3 y4 y5 y6 y7 y8) (walkmilllaw05_Green_weather.l0 (k + 1) y0 y1 y2 y3 y4 y5 y6 y7 y8)) ∧ (∀ y0 y1 y2 y3 y4 y5 y6 y7 y8 y9, LeO (walkmilllaw05_Green_weather.j1 k y0 y1 y2 y3 y4 y5 y6 y7 y8 y9) (walkmilllaw05_Green_weather.j1 (k + 1) y0 y1 y2 y3 y4 y5 y6 y7 y8 y9))
  | 0 => ⟨fun _ _ _ _ _ _ _ _ _ r h => by simp [walkmilllaw05_Green_weather.l0] at h, fun _ _ _ _ _ _ _ _ _ _ r h => by simp [walkmilllaw05_Green_weather.j1] at h⟩
  | k + 1 => by
    obtain ⟨ih0, ih1⟩ := walkmilllaw05_Green_weather.mono_l k
    refine ⟨?_, ?_⟩
    · intro y0 y1 y2 y3 y4 y5 y6 y7 y8
      unfold walkmilllaw05_Green_weather.l0
      repeat' first
      | (with_reducible exact ih0 _ _ _ _ _ _ _ _ _)
      | (with_reducible exact ih1 _ _ _ _ _ _ _ _ _ _)
      | (with_reducible exact LeO.refl _)
      | (with_reducible exact LeO.none _)
      | (with_reducible refine LeO.ite ?_ ?_)
      | (with_reducible refine LeO.bind ?_ (fun _ => ?_))
      | exact ih0 _ _ _ _ _ _ _ _ _
      | exact ih1 _ _ _ _ _ _ _ _ _ _
      | exact LeO.none _
      | refine LeO.ite ?_ ?_
      | refine LeO.bind ?_ (fun _ => ?_)
    · intro y0 y1 y2 y3 y4 y5 y6 y7 y8 y9
      unfold walkmilllaw05_Green_weather.j1
      repeat' first
      | (with_reducible exact ih0 _ _ _ _ _ _ _ _ _)
      | (with_reducible exact ih1 _ _ _ _ _ _ _ _ _ _)
      | (with_reducible exact LeO.refl _)
      | (with_reducible exact LeO.none _)
      | (with_reducible refine LeO.ite ?_ ?_)
      | (with_reducible refine LeO.bind ?_ (fun _ => ?_))
      | exact ih0 _ _ _ _ _ _ _ _ _
      | exact ih1 _ _ _ _ _ _ _ _ _ _
      | exact LeO.none _
      | refine LeO.ite ?_ ?_
      | refine LeO.bind ?_ (fun _ => ?_)
theorem walkmilllaw05_Green_weather.mono : ∀ a0 a1 a2 a3 a4 a5 a6 k, LeO (walkmilllaw05_Green_weather.f k a0 a1 a2 a3 a4 a5 a6) (walkmilllaw05_Green_weather.f (k + 1) a0 a1 a2 a3 a4 a5 a6) := by
  intro a0 a1 a2 a3 a4 a5 a6 k
  obtain ⟨ih0, ih1⟩ := walkmilllaw05_Green_weather.mono_l k
  unfold walkmilllaw05_Green_weather.f
  repeat' first
      | (with_reducible exact ih0 _ _ _ _ _ _ _ _ _)
      | (with_reducible exact ih1 _ _ _ _ _ _ _ _ _ _)
      | (with_reducible exact LeO.refl _)
      | (with_reducible exact LeO.none _)
      | (with_reducible refine LeO.ite ?_ ?_)
      | (with_reducible refine LeO.bind ?_ (fun _ => ?_))
      | exact ih0 _ _ _ _ _ _ _ _ _
      | exact ih1 _ _ _ _ _ _ _ _ _ _
      | exact LeO.none _
      | refine LeO.ite ?_ ?_
      | refine LeO.bind ?_ (fun _ => ?_)
set_option maxHeartbeats 8000000 in
set_option maxRecDepth 100000 in
theorem walkmilllaw05_Green_weather.calls (k : Nat) (A0_0 : Option Addr) (c0_0 : Nat) (l0_0 : List (S131)) (a0_1 : Int) (a0_2 : Int) (a0_3 : Int) (a0_4 : Int) (a0_5 : Int) (A0_6 : Option Addr) (c0_6 : Nat) (l0_6 : List (S81)) (r : List (S36)) (w : World) (hr0_0 : Kd.C k131 w A0_0 l0_0.length l0_0) (hc0_0 : l0_0.length ≤ c0_0) (hr0_6 : Kd.C k81 w A0_6 l0_6.length l0_6) (hc0_6 : l0_6.length ≤ c0_6) (h : walkmilllaw05_Green_weather.f k l0_0 a0_1 a0_2 a0_3 a0_4 a0_5 l0_6 = some r) :
    Calls Tryz.prog 44 #[.agg #[.slice A0_0 l0_0.length c0_0, .int .u8 a0_1, .int .u8 a0_2, .int .u8 a0_3, .int .u8 a0_4, .int .u8 a0_5, .slice A0_6 l0_6.length c0_6]] w fun e w' => ∃ v0_ : Value, e = .returned (v0_) ∧ Kd.R k36 36 w' w.heap.size (fun _ => True) v0_ r ∧ Below w.heap.size w w' := by
  have hff0 : Int.tmod (20 : Int) 60 = 20 := by first | (unfold wrap64; omega) | decide | kernel_rfl
  have hff1 : Int.tmod (5 : Int) 30 = 5 := by first | (unfold wrap64; omega) | decide | kernel_rfl
  have hff2 : IntKind.i64.wrap (20 : Int) = 20 := by first | (unfold wrap64; omega) | decide | kernel_rfl
  have hff3 : IntKind.i64.wrap (25 : Int) = 25 := by first | (unfold wrap64; omega) | decide | kernel_rfl
  have hff4 : IntKind.i64.wrap (5 : Int) = 5 := by first | (unfold wrap64; omega) | decide | kernel_rfl
  have hff5 : wrap64 (20 : Int) = 20 := by first | (unfold wrap64; omega) | decide | kernel_rfl
  have hff6 : wrap64 (25 : Int) = 25 := by first | (unfold wrap64; omega) | decide | kernel_rfl
  have hff7 : wrap64 (5 : Int) = 5 := by first | (unfold wrap64; omega) | decide | kernel_rfl
  have hu79 := Tryz.underlying79
  have hu81 := Tryz.underlying81
  have HR0_0 := Aside0.mk hr0_0
  have HC0_0 := Aside0.mk hc0_0
  clear hr0_0 hc0_0
  have HR0_6 := Aside0.mk hr0_6
  have HC0_6 := Aside0.mk hc0_6
  clear hr0_6 hc0_6
  have HB := Aside0.mk (Below.refl w.heap.size w)
  have H : (walkmilllaw05_Green_weather.l0 k (([] : List (S36))) 0 l0_0 a0_1 a0_2 a0_3 a0_4 a0_5 l0_6) = some r := h
  clear h
  obtain ⟨y102, hy102⟩ : ∃ y_ : List (S36), y_ = (([] : List (S36))) := ⟨_, rfl⟩
  replace H : (walkmilllaw05_Green_weather.l0 k y102 0 l0_0 a0_1 a0_2 a0_3 a0_4 a0_5 l0_6) = some r := by first | (rw [hy102]; with_reducible exact H) | (have H2_ := (Option.bind_some _ _).symm.trans H; rw [hy102]; with_reducible exact H2_) | (have H2_ := (Option.bind_some _ _).symm.trans H; with_reducible exact H2_) | with_reducible exact H | (rw [hy102]; exact H) | exact H
  have Ny102 := Aside0.mk hy102
  clear hy102
  have H' := Aside0.mk H
  clear H
  go_enter Tryz.func44, Tryz.ntmps44
  go_wp2_with (first | ((with_reducible refine gate_dst (N := 1) rfl ?_); (try (refine gate_guard (by rfl) ?_; dsimp only)); refine box_event ?hg (N := 1) ?hd (cs := #[.slice A0_0 l0_0.length c0_0, .int .u8 a0_1, .int .u8 a0_2, .int .u8 a0_3, .int .u8 a0_4, .int .u8 a0_5, .slice A0_6 l0_6.length c0_6]) (t := 79) ?hr ?_; (case hd => rfl); (case hg => rfl); (case hr => first | (go_simp; done) | (go_simp; rfl)); intro gb101 hg w2 hbox hb; have n0_ := Aside0.mk (below_step (by repeat (first | (with_reducible first | exact HB.out | apply below_alloc | apply pw_below_drewN | apply below_drew1) | exact HB.out)) hb); have n1_ := Aside0.mk (hbox); have n2_ := Aside0.mk ((by rw [hg]; exact (below_size (by repeat (first | (with_reducible first | exact HB.out | apply below_alloc | apply pw_below_drewN | apply below_drew1) | exact HB.out))) : w.heap.size ≤ gb101)); have n3_ := Aside0.mk ((by rw [hg]; exact (below_size (by repeat (first | (with_reducible first | exact HB.out | apply below_alloc | apply pw_below_drewN | apply below_drew1) | exact HB.out))) : w.heap.size ≤ gb101)); clear HB; have HB := n0_; have BK101 := n1_; have GW101 := n2_; have GE101 := n3_; clear n0_ n1_ n2_ n3_; clear hb hbox hg) | ((with_reducible refine gate_dst (N := 7) rfl ?_); (try (refine gate_guard (by rfl) ?_; dsimp only)); refine Kd.R_lit k36 _ 36 ?hg (N := 7) ?hd (xs := ([] : List (S36))) (inner := []) (ok := fun _ => True) (okp := fun _ => True) ?hr ?hp (fun _ hk => hk) trivial (Below.refl _ _) (Nat.le_refl _) (by simp) ?_; (case hd => rfl); (case hg => rfl); (case hr => first | (go_simp; done) | (go_simp; rfl)); (case hp => exact (Reps.none _ _)); intro v103 w3 ho4 hb hg_ hnew_; clear hg_ hnew_; (first | rw [← Ny102.out] at ho4 | (simp only [Int.reduceToNat] at ho4; rw [← Ny102.out] at ho4)); have n0_ := Aside0.mk (Kd.R_lower ho4 (below_size (by repeat (first | (with_reducible first | exact HB.out | apply below_alloc | apply pw_below_drewN | apply below_drew1 | refine below_set ?_ GE101.out) | exact HB.out)))); have n1_ := Aside0.mk (blk_below (g := gb101) (o := .cells #[.slice A0_0 l0_0.length c0_0, .int .u8 a0_1, .int .u8 a0_2, .int .u8 a0_3, .int .u8 a0_4, .int .u8 a0_5, .slice A0_6 l0_6.length c0_6] 79 (0, 0)) (by (with_reducible repeat (first | refine blk_drewN ?_ _ | refine blk_drew ?_ | refine blk_alloc ?_ _)); exact BK101.out) hb); have n2_ := Aside0.mk (below_step (by repeat (first | (with_reducible first | exact HB.out | apply below_alloc | apply pw_below_drewN | apply below_drew1 | refine below_set ?_ GE101.out) | exact HB.out)) hb); clear BK101; clear HB; have HO104 := n0_; have BK101 := n1_; have HB := n2_; clear n0_ n1_ n2_; clear hb ho4))
  go_loopg [3, 4] k (fun kq v3 v4 w' => ∃ (x3_1 : List (S36)) (x4_1 : Int), v4 = .int .i64 x4_1 ∧ Aside0 (walkmilllaw05_Green_weather.l0 kq x3_1 x4_1 l0_0 a0_1 a0_2 a0_3 a0_4 a0_5 l0_6 = some r) ∧ Aside0 (kq ≤ k) ∧ Aside0 (Kd.R k36 36 w' w.heap.size (fun _ => True) v3 x3_1) ∧ Aside0 (w'.heap[gb101]? = some (.cells #[(.slice A0_0 l0_0.length c0_0), .int .u8 a0_1, .int .u8 a0_2, .int .u8 a0_3, .int .u8 a0_4, .int .u8 a0_5, (.slice A0_6 l0_6.length c0_6)] 79 (0, 0))) ∧ Aside0 (Below w.heap.size w w'))
  case atStart => exact ⟨(y102), (0), (by first | rfl | (simp; done) | (simp [*]; done)), H', ⟨Nat.le_refl _⟩, ⟨by (with_reducible repeat (first | apply Kd.R_alloc | apply Kd.R_drewN | apply Kd.R_drew)); exact HO104.out⟩, ⟨by (with_reducible repeat (first | refine blk_drewN ?_ _ | refine blk_drew ?_ | refine blk_alloc ?_ _)); exact BK101.out⟩, ⟨by repeat (first | (with_reducible first | exact HB.out | apply below_alloc | apply pw_below_drewN | apply below_drew1 | refine below_set ?_ GE101.out) | exact HB.out)⟩⟩
  case round =>
    clear H'
    try clear p2
    try clear c4
    obtain ⟨x3_1, x4_1, rfl, HA, HK1, HO_3, BK101, HB⟩ := hrel
    cases gk with
    | zero => exact absurd HA.out (by simp [walkmilllaw05_Green_weather.l0])
    | succ k1 =>
      have H := HA.out
      clear HA
      simp only [walkmilllaw05_Green_weather.l0] at H
      have HC5 := Aside0.mk H
      clear H
      go_upto_region 3 with (fail)
      go_cut [20] (fun v20 wc => ∃ (kq : Nat) (x20_4 : Bool), v20 = .bool x20_4 ∧ Aside0 (walkmilllaw05_Green_weather.j1 kq x3_1 x4_1 x20_4 l0_0 a0_1 a0_2 a0_3 a0_4 a0_5 l0_6 = some r) ∧ Aside0 (kq ≤ k1) ∧ Aside0 (Kd.R k36 36 wc w.heap.size (fun _ => True) u3 x3_1) ∧ Aside0 (wc.heap[gb101]? = some (.cells #[(.slice A0_0 l0_0.length c0_0), .int .u8 a0_1, .int .u8 a0_2, .int .u8 a0_3, .int .u8 a0_4, .int .u8 a0_5, (.slice A0_6 l0_6.length c0_6)] 79 (0, 0))) ∧ Aside0 (Below w.heap.size w wc))
      case first =>
        have H := HC5.out
        clear HC5
        by_cases c6 : x4_1 = 0
        · rw [if_pos c6] at H
          have c6b0 : (x4_1 == 0) = true := beq_iff_eq.mpr c6
          have c6b1 : (x4_1 != 0) = false := bne_eq_false_iff_eq.mpr c6
          clear c6
          (first | rw [c6b0] | (simp only [i64_w, i32_w]; rw [c6b0]) | skip)
          have H' := Aside0.mk H
          clear H
          go_wp2
          go_meet
          case rel => exact ⟨_, (true), (by first | rfl | (simp; done) | (simp [*]; done)), H', ⟨by have := HK1.out; first | omega | exact Nat.le_refl _⟩, ⟨by (with_reducible repeat (first | apply Kd.R_alloc | apply Kd.R_drewN | apply Kd.R_drew)); exact HO_3.out⟩, ⟨by (with_reducible repeat (first | refine blk_drewN ?_ _ | refine blk_drew ?_ | refine blk_alloc ?_ _)); exact BK101.out⟩, ⟨by repeat (first | (with_reducible first | exact HB.out | apply below_alloc | apply pw_below_drewN | apply below_drew1 | refine below_set ?_ GE101.out) | exact HB.out)⟩⟩
        · rw [if_neg c6] at H
          have c6b0 : (x4_1 == 0) = false := beq_eq_false_iff_ne.mpr c6
          have c6b1 : (x4_1 != 0) = true := bne_iff_ne.mpr c6
          (first | rw [c6b0] | (simp only [i64_w, i32_w]; rw [c6b0]) | skip)
          by_cases c7 : x4_1 < (l0_6.length : Int)
          · rw [if_pos c7] at H
            have c7b0 : decide (x4_1 < (l0_6.length : Int)) = true := decide_eq_true c7
            clear c7
            have H' := Aside0.mk H
            clear H
            have hcz8_0 : wr.cell? ⟨gb101, 0, none⟩ = some (.slice A0_0 l0_0.length c0_0) := (blk_cell BK101.out 0).trans rfl
            have hcz8_1 : wr.cell? ⟨gb101, 1, none⟩ = some (.int .u8 a0_1) := (blk_cell BK101.out 1).trans rfl
            have hcz8_2 : wr.cell? ⟨gb101, 2, none⟩ = some (.int .u8 a0_2) := (blk_cell BK101.out 2).trans rfl
            have hcz8_3 : wr.cell? ⟨gb101, 3, none⟩ = some (.int .u8 a0_3) := (blk_cell BK101.out 3).trans rfl
            have hcz8_4 : wr.cell? ⟨gb101, 4, none⟩ = some (.int .u8 a0_4) := (blk_cell BK101.out 4).trans rfl
            have hcz8_5 : wr.cell? ⟨gb101, 5, none⟩ = some (.int .u8 a0_5) := (blk_cell BK101.out 5).trans rfl
            have hcz8_6 : wr.cell? ⟨gb101, 6, none⟩ = some (.slice A0_6 l0_6.length c0_6) := (blk_cell BK101.out 6).trans rfl
            have hfz8_0 := blk_frozen BK101.out 0
            have hfz8_1 := blk_frozen BK101.out 1
            have hfz8_2 := blk_frozen BK101.out 2
            have hfz8_3 := blk_frozen BK101.out 3
            have hfz8_4 := blk_frozen BK101.out 4
            have hfz8_5 := blk_frozen BK101.out 5
            have hfz8_6 := blk_frozen BK101.out 6
            go_wp2
            go_meet
            case rel => exact ⟨_, (decide (x4_1 < 12)), (by first | rfl | (simp; done) | (simp [*]; done)), H', ⟨by have := HK1.out; first | omega | exact Nat.le_refl _⟩, ⟨by (with_reducible repeat (first | apply Kd.R_alloc | apply Kd.R_drewN | apply Kd.R_drew)); exact HO_3.out⟩, ⟨by (with_reducible repeat (first | refine blk_drewN ?_ _ | refine blk_drew ?_ | refine blk_alloc ?_ _)); exact BK101.out⟩, ⟨by repeat (first | (with_reducible first | exact HB.out | apply below_alloc | apply pw_below_drewN | apply below_drew1 | refine below_set ?_ GE101.out) | exact HB.out)⟩⟩
          · rw [if_neg c7] at H
            have c7b0 : decide (x4_1 < (l0_6.length : Int)) = false := decide_eq_false c7
            clear c7
            have H' := Aside0.mk H
            clear H
            have hcz9_0 : wr.cell? ⟨gb101, 0, none⟩ = some (.slice A0_0 l0_0.length c0_0) := (blk_cell BK101.out 0).trans rfl
            have hcz9_1 : wr.cell? ⟨gb101, 1, none⟩ = some (.int .u8 a0_1) := (blk_cell BK101.out 1).trans rfl
            have hcz9_2 : wr.cell? ⟨gb101, 2, none⟩ = some (.int .u8 a0_2) := (blk_cell BK101.out 2).trans rfl
            have hcz9_3 : wr.cell? ⟨gb101, 3, none⟩ = some (.int .u8 a0_3) := (blk_cell BK101.out 3).trans rfl
            have hcz9_4 : wr.cell? ⟨gb101, 4, none⟩ = some (.int .u8 a0_4) := (blk_cell BK101.out 4).trans rfl
            have hcz9_5 : wr.cell? ⟨gb101, 5, none⟩ = some (.int .u8 a0_5) := (blk_cell BK101.out 5).trans rfl
            have hcz9_6 : wr.cell? ⟨gb101, 6, none⟩ = some (.slice A0_6 l0_6.length c0_6) := (blk_cell BK101.out 6).trans rfl
            have hfz9_0 := blk_frozen BK101.out 0
            have hfz9_1 := blk_frozen BK101.out 1
            have hfz9_2 := blk_frozen BK101.out 2
            have hfz9_3 := blk_frozen BK101.out 3
            have hfz9_4 := blk_frozen BK101.out 4
            have hfz9_5 := blk_frozen BK101.out 5
            have hfz9_6 := blk_frozen BK101.out 6
            go_wp2
            go_meet
            case rel => exact ⟨_, (false), (by first | rfl | (simp; done) | (simp [*]; done)), H', ⟨by have := HK1.out; first | omega | exact Nat.le_refl _⟩, ⟨by (with_reducible repeat (first | apply Kd.R_alloc | apply Kd.R_drewN | apply Kd.R_drew)); exact HO_3.out⟩, ⟨by (with_reducible repeat (first | refine blk_drewN ?_ _ | refine blk_drew ?_ | refine blk_alloc ?_ _)); exact BK101.out⟩, ⟨by repeat (first | (with_reducible first | exact HB.out | apply below_alloc | apply pw_below_drewN | apply below_drew1 | refine below_set ?_ GE101.out) | exact HB.out)⟩⟩
      case rest =>
        clear HC5
        try clear p2
        try clear c4
        try clear c6
        try clear c6b0
        try clear c6b1
        try clear c7
        try clear c7b0
        try clear hcz8_0
        try clear hcz8_1
        try clear hcz8_2
        try clear hcz8_3
        try clear hcz8_4
        try clear hcz8_5
        try clear hcz8_6
        try clear hcz9_0
        try clear hcz9_1
        try clear hcz9_2
        try clear hcz9_3
        try clear hcz9_4
        try clear hcz9_5
        try clear hcz9_6
        try clear hfz8_0
        try clear hfz8_1
        try clear hfz8_2
        try clear hfz8_3
        try clear hfz8_4
        try clear hfz8_5
        try clear hfz8_6
        try clear hfz9_0
        try clear hfz9_1
        try clear hfz9_2
        try clear hfz9_3
        try clear hfz9_4
        try clear hfz9_5
        try clear hfz9_6
        try clear p2
        obtain ⟨kq, x20_4, rfl, HA, HJ4, HO_3, BK101, HB⟩ := hcut
        cases kq with
        | zero => exact absurd HA.out (by simp [walkmilllaw05_Green_weather.j1])
        | succ kj4 =>
          have H := HA.out
          clear HA
          simp only [walkmilllaw05_Green_weather.j1] at H
          by_cases c10 : x20_4 = true
          · subst c10
            have H1 : (if x4_1 < (l0_6.length : Int) then (if 0 ≤ x4_1 then ((walkmilllaw05_span.f (Int.tmod (wrap64 ((rd_T81 l0_6 x4_1).f0)) 60) (wrap64 ((Int.tmod (wrap64 ((rd_T81 l0_6 x4_1).f0)) 60) + (Int.tmod (wrap64 ((rd_T81 l0_6 x4_1).f1)) 30)))).bind fun bt107 => (if x3_1.length < 8796093022208 then (walkmilllaw05_Green_weather.l0 kj4 (x3_1 ++ [(⟨bt107.1, bt107.2⟩ : S36)]) (wrap64 (x4_1 + 1)) l0_0 a0_1 a0_2 a0_3 a0_4 a0_5 l0_6) else (none))) else (none)) else ((walkmilllaw05_span.f 20 25).bind fun bt112 => (if x3_1.length < 8796093022208 then (walkmilllaw05_Green_weather.l0 kj4 (x3_1 ++ [(⟨bt112.1, bt112.2⟩ : S36)]) (wrap64 (x4_1 + 1)) l0_0 a0_1 a0_2 a0_3 a0_4 a0_5 l0_6) else (none)))) = some r := by rw [if_pos rfl] at H; exact H
            clear H
            have H := H1
            clear H1
            by_cases c11 : x4_1 < (l0_6.length : Int)
            · rw [if_pos c11] at H
              have c11b0 : decide (x4_1 < (l0_6.length : Int)) = true := decide_eq_true c11
              clear c11
              by_cases c12 : 0 ≤ x4_1
              · rw [if_pos c12] at H
                have c12b0 : decide (0 ≤ x4_1) = true := decide_eq_true c12
                clear c12
                replace H := Option.bind_eq_some_iff.mp H
                obtain ⟨⟨t107, t108⟩, A130, H⟩ := H
                replace H : (if x3_1.length < 8796093022208 then (walkmilllaw05_Green_weather.l0 kj4 (x3_1 ++ [(⟨t107, t108⟩ : S36)]) (wrap64 (x4_1 + 1)) l0_0 a0_1 a0_2 a0_3 a0_4 a0_5 l0_6) else (none)) = some r := H
                have A13 := Aside0.mk A130
                clear A130
                by_cases c14 : x3_1.length < 8796093022208
                · rw [if_pos c14] at H
                  have LMc14 := Aside0.mk c14
                  clear c14
                  obtain ⟨y109, hy109⟩ : ∃ y_ : List (S36), y_ = (x3_1 ++ [(⟨t107, t108⟩ : S36)]) := ⟨_, rfl⟩
                  replace H : (walkmilllaw05_Green_weather.l0 kj4 y109 (wrap64 (x4_1 + 1)) l0_0 a0_1 a0_2 a0_3 a0_4 a0_5 l0_6) = some r := by first | (rw [hy109]; with_reducible exact H) | (have H2_ := (Option.bind_some _ _).symm.trans H; rw [hy109]; with_reducible exact H2_) | (have H2_ := (Option.bind_some _ _).symm.trans H; with_reducible exact H2_) | with_reducible exact H | (rw [hy109]; exact H) | exact H
                  have Ny109 := Aside0.mk hy109
                  clear hy109
                  have H' := Aside0.mk H
                  clear H
                  go_wp2_with (first | ((with_reducible refine gate_dst (N := 5) rfl ?_); (try (refine gate_guard (by rfl) ?_; dsimp only)); refine box_event ?hg (N := 5) ?hd (cs := #[.int .u8 0, .int .u8 0]) (t := 81) ?hr ?_; (case hd => rfl); (case hg => rfl); (case hr => first | (go_simp; done) | (go_simp; rfl)); intro gb105 hg w15 hbox hb; have n0_ := Aside0.mk (Kd.R_below (by (with_reducible repeat (first | apply Kd.R_alloc | apply Kd.R_drewN | apply Kd.R_drew)); exact HO_3.out) hb); have n1_ := Aside0.mk (blk_below (g := gb101) (o := .cells #[.slice A0_0 l0_0.length c0_0, .int .u8 a0_1, .int .u8 a0_2, .int .u8 a0_3, .int .u8 a0_4, .int .u8 a0_5, .slice A0_6 l0_6.length c0_6] 79 (0, 0)) (by (with_reducible repeat (first | refine blk_drewN ?_ _ | refine blk_drew ?_ | refine blk_alloc ?_ _)); exact BK101.out) hb); have n2_ := Aside0.mk (below_step (by repeat (first | (with_reducible first | exact HB.out | apply below_alloc | apply pw_below_drewN | apply below_drew1 | refine below_set ?_ GE101.out) | exact HB.out)) hb); have n3_ := Aside0.mk (hbox); have n4_ := Aside0.mk ((by rw [hg]; exact (below_size (by repeat (first | (with_reducible first | exact HB.out | apply below_alloc | apply pw_below_drewN | apply below_drew1 | refine below_set ?_ GE101.out) | exact HB.out))) : w.heap.size ≤ gb105)); have n5_ := Aside0.mk ((by rw [hg]; exact (below_size (by repeat (first | (with_reducible first | exact HB.out | apply below_alloc | apply pw_below_drewN | apply below_drew1 | refine below_set ?_ GE101.out) | exact HB.out))) : w.heap.size ≤ gb105)); have n6_ := Aside0.mk ((by rw [hg]; exact Nat.ne_of_lt (blk_lt (g := gb101) (o := .cells #[.slice A0_0 l0_0.length c0_0, .int .u8 a0_1, .int .u8 a0_2, .int .u8 a0_3, .int .u8 a0_4, .int .u8 a0_5, .slice A0_6 l0_6.length c0_6] 79 (0, 0)) (by (with_reducible repeat (first | refine blk_drewN ?_ _ | refine blk_drew ?_ | refine blk_alloc ?_ _)); exact BK101.out)) : gb101 ≠ gb105)); have n7_ := Aside0.mk ((by rw [hg]; exact Nat.ne_of_gt (blk_lt (g := gb101) (o := .cells #[.slice A0_0 l0_0.length c0_0, .int .u8 a0_1, .int .u8 a0_2, .int .u8 a0_3, .int .u8 a0_4, .int .u8 a0_5, .slice A0_6 l0_6.length c0_6] 79 (0, 0)) (by (with_reducible repeat (first | refine blk_drewN ?_ _ | refine blk_drew ?_ | refine blk_alloc ?_ _)); exact BK101.out)) : gb105 ≠ gb101)); clear HO_3; clear BK101; clear HB; have HO_3 := n0_; have BK101 := n1_; have HB := n2_; have BK105 := n3_; have GW105 := n4_; have GE105 := n5_; have NB101_105 := n6_; have NB105_101 := n7_; clear n0_ n1_ n2_ n3_ n4_ n5_ n6_ n7_; clear hb hbox hg; have hnb16 := NB105_101.out; have hnc16 := NB101_105.out; have hcz17_0 : w15.cell? ⟨gb105, 0, none⟩ = some (.int .u8 0) := (blk_cell BK105.out 0).trans rfl; have hcz17_1 : w15.cell? ⟨gb105, 1, none⟩ = some (.int .u8 0) := (blk_cell BK105.out 1).trans rfl; have hfz17_0 := blk_frozen BK105.out 0; have hfz17_1 := blk_frozen BK105.out 1; have hbq : ((w15.setCell ⟨gb105, 0, none⟩ (.int .u8 20)).setCell ⟨gb105, 1, none⟩ (.int .u8 5)).heap[gb105]? = some (.cells #[.int .u8 20, .int .u8 5] 81 (0, 0)) := (by refine blk_put (cs := #[.int .u8 20, .int .u8 0]) ?_ 1 _ rfl; refine blk_put (cs := #[.int .u8 0, .int .u8 0]) ?_ 0 _ rfl; exact BK105.out); have hcq0 : ((w15.setCell ⟨gb105, 0, none⟩ (.int .u8 20)).setCell ⟨gb105, 1, none⟩ (.int .u8 5)).cell? ⟨gb105, 0, none⟩ = some (.int .u8 20) := (blk_cell hbq 0).trans rfl; have hcq1 : ((w15.setCell ⟨gb105, 0, none⟩ (.int .u8 20)).setCell ⟨gb105, 1, none⟩ (.int .u8 5)).cell? ⟨gb105, 1, none⟩ = some (.int .u8 5) := (blk_cell hbq 1).trans rfl; have hcz18_0 : w15.cell? ⟨gb101, 0, none⟩ = some (.slice A0_0 l0_0.length c0_0) := (blk_cell BK101.out 0).trans rfl; have hcz18_1 : w15.cell? ⟨gb101, 1, none⟩ = some (.int .u8 a0_1) := (blk_cell BK101.out 1).trans rfl; have hcz18_2 : w15.cell? ⟨gb101, 2, none⟩ = some (.int .u8 a0_2) := (blk_cell BK101.out 2).trans rfl; have hcz18_3 : w15.cell? ⟨gb101, 3, none⟩ = some (.int .u8 a0_3) := (blk_cell BK101.out 3).trans rfl; have hcz18_4 : w15.cell? ⟨gb101, 4, none⟩ = some (.int .u8 a0_4) := (blk_cell BK101.out 4).trans rfl; have hcz18_5 : w15.cell? ⟨gb101, 5, none⟩ = some (.int .u8 a0_5) := (blk_cell BK101.out 5).trans rfl; have hcz18_6 : w15.cell? ⟨gb101, 6, none⟩ = some (.slice A0_6 l0_6.length c0_6) := (blk_cell BK101.out 6).trans rfl; have hfz18_0 := blk_frozen BK101.out 0; have hfz18_1 := blk_frozen BK101.out 1; have hfz18_2 := blk_frozen BK101.out 2; have hfz18_3 := blk_frozen BK101.out 3; have hfz18_4 := blk_frozen BK101.out 4; have hfz18_5 := blk_frozen BK101.out 5; have hfz18_6 := blk_frozen BK101.out 6; have p106 : 0 ≤ (x4_1 : Int) := of_decide_eq_true (by first | (with_reducible assumption) | assumption); have q106 : x4_1 < (l0_6.length : Int) := of_decide_eq_true (by first | (with_reducible assumption) | assumption); obtain ⟨ad106, e106, hx106_0, hx106_1⟩ := at_T81 HR0_6.out x4_1 p106 q106; cases e106; have hn106_0 : ad106.block ≠ gb105 := Nat.ne_of_lt (Nat.lt_of_lt_of_le (by have := World.block_lt_of_cell? _ _ hx106_0; first | rwa [add_block] at this | exact this) GW105.out); have hn106_1 : ad106.block ≠ gb105 := Nat.ne_of_lt (Nat.lt_of_lt_of_le (by have := World.block_lt_of_cell? _ _ hx106_0; first | rwa [add_block] at this | exact this) GW105.out); replace hx106_0 := (HB.out.cell (World.block_lt_of_cell? w _ hx106_0)).trans hx106_0; replace hx106_1 := (HB.out.cell (World.block_lt_of_cell? w _ hx106_1)).trans hx106_1; replace hx106_0 := (cell_far (p := ⟨gb105, 0, none⟩) (by first | (rw [add_block]; exact hn106_0) | (show (Addr.add _ _).block ≠ _; rw [add_block]; exact hn106_0) | exact hn106_0) (.int .u8 20)).trans hx106_0; replace hx106_1 := (cell_far (p := ⟨gb105, 0, none⟩) (by first | (rw [add_block]; exact hn106_0) | (show (Addr.add _ _).block ≠ _; rw [add_block]; exact hn106_0) | exact hn106_0) (.int .u8 20)).trans hx106_1; replace hx106_0 := (cell_far (p := ⟨gb105, 1, none⟩) (by first | (rw [add_block]; exact hn106_1) | (show (Addr.add _ _).block ≠ _; rw [add_block]; exact hn106_1) | exact hn106_1) (.int .u8 5)).trans hx106_0; replace hx106_1 := (cell_far (p := ⟨gb105, 1, none⟩) (by first | (rw [add_block]; exact hn106_1) | (show (Addr.add _ _).block ≠ _; rw [add_block]; exact hn106_1) | exact hn106_1) (.int .u8 5)).trans hx106_1; clear hn106_0; clear hn106_1; replace p106 := eq_true p106; replace q106 := eq_true q106) | ((with_reducible refine gate_callee (f := 52) rfl ?_); refine goesL_ (some 46) rfl rfl Tryz.func52 (by kernel_rfl) rfl #[.int .i64 (Int.tmod (wrap64 ((rd_T81 l0_6 x4_1).f0)) 60), .int .i64 (wrap64 ((Int.tmod (wrap64 ((rd_T81 l0_6 x4_1).f0)) 60) + (Int.tmod (wrap64 ((rd_T81 l0_6 x4_1).f1)) 30)))] rfl (by (try simp only [List.map_toArray, List.map_cons, List.map_nil]); first | done | rfl | (simp only [List.length_drop, List.length_take]; rfl)) ?_; (with_reducible refine (walkmilllaw05_span.calls (Int.tmod (wrap64 ((rd_T81 l0_6 x4_1).f0)) 60) (wrap64 ((Int.tmod (wrap64 ((rd_T81 l0_6 x4_1).f0)) 60) + (Int.tmod (wrap64 ((rd_T81 l0_6 x4_1).f1)) 30))) t107 t108 _ A13.out).mono ?_); rintro e w19 ⟨rfl, hb⟩; refine ⟨_, rfl, ?_⟩; have n0_ := Aside0.mk (Kd.R_below (by (with_reducible repeat (first | apply Kd.R_alloc | apply Kd.R_drewN | apply Kd.R_drew)); exact (Kd.R_mono (Kd.R_far (p := ⟨gb105, 1, none⟩) (Kd.R_far (p := ⟨gb105, 0, none⟩) (Kd.R_far (p := ⟨gb105, 1, none⟩) (Kd.R_far (p := ⟨gb105, 0, none⟩) (Kd.R_types HO_3.out BK105.out (by decide)) (fun _ hk => hk.2) (.int .u8 20)) (fun _ hk => hk.2) (.int .u8 5)) (fun _ hk => hk.2) (.int .u8 ((rd_T81 l0_6 x4_1).f0))) (fun _ hk => hk.2) (.int .u8 ((rd_T81 l0_6 x4_1).f1))) (fun _ h_ => h_.1))) hb); have n1_ := Aside0.mk (blk_below (g := gb101) (o := .cells #[.slice A0_0 l0_0.length c0_0, .int .u8 a0_1, .int .u8 a0_2, .int .u8 a0_3, .int .u8 a0_4, .int .u8 a0_5, .slice (some ad106) l0_6.length c0_6] 79 (0, 0)) (by (with_reducible repeat (first | refine blk_drewN ?_ _ | refine blk_drew ?_ | refine blk_alloc ?_ _)); refine blk_far ?_ NB101_105.out _; (with_reducible repeat (first | refine blk_drewN ?_ _ | refine blk_drew ?_ | refine blk_alloc ?_ _)); refine blk_far ?_ NB101_105.out _; (with_reducible repeat (first | refine blk_drewN ?_ _ | refine blk_drew ?_ | refine blk_alloc ?_ _)); refine blk_far ?_ NB101_105.out _; (with_reducible repeat (first | refine blk_drewN ?_ _ | refine blk_drew ?_ | refine blk_alloc ?_ _)); refine blk_far ?_ NB101_105.out _; (with_reducible repeat (first | refine blk_drewN ?_ _ | refine blk_drew ?_ | refine blk_alloc ?_ _)); exact BK101.out) hb); have n2_ := Aside0.mk (blk_below (g := gb105) (o := .cells #[.int .u8 ((rd_T81 l0_6 x4_1).f0), .int .u8 ((rd_T81 l0_6 x4_1).f1)] 81 (0, 0)) (by (with_reducible repeat (first | refine blk_drewN ?_ _ | refine blk_drew ?_ | refine blk_alloc ?_ _)); refine blk_put (cs := #[.int .u8 ((rd_T81 l0_6 x4_1).f0), .int .u8 5]) ?_ 1 _ rfl; (with_reducible repeat (first | refine blk_drewN ?_ _ | refine blk_drew ?_ | refine blk_alloc ?_ _)); refine blk_put (cs := #[.int .u8 20, .int .u8 5]) ?_ 0 _ rfl; (with_reducible repeat (first | refine blk_drewN ?_ _ | refine blk_drew ?_ | refine blk_alloc ?_ _)); refine blk_put (cs := #[.int .u8 20, .int .u8 0]) ?_ 1 _ rfl; (with_reducible repeat (first | refine blk_drewN ?_ _ | refine blk_drew ?_ | refine blk_alloc ?_ _)); refine blk_put (cs := #[.int .u8 0, .int .u8 0]) ?_ 0 _ rfl; (with_reducible repeat (first | refine blk_drewN ?_ _ | refine blk_drew ?_ | refine blk_alloc ?_ _)); exact BK105.out) hb); have n3_ := Aside0.mk (below_step (by repeat (first | (with_reducible first | exact HB.out | apply below_alloc | apply pw_below_drewN | apply below_drew1 | refine below_set ?_ GE101.out | refine below_set ?_ GE105.out) | exact HB.out)) hb); clear HO_3; clear BK101; clear BK105; clear HB; have HO_3 := n0_; have BK101 := n1_; have BK105 := n2_; have HB := n3_; clear n0_ n1_ n2_ n3_; (try clear hb); (try clear hb2); (try clear hk); (try clear hi)) | ((with_reducible refine gate_builtin (b := .append) (xs := #[.tmp 38, .tmp 47]) rfl ?_); (try (refine gate_guard (by rfl) ?_; dsimp only)); at_builtin; refine Kd.R_append k36 (w0 := w) w.heap.size rfl (.tmp 38) (.tmp 47) 31 36 (.agg #[(.int .i64 0), (.int .i64 0)]) 16 rfl Tryz.underlying31 info36 rfl (by decide) (by omega) u3 x3_1 (⟨t107, t108⟩ : S36) [.int .i64 t107, .int .i64 t108] (fun _ => True) (fun _ => False) rfl rfl ?aP (fun _ hk => hk.elim) ?aF ?aO ?aB ?aS ?aL ?_; (case aP => exact k36_mkM _ _ _ (⟨t107, t108⟩ : S36)); (case aB => exact (by repeat (first | (with_reducible first | exact HB.out | apply below_alloc | apply pw_below_drewN | apply below_drew1 | refine below_set ?_ GE101.out | refine below_set ?_ GE105.out) | exact HB.out))); (case aF => exact (fun _ _ => trivial)); (case aO => exact (by (with_reducible repeat (first | apply Kd.R_alloc | apply Kd.R_drewN | apply Kd.R_drew)); exact HO_3.out)); (case aS => exact (below_size (by repeat (first | (with_reducible first | exact HB.out | apply below_alloc | apply pw_below_drewN | apply below_drew1 | refine below_set ?_ GE101.out | refine below_set ?_ GE105.out) | exact HB.out)))); (case aL => have := LMc14.out; omega); intro v110 w20 ho hb hg hat; rw [← Ny109.out] at ho; have n0_ := Aside0.mk (blk_grown (g := gb101) (o := .cells #[.slice A0_0 l0_0.length c0_0, .int .u8 a0_1, .int .u8 a0_2, .int .u8 a0_3, .int .u8 a0_4, .int .u8 a0_5, .slice (some ad106) l0_6.length c0_6] 79 (0, 0)) (by (with_reducible repeat (first | refine blk_drewN ?_ _ | refine blk_drew ?_ | refine blk_alloc ?_ _)); exact BK101.out) hg (Kd.R_ne HO_3.out BK101.out (by decide))); have n1_ := Aside0.mk (blk_grown (g := gb105) (o := .cells #[.int .u8 ((rd_T81 l0_6 x4_1).f0), .int .u8 ((rd_T81 l0_6 x4_1).f1)] 81 (0, 0)) (by (with_reducible repeat (first | refine blk_drewN ?_ _ | refine blk_drew ?_ | refine blk_alloc ?_ _)); exact BK105.out) hg (Kd.R_ne HO_3.out BK105.out (by decide))); have n2_ := Aside0.mk (hb); have n3_ := Aside0.mk (ho); clear BK101; clear BK105; clear HB; clear HO_3; have BK101 := n0_; have BK105 := n1_; have HB := n2_; have HO111 := n3_; clear n0_ n1_ n2_ n3_; clear ho hb hg hat))
                  go_roundg kj4
                  case measure => have := HK1.out; have := HJ4.out; omega
                  case rel => exact ⟨(y109), (wrap64 (x4_1 + 1)), (by first | rfl | (simp; done) | (simp [*]; done)), H', ⟨by have := HK1.out; have := HJ4.out; omega⟩, ⟨by (with_reducible repeat (first | apply Kd.R_alloc | apply Kd.R_drewN | apply Kd.R_drew)); exact HO111.out⟩, ⟨by (with_reducible repeat (first | refine blk_drewN ?_ _ | refine blk_drew ?_ | refine blk_alloc ?_ _)); exact BK101.out⟩, ⟨by repeat (first | (with_reducible first | exact HB.out | apply below_alloc | apply pw_below_drewN | apply below_drew1 | refine below_set ?_ GE101.out | refine below_set ?_ GE105.out) | exact HB.out)⟩⟩
                · rw [if_neg c14] at H
                  exact absurd H (by simp)
              · rw [if_neg c12] at H
                exact absurd H (by simp)
            · rw [if_neg c11] at H
              have c11b0 : decide (x4_1 < (l0_6.length : Int)) = false := decide_eq_false c11
              clear c11
              replace H := Option.bind_eq_some_iff.mp H
              obtain ⟨⟨t112, t113⟩, A210, H⟩ := H
              replace H : (if x3_1.length < 8796093022208 then (walkmilllaw05_Green_weather.l0 kj4 (x3_1 ++ [(⟨t112, t113⟩ : S36)]) (wrap64 (x4_1 + 1)) l0_0 a0_1 a0_2 a0_3 a0_4 a0_5 l0_6) else (none)) = some r := H
              have A21 := Aside0.mk A210
              clear A210
              by_cases c22 : x3_1.length < 8796093022208
              · rw [if_pos c22] at H
                have LMc22 := Aside0.mk c22
                clear c22
                obtain ⟨y114, hy114⟩ : ∃ y_ : List (S36), y_ = (x3_1 ++ [(⟨t112, t113⟩ : S36)]) := ⟨_, rfl⟩
                replace H : (walkmilllaw05_Green_weather.l0 kj4 y114 (wrap64 (x4_1 + 1)) l0_0 a0_1 a0_2 a0_3 a0_4 a0_5 l0_6) = some r := by first | (rw [hy114]; with_reducible exact H) | (have H2_ := (Option.bind_some _ _).symm.trans H; rw [hy114]; with_reducible exact H2_) | (have H2_ := (Option.bind_some _ _).symm.trans H; with_reducible exact H2_) | with_reducible exact H | (rw [hy114]; exact H) | exact H
                have Ny114 := Aside0.mk hy114
                clear hy114
                have H' := Aside0.mk H
                clear H
                go_wp2_with (first | ((with_reducible refine gate_dst (N := 5) rfl ?_); (try (refine gate_guard (by rfl) ?_; dsimp only)); refine box_event ?hg (N := 5) ?hd (cs := #[.int .u8 0, .int .u8 0]) (t := 81) ?hr ?_; (case hd => rfl); (case hg => rfl); (case hr => first | (go_simp; done) | (go_simp; rfl)); intro gb105 hg w23 hbox hb; have n0_ := Aside0.mk (Kd.R_below (by (with_reducible repeat (first | apply Kd.R_alloc | apply Kd.R_drewN | apply Kd.R_drew)); exact HO_3.out) hb); have n1_ := Aside0.mk (blk_below (g := gb101) (o := .cells #[.slice A0_0 l0_0.length c0_0, .int .u8 a0_1, .int .u8 a0_2, .int .u8 a0_3, .int .u8 a0_4, .int .u8 a0_5, .slice A0_6 l0_6.length c0_6] 79 (0, 0)) (by (with_reducible repeat (first | refine blk_drewN ?_ _ | refine blk_drew ?_ | refine blk_alloc ?_ _)); exact BK101.out) hb); have n2_ := Aside0.mk (below_step (by repeat (first | (with_reducible first | exact HB.out | apply below_alloc | apply pw_below_drewN | apply below_drew1 | refine below_set ?_ GE101.out) | exact HB.out)) hb); have n3_ := Aside0.mk (hbox); have n4_ := Aside0.mk ((by rw [hg]; exact (below_size (by repeat (first | (with_reducible first | exact HB.out | apply below_alloc | apply pw_below_drewN | apply below_drew1 | refine below_set ?_ GE101.out) | exact HB.out))) : w.heap.size ≤ gb105)); have n5_ := Aside0.mk ((by rw [hg]; exact (below_size (by repeat (first | (with_reducible first | exact HB.out | apply below_alloc | apply pw_below_drewN | apply below_drew1 | refine below_set ?_ GE101.out) | exact HB.out))) : w.heap.size ≤ gb105)); have n6_ := Aside0.mk ((by rw [hg]; exact Nat.ne_of_lt (blk_lt (g := gb101) (o := .cells #[.slice A0_0 l0_0.length c0_0, .int .u8 a0_1, .int .u8 a0_2, .int .u8 a0_3, .int .u8 a0_4, .int .u8 a0_5, .slice A0_6 l0_6.length c0_6] 79 (0, 0)) (by (with_reducible repeat (first | refine blk_drewN ?_ _ | refine blk_drew ?_ | refine blk_alloc ?_ _)); exact BK101.out)) : gb101 ≠ gb105)); have n7_ := Aside0.mk ((by rw [hg]; exact Nat.ne_of_gt (blk_lt (g := gb101) (o := .cells #[.slice A0_0 l0_0.length c0_0, .int .u8 a0_1, .int .u8 a0_2, .int .u8 a0_3, .int .u8 a0_4, .int .u8 a0_5, .slice A0_6 l0_6.length c0_6] 79 (0, 0)) (by (with_reducible repeat (first | refine blk_drewN ?_ _ | refine blk_drew ?_ | refine blk_alloc ?_ _)); exact BK101.out)) : gb105 ≠ gb101)); clear HO_3; clear BK101; clear HB; have HO_3 := n0_; have BK101 := n1_; have HB := n2_; have BK105 := n3_; have GW105 := n4_; have GE105 := n5_; have NB101_105 := n6_; have NB105_101 := n7_; clear n0_ n1_ n2_ n3_ n4_ n5_ n6_ n7_; clear hb hbox hg; have hnb24 := NB105_101.out; have hnc24 := NB101_105.out; have hcz25_0 : w23.cell? ⟨gb105, 0, none⟩ = some (.int .u8 0) := (blk_cell BK105.out 0).trans rfl; have hcz25_1 : w23.cell? ⟨gb105, 1, none⟩ = some (.int .u8 0) := (blk_cell BK105.out 1).trans rfl; have hfz25_0 := blk_frozen BK105.out 0; have hfz25_1 := blk_frozen BK105.out 1; have hbq : ((w23.setCell ⟨gb105, 0, none⟩ (.int .u8 20)).setCell ⟨gb105, 1, none⟩ (.int .u8 5)).heap[gb105]? = some (.cells #[.int .u8 20, .int .u8 5] 81 (0, 0)) := (by refine blk_put (cs := #[.int .u8 20, .int .u8 0]) ?_ 1 _ rfl; refine blk_put (cs := #[.int .u8 0, .int .u8 0]) ?_ 0 _ rfl; exact BK105.out); have hcq0 : ((w23.setCell ⟨gb105, 0, none⟩ (.int .u8 20)).setCell ⟨gb105, 1, none⟩ (.int .u8 5)).cell? ⟨gb105, 0, none⟩ = some (.int .u8 20) := (blk_cell hbq 0).trans rfl; have hcq1 : ((w23.setCell ⟨gb105, 0, none⟩ (.int .u8 20)).setCell ⟨gb105, 1, none⟩ (.int .u8 5)).cell? ⟨gb105, 1, none⟩ = some (.int .u8 5) := (blk_cell hbq 1).trans rfl; have hcz26_0 : w23.cell? ⟨gb101, 0, none⟩ = some (.slice A0_0 l0_0.length c0_0) := (blk_cell BK101.out 0).trans rfl; have hcz26_1 : w23.cell? ⟨gb101, 1, none⟩ = some (.int .u8 a0_1) := (blk_cell BK101.out 1).trans rfl; have hcz26_2 : w23.cell? ⟨gb101, 2, none⟩ = some (.int .u8 a0_2) := (blk_cell BK101.out 2).trans rfl; have hcz26_3 : w23.cell? ⟨gb101, 3, none⟩ = some (.int .u8 a0_3) := (blk_cell BK101.out 3).trans rfl; have hcz26_4 : w23.cell? ⟨gb101, 4, none⟩ = some (.int .u8 a0_4) := (blk_cell BK101.out 4).trans rfl; have hcz26_5 : w23.cell? ⟨gb101, 5, none⟩ = some (.int .u8 a0_5) := (blk_cell BK101.out 5).trans rfl; have hcz26_6 : w23.cell? ⟨gb101, 6, none⟩ = some (.slice A0_6 l0_6.length c0_6) := (blk_cell BK101.out 6).trans rfl; have hfz26_0 := blk_frozen BK101.out 0; have hfz26_1 := blk_frozen BK101.out 1; have hfz26_2 := blk_frozen BK101.out 2; have hfz26_3 := blk_frozen BK101.out 3; have hfz26_4 := blk_frozen BK101.out 4; have hfz26_5 := blk_frozen BK101.out 5; have hfz26_6 := blk_frozen BK101.out 6) | ((with_reducible refine gate_callee (f := 52) rfl ?_); refine goesL_ (some 46) rfl rfl Tryz.func52 (by kernel_rfl) rfl #[.int .i64 20, .int .i64 25] rfl (by (try simp only [List.map_toArray, List.map_cons, List.map_nil]); first | done | rfl | (simp only [List.length_drop, List.length_take]; rfl)) ?_; (with_reducible refine (walkmilllaw05_span.calls 20 25 t112 t113 _ A21.out).mono ?_); rintro e w27 ⟨rfl, hb⟩; refine ⟨_, rfl, ?_⟩; have n0_ := Aside0.mk (Kd.R_below (by (with_reducible repeat (first | apply Kd.R_alloc | apply Kd.R_drewN | apply Kd.R_drew)); exact (Kd.R_mono (Kd.R_far (p := ⟨gb105, 1, none⟩) (Kd.R_far (p := ⟨gb105, 0, none⟩) (Kd.R_types HO_3.out BK105.out (by decide)) (fun _ hk => hk.2) (.int .u8 20)) (fun _ hk => hk.2) (.int .u8 5)) (fun _ h_ => h_.1))) hb); have n1_ := Aside0.mk (blk_below (g := gb101) (o := .cells #[.slice A0_0 l0_0.length c0_0, .int .u8 a0_1, .int .u8 a0_2, .int .u8 a0_3, .int .u8 a0_4, .int .u8 a0_5, .slice A0_6 l0_6.length c0_6] 79 (0, 0)) (by (with_reducible repeat (first | refine blk_drewN ?_ _ | refine blk_drew ?_ | refine blk_alloc ?_ _)); refine blk_far ?_ NB101_105.out _; (with_reducible repeat (first | refine blk_drewN ?_ _ | refine blk_drew ?_ | refine blk_alloc ?_ _)); refine blk_far ?_ NB101_105.out _; (with_reducible repeat (first | refine blk_drewN ?_ _ | refine blk_drew ?_ | refine blk_alloc ?_ _)); exact BK101.out) hb); have n2_ := Aside0.mk (blk_below (g := gb105) (o := .cells #[.int .u8 20, .int .u8 5] 81 (0, 0)) (by (with_reducible repeat (first | refine blk_drewN ?_ _ | refine blk_drew ?_ | refine blk_alloc ?_ _)); refine blk_put (cs := #[.int .u8 20, .int .u8 0]) ?_ 1 _ rfl; (with_reducible repeat (first | refine blk_drewN ?_ _ | refine blk_drew ?_ | refine blk_alloc ?_ _)); refine blk_put (cs := #[.int .u8 0, .int .u8 0]) ?_ 0 _ rfl; (with_reducible repeat (first | refine blk_drewN ?_ _ | refine blk_drew ?_ | refine blk_alloc ?_ _)); exact BK105.out) hb); have n3_ := Aside0.mk (below_step (by repeat (first | (with_reducible first | exact HB.out | apply below_alloc | apply pw_below_drewN | apply below_drew1 | refine below_set ?_ GE101.out | refine below_set ?_ GE105.out) | exact HB.out)) hb); clear HO_3; clear BK101; clear BK105; clear HB; have HO_3 := n0_; have BK101 := n1_; have BK105 := n2_; have HB := n3_; clear n0_ n1_ n2_ n3_; (try clear hb); (try clear hb2); (try clear hk); (try clear hi)) | ((with_reducible refine gate_builtin (b := .append) (xs := #[.tmp 38, .tmp 47]) rfl ?_); (try (refine gate_guard (by rfl) ?_; dsimp only)); at_builtin; refine Kd.R_append k36 (w0 := w) w.heap.size rfl (.tmp 38) (.tmp 47) 31 36 (.agg #[(.int .i64 0), (.int .i64 0)]) 16 rfl Tryz.underlying31 info36 rfl (by decide) (by omega) u3 x3_1 (⟨t112, t113⟩ : S36) [.int .i64 t112, .int .i64 t113] (fun _ => True) (fun _ => False) rfl rfl ?aP (fun _ hk => hk.elim) ?aF ?aO ?aB ?aS ?aL ?_; (case aP => exact k36_mkM _ _ _ (⟨t112, t113⟩ : S36)); (case aB => exact (by repeat (first | (with_reducible first | exact HB.out | apply below_alloc | apply pw_below_drewN | apply below_drew1 | refine below_set ?_ GE101.out | refine below_set ?_ GE105.out) | exact HB.out))); (case aF => exact (fun _ _ => trivial)); (case aO => exact (by (with_reducible repeat (first | apply Kd.R_alloc | apply Kd.R_drewN | apply Kd.R_drew)); exact HO_3.out)); (case aS => exact (below_size (by repeat (first | (with_reducible first | exact HB.out | apply below_alloc | apply pw_below_drewN | apply below_drew1 | refine below_set ?_ GE101.out | refine below_set ?_ GE105.out) | exact HB.out)))); (case aL => have := LMc22.out; omega); intro v115 w28 ho hb hg hat; rw [← Ny114.out] at ho; have n0_ := Aside0.mk (blk_grown (g := gb101) (o := .cells #[.slice A0_0 l0_0.length c0_0, .int .u8 a0_1, .int .u8 a0_2, .int .u8 a0_3, .int .u8 a0_4, .int .u8 a0_5, .slice A0_6 l0_6.length c0_6] 79 (0, 0)) (by (with_reducible repeat (first | refine blk_drewN ?_ _ | refine blk_drew ?_ | refine blk_alloc ?_ _)); exact BK101.out) hg (Kd.R_ne HO_3.out BK101.out (by decide))); have n1_ := Aside0.mk (blk_grown (g := gb105) (o := .cells #[.int .u8 20, .int .u8 5] 81 (0, 0)) (by (with_reducible repeat (first | refine blk_drewN ?_ _ | refine blk_drew ?_ | refine blk_alloc ?_ _)); exact BK105.out) hg (Kd.R_ne HO_3.out BK105.out (by decide))); have n2_ := Aside0.mk (hb); have n3_ := Aside0.mk (ho); clear BK101; clear BK105; clear HB; clear HO_3; have BK101 := n0_; have BK105 := n1_; have HB := n2_; have HO116 := n3_; clear n0_ n1_ n2_ n3_; clear ho hb hg hat))
                go_roundg kj4
                case measure => have := HK1.out; have := HJ4.out; omega
                case rel => exact ⟨(y114), (wrap64 (x4_1 + 1)), (by first | rfl | (simp; done) | (simp [*]; done)), H', ⟨by have := HK1.out; have := HJ4.out; omega⟩, ⟨by (with_reducible repeat (first | apply Kd.R_alloc | apply Kd.R_drewN | apply Kd.R_drew)); exact HO116.out⟩, ⟨by (with_reducible repeat (first | refine blk_drewN ?_ _ | refine blk_drew ?_ | refine blk_alloc ?_ _)); exact BK101.out⟩, ⟨by repeat (first | (with_reducible first | exact HB.out | apply below_alloc | apply pw_below_drewN | apply below_drew1 | refine below_set ?_ GE101.out | refine below_set ?_ GE105.out) | exact HB.out)⟩⟩
              · rw [if_neg c22] at H
                exact absurd H (by simp)
          · replace c10 := Bool.eq_false_iff.mpr c10
            subst c10
            have H1 : (some x3_1) = some r := by rw [if_neg (show ¬ (false = true) by decide)] at H; exact H
            clear H
            have H := H1
            clear H1
            obtain rfl := Option.some.inj H
            go_wp2
            go_ret
            exact ⟨_, by first | rfl | (simp [errW_none, errW_some] <;> rfl) | (simp [*, errW_none, errW_some] <;> rfl), by (with_reducible repeat (first | apply Kd.R_alloc | apply Kd.R_drewN | apply Kd.R_drew)); exact HO_3.out, by repeat (first | (with_reducible first | exact HB.out | apply below_alloc | apply pw_below_drewN | apply below_drew1 | refine below_set ?_ GE101.out) | exact HB.out)⟩
def walkmilllaw05_own.f (l0_0 : List (S43)) (l0_1 : List Int) (a0_2 : Int) (a0_3 : Int) : Option ((List (S43)) × List Int × Int × Int) := (some (([] : List (S43)) : List (S43))).bind fun y103 => (if y103.length + l0_0.length < 4398046511104 then ((some (([] : List Int) : List Int)).bind fun y109 => (if y109.length + l0_1.length < 17592186044416 then (some ((y103 ++ l0_0), (y109 ++ l0_1), a0_2, a0_3)) else (none))) else (none))
def walkmilllaw05_own.T1 : Bool × List (List Nat × List Nat) := (true, [([], []), ([], []), ([1], [1]), ([0, 2], [0, 2]), ([], []), ([], []), ([5], [5]), ([4, 6, 3], [4, 6]), ([], []), ([8], [8]), ([], []), ([10], [10]), ([3, 7, 9, 11], [3, 7, 9, 11]), ([12, 7, 0, 1, 2, 3, 4, 5, 6, 7, 8, 9, 10, 11, 12], [12])])
def walkmilllaw05_own.B1 : List Nat := [0, 0, 2, 7, 0, 0, 32, 127, 0, 256, 0, 1024, 4095, 8191]
theorem walkmilllaw05_own.tab1 : rtab .any (opsOf Tryz.f45 1) = walkmilllaw05_own.T1 := by kernel_rfl
theorem walkmilllaw05_own.bits1 : waitsOk walkmilllaw05_own.T1.2 walkmilllaw05_own.B1 = true := by kernel_rfl
set_option maxHeartbeats 8000000 in
set_option maxRecDepth 100000 in
theorem walkmilllaw05_own.calls (A0_0 : Option Addr) (c0_0 : Nat) (l0_0 : List (S43)) (A0_1 : Option Addr) (c0_1 : Nat) (l0_1 : List Int) (a0_2 : Int) (a0_3 : Int) (r1 : List (S43)) (r2 : List Int) (r3 : Int) (r4 : Int) (w : World) (hr0_0 : Kd.C k43 w A0_0 l0_0.length l0_0) (hc0_0 : l0_0.length ≤ c0_0) (hr0_1 : Kd.C (Kd.int .i64) w A0_1 l0_1.length l0_1) (hc0_1 : l0_1.length ≤ c0_1) (h : walkmilllaw05_own.f l0_0 l0_1 a0_2 a0_3 = some (r1, r2, r3, r4)) :
    Calls Tryz.prog 45 #[.agg #[.slice A0_0 l0_0.length c0_0, .slice A0_1 l0_1.length c0_1, .int .i64 a0_2, .int .i64 a0_3]] w fun e w' => ∃ v0_ v1_ : Value, e = .returned (.agg #[v0_, v1_, .int .i64 r3, .int .i64 r4]) ∧ Kd.R k43 43 w' w.heap.size (fun _ => True) v0_ r1 ∧ Kd.R (Kd.int .i64) 3 w' w.heap.size (fun _ => True) v1_ r2 ∧ Below w.heap.size w w' := by
  have hu25 := Tryz.underlying25
  have HR0_0 := Aside0.mk hr0_0
  have HC0_0 := Aside0.mk hc0_0
  clear hr0_0 hc0_0
  have HR0_1 := Aside0.mk hr0_1
  have HC0_1 := Aside0.mk hc0_1
  clear hr0_1 hc0_1
  have HB := Aside0.mk (Below.refl w.heap.size w)
  have H : ((some (([] : List (S43)) : List (S43))).bind fun y103 => (if y103.length + l0_0.length < 4398046511104 then ((some (([] : List Int) : List Int)).bind fun y109 => (if y109.length + l0_1.length < 17592186044416 then (some ((y103 ++ l0_0), (y109 ++ l0_1), a0_2, a0_3)) else (none))) else (none))) = some (r1, r2, r3, r4) := h
  clear h
  obtain ⟨y103, hy103⟩ : ∃ y_ : List (S43), y_ = (([] : List (S43))) := ⟨_, rfl⟩
  replace H : (if y103.length + l0_0.length < 4398046511104 then ((some (([] : List Int) : List Int)).bind fun y109 => (if y109.length + l0_1.length < 17592186044416 then (some ((y103 ++ l0_0), (y109 ++ l0_1), a0_2, a0_3)) else (none))) else (none)) = some (r1, r2, r3, r4) := by first | (rw [hy103]; with_reducible exact H) | (have H2_ := (Option.bind_some _ _).symm.trans H; rw [hy103]; with_reducible exact H2_) | (have H2_ := (Option.bind_some _ _).symm.trans H; with_reducible exact H2_) | with_reducible exact H | (rw [hy103]; exact H) | exact H
  have Ny103 := Aside0.mk hy103
  clear hy103
  by_cases c2 : y103.length + l0_0.length < 4398046511104
  · rw [if_pos c2] at H
    have LMc2 := Aside0.mk c2
    clear c2
    obtain ⟨y106, hy106⟩ : ∃ y_ : List (S43), y_ = (y103 ++ l0_0) := ⟨_, rfl⟩
    replace H : ((some (([] : List Int) : List Int)).bind fun y109 => (if y109.length + l0_1.length < 17592186044416 then (some (y106, (y109 ++ l0_1), a0_2, a0_3)) else (none))) = some (r1, r2, r3, r4) := by first | (rw [hy106]; with_reducible exact H) | (have H2_ := (Option.bind_some _ _).symm.trans H; rw [hy106]; with_reducible exact H2_) | (have H2_ := (Option.bind_some _ _).symm.trans H; with_reducible exact H2_) | with_reducible exact H | (rw [hy106]; exact H) | exact H
    have Ny106 := Aside0.mk hy106
    clear hy106
    obtain ⟨y109, hy109⟩ : ∃ y_ : List Int, y_ = (([] : List Int)) := ⟨_, rfl⟩
    replace H : (if y109.length + l0_1.length < 17592186044416 then (some (y106, (y109 ++ l0_1), a0_2, a0_3)) else (none)) = some (r1, r2, r3, r4) := by first | (rw [hy109]; with_reducible exact H) | (have H2_ := (Option.bind_some _ _).symm.trans H; rw [hy109]; with_reducible exact H2_) | (have H2_ := (Option.bind_some _ _).symm.trans H; with_reducible exact H2_) | with_reducible exact H | (rw [hy109]; exact H) | exact H
    have Ny109 := Aside0.mk hy109
    clear hy109
    by_cases c3 : y109.length + l0_1.length < 17592186044416
    · rw [if_pos c3] at H
      have LMc3 := Aside0.mk c3
      clear c3
      obtain ⟨y112, hy112⟩ : ∃ y_ : List Int, y_ = (y109 ++ l0_1) := ⟨_, rfl⟩
      replace H : (some (y106, y112, a0_2, a0_3)) = some (r1, r2, r3, r4) := by first | (rw [hy112]; with_reducible exact H) | (have H2_ := (Option.bind_some _ _).symm.trans H; rw [hy112]; with_reducible exact H2_) | (have H2_ := (Option.bind_some _ _).symm.trans H; with_reducible exact H2_) | with_reducible exact H | (rw [hy112]; exact H) | exact H
      have Ny112 := Aside0.mk hy112
      clear hy112
      simp only [Option.some.injEq, Prod.mk.injEq] at H
      obtain ⟨rfl, rfl, rfl, rfl⟩ := H
      go_enter Tryz.func45, Tryz.ntmps45
      try go_wp2_with (first | ((with_reducible refine gate_dst (N := 1) rfl ?_); refine box_event ?hg (N := 1) ?hd (cs := #[.slice A0_0 l0_0.length c0_0, .slice A0_1 l0_1.length c0_1, .int .i64 a0_2, .int .i64 a0_3]) (t := 25) ?hr ?_; (case hd => rfl); (case hg => rfl); (case hr => first | (go_simp; done) | (go_simp; rfl)); intro gb101 hg w4 hbox hb; have n0_ := Aside0.mk (below_step (by repeat (first | (with_reducible first | exact HB.out | apply below_alloc | apply pw_below_drewN | apply below_drew1) | exact HB.out)) hb); have n1_ := Aside0.mk (hbox); have n2_ := Aside0.mk ((by rw [hg]; exact (below_size (by repeat (first | (with_reducible first | exact HB.out | apply below_alloc | apply pw_below_drewN | apply below_drew1) | exact HB.out))) : w.heap.size ≤ gb101)); have n3_ := Aside0.mk ((by rw [hg]; exact (below_size (by repeat (first | (with_reducible first | exact HB.out | apply below_alloc | apply pw_below_drewN | apply below_drew1) | exact HB.out))) : w.heap.size ≤ gb101)); clear HB; have HB := n0_; have BK101 := n1_; have GW101 := n2_; have GE101 := n3_; clear n0_ n1_ n2_ n3_; clear hb hbox hg) | ((with_reducible refine gate_dst (N := 2) rfl ?_); refine box_event ?hg (N := 2) ?hd (cs := #[.slice none 0 0, .slice none 0 0, .int .i64 0, .int .i64 0]) (t := 25) ?hr ?_; (case hd => rfl); (case hg => rfl); (case hr => first | (go_simp; done) | (go_simp; rfl)); intro gb102 hg w5 hbox hb; have n0_ := Aside0.mk (blk_below (g := gb101) (o := .cells #[.slice A0_0 l0_0.length c0_0, .slice A0_1 l0_1.length c0_1, .int .i64 a0_2, .int .i64 a0_3] 25 (0, 0)) (by (with_reducible repeat (first | refine blk_drewN ?_ _ | refine blk_drew ?_ | refine blk_alloc ?_ _)); exact BK101.out) hb); have n1_ := Aside0.mk (below_step (by repeat (first | (with_reducible first | exact HB.out | apply below_alloc | apply pw_below_drewN | apply below_drew1 | refine below_set ?_ GE101.out) | exact HB.out)) hb); have n2_ := Aside0.mk (hbox); have n3_ := Aside0.mk ((by rw [hg]; exact (below_size (by repeat (first | (with_reducible first | exact HB.out | apply below_alloc | apply pw_below_drewN | apply below_drew1 | refine below_set ?_ GE101.out) | exact HB.out))) : w.heap.size ≤ gb102)); have n4_ := Aside0.mk ((by rw [hg]; exact (below_size (by repeat (first | (with_reducible first | exact HB.out | apply below_alloc | apply pw_below_drewN | apply below_drew1 | refine below_set ?_ GE101.out) | exact HB.out))) : w.heap.size ≤ gb102)); have n5_ := Aside0.mk ((by rw [hg]; exact Nat.ne_of_lt (blk_lt (g := gb101) (o := .cells #[.slice A0_0 l0_0.length c0_0, .slice A0_1 l0_1.length c0_1, .int .i64 a0_2, .int .i64 a0_3] 25 (0, 0)) (by (with_reducible repeat (first | refine blk_drewN ?_ _ | refine blk_drew ?_ | refine blk_alloc ?_ _)); exact BK101.out)) : gb101 ≠ gb102)); have n6_ := Aside0.mk ((by rw [hg]; exact Nat.ne_of_gt (blk_lt (g := gb101) (o := .cells #[.slice A0_0 l0_0.length c0_0, .slice A0_1 l0_1.length c0_1, .int .i64 a0_2, .int .i64 a0_3] 25 (0, 0)) (by (with_reducible repeat (first | refine blk_drewN ?_ _ | refine blk_drew ?_ | refine blk_alloc ?_ _)); exact BK101.out)) : gb102 ≠ gb101)); clear BK101; clear HB; have BK101 := n0_; have HB := n1_; have BK102 := n2_; have GW102 := n3_; have GE102 := n4_; have NB101_102 := n5_; have NB102_101 := n6_; clear n0_ n1_ n2_ n3_ n4_ n5_ n6_; clear hb hbox hg))
      have n0_ := Aside0.mk (blk_drew BK101.out)
      have n1_ := Aside0.mk (blk_drew BK102.out)
      have n2_ := Aside0.mk (below_drew1 HB.out)
      clear BK101
      clear BK102
      clear HB
      have BK101 := n0_
      have BK102 := n1_
      have HB := n2_
      clear n0_ n1_ n2_
      refine start_ (n := 14) (S := fun w' => w'.cell? ⟨gb101, 0, none⟩ = some (.slice A0_0 l0_0.length c0_0) ∧ w'.cell? ⟨gb101, 1, none⟩ = some (.slice A0_1 l0_1.length c0_1) ∧ w'.cell? ⟨gb101, 2, none⟩ = some (.int .i64 a0_2) ∧ w'.cell? ⟨gb101, 3, none⟩ = some (.int .i64 a0_3)) (ds := []) #[false, false, false, false, false, false, false, false, false, false, false, false, false, false] (by kernel_rfl) rfl rfl ⟨(blk_cell BK101.out 0).trans rfl, (blk_cell BK101.out 1).trans rfl, (blk_cell BK101.out 2).trans rfl, (blk_cell BK101.out 3).trans rfl⟩ (fun hHeld => ?_); refine with_tabW walkmilllaw05_own.tab1 walkmilllaw05_own.bits1 (fun HT_ HW_ => ?_)
      generalize w5.drew = w6 at BK101 BK102 HB hHeld ⊢
      refine pure_ (i := 1) (N := some 4) (v := ?_) (a' := ?_) #[false, true, false, false, false, false, false, false, false, false, false, false, false, false] rfl rfl (any_of HT_.out (by kernel_rfl)) (fun _ _ _ h => h) (Or.inl ⟨by rfl, ?_⟩) ?_ ?_
      rotate_left
      · intro w'
        go_simp
        with_reducible rfl
      rotate_left
      · simp only [Act.put, List.setIfInBounds_toArray, List.set_cons_zero, List.set_cons_succ, i64_w, i32_w]
        rfl
      refine pure_ (i := 5) (N := some 8) (v := ?_) (a' := ?_) #[false, true, false, false, false, true, false, false, false, false, false, false, false, false] rfl rfl (any_of HT_.out (by kernel_rfl)) (fun _ _ _ h => h) (Or.inl ⟨by rfl, ?_⟩) ?_ ?_
      rotate_left
      · intro w'
        go_simp
        with_reducible rfl
      rotate_left
      · simp only [Act.put, List.setIfInBounds_toArray, List.set_cons_zero, List.set_cons_succ, i64_w, i32_w]
        rfl
      refine pure_ (i := 8) (N := some 11) (v := ?_) (a' := ?_) #[false, true, false, false, false, true, false, false, true, false, false, false, false, false] rfl rfl (any_of HT_.out (by kernel_rfl)) (fun _ _ _ h => h) (Or.inl ⟨by rfl, ?_⟩) ?_ ?_
      rotate_left
      · intro w'
        go_simp
        with_reducible rfl
      rotate_left
      · simp only [Act.put, List.setIfInBounds_toArray, List.set_cons_zero, List.set_cons_succ, i64_w, i32_w]
        rfl
      refine pure_ (i := 10) (N := some 13) (v := ?_) (a' := ?_) #[false, true, false, false, false, true, false, false, true, false, true, false, false, false] rfl rfl (any_of HT_.out (by kernel_rfl)) (fun _ _ _ h => h) (Or.inl ⟨by rfl, ?_⟩) ?_ ?_
      rotate_left
      · intro w'
        go_simp
        with_reducible rfl
      rotate_left
      · simp only [Act.put, List.setIfInBounds_toArray, List.set_cons_zero, List.set_cons_succ, i64_w, i32_w]
        rfl
      refine take_ (i := 2) (N := some 5) (v := ?_) (a' := ?_) #[false, true, true, false, false, true, false, false, true, false, true, false, false, false] rfl rfl (take_ofW HT_.out HW_.out (by kernel_rfl)) (fun _ _ _ h => h) (Or.inl ⟨by rfl, ?_⟩) hHeld ?_ ?_
      rotate_left
      · rintro w' ⟨s0, s1, s2, s3⟩
        go_simp
        with_reducible rfl
      rotate_left
      · simp only [Act.put, List.setIfInBounds_toArray, List.set_cons_zero, List.set_cons_succ, i64_w, i32_w]
        rfl
      refine take_ (i := 6) (N := some 9) (v := ?_) (a' := ?_) #[false, true, true, false, false, true, true, false, true, false, true, false, false, false] rfl rfl (take_ofW HT_.out HW_.out (by kernel_rfl)) (fun _ _ _ h => h) (Or.inl ⟨by rfl, ?_⟩) hHeld ?_ ?_
      rotate_left
      · rintro w' ⟨s0, s1, s2, s3⟩
        go_simp
        with_reducible rfl
      rotate_left
      · simp only [Act.put, List.setIfInBounds_toArray, List.set_cons_zero, List.set_cons_succ, i64_w, i32_w]
        rfl
      refine take_ (i := 9) (N := some 12) (v := ?_) (a' := ?_) #[false, true, true, false, false, true, true, false, true, true, true, false, false, false] rfl rfl (take_ofW HT_.out HW_.out (by kernel_rfl)) (fun _ _ _ h => h) (Or.inl ⟨by rfl, ?_⟩) hHeld ?_ ?_
      rotate_left
      · rintro w' ⟨s0, s1, s2, s3⟩
        go_simp
        with_reducible rfl
      rotate_left
      · simp only [Act.put, List.setIfInBounds_toArray, List.set_cons_zero, List.set_cons_succ, i64_w, i32_w]
        rfl
      refine take_ (i := 11) (N := some 14) (v := ?_) (a' := ?_) #[false, true, true, false, false, true, true, false, true, true, true, true, false, false] rfl rfl (take_ofW HT_.out HW_.out (by kernel_rfl)) (fun _ _ _ h => h) (Or.inl ⟨by rfl, ?_⟩) hHeld ?_ ?_
      rotate_left
      · rintro w' ⟨s0, s1, s2, s3⟩
        go_simp
        with_reducible rfl
      rotate_left
      · simp only [Act.put, List.setIfInBounds_toArray, List.set_cons_zero, List.set_cons_succ, i64_w, i32_w]
        rfl
      refine join_ (σ := Value × Value × Value) 3 #[true, true, true, true, true, true, true, false, true, true, true, true, false, false] (fun s_ => [(3, s_.1), (6, s_.2.1), (7, s_.2.2)]) (fun s_ w' => (w'.cell? ⟨gb101, 0, none⟩ = some (.slice A0_0 l0_0.length c0_0) ∧ w'.cell? ⟨gb101, 1, none⟩ = some (.slice A0_1 l0_1.length c0_1) ∧ w'.cell? ⟨gb101, 2, none⟩ = some (.int .i64 a0_2) ∧ w'.cell? ⟨gb101, 3, none⟩ = some (.int .i64 a0_3)) ∧ (Kd.R k43 43 w' w.heap.size (fun _ => True) s_.2.1 y106) ∧ (Kd.R (Kd.int .i64) 3 w' w.heap.size (fun _ => True) s_.2.2 y109) ∧ (w'.heap[gb101]? = some (.cells #[.slice A0_0 l0_0.length c0_0, .slice A0_1 l0_1.length c0_1, .int .i64 a0_2, .int .i64 a0_3] 25 (0, 0))) ∧ (w'.heap[gb102]? = some (.cells #[.slice none 0 0, .slice none 0 0, .int .i64 0, .int .i64 0] 25 (0, 0))) ∧ (Below w.heap.size w w')) ?_ ?_
      rotate_left
      · intro hCont
        refine two_ (i := 0) (j := 4) (Ni := some 3) (Nj := some 7) #[true, true, true, false, false, true, true, false, true, true, true, true, false, false] #[false, true, true, false, true, true, true, false, true, true, true, true, false, false] rfl rfl rfl rfl (two_of HT_.out (by kernel_rfl)) (by decide) (by decide) (fun K hK => ?_) (fun K hK => ?_)
        · skip
          refine Kd.R_lit_step k43 _ 43 ?hg (N := 3) ?hd (xs := ([] : List (S43))) (inner := []) (ok := fun _ => True) (okp := fun _ => True) ?hr ?hp (fun _ hk => hk) trivial (Below.refl _ _) (Nat.le_refl _) (by simp) ?_; (case hd => rfl); (case hg => rfl); (case hr => first | (go_simp; done) | (go_simp; rfl)); (case hp => exact (Reps.none _ _))
          intro v104 w7 ho8 hb hg_ hnew_
          clear hg_ hnew_
          (first | rw [← Ny103.out] at ho8 | (simp only [Int.reduceToNat] at ho8; rw [← Ny103.out] at ho8))
          have n0_ := Aside0.mk (Kd.R_lower ho8 (below_size (by repeat (first | (with_reducible first | exact HB.out | apply below_alloc | apply pw_below_drewN | apply below_drew1 | refine below_set ?_ GE101.out | refine below_set ?_ GE102.out) | exact HB.out))))
          have n1_ := Aside0.mk (blk_below (g := gb101) (o := .cells #[.slice A0_0 l0_0.length c0_0, .slice A0_1 l0_1.length c0_1, .int .i64 a0_2, .int .i64 a0_3] 25 (0, 0)) (by (with_reducible repeat (first | refine blk_drewN ?_ _ | refine blk_drew ?_ | refine blk_alloc ?_ _)); exact BK101.out) hb)
          have n2_ := Aside0.mk (blk_below (g := gb102) (o := .cells #[.slice none 0 0, .slice none 0 0, .int .i64 0, .int .i64 0] 25 (0, 0)) (by (with_reducible repeat (first | refine blk_drewN ?_ _ | refine blk_drew ?_ | refine blk_alloc ?_ _)); exact BK102.out) hb)
          have n3_ := Aside0.mk (below_step (by repeat (first | (with_reducible first | exact HB.out | apply below_alloc | apply pw_below_drewN | apply below_drew1 | refine below_set ?_ GE101.out | refine below_set ?_ GE102.out) | exact HB.out)) hb)
          clear BK101
          clear BK102
          clear HB
          have HO105 := n0_
          have BK101 := n1_
          have BK102 := n2_
          have HB := n3_
          clear n0_ n1_ n2_ n3_
          clear hb ho8
          refine hK.out _ _ ⟨(blk_cell BK101.out 0).trans rfl, (blk_cell BK101.out 1).trans rfl, (blk_cell BK101.out 2).trans rfl, (blk_cell BK101.out 3).trans rfl⟩ (fun hHeld => ?_)
          clear hK K
          refine norm_ (a' := ?_) ?_ ?_
          rotate_left
          · show Act.put _ (some 3) _ = _
            simp only [Act.put, List.setIfInBounds_toArray, List.set_cons_zero, List.set_cons_succ, i64_w, i32_w]
            rfl
          refine two_ (i := 3) (j := 4) (Ni := some 6) (Nj := some 7) #[true, true, true, true, false, true, true, false, true, true, true, true, false, false] #[true, true, true, false, true, true, true, false, true, true, true, true, false, false] rfl rfl rfl rfl (two_of HT_.out (by kernel_rfl)) (by decide) (by decide) (fun K hK => ?_) (fun K hK => ?_)
          · skip
            refine Kd.R_append_rows_step k43 (w0 := w) w.heap.size (by rfl) (.tmp 3) (.tmp 5) 22 43 (.agg #[(.int .i64 0), (.int .i64 0), (.int .i64 0), (.int .i64 0)]) 32 rfl Tryz.underlying22 info43 rfl (by decide) (by omega) v104 y103 l0_0 _ _ _ (fun _ => True) (fun _ => False) rfl rfl ?aO ?aR (fun _ _ h => h) (fun _ h => h.elim) ?aF ?aB ?aS ?aL ?_
            (case aR => repeat (first | exact (Kd.C_below HR0_0.out HB.out) | (with_reducible refine Kd.C_alloc ?_ _) | (with_reducible refine Kd.C_drewN ?_ _) | (with_reducible refine Kd.C_drew ?_)))
            (case aB => exact (by repeat (first | (with_reducible first | exact HB.out | apply below_alloc | apply pw_below_drewN | apply below_drew1 | refine below_set ?_ GE101.out | refine below_set ?_ GE102.out) | exact HB.out)))
            (case aF => exact (fun _ _ => trivial))
            (case aO => exact (by (with_reducible repeat (first | apply Kd.R_alloc | apply Kd.R_drewN | apply Kd.R_drew)); exact HO105.out))
            (case aS => exact (below_size (by repeat (first | (with_reducible first | exact HB.out | apply below_alloc | apply pw_below_drewN | apply below_drew1 | refine below_set ?_ GE101.out | refine below_set ?_ GE102.out) | exact HB.out))))
            (case aL => have := LMc2.out; omega)
            intro v107 w9 ho hb hg hat
            rw [← Ny106.out] at ho
            have n0_ := Aside0.mk (blk_grown (g := gb101) (o := .cells #[.slice A0_0 l0_0.length c0_0, .slice A0_1 l0_1.length c0_1, .int .i64 a0_2, .int .i64 a0_3] 25 (0, 0)) (by (with_reducible repeat (first | refine blk_drewN ?_ _ | refine blk_drew ?_ | refine blk_alloc ?_ _)); exact BK101.out) hg (Kd.R_ne HO105.out BK101.out (by decide)))
            have n1_ := Aside0.mk (blk_grown (g := gb102) (o := .cells #[.slice none 0 0, .slice none 0 0, .int .i64 0, .int .i64 0] 25 (0, 0)) (by (with_reducible repeat (first | refine blk_drewN ?_ _ | refine blk_drew ?_ | refine blk_alloc ?_ _)); exact BK102.out) hg (Kd.R_ne HO105.out BK102.out (by decide)))
            have n2_ := Aside0.mk (hb)
            have n3_ := Aside0.mk (ho)
            clear BK101
            clear BK102
            clear HB
            clear HO105
            have BK101 := n0_
            have BK102 := n1_
            have HB := n2_
            have HO108 := n3_
            clear n0_ n1_ n2_ n3_
            clear ho hb hg hat
            refine hK.out _ _ ⟨(blk_cell BK101.out 0).trans rfl, (blk_cell BK101.out 1).trans rfl, (blk_cell BK101.out 2).trans rfl, (blk_cell BK101.out 3).trans rfl⟩ (fun hHeld => ?_)
            clear hK K
            refine norm_ (a' := ?_) ?_ ?_
            rotate_left
            · show Act.put _ (some 6) _ = _
              simp only [Act.put, List.setIfInBounds_toArray, List.set_cons_zero, List.set_cons_succ, i64_w, i32_w]
              rfl
            refine one_ (i := 4) (N := some 7) #[true, true, true, true, true, true, true, false, true, true, true, true, false, false] rfl rfl (one_of HT_.out (by kernel_rfl)) (by decide) (fun K hK => ?_)
            refine Kd.R_lit_step (Kd.int .i64) _ 3 ?hg (N := 7) ?hd (xs := ([] : List Int)) (inner := []) (ok := fun _ => True) (okp := fun _ => True) ?hr ?hp (fun _ hk => hk) trivial (Below.refl _ _) (Nat.le_refl _) (by simp) ?_; (case hd => rfl); (case hg => rfl); (case hr => first | (go_simp; done) | (go_simp; rfl)); (case hp => exact (Reps.none _ _))
            intro v110 w10 ho11 hb hg_ hnew_
            clear hg_ hnew_
            (first | rw [← Ny109.out] at ho11 | (simp only [Int.reduceToNat] at ho11; rw [← Ny109.out] at ho11))
            have n0_ := Aside0.mk (Kd.R_below (by (with_reducible repeat (first | apply Kd.R_alloc | apply Kd.R_drewN | apply Kd.R_drew)); exact HO108.out) hb)
            have n1_ := Aside0.mk (Kd.R_lower ho11 (below_size (by repeat (first | (with_reducible first | exact HB.out | apply below_alloc | apply pw_below_drewN | apply below_drew1 | refine below_set ?_ GE101.out | refine below_set ?_ GE102.out) | exact HB.out))))
            have n2_ := Aside0.mk (blk_below (g := gb101) (o := .cells #[.slice A0_0 l0_0.length c0_0, .slice A0_1 l0_1.length c0_1, .int .i64 a0_2, .int .i64 a0_3] 25 (0, 0)) (by (with_reducible repeat (first | refine blk_drewN ?_ _ | refine blk_drew ?_ | refine blk_alloc ?_ _)); exact BK101.out) hb)
            have n3_ := Aside0.mk (blk_below (g := gb102) (o := .cells #[.slice none 0 0, .slice none 0 0, .int .i64 0, .int .i64 0] 25 (0, 0)) (by (with_reducible repeat (first | refine blk_drewN ?_ _ | refine blk_drew ?_ | refine blk_alloc ?_ _)); exact BK102.out) hb)
            have n4_ := Aside0.mk (below_step (by repeat (first | (with_reducible first | exact HB.out | apply below_alloc | apply pw_below_drewN | apply below_drew1 | refine below_set ?_ GE101.out | refine below_set ?_ GE102.out) | exact HB.out)) hb)
            clear HO108
            clear BK101
            clear BK102
            clear HB
            have HO108 := n0_
            have HO111 := n1_
            have BK101 := n2_
            have BK102 := n3_
            have HB := n4_
            clear n0_ n1_ n2_ n3_ n4_
            clear hb ho11
            refine hK.out _ _ ⟨(blk_cell BK101.out 0).trans rfl, (blk_cell BK101.out 1).trans rfl, (blk_cell BK101.out 2).trans rfl, (blk_cell BK101.out 3).trans rfl⟩ (fun hHeld => ?_)
            clear hK K
            refine norm_ (a' := ?_) ?_ ?_
            rotate_left
            · show Act.put _ (some 7) _ = _
              simp only [Act.put, List.setIfInBounds_toArray, List.set_cons_zero, List.set_cons_succ, i64_w, i32_w]
              rfl
            exact norm_ (by simp only [putAll, Act.put, List.setIfInBounds_toArray, List.set_cons_zero, List.set_cons_succ]) (hCont (v104, v107, v110) _ ⟨hHeld, (by (with_reducible repeat (first | apply Kd.R_alloc | apply Kd.R_drewN | apply Kd.R_drew)); exact HO108.out), (by (with_reducible repeat (first | apply Kd.R_alloc | apply Kd.R_drewN | apply Kd.R_drew)); exact HO111.out), (by (with_reducible repeat (first | refine blk_drewN ?_ _ | refine blk_drew ?_ | refine blk_alloc ?_ _)); exact BK101.out), (by (with_reducible repeat (first | refine blk_drewN ?_ _ | refine blk_drew ?_ | refine blk_alloc ?_ _)); exact BK102.out), (by repeat (first | (with_reducible first | exact HB.out | apply below_alloc | apply pw_below_drewN | apply below_drew1 | refine below_set ?_ GE101.out | refine below_set ?_ GE102.out) | exact HB.out))⟩)
          · skip
            refine Kd.R_lit_step (Kd.int .i64) _ 3 ?hg (N := 7) ?hd (xs := ([] : List Int)) (inner := []) (ok := fun _ => True) (okp := fun _ => True) ?hr ?hp (fun _ hk => hk) trivial (Below.refl _ _) (Nat.le_refl _) (by simp) ?_; (case hd => rfl); (case hg => rfl); (case hr => first | (go_simp; done) | (go_simp; rfl)); (case hp => exact (Reps.none _ _))
            intro v110 w9 ho10 hb hg_ hnew_
            clear hg_ hnew_
            (first | rw [← Ny109.out] at ho10 | (simp only [Int.reduceToNat] at ho10; rw [← Ny109.out] at ho10))
            have n0_ := Aside0.mk (Kd.R_below (by (with_reducible repeat (first | apply Kd.R_alloc | apply Kd.R_drewN | apply Kd.R_drew)); exact HO105.out) hb)
            have n1_ := Aside0.mk (Kd.R_lower ho10 (below_size (by repeat (first | (with_reducible first | exact HB.out | apply below_alloc | apply pw_below_drewN | apply below_drew1 | refine below_set ?_ GE101.out | refine below_set ?_ GE102.out) | exact HB.out))))
            have n2_ := Aside0.mk (blk_below (g := gb101) (o := .cells #[.slice A0_0 l0_0.length c0_0, .slice A0_1 l0_1.length c0_1, .int .i64 a0_2, .int .i64 a0_3] 25 (0, 0)) (by (with_reducible repeat (first | refine blk_drewN ?_ _ | refine blk_drew ?_ | refine blk_alloc ?_ _)); exact BK101.out) hb)
            have n3_ := Aside0.mk (blk_below (g := gb102) (o := .cells #[.slice none 0 0, .slice none 0 0, .int .i64 0, .int .i64 0] 25 (0, 0)) (by (with_reducible repeat (first | refine blk_drewN ?_ _ | refine blk_drew ?_ | refine blk_alloc ?_ _)); exact BK102.out) hb)
            have n4_ := Aside0.mk (below_step (by repeat (first | (with_reducible first | exact HB.out | apply below_alloc | apply pw_below_drewN | apply below_drew1 | refine below_set ?_ GE101.out | refine below_set ?_ GE102.out) | exact HB.out)) hb)
            clear HO105
            clear BK101
            clear BK102
            clear HB
            have HO105 := n0_
            have HO111 := n1_
            have BK101 := n2_
            have BK102 := n3_
            have HB := n4_
            clear n0_ n1_ n2_ n3_ n4_
            clear hb ho10
            refine hK.out _ _ ⟨(blk_cell BK101.out 0).trans rfl, (blk_cell BK101.out 1).trans rfl, (blk_cell BK101.out 2).trans rfl, (blk_cell BK101.out 3).trans rfl⟩ (fun hHeld => ?_)
            clear hK K
            refine norm_ (a' := ?_) ?_ ?_
            rotate_left
            · show Act.put _ (some 7) _ = _
              simp only [Act.put, List.setIfInBounds_toArray, List.set_cons_zero, List.set_cons_succ, i64_w, i32_w]
              rfl
            refine one_ (i := 3) (N := some 6) #[true, true, true, true, true, true, true, false, true, true, true, true, false, false] rfl rfl (one_of HT_.out (by kernel_rfl)) (by decide) (fun K hK => ?_)
            refine Kd.R_append_rows_step k43 (w0 := w) w.heap.size (by rfl) (.tmp 3) (.tmp 5) 22 43 (.agg #[(.int .i64 0), (.int .i64 0), (.int .i64 0), (.int .i64 0)]) 32 rfl Tryz.underlying22 info43 rfl (by decide) (by omega) v104 y103 l0_0 _ _ _ (fun _ => True) (fun _ => False) rfl rfl ?aO ?aR (fun _ _ h => h) (fun _ h => h.elim) ?aF ?aB ?aS ?aL ?_
            (case aR => repeat (first | exact (Kd.C_below HR0_0.out HB.out) | (with_reducible refine Kd.C_alloc ?_ _) | (with_reducible refine Kd.C_drewN ?_ _) | (with_reducible refine Kd.C_drew ?_)))
            (case aB => exact (by repeat (first | (with_reducible first | exact HB.out | apply below_alloc | apply pw_below_drewN | apply below_drew1 | refine below_set ?_ GE101.out | refine below_set ?_ GE102.out) | exact HB.out)))
            (case aF => exact (fun _ _ => trivial))
            (case aO => exact (by (with_reducible repeat (first | apply Kd.R_alloc | apply Kd.R_drewN | apply Kd.R_drew)); exact HO105.out))
            (case aS => exact (below_size (by repeat (first | (with_reducible first | exact HB.out | apply below_alloc | apply pw_below_drewN | apply below_drew1 | refine below_set ?_ GE101.out | refine below_set ?_ GE102.out) | exact HB.out))))
            (case aL => have := LMc2.out; omega)
            intro v107 w11 ho hb hg hat
            rw [← Ny106.out] at ho
            have n0_ := Aside0.mk (blk_grown (g := gb101) (o := .cells #[.slice A0_0 l0_0.length c0_0, .slice A0_1 l0_1.length c0_1, .int .i64 a0_2, .int .i64 a0_3] 25 (0, 0)) (by (with_reducible repeat (first | refine blk_drewN ?_ _ | refine blk_drew ?_ | refine blk_alloc ?_ _)); exact BK101.out) hg (Kd.R_ne HO105.out BK101.out (by decide)))
            have n1_ := Aside0.mk (blk_grown (g := gb102) (o := .cells #[.slice none 0 0, .slice none 0 0, .int .i64 0, .int .i64 0] 25 (0, 0)) (by (with_reducible repeat (first | refine blk_drewN ?_ _ | refine blk_drew ?_ | refine blk_alloc ?_ _)); exact BK102.out) hg (Kd.R_ne HO105.out BK102.out (by decide)))
            have n2_ := Aside0.mk (Kd.R_over' (by (with_reducible repeat (first | apply Kd.R_alloc | apply Kd.R_drewN | apply Kd.R_drew)); exact HO111.out) (Kd.R_typed (by (with_reducible repeat (first | apply Kd.R_alloc | apply Kd.R_drewN | apply Kd.R_drew)); exact HO105.out)) (by decide) hg)
            have n3_ := Aside0.mk (hb)
            have n4_ := Aside0.mk (ho)
            clear BK101
            clear BK102
            clear HO111
            clear HB
            clear HO105
            have BK101 := n0_
            have BK102 := n1_
            have HO111 := n2_
            have HB := n3_
            have HO108 := n4_
            clear n0_ n1_ n2_ n3_ n4_
            clear ho hb hg hat
            refine hK.out _ _ ⟨(blk_cell BK101.out 0).trans rfl, (blk_cell BK101.out 1).trans rfl, (blk_cell BK101.out 2).trans rfl, (blk_cell BK101.out 3).trans rfl⟩ (fun hHeld => ?_)
            clear hK K
            refine norm_ (a' := ?_) ?_ ?_
            rotate_left
            · show Act.put _ (some 6) _ = _
              simp only [Act.put, List.setIfInBounds_toArray, List.set_cons_zero, List.set_cons_succ, i64_w, i32_w]
              rfl
            exact norm_ (by simp only [putAll, Act.put, List.setIfInBounds_toArray, List.set_cons_zero, List.set_cons_succ]) (hCont (v104, v107, v110) _ ⟨hHeld, (by (with_reducible repeat (first | apply Kd.R_alloc | apply Kd.R_drewN | apply Kd.R_drew)); exact HO108.out), (by (with_reducible repeat (first | apply Kd.R_alloc | apply Kd.R_drewN | apply Kd.R_drew)); exact HO111.out), (by (with_reducible repeat (first | refine blk_drewN ?_ _ | refine blk_drew ?_ | refine blk_alloc ?_ _)); exact BK101.out), (by (with_reducible repeat (first | refine blk_drewN ?_ _ | refine blk_drew ?_ | refine blk_alloc ?_ _)); exact BK102.out), (by repeat (first | (with_reducible first | exact HB.out | apply below_alloc | apply pw_below_drewN | apply below_drew1 | refine below_set ?_ GE101.out | refine below_set ?_ GE102.out) | exact HB.out))⟩)
        · skip
          refine Kd.R_lit_step (Kd.int .i64) _ 3 ?hg (N := 7) ?hd (xs := ([] : List Int)) (inner := []) (ok := fun _ => True) (okp := fun _ => True) ?hr ?hp (fun _ hk => hk) trivial (Below.refl _ _) (Nat.le_refl _) (by simp) ?_; (case hd => rfl); (case hg => rfl); (case hr => first | (go_simp; done) | (go_simp; rfl)); (case hp => exact (Reps.none _ _))
          intro v110 w7 ho8 hb hg_ hnew_
          clear hg_ hnew_
          (first | rw [← Ny109.out] at ho8 | (simp only [Int.reduceToNat] at ho8; rw [← Ny109.out] at ho8))
          have n0_ := Aside0.mk (Kd.R_lower ho8 (below_size (by repeat (first | (with_reducible first | exact HB.out | apply below_alloc | apply pw_below_drewN | apply below_drew1 | refine below_set ?_ GE101.out | refine below_set ?_ GE102.out) | exact HB.out))))
          have n1_ := Aside0.mk (blk_below (g := gb101) (o := .cells #[.slice A0_0 l0_0.length c0_0, .slice A0_1 l0_1.length c0_1, .int .i64 a0_2, .int .i64 a0_3] 25 (0, 0)) (by (with_reducible repeat (first | refine blk_drewN ?_ _ | refine blk_drew ?_ | refine blk_alloc ?_ _)); exact BK101.out) hb)
          have n2_ := Aside0.mk (blk_below (g := gb102) (o := .cells #[.slice none 0 0, .slice none 0 0, .int .i64 0, .int .i64 0] 25 (0, 0)) (by (with_reducible repeat (first | refine blk_drewN ?_ _ | refine blk_drew ?_ | refine blk_alloc ?_ _)); exact BK102.out) hb)
          have n3_ := Aside0.mk (below_step (by repeat (first | (with_reducible first | exact HB.out | apply below_alloc | apply pw_below_drewN | apply below_drew1 | refine below_set ?_ GE101.out | refine below_set ?_ GE102.out) | exact HB.out)) hb)
          clear BK101
          clear BK102
          clear HB
          have HO111 := n0_
          have BK101 := n1_
          have BK102 := n2_
          have HB := n3_
          clear n0_ n1_ n2_ n3_
          clear hb ho8
          refine hK.out _ _ ⟨(blk_cell BK101.out 0).trans rfl, (blk_cell BK101.out 1).trans rfl, (blk_cell BK101.out 2).trans rfl, (blk_cell BK101.out 3).trans rfl⟩ (fun hHeld => ?_)
          clear hK K
          refine norm_ (a' := ?_) ?_ ?_
          rotate_left
          · show Act.put _ (some 7) _ = _
            simp only [Act.put, List.setIfInBounds_toArray, List.set_cons_zero, List.set_cons_succ, i64_w, i32_w]
            rfl
          refine one_ (i := 0) (N := some 3) #[true, true, true, false, true, true, true, false, true, true, true, true, false, false] rfl rfl (one_of HT_.out (by kernel_rfl)) (by decide) (fun K hK => ?_)
          refine Kd.R_lit_step k43 _ 43 ?hg (N := 3) ?hd (xs := ([] : List (S43))) (inner := []) (ok := fun _ => True) (okp := fun _ => True) ?hr ?hp (fun _ hk => hk) trivial (Below.refl _ _) (Nat.le_refl _) (by simp) ?_; (case hd => rfl); (case hg => rfl); (case hr => first | (go_simp; done) | (go_simp; rfl)); (case hp => exact (Reps.none _ _))
          intro v104 w9 ho10 hb hg_ hnew_
          clear hg_ hnew_
          (first | rw [← Ny103.out] at ho10 | (simp only [Int.reduceToNat] at ho10; rw [← Ny103.out] at ho10))
          have n0_ := Aside0.mk (Kd.R_below (by (with_reducible repeat (first | apply Kd.R_alloc | apply Kd.R_drewN | apply Kd.R_drew)); exact HO111.out) hb)
          have n1_ := Aside0.mk (Kd.R_lower ho10 (below_size (by repeat (first | (with_reducible first | exact HB.out | apply below_alloc | apply pw_below_drewN | apply below_drew1 | refine below_set ?_ GE101.out | refine below_set ?_ GE102.out) | exact HB.out))))
          have n2_ := Aside0.mk (blk_below (g := gb101) (o := .cells #[.slice A0_0 l0_0.length c0_0, .slice A0_1 l0_1.length c0_1, .int .i64 a0_2, .int .i64 a0_3] 25 (0, 0)) (by (with_reducible repeat (first | refine blk_drewN ?_ _ | refine blk_drew ?_ | refine blk_alloc ?_ _)); exact BK101.out) hb)
          have n3_ := Aside0.mk (blk_below (g := gb102) (o := .cells #[.slice none 0 0, .slice none 0 0, .int .i64 0, .int .i64 0] 25 (0, 0)) (by (with_reducible repeat (first | refine blk_drewN ?_ _ | refine blk_drew ?_ | refine blk_alloc ?_ _)); exact BK102.out) hb)
          have n4_ := Aside0.mk (below_step (by repeat (first | (with_reducible first | exact HB.out | apply below_alloc | apply pw_below_drewN | apply below_drew1 | refine below_set ?_ GE101.out | refine below_set ?_ GE102.out) | exact HB.out)) hb)
          clear HO111
          clear BK101
          clear BK102
          clear HB
          have HO111 := n0_
          have HO105 := n1_
          have BK101 := n2_
          have BK102 := n3_
          have HB := n4_
          clear n0_ n1_ n2_ n3_ n4_
          clear hb ho10
          refine hK.out _ _ ⟨(blk_cell BK101.out 0).trans rfl, (blk_cell BK101.out 1).trans rfl, (blk_cell BK101.out 2).trans rfl, (blk_cell BK101.out 3).trans rfl⟩ (fun hHeld => ?_)
          clear hK K
          refine norm_ (a' := ?_) ?_ ?_
          rotate_left
          · show Act.put _ (some 3) _ = _
            simp only [Act.put, List.setIfInBounds_toArray, List.set_cons_zero, List.set_cons_succ, i64_w, i32_w]
            rfl
          refine one_ (i := 3) (N := some 6) #[true, true, true, true, true, true, true, false, true, true, true, true, false, false] rfl rfl (one_of HT_.out (by kernel_rfl)) (by decide) (fun K hK => ?_)
          refine Kd.R_append_rows_step k43 (w0 := w) w.heap.size (by rfl) (.tmp 3) (.tmp 5) 22 43 (.agg #[(.int .i64 0), (.int .i64 0), (.int .i64 0), (.int .i64 0)]) 32 rfl Tryz.underlying22 info43 rfl (by decide) (by omega) v104 y103 l0_0 _ _ _ (fun _ => True) (fun _ => False) rfl rfl ?aO ?aR (fun _ _ h => h) (fun _ h => h.elim) ?aF ?aB ?aS ?aL ?_
          (case aR => repeat (first | exact (Kd.C_below HR0_0.out HB.out) | (with_reducible refine Kd.C_alloc ?_ _) | (with_reducible refine Kd.C_drewN ?_ _) | (with_reducible refine Kd.C_drew ?_)))
          (case aB => exact (by repeat (first | (with_reducible first | exact HB.out | apply below_alloc | apply pw_below_drewN | apply below_drew1 | refine below_set ?_ GE101.out | refine below_set ?_ GE102.out) | exact HB.out)))
          (case aF => exact (fun _ _ => trivial))
          (case aO => exact (by (with_reducible repeat (first | apply Kd.R_alloc | apply Kd.R_drewN | apply Kd.R_drew)); exact HO105.out))
          (case aS => exact (below_size (by repeat (first | (with_reducible first | exact HB.out | apply below_alloc | apply pw_below_drewN | apply below_drew1 | refine below_set ?_ GE101.out | refine below_set ?_ GE102.out) | exact HB.out))))
          (case aL => have := LMc2.out; omega)
          intro v107 w11 ho hb hg hat
          rw [← Ny106.out] at ho
          have n0_ := Aside0.mk (blk_grown (g := gb101) (o := .cells #[.slice A0_0 l0_0.length c0_0, .slice A0_1 l0_1.length c0_1, .int .i64 a0_2, .int .i64 a0_3] 25 (0, 0)) (by (with_reducible repeat (first | refine blk_drewN ?_ _ | refine blk_drew ?_ | refine blk_alloc ?_ _)); exact BK101.out) hg (Kd.R_ne HO105.out BK101.out (by decide)))
          have n1_ := Aside0.mk (blk_grown (g := gb102) (o := .cells #[.slice none 0 0, .slice none 0 0, .int .i64 0, .int .i64 0] 25 (0, 0)) (by (with_reducible repeat (first | refine blk_drewN ?_ _ | refine blk_drew ?_ | refine blk_alloc ?_ _)); exact BK102.out) hg (Kd.R_ne HO105.out BK102.out (by decide)))
          have n2_ := Aside0.mk (Kd.R_over' (by (with_reducible repeat (first | apply Kd.R_alloc | apply Kd.R_drewN | apply Kd.R_drew)); exact HO111.out) (Kd.R_typed (by (with_reducible repeat (first | apply Kd.R_alloc | apply Kd.R_drewN | apply Kd.R_drew)); exact HO105.out)) (by decide) hg)
          have n3_ := Aside0.mk (hb)
          have n4_ := Aside0.mk (ho)
          clear BK101
          clear BK102
          clear HO111
          clear HB
          clear HO105
          have BK101 := n0_
          have BK102 := n1_
          have HO111 := n2_
          have HB := n3_
          have HO108 := n4_
          clear n0_ n1_ n2_ n3_ n4_
          clear ho hb hg hat
          refine hK.out _ _ ⟨(blk_cell BK101.out 0).trans rfl, (blk_cell BK101.out 1).trans rfl, (blk_cell BK101.out 2).trans rfl, (blk_cell BK101.out 3).trans rfl⟩ (fun hHeld => ?_)
          clear hK K
          refine norm_ (a' := ?_) ?_ ?_
          rotate_left
          · show Act.put _ (some 6) _ = _
            simp only [Act.put, List.setIfInBounds_toArray, List.set_cons_zero, List.set_cons_succ, i64_w, i32_w]
            rfl
          exact norm_ (by simp only [putAll, Act.put, List.setIfInBounds_toArray, List.set_cons_zero, List.set_cons_succ]) (hCont (v104, v107, v110) _ ⟨hHeld, (by (with_reducible repeat (first | apply Kd.R_alloc | apply Kd.R_drewN | apply Kd.R_drew)); exact HO108.out), (by (with_reducible repeat (first | apply Kd.R_alloc | apply Kd.R_drewN | apply Kd.R_drew)); exact HO111.out), (by (with_reducible repeat (first | refine blk_drewN ?_ _ | refine blk_drew ?_ | refine blk_alloc ?_ _)); exact BK101.out), (by (with_reducible repeat (first | refine blk_drewN ?_ _ | refine blk_drew ?_ | refine blk_alloc ?_ _)); exact BK102.out), (by repeat (first | (with_reducible first | exact HB.out | apply below_alloc | apply pw_below_drewN | apply below_drew1 | refine below_set ?_ GE101.out | refine below_set ?_ GE102.out) | exact HB.out))⟩)
      rintro ⟨v104, v107, v110⟩ w12 ⟨hS_, h0_, h1_, h2_, h3_, h4_⟩
      have n0_ : Aside0 (Kd.R k43 43 w12 w.heap.size (fun _ => True) v107 y106) := ⟨h0_⟩
      have n1_ : Aside0 (Kd.R (Kd.int .i64) 3 w12 w.heap.size (fun _ => True) v110 y109) := ⟨h1_⟩
      have n2_ : Aside0 (w12.heap[gb101]? = some (.cells #[.slice A0_0 l0_0.length c0_0, .slice A0_1 l0_1.length c0_1, .int .i64 a0_2, .int .i64 a0_3] 25 (0, 0))) := ⟨h2_⟩
      have n3_ : Aside0 (w12.heap[gb102]? = some (.cells #[.slice none 0 0, .slice none 0 0, .int .i64 0, .int .i64 0] 25 (0, 0))) := ⟨h3_⟩
      have n4_ : Aside0 (Below w.heap.size w w12) := ⟨h4_⟩
      clear BK101
      clear BK102
      clear HB
      clear h0_ h1_ h2_ h3_ h4_
      have HO108 := n0_
      have HO111 := n1_
      have BK101 := n2_
      have BK102 := n3_
      have HB := n4_
      clear n0_ n1_ n2_ n3_ n4_
      have hHeld : w12.cell? ⟨gb101, 0, none⟩ = some (.slice A0_0 l0_0.length c0_0) ∧ w12.cell? ⟨gb101, 1, none⟩ = some (.slice A0_1 l0_1.length c0_1) ∧ w12.cell? ⟨gb101, 2, none⟩ = some (.int .i64 a0_2) ∧ w12.cell? ⟨gb101, 3, none⟩ = some (.int .i64 a0_3) := hS_
      refine norm_ (a' := ?_) ?_ ?_
      rotate_left
      · simp only [putAll, Act.put, List.setIfInBounds_toArray, List.set_cons_zero, List.set_cons_succ]
        rfl
      refine one_ (i := 7) (N := some 10) #[true, true, true, true, true, true, true, true, true, true, true, true, false, false] rfl rfl (one_of HT_.out (by kernel_rfl)) (by decide) (fun K hK => ?_)
      refine Kd.R_append_rows_step (Kd.int .i64) (w0 := w) w.heap.size (by rfl) (.tmp 7) (.tmp 9) 23 3 (.int .i64 0) 8 rfl Tryz.underlying23 info3 rfl (by decide) (by omega) v110 y109 l0_1 _ _ _ (fun _ => True) (fun _ => False) rfl rfl ?aO ?aR (fun _ _ h => h) (fun _ h => h.elim) ?aF ?aB ?aS ?aL ?_
      (case aR => repeat (first | exact (Kd.C_below HR0_1.out HB.out) | (with_reducible refine Kd.C_alloc ?_ _) | (with_reducible refine Kd.C_drewN ?_ _) | (with_reducible refine Kd.C_drew ?_)))
      (case aB => exact (by repeat (first | (with_reducible first | exact HB.out | apply below_alloc | apply pw_below_drewN | apply below_drew1 | refine below_set ?_ GE101.out | refine below_set ?_ GE102.out) | exact HB.out)))
      (case aF => exact (fun _ _ => trivial))
      (case aO => exact (by (with_reducible repeat (first | apply Kd.R_alloc | apply Kd.R_drewN | apply Kd.R_drew)); exact HO111.out))
      (case aS => exact (below_size (by repeat (first | (with_reducible first | exact HB.out | apply below_alloc | apply pw_below_drewN | apply below_drew1 | refine below_set ?_ GE101.out | refine below_set ?_ GE102.out) | exact HB.out))))
      (case aL => have := LMc3.out; omega)
      intro v113 w13 ho hb hg hat
      rw [← Ny112.out] at ho
      have n0_ := Aside0.mk (blk_grown (g := gb101) (o := .cells #[.slice A0_0 l0_0.length c0_0, .slice A0_1 l0_1.length c0_1, .int .i64 a0_2, .int .i64 a0_3] 25 (0, 0)) (by (with_reducible repeat (first | refine blk_drewN ?_ _ | refine blk_drew ?_ | refine blk_alloc ?_ _)); exact BK101.out) hg (Kd.R_ne HO111.out BK101.out (by decide)))
      have n1_ := Aside0.mk (blk_grown (g := gb102) (o := .cells #[.slice none 0 0, .slice none 0 0, .int .i64 0, .int .i64 0] 25 (0, 0)) (by (with_reducible repeat (first | refine blk_drewN ?_ _ | refine blk_drew ?_ | refine blk_alloc ?_ _)); exact BK102.out) hg (Kd.R_ne HO111.out BK102.out (by decide)))
      have n2_ := Aside0.mk (Kd.R_over' (by (with_reducible repeat (first | apply Kd.R_alloc | apply Kd.R_drewN | apply Kd.R_drew)); exact HO108.out) (Kd.R_typed (by (with_reducible repeat (first | apply Kd.R_alloc | apply Kd.R_drewN | apply Kd.R_drew)); exact HO111.out)) (by decide) hg)
      have n3_ := Aside0.mk (hb)
      have n4_ := Aside0.mk (ho)
      clear BK101
      clear BK102
      clear HO108
      clear HB
      clear HO111
      have BK101 := n0_
      have BK102 := n1_
      have HO108 := n2_
      have HB := n3_
      have HO114 := n4_
      clear n0_ n1_ n2_ n3_ n4_
      clear ho hb hg hat
      obtain ⟨Ao14, co14, eo14⟩ := Kd.R_slice HO114.out
      (first | subst eo14 | (injection eo14 with f1_ f2_ f3_; have f4_ := f1_.symm; have f5_ := f3_.symm; clear f1_ f2_ f3_; subst f4_; subst f5_))
      obtain ⟨Ao15, co15, eo15⟩ := Kd.R_slice HO108.out
      (first | subst eo15 | (injection eo15 with f1_ f2_ f3_; have f4_ := f1_.symm; have f5_ := f3_.symm; clear f1_ f2_ f3_; subst f4_; subst f5_))
      refine hK.out _ _ ⟨(blk_cell BK101.out 0).trans rfl, (blk_cell BK101.out 1).trans rfl, (blk_cell BK101.out 2).trans rfl, (blk_cell BK101.out 3).trans rfl⟩ (fun hHeld => ?_)
      clear hK K
      refine norm_ (a' := ?_) ?_ ?_
      rotate_left
      · show Act.put _ (some 10) _ = _
        simp only [Act.put, List.setIfInBounds_toArray, List.set_cons_zero, List.set_cons_succ, i64_w, i32_w]
        rfl
      refine pure_ (i := 12) (N := some 15) (v := ?_) (a' := ?_) #[true, true, true, true, true, true, true, true, true, true, true, true, true, false] rfl rfl (any_of HT_.out (by kernel_rfl)) (fun _ _ _ h => h) (Or.inl ⟨by rfl, ?_⟩) ?_ ?_
      rotate_left
      · intro w'
        go_simp
        with_reducible rfl
      rotate_left
      · simp only [Act.put, List.setIfInBounds_toArray, List.set_cons_zero, List.set_cons_succ, i64_w, i32_w]
        rfl
      refine one_ (i := 13) (N := none) #[true, true, true, true, true, true, true, true, true, true, true, true, true, true] rfl rfl (one_of HT_.out (by kernel_rfl)) (by decide) (fun K hK => ?_)
      have hs16 : w13.cell? ⟨gb102, 0, none⟩ = some (.slice none 0 0) := (blk_cell BK102.out 0).trans rfl
      have hfs16 := blk_frozen BK102.out 0
      have hns16_0 := NB101_102.out
      have hms16_0 := NB102_101.out
      have hs17 : w13.cell? ⟨gb102, 1, none⟩ = some (.slice none 0 0) := (blk_cell BK102.out 1).trans rfl
      have hfs17 := blk_frozen BK102.out 1
      have hns17_0 := NB101_102.out
      have hms17_0 := NB102_101.out
      have hs18 : w13.cell? ⟨gb102, 2, none⟩ = some (.int .i64 0) := (blk_cell BK102.out 2).trans rfl
      have hfs18 := blk_frozen BK102.out 2
      have hns18_0 := NB101_102.out
      have hms18_0 := NB102_101.out
      have hs19 : w13.cell? ⟨gb102, 3, none⟩ = some (.int .i64 0) := (blk_cell BK102.out 3).trans rfl
      have hfs19 := blk_frozen BK102.out 3
      have hns19_0 := NB101_102.out
      have hms19_0 := NB102_101.out
      refine skip_ (w1 := ?_) (by rfl) rfl ?_ ?_
      rotate_left
      · go_simp
        rfl
      refine hK.out _ _ ⟨((cell_far (p := ⟨gb102, _, none⟩) NB101_102.out _).trans (((cell_far (p := ⟨gb102, _, none⟩) NB101_102.out _).trans (((cell_far (p := ⟨gb102, _, none⟩) NB101_102.out _).trans (((cell_far (p := ⟨gb102, _, none⟩) NB101_102.out _).trans (hHeld.1)))))))), ((cell_far (p := ⟨gb102, _, none⟩) NB101_102.out _).trans (((cell_far (p := ⟨gb102, _, none⟩) NB101_102.out _).trans (((cell_far (p := ⟨gb102, _, none⟩) NB101_102.out _).trans (((cell_far (p := ⟨gb102, _, none⟩) NB101_102.out _).trans (hHeld.2.1)))))))), ((cell_far (p := ⟨gb102, _, none⟩) NB101_102.out _).trans (((cell_far (p := ⟨gb102, _, none⟩) NB101_102.out _).trans (((cell_far (p := ⟨gb102, _, none⟩) NB101_102.out _).trans (((cell_far (p := ⟨gb102, _, none⟩) NB101_102.out _).trans (hHeld.2.2.1)))))))), ((cell_far (p := ⟨gb102, _, none⟩) NB101_102.out _).trans (((cell_far (p := ⟨gb102, _, none⟩) NB101_102.out _).trans (((cell_far (p := ⟨gb102, _, none⟩) NB101_102.out _).trans (((cell_far (p := ⟨gb102, _, none⟩) NB101_102.out _).trans (hHeld.2.2.2))))))))⟩ (fun hHeld => ?_)
      clear hK K
      refine done_ (done_of HT_.out (by kernel_rfl)) ?_
      try go_wp2
      refine bodyPost_ret (results_cell_row rfl _ _ gb102 25 #[.slice Ao15 y106.length co15, .slice Ao14 y112.length co14, .int .i64 a0_2, .int .i64 a0_3] (0, 0) _ rfl (by (with_reducible repeat (first | refine blk_drewN ?_ _ | refine blk_drew ?_ | refine blk_alloc ?_ _)); refine blk_put (cs := #[.slice Ao15 y106.length co15, .slice Ao14 y112.length co14, .int .i64 a0_2, .int .i64 0]) ?_ 3 _ rfl; (with_reducible repeat (first | refine blk_drewN ?_ _ | refine blk_drew ?_ | refine blk_alloc ?_ _)); refine blk_put (cs := #[.slice Ao15 y106.length co15, .slice Ao14 y112.length co14, .int .i64 0, .int .i64 0]) ?_ 2 _ rfl; (with_reducible repeat (first | refine blk_drewN ?_ _ | refine blk_drew ?_ | refine blk_alloc ?_ _)); refine blk_put (cs := #[.slice Ao15 y106.length co15, .slice none 0 0, .int .i64 0, .int .i64 0]) ?_ 1 _ rfl; (with_reducible repeat (first | refine blk_drewN ?_ _ | refine blk_drew ?_ | refine blk_alloc ?_ _)); refine blk_put (cs := #[.slice none 0 0, .slice none 0 0, .int .i64 0, .int .i64 0]) ?_ 0 _ rfl; (with_reducible repeat (first | refine blk_drewN ?_ _ | refine blk_drew ?_ | refine blk_alloc ?_ _)); exact BK102.out) Tryz.underlying25 rfl (by kernel_rfl)) rfl ?_
      exact ⟨_, _, by first | rfl | (simp [errW_none, errW_some] <;> rfl) | (simp [*, errW_none, errW_some] <;> rfl), by (with_reducible repeat (first | apply Kd.R_alloc | apply Kd.R_drewN | apply Kd.R_drew)); exact Kd.R_mono (Kd.R_far (p := ⟨gb102, 3, none⟩) (Kd.R_far (p := ⟨gb102, 2, none⟩) (Kd.R_far (p := ⟨gb102, 1, none⟩) (Kd.R_far (p := ⟨gb102, 0, none⟩) (Kd.R_types HO108.out BK102.out (by decide)) (fun _ hk => hk.2) (.slice Ao15 y106.length co15)) (fun _ hk => hk.2) (.slice Ao14 y112.length co14)) (fun _ hk => hk.2) (.int .i64 a0_2)) (fun _ hk => hk.2) (.int .i64 a0_3)) (fun _ hk => trivial), by (with_reducible repeat (first | apply Kd.R_alloc | apply Kd.R_drewN | apply Kd.R_drew)); exact Kd.R_mono (Kd.R_far (p := ⟨gb102, 3, none⟩) (Kd.R_far (p := ⟨gb102, 2, none⟩) (Kd.R_far (p := ⟨gb102, 1, none⟩) (Kd.R_far (p := ⟨gb102, 0, none⟩) (Kd.R_types HO114.out BK102.out (by decide)) (fun _ hk => hk.2) (.slice Ao15 y106.length co15)) (fun _ hk => hk.2) (.slice Ao14 y112.length co14)) (fun _ hk => hk.2) (.int .i64 a0_2)) (fun _ hk => hk.2) (.int .i64 a0_3)) (fun _ hk => trivial), by repeat (first | (with_reducible first | exact HB.out | apply below_alloc | apply pw_below_drewN | apply below_drew1 | refine below_set ?_ GE101.out | refine below_set ?_ GE102.out) | exact HB.out)⟩
    · rw [if_neg c3] at H
      exact absurd H (by simp)
  · rw [if_neg c2] at H
    exact absurd H (by simp)
def walkmilllaw05_spans.f (l0 : List (S36)) : Option ((List (S36))) := (some (([] : List (S36)) : List (S36))).bind fun y101 => (if y101.length + l0.length < 8796093022208 then (some (y101 ++ l0)) else (none))
set_option maxHeartbeats 8000000 in
set_option maxRecDepth 100000 in
theorem walkmilllaw05_spans.calls (A0 : Option Addr) (c0 : Nat) (l0 : List (S36)) (r : List (S36)) (w : World) (hr0 : Kd.C k36 w A0 l0.length l0) (hc0 : l0.length ≤ c0) (h : walkmilllaw05_spans.f l0 = some r) :
    Calls Tryz.prog 46 #[.slice A0 l0.length c0] w fun e w' => ∃ v0_ : Value, e = .returned (v0_) ∧ Kd.R k36 36 w' w.heap.size (fun _ => True) v0_ r ∧ Below w.heap.size w w' := by
  have HR0 := Aside0.mk hr0
  have HC0 := Aside0.mk hc0
  clear hr0 hc0
  have HB := Aside0.mk (Below.refl w.heap.size w)
  have H : ((some (([] : List (S36)) : List (S36))).bind fun y101 => (if y101.length + l0.length < 8796093022208 then (some (y101 ++ l0)) else (none))) = some r := h
  clear h
  obtain ⟨y101, hy101⟩ : ∃ y_ : List (S36), y_ = (([] : List (S36))) := ⟨_, rfl⟩
  replace H : (if y101.length + l0.length < 8796093022208 then (some (y101 ++ l0)) else (none)) = some r := by first | (rw [hy101]; with_reducible exact H) | (have H2_ := (Option.bind_some _ _).symm.trans H; rw [hy101]; with_reducible exact H2_) | (have H2_ := (Option.bind_some _ _).symm.trans H; with_reducible exact H2_) | with_reducible exact H | (rw [hy101]; exact H) | exact H
  have Ny101 := Aside0.mk hy101
  clear hy101
  by_cases c2 : y101.length + l0.length < 8796093022208
  · rw [if_pos c2] at H
    have LMc2 := Aside0.mk c2
    clear c2
    obtain ⟨y104, hy104⟩ : ∃ y_ : List (S36), y_ = (y101 ++ l0) := ⟨_, rfl⟩
    replace H : (some y104) = some r := by first | (rw [hy104]; with_reducible exact H) | (have H2_ := (Option.bind_some _ _).symm.trans H; rw [hy104]; with_reducible exact H2_) | (have H2_ := (Option.bind_some _ _).symm.trans H; with_reducible exact H2_) | with_reducible exact H | (rw [hy104]; exact H) | exact H
    have Ny104 := Aside0.mk hy104
    clear hy104
    obtain rfl := Option.some.inj H
    go_enter Tryz.func46, Tryz.ntmps46
    go_wp2_with (first | ((with_reducible refine gate_dst (N := 3) rfl ?_); refine Kd.R_lit k36 _ 36 ?hg (N := 3) ?hd (xs := ([] : List (S36))) (inner := []) (ok := fun _ => True) (okp := fun _ => True) ?hr ?hp (fun _ hk => hk) trivial (Below.refl _ _) (Nat.le_refl _) (by simp) ?_; (case hd => rfl); (case hg => rfl); (case hr => first | (go_simp; done) | (go_simp; rfl)); (case hp => exact (Reps.none _ _)); intro v102 w3 ho4 hb hg_ hnew_; clear hg_ hnew_; (first | rw [← Ny101.out] at ho4 | (simp only [Int.reduceToNat] at ho4; rw [← Ny101.out] at ho4)); have n0_ := Aside0.mk (Kd.R_lower ho4 (below_size (by repeat (first | (with_reducible first | exact HB.out | apply below_alloc | apply pw_below_drewN | apply below_drew1) | exact HB.out)))); have n1_ := Aside0.mk (below_step (by repeat (first | (with_reducible first | exact HB.out | apply below_alloc | apply pw_below_drewN | apply below_drew1) | exact HB.out)) hb); clear HB; have HO103 := n0_; have HB := n1_; clear n0_ n1_; clear hb ho4) | ((with_reducible refine gate_builtin (b := .append) (xs := #[.tmp 3, .tmp 4]) rfl ?_); at_builtin; refine Kd.R_append_rows k36 (w0 := w) w.heap.size rfl (.tmp 3) (.tmp 4) 31 36 (.agg #[(.int .i64 0), (.int .i64 0)]) 16 rfl Tryz.underlying31 info36 rfl (by decide) (by omega) v102 y101 l0 _ _ _ (fun _ => True) (fun _ => False) rfl rfl ?aO ?aR (fun _ _ h => h) (fun _ h => h.elim) ?aF ?aB ?aS ?aL ?_; (case aR => repeat (first | exact (Kd.C_below HR0.out HB.out) | (with_reducible refine Kd.C_alloc ?_ _) | (with_reducible refine Kd.C_drewN ?_ _) | (with_reducible refine Kd.C_drew ?_))); (case aB => exact (by repeat (first | (with_reducible first | exact HB.out | apply below_alloc | apply pw_below_drewN | apply below_drew1) | exact HB.out))); (case aF => exact (fun _ _ => trivial)); (case aO => exact (by (with_reducible repeat (first | apply Kd.R_alloc | apply Kd.R_drewN | apply Kd.R_drew)); exact HO103.out)); (case aS => exact (below_size (by repeat (first | (with_reducible first | exact HB.out | apply below_alloc | apply pw_below_drewN | apply below_drew1) | exact HB.out)))); (case aL => have := LMc2.out; omega); intro v105 w5 ho hb hg hat; rw [← Ny104.out] at ho; have n0_ := Aside0.mk (hb); have n1_ := Aside0.mk (ho); clear HB; clear HO103; have HB := n0_; have HO106 := n1_; clear n0_ n1_; clear ho hb hg hat))
    go_ret
    exact ⟨_, by first | rfl | (simp [errW_none, errW_some] <;> rfl) | (simp [*, errW_none, errW_some] <;> rfl), by (with_reducible repeat (first | apply Kd.R_alloc | apply Kd.R_drewN | apply Kd.R_drew)); exact HO106.out, by repeat (first | (with_reducible first | exact HB.out | apply below_alloc | apply pw_below_drewN | apply below_drew1) | exact HB.out)⟩
  · rw [if_neg c2] at H
    exact absurd H (by simp)
def walkmilllaw05_inside.f (a0_0 : Int) (a0_1 : Int) (a1 : Int) : Option (Int) := some (wrap64 (a0_0 + (wrap64 (Int.tdiv (wrap64 (a1 * (wrap64 (a0_1 - a0_0)))) 255))))
set_option maxHeartbeats 8000000 in
set_option maxRecDepth 100000 in
theorem walkmilllaw05_inside.calls (a0_0 : Int) (a0_1 : Int) (a1 : Int) (r : Int) (w : World) (h : walkmilllaw05_inside.f a0_0 a0_1 a1 = some r) :
    Calls Tryz.prog 47 #[.agg #[.int .i64 a0_0, .int .i64 a0_1], .int .i64 a1] w fun e w' => e = .returned (.int .i64 r) ∧ Below w.heap.size w w' := by
  have hu36 := Tryz.underlying36
  have HB := Aside0.mk (Below.refl w.heap.size w)
  have H : (some (wrap64 (a0_0 + (wrap64 (Int.tdiv (wrap64 (a1 * (wrap64 (a0_1 - a0_0)))) 255))))) = some r := h
  clear h
  obtain rfl := Option.some.inj H
  go_enter Tryz.func47, Tryz.ntmps47
  go_wp2_with (first | ((with_reducible refine gate_dst (N := 2) rfl ?_); refine box_event ?hg (N := 2) ?hd (cs := #[.int .i64 a0_0, .int .i64 a0_1]) (t := 36) ?hr ?_; (case hd => rfl); (case hg => rfl); (case hr => first | (go_simp; done) | (go_simp; rfl)); intro gb101 hg w3 hbox hb; have n0_ := Aside0.mk (below_step (by repeat (first | (with_reducible first | exact HB.out | apply below_alloc | apply pw_below_drewN | apply below_drew1) | exact HB.out)) hb); have n1_ := Aside0.mk (hbox); have n2_ := Aside0.mk ((by rw [hg]; exact (below_size (by repeat (first | (with_reducible first | exact HB.out | apply below_alloc | apply pw_below_drewN | apply below_drew1) | exact HB.out))) : w.heap.size ≤ gb101)); have n3_ := Aside0.mk ((by rw [hg]; exact (below_size (by repeat (first | (with_reducible first | exact HB.out | apply below_alloc | apply pw_below_drewN | apply below_drew1) | exact HB.out))) : w.heap.size ≤ gb101)); clear HB; have HB := n0_; have BK101 := n1_; have GW101 := n2_; have GE101 := n3_; clear n0_ n1_ n2_ n3_; clear hb hbox hg; have hcz4_0 : w3.cell? ⟨gb101, 0, none⟩ = some (.int .i64 a0_0) := (blk_cell BK101.out 0).trans rfl; have hcz4_1 : w3.cell? ⟨gb101, 1, none⟩ = some (.int .i64 a0_1) := (blk_cell BK101.out 1).trans rfl; have hfz4_0 := blk_frozen BK101.out 0; have hfz4_1 := blk_frozen BK101.out 1))
  go_ret
  exact ⟨by first | rfl | (simp [errW_none, errW_some] <;> rfl) | (simp [*, errW_none, errW_some] <;> rfl), by repeat (first | (with_reducible first | exact HB.out | apply below_alloc | apply pw_below_drewN | apply below_drew1 | refine below_set ?_ GE101.out) | exact HB.out)⟩
def walkmilllaw05_byteOf.f (l0 : List Int) (a1 : Int) : Option (Int) := if (l0.length : Int) = 0 then (some 0) else (if 0 ≤ (Int.tmod a1 (l0.length : Int)) then (if (Int.tmod a1 (l0.length : Int)) < (l0.length : Int) then (some (wrap64 (rd l0 (Int.tmod a1 (l0.length : Int))))) else (none)) else (none))
set_option maxHeartbeats 8000000 in
set_option maxRecDepth 100000 in
theorem walkmilllaw05_byteOf.calls (A0 : Option Addr) (c0 : Nat) (l0 : List Int) (a1 : Int) (r : Int) (w : World) (hr0 : Kd.C (Kd.int .u8) w A0 l0.length l0) (hc0 : l0.length ≤ c0) (h : walkmilllaw05_byteOf.f l0 a1 = some r) :
    Calls Tryz.prog 48 #[.slice A0 l0.length c0, .int .i64 a1] w fun e w' => e = .returned (.int .i64 r) ∧ Drawn0 w w' := by
  have HR0 := Aside0.mk hr0
  have HC0 := Aside0.mk hc0
  clear hr0 hc0
  have H : (if (l0.length : Int) = 0 then (some 0) else (if 0 ≤ (Int.tmod a1 (l0.length : Int)) then (if (Int.tmod a1 (l0.length : Int)) < (l0.length : Int) then (some (wrap64 (rd l0 (Int.tmod a1 (l0.length : Int))))) else (none)) else (none))) = some r := h
  clear h
  by_cases c3 : (l0.length : Int) = 0
  · rw [if_pos c3] at H
    have c3b0 : ((l0.length : Int) == 0) = true := beq_iff_eq.mpr c3
    have c3b1 : ((l0.length : Int) != 0) = false := bne_eq_false_iff_eq.mpr c3
    clear c3
    obtain rfl := Option.some.inj H
    go_enter Tryz.func48, Tryz.ntmps48
    go_wp2
    go_ret
    exact ⟨by first | rfl | (simp; done) | (simp [*]; done), by repeat (first | exact Drawn0.refl _ | apply Drawn0.step)⟩
  · rw [if_neg c3] at H
    have c3b0 : ((l0.length : Int) == 0) = false := beq_eq_false_iff_ne.mpr c3
    have c3b1 : ((l0.length : Int) != 0) = true := bne_iff_ne.mpr c3
    have c3b2 : ¬ (l0 = []) := fun h_ => c3 (by rw [h_]; rfl)
    obtain ⟨ji4, hji4⟩ : ∃ j_ : Int, (Int.tmod a1 (l0.length : Int)) = j_ := ⟨_, rfl⟩
    replace H : (if 0 ≤ (ji4) then (if (ji4) < (l0.length : Int) then (some (wrap64 (rd l0 (ji4)))) else (none)) else (none)) = some r := by first | (rw [hji4] at H; exact H) | (simp only [hji4] at H ⊢; exact H)
    by_cases c5 : 0 ≤ (ji4)
    · rw [if_pos c5] at H
      have c5b0 : decide (0 ≤ (ji4)) = true := decide_eq_true c5
      clear c5
      by_cases c6 : (ji4) < (l0.length : Int)
      · rw [if_pos c6] at H
        have c6b0 : decide ((ji4) < (l0.length : Int)) = true := decide_eq_true c6
        clear c6
        obtain rfl := Option.some.inj H
        have p101 : 0 ≤ ((ji4) : Int) := of_decide_eq_true (by first | (with_reducible assumption) | assumption)
        have q101 : (ji4) < (l0.length : Int) := of_decide_eq_true (by first | (with_reducible assumption) | assumption)
        obtain ⟨ad101, e101, hx101_0⟩ := Kd.at_int HR0.out (ji4) p101 q101
        cases e101
        replace p101 := eq_true p101
        replace q101 := eq_true q101
        go_enter Tryz.func48, Tryz.ntmps48
        go_wp2
        go_ret
        exact ⟨by first | rfl | (simp; done) | (simp only [← hji4] <;> (first | rfl | simp)) | (simp [*]; done), by repeat (first | exact Drawn0.refl _ | apply Drawn0.step)⟩
      · rw [if_neg c6] at H
        exact absurd H (by simp)
    · rw [if_neg c5] at H
      exact absurd H (by simp)
end Go.Proofs.YtikmfpjcdcckeaaGreatDoor.P
namespace Go.Proofs.YtikmfpjcdcckeaaGreatDoor.P
open Go.RowKit Go.Proofs.YtikmfpjcdcckeaaGreatDoorW.PrintWords Go.Proofs.YtikmfpjcdcckeaaGreatDoorW.PrintLast Go.Proofs.YtikmfpjcdcckeaaGreatDoorW.PrintMore
def B8 (n : Int) : Prop := 0 ≤ n ∧ n ≤ 255
def G4 (v : S131) : Prop := B8 v.f0 ∧ B8 v.f1 ∧ B8 v.f2 ∧ B8 v.f3
theorem span_eq (a b : Int) : walkmilllaw05_span.f a b = some (a, b) := rfl
theorem own_eq (l0 : List S43) (l1 : List Int) (g s : Int) (hm : l0.length ≤ 1000) (hn : l1.length ≤ 1000) : walkmilllaw05_own.f l0 l1 g s = some (l0, l1, g, s) := by
  unfold walkmilllaw05_own.f
  simp only [Option.bind_some, List.nil_append, List.length_nil, Nat.zero_add]
  rw [if_pos (by omega), if_pos (by omega)]
theorem tmod_pos {a n : Int} (h0 : 0 ≤ a) (hn : 0 < n) : 0 ≤ Int.tmod a n ∧ Int.tmod a n < n := by
  rw [Int.tmod_eq_emod_of_nonneg h0]
  exact ⟨Int.emod_nonneg _ (by omega), Int.emod_lt_of_pos _ hn⟩
def insOf (lo hi b : Int) : Int := lo + b * (hi - lo) / 255
theorem insOf_bd {lo hi b : Int} (h : lo ≤ hi) (hb : B8 b) : lo ≤ insOf lo hi b ∧ insOf lo hi b ≤ hi := by
  obtain ⟨b0, b1⟩ := hb
  have m0 : 0 ≤ b * (hi - lo) := Int.mul_nonneg b0 (by omega)
  have m1 : b * (hi - lo) ≤ 255 * (hi - lo) := Int.mul_le_mul_of_nonneg_right b1 (by omega)
  unfold insOf
  omega
theorem inside_eq {lo hi b : Int} (h0 : 0 ≤ lo) (h : lo ≤ hi) (h1 : hi ≤ 4000) (hb : B8 b) : walkmilllaw05_inside.f lo hi b = some (insOf lo hi b) := by
  have h2 := insOf_bd h hb
  obtain ⟨b0, b1⟩ := hb
  have m0 : 0 ≤ b * (hi - lo) := Int.mul_nonneg b0 (by omega)
  have m1 : b * (hi - lo) ≤ 255 * (hi - lo) := Int.mul_le_mul_of_nonneg_right b1 (by omega)
  unfold walkmilllaw05_inside.f
  unfold insOf at h2 ⊢
  rw [w64_of (n := hi - lo) (by omega) (by omega), w64_of (n := b * (hi - lo)) (by omega) (by omega), Int.tdiv_eq_ediv_of_nonneg m0, w64_of (n := b * (hi - lo) / 255) (by omega) (by omega), w64_of (by omega) (by omega)]
def byOf (l : List Int) (i : Int) : Int := (walkmilllaw05_byteOf.f l i).getD 0
theorem byteOf_eq {l : List Int} (hl : ∀ x ∈ l, B8 x) {i : Int} (hi : 0 ≤ i) : walkmilllaw05_byteOf.f l i = some (byOf l i) ∧ B8 (byOf l i) := by
  have key : ∃ b, walkmilllaw05_byteOf.f l i = some b ∧ B8 b := by
    unfold walkmilllaw05_byteOf.f
    by_cases h : (l.length : Int) = 0
    · rw [if_pos h]; exact ⟨0, rfl, by unfold B8; omega⟩
    · have hp := tmod_pos hi (n := (l.length : Int)) (by omega)
      rw [if_neg h, if_pos hp.1, if_pos hp.2]
      obtain ⟨j, hj⟩ : ∃ j : Nat, Int.tmod i (l.length : Int) = j := ⟨(Int.tmod i (l.length : Int)).toNat, by omega⟩
      rw [hj, rd_at l j (by omega)]
      have hb := hl l[j] (List.getElem_mem _)
      exact ⟨l[j], by rw [w64_of (by have := hb.1; omega) (by have := hb.2; omega)], hb⟩
  obtain ⟨b, h1, h2⟩ := key
  unfold byOf
  rw [h1]
  exact ⟨rfl, h2⟩
theorem field_l1 (a1 a2 a3 a4 : Int) (h1 : B8 a1) (h2 : B8 a2) (h3 : B8 a3) (h4 : B8 a4) (l0 : List S131) (a5 : Int) (l6 : List S81) (cl : List S43) (g s : Int) (k : Nat) (hk : 10 < k) :
    ∃ fr : List Int, walkmilllaw05_Green_field.l1 k 0 l0 a1 a2 a3 a4 a5 l6 cl [] g s = some (cl, fr, g, s) ∧ 1 ≤ fr.length ∧ fr.length ≤ 3 ∧ ∀ x ∈ fr, 60 ≤ x ∧ x ≤ 1335 := by
  obtain ⟨k, rfl⟩ : ∃ m, k = m + 4 := ⟨k - 4, by omega⟩
  have f1 : wrap64 (60 + wrap64 (5 * wrap64 a1)) = 60 + 5 * a1 := by
    obtain ⟨x, y⟩ := h1
    rw [w64_of (n := a1) (by omega) (by omega), w64_of (n := 5 * a1) (by omega) (by omega), w64_of (by omega) (by omega)]
  have f2 : wrap64 (60 + wrap64 (5 * wrap64 a2)) = 60 + 5 * a2 := by
    obtain ⟨x, y⟩ := h2
    rw [w64_of (n := a2) (by omega) (by omega), w64_of (n := 5 * a2) (by omega) (by omega), w64_of (by omega) (by omega)]
  have f3 : wrap64 (60 + wrap64 (5 * wrap64 a3)) = 60 + 5 * a3 := by
    obtain ⟨x, y⟩ := h3
    rw [w64_of (n := a3) (by omega) (by omega), w64_of (n := 5 * a3) (by omega) (by omega), w64_of (by omega) (by omega)]
  obtain ⟨m, hm, hm0, hm3⟩ : ∃ m : Int, wrap64 (1 + Int.tmod (wrap64 (Int.tdiv (wrap64 a4) 32)) 3) = m ∧ 1 ≤ m ∧ m ≤ 3 := by
    obtain ⟨x, y⟩ := h4
    rw [w64_of (n := a4) (by omega) (by omega), Int.tdiv_eq_ediv_of_nonneg x, w64_of (n := a4 / 32) (by omega) (by omega)]
    have := tmod_pos (a := a4 / 32) (n := 3) (by omega) (by omega)
    rw [w64_of (by omega) (by omega)]
    exact ⟨_, rfl, by omega, by omega⟩
  have n1 : wrap64 (0 + 1) = 1 := by rw [w64_of (by omega) (by omega)]; rfl
  have n2 : wrap64 (1 + 1) = 2 := by rw [w64_of (by omega) (by omega)]; rfl
  have n3 : wrap64 (2 + 1) = 3 := by rw [w64_of (by omega) (by omega)]; rfl
  have s0 : ∀ k fr, walkmilllaw05_Green_field.l1 (k + 1) 0 l0 a1 a2 a3 a4 a5 l6 cl fr g s = if (fr : List Int).length < 17592186044416 then walkmilllaw05_Green_field.l1 k 1 l0 a1 a2 a3 a4 a5 l6 cl (fr ++ [60 + 5 * a1]) g s else none := fun k fr => by
    rw [walkmilllaw05_Green_field.l1, hm, if_pos (by omega), if_pos rfl, n1, f1]
  have s1 : ∀ k fr, walkmilllaw05_Green_field.l1 (k + 1) 1 l0 a1 a2 a3 a4 a5 l6 cl fr g s = if 1 < m then (if (fr : List Int).length < 17592186044416 then walkmilllaw05_Green_field.l1 k 2 l0 a1 a2 a3 a4 a5 l6 cl (fr ++ [60 + 5 * a2]) g s else none) else some (cl, fr, g, s) := fun k fr => by
    rw [walkmilllaw05_Green_field.l1, hm, if_neg (show ¬ (1 : Int) = 0 by omega), if_pos (show (1 : Int) = 1 from rfl), n2, f2]
  have s2 : ∀ k fr, walkmilllaw05_Green_field.l1 (k + 1) 2 l0 a1 a2 a3 a4 a5 l6 cl fr g s = if 2 < m then (if (fr : List Int).length < 17592186044416 then walkmilllaw05_Green_field.l1 k 3 l0 a1 a2 a3 a4 a5 l6 cl (fr ++ [60 + 5 * a3]) g s else none) else some (cl, fr, g, s) := fun k fr => by
    rw [walkmilllaw05_Green_field.l1, hm, if_neg (show ¬ (2 : Int) = 0 by omega), if_neg (show ¬ (2 : Int) = 1 by omega), if_pos (show (2 : Int) = 2 from rfl), n3, f3]
  have s3 : ∀ k fr, walkmilllaw05_Green_field.l1 (k + 1) 3 l0 a1 a2 a3 a4 a5 l6 cl fr g s = some (cl, fr, g, s) := fun k fr => by
    rw [walkmilllaw05_Green_field.l1, hm, if_neg (by omega)]
  have b1 := h1.1; have b1' := h1.2; have b2 := h2.1; have b2' := h2.2; have b3 := h3.1; have b3' := h3.2
  rw [show k + 4 = (k + 3) + 1 by omega, s0, if_pos (by simp), show k + 3 = (k + 2) + 1 by omega, s1]
  by_cases c1 : 1 < m
  · rw [if_pos c1, if_pos (by simp), show k + 2 = (k + 1) + 1 by omega, s2]
    by_cases c2 : 2 < m
    · rw [if_pos c2, if_pos (by simp), s3]
      refine ⟨_, rfl, by simp, by simp, ?_⟩
      intro x hx
      simp at hx
      omega
    · rw [if_neg c2]
      refine ⟨_, rfl, by simp, by simp, ?_⟩
      intro x hx
      simp at hx
      omega
  · rw [if_neg c1]
    refine ⟨_, rfl, by simp, by simp, ?_⟩
    intro x hx
    simp at hx
    omega
def greenC (c : S43) : Prop := clothOk c = true ∧ c.f0.f1 ≤ 600
theorem field_l0 (l0 : List S131) (h0 : ∀ v ∈ l0, G4 v) (a1 a2 a3 a4 : Int) (h1 : B8 a1) (h2 : B8 a2) (h3 : B8 a3) (h4 : B8 a4) (a5 : Int) (l6 : List S81) (g s : Int) : ∀ (d i k : Nat) (cl : List S43), i + d = 6 → 2 * d + 20 < k → cl.length ≤ i → (∀ c ∈ cl, greenC c) →
    ∃ (cl' : List S43) (fr : List Int), walkmilllaw05_Green_field.l0 k i l0 a1 a2 a3 a4 a5 l6 cl g s = some (cl', fr, g, s) ∧ cl'.length ≤ 6 ∧ (∀ c ∈ cl', greenC c) ∧ 1 ≤ fr.length ∧ fr.length ≤ 3 ∧ ∀ x ∈ fr, 60 ≤ x ∧ x ≤ 1335 := by
  have stop : ∀ (i k : Nat) (cl : List S43), i ≤ 6 → 12 < k → cl.length ≤ i → (∀ c ∈ cl, greenC c) →
      ∃ (cl' : List S43) (fr : List Int), walkmilllaw05_Green_field.j1 k i false l0 a1 a2 a3 a4 a5 l6 cl g s = some (cl', fr, g, s) ∧ cl'.length ≤ 6 ∧ (∀ c ∈ cl', greenC c) ∧ 1 ≤ fr.length ∧ fr.length ≤ 3 ∧ ∀ x ∈ fr, 60 ≤ x ∧ x ≤ 1335 := by
    intro i k cl hi hk hl hc
    obtain ⟨k, rfl⟩ : ∃ m, k = m + 1 := ⟨k - 1, by omega⟩
    obtain ⟨fr, e, f1, f2, f3⟩ := field_l1 a1 a2 a3 a4 h1 h2 h3 h4 l0 a5 l6 cl g s k (by omega)
    exact ⟨cl, fr, by rw [walkmilllaw05_Green_field.j1, if_neg (by simp)]; exact e, by omega, hc, f1, f2, f3⟩
  intro d
  induction d with
  | zero =>
    intro i k cl hd hk hl hc
    obtain ⟨k, rfl⟩ : ∃ m, k = m + 1 := ⟨k - 1, by omega⟩
    rw [walkmilllaw05_Green_field.l0]
    split
    · rw [show decide ((i : Int) < 6) = false by simp; omega]
      exact stop i k cl (by omega) (by omega) hl hc
    · exact stop i k cl (by omega) (by omega) hl hc
  | succ d ih =>
    intro i k cl hd hk hl hc
    obtain ⟨k, rfl⟩ : ∃ m, k = m + 2 := ⟨k - 2, by omega⟩
    rw [show k + 2 = (k + 1) + 1 by omega, walkmilllaw05_Green_field.l0]
    by_cases hlt : i < l0.length
    · have e : rd_T131 l0 (i : Int) = l0[i] := by unfold rd_T131; simp [List.getD_eq_getElem?_getD, List.getElem?_eq_getElem hlt]
      obtain ⟨⟨p0, p1⟩, ⟨q0, q1⟩, ⟨r0, r1⟩, ⟨t0, t1⟩⟩ := h0 l0[i] (List.getElem_mem _)
      rw [if_pos (by omega), show decide ((i : Int) < 6) = true by simp; omega, walkmilllaw05_Green_field.j1, if_pos rfl, if_pos (by omega), if_pos (by omega), e]
      have m1 := tmod_pos (a := l0[i].f1) (n := 14) q0 (by omega)
      have m2 := tmod_pos (a := l0[i].f3) (n := 20) t0 (by omega)
      rw [w64_of (n := l0[i].f0) (by omega) (by omega), w64_of (n := l0[i].f1) (by omega) (by omega), w64_of (n := l0[i].f2) (by omega) (by omega), w64_of (n := l0[i].f3) (by omega) (by omega),
        w64_of (n := 2 * l0[i].f0) (by omega) (by omega), w64_of (n := 40 + 2 * l0[i].f0) (by omega) (by omega), Int.tdiv_eq_ediv_of_nonneg r0, w64_of (n := l0[i].f2 / 2) (by omega) (by omega),
        w64_of (n := 40 + 2 * l0[i].f0 + _) (by omega) (by omega), w64_of (n := l0[i].f2 / 2 + _) (by omega) (by omega), span_eq, span_eq]
      simp only [Option.bind_some]
      rw [if_pos (by omega), nx i (by omega)]
      refine ih (i + 1) k _ (by omega) (by omega) (by simp; omega) ?_
      intro c hc'
      rcases List.mem_append.1 hc' with hc' | hc'
      · exact hc c hc'
      · obtain rfl := List.mem_singleton.1 hc'
        refine ⟨?_, by simp only; omega⟩
        unfold clothOk spanOk
        simp only [Bool.and_eq_true, isIn_iff, decide_eq_true_eq]
        omega
    · rw [if_neg (by omega)]
      exact stop i (k + 1) cl (by omega) (by omega) hl hc
theorem field_eq {l0 : List S131} (h0 : ∀ v ∈ l0, G4 v) {a1 a2 a3 a4 a5 : Int} (h1 : B8 a1) (h2 : B8 a2) (h3 : B8 a3) (h4 : B8 a4) (h5 : B8 a5) (l6 : List S81) (k : Nat) (hk : 40 < k) :
    ∃ (cl : List S43) (fr : List Int) (g s : Int), walkmilllaw05_Green_field.f k l0 a1 a2 a3 a4 a5 l6 = some (cl, fr, g, s) ∧ chk cl fr g s = 0 ∧ cl.length ≤ 6 := by
  unfold walkmilllaw05_Green_field.f
  obtain ⟨cl, fr, e, c1, c2, f1, f2, f3⟩ := field_l0 l0 h0 a1 a2 a3 a4 h1 h2 h3 h4 a5 l6 (Int.tmod (wrap64 a4) 30) (Int.tmod (wrap64 a5) 120) 6 0 k [] (by omega) (by omega) (by simp) (by simp)
  obtain ⟨u4, v4⟩ := h4
  obtain ⟨u5, v5⟩ := h5
  refine ⟨cl, fr, _, _, e, ?_, c1⟩
  rw [w64_of (n := a4) (by omega) (by omega), w64_of (n := a5) (by omega) (by omega)]
  have m4 := tmod_pos (a := a4) (n := 30) u4 (by omega)
  have m5 := tmod_pos (a := a5) (n := 120) u5 (by omega)
  unfold chk
  rw [if_neg (by omega), if_neg (by rw [show isIn 1 3 (fr.length : Int) = true from isIn_iff.2 (by omega)]; simp), if_pos]
  simp only [Bool.and_eq_true, List.all_eq_true, isIn_iff]
  exact ⟨⟨⟨fun c hc => (c2 c hc).1, fun x hx => by have := f3 x hx; omega⟩, by omega⟩, by omega⟩
def G2 (v : S81) : Prop := B8 v.f0 ∧ B8 v.f1
theorem spans_eq (l : List S36) (h : l.length ≤ 1000) : walkmilllaw05_spans.f l = some l := by
  unfold walkmilllaw05_spans.f
  simp only [Option.bind_some, List.nil_append, List.length_nil, Nat.zero_add]
  rw [if_pos (by omega)]
theorem weather_l (l0 : List S131) (a1 a2 a3 a4 a5 : Int) (l6 : List S81) (h6 : ∀ v ∈ l6, G2 v) : ∀ (d i k : Nat) (acc : List S36), i + d = 12 → 2 * d + 2 < k → acc.length = i → (∀ x ∈ acc, spanOk x.f0 x.f1 0 100 = true) →
    ∃ w : List S36, walkmilllaw05_Green_weather.l0 k acc i l0 a1 a2 a3 a4 a5 l6 = some w ∧ i ≤ w.length ∧ 1 ≤ w.length ∧ w.length ≤ 12 ∧ ∀ x ∈ w, spanOk x.f0 x.f1 0 100 = true := by
  have stop : ∀ (i k : Nat) (acc : List S36), 1 ≤ i → i ≤ 12 → 0 < k → acc.length = i → (∀ x ∈ acc, spanOk x.f0 x.f1 0 100 = true) →
      ∃ w : List S36, walkmilllaw05_Green_weather.j1 k acc i false l0 a1 a2 a3 a4 a5 l6 = some w ∧ i ≤ w.length ∧ 1 ≤ w.length ∧ w.length ≤ 12 ∧ ∀ x ∈ w, spanOk x.f0 x.f1 0 100 = true := by
    intro i k acc h1 hi hk hl ha
    obtain ⟨k, rfl⟩ : ∃ m, k = m + 1 := ⟨k - 1, by omega⟩
    exact ⟨acc, by rw [walkmilllaw05_Green_weather.j1, if_neg (by simp)], by omega, by omega, by omega, ha⟩
  intro d
  induction d with
  | zero =>
    intro i k acc hd hk hl ha
    obtain ⟨k, rfl⟩ : ∃ m, k = m + 1 := ⟨k - 1, by omega⟩
    rw [walkmilllaw05_Green_weather.l0, if_neg (by omega)]
    split
    · rw [show decide ((i : Int) < 12) = false by simp; omega]
      exact stop i k acc (by omega) (by omega) (by omega) hl ha
    · exact stop i k acc (by omega) (by omega) (by omega) hl ha
  | succ d ih =>
    intro i k acc hd hk hl ha
    obtain ⟨k, rfl⟩ : ∃ m, k = m + 2 := ⟨k - 2, by omega⟩
    have go : ∃ w : List S36, walkmilllaw05_Green_weather.j1 (k + 1) acc i true l0 a1 a2 a3 a4 a5 l6 = some w ∧ i ≤ w.length ∧ 1 ≤ w.length ∧ w.length ≤ 12 ∧ ∀ x ∈ w, spanOk x.f0 x.f1 0 100 = true := by
      have on : ∀ s : S36, spanOk s.f0 s.f1 0 100 = true → ∃ w : List S36, walkmilllaw05_Green_weather.l0 k (acc ++ [s]) (wrap64 ((i : Int) + 1)) l0 a1 a2 a3 a4 a5 l6 = some w ∧ i ≤ w.length ∧ 1 ≤ w.length ∧ w.length ≤ 12 ∧ ∀ x ∈ w, spanOk x.f0 x.f1 0 100 = true := by
        intro s hs
        rw [nx i (by omega)]
        obtain ⟨w, e, w1, w2, w3, w4⟩ := ih (i + 1) k (acc ++ [s]) (by omega) (by omega) (by simp; omega) (fun x hx => by
          rcases List.mem_append.1 hx with hx | hx
          · exact ha x hx
          · obtain rfl := List.mem_singleton.1 hx; exact hs)
        exact ⟨w, e, by omega, w2, w3, w4⟩
      rw [walkmilllaw05_Green_weather.j1, if_pos rfl]
      by_cases hlt : i < l6.length
      · have e : rd_T81 l6 (i : Int) = l6[i] := by unfold rd_T81; simp [List.getD_eq_getElem?_getD, List.getElem?_eq_getElem hlt]
        obtain ⟨⟨p0, p1⟩, ⟨q0, q1⟩⟩ := h6 l6[i] (List.getElem_mem _)
        have m1 := tmod_pos (a := l6[i].f0) (n := 60) p0 (by omega)
        have m2 := tmod_pos (a := l6[i].f1) (n := 30) q0 (by omega)
        rw [if_pos (by omega), if_pos (by omega), e, w64_of (n := l6[i].f0) (by omega) (by omega), w64_of (n := l6[i].f1) (by omega) (by omega), w64_of (n := _ + _) (by omega) (by omega), span_eq]
        simp only [Option.bind_some]
        rw [if_pos (by omega)]
        refine on _ ?_
        unfold spanOk
        simp only [Bool.and_eq_true, isIn_iff, decide_eq_true_eq]
        omega
      · rw [if_neg (by omega), span_eq]
        simp only [Option.bind_some]
        rw [if_pos (by omega)]
        exact on _ (by decide)
    rw [show k + 2 = (k + 1) + 1 by omega, walkmilllaw05_Green_weather.l0]
    by_cases hi0 : (i : Int) = 0
    · rw [if_pos hi0]; exact go
    rw [if_neg hi0]
    by_cases hlt : i < l6.length
    · rw [if_pos (by omega), show decide ((i : Int) < 12) = true by simp; omega]; exact go
    · rw [if_neg (by omega)]; exact stop i (k + 1) acc (by omega) (by omega) (by omega) hl ha
theorem weather_eq (l0 : List S131) (a1 a2 a3 a4 a5 : Int) {l6 : List S81} (h6 : ∀ v ∈ l6, G2 v) (k : Nat) (hk : 40 < k) :
    ∃ w : List S36, walkmilllaw05_Green_weather.f k l0 a1 a2 a3 a4 a5 l6 = some w ∧ 1 ≤ w.length ∧ w.length ≤ 12 ∧ ∀ x ∈ w, spanOk x.f0 x.f1 0 100 = true := by
  obtain ⟨w, e, _, w2, w3, w4⟩ := weather_l l0 a1 a2 a3 a4 a5 l6 h6 12 0 k [] (by omega) (by omega) rfl (by simp)
  exact ⟨w, e, w2, w3, w4⟩
theorem wx_zero {l0 : List S43} {l1 : List Int} {g s : Int} {w : List S36} (hc : chk l0 l1 g s = 0) (h1 : 1 ≤ w.length) (h2 : w.length ≤ 12) (h3 : ∀ x ∈ w, spanOk x.f0 x.f1 0 100 = true) {h : Int} (h4 : 0 ≤ h) (h5 : h ≤ (w.length : Int)) : wx l0 l1 g s w h = 0 := by
  unfold wx
  rw [if_pos hc, if_pos (isIn_iff.2 (by omega)), if_pos]
  simp only [Bool.and_eq_true, List.all_eq_true, isIn_iff]
  exact ⟨h3, h4, h5⟩
end Go.Proofs.YtikmfpjcdcckeaaGreatDoor.P
namespace Go.Proofs.YtikmfpjcdcckeaaGreatDoor.P
open Go.RowKit Go.Proofs.YtikmfpjcdcckeaaGreatDoorW.PrintWords Go.Proofs.YtikmfpjcdcckeaaGreatDoorW.PrintLast Go.Proofs.YtikmfpjcdcckeaaGreatDoorW.PrintMore
attribute [local go_sem] max2_int min2_int max_two min_two max_three min_three max_four min_four
def tenter_Need.l0 : Nat → Int → Int → Int → List (S43) → List Int → Int → Int → List (S36) → Option (Int × Int)
  | 0, _, _, _, _, _, _, _, _ => none
  | k + 1, x2, x23, x24, x115000, x115001, x115002, x115003, x115004 => if x24 < x23 then ((tenter_forecast_dry.f k x115000 x115001 x115002 x115003 x115004 x24 0).bind fun bt115 => (if bt115.2 > x2 then (some (x24, 0)) else (tenter_Need.l0 k x2 x23 (wrap64 (x24 + 1)) x115000 x115001 x115002 x115003 x115004))) else (some (0, 6))
def tenter_Need.f (k : Nat) (l0_0 : List (S43)) (l0_1 : List Int) (a0_2 : Int) (a0_3 : Int) (l1 : List (S36)) (a2 : Int) : Option (Int × Int) := (tenter_newForecast.f l0_0 l0_1 a0_2 a0_3 l1 a2).bind fun bt102 => (if bt102.2.2.2.2.2 = 0 then (tenter_Need.l0 k a2 (l0_0.length : Int) 0 bt102.1 bt102.2.1 bt102.2.2.1 bt102.2.2.2.1 bt102.2.2.2.2.1) else (some (0, bt102.2.2.2.2.2)))
theorem tenter_Need.mono_l : ∀ k, (∀ y0 y1 y2 y3 y4 y5 y6 y7, LeO (tenter_Need.l0 k y0 y1 y2 y3 y4 y5 y6 y7) (tenter_Need.l0 (k + 1) y0 y1 y2 y3 y4 y5 y6 y7))
  | 0 => fun _ _ _ _ _ _ _ _ r h => by simp [tenter_Need.l0] at h
  | k + 1 => by
    have ih0 := tenter_Need.mono_l k
    · intro y0 y1 y2 y3 y4 y5 y6 y7
      unfold tenter_Need.l0
      repeat' first
      | (with_reducible exact ih0 _ _ _ _ _ _ _ _)
      | (with_reducible exact tenter_forecast_dry.mono _ _ _ _ _ _ _ _)
      | (with_reducible exact LeO.refl _)
      | (with_reducible exact LeO.none _)
      | (with_reducible refine LeO.ite ?_ ?_)
      | (with_reducible refine LeO.bind ?_ (fun _ => ?_))
      | exact ih0 _ _ _ _ _ _ _ _
      | exact tenter_forecast_dry.mono _ _ _ _ _ _ _ _
      | exact LeO.none _
      | refine LeO.ite ?_ ?_
      | refine LeO.bind ?_ (fun _ => ?_)
theorem tenter_Need.mono : ∀ a0 a1 a2 a3 a4 a5 k, LeO (tenter_Need.f k a0 a1 a2 a3 a4 a5) (tenter_Need.f (k + 1) a0 a1 a2 a3 a4 a5) := by
  intro a0 a1 a2 a3 a4 a5 k
  have ih0 := tenter_Need.mono_l k
  unfold tenter_Need.f
  repeat' first
      | (with_reducible exact ih0 _ _ _ _ _ _ _ _)
      | (with_reducible exact tenter_forecast_dry.mono _ _ _ _ _ _ _ _)
      | (with_reducible exact LeO.refl _)
      | (with_reducible exact LeO.none _)
      | (with_reducible refine LeO.ite ?_ ?_)
      | (with_reducible refine LeO.bind ?_ (fun _ => ?_))
      | exact ih0 _ _ _ _ _ _ _ _
      | exact tenter_forecast_dry.mono _ _ _ _ _ _ _ _
      | exact LeO.none _
      | refine LeO.ite ?_ ?_
      | refine LeO.bind ?_ (fun _ => ?_)
set_option maxHeartbeats 8000000 in
set_option maxRecDepth 100000 in
theorem tenter_Need.calls (k : Nat) (A0_0 : Option Addr) (c0_0 : Nat) (l0_0 : List (S43)) (A0_1 : Option Addr) (c0_1 : Nat) (l0_1 : List Int) (a0_2 : Int) (a0_3 : Int) (A1 : Option Addr) (c1 : Nat) (l1 : List (S36)) (a2 : Int) (r1 : Int) (r2 : Int) (w : World) (hr0_0 : Kd.C k43 w A0_0 l0_0.length l0_0) (hc0_0 : l0_0.length ≤ c0_0) (hr0_1 : Kd.C (Kd.int .i64) w A0_1 l0_1.length l0_1) (hc0_1 : l0_1.length ≤ c0_1) (hr1 : Kd.C k36 w A1 l1.length l1) (hc1 : l1.length ≤ c1) (h : tenter_Need.f k l0_0 l0_1 a0_2 a0_3 l1 a2 = some (r1, r2)) :
    Calls Tryz.prog 38 #[.agg #[.slice A0_0 l0_0.length c0_0, .slice A0_1 l0_1.length c0_1, .int .i64 a0_2, .int .i64 a0_3], .slice A1 l1.length c1, .int .i64 a2] w fun e w' => e = .returned (.tuple #[.int .i64 r1, .int .i64 r2]) ∧ Below w.heap.size w w' := by
  have hfd36_1 : ∀ (x0_ x1_ : Value) (W_ : World), (Instr.field 36 (.agg #[x0_, x1_]) 1).run Tryz.prog W_ = .ok (x1_) W_ := fun _ _ _ => by kernel_rfl
  have hu25 := Tryz.underlying25
  have hu121 := Tryz.underlying121
  have HR0_0 := Aside0.mk hr0_0
  have HC0_0 := Aside0.mk hc0_0
  clear hr0_0 hc0_0
  have HR0_1 := Aside0.mk hr0_1
  have HC0_1 := Aside0.mk hc0_1
  clear hr0_1 hc0_1
  have HR1 := Aside0.mk hr1
  have HC1 := Aside0.mk hc1
  clear hr1 hc1
  have HB := Aside0.mk (Below.refl w.heap.size w)
  have H : ((tenter_newForecast.f l0_0 l0_1 a0_2 a0_3 l1 a2).bind fun bt102 => (if bt102.2.2.2.2.2 = 0 then (tenter_Need.l0 k a2 (l0_0.length : Int) 0 bt102.1 bt102.2.1 bt102.2.2.1 bt102.2.2.2.1 bt102.2.2.2.2.1) else (some (0, bt102.2.2.2.2.2)))) = some (r1, r2) := h
  clear h
  replace H := Option.bind_eq_some_iff.mp H
  obtain ⟨⟨t102, t105, t108, t109, t110, t113⟩, A40, H⟩ := H
  replace H : (if t113 = 0 then (tenter_Need.l0 k a2 (l0_0.length : Int) 0 t102 t105 t108 t109 t110) else (some (0, t113))) = some (r1, r2) := H
  have A4 := Aside0.mk A40
  clear A40
  by_cases c5 : t113 = 0
  · rw [if_pos c5] at H
    have c5b0 : (t113 == 0) = true := beq_iff_eq.mpr c5
    have c5b1 : (t113 != 0) = false := bne_eq_false_iff_eq.mpr c5
    clear c5
    have H' := Aside0.mk H
    clear H
    go_enter Tryz.func38, Tryz.ntmps38
    go_wp2_with (first | ((with_reducible refine gate_dst (N := 3) rfl ?_); refine box_event ?hg (N := 3) ?hd (cs := #[.slice A0_0 l0_0.length c0_0, .slice A0_1 l0_1.length c0_1, .int .i64 a0_2, .int .i64 a0_3]) (t := 25) ?hr ?_; (case hd => rfl); (case hg => rfl); (case hr => first | (go_simp; done) | (go_simp; rfl)); intro gb101 hg w6 hbox hb; have n0_ := Aside0.mk (below_step (by repeat (first | (with_reducible first | exact HB.out | apply below_alloc | apply pw_below_drewN | apply below_drew1) | exact HB.out)) hb); have n1_ := Aside0.mk (hbox); have n2_ := Aside0.mk ((by rw [hg]; exact (below_size (by repeat (first | (with_reducible first | exact HB.out | apply below_alloc | apply pw_below_drewN | apply below_drew1) | exact HB.out))) : w.heap.size ≤ gb101)); have n3_ := Aside0.mk ((by rw [hg]; exact (below_size (by repeat (first | (with_reducible first | exact HB.out | apply below_alloc | apply pw_below_drewN | apply below_drew1) | exact HB.out))) : w.heap.size ≤ gb101)); clear HB; have HB := n0_; have BK101 := n1_; have GW101 := n2_; have GE101 := n3_; clear n0_ n1_ n2_ n3_; clear hb hbox hg; have hcz7_0 : w6.cell? ⟨gb101, 0, none⟩ = some (.slice A0_0 l0_0.length c0_0) := (blk_cell BK101.out 0).trans rfl; have hcz7_1 : w6.cell? ⟨gb101, 1, none⟩ = some (.slice A0_1 l0_1.length c0_1) := (blk_cell BK101.out 1).trans rfl; have hcz7_2 : w6.cell? ⟨gb101, 2, none⟩ = some (.int .i64 a0_2) := (blk_cell BK101.out 2).trans rfl; have hcz7_3 : w6.cell? ⟨gb101, 3, none⟩ = some (.int .i64 a0_3) := (blk_cell BK101.out 3).trans rfl; have hfz7_0 := blk_frozen BK101.out 0; have hfz7_1 := blk_frozen BK101.out 1; have hfz7_2 := blk_frozen BK101.out 2; have hfz7_3 := blk_frozen BK101.out 3) | ((with_reducible refine gate_callee (f := 78) rfl ?_); refine goesL_ (some 15) rfl rfl Tryz.func78 (by kernel_rfl) rfl #[.agg #[.slice A0_0 l0_0.length c0_0, .slice A0_1 l0_1.length c0_1, .int .i64 a0_2, .int .i64 a0_3], .slice A1 l1.length c1, .int .i64 a2] rfl (by (try simp only [List.map_toArray, List.map_cons, List.map_nil]); first | done | rfl | (simp only [List.length_drop, List.length_take]; rfl)) ?_; (with_reducible refine (tenter_newForecast.calls (fun k_ => k_ < w.heap.size) _ _ l0_0 (fun k_ => k_ < w.heap.size) _ _ l0_1 a0_2 a0_3 (fun k_ => k_ < w.heap.size) _ _ l1 a2 t102 t105 t108 t109 t110 t113 _ ?side1 ?side2 ?side3 A4.out).mono ?_); (case side1 => exact Kd.V_mk HC0_0.out (Kd.F_below (Kd.C_F k43_heap HR0_0.out) (by repeat (first | (with_reducible first | exact HB.out | apply below_alloc | apply pw_below_drewN | apply below_drew1 | refine below_set ?_ GE101.out) | exact HB.out)))); (case side2 => exact Kd.V_mk HC0_1.out (Kd.F_below (Kd.C_F (Kd.heap_int .i64) HR0_1.out) (by repeat (first | (with_reducible first | exact HB.out | apply below_alloc | apply pw_below_drewN | apply below_drew1 | refine below_set ?_ GE101.out) | exact HB.out)))); (case side3 => exact Kd.V_mk HC1.out (Kd.F_below (Kd.C_F k36_heap HR1.out) (by repeat (first | (with_reducible first | exact HB.out | apply below_alloc | apply pw_below_drewN | apply below_drew1 | refine below_set ?_ GE101.out) | exact HB.out)))); rintro e w8 ⟨v103, v106, v111, rfl, ho0, ho1, ho2, hb⟩; refine ⟨_, rfl, ?_⟩; have n0_ := Aside0.mk (Kd.V_lower (Kd.V_mono (ok' := fun k_ => k_ ≠ gb101) ho0 (fun k_ hk_ => Or.elim hk_ (fun hs_ => Or.elim hs_ (fun hs_ => fun e_ => Nat.not_le.2 hs_ (by rw [e_]; exact GW101.out)) (fun hs_ => Or.elim hs_ (fun hs_ => fun e_ => Nat.not_le.2 hs_ (by rw [e_]; exact GW101.out)) (fun hs_ => fun e_ => Nat.not_le.2 hs_ (by rw [e_]; exact GW101.out)))) (fun hn_ => (Kd.freshB (g := gb101) (o := .cells #[.slice A0_0 l0_0.length c0_0, .slice A0_1 l0_1.length c0_1, .int .i64 a0_2, .int .i64 a0_3] 25 (0, 0)) (by (with_reducible repeat (first | refine blk_drewN ?_ _ | refine blk_drew ?_ | refine blk_alloc ?_ _)); exact BK101.out) k_ hn_)))) (below_size (by repeat (first | (with_reducible first | exact HB.out | apply below_alloc | apply pw_below_drewN | apply below_drew1 | refine below_set ?_ GE101.out) | exact HB.out)))); have n1_ := Aside0.mk (Kd.V_lower (Kd.V_mono (ok' := fun k_ => k_ ≠ gb101) ho1 (fun k_ hk_ => Or.elim hk_ (fun hs_ => Or.elim hs_ (fun hs_ => fun e_ => Nat.not_le.2 hs_ (by rw [e_]; exact GW101.out)) (fun hs_ => Or.elim hs_ (fun hs_ => fun e_ => Nat.not_le.2 hs_ (by rw [e_]; exact GW101.out)) (fun hs_ => fun e_ => Nat.not_le.2 hs_ (by rw [e_]; exact GW101.out)))) (fun hn_ => (Kd.freshB (g := gb101) (o := .cells #[.slice A0_0 l0_0.length c0_0, .slice A0_1 l0_1.length c0_1, .int .i64 a0_2, .int .i64 a0_3] 25 (0, 0)) (by (with_reducible repeat (first | refine blk_drewN ?_ _ | refine blk_drew ?_ | refine blk_alloc ?_ _)); exact BK101.out) k_ hn_)))) (below_size (by repeat (first | (with_reducible first | exact HB.out | apply below_alloc | apply pw_below_drewN | apply below_drew1 | refine below_set ?_ GE101.out) | exact HB.out)))); have n2_ := Aside0.mk (Kd.V_lower (Kd.V_mono (ok' := fun k_ => k_ ≠ gb101) ho2 (fun k_ hk_ => Or.elim hk_ (fun hs_ => Or.elim hs_ (fun hs_ => fun e_ => Nat.not_le.2 hs_ (by rw [e_]; exact GW101.out)) (fun hs_ => Or.elim hs_ (fun hs_ => fun e_ => Nat.not_le.2 hs_ (by rw [e_]; exact GW101.out)) (fun hs_ => fun e_ => Nat.not_le.2 hs_ (by rw [e_]; exact GW101.out)))) (fun hn_ => (Kd.freshB (g := gb101) (o := .cells #[.slice A0_0 l0_0.length c0_0, .slice A0_1 l0_1.length c0_1, .int .i64 a0_2, .int .i64 a0_3] 25 (0, 0)) (by (with_reducible repeat (first | refine blk_drewN ?_ _ | refine blk_drew ?_ | refine blk_alloc ?_ _)); exact BK101.out) k_ hn_)))) (below_size (by repeat (first | (with_reducible first | exact HB.out | apply below_alloc | apply pw_below_drewN | apply below_drew1 | refine below_set ?_ GE101.out) | exact HB.out)))); have n3_ := Aside0.mk (blk_below (g := gb101) (o := .cells #[.slice A0_0 l0_0.length c0_0, .slice A0_1 l0_1.length c0_1, .int .i64 a0_2, .int .i64 a0_3] 25 (0, 0)) (by (with_reducible repeat (first | refine blk_drewN ?_ _ | refine blk_drew ?_ | refine blk_alloc ?_ _)); exact BK101.out) hb); have n4_ := Aside0.mk (below_step (by repeat (first | (with_reducible first | exact HB.out | apply below_alloc | apply pw_below_drewN | apply below_drew1 | refine below_set ?_ GE101.out) | exact HB.out)) hb); clear BK101; clear HB; have HO104 := n0_; have HO107 := n1_; have HO112 := n2_; have BK101 := n3_; have HB := n4_; clear n0_ n1_ n2_ n3_ n4_; (try clear hb); (try clear hb2); (try clear hk); (try clear hi); (try clear ho0); (try clear ho1); (try clear ho2)) | ((with_reducible refine gate_dst (N := 8) rfl ?_); refine box_event ?hg (N := 8) ?hd (cs := #[.slice none 0 0, .slice none 0 0, .int .i64 0, .int .i64 0, .slice none 0 0]) (t := 121) ?hr ?_; (case hd => rfl); (case hg => rfl); (case hr => first | (go_simp; done) | (go_simp; rfl)); intro gb114 hg w9 hbox hb; have n0_ := Aside0.mk (Kd.V_below (Kd.V_elderB (by (with_reducible repeat (first | apply Kd.V_alloc | apply Kd.V_drewN | apply Kd.V_drew)); exact HO104.out) gb114 (Nat.le_of_eq hg.symm)) hb); have n1_ := Aside0.mk (Kd.V_below (Kd.V_elderB (by (with_reducible repeat (first | apply Kd.V_alloc | apply Kd.V_drewN | apply Kd.V_drew)); exact HO107.out) gb114 (Nat.le_of_eq hg.symm)) hb); have n2_ := Aside0.mk (Kd.V_below (Kd.V_elderB (by (with_reducible repeat (first | apply Kd.V_alloc | apply Kd.V_drewN | apply Kd.V_drew)); exact HO112.out) gb114 (Nat.le_of_eq hg.symm)) hb); have n3_ := Aside0.mk (blk_below (g := gb101) (o := .cells #[.slice A0_0 l0_0.length c0_0, .slice A0_1 l0_1.length c0_1, .int .i64 a0_2, .int .i64 a0_3] 25 (0, 0)) (by (with_reducible repeat (first | refine blk_drewN ?_ _ | refine blk_drew ?_ | refine blk_alloc ?_ _)); exact BK101.out) hb); have n4_ := Aside0.mk (below_step (by repeat (first | (with_reducible first | exact HB.out | apply below_alloc | apply pw_below_drewN | apply below_drew1 | refine below_set ?_ GE101.out) | exact HB.out)) hb); have n5_ := Aside0.mk (hbox); have n6_ := Aside0.mk ((by rw [hg]; exact (below_size (by repeat (first | (with_reducible first | exact HB.out | apply below_alloc | apply pw_below_drewN | apply below_drew1 | refine below_set ?_ GE101.out) | exact HB.out))) : w.heap.size ≤ gb114)); have n7_ := Aside0.mk ((by rw [hg]; exact (below_size (by repeat (first | (with_reducible first | exact HB.out | apply below_alloc | apply pw_below_drewN | apply below_drew1 | refine below_set ?_ GE101.out) | exact HB.out))) : w.heap.size ≤ gb114)); have n8_ := Aside0.mk ((by rw [hg]; exact Nat.ne_of_lt (blk_lt (g := gb101) (o := .cells #[.slice A0_0 l0_0.length c0_0, .slice A0_1 l0_1.length c0_1, .int .i64 a0_2, .int .i64 a0_3] 25 (0, 0)) (by (with_reducible repeat (first | refine blk_drewN ?_ _ | refine blk_drew ?_ | refine blk_alloc ?_ _)); exact BK101.out)) : gb101 ≠ gb114)); have n9_ := Aside0.mk ((by rw [hg]; exact Nat.ne_of_gt (blk_lt (g := gb101) (o := .cells #[.slice A0_0 l0_0.length c0_0, .slice A0_1 l0_1.length c0_1, .int .i64 a0_2, .int .i64 a0_3] 25 (0, 0)) (by (with_reducible repeat (first | refine blk_drewN ?_ _ | refine blk_drew ?_ | refine blk_alloc ?_ _)); exact BK101.out)) : gb114 ≠ gb101)); clear HO104; clear HO107; clear HO112; clear BK101; clear HB; have HO104 := n0_; have HO107 := n1_; have HO112 := n2_; have BK101 := n3_; have HB := n4_; have BK114 := n5_; have GW114 := n6_; have GE114 := n7_; have NB101_114 := n8_; have NB114_101 := n9_; clear n0_ n1_ n2_ n3_ n4_ n5_ n6_ n7_ n8_ n9_; clear hb hbox hg; obtain ⟨Ao10, co10, eo10⟩ := Kd.V_slice HO104.out; subst eo10; have hnb11 := NB114_101.out; have hnc11 := NB101_114.out; have hcz12_0 : w9.cell? ⟨gb114, 0, none⟩ = some (.slice none 0 0) := (blk_cell BK114.out 0).trans rfl; have hcz12_1 : w9.cell? ⟨gb114, 1, none⟩ = some (.slice none 0 0) := (blk_cell BK114.out 1).trans rfl; have hcz12_2 : w9.cell? ⟨gb114, 2, none⟩ = some (.int .i64 0) := (blk_cell BK114.out 2).trans rfl; have hcz12_3 : w9.cell? ⟨gb114, 3, none⟩ = some (.int .i64 0) := (blk_cell BK114.out 3).trans rfl; have hcz12_4 : w9.cell? ⟨gb114, 4, none⟩ = some (.slice none 0 0) := (blk_cell BK114.out 4).trans rfl; have hfz12_0 := blk_frozen BK114.out 0; have hfz12_1 := blk_frozen BK114.out 1; have hfz12_2 := blk_frozen BK114.out 2; have hfz12_3 := blk_frozen BK114.out 3; have hfz12_4 := blk_frozen BK114.out 4; obtain ⟨Ao13, co13, eo13⟩ := Kd.V_slice HO107.out; subst eo13; obtain ⟨Ao14, co14, eo14⟩ := Kd.V_slice HO112.out; subst eo14; have hcz15_0 : w9.cell? ⟨gb101, 0, none⟩ = some (.slice A0_0 l0_0.length c0_0) := (blk_cell BK101.out 0).trans rfl; have hcz15_1 : w9.cell? ⟨gb101, 1, none⟩ = some (.slice A0_1 l0_1.length c0_1) := (blk_cell BK101.out 1).trans rfl; have hcz15_2 : w9.cell? ⟨gb101, 2, none⟩ = some (.int .i64 a0_2) := (blk_cell BK101.out 2).trans rfl; have hcz15_3 : w9.cell? ⟨gb101, 3, none⟩ = some (.int .i64 a0_3) := (blk_cell BK101.out 3).trans rfl; have hfz15_0 := blk_frozen BK101.out 0; have hfz15_1 := blk_frozen BK101.out 1; have hfz15_2 := blk_frozen BK101.out 2; have hfz15_3 := blk_frozen BK101.out 3))
    go_loopg [24] k (fun kq v24 w' => ∃ (x24_1 : Int), v24 = .int .i64 x24_1 ∧ Aside0 (tenter_Need.l0 kq a2 (l0_0.length : Int) x24_1 t102 t105 t108 t109 t110 = some (r1, r2)) ∧ Aside0 (kq ≤ k) ∧ Aside0 (Kd.V k43 43 w' w.heap.size (fun k_ => k_ ≠ gb101 ∧ k_ ≠ gb114) (.slice Ao10 t102.length co10) t102) ∧ Aside0 (Kd.V (Kd.int .i64) 3 w' w.heap.size (fun k_ => k_ ≠ gb101 ∧ k_ ≠ gb114) (.slice Ao13 t105.length co13) t105) ∧ Aside0 (Kd.V k36 36 w' w.heap.size (fun k_ => k_ ≠ gb101 ∧ k_ ≠ gb114) (.slice Ao14 t110.length co14) t110) ∧ Aside0 (w'.heap[gb101]? = some (.cells #[(.slice A0_0 l0_0.length c0_0), (.slice A0_1 l0_1.length c0_1), .int .i64 a0_2, .int .i64 a0_3] 25 (0, 0))) ∧ Aside0 (w'.heap[gb114]? = some (.cells #[(.slice Ao10 t102.length co10), (.slice Ao13 t105.length co13), .int .i64 t108, .int .i64 t109, (.slice Ao14 t110.length co14)] 121 (0, 0))) ∧ Aside0 (Below w.heap.size w w'))
    case atStart => exact ⟨(0), (by first | rfl | (simp; done) | (simp [*]; done)), H', ⟨Nat.le_refl _⟩, ⟨by (with_reducible repeat (first | apply Kd.V_alloc | apply Kd.V_drewN | apply Kd.V_drew)); exact Kd.V_mono (Kd.V_far (p := ⟨gb114, 4, none⟩) (Kd.V_far (p := ⟨gb114, 3, none⟩) (Kd.V_far (p := ⟨gb114, 2, none⟩) (Kd.V_far (p := ⟨gb114, 1, none⟩) (Kd.V_far (p := ⟨gb114, 0, none⟩) (Kd.V_mono HO104.out (fun k_ hk => (⟨hk, hk.2⟩ : _ ∧ k_ ≠ gb114))) (fun _ hk => hk.2) (.slice Ao10 t102.length co10)) (fun _ hk => hk.2) (.slice Ao13 t105.length co13)) (fun _ hk => hk.2) (.int .i64 t108)) (fun _ hk => hk.2) (.int .i64 t109)) (fun _ hk => hk.2) (.slice Ao14 t110.length co14)) (fun _ hk => ⟨hk.1.1, hk.1.2⟩)⟩, ⟨by (with_reducible repeat (first | apply Kd.V_alloc | apply Kd.V_drewN | apply Kd.V_drew)); exact Kd.V_mono (Kd.V_far (p := ⟨gb114, 4, none⟩) (Kd.V_far (p := ⟨gb114, 3, none⟩) (Kd.V_far (p := ⟨gb114, 2, none⟩) (Kd.V_far (p := ⟨gb114, 1, none⟩) (Kd.V_far (p := ⟨gb114, 0, none⟩) (Kd.V_mono HO107.out (fun k_ hk => (⟨hk, hk.2⟩ : _ ∧ k_ ≠ gb114))) (fun _ hk => hk.2) (.slice Ao10 t102.length co10)) (fun _ hk => hk.2) (.slice Ao13 t105.length co13)) (fun _ hk => hk.2) (.int .i64 t108)) (fun _ hk => hk.2) (.int .i64 t109)) (fun _ hk => hk.2) (.slice Ao14 t110.length co14)) (fun _ hk => ⟨hk.1.1, hk.1.2⟩)⟩, ⟨by (with_reducible repeat (first | apply Kd.V_alloc | apply Kd.V_drewN | apply Kd.V_drew)); exact Kd.V_mono (Kd.V_far (p := ⟨gb114, 4, none⟩) (Kd.V_far (p := ⟨gb114, 3, none⟩) (Kd.V_far (p := ⟨gb114, 2, none⟩) (Kd.V_far (p := ⟨gb114, 1, none⟩) (Kd.V_far (p := ⟨gb114, 0, none⟩) (Kd.V_mono HO112.out (fun k_ hk => (⟨hk, hk.2⟩ : _ ∧ k_ ≠ gb114))) (fun _ hk => hk.2) (.slice Ao10 t102.length co10)) (fun _ hk => hk.2) (.slice Ao13 t105.length co13)) (fun _ hk => hk.2) (.int .i64 t108)) (fun _ hk => hk.2) (.int .i64 t109)) (fun _ hk => hk.2) (.slice Ao14 t110.length co14)) (fun _ hk => ⟨hk.1.1, hk.1.2⟩)⟩, ⟨by (with_reducible repeat (first | refine blk_drewN ?_ _ | refine blk_drew ?_ | refine blk_alloc ?_ _)); refine blk_far ?_ NB101_114.out _; (with_reducible repeat (first | refine blk_drewN ?_ _ | refine blk_drew ?_ | refine blk_alloc ?_ _)); refine blk_far ?_ NB101_114.out _; (with_reducible repeat (first | refine blk_drewN ?_ _ | refine blk_drew ?_ | refine blk_alloc ?_ _)); refine blk_far ?_ NB101_114.out _; (with_reducible repeat (first | refine blk_drewN ?_ _ | refine blk_drew ?_ | refine blk_alloc ?_ _)); refine blk_far ?_ NB101_114.out _; (with_reducible repeat (first | refine blk_drewN ?_ _ | refine blk_drew ?_ | refine blk_alloc ?_ _)); refine blk_far ?_ NB101_114.out _; (with_reducible repeat (first | refine blk_drewN ?_ _ | refine blk_drew ?_ | refine blk_alloc ?_ _)); exact BK101.out⟩, ⟨by (with_reducible repeat (first | refine blk_drewN ?_ _ | refine blk_drew ?_ | refine blk_alloc ?_ _)); refine blk_put (cs := #[.slice Ao10 t102.length co10, .slice Ao13 t105.length co13, .int .i64 t108, .int .i64 t109, .slice none 0 0]) ?_ 4 _ rfl; (with_reducible repeat (first | refine blk_drewN ?_ _ | refine blk_drew ?_ | refine blk_alloc ?_ _)); refine blk_put (cs := #[.slice Ao10 t102.length co10, .slice Ao13 t105.length co13, .int .i64 t108, .int .i64 0, .slice none 0 0]) ?_ 3 _ rfl; (with_reducible repeat (first | refine blk_drewN ?_ _ | refine blk_drew ?_ | refine blk_alloc ?_ _)); refine blk_put (cs := #[.slice Ao10 t102.length co10, .slice Ao13 t105.length co13, .int .i64 0, .int .i64 0, .slice none 0 0]) ?_ 2 _ rfl; (with_reducible repeat (first | refine blk_drewN ?_ _ | refine blk_drew ?_ | refine blk_alloc ?_ _)); refine blk_put (cs := #[.slice Ao10 t102.length co10, .slice none 0 0, .int .i64 0, .int .i64 0, .slice none 0 0]) ?_ 1 _ rfl; (with_reducible repeat (first | refine blk_drewN ?_ _ | refine blk_drew ?_ | refine blk_alloc ?_ _)); refine blk_put (cs := #[.slice none 0 0, .slice none 0 0, .int .i64 0, .int .i64 0, .slice none 0 0]) ?_ 0 _ rfl; (with_reducible repeat (first | refine blk_drewN ?_ _ | refine blk_drew ?_ | refine blk_alloc ?_ _)); exact BK114.out⟩, ⟨by repeat (first | (with_reducible first | exact HB.out | apply below_alloc | apply pw_below_drewN | apply below_drew1 | refine below_set ?_ GE101.out | refine below_set ?_ GE114.out) | exact HB.out)⟩⟩
    case round =>
      clear H'
      try clear c1
      try clear p2
      try clear c3
      try clear c5
      try clear c5b0
      try clear c5b1
      try clear c7
      try clear c11
      try clear hcz12_0
      try clear hcz12_1
      try clear hcz12_2
      try clear hcz12_3
      try clear hcz12_4
      try clear hcz15_0
      try clear hcz15_1
      try clear hcz15_2
      try clear hcz15_3
      try clear hcz7_0
      try clear hcz7_1
      try clear hcz7_2
      try clear hcz7_3
      try clear hfz12_0
      try clear hfz12_1
      try clear hfz12_2
      try clear hfz12_3
      try clear hfz12_4
      try clear hfz15_0
      try clear hfz15_1
      try clear hfz15_2
      try clear hfz15_3
      try clear hfz7_0
      try clear hfz7_1
      try clear hfz7_2
      try clear hfz7_3
      obtain ⟨x24_1, rfl, HA, HK1, HO_115000, HO_115001, HO_115004, BK101, BK114, HB⟩ := hrel
      cases gk with
      | zero => exact absurd HA.out (by simp [tenter_Need.l0])
      | succ k1 =>
        have H := HA.out
        clear HA
        simp only [tenter_Need.l0] at H
        by_cases c16 : x24_1 < (l0_0.length : Int)
        · rw [if_pos c16] at H
          have c16b0 : decide (x24_1 < (l0_0.length : Int)) = true := decide_eq_true c16
          clear c16
          replace H := Option.bind_eq_some_iff.mp H
          obtain ⟨⟨t115, t116⟩, A170, H⟩ := H
          replace H : (if t116 > a2 then (some (x24_1, 0)) else (tenter_Need.l0 k1 a2 (l0_0.length : Int) (wrap64 (x24_1 + 1)) t102 t105 t108 t109 t110)) = some (r1, r2) := H
          have A17 := Aside0.mk A170
          clear A170
          by_cases c18 : t116 > a2
          · rw [if_pos c18] at H
            have c18b0 : decide (a2 < t116) = true := decide_eq_true c18
            clear c18
            simp only [Option.some.injEq, Prod.mk.injEq] at H
            obtain ⟨rfl, rfl⟩ := H
            have hnb19 := NB114_101.out
            have hnc19 := NB101_114.out
            have hcz20_0 : wr.cell? ⟨gb114, 0, none⟩ = some (.slice Ao10 t102.length co10) := (blk_cell BK114.out 0).trans rfl
            have hcz20_1 : wr.cell? ⟨gb114, 1, none⟩ = some (.slice Ao13 t105.length co13) := (blk_cell BK114.out 1).trans rfl
            have hcz20_2 : wr.cell? ⟨gb114, 2, none⟩ = some (.int .i64 t108) := (blk_cell BK114.out 2).trans rfl
            have hcz20_3 : wr.cell? ⟨gb114, 3, none⟩ = some (.int .i64 t109) := (blk_cell BK114.out 3).trans rfl
            have hcz20_4 : wr.cell? ⟨gb114, 4, none⟩ = some (.slice Ao14 t110.length co14) := (blk_cell BK114.out 4).trans rfl
            have hfz20_0 := blk_frozen BK114.out 0
            have hfz20_1 := blk_frozen BK114.out 1
            have hfz20_2 := blk_frozen BK114.out 2
            have hfz20_3 := blk_frozen BK114.out 3
            have hfz20_4 := blk_frozen BK114.out 4
            go_wp2_with (first | ((with_reducible refine gate_callee (f := 79) rfl ?_); refine goesL_ (some 29) rfl rfl Tryz.func79 (by kernel_rfl) rfl #[.agg #[.slice Ao10 t102.length co10, .slice Ao13 t105.length co13, .int .i64 t108, .int .i64 t109, .slice Ao14 t110.length co14], .int .i64 x24_1, .int .i64 0] rfl (by (try simp only [List.map_toArray, List.map_cons, List.map_nil]); first | done | rfl | (simp only [List.length_drop, List.length_take]; rfl)) ?_; (with_reducible refine (tenter_forecast_dry.calls k1 _ _ t102 _ _ t105 t108 t109 _ _ t110 x24_1 0 t115 t116 _ ?side1 ?side2 ?side3 ?side4 ?side5 ?side6 A17.out).mono ?_); (case side1 => repeat (first | exact (Kd.V_reads' HO_115000.out).2.2 | (with_reducible refine Kd.C_alloc ?_ _) | (with_reducible refine Kd.C_drewN ?_ _) | (with_reducible refine Kd.C_drew ?_))); (case side2 => exact (Kd.V_reads' HO_115000.out).2.1); (case side3 => repeat (first | exact (Kd.V_reads' HO_115001.out).2.2 | (with_reducible refine Kd.C_alloc ?_ _) | (with_reducible refine Kd.C_drewN ?_ _) | (with_reducible refine Kd.C_drew ?_))); (case side4 => exact (Kd.V_reads' HO_115001.out).2.1); (case side5 => repeat (first | exact (Kd.V_reads' HO_115004.out).2.2 | (with_reducible refine Kd.C_alloc ?_ _) | (with_reducible refine Kd.C_drewN ?_ _) | (with_reducible refine Kd.C_drew ?_))); (case side6 => exact (Kd.V_reads' HO_115004.out).2.1); rintro e w21 ⟨rfl, hb⟩; refine ⟨_, rfl, ?_⟩; have n0_ := Aside0.mk (Kd.V_below (by (with_reducible repeat (first | apply Kd.V_alloc | apply Kd.V_drewN | apply Kd.V_drew)); exact HO_115000.out) hb); have n1_ := Aside0.mk (Kd.V_below (by (with_reducible repeat (first | apply Kd.V_alloc | apply Kd.V_drewN | apply Kd.V_drew)); exact HO_115001.out) hb); have n2_ := Aside0.mk (Kd.V_below (by (with_reducible repeat (first | apply Kd.V_alloc | apply Kd.V_drewN | apply Kd.V_drew)); exact HO_115004.out) hb); have n3_ := Aside0.mk (blk_below (g := gb101) (o := .cells #[.slice A0_0 l0_0.length c0_0, .slice A0_1 l0_1.length c0_1, .int .i64 a0_2, .int .i64 a0_3] 25 (0, 0)) (by (with_reducible repeat (first | refine blk_drewN ?_ _ | refine blk_drew ?_ | refine blk_alloc ?_ _)); exact BK101.out) hb); have n4_ := Aside0.mk (blk_below (g := gb114) (o := .cells #[.slice Ao10 t102.length co10, .slice Ao13 t105.length co13, .int .i64 t108, .int .i64 t109, .slice Ao14 t110.length co14] 121 (0, 0)) (by (with_reducible repeat (first | refine blk_drewN ?_ _ | refine blk_drew ?_ | refine blk_alloc ?_ _)); exact BK114.out) hb); have n5_ := Aside0.mk (below_step (by repeat (first | (with_reducible first | exact HB.out | apply below_alloc | apply pw_below_drewN | apply below_drew1 | refine below_set ?_ GE101.out | refine below_set ?_ GE114.out) | exact HB.out)) hb); clear HO_115000; clear HO_115001; clear HO_115004; clear BK101; clear BK114; clear HB; have HO_115000 := n0_; have HO_115001 := n1_; have HO_115004 := n2_; have BK101 := n3_; have BK114 := n4_; have HB := n5_; clear n0_ n1_ n2_ n3_ n4_ n5_; (try clear hb); (try clear hb2); (try clear hk); (try clear hi)))
            go_ret2
            exact ⟨by first | rfl | (simp [errW_none, errW_some] <;> rfl) | (simp [*, errW_none, errW_some] <;> rfl), by repeat (first | (with_reducible first | exact HB.out | apply below_alloc | apply pw_below_drewN | apply below_drew1 | refine below_set ?_ GE101.out | refine below_set ?_ GE114.out) | exact HB.out)⟩
          · rw [if_neg c18] at H
            have c18b0 : decide (a2 < t116) = false := decide_eq_false c18
            clear c18
            have H' := Aside0.mk H
            clear H
            have hnb22 := NB114_101.out
            have hnc22 := NB101_114.out
            have hcz23_0 : wr.cell? ⟨gb114, 0, none⟩ = some (.slice Ao10 t102.length co10) := (blk_cell BK114.out 0).trans rfl
            have hcz23_1 : wr.cell? ⟨gb114, 1, none⟩ = some (.slice Ao13 t105.length co13) := (blk_cell BK114.out 1).trans rfl
            have hcz23_2 : wr.cell? ⟨gb114, 2, none⟩ = some (.int .i64 t108) := (blk_cell BK114.out 2).trans rfl
            have hcz23_3 : wr.cell? ⟨gb114, 3, none⟩ = some (.int .i64 t109) := (blk_cell BK114.out 3).trans rfl
            have hcz23_4 : wr.cell? ⟨gb114, 4, none⟩ = some (.slice Ao14 t110.length co14) := (blk_cell BK114.out 4).trans rfl
            have hfz23_0 := blk_frozen BK114.out 0
            have hfz23_1 := blk_frozen BK114.out 1
            have hfz23_2 := blk_frozen BK114.out 2
            have hfz23_3 := blk_frozen BK114.out 3
            have hfz23_4 := blk_frozen BK114.out 4
            go_wp2_with (first | ((with_reducible refine gate_callee (f := 79) rfl ?_); refine goesL_ (some 29) rfl rfl Tryz.func79 (by kernel_rfl) rfl #[.agg #[.slice Ao10 t102.length co10, .slice Ao13 t105.length co13, .int .i64 t108, .int .i64 t109, .slice Ao14 t110.length co14], .int .i64 x24_1, .int .i64 0] rfl (by (try simp only [List.map_toArray, List.map_cons, List.map_nil]); first | done | rfl | (simp only [List.length_drop, List.length_take]; rfl)) ?_; (with_reducible refine (tenter_forecast_dry.calls k1 _ _ t102 _ _ t105 t108 t109 _ _ t110 x24_1 0 t115 t116 _ ?side1 ?side2 ?side3 ?side4 ?side5 ?side6 A17.out).mono ?_); (case side1 => repeat (first | exact (Kd.V_reads' HO_115000.out).2.2 | (with_reducible refine Kd.C_alloc ?_ _) | (with_reducible refine Kd.C_drewN ?_ _) | (with_reducible refine Kd.C_drew ?_))); (case side2 => exact (Kd.V_reads' HO_115000.out).2.1); (case side3 => repeat (first | exact (Kd.V_reads' HO_115001.out).2.2 | (with_reducible refine Kd.C_alloc ?_ _) | (with_reducible refine Kd.C_drewN ?_ _) | (with_reducible refine Kd.C_drew ?_))); (case side4 => exact (Kd.V_reads' HO_115001.out).2.1); (case side5 => repeat (first | exact (Kd.V_reads' HO_115004.out).2.2 | (with_reducible refine Kd.C_alloc ?_ _) | (with_reducible refine Kd.C_drewN ?_ _) | (with_reducible refine Kd.C_drew ?_))); (case side6 => exact (Kd.V_reads' HO_115004.out).2.1); rintro e w24 ⟨rfl, hb⟩; refine ⟨_, rfl, ?_⟩; have n0_ := Aside0.mk (Kd.V_below (by (with_reducible repeat (first | apply Kd.V_alloc | apply Kd.V_drewN | apply Kd.V_drew)); exact HO_115000.out) hb); have n1_ := Aside0.mk (Kd.V_below (by (with_reducible repeat (first | apply Kd.V_alloc | apply Kd.V_drewN | apply Kd.V_drew)); exact HO_115001.out) hb); have n2_ := Aside0.mk (Kd.V_below (by (with_reducible repeat (first | apply Kd.V_alloc | apply Kd.V_drewN | apply Kd.V_drew)); exact HO_115004.out) hb); have n3_ := Aside0.mk (blk_below (g := gb101) (o := .cells #[.slice A0_0 l0_0.length c0_0, .slice A0_1 l0_1.length c0_1, .int .i64 a0_2, .int .i64 a0_3] 25 (0, 0)) (by (with_reducible repeat (first | refine blk_drewN ?_ _ | refine blk_drew ?_ | refine blk_alloc ?_ _)); exact BK101.out) hb); have n4_ := Aside0.mk (blk_below (g := gb114) (o := .cells #[.slice Ao10 t102.length co10, .slice Ao13 t105.length co13, .int .i64 t108, .int .i64 t109, .slice Ao14 t110.length co14] 121 (0, 0)) (by (with_reducible repeat (first | refine blk_drewN ?_ _ | refine blk_drew ?_ | refine blk_alloc ?_ _)); exact BK114.out) hb); have n5_ := Aside0.mk (below_step (by repeat (first | (with_reducible first | exact HB.out | apply below_alloc | apply pw_below_drewN | apply below_drew1 | refine below_set ?_ GE101.out | refine below_set ?_ GE114.out) | exact HB.out)) hb); clear HO_115000; clear HO_115001; clear HO_115004; clear BK101; clear BK114; clear HB; have HO_115000 := n0_; have HO_115001 := n1_; have HO_115004 := n2_; have BK101 := n3_; have BK114 := n4_; have HB := n5_; clear n0_ n1_ n2_ n3_ n4_ n5_; (try clear hb); (try clear hb2); (try clear hk); (try clear hi)))
            go_roundg k1
            case measure => have := HK1.out; omega
            case rel => exact ⟨(wrap64 (x24_1 + 1)), (by first | rfl | (simp; done) | (simp [*]; done)), H', ⟨by have := HK1.out; omega⟩, ⟨by (with_reducible repeat (first | apply Kd.V_alloc | apply Kd.V_drewN | apply Kd.V_drew)); exact HO_115000.out⟩, ⟨by (with_reducible repeat (first | apply Kd.V_alloc | apply Kd.V_drewN | apply Kd.V_drew)); exact HO_115001.out⟩, ⟨by (with_reducible repeat (first | apply Kd.V_alloc | apply Kd.V_drewN | apply Kd.V_drew)); exact HO_115004.out⟩, ⟨by (with_reducible repeat (first | refine blk_drewN ?_ _ | refine blk_drew ?_ | refine blk_alloc ?_ _)); exact BK101.out⟩, ⟨by (with_reducible repeat (first | refine blk_drewN ?_ _ | refine blk_drew ?_ | refine blk_alloc ?_ _)); exact BK114.out⟩, ⟨by repeat (first | (with_reducible first | exact HB.out | apply below_alloc | apply pw_below_drewN | apply below_drew1 | refine below_set ?_ GE101.out | refine below_set ?_ GE114.out) | exact HB.out)⟩⟩
        · rw [if_neg c16] at H
          have c16b0 : decide (x24_1 < (l0_0.length : Int)) = false := decide_eq_false c16
          clear c16
          simp only [Option.some.injEq, Prod.mk.injEq] at H
          obtain ⟨rfl, rfl⟩ := H
          go_wp2
          go_ret2
          exact ⟨by first | rfl | (simp [errW_none, errW_some] <;> rfl) | (simp [*, errW_none, errW_some] <;> rfl), by repeat (first | (with_reducible first | exact HB.out | apply below_alloc | apply pw_below_drewN | apply below_drew1 | refine below_set ?_ GE101.out | refine below_set ?_ GE114.out) | exact HB.out)⟩
  · rw [if_neg c5] at H
    have c5b0 : (t113 == 0) = false := beq_eq_false_iff_ne.mpr c5
    have c5b1 : (t113 != 0) = true := bne_iff_ne.mpr c5
    simp only [Option.some.injEq, Prod.mk.injEq] at H
    obtain ⟨rfl, rfl⟩ := H
    go_enter Tryz.func38, Tryz.ntmps38
    go_wp2_with (first | ((with_reducible refine gate_dst (N := 3) rfl ?_); refine box_event ?hg (N := 3) ?hd (cs := #[.slice A0_0 l0_0.length c0_0, .slice A0_1 l0_1.length c0_1, .int .i64 a0_2, .int .i64 a0_3]) (t := 25) ?hr ?_; (case hd => rfl); (case hg => rfl); (case hr => first | (go_simp; done) | (go_simp; rfl)); intro gb101 hg w25 hbox hb; have n0_ := Aside0.mk (below_step (by repeat (first | (with_reducible first | exact HB.out | apply below_alloc | apply pw_below_drewN | apply below_drew1) | exact HB.out)) hb); have n1_ := Aside0.mk (hbox); have n2_ := Aside0.mk ((by rw [hg]; exact (below_size (by repeat (first | (with_reducible first | exact HB.out | apply below_alloc | apply pw_below_drewN | apply below_drew1) | exact HB.out))) : w.heap.size ≤ gb101)); have n3_ := Aside0.mk ((by rw [hg]; exact (below_size (by repeat (first | (with_reducible first | exact HB.out | apply below_alloc | apply pw_below_drewN | apply below_drew1) | exact HB.out))) : w.heap.size ≤ gb101)); clear HB; have HB := n0_; have BK101 := n1_; have GW101 := n2_; have GE101 := n3_; clear n0_ n1_ n2_ n3_; clear hb hbox hg; have hcz26_0 : w25.cell? ⟨gb101, 0, none⟩ = some (.slice A0_0 l0_0.length c0_0) := (blk_cell BK101.out 0).trans rfl; have hcz26_1 : w25.cell? ⟨gb101, 1, none⟩ = some (.slice A0_1 l0_1.length c0_1) := (blk_cell BK101.out 1).trans rfl; have hcz26_2 : w25.cell? ⟨gb101, 2, none⟩ = some (.int .i64 a0_2) := (blk_cell BK101.out 2).trans rfl; have hcz26_3 : w25.cell? ⟨gb101, 3, none⟩ = some (.int .i64 a0_3) := (blk_cell BK101.out 3).trans rfl; have hfz26_0 := blk_frozen BK101.out 0; have hfz26_1 := blk_frozen BK101.out 1; have hfz26_2 := blk_frozen BK101.out 2; have hfz26_3 := blk_frozen BK101.out 3) | ((with_reducible refine gate_callee (f := 78) rfl ?_); refine goesL_ (some 15) rfl rfl Tryz.func78 (by kernel_rfl) rfl #[.agg #[.slice A0_0 l0_0.length c0_0, .slice A0_1 l0_1.length c0_1, .int .i64 a0_2, .int .i64 a0_3], .slice A1 l1.length c1, .int .i64 a2] rfl (by (try simp only [List.map_toArray, List.map_cons, List.map_nil]); first | done | rfl | (simp only [List.length_drop, List.length_take]; rfl)) ?_; (with_reducible refine (tenter_newForecast.calls (fun k_ => k_ < w.heap.size) _ _ l0_0 (fun k_ => k_ < w.heap.size) _ _ l0_1 a0_2 a0_3 (fun k_ => k_ < w.heap.size) _ _ l1 a2 t102 t105 t108 t109 t110 t113 _ ?side1 ?side2 ?side3 A4.out).mono ?_); (case side1 => exact Kd.V_mk HC0_0.out (Kd.F_below (Kd.C_F k43_heap HR0_0.out) (by repeat (first | (with_reducible first | exact HB.out | apply below_alloc | apply pw_below_drewN | apply below_drew1 | refine below_set ?_ GE101.out) | exact HB.out)))); (case side2 => exact Kd.V_mk HC0_1.out (Kd.F_below (Kd.C_F (Kd.heap_int .i64) HR0_1.out) (by repeat (first | (with_reducible first | exact HB.out | apply below_alloc | apply pw_below_drewN | apply below_drew1 | refine below_set ?_ GE101.out) | exact HB.out)))); (case side3 => exact Kd.V_mk HC1.out (Kd.F_below (Kd.C_F k36_heap HR1.out) (by repeat (first | (with_reducible first | exact HB.out | apply below_alloc | apply pw_below_drewN | apply below_drew1 | refine below_set ?_ GE101.out) | exact HB.out)))); rintro e w27 ⟨v103, v106, v111, rfl, ho0, ho1, ho2, hb⟩; refine ⟨_, rfl, ?_⟩; have n0_ := Aside0.mk (Kd.V_lower (Kd.V_mono (ok' := fun k_ => k_ ≠ gb101) ho0 (fun k_ hk_ => Or.elim hk_ (fun hs_ => Or.elim hs_ (fun hs_ => fun e_ => Nat.not_le.2 hs_ (by rw [e_]; exact GW101.out)) (fun hs_ => Or.elim hs_ (fun hs_ => fun e_ => Nat.not_le.2 hs_ (by rw [e_]; exact GW101.out)) (fun hs_ => fun e_ => Nat.not_le.2 hs_ (by rw [e_]; exact GW101.out)))) (fun hn_ => (Kd.freshB (g := gb101) (o := .cells #[.slice A0_0 l0_0.length c0_0, .slice A0_1 l0_1.length c0_1, .int .i64 a0_2, .int .i64 a0_3] 25 (0, 0)) (by (with_reducible repeat (first | refine blk_drewN ?_ _ | refine blk_drew ?_ | refine blk_alloc ?_ _)); exact BK101.out) k_ hn_)))) (below_size (by repeat (first | (with_reducible first | exact HB.out | apply below_alloc | apply pw_below_drewN | apply below_drew1 | refine below_set ?_ GE101.out) | exact HB.out)))); have n1_ := Aside0.mk (Kd.V_lower (Kd.V_mono (ok' := fun k_ => k_ ≠ gb101) ho1 (fun k_ hk_ => Or.elim hk_ (fun hs_ => Or.elim hs_ (fun hs_ => fun e_ => Nat.not_le.2 hs_ (by rw [e_]; exact GW101.out)) (fun hs_ => Or.elim hs_ (fun hs_ => fun e_ => Nat.not_le.2 hs_ (by rw [e_]; exact GW101.out)) (fun hs_ => fun e_ => Nat.not_le.2 hs_ (by rw [e_]; exact GW101.out)))) (fun hn_ => (Kd.freshB (g := gb101) (o := .cells #[.slice A0_0 l0_0.length c0_0, .slice A0_1 l0_1.length c0_1, .int .i64 a0_2, .int .i64 a0_3] 25 (0, 0)) (by (with_reducible repeat (first | refine blk_drewN ?_ _ | refine blk_drew ?_ | refine blk_alloc ?_ _)); exact BK101.out) k_ hn_)))) (below_size (by repeat (first | (with_reducible first | exact HB.out | apply below_alloc | apply pw_below_drewN | apply below_drew1 | refine below_set ?_ GE101.out) | exact HB.out)))); have n2_ := Aside0.mk (Kd.V_lower (Kd.V_mono (ok' := fun k_ => k_ ≠ gb101) ho2 (fun k_ hk_ => Or.elim hk_ (fun hs_ => Or.elim hs_ (fun hs_ => fun e_ => Nat.not_le.2 hs_ (by rw [e_]; exact GW101.out)) (fun hs_ => Or.elim hs_ (fun hs_ => fun e_ => Nat.not_le.2 hs_ (by rw [e_]; exact GW101.out)) (fun hs_ => fun e_ => Nat.not_le.2 hs_ (by rw [e_]; exact GW101.out)))) (fun hn_ => (Kd.freshB (g := gb101) (o := .cells #[.slice A0_0 l0_0.length c0_0, .slice A0_1 l0_1.length c0_1, .int .i64 a0_2, .int .i64 a0_3] 25 (0, 0)) (by (with_reducible repeat (first | refine blk_drewN ?_ _ | refine blk_drew ?_ | refine blk_alloc ?_ _)); exact BK101.out) k_ hn_)))) (below_size (by repeat (first | (with_reducible first | exact HB.out | apply below_alloc | apply pw_below_drewN | apply below_drew1 | refine below_set ?_ GE101.out) | exact HB.out)))); have n3_ := Aside0.mk (blk_below (g := gb101) (o := .cells #[.slice A0_0 l0_0.length c0_0, .slice A0_1 l0_1.length c0_1, .int .i64 a0_2, .int .i64 a0_3] 25 (0, 0)) (by (with_reducible repeat (first | refine blk_drewN ?_ _ | refine blk_drew ?_ | refine blk_alloc ?_ _)); exact BK101.out) hb); have n4_ := Aside0.mk (below_step (by repeat (first | (with_reducible first | exact HB.out | apply below_alloc | apply pw_below_drewN | apply below_drew1 | refine below_set ?_ GE101.out) | exact HB.out)) hb); clear BK101; clear HB; have HO104 := n0_; have HO107 := n1_; have HO112 := n2_; have BK101 := n3_; have HB := n4_; clear n0_ n1_ n2_ n3_ n4_; (try clear hb); (try clear hb2); (try clear hk); (try clear hi); (try clear ho0); (try clear ho1); (try clear ho2)) | ((with_reducible refine gate_dst (N := 8) rfl ?_); refine box_event ?hg (N := 8) ?hd (cs := #[.slice none 0 0, .slice none 0 0, .int .i64 0, .int .i64 0, .slice none 0 0]) (t := 121) ?hr ?_; (case hd => rfl); (case hg => rfl); (case hr => first | (go_simp; done) | (go_simp; rfl)); intro gb114 hg w28 hbox hb; have n0_ := Aside0.mk (Kd.V_below (Kd.V_elderB (by (with_reducible repeat (first | apply Kd.V_alloc | apply Kd.V_drewN | apply Kd.V_drew)); exact HO104.out) gb114 (Nat.le_of_eq hg.symm)) hb); have n1_ := Aside0.mk (Kd.V_below (Kd.V_elderB (by (with_reducible repeat (first | apply Kd.V_alloc | apply Kd.V_drewN | apply Kd.V_drew)); exact HO107.out) gb114 (Nat.le_of_eq hg.symm)) hb); have n2_ := Aside0.mk (Kd.V_below (Kd.V_elderB (by (with_reducible repeat (first | apply Kd.V_alloc | apply Kd.V_drewN | apply Kd.V_drew)); exact HO112.out) gb114 (Nat.le_of_eq hg.symm)) hb); have n3_ := Aside0.mk (blk_below (g := gb101) (o := .cells #[.slice A0_0 l0_0.length c0_0, .slice A0_1 l0_1.length c0_1, .int .i64 a0_2, .int .i64 a0_3] 25 (0, 0)) (by (with_reducible repeat (first | refine blk_drewN ?_ _ | refine blk_drew ?_ | refine blk_alloc ?_ _)); exact BK101.out) hb); have n4_ := Aside0.mk (below_step (by repeat (first | (with_reducible first | exact HB.out | apply below_alloc | apply pw_below_drewN | apply below_drew1 | refine below_set ?_ GE101.out) | exact HB.out)) hb); have n5_ := Aside0.mk (hbox); have n6_ := Aside0.mk ((by rw [hg]; exact (below_size (by repeat (first | (with_reducible first | exact HB.out | apply below_alloc | apply pw_below_drewN | apply below_drew1 | refine below_set ?_ GE101.out) | exact HB.out))) : w.heap.size ≤ gb114)); have n7_ := Aside0.mk ((by rw [hg]; exact (below_size (by repeat (first | (with_reducible first | exact HB.out | apply below_alloc | apply pw_below_drewN | apply below_drew1 | refine below_set ?_ GE101.out) | exact HB.out))) : w.heap.size ≤ gb114)); have n8_ := Aside0.mk ((by rw [hg]; exact Nat.ne_of_lt (blk_lt (g := gb101) (o := .cells #[.slice A0_0 l0_0.length c0_0, .slice A0_1 l0_1.length c0_1, .int .i64 a0_2, .int .i64 a0_3] 25 (0, 0)) (by (with_reducible repeat (first | refine blk_drewN ?_ _ | refine blk_drew ?_ | refine blk_alloc ?_ _)); exact BK101.out)) : gb101 ≠ gb114)); have n9_ := Aside0.mk ((by rw [hg]; exact Nat.ne_of_gt (blk_lt (g := gb101) (o := .cells #[.slice A0_0 l0_0.length c0_0, .slice A0_1 l0_1.length c0_1, .int .i64 a0_2, .int .i64 a0_3] 25 (0, 0)) (by (with_reducible repeat (first | refine blk_drewN ?_ _ | refine blk_drew ?_ | refine blk_alloc ?_ _)); exact BK101.out)) : gb114 ≠ gb101)); clear HO104; clear HO107; clear HO112; clear BK101; clear HB; have HO104 := n0_; have HO107 := n1_; have HO112 := n2_; have BK101 := n3_; have HB := n4_; have BK114 := n5_; have GW114 := n6_; have GE114 := n7_; have NB101_114 := n8_; have NB114_101 := n9_; clear n0_ n1_ n2_ n3_ n4_ n5_ n6_ n7_ n8_ n9_; clear hb hbox hg; obtain ⟨Ao29, co29, eo29⟩ := Kd.V_slice HO104.out; subst eo29; have hnb30 := NB114_101.out; have hnc30 := NB101_114.out; have hcz31_0 : w28.cell? ⟨gb114, 0, none⟩ = some (.slice none 0 0) := (blk_cell BK114.out 0).trans rfl; have hcz31_1 : w28.cell? ⟨gb114, 1, none⟩ = some (.slice none 0 0) := (blk_cell BK114.out 1).trans rfl; have hcz31_2 : w28.cell? ⟨gb114, 2, none⟩ = some (.int .i64 0) := (blk_cell BK114.out 2).trans rfl; have hcz31_3 : w28.cell? ⟨gb114, 3, none⟩ = some (.int .i64 0) := (blk_cell BK114.out 3).trans rfl; have hcz31_4 : w28.cell? ⟨gb114, 4, none⟩ = some (.slice none 0 0) := (blk_cell BK114.out 4).trans rfl; have hfz31_0 := blk_frozen BK114.out 0; have hfz31_1 := blk_frozen BK114.out 1; have hfz31_2 := blk_frozen BK114.out 2; have hfz31_3 := blk_frozen BK114.out 3; have hfz31_4 := blk_frozen BK114.out 4; obtain ⟨Ao32, co32, eo32⟩ := Kd.V_slice HO107.out; subst eo32; obtain ⟨Ao33, co33, eo33⟩ := Kd.V_slice HO112.out; subst eo33))
    go_ret2
    exact ⟨by first | rfl | (simp [errW_none, errW_some] <;> rfl) | (simp [*, errW_none, errW_some] <;> rfl), by repeat (first | (with_reducible first | exact HB.out | apply below_alloc | apply pw_below_drewN | apply below_drew1 | refine below_set ?_ GE101.out | refine below_set ?_ GE114.out) | exact HB.out)⟩
mutual
def walkmilllaw05_dried.l0 : Nat → List (S36) → Int → List Int → Int → Int → Option (Int)
  | 0, _, _, _, _, _ => none
  | k + 1, x0, x2, x3, x9, x10 => if x10 < x2 then (walkmilllaw05_dried.j1 k x0 x2 x3 x9 x10 (decide (x10 < (x0.length : Int)))) else (walkmilllaw05_dried.j1 k x0 x2 x3 x9 x10 false)
def walkmilllaw05_dried.j1 : Nat → List (S36) → Int → List Int → Int → Int → Bool → Option (Int)
  | 0, _, _, _, _, _, _ => none
  | k + 1, x0, x2, x3, x9, x10, x20 => if x20 = true then (if 0 ≤ x10 then (if x10 < (x0.length : Int) then ((walkmilllaw05_byteOf.f x3 x10).bind fun t102 => ((walkmilllaw05_inside.f ((rd_T36 x0 x10).f0) ((rd_T36 x0 x10).f1) t102).bind fun t103 => (walkmilllaw05_dried.l0 k x0 x2 x3 (wrap64 (x9 + t103)) (wrap64 (x10 + 1))))) else (none)) else (none)) else (some x9)
end
def walkmilllaw05_dried.f (k : Nat) (l0 : List (S36)) (a1 : Int) (a2 : Int) (l3 : List Int) : Option (Int) := walkmilllaw05_dried.l0 k l0 a2 l3 0 a1
theorem walkmilllaw05_dried.mono_l : ∀ k, (∀ y0 y1 y2 y3 y4, LeO (walkmilllaw05_dried.l0 k y0 y1 y2 y3 y4) (walkmilllaw05_dried.l0 (k + 1) y0 y1 y2 y3 y4)) ∧ (∀ y0 y1 y2 y3 y4 y5, LeO (walkmilllaw05_dried.j1 k y0 y1 y2 y3 y4 y5) (walkmilllaw05_dried.j1 (k + 1) y0 y1 y2 y3 y4 y5))
  | 0 => ⟨fun _ _ _ _ _ r h => by simp [walkmilllaw05_dried.l0] at h, fun _ _ _ _ _ _ r h => by simp [walkmilllaw05_dried.j1] at h⟩
  | k + 1 => by
    obtain ⟨ih0, ih1⟩ := walkmilllaw05_dried.mono_l k
    refine ⟨?_, ?_⟩
    · intro y0 y1 y2 y3 y4
      unfold walkmilllaw05_dried.l0
      repeat' first
      | (with_reducible exact ih0 _ _ _ _ _)
      | (with_reducible exact ih1 _ _ _ _ _ _)
      | (with_reducible exact LeO.refl _)
      | (with_reducible exact LeO.none _)
      | (with_reducible refine LeO.ite ?_ ?_)
      | (with_reducible refine LeO.bind ?_ (fun _ => ?_))
      | exact ih0 _ _ _ _ _
      | exact ih1 _ _ _ _ _ _
      | exact LeO.none _
      | refine LeO.ite ?_ ?_
      | refine LeO.bind ?_ (fun _ => ?_)
    · intro y0 y1 y2 y3 y4 y5
      unfold walkmilllaw05_dried.j1
      repeat' first
      | (with_reducible exact ih0 _ _ _ _ _)
      | (with_reducible exact ih1 _ _ _ _ _ _)
      | (with_reducible exact LeO.refl _)
      | (with_reducible exact LeO.none _)
      | (with_reducible refine LeO.ite ?_ ?_)
      | (with_reducible refine LeO.bind ?_ (fun _ => ?_))
      | exact ih0 _ _ _ _ _
      | exact ih1 _ _ _ _ _ _
      | exact LeO.none _
      | refine LeO.ite ?_ ?_
      | refine LeO.bind ?_ (fun _ => ?_)
theorem walkmilllaw05_dried.mono : ∀ a0 a1 a2 a3 k, LeO (walkmilllaw05_dried.f k a0 a1 a2 a3) (walkmilllaw05_dried.f (k + 1) a0 a1 a2 a3) := by
  intro a0 a1 a2 a3 k
  obtain ⟨ih0, ih1⟩ := walkmilllaw05_dried.mono_l k
  unfold walkmilllaw05_dried.f
  repeat' first
      | (with_reducible exact ih0 _ _ _ _ _)
      | (with_reducible exact ih1 _ _ _ _ _ _)
      | (with_reducible exact LeO.refl _)
      | (with_reducible exact LeO.none _)
      | (with_reducible refine LeO.ite ?_ ?_)
      | (with_reducible refine LeO.bind ?_ (fun _ => ?_))
      | exact ih0 _ _ _ _ _
      | exact ih1 _ _ _ _ _ _
      | exact LeO.none _
      | refine LeO.ite ?_ ?_
      | refine LeO.bind ?_ (fun _ => ?_)
def walkmilllaw05_dried.T5 : Bool × List (List Nat × List Nat) := (true, [([], []), ([], []), ([], []), ([1, 2], [1, 2]), ([3], [3]), ([], []), ([], []), ([5, 6], [5, 6]), ([4, 7, 7], [4, 7]), ([0, 8], [0, 8]), ([9, 8, 0, 1, 2, 3, 4, 5, 6, 7, 8, 9], [0, 9])])
def walkmilllaw05_dried.B5 : List Nat := [0, 0, 0, 6, 14, 0, 0, 96, 254, 511, 1023]
theorem walkmilllaw05_dried.tab5 : rtab .any (opsOf Tryz.f49 5) = walkmilllaw05_dried.T5 := by kernel_rfl
theorem walkmilllaw05_dried.bits5 : waitsOk walkmilllaw05_dried.T5.2 walkmilllaw05_dried.B5 = true := by kernel_rfl
set_option maxHeartbeats 8000000 in
set_option maxRecDepth 100000 in
theorem walkmilllaw05_dried.calls (k : Nat) (A0 : Option Addr) (c0 : Nat) (l0 : List (S36)) (a1 : Int) (a2 : Int) (A3 : Option Addr) (c3 : Nat) (l3 : List Int) (r : Int) (w : World) (hr0 : Kd.C k36 w A0 l0.length l0) (hc0 : l0.length ≤ c0) (hr3 : Kd.C (Kd.int .u8) w A3 l3.length l3) (hc3 : l3.length ≤ c3) (h : walkmilllaw05_dried.f k l0 a1 a2 l3 = some r) :
    Calls Tryz.prog 49 #[.slice A0 l0.length c0, .int .i64 a1, .int .i64 a2, .slice A3 l3.length c3] w fun e w' => e = .returned (.int .i64 r) ∧ Below w.heap.size w w' := by
  have hu36 := Tryz.underlying36
  have HR0 := Aside0.mk hr0
  have HC0 := Aside0.mk hc0
  clear hr0 hc0
  have HR3 := Aside0.mk hr3
  have HC3 := Aside0.mk hc3
  clear hr3 hc3
  have HB := Aside0.mk (Below.refl w.heap.size w)
  have H : (walkmilllaw05_dried.l0 k l0 a2 l3 0 a1) = some r := h
  clear h
  have H' := Aside0.mk H
  clear H
  go_enter Tryz.func49, Tryz.ntmps49
  go_wp2
  go_loopg [9, 10] k (fun kq v9 v10 w' => ∃ (x9_1 : Int) (x10_1 : Int), v9 = .int .i64 x9_1 ∧ v10 = .int .i64 x10_1 ∧ Aside0 (walkmilllaw05_dried.l0 kq l0 a2 l3 x9_1 x10_1 = some r) ∧ Aside0 (kq ≤ k) ∧ Aside0 (Below w.heap.size w w'))
  case atStart => exact ⟨(0), (a1), (by first | rfl | (simp; done) | (simp [*]; done)), (by first | rfl | (simp; done) | (simp [*]; done)), H', ⟨Nat.le_refl _⟩, ⟨by repeat (first | (with_reducible first | exact HB.out | apply below_alloc | apply pw_below_drewN | apply below_drew1) | exact HB.out)⟩⟩
  case round =>
    clear H'
    try clear p2
    try clear c3
    try clear c4
    obtain ⟨x9_1, x10_1, rfl, rfl, HA, HK1, HB⟩ := hrel
    cases gk with
    | zero => exact absurd HA.out (by simp [walkmilllaw05_dried.l0])
    | succ k1 =>
      have H := HA.out
      clear HA
      simp only [walkmilllaw05_dried.l0] at H
      have HC5 := Aside0.mk H
      clear H
      go_upto_region 3 with (fail)
      go_cut [20] (fun v20 wc => ∃ (kq : Nat) (x20_4 : Bool), v20 = .bool x20_4 ∧ Aside0 (walkmilllaw05_dried.j1 kq l0 a2 l3 x9_1 x10_1 x20_4 = some r) ∧ Aside0 (kq ≤ k1) ∧ Aside0 (Below w.heap.size w wc))
      case first =>
        have H := HC5.out
        clear HC5
        by_cases c6 : x10_1 < a2
        · rw [if_pos c6] at H
          have c6b0 : decide (x10_1 < a2) = true := decide_eq_true c6
          clear c6
          (first | rw [c6b0] | (simp only [i64_w, i32_w]; rw [c6b0]) | skip)
          have H' := Aside0.mk H
          clear H
          go_wp2
          go_meet
          case rel => exact ⟨_, (decide (x10_1 < (l0.length : Int))), (by first | rfl | (simp; done) | (simp [*]; done)), H', ⟨by have := HK1.out; first | omega | exact Nat.le_refl _⟩, ⟨by repeat (first | (with_reducible first | exact HB.out | apply below_alloc | apply pw_below_drewN | apply below_drew1) | exact HB.out)⟩⟩
        · rw [if_neg c6] at H
          have c6b0 : decide (x10_1 < a2) = false := decide_eq_false c6
          clear c6
          (first | rw [c6b0] | (simp only [i64_w, i32_w]; rw [c6b0]) | skip)
          have H' := Aside0.mk H
          clear H
          go_wp2
          go_meet
          case rel => exact ⟨_, (false), (by first | rfl | (simp; done) | (simp [*]; done)), H', ⟨by have := HK1.out; first | omega | exact Nat.le_refl _⟩, ⟨by repeat (first | (with_reducible first | exact HB.out | apply below_alloc | apply pw_below_drewN | apply below_drew1) | exact HB.out)⟩⟩
      case rest =>
        clear HC5
        try clear p2
        try clear c3
        try clear c4
        try clear c6
        try clear c6b0
        try clear p2
        obtain ⟨kq, x20_4, rfl, HA, HJ4, HB⟩ := hcut
        cases kq with
        | zero => exact absurd HA.out (by simp [walkmilllaw05_dried.j1])
        | succ kj4 =>
          have H := HA.out
          clear HA
          simp only [walkmilllaw05_dried.j1] at H
          by_cases c7 : x20_4 = true
          · subst c7
            have H1 : (if 0 ≤ x10_1 then (if x10_1 < (l0.length : Int) then ((walkmilllaw05_byteOf.f l3 x10_1).bind fun t102 => ((walkmilllaw05_inside.f ((rd_T36 l0 x10_1).f0) ((rd_T36 l0 x10_1).f1) t102).bind fun t103 => (walkmilllaw05_dried.l0 kj4 l0 a2 l3 (wrap64 (x9_1 + t103)) (wrap64 (x10_1 + 1))))) else (none)) else (none)) = some r := by rw [if_pos rfl] at H; exact H
            clear H
            have H := H1
            clear H1
            by_cases c8 : 0 ≤ x10_1
            · rw [if_pos c8] at H
              have c8b0 : decide (0 ≤ x10_1) = true := decide_eq_true c8
              clear c8
              by_cases c9 : x10_1 < (l0.length : Int)
              · rw [if_pos c9] at H
                have c9b0 : decide (x10_1 < (l0.length : Int)) = true := decide_eq_true c9
                clear c9
                replace H := Option.bind_eq_some_iff.mp H
                obtain ⟨t102, A100, H⟩ := H
                replace H : ((walkmilllaw05_inside.f ((rd_T36 l0 x10_1).f0) ((rd_T36 l0 x10_1).f1) t102).bind fun t103 => (walkmilllaw05_dried.l0 kj4 l0 a2 l3 (wrap64 (x9_1 + t103)) (wrap64 (x10_1 + 1)))) = some r := H
                have A10 := Aside0.mk A100
                clear A100
                replace H := Option.bind_eq_some_iff.mp H
                obtain ⟨t103, A110, H⟩ := H
                replace H : (walkmilllaw05_dried.l0 kj4 l0 a2 l3 (wrap64 (x9_1 + t103)) (wrap64 (x10_1 + 1))) = some r := H
                have A11 := Aside0.mk A110
                clear A110
                have H' := Aside0.mk H
                clear H
                try go_wp2
                have n0_ := Aside0.mk (below_drew1 HB.out)
                clear HB
                have HB := n0_
                clear n0_
                have p101 : 0 ≤ (x10_1 : Int) := of_decide_eq_true (by first | (with_reducible assumption) | assumption)
                have q101 : x10_1 < (l0.length : Int) := of_decide_eq_true (by first | (with_reducible assumption) | assumption)
                obtain ⟨ad101, e101, hx101_0, hx101_1⟩ := at_T36 HR0.out x10_1 p101 q101
                have hw101_1 := hx101_1
                have hw101_0 := hx101_0
                cases e101
                replace hx101_0 := (HB.out.cell (World.block_lt_of_cell? w _ hx101_0)).trans hx101_0
                replace hx101_1 := (HB.out.cell (World.block_lt_of_cell? w _ hx101_1)).trans hx101_1
                replace p101 := eq_true p101
                replace q101 := eq_true q101
                refine start_ (n := 11) (S := fun w' => w'.cell? (ad101.add ((x10_1).toNat * 2)) = some (.int .i64 ((rd_T36 l0 x10_1).f0)) ∧ w'.cell? ⟨(ad101.add ((x10_1).toNat * 2)).block, (ad101.add ((x10_1).toNat * 2)).off + 1, none⟩ = some (.int .i64 ((rd_T36 l0 x10_1).f1))) (ds := []) #[false, false, false, false, false, false, false, false, false, false, false] (by kernel_rfl) rfl rfl ⟨((HB.out.cell (World.block_lt_of_cell? w _ hw101_0)).trans hw101_0), ((HB.out.cell (World.block_lt_of_cell? w _ hw101_1)).trans hw101_1)⟩ (fun hHeld => ?_); refine with_tabW walkmilllaw05_dried.tab5 walkmilllaw05_dried.bits5 (fun HT_ HW_ => ?_)
                generalize wc.drew = w12 at HB hx101_0 hx101_1 hHeld ⊢
                refine pure_ (i := 0) (N := some 23) (v := ?_) (a' := ?_) #[true, false, false, false, false, false, false, false, false, false, false] rfl rfl (any_of HT_.out (by kernel_rfl)) (fun _ _ _ h => h) (Or.inl ⟨by rfl, ?_⟩) ?_ ?_
                rotate_left
                · intro w'
                  go_simp
                  with_reducible rfl
                rotate_left
                · simp only [Act.put, List.setIfInBounds_toArray, List.set_cons_zero, List.set_cons_succ, i64_w, i32_w]
                  rfl
                refine pure_ (i := 1) (N := some 24) (v := ?_) (a' := ?_) #[true, true, false, false, false, false, false, false, false, false, false] rfl rfl (any_of HT_.out (by kernel_rfl)) (fun _ _ _ h => h) (Or.inl ⟨by rfl, ?_⟩) ?_ ?_
                rotate_left
                · intro w'
                  go_simp
                  with_reducible rfl
                rotate_left
                · simp only [Act.put, List.setIfInBounds_toArray, List.set_cons_zero, List.set_cons_succ, i64_w, i32_w]
                  rfl
                refine pure_ (i := 2) (N := some 25) (v := ?_) (a' := ?_) #[true, true, true, false, false, false, false, false, false, false, false] rfl rfl (any_of HT_.out (by kernel_rfl)) (fun _ _ _ h => h) (Or.inl ⟨by rfl, ?_⟩) ?_ ?_
                rotate_left
                · intro w'
                  go_simp
                  with_reducible rfl
                rotate_left
                · simp only [Act.put, List.setIfInBounds_toArray, List.set_cons_zero, List.set_cons_succ, i64_w, i32_w]
                  rfl
                refine pure_ (i := 3) (N := some 26) (v := ?_) (a' := ?_) #[true, true, true, true, false, false, false, false, false, false, false] rfl rfl (any_of HT_.out (by kernel_rfl)) (fun _ _ _ h => h) (Or.inl ⟨by rfl, ?_⟩) ?_ ?_
                rotate_left
                · intro w'
                  go_simp
                  with_reducible rfl
                rotate_left
                · simp only [Act.put, List.setIfInBounds_toArray, List.set_cons_zero, List.set_cons_succ, i64_w, i32_w]
                  rfl
                refine pure_ (i := 5) (N := some 28) (v := ?_) (a' := ?_) #[true, true, true, true, false, true, false, false, false, false, false] rfl rfl (any_of HT_.out (by kernel_rfl)) (fun _ _ _ h => h) (Or.inl ⟨by rfl, ?_⟩) ?_ ?_
                rotate_left
                · intro w'
                  go_simp
                  with_reducible rfl
                rotate_left
                · simp only [Act.put, List.setIfInBounds_toArray, List.set_cons_zero, List.set_cons_succ, i64_w, i32_w]
                  rfl
                refine pure_ (i := 6) (N := some 29) (v := ?_) (a' := ?_) #[true, true, true, true, false, true, true, false, false, false, false] rfl rfl (any_of HT_.out (by kernel_rfl)) (fun _ _ _ h => h) (Or.inl ⟨by rfl, ?_⟩) ?_ ?_
                rotate_left
                · intro w'
                  go_simp
                  with_reducible rfl
                rotate_left
                · simp only [Act.put, List.setIfInBounds_toArray, List.set_cons_zero, List.set_cons_succ, i64_w, i32_w]
                  rfl
                refine take_ (i := 4) (N := some 27) (v := ?_) (a' := ?_) #[true, true, true, true, true, true, true, false, false, false, false] rfl rfl (take_ofW HT_.out HW_.out (by kernel_rfl)) (fun _ _ _ h => h) (Or.inl ⟨by rfl, ?_⟩) hHeld ?_ ?_
                rotate_left
                · rintro w' ⟨s0, s1⟩
                  go_simp
                  with_reducible rfl
                rotate_left
                · simp only [Act.put, List.setIfInBounds_toArray, List.set_cons_zero, List.set_cons_succ, i64_w, i32_w]
                  rfl
                refine one_ (i := 7) (N := some 30) #[true, true, true, true, true, true, true, true, false, false, false] rfl rfl (one_of HT_.out (by kernel_rfl)) (by decide) (fun K hK => ?_)
                refine goes_ Tryz.func48 (by kernel_rfl) rfl #[.slice A3 l3.length c3, .int .i64 x10_1] (by rfl) rfl rfl (by (try simp only [List.map_toArray, List.map_cons, List.map_nil]); first | done | rfl | (simp only [List.length_drop, List.length_take]; rfl)) ?_
                with_reducible refine (walkmilllaw05_byteOf.calls _ _ l3 x10_1 t102 _ ?side1 ?side2 A10.out).mono ?_
                (case side1 => repeat (first | exact (Kd.C_below HR3.out HB.out) | (with_reducible refine Kd.C_alloc ?_ _) | (with_reducible refine Kd.C_drewN ?_ _) | (with_reducible refine Kd.C_drew ?_)))
                (case side2 => exact HC3.out)
                rintro e w' ⟨rfl, ⟨nd, rfl⟩⟩
                refine ⟨_, rfl, ?_⟩
                refine hK.out _ _ ⟨((HB.out.cell (World.block_lt_of_cell? w _ hw101_0)).trans hw101_0), ((HB.out.cell (World.block_lt_of_cell? w _ hw101_1)).trans hw101_1)⟩ (fun hHeld => ?_)
                clear hK K
                refine norm_ (a' := ?_) ?_ ?_
                rotate_left
                · show Act.put _ (some 30) _ = _
                  simp only [Act.put, List.setIfInBounds_toArray, List.set_cons_zero, List.set_cons_succ, i64_w, i32_w]
                  rfl
                refine one_ (i := 8) (N := some 31) #[true, true, true, true, true, true, true, true, true, false, false] rfl rfl (one_of HT_.out (by kernel_rfl)) (by decide) (fun K hK => ?_)
                refine goes_ Tryz.func47 (by kernel_rfl) rfl #[.agg #[.int .i64 ((rd_T36 l0 x10_1).f0), .int .i64 ((rd_T36 l0 x10_1).f1)], .int .i64 t102] (by rfl) rfl rfl (by (try simp only [List.map_toArray, List.map_cons, List.map_nil]); first | done | rfl | (simp only [List.length_drop, List.length_take]; rfl)) ?_
                with_reducible refine (walkmilllaw05_inside.calls ((rd_T36 l0 x10_1).f0) ((rd_T36 l0 x10_1).f1) t102 t103 _ A11.out).mono ?_
                rintro e w13 ⟨rfl, hb⟩
                refine ⟨_, rfl, ?_⟩
                have n0_ := Aside0.mk (below_step (by repeat (first | (with_reducible first | exact HB.out | apply below_alloc | apply pw_below_drewN | apply below_drew1) | exact HB.out)) hb)
                clear HB
                have HB := n0_
                clear n0_
                (try clear hb)
                (try clear hb2)
                (try clear hk)
                (try clear hi)
                refine hK.out _ _ ⟨((HB.out.cell (World.block_lt_of_cell? w _ hw101_0)).trans hw101_0), ((HB.out.cell (World.block_lt_of_cell? w _ hw101_1)).trans hw101_1)⟩ (fun hHeld => ?_)
                clear hK K
                refine norm_ (a' := ?_) ?_ ?_
                rotate_left
                · show Act.put _ (some 31) _ = _
                  simp only [Act.put, List.setIfInBounds_toArray, List.set_cons_zero, List.set_cons_succ, i64_w, i32_w]
                  rfl
                refine pure_ (i := 9) (N := some 32) (v := ?_) (a' := ?_) #[true, true, true, true, true, true, true, true, true, true, false] rfl rfl (any_of HT_.out (by kernel_rfl)) (fun _ _ _ h => h) (Or.inl ⟨by rfl, ?_⟩) ?_ ?_
                rotate_left
                · intro w'
                  go_simp
                  with_reducible rfl
                rotate_left
                · simp only [Act.put, List.setIfInBounds_toArray, List.set_cons_zero, List.set_cons_succ, i64_w, i32_w]
                  rfl
                refine pure_ (i := 10) (N := some 9) (v := ?_) (a' := ?_) #[true, true, true, true, true, true, true, true, true, true, true] rfl rfl (any_of HT_.out (by kernel_rfl)) (fun _ _ _ h => h) (Or.inl ⟨by rfl, ?_⟩) ?_ ?_
                rotate_left
                · intro w'
                  go_simp
                  with_reducible rfl
                rotate_left
                · simp only [Act.put, List.setIfInBounds_toArray, List.set_cons_zero, List.set_cons_succ, i64_w, i32_w]
                  rfl
                refine done_ (done_of HT_.out (by kernel_rfl)) ?_
                try go_wp2
                go_roundg kj4
                case measure => have := HK1.out; have := HJ4.out; omega
                case rel => exact ⟨(wrap64 (x9_1 + t103)), (wrap64 (x10_1 + 1)), (by first | rfl | (simp; done) | (simp [*]; done)), (by first | rfl | (simp; done) | (simp [*]; done)), H', ⟨by have := HK1.out; have := HJ4.out; omega⟩, ⟨by repeat (first | (with_reducible first | exact HB.out | apply below_alloc | apply pw_below_drewN | apply below_drew1) | exact HB.out)⟩⟩
              · rw [if_neg c9] at H
                exact absurd H (by simp)
            · rw [if_neg c8] at H
              exact absurd H (by simp)
          · replace c7 := Bool.eq_false_iff.mpr c7
            subst c7
            have H1 : (some x9_1) = some r := by rw [if_neg (show ¬ (false = true) by decide)] at H; exact H
            clear H
            have H := H1
            clear H1
            obtain rfl := Option.some.inj H
            go_wp2
            go_ret
            exact ⟨by first | rfl | (simp [errW_none, errW_some] <;> rfl) | (simp [*, errW_none, errW_some] <;> rfl), by repeat (first | (with_reducible first | exact HB.out | apply below_alloc | apply pw_below_drewN | apply below_drew1) | exact HB.out)⟩
end Go.Proofs.YtikmfpjcdcckeaaGreatDoor.P
namespace Go.Proofs.YtikmfpjcdcckeaaGreatDoor.D
open Go Go.RowKit
noncomputable section
inductive AV where
  | any
  | lit (v : Value)
  | ptr (b off : Nat)
  | gptr (g off : Nat)
  | slice (b off len : Nat) (cap : Option Nat)
  | empty
  | map (b : Nat)
  | func (fn : Fn) (first captured : List AV)
  | yield (l : Nat)
  | iface (t : TypeId) (v : AV)
  | agg (cs : List AV)
  | tuple (cs : List AV)
  deriving Inhabited
abbrev Phi := Nat → Option (Nat × Nat)
mutual
def VR (φ : Phi) : AV → Value → Prop
  | .any, _ => True
  | .lit v, x => x = v
  | .ptr b o, x => ∃ c m, φ b = some (c, m) ∧ x = .pointer (some ⟨c, o, none⟩)
  | .gptr g o, x => x = .pointer (some ⟨g, o, none⟩)
  | .slice b o n cap, x => ∃ c m k, φ b = some (c, m) ∧ x = .slice (some ⟨c, o, none⟩) n k ∧
      n ≤ k ∧ (∀ k', cap = some k' → k = k') ∧ (cap = none → o = 0 → k = m)
  | .empty, x => ∃ a k, x = .slice (some a) 0 k
  | .map b, x => ∃ c m, φ b = some (c, m) ∧ x = .map (some c)
  | .func fn xs ys, x => ∃ as_ bs : Array Value, x = .func fn as_ bs ∧ VRs φ xs as_.toList ∧ VRs φ ys bs.toList
  | .yield l, x => ∃ c m, φ l = some (c, m) ∧ x = .func (.yield c) #[] #[]
  | .iface t a, x => ∃ y, x = .iface t y ∧ VR φ a y
  | .agg cs, x => ∃ as_ : Array Value, x = .agg as_ ∧ VRs φ cs as_.toList
  | .tuple cs, x => ∃ as_ : Array Value, x = .tuple as_ ∧ VRs φ cs as_.toList
def VRs (φ : Phi) : List AV → List Value → Prop
  | [], l => l = []
  | a :: as_, l => ∃ x xs, l = x :: xs ∧ VR φ a x ∧ VRs φ as_ xs
end
def Phi.le (φ ψ : Phi) : Prop := ∀ b x, φ b = some x → ψ b = some x
theorem Phi.le_refl (φ : Phi) : φ.le φ := fun _ _ h => h
theorem Phi.le_trans {a b c : Phi} (h : a.le b) (k : b.le c) : a.le c := fun x y hx => k x y (h x y hx)
mutual
theorem VR.mono {φ ψ : Phi} (h : φ.le ψ) : ∀ (a : AV) (x : Value), VR φ a x → VR ψ a x
  | .any, _, _ => trivial
  | .lit _, _, hv => hv
  | .ptr _ _, _, ⟨c, m, h1, h2⟩ => ⟨c, m, h _ _ h1, h2⟩
  | .gptr _ _, _, hv => hv
  | .slice _ _ _ _, _, ⟨c, m, k, h1, h2⟩ => ⟨c, m, k, h _ _ h1, h2⟩
  | .empty, _, hv => hv
  | .map _, _, ⟨c, m, h1, h2⟩ => ⟨c, m, h _ _ h1, h2⟩
  | .func _ xs ys, _, ⟨as_, bs, h1, h2, h3⟩ => ⟨as_, bs, h1, VRs.mono h xs _ h2, VRs.mono h ys _ h3⟩
  | .yield _, _, ⟨c, m, h1, h2⟩ => ⟨c, m, h _ _ h1, h2⟩
  | .iface _ a, _, ⟨y, h1, h2⟩ => ⟨y, h1, VR.mono h a y h2⟩
  | .agg cs, _, ⟨as_, h1, h2⟩ => ⟨as_, h1, VRs.mono h cs _ h2⟩
  | .tuple cs, _, ⟨as_, h1, h2⟩ => ⟨as_, h1, VRs.mono h cs _ h2⟩
theorem VRs.mono {φ ψ : Phi} (h : φ.le ψ) : ∀ (as_ : List AV) (l : List Value), VRs φ as_ l → VRs ψ as_ l
  | [], _, hv => hv
  | a :: as_, _, ⟨x, xs, h1, h2, h3⟩ => ⟨x, xs, h1, VR.mono h a x h2, VRs.mono h as_ xs h3⟩
end
theorem VRs.nil {φ : Phi} : VRs φ [] [] := rfl
theorem VRs.cons {φ : Phi} {a : AV} {as_ : List AV} {x : Value} {xs : List Value} (h : VR φ a x) (hs : VRs φ as_ xs) : VRs φ (a :: as_) (x :: xs) := ⟨x, xs, rfl, h, hs⟩
theorem VRs.length {φ : Phi} : ∀ {as_ : List AV} {l : List Value}, VRs φ as_ l → as_.length = l.length
  | [], _, h => by cases h; rfl
  | _ :: _, _, ⟨_, _, h, _, hs⟩ => by subst h; simp [VRs.length hs]
theorem VRs.get {φ : Phi} : ∀ {as_ : List AV} {l : List Value}, VRs φ as_ l → ∀ {i : Nat} {a : AV}, as_[i]? = some a → ∃ x, l[i]? = some x ∧ VR φ a x
  | [], _, _, _, _, h => by simp at h
  | _ :: _, _, ⟨x, xs, h1, h2, h3⟩, 0, a, h => by subst h1; simp at h; subst h; exact ⟨x, by simp, h2⟩
  | _ :: _, _, ⟨x, xs, h1, h2, h3⟩, i + 1, a, h => by subst h1; simp at h; obtain ⟨y, hy⟩ := VRs.get h3 h; exact ⟨y, by simpa using hy⟩
theorem VRs.set {φ : Phi} : ∀ {as_ : List AV} {l : List Value}, VRs φ as_ l → ∀ (i : Nat) {a : AV} {x : Value}, VR φ a x → VRs φ (as_.set i a) (l.set i x)
  | [], _, h, _, _, _, _ => by cases h; exact VRs.nil
  | _ :: _, _, ⟨x, xs, h1, h2, h3⟩, 0, _, _, hv => by subst h1; exact VRs.cons hv h3
  | _ :: _, _, ⟨x, xs, h1, h2, h3⟩, i + 1, _, _, hv => by subst h1; exact VRs.cons h2 (VRs.set h3 i hv)
theorem VRs.append {φ : Phi} : ∀ {as_ : List AV} {l : List Value} {bs : List AV} {k : List Value}, VRs φ as_ l → VRs φ bs k → VRs φ (as_ ++ bs) (l ++ k)
  | [], _, _, _, h, hk => by cases h; exact hk
  | _ :: _, _, _, _, ⟨x, xs, h1, h2, h3⟩, hk => by subst h1; exact VRs.cons h2 (VRs.append h3 hk)
theorem VRs.take {φ : Phi} : ∀ {as_ : List AV} {l : List Value}, VRs φ as_ l → ∀ (n : Nat), VRs φ (as_.take n) (l.take n)
  | [], _, h, n => by cases h; simp [VRs]
  | _ :: _, _, ⟨x, xs, h1, h2, h3⟩, 0 => by simp [VRs]
  | _ :: _, _, ⟨x, xs, h1, h2, h3⟩, n + 1 => by subst h1; exact VRs.cons h2 (VRs.take h3 n)
theorem VRs.drop {φ : Phi} : ∀ {as_ : List AV} {l : List Value}, VRs φ as_ l → ∀ (n : Nat), VRs φ (as_.drop n) (l.drop n)
  | [], _, h, n => by cases h; simp [VRs]
  | _ :: _, _, ⟨x, xs, h1, h2, h3⟩, 0 => by subst h1; exact VRs.cons h2 h3
  | _ :: _, _, ⟨x, xs, h1, h2, h3⟩, n + 1 => by subst h1; exact VRs.drop h3 n
theorem VRs.lits {φ : Phi} : ∀ (l : List Value), VRs φ (l.map .lit) l
  | [] => VRs.nil
  | x :: xs => VRs.cons (show VR φ (.lit x) x from rfl) (VRs.lits xs)
theorem VRs.map_of {α : Type} {φ : Phi} {f : α → AV} {g : α → Value} : ∀ (l : List α), (∀ x ∈ l, VR φ (f x) (g x)) → VRs φ (l.map f) (l.map g)
  | [], _ => VRs.nil
  | x :: xs, h => VRs.cons (h x (by simp)) (VRs.map_of xs fun y hy => h y (by simp [hy]))
mutual
def AV.toV : AV → Option Value
  | .lit v => some v
  | .gptr g o => some (.pointer (some ⟨g, o, none⟩))
  | .iface t a => match a.toV with | some x => some (.iface t x) | none => none
  | .agg cs => match AV.toVs cs with | some l => some (.agg l.toArray) | none => none
  | .tuple cs => match AV.toVs cs with | some l => some (.tuple l.toArray) | none => none
  | _ => none
def AV.toVs : List AV → Option (List Value)
  | [] => some []
  | a :: as_ => match a.toV, AV.toVs as_ with | some x, some xs => some (x :: xs) | _, _ => none
end
mutual
theorem AV.toV_eq {φ : Phi} : ∀ (a : AV) (v x : Value), a.toV = some v → VR φ a x → x = v
  | .any, _, _, h, _ => by simp [AV.toV] at h
  | .lit _, _, _, h, hv => by simp [AV.toV] at h; subst h; exact hv
  | .ptr _ _, _, _, h, _ => by simp [AV.toV] at h
  | .gptr _ _, _, _, h, hv => by simp [AV.toV] at h; subst h; exact hv
  | .slice _ _ _ _, _, _, h, _ => by simp [AV.toV] at h
  | .empty, _, _, h, _ => by simp [AV.toV] at h
  | .map _, _, _, h, _ => by simp [AV.toV] at h
  | .func _ _ _, _, _, h, _ => by simp [AV.toV] at h
  | .yield _, _, _, h, _ => by simp [AV.toV] at h
  | .iface t a, _, _, h, ⟨y, h1, h2⟩ => by
    simp only [AV.toV] at h
    split at h
    · rename_i z hz; cases h; rw [h1, AV.toV_eq a z y hz h2]
    · cases h
  | .agg cs, _, _, h, ⟨as_, h1, h2⟩ => by
    simp only [AV.toV] at h
    split at h
    · rename_i z hz; cases h; rw [h1, ← AV.toVs_eq cs z _ hz h2]
    · cases h
  | .tuple cs, _, _, h, ⟨as_, h1, h2⟩ => by
    simp only [AV.toV] at h
    split at h
    · rename_i z hz; cases h; rw [h1, ← AV.toVs_eq cs z _ hz h2]
    · cases h
theorem AV.toVs_eq {φ : Phi} : ∀ (as_ : List AV) (l k : List Value), AV.toVs as_ = some l → VRs φ as_ k → k = l
  | [], _, _, h, hv => by simp [AV.toVs] at h; subst h; exact hv
  | a :: as_, _, _, h, ⟨x, xs, h1, h2, h3⟩ => by
    simp only [AV.toVs] at h
    split at h
    · rename_i y ys hy hys; cases h; rw [h1, AV.toV_eq a y x hy h2, AV.toVs_eq as_ ys xs hys h3]
    · cases h
end
def AV.view : AV → AV
  | .lit (.agg cs) => .agg (cs.toList.map .lit)
  | .lit (.tuple cs) => .tuple (cs.toList.map .lit)
  | .lit (.iface t v) => .iface t (.lit v)
  | .lit (.func fn a b) => .func fn (a.toList.map .lit) (b.toList.map .lit)
  | a => a
theorem VR.view {φ : Phi} {a : AV} {x : Value} (h : VR φ a x) : VR φ a.view x := by
  unfold AV.view
  split
  · exact ⟨_, h, VRs.lits _⟩
  · exact ⟨_, h, VRs.lits _⟩
  · exact ⟨_, h, rfl⟩
  · exact ⟨_, _, h, VRs.lits _, VRs.lits _⟩
  · exact h
inductive TT where
  | tip
  | node (v : AV) (l r : TT)
def TT.get (t : TT) : Nat → AV :=
  TT.rec (motive := fun _ => Nat → AV) (fun _ => .lit undef)
    (fun v _ _ l r n => Nat.rec (motive := fun _ => AV) v (fun m _ => Nat.rec (motive := fun _ => AV) (l (Nat.div m 2)) (fun _ _ => r (Nat.div m 2)) (Nat.mod m 2)) n) t
def TT.path (d : Nat) : Nat → AV → TT :=
  Nat.rec (motive := fun _ => Nat → AV → TT) (fun _ _ => .tip)
    (fun _ ih n x => Nat.rec (motive := fun _ => TT) (.node x .tip .tip)
      (fun m _ => Nat.rec (motive := fun _ => TT) (.node (.lit undef) (ih (Nat.div m 2) x) .tip) (fun _ _ => .node (.lit undef) .tip (ih (Nat.div m 2) x)) (Nat.mod m 2)) n) d
def TT.set (t : TT) : Nat → AV → TT :=
  TT.rec (motive := fun _ => Nat → AV → TT) (fun n x => TT.path 10 n x)
    (fun v l r ihl ihr n x => Nat.rec (motive := fun _ => TT) (.node x l r)
      (fun m _ => Nat.rec (motive := fun _ => TT) (.node v (ihl (Nat.div m 2) x) r) (fun _ _ => .node v l (ihr (Nat.div m 2) x)) (Nat.mod m 2)) n) t
theorem TT.get_even (v : AV) (l r : TT) (m : Nat) (h : m % 2 = 0) : (TT.node v l r).get (m + 1) = l.get (m / 2) := by
  show Nat.rec (motive := fun _ => AV) _ _ (m % 2) = _
  rw [h]; rfl
theorem TT.get_odd (v : AV) (l r : TT) (m : Nat) (h : m % 2 = 1) : (TT.node v l r).get (m + 1) = r.get (m / 2) := by
  show Nat.rec (motive := fun _ => AV) _ _ (m % 2) = _
  rw [h]; rfl
theorem TT.path_zero (d : Nat) (x : AV) : TT.path (d + 1) 0 x = .node x .tip .tip := rfl
theorem TT.path_even (d m : Nat) (x : AV) (h : m % 2 = 0) : TT.path (d + 1) (m + 1) x = .node (.lit undef) (TT.path d (m / 2) x) .tip := by
  show Nat.rec (motive := fun _ => TT) _ _ (m % 2) = _
  rw [h]; rfl
theorem TT.path_odd (d m : Nat) (x : AV) (h : m % 2 = 1) : TT.path (d + 1) (m + 1) x = .node (.lit undef) .tip (TT.path d (m / 2) x) := by
  show Nat.rec (motive := fun _ => TT) _ _ (m % 2) = _
  rw [h]; rfl
theorem TT.set_zero (v : AV) (l r : TT) (x : AV) : (TT.node v l r).set 0 x = .node x l r := rfl
theorem TT.set_even (v : AV) (l r : TT) (m : Nat) (x : AV) (h : m % 2 = 0) : (TT.node v l r).set (m + 1) x = .node v (l.set (m / 2) x) r := by
  show Nat.rec (motive := fun _ => TT) _ _ (m % 2) = _
  rw [h]; rfl
theorem TT.set_odd (v : AV) (l r : TT) (m : Nat) (x : AV) (h : m % 2 = 1) : (TT.node v l r).set (m + 1) x = .node v l (r.set (m / 2) x) := by
  show Nat.rec (motive := fun _ => TT) _ _ (m % 2) = _
  rw [h]; rfl
theorem par (m : Nat) : m % 2 = 0 ∨ m % 2 = 1 := by omega
theorem TT.get_path_eq : ∀ (d n : Nat) (x : AV), n + 1 < 2 ^ d → (TT.path d n x).get n = x
  | 0, n, _, h => by simp at h
  | d + 1, 0, x, h => rfl
  | d + 1, m + 1, x, h => by
    rw [Nat.pow_succ] at h
    rcases par m with hp | hp
    · rw [TT.path_even _ _ _ hp, TT.get_even _ _ _ _ hp]; exact TT.get_path_eq d _ _ (by omega)
    · rw [TT.path_odd _ _ _ hp, TT.get_odd _ _ _ _ hp]; exact TT.get_path_eq d _ _ (by omega)
theorem TT.get_path_ne : ∀ (d n k : Nat) (x : AV), k ≠ n → (TT.path d n x).get k = .lit undef
  | 0, _, _, _, _ => rfl
  | d + 1, 0, 0, x, h => absurd rfl h
  | d + 1, 0, k + 1, x, h => by
    rw [TT.path_zero]
    rcases par k with hp | hp
    · rw [TT.get_even _ _ _ _ hp]; rfl
    · rw [TT.get_odd _ _ _ _ hp]; rfl
  | d + 1, m + 1, 0, x, h => by
    rcases par m with hp | hp
    · rw [TT.path_even _ _ _ hp]; rfl
    · rw [TT.path_odd _ _ _ hp]; rfl
  | d + 1, m + 1, k + 1, x, h => by
    rcases par m with hp | hp <;> rcases par k with hq | hq
    · rw [TT.path_even _ _ _ hp, TT.get_even _ _ _ _ hq]; exact TT.get_path_ne d _ _ _ (by omega)
    · rw [TT.path_even _ _ _ hp, TT.get_odd _ _ _ _ hq]; rfl
    · rw [TT.path_odd _ _ _ hp, TT.get_even _ _ _ _ hq]; rfl
    · rw [TT.path_odd _ _ _ hp, TT.get_odd _ _ _ _ hq]; exact TT.get_path_ne d _ _ _ (by omega)
theorem TT.get_set_eq : ∀ (t : TT) (n : Nat) (x : AV), n + 1 < 2 ^ 10 → (t.set n x).get n = x
  | .tip, n, x, h => TT.get_path_eq 10 n x h
  | .node v l r, 0, x, h => rfl
  | .node v l r, m + 1, x, h => by
    rcases par m with hp | hp
    · rw [TT.set_even _ _ _ _ _ hp, TT.get_even _ _ _ _ hp]; exact TT.get_set_eq _ _ _ (by omega)
    · rw [TT.set_odd _ _ _ _ _ hp, TT.get_odd _ _ _ _ hp]; exact TT.get_set_eq _ _ _ (by omega)
theorem TT.get_set_ne : ∀ (t : TT) (n k : Nat) (x : AV), k ≠ n → (t.set n x).get k = t.get k
  | .tip, n, k, x, h => TT.get_path_ne 10 n k x h
  | .node v l r, 0, 0, x, h => absurd rfl h
  | .node v l r, 0, k + 1, x, h => by
    rw [TT.set_zero]
    rcases par k with hp | hp
    · rw [TT.get_even _ _ _ _ hp, TT.get_even _ _ _ _ hp]
    · rw [TT.get_odd _ _ _ _ hp, TT.get_odd _ _ _ _ hp]
  | .node v l r, m + 1, 0, x, h => by
    rcases par m with hp | hp
    · rw [TT.set_even _ _ _ _ _ hp]; rfl
    · rw [TT.set_odd _ _ _ _ _ hp]; rfl
  | .node v l r, m + 1, k + 1, x, h => by
    rcases par m with hp | hp <;> rcases par k with hq | hq
    · rw [TT.set_even _ _ _ _ _ hp, TT.get_even _ _ _ _ hq, TT.get_even _ _ _ _ hq]; exact TT.get_set_ne _ _ _ _ (by omega)
    · rw [TT.set_even _ _ _ _ _ hp, TT.get_odd _ _ _ _ hq, TT.get_odd _ _ _ _ hq]
    · rw [TT.set_odd _ _ _ _ _ hp, TT.get_even _ _ _ _ hq, TT.get_even _ _ _ _ hq]
    · rw [TT.set_odd _ _ _ _ _ hp, TT.get_odd _ _ _ _ hq, TT.get_odd _ _ _ _ hq]; exact TT.get_set_ne _ _ _ _ (by omega)
structure ALoop where
  state : LoopState
  pending : Option Code
  n : Nat
  tmps : TT
  params : Array Tmp
  assign : Code
  body : Code
  defers : Nat
inductive Md where
  | exact
  | grow
  | ro
  deriving DecidableEq
inductive AO where
  | cells (cs : List AV) (elem : TypeId) (md : Md)
  | map (es : List (AV × AV × Nat)) (clock : Nat)
  | loop (r : ALoop)
  | defd (isOpen : Bool)
  | sIter (s : ByteArray) (pos : Nat)
  | dead
inductive Tr where
  | tip
  | node (o : AO) (l r : Tr)
def Tr.get (t : Tr) : Nat → Option AO :=
  Tr.rec (motive := fun _ => Nat → Option AO) (fun _ => none)
    (fun v _ _ l r n => Nat.rec (motive := fun _ => Option AO) (some v) (fun m _ => Nat.rec (motive := fun _ => Option AO) (l (Nat.div m 2)) (fun _ _ => r (Nat.div m 2)) (Nat.mod m 2)) n) t
def Tr.set (t : Tr) : Nat → AO → Tr :=
  Tr.rec (motive := fun _ => Nat → AO → Tr) (fun n x => Nat.rec (motive := fun _ => Tr) (.node x .tip .tip) (fun _ _ => .tip) n)
    (fun v l r ihl ihr n x => Nat.rec (motive := fun _ => Tr) (.node x l r)
      (fun m _ => Nat.rec (motive := fun _ => Tr) (.node v (ihl (Nat.div m 2) x) r) (fun _ _ => .node v l (ihr (Nat.div m 2) x)) (Nat.mod m 2)) n) t
theorem Tr.get_even (v : AO) (l r : Tr) (m : Nat) (h : m % 2 = 0) : (Tr.node v l r).get (m + 1) = l.get (m / 2) := by
  show Nat.rec (motive := fun _ => Option AO) _ _ (m % 2) = _
  rw [h]; rfl
theorem Tr.get_odd (v : AO) (l r : Tr) (m : Nat) (h : m % 2 = 1) : (Tr.node v l r).get (m + 1) = r.get (m / 2) := by
  show Nat.rec (motive := fun _ => Option AO) _ _ (m % 2) = _
  rw [h]; rfl
theorem Tr.set_even (v : AO) (l r : Tr) (m : Nat) (x : AO) (h : m % 2 = 0) : (Tr.node v l r).set (m + 1) x = .node v (l.set (m / 2) x) r := by
  show Nat.rec (motive := fun _ => Tr) _ _ (m % 2) = _
  rw [h]; rfl
theorem Tr.set_odd (v : AO) (l r : Tr) (m : Nat) (x : AO) (h : m % 2 = 1) : (Tr.node v l r).set (m + 1) x = .node v l (r.set (m / 2) x) := by
  show Nat.rec (motive := fun _ => Tr) _ _ (m % 2) = _
  rw [h]; rfl
theorem Tr.get_set_ne : ∀ (t : Tr) (n m : Nat) (x : AO), m ≠ n → (t.set n x).get m = t.get m
  | .tip, 0, 0, x, h => absurd rfl h
  | .tip, 0, m + 1, x, h => by
    show (Tr.node x .tip .tip).get (m + 1) = none
    rcases par m with hp | hp
    · rw [Tr.get_even _ _ _ _ hp]; rfl
    · rw [Tr.get_odd _ _ _ _ hp]; rfl
  | .tip, n + 1, m, x, h => rfl
  | .node v l r, 0, 0, x, h => absurd rfl h
  | .node v l r, 0, k + 1, x, h => by
    show (Tr.node x l r).get (k + 1) = _
    rcases par k with hp | hp
    · rw [Tr.get_even _ _ _ _ hp, Tr.get_even _ _ _ _ hp]
    · rw [Tr.get_odd _ _ _ _ hp, Tr.get_odd _ _ _ _ hp]
  | .node v l r, m + 1, 0, x, h => by
    rcases par m with hp | hp
    · rw [Tr.set_even _ _ _ _ _ hp]; rfl
    · rw [Tr.set_odd _ _ _ _ _ hp]; rfl
  | .node v l r, m + 1, k + 1, x, h => by
    rcases par m with hp | hp <;> rcases par k with hq | hq
    · rw [Tr.set_even _ _ _ _ _ hp, Tr.get_even _ _ _ _ hq, Tr.get_even _ _ _ _ hq]; exact Tr.get_set_ne _ _ _ _ (by omega)
    · rw [Tr.set_even _ _ _ _ _ hp, Tr.get_odd _ _ _ _ hq, Tr.get_odd _ _ _ _ hq]
    · rw [Tr.set_odd _ _ _ _ _ hp, Tr.get_even _ _ _ _ hq, Tr.get_even _ _ _ _ hq]
    · rw [Tr.set_odd _ _ _ _ _ hp, Tr.get_odd _ _ _ _ hq, Tr.get_odd _ _ _ _ hq]; exact Tr.get_set_ne _ _ _ _ (by omega)
theorem Tr.get_set_eq : ∀ (t : Tr) (n : Nat) (x : AO), (t.get n).isSome = true → (t.set n x).get n = some x
  | .tip, n, x, h => by cases h
  | .node v l r, 0, x, h => rfl
  | .node v l r, m + 1, x, h => by
    rcases par m with hp | hp
    · rw [Tr.get_even _ _ _ _ hp] at h
      rw [Tr.set_even _ _ _ _ _ hp, Tr.get_even _ _ _ _ hp]; exact Tr.get_set_eq _ _ _ h
    · rw [Tr.get_odd _ _ _ _ hp] at h
      rw [Tr.set_odd _ _ _ _ _ hp, Tr.get_odd _ _ _ _ hp]; exact Tr.get_set_eq _ _ _ h
theorem Tr.set_new : ∀ (t : Tr) (n : Nat) (x y : AO), (t.set n x).get n = some y → y = x
  | .tip, 0, x, y, h => by cases h; rfl
  | .tip, n + 1, x, y, h => by cases h
  | .node v l r, 0, x, y, h => by cases h; rfl
  | .node v l r, m + 1, x, y, h => by
    rcases par m with hp | hp
    · rw [Tr.set_even _ _ _ _ _ hp, Tr.get_even _ _ _ _ hp] at h; exact Tr.set_new _ _ _ _ h
    · rw [Tr.set_odd _ _ _ _ _ hp, Tr.get_odd _ _ _ _ hp] at h; exact Tr.set_new _ _ _ _ h
structure AH where
  size : Nat
  t : Tr
def AH.get (H : AH) (b : Nat) : Option AO :=
  AH.rec (motive := fun _ => Option AO) (fun s t => Nat.rec (motive := fun _ => Option AO) none (fun _ _ => t.get b) (Nat.sub s b)) H
theorem AH.get_eq (H : AH) (b : Nat) : H.get b = if b < H.size then H.t.get b else none := by
  obtain ⟨s, t⟩ := H
  show Nat.rec (motive := fun _ => Option AO) none (fun _ _ => t.get b) (s - b) = if b < s then t.get b else none
  by_cases h : b < s
  · obtain ⟨q, hq⟩ : ∃ q, s - b = q + 1 := ⟨s - b - 1, by omega⟩
    rw [hq, if_pos h]
  · rw [show s - b = 0 by omega, if_neg h]; rfl
def AH.set (H : AH) (b : Nat) (o : AO) : AH := match H with | ⟨s, t⟩ => ⟨s, t.set b o⟩
def AH.push (H : AH) (o : AO) : Option AH :=
  let t := H.t.set H.size o
  match t.get H.size with
  | some _ => some ⟨H.size + 1, t⟩
  | none => none
theorem AH.get_lt {H : AH} {b : Nat} {o : AO} (h : H.get b = some o) : b < H.size := by
  rw [AH.get_eq] at h; split at h
  · assumption
  · cases h
theorem AH.get_set {H : AH} {b : Nat} {o o' : AO} (h : H.get b = some o) (c : Nat) : (H.set b o').get c = if c = b then some o' else H.get c := by
  have hl := AH.get_lt h
  rw [AH.get_eq] at h
  rw [AH.get_eq, AH.get_eq]
  obtain ⟨s, t⟩ := H
  simp only [AH.set] at h hl ⊢
  rw [if_pos hl] at h
  by_cases hc : c = b
  · subst hc; simp only [hl, if_true]; exact Tr.get_set_eq t _ o' (by rw [h]; rfl)
  · rw [if_neg hc, Tr.get_set_ne _ _ _ _ hc]; rfl
theorem AH.get_push {H H' : AH} {o : AO} (h : H.push o = some H') (c : Nat) : c ≠ H.size → H'.get c = H.get c := by
  intro hc
  unfold AH.push at h
  simp only at h
  split at h
  · cases h
    rw [AH.get_eq, AH.get_eq]
    simp only
    rw [Tr.get_set_ne _ _ _ _ hc]
    by_cases h1 : c < H.size
    · rw [if_pos h1, if_pos (by omega)]
    · rw [if_neg h1, if_neg (by omega)]
  · cases h
theorem AH.push_size {H H' : AH} {o : AO} (h : H.push o = some H') : H'.size = H.size + 1 := by
  unfold AH.push at h
  simp only at h
  split at h
  · cases h; rfl
  · cases h
theorem AH.push_new {H H' : AH} {o : AO} (h : H.push o = some H') : H'.get H.size = some o := by
  unfold AH.push at h
  simp only at h
  split at h
  · rename_i y hy
    cases h
    rw [AH.get_eq]
    simp only
    rw [if_pos (Nat.lt_succ_self _), hy, Tr.set_new _ _ _ _ hy]
  · cases h
end
end Go.Proofs.YtikmfpjcdcckeaaGreatDoor.D
namespace Go.Proofs.YtikmfpjcdcckeaaGreatDoor.D
open Go Go.RowKit
noncomputable section
def callE (c : Call) : Bool :=
  match c.callee with
  | .builtin .len | .builtin .cap | .builtin .max | .builtin .min => false
  | _ => true
def isETab : Op → Bool := Op.rec (motive := fun _ => Bool) (fun _ => false) (fun _ => true) (fun _ _ _ => false) (fun _ => false) (fun _ _ => false) (fun _ _ => false) (fun _ _ _ => false) (fun _ _ _ _ => true) (fun _ _ => false) (fun _ _ _ => true) (fun _ => true) (fun _ => true) (fun _ => false) (fun _ _ _ _ _ => false) (fun _ _ _ => false) (fun _ _ _ => false) (fun _ _ => true) (fun _ _ => false) (fun _ _ _ => false) (fun _ _ => false) (fun _ _ => true) (fun _ _ _ => false) (fun _ _ _ _ _ => false) (fun _ _ _ => false) (fun _ _ _ => false) (fun _ _ _ => false) (fun _ _ _ => false) (fun _ _ _ _ => false) (fun _ _ _ _ => true) (fun _ _ _ => true) (fun _ _ _ _ => true) (fun _ _ => true) (fun _ _ => true) (fun _ => true) (fun _ _ _ _ => false) (fun _ _ => false) (fun c => callE c) (fun _ => true) (fun _ => true) (fun _ => true) (fun _ _ => true) (fun _ _ _ => true) (fun _ _ => true)
def isE (o : Oper) : Bool := isETab o.op
def depB (o : Oper) (j : Nat) : Bool := o.after.toList.any fun e => Region.binds .any e && decide (e.on = j)
def regOk (ops : Array Oper) : Bool :=
  (List.range ops.size).all fun i => match ops[i]? with
    | none => true
    | some o => o.after.toList.all (fun e => !Region.binds .any e || decide (e.on < i)) &&
      (List.range ops.size).all fun j => match ops[j]? with
        | none => true
        | some oj => isE oj || (match oj.dst with
          | none => true
          | some d => !(o.looksAt ops).contains d || (!decide (j = i) && depB o j))
def codeOk : Code → Bool
  | .region _ ops d => !d || regOk ops
  | .seq a b => codeOk a && codeOk b
  | .cond _ a b => codeOk a && codeOk b
  | .block _ a => codeOk a
  | .loop a => codeOk a
  | .rangeFunc _ _ a b => codeOk a && codeOk b
  | .scope a => codeOk a
  | _ => true
theorem regOk_before {ops : Array Oper} (h : regOk ops = true) {i : Nat} {o : Oper} (ho : ops[i]? = some o) : ∀ e ∈ o.after, Region.binds .any e = true → e.on < i := by
  intro e he hb
  have hlt : i < ops.size := (Array.getElem?_eq_some_iff.1 ho).1
  have := List.all_eq_true.1 h i (List.mem_range.2 hlt)
  rw [ho] at this
  simp only [Bool.and_eq_true] at this
  have h2 := List.all_eq_true.1 this.1 e (by simpa using he)
  simp [hb] at h2
  exact h2
theorem regOk_reads {ops : Array Oper} (h : regOk ops = true) {i j : Nat} {o oj : Oper} {d : Tmp} (ho : ops[i]? = some o) (hj : ops[j]? = some oj) (hE : isE oj = false) (hd : oj.dst = some d) (hl : d ∈ o.looksAt ops) : j ≠ i ∧ depB o j = true := by
  have hlt : i < ops.size := (Array.getElem?_eq_some_iff.1 ho).1
  have hlj : j < ops.size := (Array.getElem?_eq_some_iff.1 hj).1
  have := List.all_eq_true.1 h i (List.mem_range.2 hlt)
  rw [ho] at this
  simp only [Bool.and_eq_true] at this
  have h2 := List.all_eq_true.1 this.2 j (List.mem_range.2 hlj)
  rw [hj] at h2
  simp only [hE, hd, Bool.false_or] at h2
  simp [hl] at h2
  exact h2
theorem depB_iff {o : Oper} {j : Nat} (h : depB o j = true) : ∃ e ∈ o.after, Region.binds .any e = true ∧ e.on = j := by
  unfold depB at h
  obtain ⟨e, he, hb⟩ := List.any_eq_true.1 h
  simp at hb
  exact ⟨e, by simpa using he, hb.1, hb.2⟩
end
end Go.Proofs.YtikmfpjcdcckeaaGreatDoor.D
namespace Go.Proofs.YtikmfpjcdcckeaaGreatDoor.D
open Go Go.RowKit
noncomputable section
def esz (P : Program) (t : TypeId) : Nat := match P.info? t with | some i => i.size | none => 0
def ES (φ : Phi) : List (AV × AV × Nat) → List MapEntry → Prop
  | [], l => l = []
  | (k, v, b) :: es, l => ∃ e rest, l = e :: rest ∧ VR φ k e.key ∧ VR φ v e.val ∧ e.born = b ∧ ES φ es rest
theorem ES.mono {φ ψ : Phi} (h : φ.le ψ) : ∀ {es : List (AV × AV × Nat)} {l : List MapEntry}, ES φ es l → ES ψ es l
  | [], _, hv => hv
  | (_, _, _) :: _, _, ⟨e, r, h1, h2, h3, h4, h5⟩ => ⟨e, r, h1, h2.mono h, h3.mono h, h4, ES.mono h h5⟩
structure TR (φ : Phi) (n : Nat) (t : TT) (tm : Array Value) : Prop where
  size : tm.size = n
  le : n ≤ 1000
  get : ∀ i, VR φ (t.get i) (tm.getD i undef)
theorem TR.mono {φ ψ : Phi} (h : φ.le ψ) {n : Nat} {t : TT} {tm : Array Value} (hv : TR φ n t tm) : TR ψ n t tm := ⟨hv.size, hv.le, fun i => (hv.get i).mono h⟩
def OR (P : Program) (φ : Phi) (m : Nat) : AO → Obj → Prop
  | .cells cs elem md, o => ∃ (xs : Array Value) (fz : Nat × Nat), o = .cells xs elem fz ∧ (∀ i, i < xs.size → ¬ (fz.1 ≤ i ∧ i < fz.2)) ∧
      VRs φ cs (xs.toList.take cs.length) ∧ (md ≠ .grow → xs.size = cs.length) ∧ (md = .grow → xs.size = m * esz P elem)
  | .map es clock, o => ∃ es' : Array MapEntry, o = .map es' clock ∧ ES φ es es'.toList
  | .loop r, o => ∃ (fn : FuncId) (tm : Array Value) (d m' : Nat), φ r.defers = some (d, m') ∧
      o = .loop { state := r.state, pending := r.pending, fn, tmps := tm, params := r.params, assign := r.assign, body := r.body, defers := d } ∧ TR φ r.n r.tmps tm ∧ codeOk r.assign = true ∧ codeOk r.body = true
  | .defd b, o => o = .deferred (if b then some [] else none)
  | .sIter s p, o => o = .stringIter s p
  | .dead, _ => True
theorem OR.mono {P : Program} {φ ψ : Phi} (h : φ.le ψ) {m : Nat} {ao : AO} {o : Obj} (hv : OR P φ m ao o) : OR P ψ m ao o := by
  cases ao with
  | cells cs elem md => obtain ⟨xs, fz, h1, h2, h3, h4⟩ := hv; exact ⟨xs, fz, h1, h2, h3.mono h, h4⟩
  | map es clock => obtain ⟨es', h1, h2⟩ := hv; exact ⟨es', h1, h2.mono h⟩
  | loop r => obtain ⟨fn, tm, d, m', h1, h2, h3⟩ := hv; exact ⟨fn, tm, d, m', h _ _ h1, h2, h3.1.mono h, h3.2⟩
  | defd b => exact hv
  | sIter s p => exact hv
  | dead => trivial
abbrev Glob := Nat → Option (Array Value)
def GlobAt (w : World) (g : Nat) (vs : Array Value) : Prop := ∃ (xs : Array Value) (e : TypeId) (fz : Nat × Nat), w.heap[g]? = some (.cells xs e fz) ∧ xs.toList.take vs.size = vs.toList
theorem GlobAt.of {w v : World} {g : Nat} {vs : Array Value} (h : GlobAt w g vs) (e : v.heap[g]? = w.heap[g]?) : GlobAt v g vs := let ⟨xs, t, fz, h1, h2⟩ := h; ⟨xs, t, fz, by rw [e]; exact h1, h2⟩
structure R (P : Program) (G : Glob) (n0 : Nat) (φ : Phi) (H : AH) (w : World) : Prop where
  obj : ∀ b c m, φ b = some (c, m) → ∃ ao o, H.get b = some ao ∧ w.heap[c]? = some o ∧ OR P φ m ao o ∧ (n0 ≤ c ∨ ∃ cs e, ao = .cells cs e .ro)
  inj : ∀ b b' c m m', φ b = some (c, m) → φ b' = some (c, m') → H.get b ≠ some .dead → H.get b' ≠ some .dead → b = b'
  low : n0 ≤ w.heap.size
  glob : ∀ g vs, G g = some vs → GlobAt w g vs ∧ g < n0
structure Sim (P : Program) (G : Glob) (n0 : Nat) (φ : Phi) (H : AH) (w : World) (ψ : Phi) (K : AH) (v : World) : Prop where
  le : φ.le ψ
  new : ∀ b, φ b = none → b < H.size → ψ b = none
  sz : H.size ≤ K.size
  r : R P G n0 ψ K v
  bel : Below n0 w v
section
variable {P : Program} {G : Glob} {n0 : Nat} {φ ψ χ : Phi} {H K L : AH} {w v u : World}
theorem Sim.refl (h : R P G n0 φ H w) : Sim P G n0 φ H w φ H w := ⟨Phi.le_refl _, fun _ h _ => h, Nat.le_refl _, h, Below.refl _ _⟩
theorem Sim.trans (h : Sim P G n0 φ H w ψ K v) (k : Sim P G n0 ψ K v χ L u) : Sim P G n0 φ H w χ L u :=
  ⟨Phi.le_trans h.le k.le, fun b hb hs => k.new b (h.new b hb hs) (Nat.lt_of_lt_of_le hs h.sz), Nat.le_trans h.sz k.sz, k.r, h.bel.trans k.bel⟩
structure SameHeap (w v : World) : Prop where
  heap : v.heap = w.heap
  os : v.os = w.os
  tape : v.tape = w.tape
  output : v.output = w.output
theorem SameHeap.refl (w : World) : SameHeap w w := ⟨rfl, rfl, rfl, rfl⟩
theorem SameHeap.drew (w : World) : SameHeap w { w with drawn := w.drawn + 1 } := ⟨rfl, rfl, rfl, rfl⟩
theorem R.same (h : R P G n0 φ H w) (s : SameHeap w v) : R P G n0 φ H v :=
  ⟨fun b c m hb => by rw [s.heap]; exact h.obj b c m hb, h.inj, by rw [s.heap]; exact h.low, fun g vs hg => let ⟨h1, h2⟩ := h.glob g vs hg; ⟨h1.of (by rw [s.heap]), h2⟩⟩
theorem SameHeap.below (s : SameHeap w v) (B : Nat) : Below B w v := ⟨s.os, s.tape, s.output, by rw [s.heap]; exact Nat.le_refl _, fun k _ => by rw [s.heap]⟩
theorem Sim.same (h : R P G n0 φ H w) (s : SameHeap w v) : Sim P G n0 φ H w φ H v := ⟨Phi.le_refl _, fun _ h _ => h, Nat.le_refl _, h.same s, s.below _⟩
theorem R.lt (h : R P G n0 φ H w) {b c m : Nat} (hb : φ b = some (c, m)) : b < H.size ∧ c < w.heap.size := by
  obtain ⟨ao, o, h1, h2, _⟩ := h.obj b c m hb
  exact ⟨AH.get_lt h1, (Array.getElem?_eq_some_iff.1 h2).1⟩
theorem R.none_ge (h : R P G n0 φ H w) {b : Nat} (hb : H.size ≤ b) : φ b = none := by
  cases hp : φ b with
  | none => rfl
  | some x => exact absurd (h.lt (c := x.1) (m := x.2) hp).1 (by omega)
structure Upd (w : World) (c : Nat) (o : Obj) (v : World) : Prop where
  at_ : v.heap[c]? = some o
  other : ∀ k, k ≠ c → v.heap[k]? = w.heap[k]?
  size : v.heap.size = w.heap.size
  os : v.os = w.os
  tape : v.tape = w.tape
  output : v.output = w.output
theorem Upd.below {c : Nat} {o : Obj} (h : Upd w c o v) (hc : n0 ≤ c) : Below n0 w v :=
  ⟨h.os, h.tape, h.output, by rw [h.size]; exact Nat.le_refl _, fun k hk => h.other k (by omega)⟩
theorem Upd.putObj {c : Nat} (o : Obj) (hc : c < w.heap.size) : Upd w c o (w.putObj c o) :=
  ⟨World.putObj_heap_same hc, fun k hk => World.putObj_heap_other hk, World.putObj_size, rfl, rfl, rfl⟩
theorem R.set (h : R P G n0 φ H w) {b c m : Nat} {ao ao' : AO} {o : Obj} (hb : φ b = some (c, m)) (hg : H.get b = some ao) (hd : ao ≠ .dead) (hro : ∀ cs e, ao ≠ .cells cs e .ro)
    (ho : OR P φ m ao' o) (hu : Upd w c o v) : Sim P G n0 φ H w φ (H.set b ao') v := by
  have hc : n0 ≤ c := by
    obtain ⟨ao₁, o₁, h1, _, _, h4⟩ := h.obj b c m hb
    rw [hg] at h1; cases h1
    rcases h4 with h4 | ⟨cs, e, h4⟩
    · exact h4
    · exact absurd h4 (hro cs e)
  refine ⟨Phi.le_refl _, fun _ h _ => h, Nat.le_refl _, ⟨?_, ?_, by rw [hu.size]; exact h.low, ?_⟩, hu.below hc⟩
  · intro b' c' m' hb'
    by_cases hbb : b' = b
    · subst hbb
      rw [hb] at hb'; cases hb'
      exact ⟨ao', o, by rw [AH.get_set hg, if_pos rfl], hu.at_, ho, .inl hc⟩
    · obtain ⟨ao₁, o₁, h1, h2, h3, h4⟩ := h.obj b' c' m' hb'
      by_cases hcc : c' = c
      · subst hcc
        have : H.get b' = some .dead := by
          apply Classical.byContradiction
          intro hn
          exact hbb (h.inj b' b c' m' m hb' hb hn (by rw [hg]; intro e; cases e; exact hd rfl))
        rw [this] at h1; cases h1
        exact ⟨.dead, o, by rw [AH.get_set hg, if_neg hbb, this], hu.at_, trivial, .inl hc⟩
      · exact ⟨ao₁, o₁, by rw [AH.get_set hg, if_neg hbb]; exact h1, by rw [hu.other _ hcc]; exact h2, h3, h4⟩
  · intro b₁ b₂ c' m₁ m₂ h1 h2 hn1 hn2
    refine h.inj b₁ b₂ c' m₁ m₂ h1 h2 ?_ ?_
    · rw [AH.get_set hg] at hn1
      by_cases e : b₁ = b
      · subst e; rw [hg]; intro e; cases e; exact hd rfl
      · rw [if_neg e] at hn1; exact hn1
    · rw [AH.get_set hg] at hn2
      by_cases e : b₂ = b
      · subst e; rw [hg]; intro e; cases e; exact hd rfl
      · rw [if_neg e] at hn2; exact hn2
  · intro g vs hgv
    obtain ⟨he, hlt⟩ := h.glob g vs hgv
    exact ⟨he.of (hu.other g (by omega)), hlt⟩
theorem R.kill (h : R P G n0 φ H w) {b c m : Nat} {ao : AO} (hb : φ b = some (c, m)) (hg : H.get b = some ao) (hro : ∀ cs e, ao ≠ .cells cs e .ro) : Sim P G n0 φ H w φ (H.set b .dead) w := by
  refine ⟨Phi.le_refl _, fun _ h _ => h, Nat.le_refl _, ⟨?_, ?_, h.low, h.glob⟩, Below.refl _ _⟩
  · intro b' c' m' hb'
    obtain ⟨ao₁, o₁, h1, h2, h3, h4⟩ := h.obj b' c' m' hb'
    by_cases hbb : b' = b
    · subst hbb
      rw [hg] at h1; cases h1
      refine ⟨.dead, o₁, by rw [AH.get_set hg, if_pos rfl], h2, trivial, ?_⟩
      rcases h4 with h4 | ⟨cs, e, h4⟩
      · exact .inl h4
      · exact absurd h4 (hro cs e)
    · exact ⟨ao₁, o₁, by rw [AH.get_set hg, if_neg hbb]; exact h1, h2, h3, h4⟩
  · intro b₁ b₂ c' m₁ m₂ h1 h2 hn1 hn2
    refine h.inj b₁ b₂ c' m₁ m₂ h1 h2 ?_ ?_
    · rw [AH.get_set hg] at hn1
      by_cases e : b₁ = b
      · rw [if_pos e] at hn1; exact absurd rfl hn1
      · rw [if_neg e] at hn1; exact hn1
    · rw [AH.get_set hg] at hn2
      by_cases e : b₂ = b
      · rw [if_pos e] at hn2; exact absurd rfl hn2
      · rw [if_neg e] at hn2; exact hn2
theorem R.pushU (h : R P G n0 φ H w) {ao : AO} (hp : H.push ao = some K) : Sim P G n0 φ H w φ K w := by
  have hne : ∀ b x, φ b = some x → b ≠ H.size := fun b x hb => by have := (h.lt (c := x.1) (m := x.2) hb).1; omega
  refine ⟨Phi.le_refl _, fun _ h _ => h, by rw [AH.push_size hp]; omega, ⟨?_, ?_, h.low, h.glob⟩, Below.refl _ _⟩
  · intro b c m hb
    rw [AH.get_push hp b (hne _ _ hb)]
    exact h.obj b c m hb
  · intro b b' c m m' h1 h2
    rw [AH.get_push hp b (hne _ _ h1), AH.get_push hp b' (hne _ _ h2)]
    exact h.inj b b' c m m' h1 h2
def Phi.put (φ : Phi) (p : Nat) (x : Nat × Nat) : Phi := fun b => if b = p then some x else φ b
theorem Phi.put_same (φ : Phi) (p : Nat) (x : Nat × Nat) : φ.put p x p = some x := if_pos rfl
theorem Phi.le_put {φ : Phi} {p : Nat} (x : Nat × Nat) (h : φ p = none) : φ.le (φ.put p x) := fun b y hb => by
  unfold Phi.put
  by_cases e : b = p
  · subst e; rw [h] at hb; cases hb
  · rw [if_neg e]; exact hb
structure New (w : World) (o : Obj) (v : World) : Prop where
  heap : v.heap = w.heap.push o
  os : v.os = w.os
  tape : v.tape = w.tape
  output : v.output = w.output
theorem New.alloc (w : World) (o : Obj) : New w o (w.alloc o) := ⟨rfl, rfl, rfl, rfl⟩
theorem New.old {o : Obj} (h : New w o v) {k : Nat} (hk : k < w.heap.size) : v.heap[k]? = w.heap[k]? := by
  rw [h.heap, Array.getElem?_push, if_neg (by omega)]
theorem New.fresh {o : Obj} (h : New w o v) : v.heap[w.heap.size]? = some o := by rw [h.heap]; simp
theorem New.below {o : Obj} (h : New w o v) (hn : n0 ≤ w.heap.size) : Below n0 w v :=
  ⟨h.os, h.tape, h.output, by rw [h.heap]; simp, fun k hk => h.old (by omega)⟩
theorem R.late (h : R P G n0 φ H w) {p m : Nat} {ao : AO} {o : Obj} (hp : φ p = none) (hg : H.get p = some ao) (ho : OR P (φ.put p (w.heap.size, m)) m ao o) (hn : New w o v) :
    R P G n0 (φ.put p (w.heap.size, m)) H v ∧ Below n0 w v := by
  have hle := Phi.le_put (w.heap.size, m) hp
  refine ⟨⟨?_, ?_, by have := h.low; rw [hn.heap]; simp; omega, ?_⟩, hn.below h.low⟩
  · intro b c m' hb
    unfold Phi.put at hb
    by_cases e : b = p
    · subst e
      rw [if_pos rfl] at hb; cases hb
      exact ⟨ao, o, hg, hn.fresh, ho, .inl h.low⟩
    · rw [if_neg e] at hb
      obtain ⟨ao₁, o₁, h1, h2, h3, h4⟩ := h.obj b c m' hb
      exact ⟨ao₁, o₁, h1, by rw [hn.old (h.lt hb).2]; exact h2, h3.mono hle, h4⟩
  · intro b b' c m₁ m₂ h1 h2 hn1 hn2
    unfold Phi.put at h1 h2
    by_cases e : b = p
    · by_cases e' : b' = p
      · rw [e, e']
      · rw [if_pos e] at h1; rw [if_neg e'] at h2; cases h1
        exact absurd (h.lt h2).2 (by omega)
    · by_cases e' : b' = p
      · rw [if_neg e] at h1; rw [if_pos e'] at h2; cases h2
        exact absurd (h.lt h1).2 (by omega)
      · rw [if_neg e] at h1; rw [if_neg e'] at h2
        exact h.inj b b' c m₁ m₂ h1 h2 hn1 hn2
  · intro g vs hgv
    obtain ⟨he, hlt⟩ := h.glob g vs hgv
    exact ⟨he.of (hn.old (by have := h.low; omega)), hlt⟩
theorem R.push (h : R P G n0 φ H w) {m : Nat} {ao : AO} {o : Obj} (hp : H.push ao = some K) (ho : OR P (φ.put H.size (w.heap.size, m)) m ao o) (hn : New w o v) :
    Sim P G n0 φ H w (φ.put H.size (w.heap.size, m)) K v := by
  have h1 := h.pushU hp
  have hnone : φ H.size = none := h.none_ge (Nat.le_refl _)
  obtain ⟨h2, h3⟩ := h1.r.late hnone (AH.push_new hp) ho hn
  refine ⟨Phi.le_put _ hnone, fun b hb hs => ?_, h1.sz, h2, h3⟩
  unfold Phi.put
  rw [if_neg (by omega)]; exact hb
theorem R.move (h : R P G n0 φ H w) {b c m : Nat} {ao ao' : AO} {o : Obj} (hb : φ b = some (c, m)) (hg : H.get b = some ao) (hd : ao ≠ .dead) (hro : ∀ cs e, ao ≠ .cells cs e .ro)
    (hp : (H.set b .dead).push ao' = some K) (ho : OR P φ m ao' o) (hu : Upd w c o v) : Sim P G n0 φ H w (φ.put H.size (c, m)) K v := by
  have hc : n0 ≤ c := by
    obtain ⟨ao₁, o₁, h1, _, _, h4⟩ := h.obj b c m hb
    rw [hg] at h1; cases h1
    rcases h4 with h4 | ⟨cs, e, h4⟩
    · exact h4
    · exact absurd h4 (hro cs e)
  have hnone : φ H.size = none := h.none_ge (Nat.le_refl _)
  have hle := Phi.le_put (c, m) hnone
  have hbs : b < H.size := AH.get_lt hg
  have hsz : (H.set b .dead).size = H.size := rfl
  have hnew : K.get H.size = some ao' := by have := AH.push_new hp; rwa [hsz] at this
  have hold : ∀ x, x ≠ H.size → x ≠ b → K.get x = H.get x := fun x hx hxb => by
    rw [AH.get_push hp x (by rw [hsz]; exact hx), AH.get_set hg, if_neg hxb]
  have hdead : K.get b = some .dead := by rw [AH.get_push hp b (by rw [hsz]; omega), AH.get_set hg, if_pos rfl]
  refine ⟨hle, fun x hx hs => ?_, by rw [AH.push_size hp, hsz]; omega, ⟨?_, ?_, by rw [hu.size]; exact h.low, ?_⟩, hu.below hc⟩
  · unfold Phi.put; rw [if_neg (by omega)]; exact hx
  · intro x c' m' hx
    unfold Phi.put at hx
    by_cases e : x = H.size
    · rw [if_pos e] at hx; cases hx; subst e
      exact ⟨ao', o, hnew, hu.at_, ho.mono hle, .inl hc⟩
    · rw [if_neg e] at hx
      obtain ⟨ao₁, o₁, h1, h2, h3, h4⟩ := h.obj x c' m' hx
      by_cases hxb : x = b
      · subst hxb
        rw [hb] at hx; cases hx
        exact ⟨.dead, o, hdead, hu.at_, trivial, .inl hc⟩
      · by_cases hcc : c' = c
        · subst hcc
          have : H.get x = some .dead := by
            apply Classical.byContradiction
            intro hn
            exact hxb (h.inj x b c' m' m hx hb hn (by rw [hg]; intro e; cases e; exact hd rfl))
          exact ⟨.dead, o, by rw [hold x e hxb, this], hu.at_, trivial, .inl hc⟩
        · exact ⟨ao₁, o₁, by rw [hold x e hxb]; exact h1, by rw [hu.other _ hcc]; exact h2, h3.mono hle, h4⟩
  · have key : ∀ x c' m', (φ.put H.size (c, m)) x = some (c', m') → K.get x ≠ some .dead → x ≠ b := fun x c' m' _ hn e => by subst e; exact hn hdead
    intro x y c' m₁ m₂ h1 h2 hn1 hn2
    have hxb := key x _ _ h1 hn1
    have hyb := key y _ _ h2 hn2
    unfold Phi.put at h1 h2
    by_cases e : x = H.size
    · by_cases e' : y = H.size
      · rw [e, e']
      · rw [if_pos e] at h1; rw [if_neg e'] at h2; cases h1
        rw [hold y e' hyb] at hn2
        exact absurd (h.inj y b c m₂ m h2 hb hn2 (by rw [hg]; intro e; cases e; exact hd rfl)) hyb
    · by_cases e' : y = H.size
      · rw [if_neg e] at h1; rw [if_pos e'] at h2; cases h2
        rw [hold x e hxb] at hn1
        exact absurd (h.inj x b c m₁ m h1 hb hn1 (by rw [hg]; intro e; cases e; exact hd rfl)) hxb
      · rw [if_neg e] at h1; rw [if_neg e'] at h2
        rw [hold x e hxb] at hn1
        rw [hold y e' hyb] at hn2
        exact h.inj x y c' m₁ m₂ h1 h2 hn1 hn2
  · intro g vs hgv
    obtain ⟨he, hlt⟩ := h.glob g vs hgv
    exact ⟨he.of (hu.other g (by omega)), hlt⟩
end
end
end Go.Proofs.YtikmfpjcdcckeaaGreatDoor.D
namespace Go.Proofs.YtikmfpjcdcckeaaGreatDoor.D
open Go Go.RowKit
noncomputable section
def calm {α : Type} (P : Program) : Sem α → Option α
  | .pure a => some a
  | .program k => calm P (k P)
  | _ => none
theorem calm_run {α : Type} {P : Program} : ∀ {s : Sem α} {a : α}, calm P s = some a → ∀ w, s.run P w = .ok a w := by
  intro s
  induction s with
  | pure a => intro b h w; simp [calm] at h; subst h; rfl
  | program k ih => intro b h w; exact ih P h w
  | _ => intro b h; simp [calm] at h
def AV.one : AV → Bool
  | .any | .agg _ | .tuple _ => false
  | .lit v => v.oneCell'
  | _ => true
theorem AV.one_sound {φ : Phi} {a : AV} {v : Value} (h : a.one = true) (hv : VR φ a v) : v.oneCell' = true := by
  cases a with
  | any => cases h
  | lit u => cases hv; exact h
  | ptr b o => obtain ⟨c, m, _, rfl⟩ := hv; rfl
  | gptr g o => cases hv; rfl
  | slice b o n cap => obtain ⟨c, m, k, _, rfl, _⟩ := hv; rfl
  | empty => obtain ⟨a, k, rfl⟩ := hv; rfl
  | map b => obtain ⟨c, m, _, rfl⟩ := hv; rfl
  | func fn xs ys => obtain ⟨as_, bs, rfl, _⟩ := hv; rfl
  | yield l => obtain ⟨c, m, _, rfl⟩ := hv; rfl
  | iface t a => obtain ⟨y, rfl, _⟩ := hv; rfl
  | agg cs => cases h
  | tuple cs => cases h
def AV.parts : AV → Option (List AV)
  | .any | .tuple _ => none
  | .lit v => some (v.cells.toList.map .lit)
  | .agg cs => some cs
  | a => some [a]
theorem AV.parts_sound {φ : Phi} {a : AV} {cs : List AV} {v : Value} (h : a.parts = some cs) (hv : VR φ a v) : VRs φ cs v.cells.toList := by
  cases a with
  | any => cases h
  | tuple _ => cases h
  | lit u => cases h; cases hv; exact VRs.lits _
  | agg ds => cases h; obtain ⟨as_, rfl, h2⟩ := hv; exact h2
  | ptr b o => cases h; have hv' := hv; obtain ⟨c, m, _, rfl⟩ := hv; exact VRs.cons hv' VRs.nil
  | gptr g o => cases h; have hv' := hv; cases hv; exact VRs.cons hv' VRs.nil
  | slice b o n cap => cases h; have hv' := hv; obtain ⟨c, m, k, _, rfl, _⟩ := hv; exact VRs.cons hv' VRs.nil
  | empty => cases h; have hv' := hv; obtain ⟨a, k, rfl⟩ := hv; exact VRs.cons hv' VRs.nil
  | map b => cases h; have hv' := hv; obtain ⟨c, m, _, rfl⟩ := hv; exact VRs.cons hv' VRs.nil
  | func fn xs ys => cases h; have hv' := hv; obtain ⟨as_, bs, rfl, _⟩ := hv; exact VRs.cons hv' VRs.nil
  | yield l => cases h; have hv' := hv; obtain ⟨c, m, _, rfl⟩ := hv; exact VRs.cons hv' VRs.nil
  | iface t a => cases h; have hv' := hv; obtain ⟨y, rfl, _⟩ := hv; exact VRs.cons hv' VRs.nil
def setMany {α : Type} : List α → Nat → List α → List α
  | l, _, [] => l
  | l, o, x :: xs => setMany (l.set o x) (o + 1) xs
theorem setMany_VRs {φ : Phi} : ∀ (cs : List AV) (xs : List Value) (as_ : List AV) (l : List Value) (o : Nat), VRs φ cs xs → VRs φ as_ l → VRs φ (setMany as_ o cs) (setMany l o xs)
  | [], _, as_, l, o, h, hl => by cases h; exact hl
  | c :: cs, _, as_, l, o, ⟨x, xs, h1, h2, h3⟩, hl => by subst h1; exact setMany_VRs cs xs _ _ _ h3 (hl.set o h2)
theorem setMany_length {α : Type} : ∀ (xs : List α) (l : List α) (o : Nat), (setMany l o xs).length = l.length
  | [], _, _ => rfl
  | x :: xs, l, o => by rw [setMany, setMany_length xs]; simp
theorem foldl_setMany (o : Nat) : ∀ (xs : List Value) (k : Nat) (arr : Array Value),
    ((xs.zipIdx k).foldl (fun cs (p : Value × Nat) => cs.setIfInBounds (o + p.2) p.1) arr).toList = setMany arr.toList (o + k) xs
  | [], _, _ => rfl
  | x :: xs, k, arr => by
    rw [List.zipIdx_cons, List.foldl_cons, foldl_setMany o xs (k + 1)]
    simp only [setMany, Array.toList_setIfInBounds]
    rw [Nat.add_assoc]
def fillA (place : Nat → Option (Nat × Nat)) (cells : List AV) : List (Nat × AV) → Option (List AV)
  | [] => some cells
  | (i, a) :: rest =>
    match place i, a.parts with
    | some (off, size), some cs => if cs.length ≠ size || off + cs.length > cells.length then none else fillA place (setMany cells off cs) rest
    | _, _ => none
theorem fillA_sound {φ : Phi} {place : Nat → Option (Nat × Nat)} : ∀ (ps : List (Nat × AV)) (qs : List (Nat × Value)) (cells : List AV) (arr : Array Value) (out : List AV),
    fillA place cells ps = some out → VRs φ cells arr.toList → ps.map (·.1) = qs.map (·.1) → VRs φ (ps.map (·.2)) (qs.map (·.2)) → ∃ arr', Instr.fill place arr qs = some arr' ∧ VRs φ out arr'.toList
  | [], [], cells, arr, out, h, hc, _, _ => by simp [fillA] at h; subst h; exact ⟨arr, rfl, hc⟩
  | [], _ :: _, _, _, _, _, _, h, _ => by simp at h
  | _ :: _, [], _, _, _, _, _, h, _ => by simp at h
  | (i, a) :: ps, (j, v) :: qs, cells, arr, out, h, hc, hi, hv => by
    simp only [List.map_cons, List.cons.injEq] at hi hv
    obtain ⟨rfl, hi⟩ := hi
    obtain ⟨x, xs, hx, hv1, hv2⟩ := hv
    cases hx
    simp only [fillA] at h
    split at h
    case h_2 => cases h
    rename_i off size cs hp hcs
    split at h
    · cases h
    rename_i hn
    have hvc := AV.parts_sound hcs hv1
    have hlen := hvc.length
    have hlc := hc.length
    simp only [Array.length_toList] at hlen hlc
    simp only [Bool.or_eq_true, decide_eq_true_eq, not_or, bne_iff_ne, ne_eq, Decidable.not_not, Nat.not_lt] at hn
    simp only [Instr.fill, hp]
    rw [if_neg (by simp only [Bool.or_eq_true, decide_eq_true_eq, not_or, bne_iff_ne, ne_eq, Decidable.not_not]; omega)]
    refine fillA_sound ps qs _ _ out h ?_ hi hv2
    have he := foldl_setMany off v.cells.toList 0 arr
    rw [Nat.add_zero] at he
    have : (v.cells.zipIdx.foldl (fun (cs : Array Value) (p : Value × Nat) => cs.setIfInBounds (off + p.2) p.1) arr).toList = setMany arr.toList off v.cells.toList := by
      rw [← he, ← Array.foldl_toList, Array.toList_zipIdx]
    rw [show (v.cells.zipIdx.foldl (fun (cs : Array Value) (x : Value × Nat) => match x with | (c, j) => cs.setIfInBounds (off + j) c) arr) = (v.cells.zipIdx.foldl (fun (cs : Array Value) (p : Value × Nat) => cs.setIfInBounds (off + p.2) p.1) arr) from rfl, this]
    exact setMany_VRs _ _ _ _ _ hvc hc
def isRowB (P : Program) (t : TypeId) : Option Bool :=
  match P.underlying t with
  | some (.struct _) | some (.array _ _) => some true
  | some _ => some false
  | none => none
def sizeB (P : Program) (t : TypeId) : Option Nat := (P.info? t).map (·.size)
theorem run_isAgg {P : Program} {t : TypeId} {b : Bool} (h : isRowB P t = some b) (w : World) : (isAgg t).run P w = .ok b w := by
  unfold isRowB at h
  cases hu : P.underlying t with
  | none => simp [hu] at h
  | some d =>
    unfold isAgg
    rw [Sem.run_bind, run_underlying hu w]
    cases d <;> simp_all
theorem run_sizeB {P : Program} {t : TypeId} {n : Nat} (h : sizeB P t = some n) (w : World) : (sizeOf t).run P w = .ok n w := by
  unfold sizeB at h
  cases hi : P.info? t with
  | none => simp [hi] at h
  | some i => simp [hi] at h; simp [sizeOf, typeInfo, hi, h]
def partA (P : Program) (t : TypeId) (cs : List AV) (off : Nat) : Option AV :=
  match isRowB P t with
  | some true => match sizeB P t with
    | some n => some (.agg ((cs.drop off).take n))
    | none => none
  | some false => cs[off]?
  | none => none
theorem partA_sound {P : Program} {φ : Phi} {t : TypeId} {cs : List AV} {off : Nat} {r : AV} {arr : Array Value} (h : partA P t cs off = some r) (hv : VRs φ cs arr.toList) :
    ∃ v, VR φ r v ∧ ∀ w, (part t arr off).run P w = .ok v w := by
  unfold partA at h
  split at h
  · rename_i hb
    split at h
    · rename_i n hn
      cases h
      refine ⟨.agg (arr.extract off (off + n)), ⟨_, rfl, ?_⟩, fun w => ?_⟩
      · have := (hv.drop off).take n
        rw [Array.toList_extract]
        simpa using this
      · simp [part, run_isAgg hb w, run_sizeB hn w]
    · cases h
  · rename_i hb
    obtain ⟨x, hx, hvx⟩ := hv.get h
    refine ⟨x, hvx, fun w => ?_⟩
    have hx' : arr[off]? = some x := by simpa using hx
    simp [part, run_isAgg hb w, hx']
  · cases h
end
end Go.Proofs.YtikmfpjcdcckeaaGreatDoor.D
