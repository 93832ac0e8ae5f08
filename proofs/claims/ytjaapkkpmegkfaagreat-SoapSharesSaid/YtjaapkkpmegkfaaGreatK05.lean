/- Part 5 of what the law's proof needs: words, walks of functions and plain facts. -/
import Derived.RangeFuncNested
import Derived.RangeFuncBound
import Derived.RangeFuncCalls
import Derived.RangeFuncLeaves
import Derived.Shelf.Abstract
import Derived.Shelf.RegionOpen
import Derived.OwnWalkIn
import Derived.TacticsInMore
import Derived.LoopNIn
import Derived.LoopIn
import Derived.WalkKit
import Derived.Test.YtjaapkkpmegkfaaGreatK02
import Derived.Test.YtjaapkkpmegkfaaGreatK04
set_option linter.unusedVariables false
set_option linter.unusedSimpArgs false
namespace Go.Proofs.YtjaapkkpmegkfaaGreat.P
open Go.RowKit Go.Proofs.YtjaapkkpmegkfaaGreatW.PrintWords Go.Proofs.YtjaapkkpmegkfaaGreatW.PrintLast Go.Proofs.YtjaapkkpmegkfaaGreatW.PrintMore
attribute [local go_sem] max2_int min2_int max_two min_two max_three min_three max_four min_four
def soap_most.f (a0_0 : Int) (a0_1 : Int) (a0_2 : Int) (a0_3 : Int) (a0_4 : Int) : Option (Int) := some a0_1
set_option maxHeartbeats 8000000 in
set_option maxRecDepth 100000 in
theorem soap_most.calls (a0_0 : Int) (a0_1 : Int) (a0_2 : Int) (a0_3 : Int) (a0_4 : Int) (r : Int) (w : World) (h : soap_most.f a0_0 a0_1 a0_2 a0_3 a0_4 = some r) :
  Calls Tryz.prog 107 #[.agg #[.int .i64 a0_0, .int .i64 a0_1, .int .i64 a0_2, .int .i64 a0_3, .int .i64 a0_4]] w fun e w' => e = .returned (.int .i64 r) ∧ Below w.heap.size w w' := by
 have hu100 := Tryz.underlying100
 have HB := Aside0.mk (Below.refl w.heap.size w)
 have H : (some a0_1) = some r := h
 clear h
 obtain rfl := Option.some.inj H
 go_enter Tryz.func107, Tryz.ntmps107
 go_wp2_with (first | ((with_reducible refine gate_dst (N := 1) rfl ?_); refine bx 1 #[.int .i64 a0_0, .int .i64 a0_1, .int .i64 a0_2, .int .i64 a0_3, .int .i64 a0_4] 100 ?_; intro gb101 hg w2 hbox hb; have BK101 := hbox; have GW101 := gs HB hg; have GE101 := gs HB hg; replace HB := bs HB hb; clear hb hbox hg; obtain ⟨_, _, _, _, _, _, _, _, _, _⟩ := cf5 BK101))
 go_ret
 exact ⟨eT, pE HB⟩
def soap_job_total_at_soap_most.l0 : Nat → Int → List Int → Int → Int → Int → Int → Int → Int → Int → List (S100) → Option (Int)
 | 0, _, _, _, _, _, _, _, _, _, _ => none
 | k + 1, x6, x9, x10, x11, x102000, x102001, x102002, x102003, x102004, x102005 => if x11 < x10 then (if 0 ≤ x11 then (if x11 < (x9.length : Int) then (if x11 < (x102005.length : Int) then ((soap_most.f ((rd_T100 x102005 x11).f0.f0) ((rd_T100 x102005 x11).f0.f1) ((rd_T100 x102005 x11).f1) ((rd_T100 x102005 x11).f2) ((rd_T100 x102005 x11).f3)).bind fun t104 => (soap_job_total_at_soap_most.l0 k (wrap64 (x6 + (wrap64 ((rd x9 x11) * t104)))) x9 x10 (wrap64 (x11 + 1)) x102000 x102001 x102002 x102003 x102004 x102005)) else (none)) else (none)) else (none)) else (some x6)
def soap_job_total_at_soap_most.f (k : Nat) (a0_0 : Int) (a0_1 : Int) (a0_2 : Int) (a0_3 : Int) (a0_4 : Int) (l0_5 : List (S100)) (l1 : List Int)  : Option (Int) := soap_job_total_at_soap_most.l0 k 0 l1 (l1.length : Int) 0 a0_0 a0_1 a0_2 a0_3 a0_4 l0_5
theorem soap_job_total_at_soap_most.mono_l : ∀ k, (∀ y0 y1 y2 y3 y4 y5 y6 y7 y8 y9, LeO (soap_job_total_at_soap_most.l0 k y0 y1 y2 y3 y4 y5 y6 y7 y8 y9) (soap_job_total_at_soap_most.l0 (k + 1) y0 y1 y2 y3 y4 y5 y6 y7 y8 y9))
 | 0 => fun _ _ _ _ _ _ _ _ _ _ r h => by simp [soap_job_total_at_soap_most.l0] at h
 | k + 1 => by
  have ih0 := soap_job_total_at_soap_most.mono_l k
  ·intro y0 y1 y2 y3 y4 y5 y6 y7 y8 y9
   unfold soap_job_total_at_soap_most.l0
   repeat' first
   | (with_reducible exact ih0 _ _ _ _ _ _ _ _ _ _)
   | (with_reducible exact LeO.refl _)
   | (with_reducible exact LeO.none _)
   | (with_reducible refine LeO.ite ?_ ?_)
   | (with_reducible refine LeO.bind ?_ (fun _ => ?_))
   | exact ih0 _ _ _ _ _ _ _ _ _ _
   | exact LeO.none _
   | refine LeO.ite ?_ ?_
   | refine LeO.bind ?_ (fun _ => ?_)
theorem soap_job_total_at_soap_most.mono : ∀ a0 a1 a2 a3 a4 a5 a6 k, LeO (soap_job_total_at_soap_most.f k a0 a1 a2 a3 a4 a5 a6) (soap_job_total_at_soap_most.f (k + 1) a0 a1 a2 a3 a4 a5 a6) := by
 intro a0 a1 a2 a3 a4 a5 a6 k
 have ih0 := soap_job_total_at_soap_most.mono_l k
 unfold soap_job_total_at_soap_most.f
 repeat' first
   | (with_reducible exact ih0 _ _ _ _ _ _ _ _ _ _)
   | (with_reducible exact LeO.refl _)
   | (with_reducible exact LeO.none _)
   | (with_reducible refine LeO.ite ?_ ?_)
   | (with_reducible refine LeO.bind ?_ (fun _ => ?_))
   | exact ih0 _ _ _ _ _ _ _ _ _ _
   | exact LeO.none _
   | refine LeO.ite ?_ ?_
   | refine LeO.bind ?_ (fun _ => ?_)
set_option maxHeartbeats 8000000 in
set_option maxRecDepth 100000 in
theorem soap_job_total_at_soap_most.calls (k : Nat) (a0_0 : Int) (a0_1 : Int) (a0_2 : Int) (a0_3 : Int) (a0_4 : Int) (A0_5 : Option Addr) (c0_5 : Nat) (l0_5 : List (S100)) (A1 : Option Addr) (c1 : Nat) (l1 : List Int)  (r : Int) (w : World) (hr0_5 : Kd.C k100 w A0_5 l0_5.length l0_5) (hc0_5 : l0_5.length ≤ c0_5) (hr1 : Kd.C (Kd.int .i64) w A1 l1.length l1) (hc1 : l1.length ≤ c1) (h : soap_job_total_at_soap_most.f k a0_0 a0_1 a0_2 a0_3 a0_4 l0_5 l1 = some r) :
  Calls Tryz.prog 74 #[.agg #[.int .i64 a0_0, .int .i64 a0_1, .int .i64 a0_2, .int .i64 a0_3, .int .i64 a0_4, .slice A0_5 l0_5.length c0_5], .slice A1 l1.length c1, .func (.func 107) #[] #[]] w fun e w' => e = .returned (.int .i64 r) ∧ Below w.heap.size w w' := by
 have hu120 := Tryz.underlying120
 have hu100 := Tryz.underlying100
 have HR0_5 := Aside0.mk hr0_5
 have HC0_5 := Aside0.mk hc0_5
 clear hr0_5 hc0_5
 have HR1 := Aside0.mk hr1
 have HC1 := Aside0.mk hc1
 clear hr1 hc1
 have HB := Aside0.mk (Below.refl w.heap.size w)
 have H : (soap_job_total_at_soap_most.l0 k 0 l1 (l1.length : Int) 0 a0_0 a0_1 a0_2 a0_3 a0_4 l0_5) = some r := h
 clear h
 have H' := Aside0.mk H
 clear H
 go_enter Tryz.func74, Tryz.ntmps74
 go_wp2_with (first | ((with_reducible refine gate_dst (N := 3) rfl ?_); refine bx 3 #[.int .i64 a0_0, .int .i64 a0_1, .int .i64 a0_2, .int .i64 a0_3, .int .i64 a0_4, .slice A0_5 l0_5.length c0_5] 120 ?_; intro gb101 hg w4 hbox hb; have BK101 := hbox; have GW101 := gs HB hg; have GE101 := gs HB hg; replace HB := bs HB hb; clear hb hbox hg))
 (try simp only [Act.put, List.setIfInBounds_toArray, List.set_cons_zero, List.set_cons_succ])
 go_loopg [6, 11] k (fun kq v6 v11 w' => ∃ (x6_1 : Int) (x11_1 : Int), v6 = .int .i64 x6_1 ∧ v11 = .int .i64 x11_1 ∧ Aside0 (soap_job_total_at_soap_most.l0 kq x6_1 l1 (l1.length : Int) x11_1 a0_0 a0_1 a0_2 a0_3 a0_4 l0_5 = some r) ∧ Aside0 (kq ≤ k) ∧ Aside0 (w'.heap[gb101]? = some (.cells #[.int .i64 a0_0, .int .i64 a0_1, .int .i64 a0_2, .int .i64 a0_3, .int .i64 a0_4, (.slice A0_5 l0_5.length c0_5)] 120 (0, 0))) ∧ Aside0 (Below w.heap.size w w'))
 case atStart => exact ⟨(0), (0), (by first | rfl | (simp; done) | (simp [*]; done)), (by first | rfl | (simp; done) | (simp [*]; done)), H', ⟨Nat.le_refl _⟩, ⟨by (with_reducible repeat (first | refine blk_drewN ?_ _ | refine blk_drew ?_ | refine blk_alloc ?_ _)); exact BK101.out⟩, ⟨pE HB⟩⟩
 case round =>
  clear H'
  try clear c1
  try clear p2
  obtain ⟨x6_1, x11_1, rfl, rfl, HA, HK1, BK101, HB⟩ := hrel
  cases gk with
  | zero => exact absurd HA.out (by simp [soap_job_total_at_soap_most.l0])
  | succ k1 =>
   have H := HA.out
   clear HA
   simp only [soap_job_total_at_soap_most.l0] at H
   by_cases c5 : x11_1 < (l1.length : Int)
   ·rw [if_pos c5] at H
    have c5b0 : decide (x11_1 < (l1.length : Int)) = true := decide_eq_true c5
    clear c5
    by_cases c6 : 0 ≤ x11_1
    ·rw [if_pos c6] at H
     have c6b0 : decide (0 ≤ x11_1) = true := decide_eq_true c6
     clear c6
     by_cases c7 : x11_1 < (l1.length : Int)
     ·rw [if_pos c7] at H
      have c7b0 : decide (x11_1 < (l1.length : Int)) = true := decide_eq_true c7
      clear c7
      by_cases c8 : x11_1 < (l0_5.length : Int)
      ·rw [if_pos c8] at H
       have c8b0 : decide (x11_1 < (l0_5.length : Int)) = true := decide_eq_true c8
       clear c8
       obtain ⟨t104, A9, H⟩ := bi H
       have H' := Aside0.mk H
       clear H
       have p102 : 0 ≤ (x11_1 : Int) := dT
       have q102 : x11_1 < (l1.length : Int) := dT
       obtain ⟨ad102, e102, hx102_0⟩ := Kd.at_int HR1.out x11_1 p102 q102
       cases e102
       replace hx102_0 := cut_ HB hx102_0
       replace p102 := eq_true p102
       replace q102 := eq_true q102
       obtain ⟨_, _, _, _, _, _, _, _, _, _, _, _⟩ := cf6 BK101
       have p103 : 0 ≤ (x11_1 : Int) := dT
       have q103 : x11_1 < (l0_5.length : Int) := dT
       obtain ⟨ad103, e103, hx103_0, hx103_1, hx103_2, hx103_3, hx103_4⟩ := at_T100 HR0_5.out x11_1 p103 q103
       cases e103
       replace hx103_0 := cut_ HB hx103_0
       replace hx103_1 := cut_ HB hx103_1
       replace hx103_2 := cut_ HB hx103_2
       replace hx103_3 := cut_ HB hx103_3
       replace hx103_4 := cut_ HB hx103_4
       replace p103 := eq_true p103
       replace q103 := eq_true q103
       go_wp2_with (first | (go_at_call 107; (with_reducible refine (soap_most.calls ((rd_T100 l0_5 x11_1).f0.f0) ((rd_T100 l0_5 x11_1).f0.f1) ((rd_T100 l0_5 x11_1).f1) ((rd_T100 l0_5 x11_1).f2) ((rd_T100 l0_5 x11_1).f3) t104 _ A9.out).mono ?_); rintro e w11 ⟨rfl, hb⟩; replace BK101 := bb BK101 hb; replace HB := bs HB hb; (try clear hb); (try clear hb2); (try clear hk); (try clear hi)))
       go_roundg k1
       case measure => have := HK1.out; omega
       case rel => exact ⟨(wrap64 (x6_1 + (wrap64 ((rd l1 x11_1) * t104)))), (wrap64 (x11_1 + 1)), (by first | rfl | (simp; done) | (simp [*]; done)), (by first | rfl | (simp; done) | (simp [*]; done)), H', ⟨by have := HK1.out; omega⟩, ⟨by (with_reducible repeat (first | refine blk_drewN ?_ _ | refine blk_drew ?_ | refine blk_alloc ?_ _)); exact BK101.out⟩, ⟨pE HB⟩⟩
      ·rw [if_neg c8] at H
       exact absurd H (by simp)
     ·rw [if_neg c7] at H
      exact absurd H (by simp)
    ·rw [if_neg c6] at H
     exact absurd H (by simp)
   ·rw [if_neg c5] at H
    have c5b0 : decide (x11_1 < (l1.length : Int)) = false := decide_eq_false c5
    clear c5
    obtain rfl := Option.some.inj H
    go_wp2
    go_ret
    exact ⟨eT, pE HB⟩
def soap_job_over.f (k : Nat) (a0_0 : Int) (a0_1 : Int) (a0_2 : Int) (a0_3 : Int) (a0_4 : Int) (l0_5 : List (S100)) (l1 : List Int) : Option (Int × Int) := (soap_job_grease.f a0_0 a0_1 a0_2 a0_3 a0_4 l0_5).bind fun bt103 => ((soap_job_total_at_soap_least.f k a0_0 a0_1 a0_2 a0_3 a0_4 l0_5 l1).bind fun t106 => ((soap_job_total_at_soap_most.f k a0_0 a0_1 a0_2 a0_3 a0_4 l0_5 l1).bind fun t107 => (some (wrap64 (t106 - bt103.2), wrap64 (t107 - bt103.1)))))
theorem soap_job_over.mono : ∀ a0 a1 a2 a3 a4 a5 a6 k, LeO (soap_job_over.f k a0 a1 a2 a3 a4 a5 a6) (soap_job_over.f (k + 1) a0 a1 a2 a3 a4 a5 a6) := by
 intro a0 a1 a2 a3 a4 a5 a6 k
 unfold soap_job_over.f
 repeat' first
   | (with_reducible exact soap_job_total_at_soap_least.mono _ _ _ _ _ _ _ _)
   | (with_reducible exact soap_job_total_at_soap_most.mono _ _ _ _ _ _ _ _)
   | (with_reducible exact LeO.refl _)
   | (with_reducible exact LeO.none _)
   | (with_reducible refine LeO.ite ?_ ?_)
   | (with_reducible refine LeO.bind ?_ (fun _ => ?_))
   | exact soap_job_total_at_soap_least.mono _ _ _ _ _ _ _ _
   | exact soap_job_total_at_soap_most.mono _ _ _ _ _ _ _ _
   | exact LeO.none _
   | refine LeO.ite ?_ ?_
   | refine LeO.bind ?_ (fun _ => ?_)
def soap_job_over.T2 : Bool × List (List Nat × List Nat) := (true, [([], []), ([], []), ([0, 1], [0, 1]), ([], []), ([3], [3]), ([2, 4], [2, 4]), ([], []), ([], []), ([6, 7, 2], [6, 7]), ([], []), ([9], [9]), ([8, 10], [8, 10]), ([5, 11], [5, 11]), ([12, 8, 0, 1, 2, 3, 4, 5, 6, 7, 8, 9, 10, 11, 12], [12])])
def soap_job_over.B2 : List Nat := [0, 0, 3, 0, 8, 31, 0, 0, 199, 0, 512, 1991, 4095, 8191]
theorem soap_job_over.tab2 : rtab .any (opsOf Tryz.f73 2) = soap_job_over.T2 := by kernel_rfl
theorem soap_job_over.bits2 : waitsOk soap_job_over.T2.2 soap_job_over.B2 = true := by kernel_rfl
set_option maxHeartbeats 8000000 in
set_option maxRecDepth 100000 in
theorem soap_job_over.calls (k : Nat) (a0_0 : Int) (a0_1 : Int) (a0_2 : Int) (a0_3 : Int) (a0_4 : Int) (A0_5 : Option Addr) (c0_5 : Nat) (l0_5 : List (S100)) (A1 : Option Addr) (c1 : Nat) (l1 : List Int) (r1 : Int) (r2 : Int) (w : World) (hr0_5 : Kd.C k100 w A0_5 l0_5.length l0_5) (hc0_5 : l0_5.length ≤ c0_5) (hr1 : Kd.C (Kd.int .i64) w A1 l1.length l1) (hc1 : l1.length ≤ c1) (h : soap_job_over.f k a0_0 a0_1 a0_2 a0_3 a0_4 l0_5 l1 = some (r1, r2)) :
  Calls Tryz.prog 73 #[.agg #[.int .i64 a0_0, .int .i64 a0_1, .int .i64 a0_2, .int .i64 a0_3, .int .i64 a0_4, .slice A0_5 l0_5.length c0_5], .slice A1 l1.length c1] w fun e w' => e = .returned (.agg #[.int .i64 r1, .int .i64 r2]) ∧ Below w.heap.size w w' := by
 have hu120 := Tryz.underlying120
 have hu24 := Tryz.underlying24
 have HR0_5 := Aside0.mk hr0_5
 have HC0_5 := Aside0.mk hc0_5
 clear hr0_5 hc0_5
 have HR1 := Aside0.mk hr1
 have HC1 := Aside0.mk hc1
 clear hr1 hc1
 have HB := Aside0.mk (Below.refl w.heap.size w)
 have H : ((soap_job_grease.f a0_0 a0_1 a0_2 a0_3 a0_4 l0_5).bind fun bt103 => ((soap_job_total_at_soap_least.f k a0_0 a0_1 a0_2 a0_3 a0_4 l0_5 l1).bind fun t106 => ((soap_job_total_at_soap_most.f k a0_0 a0_1 a0_2 a0_3 a0_4 l0_5 l1).bind fun t107 => (some (wrap64 (t106 - bt103.2), wrap64 (t107 - bt103.1)))))) = some (r1, r2) := h
 clear h
 obtain ⟨⟨t103, t104⟩, A3, H⟩ := bi H
 obtain ⟨t106, A4, H⟩ := bi H
 obtain ⟨t107, A5, H⟩ := bi H
 simp only [Option.some.injEq, Prod.mk.injEq] at H
 obtain ⟨rfl, rfl⟩ := H
 go_enter Tryz.func73, Tryz.ntmps73
 try go_wp2_with (first | ((with_reducible refine gate_dst (N := 2) rfl ?_); refine bx 2 #[.int .i64 a0_0, .int .i64 a0_1, .int .i64 a0_2, .int .i64 a0_3, .int .i64 a0_4, .slice A0_5 l0_5.length c0_5] 120 ?_; intro gb101 hg w6 hbox hb; have BK101 := hbox; have GW101 := gs HB hg; have GE101 := gs HB hg; replace HB := bs HB hb; clear hb hbox hg) | ((with_reducible refine gate_dst (N := 4) rfl ?_); refine bx 4 #[.int .i64 0, .int .i64 0] 24 ?_; intro gb102 hg w7 hbox hb; have BK102 := hbox; have GW102 := gs HB hg; have GE102 := gs HB hg; replace HB := bs HB hb; have NB101_102 := nl BK101 hg; have NB102_101 := nr BK101 hg; replace BK101 := bb BK101 hb; clear hb hbox hg; have hnb8 := NB101_102.out; have hnc8 := NB102_101.out; obtain ⟨_, _, _, _, _, _, _, _, _, _, _, _⟩ := cf6 BK101) | ((with_reducible refine gc 71 rfl ?_); refine gL 7 Tryz.func71 #[.agg #[.int .i64 a0_0, .int .i64 a0_1, .int .i64 a0_2, .int .i64 a0_3, .int .i64 a0_4, .slice A0_5 l0_5.length c0_5]] ?_; (with_reducible refine (soap_job_grease.calls a0_0 a0_1 a0_2 a0_3 a0_4 _ _ l0_5 t103 t104 _ ?side1 ?side2 A3.out).mono ?_); (case side1 => exact pC (Kd.C_below HR0_5.out HB.out)); (case side2 => exact HC0_5.out); rintro e w10 ⟨rfl, hb⟩; refine ⟨_, rfl, ?_⟩; replace BK101 := bb BK101 hb; replace BK102 := bb BK102 hb; replace HB := bs HB hb; clear hb) | ((with_reducible refine gate_dst (N := 5) rfl ?_); refine bx 5 #[.int .i64 0, .int .i64 0] 24 ?_; intro gb105 hg w11 hbox hb; have BK105 := hbox; have GW105 := gs HB hg; have GE105 := gs HB hg; replace HB := bs HB hb; have NB101_105 := nl BK101 hg; have NB105_101 := nr BK101 hg; replace BK101 := bb BK101 hb; have NB102_105 := nl BK102 hg; have NB105_102 := nr BK102 hg; replace BK102 := bb BK102 hb; clear hb hbox hg; have hnb12 := NB105_101.out; have hnc12 := NB101_105.out; have hnb13 := NB105_102.out; have hnc13 := NB102_105.out; obtain ⟨_, _, _, _⟩ := cf2 BK105))
 have n0_ : Aside0 (((w11.setCell ⟨gb105, 0, none⟩ (.int .i64 t103)).setCell ⟨gb105, 1, none⟩ (.int .i64 t104)).heap[gb101]? = some (.cells #[.int .i64 a0_0, .int .i64 a0_1, .int .i64 a0_2, .int .i64 a0_3, .int .i64 a0_4, .slice A0_5 l0_5.length c0_5] 120 (0, 0))) := ⟨by refine pB ?_; refine blk_far ?_ NB101_105.out _; refine pB ?_; refine blk_far ?_ NB101_105.out _; (with_reducible repeat (first | refine blk_drewN ?_ _ | refine blk_drew ?_ | refine blk_alloc ?_ _)); exact BK101.out⟩
 have n1_ : Aside0 (((w11.setCell ⟨gb105, 0, none⟩ (.int .i64 t103)).setCell ⟨gb105, 1, none⟩ (.int .i64 t104)).heap[gb102]? = some (.cells #[.int .i64 0, .int .i64 0] 24 (0, 0))) := ⟨by refine pB ?_; refine blk_far ?_ NB102_105.out _; refine pB ?_; refine blk_far ?_ NB102_105.out _; (with_reducible repeat (first | refine blk_drewN ?_ _ | refine blk_drew ?_ | refine blk_alloc ?_ _)); exact BK102.out⟩
 have n2_ : Aside0 (((w11.setCell ⟨gb105, 0, none⟩ (.int .i64 t103)).setCell ⟨gb105, 1, none⟩ (.int .i64 t104)).heap[gb105]? = some (.cells #[.int .i64 t103, .int .i64 t104] 24 (0, 0))) := ⟨by refine pB ?_; refine blk_put (cs := #[.int .i64 t103, .int .i64 0]) ?_ 1 _ rfl; refine pB ?_; refine blk_put (cs := #[.int .i64 0, .int .i64 0]) ?_ 0 _ rfl; (with_reducible repeat (first | refine blk_drewN ?_ _ | refine blk_drew ?_ | refine blk_alloc ?_ _)); exact BK105.out⟩
 have n3_ : Aside0 (Below w.heap.size w ((w11.setCell ⟨gb105, 0, none⟩ (.int .i64 t103)).setCell ⟨gb105, 1, none⟩ (.int .i64 t104))) := ⟨pE HB⟩
 (try clear BK101)
 (try clear BK102)
 (try clear BK105)
 (try clear HB)
 generalize ((w11.setCell ⟨gb105, 0, none⟩ (.int .i64 t103)).setCell ⟨gb105, 1, none⟩ (.int .i64 t104)) = w15 at n0_ n1_ n2_ n3_ ⊢
 have BK101 := n0_
 have BK102 := n1_
 have BK105 := n2_
 have HB := n3_
 clear n0_ n1_ n2_ n3_
 replace BK101 := Aside0.mk (blk_drew BK101.out)
 replace BK102 := Aside0.mk (blk_drew BK102.out)
 replace BK105 := Aside0.mk (blk_drew BK105.out)
 replace HB := Aside0.mk (below_drew1 HB.out)
 refine start_ (n := 14) (S := fun w' => w'.cell? ⟨gb101, 0, none⟩ = some (.int .i64 a0_0) ∧ w'.cell? ⟨gb101, 1, none⟩ = some (.int .i64 a0_1) ∧ w'.cell? ⟨gb101, 2, none⟩ = some (.int .i64 a0_2) ∧ w'.cell? ⟨gb101, 3, none⟩ = some (.int .i64 a0_3) ∧ w'.cell? ⟨gb101, 4, none⟩ = some (.int .i64 a0_4) ∧ w'.cell? ⟨gb101, 5, none⟩ = some (.slice A0_5 l0_5.length c0_5) ∧ w'.cell? ⟨gb105, 0, none⟩ = some (.int .i64 t103) ∧ w'.cell? ⟨gb105, 1, none⟩ = some (.int .i64 t104)) (ds := []) #[false, false, false, false, false, false, false, false, false, false, false, false, false, false] (by kernel_rfl) rfl rfl ⟨(blk_cell BK101.out 0).trans rfl, (blk_cell BK101.out 1).trans rfl, (blk_cell BK101.out 2).trans rfl, (blk_cell BK101.out 3).trans rfl, (blk_cell BK101.out 4).trans rfl, (blk_cell BK101.out 5).trans rfl, (blk_cell BK105.out 0).trans rfl, (blk_cell BK105.out 1).trans rfl⟩ (fun hHeld => ?_); refine with_tabW soap_job_over.tab2 soap_job_over.bits2 (fun HT_ HW_ => ?_)
 generalize w15.drew = w16 at BK101 BK102 BK105 HB hHeld ⊢
 refine pu 1 9 ?_
 refine pu 3 11 ?_
 refine pu 7 15 ?_
 refine pu 9 17 ?_
 refine tk 0 8 hHeld ?_
 refine tk 4 12 hHeld ?_
 refine tk 6 14 hHeld ?_
 refine tk 10 18 hHeld ?_
 refine on 2 (fun K hK => ?_)
 refine gO Tryz.func74 #[.agg #[.int .i64 a0_0, .int .i64 a0_1, .int .i64 a0_2, .int .i64 a0_3, .int .i64 a0_4, .slice A0_5 l0_5.length c0_5], .slice A1 l1.length c1, .func (.func 106) #[] #[]] ?_
 with_reducible refine (soap_job_total_at_soap_least.calls k a0_0 a0_1 a0_2 a0_3 a0_4 _ _ l0_5 _ _ l1  t106 _ ?side1 ?side2 ?side3 ?side4 A4.out).mono ?_
 (case side1 => exact pC (Kd.C_below HR0_5.out HB.out))
 (case side2 => exact HC0_5.out)
 (case side3 => exact pC (Kd.C_below HR1.out HB.out))
 (case side4 => exact HC1.out)
 rintro e w17 ⟨rfl, hb⟩
 refine ⟨_, rfl, ?_⟩
 replace BK101 := bb BK101 hb
 replace BK102 := bb BK102 hb
 replace BK105 := bb BK105 hb
 replace HB := bs HB hb
 (try clear hb)
 (try clear hb2)
 (try clear hk)
 (try clear hi)
 refine hK.out _ _ ⟨(blk_cell BK101.out 0).trans rfl, (blk_cell BK101.out 1).trans rfl, (blk_cell BK101.out 2).trans rfl, (blk_cell BK101.out 3).trans rfl, (blk_cell BK101.out 4).trans rfl, (blk_cell BK101.out 5).trans rfl, (blk_cell BK105.out 0).trans rfl, (blk_cell BK105.out 1).trans rfl⟩ (fun hHeld => ?_)
 clear hK K
 refine norm_ (a' := ?_) ?_ ?_
 rotate_left
 ·show Act.put _ (some 10) _ = _
  simp only [Act.put, List.setIfInBounds_toArray, List.set_cons_zero, List.set_cons_succ, i64_w, i32_w]
  rfl
 refine pu 5 13 ?_
 refine on 8 (fun K hK => ?_)
 refine gO Tryz.func74 #[.agg #[.int .i64 a0_0, .int .i64 a0_1, .int .i64 a0_2, .int .i64 a0_3, .int .i64 a0_4, .slice A0_5 l0_5.length c0_5], .slice A1 l1.length c1, .func (.func 107) #[] #[]] ?_
 with_reducible refine (soap_job_total_at_soap_most.calls k a0_0 a0_1 a0_2 a0_3 a0_4 _ _ l0_5 _ _ l1  t107 _ ?side1 ?side2 ?side3 ?side4 A5.out).mono ?_
 (case side1 => exact pC (Kd.C_below HR0_5.out HB.out))
 (case side2 => exact HC0_5.out)
 (case side3 => exact pC (Kd.C_below HR1.out HB.out))
 (case side4 => exact HC1.out)
 rintro e w18 ⟨rfl, hb⟩
 refine ⟨_, rfl, ?_⟩
 replace BK101 := bb BK101 hb
 replace BK102 := bb BK102 hb
 replace BK105 := bb BK105 hb
 replace HB := bs HB hb
 (try clear hb)
 (try clear hb2)
 (try clear hk)
 (try clear hi)
 refine hK.out _ _ ⟨(blk_cell BK101.out 0).trans rfl, (blk_cell BK101.out 1).trans rfl, (blk_cell BK101.out 2).trans rfl, (blk_cell BK101.out 3).trans rfl, (blk_cell BK101.out 4).trans rfl, (blk_cell BK101.out 5).trans rfl, (blk_cell BK105.out 0).trans rfl, (blk_cell BK105.out 1).trans rfl⟩ (fun hHeld => ?_)
 clear hK K
 refine norm_ (a' := ?_) ?_ ?_
 rotate_left
 ·show Act.put _ (some 16) _ = _
  simp only [Act.put, List.setIfInBounds_toArray, List.set_cons_zero, List.set_cons_succ, i64_w, i32_w]
  rfl
 refine pu 11 19 ?_
 refine pu 12 20 ?_
 refine on 13 (fun K hK => ?_)
 have hs19 : w18.cell? ⟨gb102, 0, none⟩ = some (.int .i64 0) := (blk_cell BK102.out 0).trans rfl
 have hfs19 := blk_frozen BK102.out 0
 have hns19_0 := NB101_102.out
 have hns19_2 := NB105_102.out
 have hms19_0 := NB102_101.out
 have hms19_2 := NB102_105.out
 have hs20 : w18.cell? ⟨gb102, 1, none⟩ = some (.int .i64 0) := (blk_cell BK102.out 1).trans rfl
 have hfs20 := blk_frozen BK102.out 1
 have hns20_0 := NB101_102.out
 have hns20_2 := NB105_102.out
 have hms20_0 := NB102_101.out
 have hms20_2 := NB102_105.out
 refine skip_ (w1 := ?_) (by rfl) rfl ?_ ?_
 rotate_left
 ·go_simp
  rfl
 refine hK.out _ _ ⟨((cell_far (p := ⟨gb102, _, none⟩) NB101_102.out _).trans (((cell_far (p := ⟨gb102, _, none⟩) NB101_102.out _).trans (hHeld.1)))), ((cell_far (p := ⟨gb102, _, none⟩) NB101_102.out _).trans (((cell_far (p := ⟨gb102, _, none⟩) NB101_102.out _).trans (hHeld.2.1)))), ((cell_far (p := ⟨gb102, _, none⟩) NB101_102.out _).trans (((cell_far (p := ⟨gb102, _, none⟩) NB101_102.out _).trans (hHeld.2.2.1)))), ((cell_far (p := ⟨gb102, _, none⟩) NB101_102.out _).trans (((cell_far (p := ⟨gb102, _, none⟩) NB101_102.out _).trans (hHeld.2.2.2.1)))), ((cell_far (p := ⟨gb102, _, none⟩) NB101_102.out _).trans (((cell_far (p := ⟨gb102, _, none⟩) NB101_102.out _).trans (hHeld.2.2.2.2.1)))), ((cell_far (p := ⟨gb102, _, none⟩) NB101_102.out _).trans (((cell_far (p := ⟨gb102, _, none⟩) NB101_102.out _).trans (hHeld.2.2.2.2.2.1)))), ((cell_far (p := ⟨gb102, _, none⟩) NB105_102.out _).trans (((cell_far (p := ⟨gb102, _, none⟩) NB105_102.out _).trans (hHeld.2.2.2.2.2.2.1)))), ((cell_far (p := ⟨gb102, _, none⟩) NB105_102.out _).trans (((cell_far (p := ⟨gb102, _, none⟩) NB105_102.out _).trans (hHeld.2.2.2.2.2.2.2))))⟩ (fun hHeld => ?_)
 clear hK K
 refine done_ (done_of HT_.out (by kernel_rfl)) ?_
 try go_wp2
 refine bodyPost_ret (results_cell_row rfl _ _ gb102 24 #[.int .i64 (wrap64 (t106 - t104)), .int .i64 (wrap64 (t107 - t103))] (0, 0) _ rfl (by refine pB ?_; refine blk_put (cs := #[.int .i64 (wrap64 (t106 - t104)), .int .i64 0]) ?_ 1 _ rfl; refine pB ?_; refine blk_put (cs := #[.int .i64 0, .int .i64 0]) ?_ 0 _ rfl; (with_reducible repeat (first | refine blk_drewN ?_ _ | refine blk_drew ?_ | refine blk_alloc ?_ _)); exact BK102.out) Tryz.underlying24 rfl (by kernel_rfl)) rfl ?_
 exact ⟨eT, pE HB⟩
def soap_stains.f (a0_0 : Int) (a0_1 : Int) (a0_2 : Int) (a0_3 : Int) (a0_4 : Int) : Option (Int) := some a0_3
set_option maxHeartbeats 8000000 in
set_option maxRecDepth 100000 in
theorem soap_stains.calls (a0_0 : Int) (a0_1 : Int) (a0_2 : Int) (a0_3 : Int) (a0_4 : Int) (r : Int) (w : World) (h : soap_stains.f a0_0 a0_1 a0_2 a0_3 a0_4 = some r) :
  Calls Tryz.prog 75 #[.agg #[.int .i64 a0_0, .int .i64 a0_1, .int .i64 a0_2, .int .i64 a0_3, .int .i64 a0_4]] w fun e w' => e = .returned (.int .i64 r) ∧ Below w.heap.size w w' := by
 have hu100 := Tryz.underlying100
 have HB := Aside0.mk (Below.refl w.heap.size w)
 have H : (some a0_3) = some r := h
 clear h
 obtain rfl := Option.some.inj H
 go_enter Tryz.func75, Tryz.ntmps75
 go_wp2_with (first | ((with_reducible refine gate_dst (N := 1) rfl ?_); refine bx 1 #[.int .i64 a0_0, .int .i64 a0_1, .int .i64 a0_2, .int .i64 a0_3, .int .i64 a0_4] 100 ?_; intro gb101 hg w2 hbox hb; have BK101 := hbox; have GW101 := gs HB hg; have GE101 := gs HB hg; replace HB := bs HB hb; clear hb hbox hg; obtain ⟨_, _, _, _, _, _, _, _, _, _⟩ := cf5 BK101))
 go_ret
 exact ⟨eT, pE HB⟩
def soap_job_total_at_soap_stains.l0 : Nat → Int → List Int → Int → Int → Int → Int → Int → Int → Int → List (S100) → Option (Int)
 | 0, _, _, _, _, _, _, _, _, _, _ => none
 | k + 1, x6, x9, x10, x11, x102000, x102001, x102002, x102003, x102004, x102005 => if x11 < x10 then (if 0 ≤ x11 then (if x11 < (x9.length : Int) then (if x11 < (x102005.length : Int) then ((soap_stains.f ((rd_T100 x102005 x11).f0.f0) ((rd_T100 x102005 x11).f0.f1) ((rd_T100 x102005 x11).f1) ((rd_T100 x102005 x11).f2) ((rd_T100 x102005 x11).f3)).bind fun t104 => (soap_job_total_at_soap_stains.l0 k (wrap64 (x6 + (wrap64 ((rd x9 x11) * t104)))) x9 x10 (wrap64 (x11 + 1)) x102000 x102001 x102002 x102003 x102004 x102005)) else (none)) else (none)) else (none)) else (some x6)
def soap_job_total_at_soap_stains.f (k : Nat) (a0_0 : Int) (a0_1 : Int) (a0_2 : Int) (a0_3 : Int) (a0_4 : Int) (l0_5 : List (S100)) (l1 : List Int)  : Option (Int) := soap_job_total_at_soap_stains.l0 k 0 l1 (l1.length : Int) 0 a0_0 a0_1 a0_2 a0_3 a0_4 l0_5
theorem soap_job_total_at_soap_stains.mono_l : ∀ k, (∀ y0 y1 y2 y3 y4 y5 y6 y7 y8 y9, LeO (soap_job_total_at_soap_stains.l0 k y0 y1 y2 y3 y4 y5 y6 y7 y8 y9) (soap_job_total_at_soap_stains.l0 (k + 1) y0 y1 y2 y3 y4 y5 y6 y7 y8 y9))
 | 0 => fun _ _ _ _ _ _ _ _ _ _ r h => by simp [soap_job_total_at_soap_stains.l0] at h
 | k + 1 => by
  have ih0 := soap_job_total_at_soap_stains.mono_l k
  ·intro y0 y1 y2 y3 y4 y5 y6 y7 y8 y9
   unfold soap_job_total_at_soap_stains.l0
   repeat' first
   | (with_reducible exact ih0 _ _ _ _ _ _ _ _ _ _)
   | (with_reducible exact LeO.refl _)
   | (with_reducible exact LeO.none _)
   | (with_reducible refine LeO.ite ?_ ?_)
   | (with_reducible refine LeO.bind ?_ (fun _ => ?_))
   | exact ih0 _ _ _ _ _ _ _ _ _ _
   | exact LeO.none _
   | refine LeO.ite ?_ ?_
   | refine LeO.bind ?_ (fun _ => ?_)
theorem soap_job_total_at_soap_stains.mono : ∀ a0 a1 a2 a3 a4 a5 a6 k, LeO (soap_job_total_at_soap_stains.f k a0 a1 a2 a3 a4 a5 a6) (soap_job_total_at_soap_stains.f (k + 1) a0 a1 a2 a3 a4 a5 a6) := by
 intro a0 a1 a2 a3 a4 a5 a6 k
 have ih0 := soap_job_total_at_soap_stains.mono_l k
 unfold soap_job_total_at_soap_stains.f
 repeat' first
   | (with_reducible exact ih0 _ _ _ _ _ _ _ _ _ _)
   | (with_reducible exact LeO.refl _)
   | (with_reducible exact LeO.none _)
   | (with_reducible refine LeO.ite ?_ ?_)
   | (with_reducible refine LeO.bind ?_ (fun _ => ?_))
   | exact ih0 _ _ _ _ _ _ _ _ _ _
   | exact LeO.none _
   | refine LeO.ite ?_ ?_
   | refine LeO.bind ?_ (fun _ => ?_)
set_option maxHeartbeats 8000000 in
set_option maxRecDepth 100000 in
theorem soap_job_total_at_soap_stains.calls (k : Nat) (a0_0 : Int) (a0_1 : Int) (a0_2 : Int) (a0_3 : Int) (a0_4 : Int) (A0_5 : Option Addr) (c0_5 : Nat) (l0_5 : List (S100)) (A1 : Option Addr) (c1 : Nat) (l1 : List Int)  (r : Int) (w : World) (hr0_5 : Kd.C k100 w A0_5 l0_5.length l0_5) (hc0_5 : l0_5.length ≤ c0_5) (hr1 : Kd.C (Kd.int .i64) w A1 l1.length l1) (hc1 : l1.length ≤ c1) (h : soap_job_total_at_soap_stains.f k a0_0 a0_1 a0_2 a0_3 a0_4 l0_5 l1 = some r) :
  Calls Tryz.prog 74 #[.agg #[.int .i64 a0_0, .int .i64 a0_1, .int .i64 a0_2, .int .i64 a0_3, .int .i64 a0_4, .slice A0_5 l0_5.length c0_5], .slice A1 l1.length c1, .func (.func 75) #[] #[]] w fun e w' => e = .returned (.int .i64 r) ∧ Below w.heap.size w w' := by
 have hu120 := Tryz.underlying120
 have hu100 := Tryz.underlying100
 have HR0_5 := Aside0.mk hr0_5
 have HC0_5 := Aside0.mk hc0_5
 clear hr0_5 hc0_5
 have HR1 := Aside0.mk hr1
 have HC1 := Aside0.mk hc1
 clear hr1 hc1
 have HB := Aside0.mk (Below.refl w.heap.size w)
 have H : (soap_job_total_at_soap_stains.l0 k 0 l1 (l1.length : Int) 0 a0_0 a0_1 a0_2 a0_3 a0_4 l0_5) = some r := h
 clear h
 have H' := Aside0.mk H
 clear H
 go_enter Tryz.func74, Tryz.ntmps74
 go_wp2_with (first | ((with_reducible refine gate_dst (N := 3) rfl ?_); refine bx 3 #[.int .i64 a0_0, .int .i64 a0_1, .int .i64 a0_2, .int .i64 a0_3, .int .i64 a0_4, .slice A0_5 l0_5.length c0_5] 120 ?_; intro gb101 hg w4 hbox hb; have BK101 := hbox; have GW101 := gs HB hg; have GE101 := gs HB hg; replace HB := bs HB hb; clear hb hbox hg))
 (try simp only [Act.put, List.setIfInBounds_toArray, List.set_cons_zero, List.set_cons_succ])
 go_loopg [6, 11] k (fun kq v6 v11 w' => ∃ (x6_1 : Int) (x11_1 : Int), v6 = .int .i64 x6_1 ∧ v11 = .int .i64 x11_1 ∧ Aside0 (soap_job_total_at_soap_stains.l0 kq x6_1 l1 (l1.length : Int) x11_1 a0_0 a0_1 a0_2 a0_3 a0_4 l0_5 = some r) ∧ Aside0 (kq ≤ k) ∧ Aside0 (w'.heap[gb101]? = some (.cells #[.int .i64 a0_0, .int .i64 a0_1, .int .i64 a0_2, .int .i64 a0_3, .int .i64 a0_4, (.slice A0_5 l0_5.length c0_5)] 120 (0, 0))) ∧ Aside0 (Below w.heap.size w w'))
 case atStart => exact ⟨(0), (0), (by first | rfl | (simp; done) | (simp [*]; done)), (by first | rfl | (simp; done) | (simp [*]; done)), H', ⟨Nat.le_refl _⟩, ⟨by (with_reducible repeat (first | refine blk_drewN ?_ _ | refine blk_drew ?_ | refine blk_alloc ?_ _)); exact BK101.out⟩, ⟨pE HB⟩⟩
 case round =>
  clear H'
  try clear c1
  try clear p2
  obtain ⟨x6_1, x11_1, rfl, rfl, HA, HK1, BK101, HB⟩ := hrel
  cases gk with
  | zero => exact absurd HA.out (by simp [soap_job_total_at_soap_stains.l0])
  | succ k1 =>
   have H := HA.out
   clear HA
   simp only [soap_job_total_at_soap_stains.l0] at H
   by_cases c5 : x11_1 < (l1.length : Int)
   ·rw [if_pos c5] at H
    have c5b0 : decide (x11_1 < (l1.length : Int)) = true := decide_eq_true c5
    clear c5
    by_cases c6 : 0 ≤ x11_1
    ·rw [if_pos c6] at H
     have c6b0 : decide (0 ≤ x11_1) = true := decide_eq_true c6
     clear c6
     by_cases c7 : x11_1 < (l1.length : Int)
     ·rw [if_pos c7] at H
      have c7b0 : decide (x11_1 < (l1.length : Int)) = true := decide_eq_true c7
      clear c7
      by_cases c8 : x11_1 < (l0_5.length : Int)
      ·rw [if_pos c8] at H
       have c8b0 : decide (x11_1 < (l0_5.length : Int)) = true := decide_eq_true c8
       clear c8
       obtain ⟨t104, A9, H⟩ := bi H
       have H' := Aside0.mk H
       clear H
       have p102 : 0 ≤ (x11_1 : Int) := dT
       have q102 : x11_1 < (l1.length : Int) := dT
       obtain ⟨ad102, e102, hx102_0⟩ := Kd.at_int HR1.out x11_1 p102 q102
       cases e102
       replace hx102_0 := cut_ HB hx102_0
       replace p102 := eq_true p102
       replace q102 := eq_true q102
       obtain ⟨_, _, _, _, _, _, _, _, _, _, _, _⟩ := cf6 BK101
       have p103 : 0 ≤ (x11_1 : Int) := dT
       have q103 : x11_1 < (l0_5.length : Int) := dT
       obtain ⟨ad103, e103, hx103_0, hx103_1, hx103_2, hx103_3, hx103_4⟩ := at_T100 HR0_5.out x11_1 p103 q103
       cases e103
       replace hx103_0 := cut_ HB hx103_0
       replace hx103_1 := cut_ HB hx103_1
       replace hx103_2 := cut_ HB hx103_2
       replace hx103_3 := cut_ HB hx103_3
       replace hx103_4 := cut_ HB hx103_4
       replace p103 := eq_true p103
       replace q103 := eq_true q103
       go_wp2_with (first | (go_at_call 75; (with_reducible refine (soap_stains.calls ((rd_T100 l0_5 x11_1).f0.f0) ((rd_T100 l0_5 x11_1).f0.f1) ((rd_T100 l0_5 x11_1).f1) ((rd_T100 l0_5 x11_1).f2) ((rd_T100 l0_5 x11_1).f3) t104 _ A9.out).mono ?_); rintro e w11 ⟨rfl, hb⟩; replace BK101 := bb BK101 hb; replace HB := bs HB hb; (try clear hb); (try clear hb2); (try clear hk); (try clear hi)))
       go_roundg k1
       case measure => have := HK1.out; omega
       case rel => exact ⟨(wrap64 (x6_1 + (wrap64 ((rd l1 x11_1) * t104)))), (wrap64 (x11_1 + 1)), (by first | rfl | (simp; done) | (simp [*]; done)), (by first | rfl | (simp; done) | (simp [*]; done)), H', ⟨by have := HK1.out; omega⟩, ⟨by (with_reducible repeat (first | refine blk_drewN ?_ _ | refine blk_drew ?_ | refine blk_alloc ?_ _)); exact BK101.out⟩, ⟨pE HB⟩⟩
      ·rw [if_neg c8] at H
       exact absurd H (by simp)
     ·rw [if_neg c7] at H
      exact absurd H (by simp)
    ·rw [if_neg c6] at H
     exact absurd H (by simp)
   ·rw [if_neg c5] at H
    have c5b0 : decide (x11_1 < (l1.length : Int)) = false := decide_eq_false c5
    clear c5
    obtain rfl := Option.some.inj H
    go_wp2
    go_ret
    exact ⟨eT, pE HB⟩
def soap_Scours.f (k : Nat) (l0 : List (S100)) (a1_0 : Int) (a1_1 : Int) (a1_2 : Int) (a1_3 : Int) (a1_4 : Int) (l2 : List Int) : Option (Bool × Bool × Bool × Int) := (soap_openMix.f k l0 a1_0 a1_1 a1_2 a1_3 a1_4 l2).bind fun bt102 => (if bt102.2.2.2.2.2.2 = 0 then ((soap_job_over.f k bt102.1 bt102.2.1 bt102.2.2.1 bt102.2.2.2.1 bt102.2.2.2.2.1 bt102.2.2.2.2.2.1 l2).bind fun bt112 => ((soap_job_total_at_soap_stains.f k bt102.1 bt102.2.1 bt102.2.2.1 bt102.2.2.2.1 bt102.2.2.2.2.1 bt102.2.2.2.2.2.1 l2).bind fun t115 => (some (decide (bt112.1 ≥ 0), decide (bt112.2 ≥ 0), decide (t115 > a1_4), 0)))) else (some (false, false, false, bt102.2.2.2.2.2.2)))
theorem soap_Scours.mono : ∀ a0 a1 a2 a3 a4 a5 a6 k, LeO (soap_Scours.f k a0 a1 a2 a3 a4 a5 a6) (soap_Scours.f (k + 1) a0 a1 a2 a3 a4 a5 a6) := by
 intro a0 a1 a2 a3 a4 a5 a6 k
 unfold soap_Scours.f
 repeat' first
   | (with_reducible exact soap_job_over.mono _ _ _ _ _ _ _ _)
   | (with_reducible exact soap_job_total_at_soap_stains.mono _ _ _ _ _ _ _ _)
   | (with_reducible exact soap_openMix.mono _ _ _ _ _ _ _ _)
   | (with_reducible exact LeO.refl _)
   | (with_reducible exact LeO.none _)
   | (with_reducible refine LeO.ite ?_ ?_)
   | (with_reducible refine LeO.bind ?_ (fun _ => ?_))
   | exact soap_job_over.mono _ _ _ _ _ _ _ _
   | exact soap_job_total_at_soap_stains.mono _ _ _ _ _ _ _ _
   | exact soap_openMix.mono _ _ _ _ _ _ _ _
   | exact LeO.none _
   | refine LeO.ite ?_ ?_
   | refine LeO.bind ?_ (fun _ => ?_)
def soap_Scours.T5 : Bool × List (List Nat × List Nat) := (true, [([], []), ([0], [0]), ([1], [1]), ([], []), ([3], [3]), ([4], [4]), ([], []), ([], []), ([6, 7], [6, 7]), ([], []), ([9], [9]), ([8, 10], [8, 10]), ([2, 8, 0, 1, 2], [2]), ([5, 12, 0, 1, 2, 3, 4, 5, 12], [5]), ([11, 13, 0, 1, 2, 3, 4, 5, 6, 7, 8, 9, 10, 11, 12, 13], [11]), ([14, 0, 1, 2, 3, 4, 5, 6, 7, 8, 9, 10, 11, 12, 13, 14], [])])
def soap_Scours.B5 : List Nat := [0, 1, 3, 0, 8, 24, 0, 0, 192, 0, 512, 1984, 455, 4607, 16383, 32767]
theorem soap_Scours.tab5 : rtab .any (opsOf Tryz.f20 5) = soap_Scours.T5 := by kernel_rfl
theorem soap_Scours.bits5 : waitsOk soap_Scours.T5.2 soap_Scours.B5 = true := by kernel_rfl
set_option maxHeartbeats 8000000 in
set_option maxRecDepth 100000 in
theorem soap_Scours.calls (k : Nat) (A0 : Option Addr) (c0 : Nat) (l0 : List (S100)) (a1_0 : Int) (a1_1 : Int) (a1_2 : Int) (a1_3 : Int) (a1_4 : Int) (A2 : Option Addr) (c2 : Nat) (l2 : List Int) (r1 : Bool) (r2 : Bool) (r3 : Bool) (r4 : Int) (w : World) (hr0 : Kd.C k100 w A0 l0.length l0) (hc0 : l0.length ≤ c0) (hr2 : Kd.C (Kd.int .i64) w A2 l2.length l2) (hc2 : l2.length ≤ c2) (h : soap_Scours.f k l0 a1_0 a1_1 a1_2 a1_3 a1_4 l2 = some (r1, r2, r3, r4)) :
  Calls Tryz.prog 20 #[.slice A0 l0.length c0, .agg #[.int .i64 a1_0, .int .i64 a1_1, .int .i64 a1_2, .int .i64 a1_3, .int .i64 a1_4], .slice A2 l2.length c2] w fun e w' => e = .returned (.tuple #[.bool r1, .bool r2, .bool r3, .int .i64 r4]) ∧ Below w.heap.size w w' := by
 have hu26 := Tryz.underlying26
 have hu120 := Tryz.underlying120
 have hu24 := Tryz.underlying24
 have HR0 := Aside0.mk hr0
 have HC0 := Aside0.mk hc0
 clear hr0 hc0
 have HR2 := Aside0.mk hr2
 have HC2 := Aside0.mk hc2
 clear hr2 hc2
 have HB := Aside0.mk (Below.refl w.heap.size w)
 have H : ((soap_openMix.f k l0 a1_0 a1_1 a1_2 a1_3 a1_4 l2).bind fun bt102 => (if bt102.2.2.2.2.2.2 = 0 then ((soap_job_over.f k bt102.1 bt102.2.1 bt102.2.2.1 bt102.2.2.2.1 bt102.2.2.2.2.1 bt102.2.2.2.2.2.1 l2).bind fun bt112 => ((soap_job_total_at_soap_stains.f k bt102.1 bt102.2.1 bt102.2.2.1 bt102.2.2.2.1 bt102.2.2.2.2.1 bt102.2.2.2.2.2.1 l2).bind fun t115 => (some (decide (bt112.1 ≥ 0), decide (bt112.2 ≥ 0), decide (t115 > a1_4), 0)))) else (some (false, false, false, bt102.2.2.2.2.2.2)))) = some (r1, r2, r3, r4) := h
 clear h
 obtain ⟨⟨t102, t103, t104, t105, t106, t107, t110⟩, A4, H⟩ := bi H
 by_cases c5 : t110 = 0
 ·rw [if_pos c5] at H
  have c5b0 : (t110 == 0) = true := beq_iff_eq.mpr c5
  have c5b1 : (t110 != 0) = false := bne_eq_false_iff_eq.mpr c5
  clear c5
  obtain ⟨⟨t112, t113⟩, A6, H⟩ := bi H
  obtain ⟨t115, A7, H⟩ := bi H
  simp only [Option.some.injEq, Prod.mk.injEq] at H
  obtain ⟨rfl, rfl, rfl, rfl⟩ := H
  go_enter Tryz.func20, Tryz.ntmps20
  try go_wp2_with (first | ((with_reducible refine gate_dst (N := 4) rfl ?_); refine bx 4 #[.int .i64 a1_0, .int .i64 a1_1, .int .i64 a1_2, .int .i64 a1_3, .int .i64 a1_4] 26 ?_; intro gb101 hg w8 hbox hb; have BK101 := hbox; have GW101 := gs HB hg; have GE101 := gs HB hg; replace HB := bs HB hb; clear hb hbox hg; obtain ⟨_, _, _, _, _, _, _, _, _, _⟩ := cf5 BK101) | ((with_reducible refine gc 72 rfl ?_); refine gL 16 Tryz.func72 #[.slice A0 l0.length c0, .agg #[.int .i64 a1_0, .int .i64 a1_1, .int .i64 a1_2, .int .i64 a1_3, .int .i64 a1_4], .slice A2 l2.length c2] ?_; (with_reducible refine (soap_openMix.calls k (fun k_ => k_ < w.heap.size) _ _ l0 a1_0 a1_1 a1_2 a1_3 a1_4 _ _ l2 t102 t103 t104 t105 t106 t107 t110 _ ?side1 ?side2 ?side3 A4.out).mono ?_); (case side1 => exact Kd.V_mk HC0.out (Kd.F_below (Kd.C_F k100_heap HR0.out) (pE HB))); (case side2 => exact pC (Kd.C_below HR2.out HB.out)); (case side3 => exact HC2.out); rintro e w10 ⟨v108, rfl, ho0, hb⟩; refine ⟨_, rfl, ?_⟩; have HO109 := Aside0.mk (Kd.V_lower (Kd.V_mono (ok' := fun k_ => k_ ≠ gb101) ho0 (fun k_ hk_ => Or.elim hk_ (fun hs_ => fun e_ => Nat.not_le.2 hs_ (by rw [e_]; exact GW101.out)) (fun hn_ => (Kd.freshB (g := gb101) (o := .cells #[.int .i64 a1_0, .int .i64 a1_1, .int .i64 a1_2, .int .i64 a1_3, .int .i64 a1_4] 26 (0, 0)) (pB BK101.out) k_ hn_)))) (below_size (pE HB))); replace BK101 := bb BK101 hb; replace HB := bs HB hb; clear hb ho0) | ((with_reducible refine gate_dst (N := 10) rfl ?_); refine bx 10 #[.int .i64 0, .int .i64 0, .int .i64 0, .int .i64 0, .int .i64 0, .slice none 0 0] 120 ?_; intro gb111 hg w11 hbox hb; replace HO109 := ve HO109 hg hb; have BK111 := hbox; have GW111 := gs HB hg; have GE111 := gs HB hg; replace HB := bs HB hb; have NB101_111 := nl BK101 hg; have NB111_101 := nr BK101 hg; replace BK101 := bb BK101 hb; clear hb hbox hg; have hnb12 := NB111_101.out; have hnc12 := NB101_111.out; obtain ⟨_, _, _, _, _, _, _, _, _, _, _, _⟩ := cf6 BK111; obtain ⟨Ao14, co14, eo14⟩ := Kd.V_slice HO109.out; subst eo14) | ((with_reducible refine gc 73 rfl ?_); refine gL 24 Tryz.func73 #[.agg #[.int .i64 t102, .int .i64 t103, .int .i64 t104, .int .i64 t105, .int .i64 t106, .slice Ao14 t107.length co14], .slice A2 l2.length c2] ?_; (with_reducible refine (soap_job_over.calls k t102 t103 t104 t105 t106 _ _ t107 _ _ l2 t112 t113 _ ?side1 ?side2 ?side3 ?side4 A6.out).mono ?_); (case side1 => refine (Kd.V_reads' (e := 100) (base := w.heap.size) (ok := fun k_ => (k_ ≠ gb101 ∧ k_ ≠ gb111)) (n := t107.length) (c := co14) ?_).2.2; exact (by refine pV ?_; exact (Kd.V_mono (Kd.V_far (p := ⟨gb111, 5, none⟩) (Kd.V_far (p := ⟨gb111, 4, none⟩) (Kd.V_far (p := ⟨gb111, 3, none⟩) (Kd.V_far (p := ⟨gb111, 2, none⟩) (Kd.V_far (p := ⟨gb111, 1, none⟩) (Kd.V_far (p := ⟨gb111, 0, none⟩) (Kd.V_mono HO109.out (fun k_ hk => (⟨hk, hk.2⟩ : _ ∧ k_ ≠ gb111))) (fun _ hk => hk.2) (.int .i64 t102)) (fun _ hk => hk.2) (.int .i64 t103)) (fun _ hk => hk.2) (.int .i64 t104)) (fun _ hk => hk.2) (.int .i64 t105)) (fun _ hk => hk.2) (.int .i64 t106)) (fun _ hk => hk.2) (.slice Ao14 t107.length co14)) (fun _ h_ => h_.1)))); (case side2 => exact (Kd.V_reads' HO109.out).2.1); (case side3 => exact Kd.C_below HR2.out (pE HB)); (case side4 => exact HC2.out); rintro e w15 ⟨rfl, hb⟩; refine ⟨_, rfl, ?_⟩; replace HO109 := Aside0.mk (Kd.V_below (by refine pV ?_; exact (Kd.V_mono (Kd.V_far (p := ⟨gb111, 5, none⟩) (Kd.V_far (p := ⟨gb111, 4, none⟩) (Kd.V_far (p := ⟨gb111, 3, none⟩) (Kd.V_far (p := ⟨gb111, 2, none⟩) (Kd.V_far (p := ⟨gb111, 1, none⟩) (Kd.V_far (p := ⟨gb111, 0, none⟩) (Kd.V_mono HO109.out (fun k_ hk => (⟨hk, hk.2⟩ : _ ∧ k_ ≠ gb111))) (fun _ hk => hk.2) (.int .i64 t102)) (fun _ hk => hk.2) (.int .i64 t103)) (fun _ hk => hk.2) (.int .i64 t104)) (fun _ hk => hk.2) (.int .i64 t105)) (fun _ hk => hk.2) (.int .i64 t106)) (fun _ hk => hk.2) (.slice Ao14 t107.length co14)) (fun _ h_ => h_.1))) hb); replace BK101 := bf BK101 hb; replace BK111 := Aside0.mk (blk_below (g := gb111) (o := .cells #[.int .i64 t102, .int .i64 t103, .int .i64 t104, .int .i64 t105, .int .i64 t106, .slice Ao14 t107.length co14] 120 (0, 0)) (by refine pB ?_; refine blk_put (cs := #[.int .i64 t102, .int .i64 t103, .int .i64 t104, .int .i64 t105, .int .i64 t106, .slice none 0 0]) ?_ 5 _ rfl; refine pB ?_; refine blk_put (cs := #[.int .i64 t102, .int .i64 t103, .int .i64 t104, .int .i64 t105, .int .i64 0, .slice none 0 0]) ?_ 4 _ rfl; refine pB ?_; refine blk_put (cs := #[.int .i64 t102, .int .i64 t103, .int .i64 t104, .int .i64 0, .int .i64 0, .slice none 0 0]) ?_ 3 _ rfl; refine pB ?_; refine blk_put (cs := #[.int .i64 t102, .int .i64 t103, .int .i64 0, .int .i64 0, .int .i64 0, .slice none 0 0]) ?_ 2 _ rfl; refine pB ?_; refine blk_put (cs := #[.int .i64 t102, .int .i64 0, .int .i64 0, .int .i64 0, .int .i64 0, .slice none 0 0]) ?_ 1 _ rfl; refine pB ?_; refine blk_put (cs := #[.int .i64 0, .int .i64 0, .int .i64 0, .int .i64 0, .int .i64 0, .slice none 0 0]) ?_ 0 _ rfl; (with_reducible repeat (first | refine blk_drewN ?_ _ | refine blk_drew ?_ | refine blk_alloc ?_ _)); exact BK111.out) hb); replace HB := bs HB hb; clear hb) | ((with_reducible refine gate_dst (N := 11) rfl ?_); refine bx 11 #[.int .i64 0, .int .i64 0] 24 ?_; intro gb114 hg w16 hbox hb; replace HO109 := ve HO109 hg hb; have BK114 := hbox; have GW114 := gs HB hg; have GE114 := gs HB hg; replace HB := bs HB hb; have NB101_114 := nl BK101 hg; have NB114_101 := nr BK101 hg; replace BK101 := bb BK101 hb; have NB111_114 := nl BK111 hg; have NB114_111 := nr BK111 hg; replace BK111 := bb BK111 hb; clear hb hbox hg; have hnb17 := NB114_101.out; have hnc17 := NB101_114.out; have hnb18 := NB114_111.out; have hnc18 := NB111_114.out; obtain ⟨_, _, _, _⟩ := cf2 BK114))
  have n0_ : Aside0 (Kd.V k100 100 ((w16.setCell ⟨gb114, 0, none⟩ (.int .i64 t112)).setCell ⟨gb114, 1, none⟩ (.int .i64 t113)) w.heap.size (fun k_ => k_ ≠ gb101 ∧ k_ ≠ gb111 ∧ k_ ≠ gb114) (.slice Ao14 t107.length co14) t107) := ⟨by (with_reducible repeat (first | apply Kd.V_alloc | apply Kd.V_drewN | apply Kd.V_drew)); exact Kd.V_mono (Kd.V_far (p := ⟨gb114, 1, none⟩) (Kd.V_far (p := ⟨gb114, 0, none⟩) (Kd.V_mono HO109.out (fun k_ hk => (⟨hk, hk.2⟩ : _ ∧ k_ ≠ gb114))) (fun _ hk => hk.2) (.int .i64 t112)) (fun _ hk => hk.2) (.int .i64 t113)) (fun _ hk => ⟨hk.1.1.1, ⟨hk.1.1.2, hk.1.2⟩⟩)⟩
  have n1_ : Aside0 (((w16.setCell ⟨gb114, 0, none⟩ (.int .i64 t112)).setCell ⟨gb114, 1, none⟩ (.int .i64 t113)).heap[gb101]? = some (.cells #[.int .i64 a1_0, .int .i64 a1_1, .int .i64 a1_2, .int .i64 a1_3, .int .i64 a1_4] 26 (0, 0))) := ⟨by refine pB ?_; refine blk_far ?_ NB101_114.out _; refine pB ?_; refine blk_far ?_ NB101_114.out _; (with_reducible repeat (first | refine blk_drewN ?_ _ | refine blk_drew ?_ | refine blk_alloc ?_ _)); exact BK101.out⟩
  have n2_ : Aside0 (((w16.setCell ⟨gb114, 0, none⟩ (.int .i64 t112)).setCell ⟨gb114, 1, none⟩ (.int .i64 t113)).heap[gb111]? = some (.cells #[.int .i64 t102, .int .i64 t103, .int .i64 t104, .int .i64 t105, .int .i64 t106, .slice Ao14 t107.length co14] 120 (0, 0))) := ⟨by refine pB ?_; refine blk_far ?_ NB111_114.out _; refine pB ?_; refine blk_far ?_ NB111_114.out _; (with_reducible repeat (first | refine blk_drewN ?_ _ | refine blk_drew ?_ | refine blk_alloc ?_ _)); exact BK111.out⟩
  have n3_ : Aside0 (((w16.setCell ⟨gb114, 0, none⟩ (.int .i64 t112)).setCell ⟨gb114, 1, none⟩ (.int .i64 t113)).heap[gb114]? = some (.cells #[.int .i64 t112, .int .i64 t113] 24 (0, 0))) := ⟨by refine pB ?_; refine blk_put (cs := #[.int .i64 t112, .int .i64 0]) ?_ 1 _ rfl; refine pB ?_; refine blk_put (cs := #[.int .i64 0, .int .i64 0]) ?_ 0 _ rfl; (with_reducible repeat (first | refine blk_drewN ?_ _ | refine blk_drew ?_ | refine blk_alloc ?_ _)); exact BK114.out⟩
  have n4_ : Aside0 (Below w.heap.size w ((w16.setCell ⟨gb114, 0, none⟩ (.int .i64 t112)).setCell ⟨gb114, 1, none⟩ (.int .i64 t113))) := ⟨pE HB⟩
  (try clear HO109)
  (try clear BK101)
  (try clear BK111)
  (try clear BK114)
  (try clear HB)
  generalize ((w16.setCell ⟨gb114, 0, none⟩ (.int .i64 t112)).setCell ⟨gb114, 1, none⟩ (.int .i64 t113)) = w20 at n0_ n1_ n2_ n3_ n4_ ⊢
  have HO109 := n0_
  have BK101 := n1_
  have BK111 := n2_
  have BK114 := n3_
  have HB := n4_
  clear n0_ n1_ n2_ n3_ n4_
  replace HO109 := Aside0.mk (Kd.V_drew HO109.out)
  replace BK101 := Aside0.mk (blk_drew BK101.out)
  replace BK111 := Aside0.mk (blk_drew BK111.out)
  replace BK114 := Aside0.mk (blk_drew BK114.out)
  replace HB := Aside0.mk (below_drew1 HB.out)
  refine start_ (n := 16) (S := fun w' => w'.cell? ⟨gb114, 0, none⟩ = some (.int .i64 t112) ∧ w'.cell? ⟨gb114, 1, none⟩ = some (.int .i64 t113) ∧ w'.cell? ⟨gb111, 0, none⟩ = some (.int .i64 t102) ∧ w'.cell? ⟨gb111, 1, none⟩ = some (.int .i64 t103) ∧ w'.cell? ⟨gb111, 2, none⟩ = some (.int .i64 t104) ∧ w'.cell? ⟨gb111, 3, none⟩ = some (.int .i64 t105) ∧ w'.cell? ⟨gb111, 4, none⟩ = some (.int .i64 t106) ∧ w'.cell? ⟨gb111, 5, none⟩ = some (.slice Ao14 t107.length co14) ∧ w'.cell? ⟨gb101, 0, none⟩ = some (.int .i64 a1_0) ∧ w'.cell? ⟨gb101, 1, none⟩ = some (.int .i64 a1_1) ∧ w'.cell? ⟨gb101, 2, none⟩ = some (.int .i64 a1_2) ∧ w'.cell? ⟨gb101, 3, none⟩ = some (.int .i64 a1_3) ∧ w'.cell? ⟨gb101, 4, none⟩ = some (.int .i64 a1_4)) (ds := []) #[false, false, false, false, false, false, false, false, false, false, false, false, false, false, false, false] (by kernel_rfl) rfl rfl ⟨(blk_cell BK114.out 0).trans rfl, (blk_cell BK114.out 1).trans rfl, (blk_cell BK111.out 0).trans rfl, (blk_cell BK111.out 1).trans rfl, (blk_cell BK111.out 2).trans rfl, (blk_cell BK111.out 3).trans rfl, (blk_cell BK111.out 4).trans rfl, (blk_cell BK111.out 5).trans rfl, (blk_cell BK101.out 0).trans rfl, (blk_cell BK101.out 1).trans rfl, (blk_cell BK101.out 2).trans rfl, (blk_cell BK101.out 3).trans rfl, (blk_cell BK101.out 4).trans rfl⟩ (fun hHeld => ?_); refine with_tabW soap_Scours.tab5 soap_Scours.bits5 (fun HT_ HW_ => ?_)
  generalize w20.drew = w21 at HO109 BK101 BK111 BK114 HB hHeld ⊢
  refine pu 0 25 ?_
  refine pu 3 28 ?_
  refine pu 7 32 ?_
  refine pu 9 34 ?_
  refine tk 1 26 hHeld ?_
  refine pu 2 27 ?_
  refine tk 4 29 hHeld ?_
  refine pu 5 30 ?_
  refine tk 6 31 hHeld ?_
  refine tk 10 35 hHeld ?_
  refine on 8 (fun K hK => ?_)
  refine gO Tryz.func74 #[.agg #[.int .i64 t102, .int .i64 t103, .int .i64 t104, .int .i64 t105, .int .i64 t106, .slice Ao14 t107.length co14], .slice A2 l2.length c2, .func (.func 75) #[] #[]] ?_
  with_reducible refine (soap_job_total_at_soap_stains.calls k t102 t103 t104 t105 t106 _ _ t107 _ _ l2  t115 _ ?side1 ?side2 ?side3 ?side4 A7.out).mono ?_
  (case side1 => exact pC (Kd.V_reads' HO109.out).2.2)
  (case side2 => exact (Kd.V_reads' HO109.out).2.1)
  (case side3 => exact pC (Kd.C_below HR2.out HB.out))
  (case side4 => exact HC2.out)
  rintro e w22 ⟨rfl, hb⟩
  refine ⟨_, rfl, ?_⟩
  replace HO109 := vb HO109 hb
  replace BK101 := bb BK101 hb
  replace BK111 := bb BK111 hb
  replace BK114 := bb BK114 hb
  replace HB := bs HB hb
  (try clear hb)
  (try clear hb2)
  (try clear hk)
  (try clear hi)
  refine hK.out _ _ ⟨(blk_cell BK114.out 0).trans rfl, (blk_cell BK114.out 1).trans rfl, (blk_cell BK111.out 0).trans rfl, (blk_cell BK111.out 1).trans rfl, (blk_cell BK111.out 2).trans rfl, (blk_cell BK111.out 3).trans rfl, (blk_cell BK111.out 4).trans rfl, (blk_cell BK111.out 5).trans rfl, (blk_cell BK101.out 0).trans rfl, (blk_cell BK101.out 1).trans rfl, (blk_cell BK101.out 2).trans rfl, (blk_cell BK101.out 3).trans rfl, (blk_cell BK101.out 4).trans rfl⟩ (fun hHeld => ?_)
  clear hK K
  refine norm_ (a' := ?_) ?_ ?_
  rotate_left
  ·show Act.put _ (some 33) _ = _
   simp only [Act.put, List.setIfInBounds_toArray, List.set_cons_zero, List.set_cons_succ, i64_w, i32_w]
   rfl
  refine pu 11 36 ?_
  refine pu 12 6 ?_
  refine pu 13 7 ?_
  refine pu 14 8 ?_
  refine pu 15 9 ?_
  refine done_ (done_of HT_.out (by kernel_rfl)) ?_
  try go_wp2
  refine bodyPost_ret (results_list (rs := [.tmp 6, .tmp 7, .tmp 8, .tmp 9]) rfl (by simp) (.tmp (.tmp (.tmp (.tmp .nil))))) rfl ?_
  exact ⟨eT, pE HB⟩
 ·rw [if_neg c5] at H
  have c5b0 : (t110 == 0) = false := beq_eq_false_iff_ne.mpr c5
  have c5b1 : (t110 != 0) = true := bne_iff_ne.mpr c5
  simp only [Option.some.injEq, Prod.mk.injEq] at H
  obtain ⟨rfl, rfl, rfl, rfl⟩ := H
  go_enter Tryz.func20, Tryz.ntmps20
  go_wp2_with (first | ((with_reducible refine gate_dst (N := 4) rfl ?_); refine bx 4 #[.int .i64 a1_0, .int .i64 a1_1, .int .i64 a1_2, .int .i64 a1_3, .int .i64 a1_4] 26 ?_; intro gb101 hg w23 hbox hb; have BK101 := hbox; have GW101 := gs HB hg; have GE101 := gs HB hg; replace HB := bs HB hb; clear hb hbox hg; obtain ⟨_, _, _, _, _, _, _, _, _, _⟩ := cf5 BK101) | ((with_reducible refine gc 72 rfl ?_); refine gL 16 Tryz.func72 #[.slice A0 l0.length c0, .agg #[.int .i64 a1_0, .int .i64 a1_1, .int .i64 a1_2, .int .i64 a1_3, .int .i64 a1_4], .slice A2 l2.length c2] ?_; (with_reducible refine (soap_openMix.calls k (fun k_ => k_ < w.heap.size) _ _ l0 a1_0 a1_1 a1_2 a1_3 a1_4 _ _ l2 t102 t103 t104 t105 t106 t107 t110 _ ?side1 ?side2 ?side3 A4.out).mono ?_); (case side1 => exact Kd.V_mk HC0.out (Kd.F_below (Kd.C_F k100_heap HR0.out) (pE HB))); (case side2 => exact pC (Kd.C_below HR2.out HB.out)); (case side3 => exact HC2.out); rintro e w25 ⟨v108, rfl, ho0, hb⟩; refine ⟨_, rfl, ?_⟩; have HO109 := Aside0.mk (Kd.V_lower (Kd.V_mono (ok' := fun k_ => k_ ≠ gb101) ho0 (fun k_ hk_ => Or.elim hk_ (fun hs_ => fun e_ => Nat.not_le.2 hs_ (by rw [e_]; exact GW101.out)) (fun hn_ => (Kd.freshB (g := gb101) (o := .cells #[.int .i64 a1_0, .int .i64 a1_1, .int .i64 a1_2, .int .i64 a1_3, .int .i64 a1_4] 26 (0, 0)) (pB BK101.out) k_ hn_)))) (below_size (pE HB))); replace BK101 := bb BK101 hb; replace HB := bs HB hb; clear hb ho0) | ((with_reducible refine gate_dst (N := 10) rfl ?_); refine bx 10 #[.int .i64 0, .int .i64 0, .int .i64 0, .int .i64 0, .int .i64 0, .slice none 0 0] 120 ?_; intro gb111 hg w26 hbox hb; replace HO109 := ve HO109 hg hb; have BK111 := hbox; have GW111 := gs HB hg; have GE111 := gs HB hg; replace HB := bs HB hb; have NB101_111 := nl BK101 hg; have NB111_101 := nr BK101 hg; replace BK101 := bb BK101 hb; clear hb hbox hg; have hnb27 := NB111_101.out; have hnc27 := NB101_111.out; obtain ⟨_, _, _, _, _, _, _, _, _, _, _, _⟩ := cf6 BK111; obtain ⟨Ao29, co29, eo29⟩ := Kd.V_slice HO109.out; subst eo29))
  refine bodyPost_ret (results_list (rs := [.tmp 6, .tmp 7, .tmp 8, .tmp 9]) rfl (by simp) (.tmp (.tmp (.tmp (.tmp .nil))))) rfl ?_
  exact ⟨eT, pE HB⟩
def soap_Over.f (k : Nat) (l0 : List (S100)) (a1_0 : Int) (a1_1 : Int) (a1_2 : Int) (a1_3 : Int) (a1_4 : Int) (l2 : List Int) : Option (Int × Int × Int) := (soap_openMix.f k l0 a1_0 a1_1 a1_2 a1_3 a1_4 l2).bind fun bt103 => (if bt103.2.2.2.2.2.2 = 0 then ((soap_job_over.f k bt103.1 bt103.2.1 bt103.2.2.1 bt103.2.2.2.1 bt103.2.2.2.2.1 bt103.2.2.2.2.2.1 l2).bind fun bt113 => (some (bt113.1, bt113.2, 0))) else (some (0, 0, bt103.2.2.2.2.2.2)))
theorem soap_Over.mono : ∀ a0 a1 a2 a3 a4 a5 a6 k, LeO (soap_Over.f k a0 a1 a2 a3 a4 a5 a6) (soap_Over.f (k + 1) a0 a1 a2 a3 a4 a5 a6) := by
 intro a0 a1 a2 a3 a4 a5 a6 k
 unfold soap_Over.f
 repeat' first
   | (with_reducible exact soap_job_over.mono _ _ _ _ _ _ _ _)
   | (with_reducible exact soap_openMix.mono _ _ _ _ _ _ _ _)
   | (with_reducible exact LeO.refl _)
   | (with_reducible exact LeO.none _)
   | (with_reducible refine LeO.ite ?_ ?_)
   | (with_reducible refine LeO.bind ?_ (fun _ => ?_))
   | exact soap_job_over.mono _ _ _ _ _ _ _ _
   | exact soap_openMix.mono _ _ _ _ _ _ _ _
   | exact LeO.none _
   | refine LeO.ite ?_ ?_
   | refine LeO.bind ?_ (fun _ => ?_)
set_option maxHeartbeats 8000000 in
set_option maxRecDepth 100000 in
theorem soap_Over.calls (k : Nat) (A0 : Option Addr) (c0 : Nat) (l0 : List (S100)) (a1_0 : Int) (a1_1 : Int) (a1_2 : Int) (a1_3 : Int) (a1_4 : Int) (A2 : Option Addr) (c2 : Nat) (l2 : List Int) (r1 : Int) (r2 : Int) (r3 : Int) (w : World) (hr0 : Kd.C k100 w A0 l0.length l0) (hc0 : l0.length ≤ c0) (hr2 : Kd.C (Kd.int .i64) w A2 l2.length l2) (hc2 : l2.length ≤ c2) (h : soap_Over.f k l0 a1_0 a1_1 a1_2 a1_3 a1_4 l2 = some (r1, r2, r3)) :
  Calls Tryz.prog 21 #[.slice A0 l0.length c0, .agg #[.int .i64 a1_0, .int .i64 a1_1, .int .i64 a1_2, .int .i64 a1_3, .int .i64 a1_4], .slice A2 l2.length c2] w fun e w' => e = .returned (.tuple #[.agg #[.int .i64 r1, .int .i64 r2], .int .i64 r3]) ∧ Below w.heap.size w w' := by
 have hu26 := Tryz.underlying26
 have hu24 := Tryz.underlying24
 have hu120 := Tryz.underlying120
 have HR0 := Aside0.mk hr0
 have HC0 := Aside0.mk hc0
 clear hr0 hc0
 have HR2 := Aside0.mk hr2
 have HC2 := Aside0.mk hc2
 clear hr2 hc2
 have HB := Aside0.mk (Below.refl w.heap.size w)
 have H : ((soap_openMix.f k l0 a1_0 a1_1 a1_2 a1_3 a1_4 l2).bind fun bt103 => (if bt103.2.2.2.2.2.2 = 0 then ((soap_job_over.f k bt103.1 bt103.2.1 bt103.2.2.1 bt103.2.2.2.1 bt103.2.2.2.2.1 bt103.2.2.2.2.2.1 l2).bind fun bt113 => (some (bt113.1, bt113.2, 0))) else (some (0, 0, bt103.2.2.2.2.2.2)))) = some (r1, r2, r3) := h
 clear h
 obtain ⟨⟨t103, t104, t105, t106, t107, t108, t111⟩, A4, H⟩ := bi H
 by_cases c5 : t111 = 0
 ·rw [if_pos c5] at H
  have c5b0 : (t111 == 0) = true := beq_iff_eq.mpr c5
  have c5b1 : (t111 != 0) = false := bne_eq_false_iff_eq.mpr c5
  clear c5
  obtain ⟨⟨t113, t114⟩, A6, H⟩ := bi H
  simp only [Option.some.injEq, Prod.mk.injEq] at H
  obtain ⟨rfl, rfl, rfl⟩ := H
  go_enter Tryz.func21, Tryz.ntmps21
  go_wp2_with (first | ((with_reducible refine gate_dst (N := 4) rfl ?_); refine bx 4 #[.int .i64 a1_0, .int .i64 a1_1, .int .i64 a1_2, .int .i64 a1_3, .int .i64 a1_4] 26 ?_; intro gb101 hg w7 hbox hb; have BK101 := hbox; have GW101 := gs HB hg; have GE101 := gs HB hg; replace HB := bs HB hb; clear hb hbox hg) | ((with_reducible refine gate_dst (N := 6) rfl ?_); refine bx 6 #[.int .i64 0, .int .i64 0] 24 ?_; intro gb102 hg w8 hbox hb; have BK102 := hbox; have GW102 := gs HB hg; have GE102 := gs HB hg; replace HB := bs HB hb; have NB101_102 := nl BK101 hg; have NB102_101 := nr BK101 hg; replace BK101 := bb BK101 hb; clear hb hbox hg; have hnb9 := NB101_102.out; have hnc9 := NB102_101.out; obtain ⟨_, _, _, _, _, _, _, _, _, _⟩ := cf5 BK101) | ((with_reducible refine gc 72 rfl ?_); refine gL 14 Tryz.func72 #[.slice A0 l0.length c0, .agg #[.int .i64 a1_0, .int .i64 a1_1, .int .i64 a1_2, .int .i64 a1_3, .int .i64 a1_4], .slice A2 l2.length c2] ?_; (with_reducible refine (soap_openMix.calls k (fun k_ => k_ < w.heap.size) _ _ l0 a1_0 a1_1 a1_2 a1_3 a1_4 _ _ l2 t103 t104 t105 t106 t107 t108 t111 _ ?side1 ?side2 ?side3 A4.out).mono ?_); (case side1 => exact Kd.V_mk HC0.out (Kd.F_below (Kd.C_F k100_heap HR0.out) (pE HB))); (case side2 => exact pC (Kd.C_below HR2.out HB.out)); (case side3 => exact HC2.out); rintro e w11 ⟨v109, rfl, ho0, hb⟩; refine ⟨_, rfl, ?_⟩; have HO110 := Aside0.mk (Kd.V_lower (Kd.V_mono (ok' := fun k_ => k_ ≠ gb101 ∧ k_ ≠ gb102) ho0 (fun k_ hk_ => ⟨Or.elim hk_ (fun hs_ => fun e_ => Nat.not_le.2 hs_ (by rw [e_]; exact GW101.out)) (fun hn_ => (Kd.freshB (g := gb101) (o := .cells #[.int .i64 a1_0, .int .i64 a1_1, .int .i64 a1_2, .int .i64 a1_3, .int .i64 a1_4] 26 (0, 0)) (pB BK101.out) k_ hn_)), Or.elim hk_ (fun hs_ => fun e_ => Nat.not_le.2 hs_ (by rw [e_]; exact GW102.out)) (fun hn_ => (Kd.freshB (g := gb102) (o := .cells #[.int .i64 0, .int .i64 0] 24 (0, 0)) (pB BK102.out) k_ hn_))⟩)) (below_size (pE HB))); replace BK101 := bb BK101 hb; replace BK102 := bb BK102 hb; replace HB := bs HB hb; clear hb ho0) | ((with_reducible refine gate_dst (N := 8) rfl ?_); refine bx 8 #[.int .i64 0, .int .i64 0, .int .i64 0, .int .i64 0, .int .i64 0, .slice none 0 0] 120 ?_; intro gb112 hg w12 hbox hb; replace HO110 := ve HO110 hg hb; have BK112 := hbox; have GW112 := gs HB hg; have GE112 := gs HB hg; replace HB := bs HB hb; have NB101_112 := nl BK101 hg; have NB112_101 := nr BK101 hg; replace BK101 := bb BK101 hb; have NB102_112 := nl BK102 hg; have NB112_102 := nr BK102 hg; replace BK102 := bb BK102 hb; clear hb hbox hg; have hnb13 := NB112_101.out; have hnc13 := NB101_112.out; have hnb14 := NB112_102.out; have hnc14 := NB102_112.out; obtain ⟨_, _, _, _, _, _, _, _, _, _, _, _⟩ := cf6 BK112; obtain ⟨Ao16, co16, eo16⟩ := Kd.V_slice HO110.out; subst eo16) | ((with_reducible refine gc 73 rfl ?_); refine gL 23 Tryz.func73 #[.agg #[.int .i64 t103, .int .i64 t104, .int .i64 t105, .int .i64 t106, .int .i64 t107, .slice Ao16 t108.length co16], .slice A2 l2.length c2] ?_; (with_reducible refine (soap_job_over.calls k t103 t104 t105 t106 t107 _ _ t108 _ _ l2 t113 t114 _ ?side1 ?side2 ?side3 ?side4 A6.out).mono ?_); (case side1 => refine (Kd.V_reads' (e := 100) (base := w.heap.size) (ok := fun k_ => ((k_ ≠ gb101 ∧ k_ ≠ gb102) ∧ k_ ≠ gb112)) (n := t108.length) (c := co16) ?_).2.2; exact (by refine pV ?_; exact (Kd.V_mono (Kd.V_far (p := ⟨gb112, 5, none⟩) (Kd.V_far (p := ⟨gb112, 4, none⟩) (Kd.V_far (p := ⟨gb112, 3, none⟩) (Kd.V_far (p := ⟨gb112, 2, none⟩) (Kd.V_far (p := ⟨gb112, 1, none⟩) (Kd.V_far (p := ⟨gb112, 0, none⟩) (Kd.V_mono HO110.out (fun k_ hk => (⟨hk, hk.2⟩ : _ ∧ k_ ≠ gb112))) (fun _ hk => hk.2) (.int .i64 t103)) (fun _ hk => hk.2) (.int .i64 t104)) (fun _ hk => hk.2) (.int .i64 t105)) (fun _ hk => hk.2) (.int .i64 t106)) (fun _ hk => hk.2) (.int .i64 t107)) (fun _ hk => hk.2) (.slice Ao16 t108.length co16)) (fun _ h_ => h_.1)))); (case side2 => exact (Kd.V_reads' HO110.out).2.1); (case side3 => exact Kd.C_below HR2.out (pE HB)); (case side4 => exact HC2.out); rintro e w17 ⟨rfl, hb⟩; refine ⟨_, rfl, ?_⟩; replace HO110 := Aside0.mk (Kd.V_below (by refine pV ?_; exact (Kd.V_mono (Kd.V_far (p := ⟨gb112, 5, none⟩) (Kd.V_far (p := ⟨gb112, 4, none⟩) (Kd.V_far (p := ⟨gb112, 3, none⟩) (Kd.V_far (p := ⟨gb112, 2, none⟩) (Kd.V_far (p := ⟨gb112, 1, none⟩) (Kd.V_far (p := ⟨gb112, 0, none⟩) (Kd.V_mono HO110.out (fun k_ hk => (⟨hk, hk.2⟩ : _ ∧ k_ ≠ gb112))) (fun _ hk => hk.2) (.int .i64 t103)) (fun _ hk => hk.2) (.int .i64 t104)) (fun _ hk => hk.2) (.int .i64 t105)) (fun _ hk => hk.2) (.int .i64 t106)) (fun _ hk => hk.2) (.int .i64 t107)) (fun _ hk => hk.2) (.slice Ao16 t108.length co16)) (fun _ h_ => h_.1))) hb); replace BK101 := bf BK101 hb; replace BK102 := bf BK102 hb; replace BK112 := Aside0.mk (blk_below (g := gb112) (o := .cells #[.int .i64 t103, .int .i64 t104, .int .i64 t105, .int .i64 t106, .int .i64 t107, .slice Ao16 t108.length co16] 120 (0, 0)) (by refine pB ?_; refine blk_put (cs := #[.int .i64 t103, .int .i64 t104, .int .i64 t105, .int .i64 t106, .int .i64 t107, .slice none 0 0]) ?_ 5 _ rfl; refine pB ?_; refine blk_put (cs := #[.int .i64 t103, .int .i64 t104, .int .i64 t105, .int .i64 t106, .int .i64 0, .slice none 0 0]) ?_ 4 _ rfl; refine pB ?_; refine blk_put (cs := #[.int .i64 t103, .int .i64 t104, .int .i64 t105, .int .i64 0, .int .i64 0, .slice none 0 0]) ?_ 3 _ rfl; refine pB ?_; refine blk_put (cs := #[.int .i64 t103, .int .i64 t104, .int .i64 0, .int .i64 0, .int .i64 0, .slice none 0 0]) ?_ 2 _ rfl; refine pB ?_; refine blk_put (cs := #[.int .i64 t103, .int .i64 0, .int .i64 0, .int .i64 0, .int .i64 0, .slice none 0 0]) ?_ 1 _ rfl; refine pB ?_; refine blk_put (cs := #[.int .i64 0, .int .i64 0, .int .i64 0, .int .i64 0, .int .i64 0, .slice none 0 0]) ?_ 0 _ rfl; (with_reducible repeat (first | refine blk_drewN ?_ _ | refine blk_drew ?_ | refine blk_alloc ?_ _)); exact BK112.out) hb); replace HB := bs HB hb; clear hb; obtain ⟨_, _, _, _⟩ := cf2 BK102))
  refine bodyPost_ret (results_ct rfl _ _ gb102 24 #[.int .i64 t113, .int .i64 t114] (0, 0) _ rfl (by refine pB ?_; refine blk_put (cs := #[.int .i64 t113, .int .i64 0]) ?_ 1 _ rfl; refine pB ?_; refine blk_put (cs := #[.int .i64 0, .int .i64 0]) ?_ 0 _ rfl; (with_reducible repeat (first | refine blk_drewN ?_ _ | refine blk_drew ?_ | refine blk_alloc ?_ _)); exact BK102.out) Tryz.underlying24 rfl (by kernel_rfl)) rfl ?_
  exact ⟨eT, pE HB⟩
 ·rw [if_neg c5] at H
  have c5b0 : (t111 == 0) = false := beq_eq_false_iff_ne.mpr c5
  have c5b1 : (t111 != 0) = true := bne_iff_ne.mpr c5
  simp only [Option.some.injEq, Prod.mk.injEq] at H
  obtain ⟨rfl, rfl, rfl⟩ := H
  go_enter Tryz.func21, Tryz.ntmps21
  go_wp2_with (first | ((with_reducible refine gate_dst (N := 4) rfl ?_); refine bx 4 #[.int .i64 a1_0, .int .i64 a1_1, .int .i64 a1_2, .int .i64 a1_3, .int .i64 a1_4] 26 ?_; intro gb101 hg w19 hbox hb; have BK101 := hbox; have GW101 := gs HB hg; have GE101 := gs HB hg; replace HB := bs HB hb; clear hb hbox hg) | ((with_reducible refine gate_dst (N := 6) rfl ?_); refine bx 6 #[.int .i64 0, .int .i64 0] 24 ?_; intro gb102 hg w20 hbox hb; have BK102 := hbox; have GW102 := gs HB hg; have GE102 := gs HB hg; replace HB := bs HB hb; have NB101_102 := nl BK101 hg; have NB102_101 := nr BK101 hg; replace BK101 := bb BK101 hb; clear hb hbox hg; have hnb21 := NB101_102.out; have hnc21 := NB102_101.out; obtain ⟨_, _, _, _, _, _, _, _, _, _⟩ := cf5 BK101) | ((with_reducible refine gc 72 rfl ?_); refine gL 14 Tryz.func72 #[.slice A0 l0.length c0, .agg #[.int .i64 a1_0, .int .i64 a1_1, .int .i64 a1_2, .int .i64 a1_3, .int .i64 a1_4], .slice A2 l2.length c2] ?_; (with_reducible refine (soap_openMix.calls k (fun k_ => k_ < w.heap.size) _ _ l0 a1_0 a1_1 a1_2 a1_3 a1_4 _ _ l2 t103 t104 t105 t106 t107 t108 t111 _ ?side1 ?side2 ?side3 A4.out).mono ?_); (case side1 => exact Kd.V_mk HC0.out (Kd.F_below (Kd.C_F k100_heap HR0.out) (pE HB))); (case side2 => exact pC (Kd.C_below HR2.out HB.out)); (case side3 => exact HC2.out); rintro e w23 ⟨v109, rfl, ho0, hb⟩; refine ⟨_, rfl, ?_⟩; have HO110 := Aside0.mk (Kd.V_lower (Kd.V_mono (ok' := fun k_ => k_ ≠ gb101 ∧ k_ ≠ gb102) ho0 (fun k_ hk_ => ⟨Or.elim hk_ (fun hs_ => fun e_ => Nat.not_le.2 hs_ (by rw [e_]; exact GW101.out)) (fun hn_ => (Kd.freshB (g := gb101) (o := .cells #[.int .i64 a1_0, .int .i64 a1_1, .int .i64 a1_2, .int .i64 a1_3, .int .i64 a1_4] 26 (0, 0)) (pB BK101.out) k_ hn_)), Or.elim hk_ (fun hs_ => fun e_ => Nat.not_le.2 hs_ (by rw [e_]; exact GW102.out)) (fun hn_ => (Kd.freshB (g := gb102) (o := .cells #[.int .i64 0, .int .i64 0] 24 (0, 0)) (pB BK102.out) k_ hn_))⟩)) (below_size (pE HB))); replace BK101 := bb BK101 hb; replace BK102 := bb BK102 hb; replace HB := bs HB hb; clear hb ho0) | ((with_reducible refine gate_dst (N := 8) rfl ?_); refine bx 8 #[.int .i64 0, .int .i64 0, .int .i64 0, .int .i64 0, .int .i64 0, .slice none 0 0] 120 ?_; intro gb112 hg w24 hbox hb; replace HO110 := ve HO110 hg hb; have BK112 := hbox; have GW112 := gs HB hg; have GE112 := gs HB hg; replace HB := bs HB hb; have NB101_112 := nl BK101 hg; have NB112_101 := nr BK101 hg; replace BK101 := bb BK101 hb; have NB102_112 := nl BK102 hg; have NB112_102 := nr BK102 hg; replace BK102 := bb BK102 hb; clear hb hbox hg; have hnb25 := NB112_101.out; have hnc25 := NB101_112.out; have hnb26 := NB112_102.out; have hnc26 := NB102_112.out; obtain ⟨_, _, _, _, _, _, _, _, _, _, _, _⟩ := cf6 BK112; obtain ⟨Ao28, co28, eo28⟩ := Kd.V_slice HO110.out; subst eo28; obtain ⟨_, _, _, _⟩ := cf2 BK102))
  refine bodyPost_ret (results_ct rfl _ _ gb102 24 #[.int .i64 0, .int .i64 0] (0, 0) _ rfl (by refine pB ?_; refine blk_put (cs := #[.int .i64 0, .int .i64 0]) ?_ 1 _ rfl; refine pB ?_; refine blk_put (cs := #[.int .i64 0, .int .i64 0]) ?_ 0 _ rfl; refine pB ?_; refine blk_far ?_ NB102_112.out _; refine pB ?_; refine blk_far ?_ NB102_112.out _; refine pB ?_; refine blk_far ?_ NB102_112.out _; refine pB ?_; refine blk_far ?_ NB102_112.out _; refine pB ?_; refine blk_far ?_ NB102_112.out _; refine pB ?_; refine blk_far ?_ NB102_112.out _; (with_reducible repeat (first | refine blk_drewN ?_ _ | refine blk_drew ?_ | refine blk_alloc ?_ _)); exact BK102.out) Tryz.underlying24 rfl (by kernel_rfl)) rfl ?_
  exact ⟨eT, pE HB⟩
def soap_price.f (a0_0 : Int) (a0_1 : Int) (a0_2 : Int) (a0_3 : Int) (a0_4 : Int) : Option (Int) := some a0_2
set_option maxHeartbeats 8000000 in
set_option maxRecDepth 100000 in
theorem soap_price.calls (a0_0 : Int) (a0_1 : Int) (a0_2 : Int) (a0_3 : Int) (a0_4 : Int) (r : Int) (w : World) (h : soap_price.f a0_0 a0_1 a0_2 a0_3 a0_4 = some r) :
  Calls Tryz.prog 80 #[.agg #[.int .i64 a0_0, .int .i64 a0_1, .int .i64 a0_2, .int .i64 a0_3, .int .i64 a0_4]] w fun e w' => e = .returned (.int .i64 r) ∧ Below w.heap.size w w' := by
 have hu100 := Tryz.underlying100
 have HB := Aside0.mk (Below.refl w.heap.size w)
 have H : (some a0_2) = some r := h
 clear h
 obtain rfl := Option.some.inj H
 go_enter Tryz.func80, Tryz.ntmps80
 go_wp2_with (first | ((with_reducible refine gate_dst (N := 1) rfl ?_); refine bx 1 #[.int .i64 a0_0, .int .i64 a0_1, .int .i64 a0_2, .int .i64 a0_3, .int .i64 a0_4] 100 ?_; intro gb101 hg w2 hbox hb; have BK101 := hbox; have GW101 := gs HB hg; have GE101 := gs HB hg; replace HB := bs HB hb; clear hb hbox hg; obtain ⟨_, _, _, _, _, _, _, _, _, _⟩ := cf5 BK101))
 go_ret
 exact ⟨eT, pE HB⟩
def soap_job_total_at_soap_price.l0 : Nat → Int → List Int → Int → Int → Int → Int → Int → Int → Int → List (S100) → Option (Int)
 | 0, _, _, _, _, _, _, _, _, _, _ => none
 | k + 1, x6, x9, x10, x11, x102000, x102001, x102002, x102003, x102004, x102005 => if x11 < x10 then (if 0 ≤ x11 then (if x11 < (x9.length : Int) then (if x11 < (x102005.length : Int) then ((soap_price.f ((rd_T100 x102005 x11).f0.f0) ((rd_T100 x102005 x11).f0.f1) ((rd_T100 x102005 x11).f1) ((rd_T100 x102005 x11).f2) ((rd_T100 x102005 x11).f3)).bind fun t104 => (soap_job_total_at_soap_price.l0 k (wrap64 (x6 + (wrap64 ((rd x9 x11) * t104)))) x9 x10 (wrap64 (x11 + 1)) x102000 x102001 x102002 x102003 x102004 x102005)) else (none)) else (none)) else (none)) else (some x6)
def soap_job_total_at_soap_price.f (k : Nat) (a0_0 : Int) (a0_1 : Int) (a0_2 : Int) (a0_3 : Int) (a0_4 : Int) (l0_5 : List (S100)) (l1 : List Int)  : Option (Int) := soap_job_total_at_soap_price.l0 k 0 l1 (l1.length : Int) 0 a0_0 a0_1 a0_2 a0_3 a0_4 l0_5
theorem soap_job_total_at_soap_price.mono_l : ∀ k, (∀ y0 y1 y2 y3 y4 y5 y6 y7 y8 y9, LeO (soap_job_total_at_soap_price.l0 k y0 y1 y2 y3 y4 y5 y6 y7 y8 y9) (soap_job_total_at_soap_price.l0 (k + 1) y0 y1 y2 y3 y4 y5 y6 y7 y8 y9))
 | 0 => fun _ _ _ _ _ _ _ _ _ _ r h => by simp [soap_job_total_at_soap_price.l0] at h
 | k + 1 => by
  have ih0 := soap_job_total_at_soap_price.mono_l k
  ·intro y0 y1 y2 y3 y4 y5 y6 y7 y8 y9
   unfold soap_job_total_at_soap_price.l0
   repeat' first
   | (with_reducible exact ih0 _ _ _ _ _ _ _ _ _ _)
   | (with_reducible exact LeO.refl _)
   | (with_reducible exact LeO.none _)
   | (with_reducible refine LeO.ite ?_ ?_)
   | (with_reducible refine LeO.bind ?_ (fun _ => ?_))
   | exact ih0 _ _ _ _ _ _ _ _ _ _
   | exact LeO.none _
   | refine LeO.ite ?_ ?_
   | refine LeO.bind ?_ (fun _ => ?_)
theorem soap_job_total_at_soap_price.mono : ∀ a0 a1 a2 a3 a4 a5 a6 k, LeO (soap_job_total_at_soap_price.f k a0 a1 a2 a3 a4 a5 a6) (soap_job_total_at_soap_price.f (k + 1) a0 a1 a2 a3 a4 a5 a6) := by
 intro a0 a1 a2 a3 a4 a5 a6 k
 have ih0 := soap_job_total_at_soap_price.mono_l k
 unfold soap_job_total_at_soap_price.f
 repeat' first
   | (with_reducible exact ih0 _ _ _ _ _ _ _ _ _ _)
   | (with_reducible exact LeO.refl _)
   | (with_reducible exact LeO.none _)
   | (with_reducible refine LeO.ite ?_ ?_)
   | (with_reducible refine LeO.bind ?_ (fun _ => ?_))
   | exact ih0 _ _ _ _ _ _ _ _ _ _
   | exact LeO.none _
   | refine LeO.ite ?_ ?_
   | refine LeO.bind ?_ (fun _ => ?_)
set_option maxHeartbeats 8000000 in
set_option maxRecDepth 100000 in
theorem soap_job_total_at_soap_price.calls (k : Nat) (a0_0 : Int) (a0_1 : Int) (a0_2 : Int) (a0_3 : Int) (a0_4 : Int) (A0_5 : Option Addr) (c0_5 : Nat) (l0_5 : List (S100)) (A1 : Option Addr) (c1 : Nat) (l1 : List Int)  (r : Int) (w : World) (hr0_5 : Kd.C k100 w A0_5 l0_5.length l0_5) (hc0_5 : l0_5.length ≤ c0_5) (hr1 : Kd.C (Kd.int .i64) w A1 l1.length l1) (hc1 : l1.length ≤ c1) (h : soap_job_total_at_soap_price.f k a0_0 a0_1 a0_2 a0_3 a0_4 l0_5 l1 = some r) :
  Calls Tryz.prog 74 #[.agg #[.int .i64 a0_0, .int .i64 a0_1, .int .i64 a0_2, .int .i64 a0_3, .int .i64 a0_4, .slice A0_5 l0_5.length c0_5], .slice A1 l1.length c1, .func (.func 80) #[] #[]] w fun e w' => e = .returned (.int .i64 r) ∧ Below w.heap.size w w' := by
 have hu120 := Tryz.underlying120
 have hu100 := Tryz.underlying100
 have HR0_5 := Aside0.mk hr0_5
 have HC0_5 := Aside0.mk hc0_5
 clear hr0_5 hc0_5
 have HR1 := Aside0.mk hr1
 have HC1 := Aside0.mk hc1
 clear hr1 hc1
 have HB := Aside0.mk (Below.refl w.heap.size w)
 have H : (soap_job_total_at_soap_price.l0 k 0 l1 (l1.length : Int) 0 a0_0 a0_1 a0_2 a0_3 a0_4 l0_5) = some r := h
 clear h
 have H' := Aside0.mk H
 clear H
 go_enter Tryz.func74, Tryz.ntmps74
 go_wp2_with (first | ((with_reducible refine gate_dst (N := 3) rfl ?_); refine bx 3 #[.int .i64 a0_0, .int .i64 a0_1, .int .i64 a0_2, .int .i64 a0_3, .int .i64 a0_4, .slice A0_5 l0_5.length c0_5] 120 ?_; intro gb101 hg w4 hbox hb; have BK101 := hbox; have GW101 := gs HB hg; have GE101 := gs HB hg; replace HB := bs HB hb; clear hb hbox hg))
 (try simp only [Act.put, List.setIfInBounds_toArray, List.set_cons_zero, List.set_cons_succ])
 go_loopg [6, 11] k (fun kq v6 v11 w' => ∃ (x6_1 : Int) (x11_1 : Int), v6 = .int .i64 x6_1 ∧ v11 = .int .i64 x11_1 ∧ Aside0 (soap_job_total_at_soap_price.l0 kq x6_1 l1 (l1.length : Int) x11_1 a0_0 a0_1 a0_2 a0_3 a0_4 l0_5 = some r) ∧ Aside0 (kq ≤ k) ∧ Aside0 (w'.heap[gb101]? = some (.cells #[.int .i64 a0_0, .int .i64 a0_1, .int .i64 a0_2, .int .i64 a0_3, .int .i64 a0_4, (.slice A0_5 l0_5.length c0_5)] 120 (0, 0))) ∧ Aside0 (Below w.heap.size w w'))
 case atStart => exact ⟨(0), (0), (by first | rfl | (simp; done) | (simp [*]; done)), (by first | rfl | (simp; done) | (simp [*]; done)), H', ⟨Nat.le_refl _⟩, ⟨by (with_reducible repeat (first | refine blk_drewN ?_ _ | refine blk_drew ?_ | refine blk_alloc ?_ _)); exact BK101.out⟩, ⟨pE HB⟩⟩
 case round =>
  clear H'
  try clear c1
  try clear p2
  obtain ⟨x6_1, x11_1, rfl, rfl, HA, HK1, BK101, HB⟩ := hrel
  cases gk with
  | zero => exact absurd HA.out (by simp [soap_job_total_at_soap_price.l0])
  | succ k1 =>
   have H := HA.out
   clear HA
   simp only [soap_job_total_at_soap_price.l0] at H
   by_cases c5 : x11_1 < (l1.length : Int)
   ·rw [if_pos c5] at H
    have c5b0 : decide (x11_1 < (l1.length : Int)) = true := decide_eq_true c5
    clear c5
    by_cases c6 : 0 ≤ x11_1
    ·rw [if_pos c6] at H
     have c6b0 : decide (0 ≤ x11_1) = true := decide_eq_true c6
     clear c6
     by_cases c7 : x11_1 < (l1.length : Int)
     ·rw [if_pos c7] at H
      have c7b0 : decide (x11_1 < (l1.length : Int)) = true := decide_eq_true c7
      clear c7
      by_cases c8 : x11_1 < (l0_5.length : Int)
      ·rw [if_pos c8] at H
       have c8b0 : decide (x11_1 < (l0_5.length : Int)) = true := decide_eq_true c8
       clear c8
       obtain ⟨t104, A9, H⟩ := bi H
       have H' := Aside0.mk H
       clear H
       have p102 : 0 ≤ (x11_1 : Int) := dT
       have q102 : x11_1 < (l1.length : Int) := dT
       obtain ⟨ad102, e102, hx102_0⟩ := Kd.at_int HR1.out x11_1 p102 q102
       cases e102
       replace hx102_0 := cut_ HB hx102_0
       replace p102 := eq_true p102
       replace q102 := eq_true q102
       obtain ⟨_, _, _, _, _, _, _, _, _, _, _, _⟩ := cf6 BK101
       have p103 : 0 ≤ (x11_1 : Int) := dT
       have q103 : x11_1 < (l0_5.length : Int) := dT
       obtain ⟨ad103, e103, hx103_0, hx103_1, hx103_2, hx103_3, hx103_4⟩ := at_T100 HR0_5.out x11_1 p103 q103
       cases e103
       replace hx103_0 := cut_ HB hx103_0
       replace hx103_1 := cut_ HB hx103_1
       replace hx103_2 := cut_ HB hx103_2
       replace hx103_3 := cut_ HB hx103_3
       replace hx103_4 := cut_ HB hx103_4
       replace p103 := eq_true p103
       replace q103 := eq_true q103
       go_wp2_with (first | (go_at_call 80; (with_reducible refine (soap_price.calls ((rd_T100 l0_5 x11_1).f0.f0) ((rd_T100 l0_5 x11_1).f0.f1) ((rd_T100 l0_5 x11_1).f1) ((rd_T100 l0_5 x11_1).f2) ((rd_T100 l0_5 x11_1).f3) t104 _ A9.out).mono ?_); rintro e w11 ⟨rfl, hb⟩; replace BK101 := bb BK101 hb; replace HB := bs HB hb; (try clear hb); (try clear hb2); (try clear hk); (try clear hi)))
       go_roundg k1
       case measure => have := HK1.out; omega
       case rel => exact ⟨(wrap64 (x6_1 + (wrap64 ((rd l1 x11_1) * t104)))), (wrap64 (x11_1 + 1)), (by first | rfl | (simp; done) | (simp [*]; done)), (by first | rfl | (simp; done) | (simp [*]; done)), H', ⟨by have := HK1.out; omega⟩, ⟨by (with_reducible repeat (first | refine blk_drewN ?_ _ | refine blk_drew ?_ | refine blk_alloc ?_ _)); exact BK101.out⟩, ⟨pE HB⟩⟩
      ·rw [if_neg c8] at H
       exact absurd H (by simp)
     ·rw [if_neg c7] at H
      exact absurd H (by simp)
    ·rw [if_neg c6] at H
     exact absurd H (by simp)
   ·rw [if_neg c5] at H
    have c5b0 : decide (x11_1 < (l1.length : Int)) = false := decide_eq_false c5
    clear c5
    obtain rfl := Option.some.inj H
    go_wp2
    go_ret
    exact ⟨eT, pE HB⟩
def soap_job_mixes_1_1.f (a0 : Int) (a1_0 : Int) (a1_1 : Int) (a1_2 : Int) (a1_3 : Int) (a1_4 : Int) (a2_0 : Int) : Option (Bool) := some (decide ((wrap64 (a0 * a1_0)) ≥ a2_0))
set_option maxHeartbeats 8000000 in
set_option maxRecDepth 100000 in
theorem soap_job_mixes_1_1.calls (a0 : Int) (B1 : Nat) (a1_0 : Int) (a1_1 : Int) (a1_2 : Int) (a1_3 : Int) (a1_4 : Int) (B2 : Nat) (a2_0 : Int) (r : Bool) (w : World) (hb1 : w.heap[B1]? = some (.cells #[.int .i64 a1_0, .int .i64 a1_1, .int .i64 a1_2, .int .i64 a1_3, .int .i64 a1_4] 100 (0, 0))) (hb2 : w.heap[B2]? = some (.cells #[.int .i64 a2_0] 3 (0, 0))) (nb1_2 : B1 ≠ B2) (h : soap_job_mixes_1_1.f a0 a1_0 a1_1 a1_2 a1_3 a1_4 a2_0 = some r) :
  Calls Tryz.prog 122 #[.int .i64 a0, .pointer (some ⟨B1, 0, none⟩), .pointer (some ⟨B2, 0, none⟩)] w fun e w' => e = .returned (.bool r) ∧ Drawn0 w w' := by
 have BK1 := Aside0.mk hb1
 clear hb1
 have BK2 := Aside0.mk hb2
 clear hb2
 have NB1_2 := Aside0.mk nb1_2
 have NB2_1 := Aside0.mk nb1_2.symm
 clear nb1_2
 have H : (some (decide ((wrap64 (a0 * a1_0)) ≥ a2_0))) = some r := h
 clear h
 obtain rfl := Option.some.inj H
 have hnb4 := NB1_2.out
 have hnc4 := NB2_1.out
 obtain ⟨_, _, _, _, _, _, _, _, _, _⟩ := cf5 BK1
 obtain ⟨_, _⟩ := cf1 BK2
 go_enter Tryz.func122, Tryz.ntmps122
 go_wp2
 go_ret
 exact ⟨by first | rfl | (simp; done) | (simp [*]; done), by repeat (first | exact Drawn0.refl _ | apply Drawn0.step)⟩
def sort_Search_at_soap_job_mixes_1_1.l0 : Nat → Int → Int → Int → Int → Int → Int → Int → Int → Option (Int)
 | 0, _, _, _, _, _, _, _, _ => none
 | k + 1, x5, x6, x57000, x57001, x57002, x57003, x57004, x58000 => if x5 < x6 then ((soap_job_mixes_1_1.f (wrap64 ((IntKind.u64.wrap (wrap64 (x5 + x6))) / 2)) x57000 x57001 x57002 x57003 x57004 x58000).bind fun t101 => (if t101 = true then (sort_Search_at_soap_job_mixes_1_1.l0 k x5 (wrap64 ((IntKind.u64.wrap (wrap64 (x5 + x6))) / 2)) x57000 x57001 x57002 x57003 x57004 x58000) else (sort_Search_at_soap_job_mixes_1_1.l0 k (wrap64 ((wrap64 ((IntKind.u64.wrap (wrap64 (x5 + x6))) / 2)) + 1)) x6 x57000 x57001 x57002 x57003 x57004 x58000))) else (some x5)
def sort_Search_at_soap_job_mixes_1_1.f (k : Nat) (a0 : Int) (a56_0 : Int) (a56_1 : Int) (a56_2 : Int) (a56_3 : Int) (a56_4 : Int) (a57_0 : Int) : Option (Int) := sort_Search_at_soap_job_mixes_1_1.l0 k 0 a0 a56_0 a56_1 a56_2 a56_3 a56_4 a57_0
theorem sort_Search_at_soap_job_mixes_1_1.mono_l : ∀ k, (∀ y0 y1 y2 y3 y4 y5 y6 y7, LeO (sort_Search_at_soap_job_mixes_1_1.l0 k y0 y1 y2 y3 y4 y5 y6 y7) (sort_Search_at_soap_job_mixes_1_1.l0 (k + 1) y0 y1 y2 y3 y4 y5 y6 y7))
 | 0 => fun _ _ _ _ _ _ _ _ r h => by simp [sort_Search_at_soap_job_mixes_1_1.l0] at h
 | k + 1 => by
  have ih0 := sort_Search_at_soap_job_mixes_1_1.mono_l k
  ·intro y0 y1 y2 y3 y4 y5 y6 y7
   unfold sort_Search_at_soap_job_mixes_1_1.l0
   repeat' first
   | (with_reducible exact ih0 _ _ _ _ _ _ _ _)
   | (with_reducible exact LeO.refl _)
   | (with_reducible exact LeO.none _)
   | (with_reducible refine LeO.ite ?_ ?_)
   | (with_reducible refine LeO.bind ?_ (fun _ => ?_))
   | exact ih0 _ _ _ _ _ _ _ _
   | exact LeO.none _
   | refine LeO.ite ?_ ?_
   | refine LeO.bind ?_ (fun _ => ?_)
theorem sort_Search_at_soap_job_mixes_1_1.mono : ∀ a0 a1 a2 a3 a4 a5 a6 k, LeO (sort_Search_at_soap_job_mixes_1_1.f k a0 a1 a2 a3 a4 a5 a6) (sort_Search_at_soap_job_mixes_1_1.f (k + 1) a0 a1 a2 a3 a4 a5 a6) := by
 intro a0 a1 a2 a3 a4 a5 a6 k
 have ih0 := sort_Search_at_soap_job_mixes_1_1.mono_l k
 unfold sort_Search_at_soap_job_mixes_1_1.f
 repeat' first
   | (with_reducible exact ih0 _ _ _ _ _ _ _ _)
   | (with_reducible exact LeO.refl _)
   | (with_reducible exact LeO.none _)
   | (with_reducible refine LeO.ite ?_ ?_)
   | (with_reducible refine LeO.bind ?_ (fun _ => ?_))
   | exact ih0 _ _ _ _ _ _ _ _
   | exact LeO.none _
   | refine LeO.ite ?_ ?_
   | refine LeO.bind ?_ (fun _ => ?_)
set_option maxHeartbeats 8000000 in
set_option maxRecDepth 100000 in
theorem sort_Search_at_soap_job_mixes_1_1.calls (k : Nat) (a0 : Int) (B56 : Nat) (a56_0 : Int) (a56_1 : Int) (a56_2 : Int) (a56_3 : Int) (a56_4 : Int) (B57 : Nat) (a57_0 : Int) (r : Int) (w : World) (hb56 : w.heap[B56]? = some (.cells #[.int .i64 a56_0, .int .i64 a56_1, .int .i64 a56_2, .int .i64 a56_3, .int .i64 a56_4] 100 (0, 0))) (hb57 : w.heap[B57]? = some (.cells #[.int .i64 a57_0] 3 (0, 0))) (nb56_57 : B56 ≠ B57) (h : sort_Search_at_soap_job_mixes_1_1.f k a0 a56_0 a56_1 a56_2 a56_3 a56_4 a57_0 = some r) :
  Calls Tryz.prog 86 #[.int .i64 a0, .func (.func 122) #[] #[.pointer (some ⟨B56, 0, none⟩), .pointer (some ⟨B57, 0, none⟩)]] w fun e w' => e = .returned (.int .i64 r) ∧ Below w.heap.size w w' := by
 have BK56 := Aside0.mk hb56
 clear hb56
 have BK57 := Aside0.mk hb57
 clear hb57
 have NB56_57 := Aside0.mk nb56_57
 have NB57_56 := Aside0.mk nb56_57.symm
 clear nb56_57
 have HB := Aside0.mk (Below.refl w.heap.size w)
 have H : (sort_Search_at_soap_job_mixes_1_1.l0 k 0 a0 a56_0 a56_1 a56_2 a56_3 a56_4 a57_0) = some r := h
 clear h
 have H' := Aside0.mk H
 clear H
 go_enter Tryz.func86, Tryz.ntmps86
 go_wp2
 (try simp only [Act.put, List.setIfInBounds_toArray, List.set_cons_zero, List.set_cons_succ])
 go_loopg [5, 6] k (fun kq v5 v6 w' => ∃ (x5_1 : Int) (x6_1 : Int), v5 = .int .i64 x5_1 ∧ v6 = .int .i64 x6_1 ∧ Aside0 (sort_Search_at_soap_job_mixes_1_1.l0 kq x5_1 x6_1 a56_0 a56_1 a56_2 a56_3 a56_4 a57_0 = some r) ∧ Aside0 (kq ≤ k) ∧ Aside0 (w'.heap[B56]? = some (.cells #[.int .i64 a56_0, .int .i64 a56_1, .int .i64 a56_2, .int .i64 a56_3, .int .i64 a56_4] 100 (0, 0))) ∧ Aside0 (w'.heap[B57]? = some (.cells #[.int .i64 a57_0] 3 (0, 0))) ∧ Aside0 (Below w.heap.size w w'))
 case atStart => exact ⟨(0), (a0), (by first | rfl | (simp; done) | (simp [*]; done)), (by first | rfl | (simp; done) | (simp [*]; done)), H', ⟨Nat.le_refl _⟩, ⟨by (with_reducible repeat (first | refine blk_drewN ?_ _ | refine blk_drew ?_ | refine blk_alloc ?_ _)); exact BK56.out⟩, ⟨by (with_reducible repeat (first | refine blk_drewN ?_ _ | refine blk_drew ?_ | refine blk_alloc ?_ _)); exact BK57.out⟩, ⟨pE HB⟩⟩
 case round =>
  clear H'
  try clear p2
  obtain ⟨x5_1, x6_1, rfl, rfl, HA, HK1, BK56, BK57, HB⟩ := hrel
  cases gk with
  | zero => exact absurd HA.out (by simp [sort_Search_at_soap_job_mixes_1_1.l0])
  | succ k1 =>
   have H := HA.out
   clear HA
   simp only [sort_Search_at_soap_job_mixes_1_1.l0] at H
   by_cases c3 : x5_1 < x6_1
   ·rw [if_pos c3] at H
    have c3b0 : decide (x5_1 < x6_1) = true := decide_eq_true c3
    clear c3
    obtain ⟨t101, A4, H⟩ := bi H
    by_cases c5 : t101 = true
    ·subst c5
     rw [if_pos rfl] at H
     have H' := Aside0.mk H
     clear H
     go_wp2_with (first | (go_at_call 122; (with_reducible refine (soap_job_mixes_1_1.calls (wrap64 ((IntKind.u64.wrap (wrap64 (x5_1 + x6_1))) / 2)) B56 a56_0 a56_1 a56_2 a56_3 a56_4 B57 a57_0 true _ ?side1 ?side2 ?side3 A4.out).mono ?_); (case side1 => exact pB BK56.out); (case side2 => exact pB BK57.out); (case side3 => exact NB56_57.out); rintro e w' ⟨rfl, ⟨nd, rfl⟩⟩))
     go_roundg k1
     case measure => have := HK1.out; omega
     case rel => exact ⟨(x5_1), (wrap64 ((IntKind.u64.wrap (wrap64 (x5_1 + x6_1))) / 2)), (by first | rfl | (simp; done) | (simp [*]; done)), (by first | rfl | (simp; done) | (simp [*]; done)), H', ⟨by have := HK1.out; omega⟩, ⟨by (with_reducible repeat (first | refine blk_drewN ?_ _ | refine blk_drew ?_ | refine blk_alloc ?_ _)); exact BK56.out⟩, ⟨by (with_reducible repeat (first | refine blk_drewN ?_ _ | refine blk_drew ?_ | refine blk_alloc ?_ _)); exact BK57.out⟩, ⟨pE HB⟩⟩
    ·replace c5 := Bool.eq_false_iff.mpr c5
     subst c5
     rw [if_neg (show ¬ (false = true) by decide)] at H
     have H' := Aside0.mk H
     clear H
     go_wp2_with (first | (go_at_call 122; (with_reducible refine (soap_job_mixes_1_1.calls (wrap64 ((IntKind.u64.wrap (wrap64 (x5_1 + x6_1))) / 2)) B56 a56_0 a56_1 a56_2 a56_3 a56_4 B57 a57_0 false _ ?side1 ?side2 ?side3 A4.out).mono ?_); (case side1 => exact pB BK56.out); (case side2 => exact pB BK57.out); (case side3 => exact NB56_57.out); rintro e w' ⟨rfl, ⟨nd, rfl⟩⟩))
     go_roundg k1
     case measure => have := HK1.out; omega
     case rel => exact ⟨(wrap64 ((wrap64 ((IntKind.u64.wrap (wrap64 (x5_1 + x6_1))) / 2)) + 1)), (x6_1), (by first | rfl | (simp; done) | (simp [*]; done)), (by first | rfl | (simp; done) | (simp [*]; done)), H', ⟨by have := HK1.out; omega⟩, ⟨by (with_reducible repeat (first | refine blk_drewN ?_ _ | refine blk_drew ?_ | refine blk_alloc ?_ _)); exact BK56.out⟩, ⟨by (with_reducible repeat (first | refine blk_drewN ?_ _ | refine blk_drew ?_ | refine blk_alloc ?_ _)); exact BK57.out⟩, ⟨pE HB⟩⟩
   ·rw [if_neg c3] at H
    have c3b0 : decide (x5_1 < x6_1) = false := decide_eq_false c3
    clear c3
    obtain rfl := Option.some.inj H
    go_wp2
    go_ret
    exact ⟨eT, pE HB⟩
end Go.Proofs.YtjaapkkpmegkfaaGreat.P
namespace Go.Proofs.YtjaapkkpmegkfaaGreat.R
open Go.RowKit Go.Shelf
structure IStep (B lo c : Nat) (W W' : World) : Prop where
  os : W'.os = W.os
  tape : W'.tape = W.tape
  output : W'.output = W.output
  size : W.heap.size ≤ W'.heap.size
  same : ∀ (k : Nat) (o : Obj), W.heap[k]? = some o → ¬ (lo ≤ k ∧ k < lo + c) → (B ≤ k → o.isCells = true) → W'.heap[k]? = some o
theorem IStep.refl (B lo c : Nat) (W : World) : IStep B lo c W W := ⟨rfl, rfl, rfl, Nat.le_refl _, fun _ _ h _ _ => h⟩
theorem IStep.trans {B lo c : Nat} {X Y Z : World} (h : IStep B lo c X Y) (k : IStep B lo c Y Z) : IStep B lo c X Z :=
  ⟨k.os.trans h.os, k.tape.trans h.tape, k.output.trans h.output, Nat.le_trans h.size k.size, fun j o ho h1 h2 => k.same j o (h.same j o ho h1 h2) h1 h2⟩
theorem IStep.of_below {B lo c : Nat} {W W' : World} (h : Below W.heap.size W W') : IStep B lo c W W' :=
  ⟨h.os, h.tape, h.output, h.size, fun k o ho _ _ => (h.block k (Array.getElem?_eq_some_iff.1 ho).1).trans ho⟩
theorem IStep.lower {B B' lo c : Nat} {W W' : World} (h : IStep B' lo c W W') (hB : B ≤ B') : IStep B lo c W W' :=
  ⟨h.os, h.tape, h.output, h.size, fun k o ho h1 h2 => h.same k o ho h1 (fun h3 => h2 (by omega))⟩
theorem IStep.none_ {B lo lo' : Nat} {W W' : World} (h : IStep B lo 0 W W') : IStep B lo' 0 W W' :=
  ⟨h.os, h.tape, h.output, h.size, fun k o ho h1 h2 => h.same k o ho (fun h3 => by omega) h2⟩
def Stab {β : Type} (B lo c : Nat) (J : β → World → Prop) : Prop := ∀ i W W', J i W → IStep B lo c W W' → J i W'
structure RKeep (n₀ : Nat) (Ex : Nat → Prop) (B : Nat) (E : Nat → Prop) (W W' : World) : Prop where
  size : W.heap.size ≤ W'.heap.size
  same : ∀ k, k < W.heap.size → (k < n₀ ∧ ¬ Ex k ∨ B ≤ k ∧ E (k - B)) → W'.heap[k]? = W.heap[k]?
  book : ∀ (k : Nat) (o : Obj), B ≤ k → W.heap[k]? = some o → o.isCells = false → W'.heap[k]? = some o
theorem RKeep.refl (n₀ : Nat) (Ex : Nat → Prop) (B : Nat) (E : Nat → Prop) (W : World) : RKeep n₀ Ex B E W W := ⟨Nat.le_refl _, fun _ _ _ => rfl, fun _ _ _ h _ => h⟩
theorem RKeep.trans {n₀ : Nat} {Ex : Nat → Prop} {B : Nat} {E : Nat → Prop} {X Y Z : World} (h : RKeep n₀ Ex B E X Y) (k : RKeep n₀ Ex B E Y Z) : RKeep n₀ Ex B E X Z :=
  ⟨Nat.le_trans h.size k.size, fun j hj h1 => (k.same j (Nat.lt_of_lt_of_le hj h.size) h1).trans (h.same j hj h1), fun j o hB ho hc => k.book j o hB (h.book j o hB ho hc) hc⟩
theorem RKeep.of_below {n₀ : Nat} {Ex : Nat → Prop} {B : Nat} {E : Nat → Prop} {W W' : World} (h : Below W.heap.size W W') : RKeep n₀ Ex B E W W' :=
  ⟨h.size, fun k hk _ => h.block k hk, fun k o _ ho _ => (h.block k (Array.getElem?_eq_some_iff.1 ho).1).trans ho⟩
theorem RKeep.istep {n₀ : Nat} {Ex : Nat → Prop} {B : Nat} {E : Nat → Prop} {X Y Z : World} {b lo : Nat} (h : RKeep n₀ Ex B E X Y) (k : IStep b lo 0 Y Z) (hb : X.heap.size ≤ b) : RKeep n₀ Ex B E X Z := by
  have key : ∀ j, j < X.heap.size → ∀ o, Y.heap[j]? = some o → Z.heap[j]? = some o := fun j hj o ho => k.same j o ho (fun h3 => by omega) (fun h3 => by omega)
  have ex : ∀ j, j < X.heap.size → Y.heap[j]? = Z.heap[j]? := fun j hj => by
    have hy : j < Y.heap.size := Nat.lt_of_lt_of_le hj h.size
    rw [key j hj _ (Array.getElem?_eq_getElem hy), Array.getElem?_eq_getElem hy]
  exact ⟨Nat.le_trans h.size k.size, fun j hj h1 => (ex j hj).symm.trans (h.same j hj h1), fun j o hB ho hc => key j (Array.getElem?_eq_some_iff.1 ho).1 o (h.book j o hB ho hc)⟩
def IterC {α : Type} (F : Fence) (n : Nat) (P : Program) (g : Nat) (lb : Array Value) (xs : List α) (Rv : α → Array Value → World → Prop) (Ex : Nat → Prop) (c : Nat) (E : Nat → Prop) (w : World) : Prop :=
  ∀ (l : Nat) (J Jx : Nat → World → Prop) (W : World), Below w.heap.size w W → Stab W.heap.size W.heap.size c J → Stab W.heap.size W.heap.size c Jx →
    (∀ i x vs W1, xs[i]? = some x → J i W1 → Rv x vs W1 → W.heap.size + c ≤ W1.heap.size → YieldAt F (n - 1) P l vs W1 fun e W' =>
      (e = .returned (.bool true) ∧ J (i + 1) W' ∧ RKeep w.heap.size Ex W.heap.size E W1 W') ∨ (e = .returned (.bool false) ∧ Jx (i + 1) W' ∧ RKeep w.heap.size Ex W.heap.size E W1 W')) →
    J 0 W →
    CallsIn F n P g (#[.func (.yield l) #[] #[]] ++ lb) W fun e W' => (∃ v, e = .returned v) ∧ (J xs.length W' ∨ ∃ i, i ≤ xs.length ∧ Jx i W')
structure BKeep (n₀ : Nat) (Ex : Nat → Prop) (B0 B : Nat) (E : Nat → Prop) (W W' : World) : Prop where
  book : ∀ (k : Nat) (o : Obj), B0 ≤ k → W.heap[k]? = some o → o.isCells = false → W'.heap[k]? = some o
  keep : RKeep n₀ Ex B E W W'
def bPost (n₀ : Nat) (Ex : Nat → Prop) (B0 B : Nat) (E : Nat → Prop) (I : Nat → World → Prop) (Ix : Code → Nat → World → Prop) (j : Nat) (W : World) : Exit → Act → World → Prop
  | .normal, _, W' => BKeep n₀ Ex B0 B E W W' ∧ I j W'
  | .ret, _, W' => BKeep n₀ Ex B0 B E W W' ∧ Ix .ret j W'
  | .exit id, _, W' => BKeep n₀ Ex B0 B E W W' ∧ Ix (.exit id) j W'
  | .goto t, _, W' => BKeep n₀ Ex B0 B E W W' ∧ Ix (.goto t) j W'
  | .panic _, _, _ => False
  | .outgrown, _, _ => False
variable {F : Fence} {n : Nat} {P : Program}
theorem istep_putObj {B lo c : Nat} {W : World} {l : Nat} {o : Obj} (o' : Obj) (hl : W.heap[l]? = some o) (ho : o.isCells = false) (hB : B ≤ l) : IStep B lo c W (W.putObj l o') :=
  ⟨rfl, rfl, rfl, by simp, fun k o2 h2 _ h3 => by
    have hne : k ≠ l := fun e => by subst e; rw [hl] at h2; cases h2; rw [h3 hB] at ho; cases ho
    exact (World.putObj_heap_other hne).trans h2⟩
theorem rkeep_putObj {n₀ : Nat} {Ex : Nat → Prop} {B : Nat} {E : Nat → Prop} {W : World} {l : Nat} (o' : Obj) (h0 : n₀ ≤ l) (hB : l < B) : RKeep n₀ Ex B E W (W.putObj l o') :=
  ⟨by simp, fun k _ h1 => World.putObj_heap_other (fun e => by omega), fun k o hk ho _ => (World.putObj_heap_other (fun e => by omega)).trans ho⟩
theorem range_outer {α : Type} {g : Operand} {ps : Array Tmp} {assign body : Code} {Q : Exit → Act → World → Prop} {a : Act} {w : World}
    (hro : F.round = none) (h1 : F.depth.isSome = true → 1 ≤ n) {gf : Nat} {lb : Array Value} (hg : a.eval g = .func (.func gf) #[] lb) (hFg : F.fn gf) (eg : ∀ args w, (callFunc gf args).run P w = .ok (.enter gf args) w)
    {xs : List α} {Rv : α → Array Value → World → Prop} {Ex : Nat → Prop} {c : Nat} {E : Nat → Prop} {w0 : World} (hseq : IterC F (n - 1) P gf lb xs Rv Ex c E w0) (hb0 : Below w0.heap.size w0 w)
    (hps : ∀ x vs W, Rv x vs W → vs.size = ps.size)
    (I : Nat → World → Prop) (Ix : Code → Nat → World → Prop) (hI : Stab w.heap.size (w.heap.size + 2) c I) (hIx : ∀ cd, Stab w.heap.size (w.heap.size + 2) c (Ix cd)) (h0 : I 0 w)
    (Ax : Nat → α → Act → World → Prop) (hAx : ∀ i x a', Stab w.heap.size (w.heap.size + 2) c (fun (_ : Unit) W => Ax i x a' W))
    (hassign : ∀ (l i : Nat) (x : α) (vs : Array Value) (W : World) (K : Act → World → Prop), xs[i]? = some x → I i W → Rv x vs W → w.heap.size + 2 + c ≤ W.heap.size → (∀ a' W', Below W.heap.size W W' → Ax i x a' W' → K a' W') →
      assign.wpIn (F.inRound l) (n - 1 - 1) P (Exit.then K (fun _ _ _ => False)) { tmps := (ps.zip vs).foldl (fun t (p, v) => t.setIfInBounds p v) a.tmps, defers := [] } W)
    (hbody : ∀ (l i : Nat) (x : α) (a' : Act) (W : World), l = w.heap.size + 1 → (∃ r, W.heap[l]? = some (.loop r)) → xs[i]? = some x → Ax i x a' W → w.heap.size + 2 + c ≤ W.heap.size →
      body.wpIn (F.inRound l) (n - 1 - 1) P (bPost w0.heap.size Ex w.heap.size (w.heap.size + 2) E I Ix (i + 1) W) a' W)
    (hdone : ∀ (D : Nat) (W : World), w.heap.size ≤ D → I xs.length W → W.heap[D]? = some (.deferred (some [])) → Q .normal { a with defers := { target := .collected D, args := #[] } :: a.defers } W)
    (hstop : ∀ (D : Nat) (cd : Code) (i : Nat) (W : World), w.heap.size ≤ D → i ≤ xs.length → Ix cd i W → W.heap[D]? = some (.deferred (some [])) → cd.wpIn F n P Q { a with defers := { target := .collected D, args := #[] } :: a.defers } W) :
    (Code.rangeFunc g ps assign body).wpIn F n P Q a w := by
  refine wpIn_rangeFunc ?_
  intro fn hfn
  rw [hro]
  obtain ⟨rec, hrec⟩ : ∃ rec : LoopState → Option Code → Loop, rec = fun st pe => { state := st, pending := pe, fn, tmps := a.tmps, params := ps, assign, body, defers := w.heap.size } := ⟨_, rfl⟩
  obtain ⟨W1, hW1⟩ : ∃ W1, (w.alloc (.deferred (some []))).alloc (.loop (rec .ready none)) = W1 := ⟨_, rfl⟩
  have hsz : W1.heap.size = w.heap.size + 2 := by rw [← hW1]; simp
  have hL1 : W1.heap[w.heap.size + 1]? = some (.loop (rec .ready none)) := by
    rw [← hW1]; have := World.alloc_heap_new (w.alloc (.deferred (some []))) (.loop (rec .ready none)); rwa [World.size_alloc] at this
  have hK1 : W1.heap[w.heap.size]? = some (.deferred (some [])) := by
    rw [← hW1]; exact (Below.heap_alloc _ _ _ (by simp)).trans (World.alloc_heap_new w _)
  have hbW : Below w.heap.size w W1 := by rw [← hW1]; exact ((Below.refl _ w).alloc (Nat.le_refl _) _).alloc (by simp) _
  have hI1 : I 0 W1 := hI 0 w W1 h0 (IStep.of_below hbW)
  have hb1 : Below w0.heap.size w0 W1 := hb0.trans (hbW.mono hb0.size)
  have hn0 : w0.heap.size ≤ w.heap.size := hb0.size
  refine ⟨w.heap.size + 1, [{ target := .collected w.heap.size, args := #[] }], W1, { target := .fn (.func gf) lb, args := #[.func (.yield (w.heap.size + 1)) #[] #[]] }, W1, gf,
    #[.func (.yield (w.heap.size + 1)) #[] #[]] ++ lb, W1, ?_, ?_, ?_, ?_, h1, ?_⟩
  · rw [← hW1, hrec]; exact run_enterLoop_outer _ _ _ _ _
  · simp only [resolve, hg]
    simp [go_sem]
  · intro f' hf'; simp [Target.leads] at hf'; subst hf'; exact hFg
  · simp [invoke, go_sem, eg]
  · have hst : ∀ {J : Nat → World → Prop}, Stab w.heap.size (w.heap.size + 2) c J → Stab W1.heap.size W1.heap.size c J := fun hJ i A B h hs => hJ i A B h (by rw [hsz] at hs; exact hs.lower (by omega))
    have hrecs : ∀ {A B : World} {k : Nat} {o : Obj}, IStep W1.heap.size W1.heap.size c A B → k < w.heap.size + 2 → A.heap[k]? = some o → B.heap[k]? = some o := fun hs hk ho => hs.same _ _ ho (by omega) (fun h => by omega)
    refine (hseq (w.heap.size + 1)
      (fun i W => I i W ∧ W.heap[w.heap.size + 1]? = some (.loop (rec .ready none)) ∧ W.heap[w.heap.size]? = some (.deferred (some [])))
      (fun i W => ∃ cd, Ix cd i W ∧ W.heap[w.heap.size + 1]? = some (.loop (rec .done (some cd))) ∧ W.heap[w.heap.size]? = some (.deferred (some [])))
      W1 hb1 (fun i A B h hs => ⟨hst hI i A B h.1 hs, hrecs hs (by omega) h.2.1, hrecs hs (by omega) h.2.2⟩)
      (fun i A B h hs => by obtain ⟨cd, hc, hl, hk⟩ := h; exact ⟨cd, hst (hIx cd) i A B hc hs, hrecs hs (by omega) hl, hrecs hs (by omega) hk⟩)
      ?_ ⟨hI1, hL1, hK1⟩).mono ?_
    · rintro i x vs W hx ⟨hi, hl, hk⟩ hrv hsize
      have hlt : w.heap.size + 1 < W.heap.size := (Array.getElem?_eq_some_iff.1 hl).1
      have hy := run_yield (P := P) (args := vs) hl (by rw [hrec]; exact hps x vs W hrv)
      rw [hrec] at hy
      refine ⟨fn, _, assign, body, hy, roundIn_of_wpIn hfn (hassign _ i x vs W _ hx hi hrv (by omega) ?_)⟩
      clear hy
      intro a' Wa hba hax
      have hla := (hba.block _ hlt).trans hl
      have hka := (hba.block _ (show w.heap.size < W.heap.size by omega)).trans hk
      have hlta : w.heap.size + 1 < Wa.heap.size := (Array.getElem?_eq_some_iff.1 hla).1
      refine ⟨_, run_beginRound hla (by rw [hrec]), ?_⟩
      obtain ⟨W2, hW2⟩ : ∃ W2, Wa.putObj (w.heap.size + 1) (.loop { rec .ready none with state := .busy }) = W2 := ⟨_, rfl⟩
      rw [hW2]
      have hl2 : W2.heap[w.heap.size + 1]? = some (.loop { rec .ready none with state := .busy }) := by rw [← hW2]; exact World.putObj_heap_same hlta
      have hk2 : W2.heap[w.heap.size]? = some (.deferred (some [])) := by rw [← hW2]; exact (World.putObj_heap_other (by omega)).trans hka
      have hs2 : W2.heap.size = Wa.heap.size := by rw [← hW2]; simp
      have hax2 : Ax i x a' W2 := by rw [← hW2]; exact hAx i x a' () _ _ hax (istep_putObj _ hla rfl (by omega))
      have hkp2 : RKeep w0.heap.size Ex W1.heap.size E W W2 := (RKeep.of_below hba).trans (by rw [← hW2]; exact rkeep_putObj _ (by omega) (by omega))
      have hba' := hba.size
      refine wpIn_mono (hbody _ i x a' W2 rfl ⟨_, hl2⟩ hx hax2 (by omega)) ?_
      have fin : ∀ (jump : Option Code) (W3 : World), BKeep w0.heap.size Ex w.heap.size (w.heap.size + 2) E W2 W3 →
          (Instr.endRound (w.heap.size + 1) jump).run P W3 = .ok (.bool jump.isNone) (W3.putObj (w.heap.size + 1) (.loop (rec (if jump.isNone then .ready else .done) jump))) ∧
          W3.heap[w.heap.size + 1]? = some (.loop { rec .ready none with state := .busy }) ∧
          (W3.putObj (w.heap.size + 1) (.loop (rec (if jump.isNone then .ready else .done) jump))).heap[w.heap.size + 1]? = some (.loop (rec (if jump.isNone then .ready else .done) jump)) ∧
          (W3.putObj (w.heap.size + 1) (.loop (rec (if jump.isNone then .ready else .done) jump))).heap[w.heap.size]? = some (.deferred (some [])) := fun jump W3 hk3 => by
        have hl3 := hk3.book _ _ (by omega) hl2 rfl
        have := run_endRound (P := P) jump hl3
        rw [hrec] at this ⊢
        exact ⟨this, by rw [hrec] at hl3; exact hl3, World.putObj_heap_same (Array.getElem?_eq_some_iff.1 hl3).1, (World.putObj_heap_other (by omega)).trans (hk3.book _ _ (Nat.le_refl _) hk2 rfl)⟩
      rintro e a3 W3 hp
      cases e with
      | normal =>
        obtain ⟨hk3, hi3⟩ := hp
        obtain ⟨hr, hl3, hl4, hk4⟩ := fin none W3 hk3
        refine ⟨_, _, hr, .inl ⟨rfl, ⟨hI _ _ _ hi3 (istep_putObj _ hl3 rfl (by omega)), hl4, hk4⟩, ?_⟩⟩
        have hk3' := hk3.keep
        rw [← hsz] at hk3'
        exact hkp2.trans (hk3'.trans (rkeep_putObj _ (by omega) (by omega)))
      | ret =>
        obtain ⟨hk3, hi3⟩ := hp
        obtain ⟨hr, hl3, hl4, hk4⟩ := fin (some .ret) W3 hk3
        have hk3' := hk3.keep
        rw [← hsz] at hk3'
        exact ⟨_, _, hr, .inr ⟨rfl, ⟨.ret, hIx _ _ _ _ hi3 (istep_putObj _ hl3 rfl (by omega)), hl4, hk4⟩, hkp2.trans (hk3'.trans (rkeep_putObj _ (by omega) (by omega)))⟩⟩
      | exit id =>
        obtain ⟨hk3, hi3⟩ := hp
        obtain ⟨hr, hl3, hl4, hk4⟩ := fin (some (.exit id)) W3 hk3
        have hk3' := hk3.keep
        rw [← hsz] at hk3'
        exact ⟨_, _, hr, .inr ⟨rfl, ⟨.exit id, hIx _ _ _ _ hi3 (istep_putObj _ hl3 rfl (by omega)), hl4, hk4⟩, hkp2.trans (hk3'.trans (rkeep_putObj _ (by omega) (by omega)))⟩⟩
      | goto t =>
        obtain ⟨hk3, hi3⟩ := hp
        obtain ⟨hr, hl3, hl4, hk4⟩ := fin (some (.goto t)) W3 hk3
        have hk3' := hk3.keep
        rw [← hsz] at hk3'
        exact ⟨_, _, hr, .inr ⟨rfl, ⟨.goto t, hIx _ _ _ _ hi3 (istep_putObj _ hl3 rfl (by omega)), hl4, hk4⟩, hkp2.trans (hk3'.trans (rkeep_putObj _ (by omega) (by omega)))⟩⟩
      | panic ch => exact hp.elim
      | outgrown => exact hp.elim
    · rintro e W2 ⟨⟨v, rfl⟩, (⟨hi, hl, hk⟩ | ⟨i, hle, cd, hi, hl, hk⟩)⟩
      · exact ⟨none, _, by have := run_endLoop (P := P) hl (by rw [hrec]; simp); rw [hrec] at this; exact this, hdone _ _ (Nat.le_refl _) (hI _ _ _ hi (istep_putObj _ hl rfl (by omega))) ((World.putObj_heap_other (by omega)).trans hk)⟩
      · exact ⟨some cd, _, by have := run_endLoop (P := P) hl (by rw [hrec]; simp); rw [hrec] at this; exact this, hstop _ cd i _ (Nat.le_refl _) hle (hIx _ _ _ _ hi (istep_putObj _ hl rfl (by omega))) ((World.putObj_heap_other (by omega)).trans hk)⟩
end Go.Proofs.YtjaapkkpmegkfaaGreat.R
namespace Go.Proofs.YtjaapkkpmegkfaaGreat.R
open Go.RowKit Go.Shelf YtjaapkkpmegkfaaGreatW.PrintWords YtjaapkkpmegkfaaGreatW.PrintLast YtjaapkkpmegkfaaGreatW.PrintMore
def Op.noDefer : Op → Bool
  | .defer _ => false
  | _ => true
theorem Op.noDefer_spec {o : Op} (h : Op.noDefer o = true) : ∀ c, o ≠ .defer c := fun c e => by subst e; simp [Op.noDefer] at h
abbrev RF (l : Nat) : Fence := Fence.wide.inRound l
theorem rows_in {n l : Nat} {P : Program} {row : String} {args : Array Value} {w : World} {R : Value → World → Prop} (h : Rows P row args w R) : RowsIn (RF l) n P row args w R :=
  fun c cs _ => let ⟨v, w', r, s⟩ := h c cs; ⟨v, w', r, stepsIn_wide.2 s⟩
theorem upon_in {n l : Nat} {P : Program} {o : Oper} {a : Act} {next next' : Act → World → Prop} {Q : Exit → Act → World → Prop} (hn : ∀ a w, next a w → next' a w) :
    ∀ {r : Result Next}, o.upon P a next Q r → o.uponIn (RF l) n P a next' Q r := by
  intro r h
  cases r with
  | ok x w =>
    cases x with
    | value v => exact hn _ _ h
    | skip => exact hn _ _ h
    | defer d => exact hn _ _ h
    | enter f args =>
      refine ⟨(fun h0 => by cases h0), CallsIn.inRound l (callsIn_wide.2 (Calls.mono h ?_))⟩
      intro e w' h'
      cases e with
      | returned v => exact hn _ _ h'
      | panicked c => exact h'
      | outgrown => exact h'
    | row r args => exact ⟨(fun h0 => by cases h0), rows_in (Rows.mono h fun v w' h' => hn _ _ h')⟩
    | round => exact h.elim
    | _ => exact h.elim
  | halt x w =>
    cases x with
    | panic v => exact h
    | _ => exact h.elim
theorem oper_in {n l : Nat} {P : Program} {o : Oper} {a : Act} {w : World} {next next' : Act → World → Prop} {Q : Exit → Act → World → Prop} (hd : Op.noDefer o.op = true) (hn : ∀ a w, next a w → next' a w)
    (h : o.wp P a w next Q) : o.wpIn (RF l) n P a w next' Q := by
  refine ⟨fun _ _ => trivial, ?_⟩
  have e : o.semAt (RF l).round a.eval = execOp a.eval o := Oper.semAt_some l _ _ (Op.noDefer_spec hd)
  rw [e]
  exact upon_in hn h
theorem ops_in {n l : Nat} {P : Program} {ops : Array Oper} {Q : Exit → Act → World → Prop} (hd : ∀ (i : Nat) (o : Oper), ops[i]? = some o → Op.noDefer o.op = true) (hQ : ¬ LetsOut Q) :
    ∀ (is : List Nat) (a : Act) (w : World), wpOps P ops Q is a w → wpOpsIn (RF l) n P ops Q is a w
  | [], _, _, h => h
  | i :: is, a, w, h => by
    unfold wpOps at h
    unfold wpOpsIn
    cases ho : ops[i]? with
    | none => rw [ho] at h; exact ops_in hd hQ is a w h
    | some o =>
      rw [ho] at h
      simp only [] at h ⊢
      by_cases hw : Region.wanted o (yielded ops a.tmps) = true
      · rw [if_pos hw] at h ⊢
        rcases h with h | h
        · exact oper_in (hd i o ho) (ops_in hd hQ is) h
        · exact absurd h.2 hQ
      · rw [if_neg hw] at h ⊢
        exact ⟨fun _ _ => trivial, ops_in hd hQ is _ _ h⟩
def noDeferL (l : List Oper) : Bool := l.all fun o => Op.noDefer o.op
theorem noDeferL_spec {l : List Oper} (h : noDeferL l = true) : ∀ (i : Nat) (o : Oper), l.toArray[i]? = some o → Op.noDefer o.op = true := fun i o ho => by
  have h1 : l[i]? = some o := by simpa using ho
  exact List.all_eq_true.1 h o (List.mem_of_getElem? h1)
theorem regIn_lit_ {n r id : Nat} {P : Program} {l : List Oper} {Q : Exit → Act → World → Prop} {a : Act} {w : World} (hd : noDeferL l = true) (hQ : ¬ LetsOut Q) (h : wpList P l.toArray Q l a w) :
    (Code.region id l.toArray false).wpIn (RF r) n P Q a w := by
  refine wpIn_region (ops_in (noDeferL_spec hd) hQ _ _ _ ?_)
  have := wpOps_eq_wpList (P := P) (ops := l.toArray) (Q := Q) l 0 (by intro j; simp)
  simp only [List.size_toArray]
  rw [List.range_eq_range', this]
  exact h
theorem regIn_any_ {n r id : Nat} {P : Program} {l : List Oper} {Q : Exit → Act → World → Prop} {a : Act} {w : World} (hd : noDeferL l = true) (hQ : ¬ LetsOut Q) (hm : P.follows .mixedOrders = true)
    (h : wpAny P .any l.toArray Q l.toArray.size (Array.replicate l.toArray.size false) a { w with drawn := w.drawn + 1 }) : (Code.region id l.toArray true).wpIn (RF r) n P Q a w := by
  refine wpIn_region_draw fun t => ops_in (noDeferL_spec hd) hQ _ _ _ ?_
  simp only [Region.schedule, hm, Bool.true_or, if_true]
  exact wpAny_sound l.toArray.size t _ a _ h
theorem start_in_ {n0 r id n : Nat} {P : Program} {ol : List Oper} {Q : Exit → Act → World → Prop} {S : World → Prop} {ds : List Nat} {a : Act} {w : World} (hd : noDeferL ol = true) (hQ : ¬ LetsOut Q) (l : Array Bool) (hm : P.follows .mixedOrders = true) (hn : ol.toArray.size = n) (hl : Array.replicate n false = l) (hS : S w.drew)
    (h : S w.drew → wpAnyLast P .any ol.toArray Q S ds n l a w.drew) : (Code.region id ol.toArray true).wpIn (RF r) n0 P Q a w := by
  subst hn
  subst hl
  exact regIn_any_ hd hQ hm (wpAny_of_last _ _ _ _ (h hS))
end Go.Proofs.YtjaapkkpmegkfaaGreat.R
