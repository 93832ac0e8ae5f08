/- Part 2 of what the law's proof needs beyond its base: words, walks of functions and plain facts. -/
import Derived.Below
import Derived.Deep.Draws
import Derived.Deep.AppendLies
import Derived.Maps.AppendAt
import Derived.OwnWalk
import Derived.Laws.BytesArg
import Derived.Laws.MakeOwn
import Derived.Laws.OwnMore
import Derived.Deep.OwnRows
import Derived.Tactics
import Derived.Lib.ConvBytes
import Derived.Laws.Slices
import Derived.WalkKit
import Derived.KernelRfl
import Derived.RowKit3
import Derived.Deep.LoopGhost
import Derived.Deep.QuietTactic
import Derived.BigQuiet
import Derived.WideLaws
import Derived.Deep.DeepCutAuto
import Derived.Deep.CutBlock
import Derived.Deep.RegionHeld3
import Derived.Laws.Rows
import Derived.Lib.AppendStr
import Derived.ArgAppend
import Derived.Laws.IdiomCopy
import Derived.RowKit
import Derived.Deep.Slices
import Derived.OpenShut
import Derived.ChangeArms
import Derived.Test.YtjaapkkpmegkfaaGreatK01
import Derived.Test.YtjaapkkpmegkfaaGreatK02
import Derived.Test.YtjaapkkpmegkfaaGreatK03
import Derived.Test.YtjaapkkpmegkfaaGreatK04
import Derived.Test.YtjaapkkpmegkfaaGreatK05
import Derived.Test.YtjaapkkpmegkfaaGreatK06
import Derived.Test.YtjaapkkpmegkfaaGreatK07
import Derived.Test.YtjaapkkpmegkfaaGreatK08
import Derived.Test.YtjaapkkpmegkfaaGreatK09
import Derived.Test.YtjaapkkpmegkfaaGreatK10
import Derived.Test.YtjaapkkpmegkfaaGreatK11
import Derived.Test.YtjaapkkpmegkfaaGreatK12
import Derived.Test.YtjaapkkpmegkfaaGreatK13
import Derived.Test.YtjaapkkpmegkfaaGreatL01
set_option linter.unusedVariables false
set_option linter.unusedSimpArgs false
namespace Go.Proofs.YtjaapkkpmegkfaaGreat.P
open Go.RowKit Go.Proofs.YtjaapkkpmegkfaaGreatW.PrintWords Go.Proofs.YtjaapkkpmegkfaaGreatW.PrintLast Go.Proofs.YtjaapkkpmegkfaaGreatW.PrintMore
attribute [local go_sem] max2_int min2_int max_two min_two max_three min_three max_four min_four
mutual
def walkmillref06_Share.l0 : Nat → List Int → Int → List Int → Int → Int → Int → Option (List Int)
 | 0, _, _, _, _, _, _ => none
 | k + 1, x0, x1, x5, x6, x7, x8 => if x8 < (x0.length : Int) then (if 0 ≤ x8 then (walkmillref06_Share.l0 k x0 x1 x5 (wrap64 (x6 + (rd x0 x8))) x7 (wrap64 (x8 + 1))) else (none)) else (walkmillref06_Share.l1 k x0 x1 x5 x6 x7 (([] : List Int)) 0)
def walkmillref06_Share.l1 : Nat → List Int → Int → List Int → Int → Int → List Int → Int → Option (List Int)
 | 0, _, _, _, _, _, _, _ => none
 | k + 1, x0, x1, x5, x6, x7, x9, x10 => if x10 < (x0.length : Int) then (if 0 ≤ x10 then (if x6 = 0 then (none) else ((some (([wrap64 (Int.tdiv (wrap64 (x1 * (rd x0 x10))) x6)] : List Int) : List Int)).bind fun y109 => (if x5.length + y109.length < 17592186044416 then ((some (([wrap64 ((wrap64 (x1 * (rd x0 x10))) - (wrap64 ((wrap64 (Int.tdiv (wrap64 (x1 * (rd x0 x10))) x6)) * x6)))] : List Int) : List Int)).bind fun y116 => (if x9.length + y116.length < 17592186044416 then (walkmillref06_Share.l1 k x0 x1 (x5 ++ y109) x6 (wrap64 (x7 + (wrap64 (Int.tdiv (wrap64 (x1 * (rd x0 x10))) x6)))) (x9 ++ y116) (wrap64 (x10 + 1))) else (none))) else (none)))) else (none)) else (walkmillref06_Share.l2 k x1 x5 x7 x9)
def walkmillref06_Share.l2 : Nat → Int → List Int → Int → List Int → Option (List Int)
 | 0, _, _, _, _ => none
 | k + 1, x1, x5, x7, x9 => if x7 < x1 then (walkmillref06_Share.l3 k x1 x5 x7 x9 0 1) else (some x5)
def walkmillref06_Share.l3 : Nat → Int → List Int → Int → List Int → Int → Int → Option (List Int)
 | 0, _, _, _, _, _, _ => none
 | k + 1, x1, x5, x7, x9, x12, x13 => if x13 < (x9.length : Int) then (if 0 ≤ x13 then (if 0 ≤ x12 then (if x12 < (x9.length : Int) then (if (rd x9 x13) > (rd x9 x12) then (walkmillref06_Share.l3 k x1 x5 x7 x9 x13 (wrap64 (x13 + 1))) else (walkmillref06_Share.l3 k x1 x5 x7 x9 x12 (wrap64 (x13 + 1)))) else (none)) else (none)) else (none)) else (if 0 ≤ x12 then (if x12 < (x5.length : Int) then (if x12 < (x9.length : Int) then (walkmillref06_Share.l2 k x1 (x5.set (x12 : Int).toNat (wrap64 ((rd x5 x12) + 1))) (wrap64 (x7 + 1)) (x9.set (x12 : Int).toNat (-1))) else (none)) else (none)) else (none))
end
def walkmillref06_Share.f (k : Nat) (l0 : List Int) (a1 : Int) : Option (List Int) := walkmillref06_Share.l0 k l0 a1 (([] : List Int)) 0 0 0
def walkmillref06_Share.T11 : Bool × List (List Nat × List Nat) := (true, [([], []), ([], []), ([1], [1]), ([0, 2], [0, 2]), ([], []), ([], []), ([], []), ([], []), ([6, 7], [6, 7]), ([8], [8]), ([5, 9], [5, 9]), ([], []), ([], []), ([11, 12], [11, 12]), ([10, 13], [10, 13]), ([14], [14]), ([4, 15, 3], [4, 15]), ([], []), ([], []), ([17, 18], [17, 18]), ([3, 16, 0, 1, 2, 3], [0, 3]), ([16, 20, 0, 1, 2, 3, 4, 5, 6, 7, 8, 9, 10, 11, 12, 13, 14, 15, 16, 20], [4, 16]), ([19, 21, 0, 1, 2, 3, 4, 5, 6, 7, 8, 9, 10, 11, 12, 13, 14, 15, 16, 17, 18, 19, 20, 21], [17, 19])])
def walkmillref06_Share.B11 : List Nat := [0, 0, 2, 7, 0, 0, 0, 0, 192, 448, 992, 0, 0, 6144, 16352, 32736, 65535, 0, 0, 393216, 131071, 1179647, 4194303]
theorem walkmillref06_Share.tab11 : rtab .any (opsOf Tryz.f51 11) = walkmillref06_Share.T11 := by kernel_rfl
theorem walkmillref06_Share.bits11 : waitsOk walkmillref06_Share.T11.2 walkmillref06_Share.B11 = true := by kernel_rfl
def walkmillref06_Share.T18 : Bool × List (List Nat × List Nat) := (true, [([], []), ([], []), ([0, 1], [0, 1]), ([2], [2]), ([], []), ([], []), ([4, 5], [4, 5]), ([6], [6]), ([3, 7], [3, 7])])
def walkmillref06_Share.B18 : List Nat := [0, 0, 3, 7, 0, 0, 48, 112, 255]
theorem walkmillref06_Share.tab18 : rtab .any (opsOf Tryz.f51 18) = walkmillref06_Share.T18 := by kernel_rfl
theorem walkmillref06_Share.bits18 : waitsOk walkmillref06_Share.T18.2 walkmillref06_Share.B18 = true := by kernel_rfl
set_option maxHeartbeats 8000000 in
set_option maxRecDepth 100000 in
theorem walkmillref06_Share.calls (k : Nat) (A0 : Option Addr) (c0 : Nat) (l0 : List Int) (a1 : Int) (r : List Int) (w : World) (hr0 : Kd.C (Kd.int .i64) w A0 l0.length l0) (hc0 : l0.length ≤ c0) (h : walkmillref06_Share.f k l0 a1 = some r) :
  Calls Tryz.prog 51 #[.slice A0 l0.length c0, .int .i64 a1] w fun e w' => ∃ v0_ : Value, e = .returned (v0_) ∧ Kd.R (Kd.int .i64) 3 w' w.heap.size (fun _ => True) v0_ r ∧ Below w.heap.size w w' := by
 have HR0 := Aside0.mk hr0
 have HC0 := Aside0.mk hc0
 clear hr0 hc0
 have HB := Aside0.mk (Below.refl w.heap.size w)
 have H : (walkmillref06_Share.l0 k l0 a1 (([] : List Int)) 0 0 0) = some r := h
 clear h
 obtain ⟨y101, hy101⟩ : ∃ y_ : List Int, y_ = (([] : List Int)) := ⟨_, rfl⟩
 replace H : (walkmillref06_Share.l0 k l0 a1 y101 0 0 0) = some r := yy hy101 H
 have Ny101 := Aside0.mk hy101
 clear hy101
 have H' := Aside0.mk H
 clear H
 go_enter Tryz.func51, Tryz.ntmps51
 go_wp2_with (first | ((with_reducible refine gate_dst (N := 14) rfl ?_); refine Kd.R_lit (Kd.int .i64) _ 3 ?hg (N := 14) ?hd (xs := ([] : List Int)) (inner := []) (ok := fun _ => True) (okp := fun _ => True) ?hr ?hp (fun _ hk => hk) trivial (Below.refl _ _) (Nat.le_refl _) (by simp) ?_; (case hd => rfl); (case hg => rfl); (case hr => first | (go_simp; done) | (go_simp; rfl)); (case hp => exact (Reps.none _ _)); intro v102 w3 ho4 hb hg_ hnew_; clear hg_ hnew_; (first | rw [← Ny101.out] at ho4 | (simp only [Int.reduceToNat] at ho4; rw [← Ny101.out] at ho4)); have HO103 := rl ho4 HB; replace HB := bs HB hb; clear hb ho4))
 go_loopg [6, 8] k (fun kq v6 v8 w' => ∃ (x6_1 : Int) (x8_1 : Int), v6 = .int .i64 x6_1 ∧ v8 = .int .i64 x8_1 ∧ Aside0 (walkmillref06_Share.l0 kq l0 a1 y101 x6_1 0 x8_1 = some r) ∧ Aside0 (kq ≤ k) ∧ Aside0 (Kd.R (Kd.int .i64) 3 w' w.heap.size (fun _ => True) v102 y101) ∧ Aside0 (Below w.heap.size w w'))
 case atStart => exact ⟨(0), (0), (by first | rfl | (simp; done) | (simp [*]; done)), (by first | rfl | (simp; done) | (simp [*]; done)), H', ⟨Nat.le_refl _⟩, ⟨by (with_reducible repeat (first | apply Kd.R_alloc | apply Kd.R_drewN | apply Kd.R_drew)); exact HO103.out⟩, ⟨pE HB⟩⟩
 case round =>
  clear H'
  try clear p2
  obtain ⟨x6_1, x8_1, rfl, rfl, HA, HK1, HO_5, HB⟩ := hrel
  cases gk with
  | zero => exact absurd HA.out (by simp [walkmillref06_Share.l0])
  | succ k1 =>
   have H := HA.out
   clear HA
   simp only [walkmillref06_Share.l0] at H
   by_cases c5 : x8_1 < (l0.length : Int)
   ·rw [if_pos c5] at H
    have c5b0 : decide (x8_1 < (l0.length : Int)) = true := decide_eq_true c5
    clear c5
    by_cases c6 : 0 ≤ x8_1
    ·rw [if_pos c6] at H
     have c6b0 : decide (0 ≤ x8_1) = true := decide_eq_true c6
     clear c6
     have H' := Aside0.mk H
     clear H
     have p104 : 0 ≤ (x8_1 : Int) := dT
     have q104 : x8_1 < (l0.length : Int) := dT
     obtain ⟨ad104, e104, hx104_0⟩ := Kd.at_int HR0.out x8_1 p104 q104
     cases e104
     replace hx104_0 := cut_ HB hx104_0
     replace p104 := eq_true p104
     replace q104 := eq_true q104
     go_wp2
     go_roundg k1
     case measure => have := HK1.out; omega
     case rel => exact ⟨(wrap64 (x6_1 + (rd l0 x8_1))), (wrap64 (x8_1 + 1)), (by first | rfl | (simp; done) | (simp [*]; done)), (by first | rfl | (simp; done) | (simp [*]; done)), H', ⟨by have := HK1.out; omega⟩, ⟨by (with_reducible repeat (first | apply Kd.R_alloc | apply Kd.R_drewN | apply Kd.R_drew)); exact HO_5.out⟩, ⟨pE HB⟩⟩
    ·rw [if_neg c6] at H
     exact absurd H (by simp)
   ·rw [if_neg c5] at H
    have c5b0 : decide (x8_1 < (l0.length : Int)) = false := decide_eq_false c5
    clear c5
    obtain ⟨y105, hy105⟩ : ∃ y_ : List Int, y_ = (([] : List Int)) := ⟨_, rfl⟩
    replace H : (walkmillref06_Share.l1 k1 l0 a1 y101 x6_1 0 y105 0) = some r := yy hy105 H
    have Ny105 := Aside0.mk hy105
    clear hy105
    have H' := Aside0.mk H
    clear H
    go_wp2_with (first | ((with_reducible refine gate_dst (N := 27) rfl ?_); refine Kd.R_lit (Kd.int .i64) _ 3 ?hg (N := 27) ?hd (xs := ([] : List Int)) (inner := []) (ok := fun _ => True) (okp := fun _ => True) ?hr ?hp (fun _ hk => hk) trivial (Below.refl _ _) (Nat.le_refl _) (by simp) ?_; (case hd => rfl); (case hg => rfl); (case hr => first | (go_simp; done) | (go_simp; rfl)); (case hp => exact (Reps.none _ _)); intro v106 w7 ho8 hb hg_ hnew_; clear hg_ hnew_; (first | rw [← Ny105.out] at ho8 | (simp only [Int.reduceToNat] at ho8; rw [← Ny105.out] at ho8)); have HO107 := Aside0.mk (Kd.R_lower (Kd.R_new' ho8 (Kd.R_lt (pR HO_5.out))) (below_size (pE HB))); replace HO_5 := re HO_5 ho8 hb; replace HB := bs HB hb; clear hb ho8))
    go_loopg [5, 7, 9, 10] k1 (fun kq v5 v7 v9 v10 w' => ∃ (x5_2 : List Int) (x7_2 : Int) (x9_2 : List Int) (x10_2 : Int), v7 = .int .i64 x7_2 ∧ v10 = .int .i64 x10_2 ∧ Aside0 (walkmillref06_Share.l1 kq l0 a1 x5_2 x6_1 x7_2 x9_2 x10_2 = some r) ∧ Aside0 (kq ≤ k1) ∧ Aside0 (Kd.R (Kd.int .i64) 3 w' w.heap.size (fun k_ => some k_ ≠ (v9 : Value).ownBlock) v5 x5_2) ∧ Aside0 (Kd.R (Kd.int .i64) 3 w' w.heap.size (fun k_ => some k_ ≠ (v5 : Value).ownBlock) v9 x9_2) ∧ Aside0 (Below w.heap.size w w'))
    case atStart => exact ⟨(y101), (0), (y105), (0), (by first | rfl | (simp; done) | (simp [*]; done)), (by first | rfl | (simp; done) | (simp [*]; done)), H', ⟨Nat.le_refl _⟩, ⟨by (with_reducible repeat (first | apply Kd.R_alloc | apply Kd.R_drewN | apply Kd.R_drew)); exact Kd.R_mono HO_5.out (fun _ hk => hk.2)⟩, ⟨by (with_reducible repeat (first | apply Kd.R_alloc | apply Kd.R_drewN | apply Kd.R_drew)); exact Kd.R_mono HO107.out (fun _ hk => hk.2)⟩, ⟨pE HB⟩⟩
    case round =>
     clear H'
     try clear p1
     try clear q1
     try clear hx1
     try clear p2
     try clear c5
     try clear c5b0
     try clear c6
     try clear c6b0
     try clear p6
     try clear hx104_0
     try clear p104
     try clear p2
     try clear q104
     obtain ⟨x5_2, x7_2, x9_2, x10_2, rfl, rfl, HA, HK2, HO_5, HO_9, HB⟩ := hrel
     cases gk with
     | zero => exact absurd HA.out (by simp [walkmillref06_Share.l1])
     | succ k2 =>
      have H := HA.out
      clear HA
      simp only [walkmillref06_Share.l1] at H
      by_cases c9 : x10_2 < (l0.length : Int)
      ·rw [if_pos c9] at H
       have c9b0 : decide (x10_2 < (l0.length : Int)) = true := decide_eq_true c9
       clear c9
       by_cases c10 : 0 ≤ x10_2
       ·rw [if_pos c10] at H
        have c10b0 : decide (0 ≤ x10_2) = true := decide_eq_true c10
        clear c10
        by_cases c11 : x6_1 = 0
        ·rw [if_pos c11] at H
         exact absurd H (by simp)
        ·rw [if_neg c11] at H
         have c11b0 : (x6_1 == 0) = false := beq_eq_false_iff_ne.mpr c11
         have c11b1 : (x6_1 != 0) = true := bne_iff_ne.mpr c11
         obtain ⟨y109, hy109⟩ : ∃ y_ : List Int, y_ = (([wrap64 (Int.tdiv (wrap64 (a1 * (rd l0 x10_2))) x6_1)] : List Int)) := ⟨_, rfl⟩
         replace H : (if x5_2.length + y109.length < 17592186044416 then ((some (([wrap64 ((wrap64 (a1 * (rd l0 x10_2))) - (wrap64 ((wrap64 (Int.tdiv (wrap64 (a1 * (rd l0 x10_2))) x6_1)) * x6_1)))] : List Int) : List Int)).bind fun y116 => (if x9_2.length + y116.length < 17592186044416 then (walkmillref06_Share.l1 k2 l0 a1 (x5_2 ++ y109) x6_1 (wrap64 (x7_2 + (wrap64 (Int.tdiv (wrap64 (a1 * (rd l0 x10_2))) x6_1)))) (x9_2 ++ y116) (wrap64 (x10_2 + 1))) else (none))) else (none)) = some r := yy hy109 H
         have Ny109 := Aside0.mk hy109
         clear hy109
         by_cases c12 : x5_2.length + y109.length < 17592186044416
         ·rw [if_pos c12] at H
          have LMc12 := Aside0.mk c12
          clear c12
          obtain ⟨y112, hy112⟩ : ∃ y_ : List Int, y_ = (x5_2 ++ y109) := ⟨_, rfl⟩
          replace H : ((some (([wrap64 ((wrap64 (a1 * (rd l0 x10_2))) - (wrap64 ((wrap64 (Int.tdiv (wrap64 (a1 * (rd l0 x10_2))) x6_1)) * x6_1)))] : List Int) : List Int)).bind fun y116 => (if x9_2.length + y116.length < 17592186044416 then (walkmillref06_Share.l1 k2 l0 a1 y112 x6_1 (wrap64 (x7_2 + (wrap64 (Int.tdiv (wrap64 (a1 * (rd l0 x10_2))) x6_1)))) (x9_2 ++ y116) (wrap64 (x10_2 + 1))) else (none))) = some r := yy hy112 H
          have Ny112 := Aside0.mk hy112
          clear hy112
          obtain ⟨y116, hy116⟩ : ∃ y_ : List Int, y_ = (([wrap64 ((wrap64 (a1 * (rd l0 x10_2))) - (wrap64 ((wrap64 (Int.tdiv (wrap64 (a1 * (rd l0 x10_2))) x6_1)) * x6_1)))] : List Int)) := ⟨_, rfl⟩
          replace H : (if x9_2.length + y116.length < 17592186044416 then (walkmillref06_Share.l1 k2 l0 a1 y112 x6_1 (wrap64 (x7_2 + (wrap64 (Int.tdiv (wrap64 (a1 * (rd l0 x10_2))) x6_1)))) (x9_2 ++ y116) (wrap64 (x10_2 + 1))) else (none)) = some r := yy hy116 H
          have Ny116 := Aside0.mk hy116
          clear hy116
          by_cases c13 : x9_2.length + y116.length < 17592186044416
          ·rw [if_pos c13] at H
           have LMc13 := Aside0.mk c13
           clear c13
           obtain ⟨y119, hy119⟩ : ∃ y_ : List Int, y_ = (x9_2 ++ y116) := ⟨_, rfl⟩
           replace H : (walkmillref06_Share.l1 k2 l0 a1 y112 x6_1 (wrap64 (x7_2 + (wrap64 (Int.tdiv (wrap64 (a1 * (rd l0 x10_2))) x6_1)))) y119 (wrap64 (x10_2 + 1))) = some r := yy hy119 H
           have Ny119 := Aside0.mk hy119
           clear hy119
           have H' := Aside0.mk H
           clear H
           have p108 : 0 ≤ (x10_2 : Int) := dT
           have q108 : x10_2 < (l0.length : Int) := dT
           obtain ⟨ad108, e108, hx108_0⟩ := Kd.at_int HR0.out x10_2 p108 q108
           cases e108
           replace hx108_0 := cut_ HB hx108_0
           replace p108 := eq_true p108
           replace q108 := eq_true q108
           obtain ⟨Ao14, co14, eo14⟩ := Kd.R_slice HO_5.out
           subst eo14
           obtain ⟨Ao15, co15, eo15⟩ := Kd.R_slice HO_9.out
           subst eo15
           try go_wp2
           replace HO_5 := Aside0.mk (Kd.R_drew HO_5.out)
           replace HO_9 := Aside0.mk (Kd.R_drew HO_9.out)
           replace HB := Aside0.mk (below_drew1 HB.out)
           have p115 : 0 ≤ (x10_2 : Int) := dT
           have q115 : x10_2 < (l0.length : Int) := dT
           obtain ⟨ad115, e115, hx115_0⟩ := Kd.at_int HR0.out x10_2 p115 q115
           have hw115_0 := hx115_0
           obtain rfl : ad108 = ad115 := (by injection e115)
           replace hx115_0 := cut_ HB hx115_0
           replace p115 := eq_true p115
           replace q115 := eq_true q115
           refine start_ (n := 23) (S := fun w' => w'.cell? (ad108.add (x10_2).toNat) = some (.int .i64 (rd l0 x10_2))) (ds := []) #[false, false, false, false, false, false, false, false, false, false, false, false, false, false, false, false, false, false, false, false, false, false, false] (by kernel_rfl) rfl rfl (((HB.out.cell (World.block_lt_of_cell? w _ hw115_0)).trans hw115_0)) (fun hHeld => ?_); refine with_tabW walkmillref06_Share.tab11 walkmillref06_Share.bits11 (fun HT_ HW_ => ?_)
           generalize wr.drew = w16 at HO_5 HO_9 HB hx115_0 hHeld ⊢
           refine pu 0 42 ?_
           refine pu 1 43 ?_
           refine pu 4 46 ?_
           refine pu 5 47 ?_
           refine pu 6 48 ?_
           refine pu 7 49 ?_
           refine pu 8 50 ?_
           refine pu 11 53 ?_
           refine pu 12 54 ?_
           refine pu 13 55 ?_
           refine pu 17 59 ?_
           refine pu 18 60 ?_
           refine pu 19 61 ?_
           refine take_ (i := 9) (N := some 51) (v := ?_) (a' := ?_) #[true, true, false, false, true, true, true, true, true, true, false, true, true, true, false, false, false, true, true, true, false, false, false] rfl rfl (take_ofW HT_.out HW_.out (by kernel_rfl)) (fun _ _ _ h => h) (Or.inl ⟨by rfl, ?_⟩) hHeld ?_ ?_
           rotate_left
           ·intro w' s0
            go_simp
            with_reducible rfl
           rotate_left
           ·simp only [Act.put, List.setIfInBounds_toArray, List.set_cons_zero, List.set_cons_succ, i64_w, i32_w]
            rfl
           refine pu 10 52 ?_
           refine pu 14 56 ?_
           refine join_ (σ := Value × Value × Value) 4 #[true, true, true, true, true, true, true, true, true, true, true, true, true, true, true, true, false, true, true, true, false, false, false] (fun s_ => [(44, s_.1), (45, s_.2.1), (57, s_.2.2)]) (fun s_ w' => (w'.cell? (ad108.add (x10_2).toNat) = some (.int .i64 (rd l0 x10_2))) ∧ (Kd.R (Kd.int .i64) 3 w' w.heap.size (fun k_ => some k_ ≠ (s_.2.1 : Value).ownBlock ∧ some k_ ≠ (s_.2.2 : Value).ownBlock ∧ some k_ ≠ (.slice Ao15 x9_2.length co15 : Value).ownBlock) s_.1 y109) ∧ (Kd.R (Kd.int .i64) 3 w' w.heap.size (fun k_ => some k_ ≠ (s_.1 : Value).ownBlock ∧ some k_ ≠ (s_.2.2 : Value).ownBlock ∧ some k_ ≠ (.slice Ao15 x9_2.length co15 : Value).ownBlock) s_.2.1 y112) ∧ (Kd.R (Kd.int .i64) 3 w' w.heap.size (fun k_ => some k_ ≠ (s_.1 : Value).ownBlock ∧ some k_ ≠ (s_.2.1 : Value).ownBlock ∧ some k_ ≠ (.slice Ao15 x9_2.length co15 : Value).ownBlock) s_.2.2 y116) ∧ (Kd.R (Kd.int .i64) 3 w' w.heap.size (fun k_ => some k_ ≠ (s_.1 : Value).ownBlock ∧ some k_ ≠ (s_.2.1 : Value).ownBlock ∧ some k_ ≠ (s_.2.2 : Value).ownBlock) (.slice Ao15 x9_2.length co15) x9_2) ∧ (Below w.heap.size w w')) ?_ ?_
           rotate_left
           ·intro hCont
            refine two_ (i := 2) (j := 15) (Ni := some 44) (Nj := some 57) #[true, true, true, false, true, true, true, true, true, true, true, true, true, true, true, false, false, true, true, true, false, false, false] #[true, true, false, false, true, true, true, true, true, true, true, true, true, true, true, true, false, true, true, true, false, false, false] rfl rfl rfl rfl (two_of HT_.out (by kernel_rfl)) (by decide) (by decide) (fun K hK => ?_) (fun K hK => ?_)
            ·skip
             refine Kd.R_lit_step (Kd.int .i64) _ 3 ?hg (N := 44) ?hd (xs := ([wrap64 (Int.tdiv (wrap64 (a1 * (rd l0 x10_2))) x6_1)] : List Int)) (inner := [.int .i64 (wrap64 (Int.tdiv (wrap64 (a1 * (rd l0 x10_2))) x6_1))]) (ok := fun _ => True) (okp := fun _ => True) ?hr ?hp (fun _ hk => hk) trivial (Below.refl _ _) (Nat.le_refl _) (by simp) ?_; (case hd => rfl); (case hg => rfl); (case hr => first | (go_simp; done) | (go_simp; rfl)); (case hp => exact (Reps.one (show Kd.M (Kd.int .i64) _ _ _ (wrap64 (Int.tdiv (wrap64 (a1 * (rd l0 x10_2))) x6_1)) [.int .i64 (wrap64 (Int.tdiv (wrap64 (a1 * (rd l0 x10_2))) x6_1))] from rfl) (Reps.none _ _)))
             intro v110 w17 ho18 hb hg_ hnew_
             clear hg_ hnew_
             (first | rw [← Ny109.out] at ho18 | (simp only [Int.reduceToNat] at ho18; rw [← Ny109.out] at ho18))
             have HO111 := Aside0.mk (Kd.R_lower (Kd.R_new' (Kd.R_new' ho18 (Kd.R_lt (pR HO_5.out))) (Kd.R_lt (pR HO_9.out))) (below_size (pE HB)))
             replace HO_5 := re HO_5 ho18 hb
             replace HO_9 := re HO_9 ho18 hb
             replace HB := bs HB hb
             clear hb ho18
             obtain ⟨Ao20, co20, eo20⟩ := Kd.R_slice HO111.out
             (first | subst eo20 | (injection eo20 with f1_ f2_ f3_; have f4_ := f1_.symm; have f5_ := f3_.symm; clear f1_ f2_ f3_; subst f4_; subst f5_))
             refine hK.out _ _ (((HB.out.cell (World.block_lt_of_cell? w _ hw115_0)).trans hw115_0)) (fun hHeld => ?_)
             clear hK K
             refine norm_ (a' := ?_) ?_ ?_
             rotate_left
             ·show Act.put _ (some 44) _ = _
              simp only [Act.put, List.setIfInBounds_toArray, List.set_cons_zero, List.set_cons_succ, i64_w, i32_w]
              rfl
             refine two_ (i := 3) (j := 15) (Ni := some 45) (Nj := some 57) #[true, true, true, true, true, true, true, true, true, true, true, true, true, true, true, false, false, true, true, true, false, false, false] #[true, true, true, false, true, true, true, true, true, true, true, true, true, true, true, true, false, true, true, true, false, false, false] rfl rfl rfl rfl (two_of HT_.out (by kernel_rfl)) (by decide) (by decide) (fun K hK => ?_) (fun K hK => ?_)
             ·skip
              refine Kd.R_append_rows_step (Kd.int .i64) (w0 := w) w.heap.size (by rfl) (.tmp 42) (.tmp 44) 27 3 (.int .i64 0) 8 rfl Tryz.underlying27 info3 rfl (by decide) (by omega) (.slice Ao14 x5_2.length co14) x5_2 y109 _ _ _ (fun k_ => some k_ ≠ (.slice Ao15 x9_2.length co15 : Value).ownBlock ∧ some k_ ≠ (.slice Ao20 y109.length co20 : Value).ownBlock) (fun _ => False) rfl rfl ?aO ?aR (fun _ _ h => h) (fun _ h => h.elim) ?aF ?aB ?aS ?aL ?_
              (case aR => exact pC (Kd.R_reads' HO111.out).2.2)
              (case aB => exact (pE HB))
              (case aF => exact (fun k_ hk => ⟨Kd.fresh' (Kd.R_lt (pR HO_9.out)) k_ hk, Kd.fresh' (Kd.R_lt (pR HO111.out)) k_ hk⟩))
              (case aO => exact (pR HO_5.out))
              (case aS => exact (below_size (pE HB)))
              (case aL => have := LMc12.out; omega)
              intro v113 w19 ho hb hg hat
              rw [← Ny112.out] at ho
              replace HO_9 := Aside0.mk (Kd.R_after (ok := (fun k_ => some k_ ≠ (.slice Ao20 y109.length co20 : Value).ownBlock)) (by refine pR ?_; exact Kd.R_mono HO_9.out (fun _ hk => ⟨hk.2, hk.1⟩)) hg hat)
              replace HO111 := Aside0.mk (Kd.R_after (ok := (fun k_ => some k_ ≠ (.slice Ao15 x9_2.length co15 : Value).ownBlock)) (by refine pR ?_; exact Kd.R_mono HO111.out (fun _ hk => ⟨hk.2, hk.1.2⟩)) hg hat)
              replace HB := Aside0.mk (hb)
              have HO114 := Aside0.mk (ho)
              clear HO_5 ho hb hg hat
              refine hK.out _ _ (((HB.out.cell (World.block_lt_of_cell? w _ hw115_0)).trans hw115_0)) (fun hHeld => ?_)
              clear hK K
              refine norm_ (a' := ?_) ?_ ?_
              rotate_left
              ·show Act.put _ (some 45) _ = _
               simp only [Act.put, List.setIfInBounds_toArray, List.set_cons_zero, List.set_cons_succ, i64_w, i32_w]
               rfl
              refine on 15 (fun K hK => ?_)
              refine Kd.R_lit_step (Kd.int .i64) _ 3 ?hg (N := 57) ?hd (xs := ([wrap64 ((wrap64 (a1 * (rd l0 x10_2))) - (wrap64 ((wrap64 (Int.tdiv (wrap64 (a1 * (rd l0 x10_2))) x6_1)) * x6_1)))] : List Int)) (inner := [.int .i64 (wrap64 ((wrap64 (a1 * (rd l0 x10_2))) - (wrap64 ((wrap64 (Int.tdiv (wrap64 (a1 * (rd l0 x10_2))) x6_1)) * x6_1))))]) (ok := fun _ => True) (okp := fun _ => True) ?hr ?hp (fun _ hk => hk) trivial (Below.refl _ _) (Nat.le_refl _) (by simp) ?_; (case hd => rfl); (case hg => rfl); (case hr => first | (go_simp; done) | (go_simp; rfl)); (case hp => exact (Reps.one (show Kd.M (Kd.int .i64) _ _ _ (wrap64 ((wrap64 (a1 * (rd l0 x10_2))) - (wrap64 ((wrap64 (Int.tdiv (wrap64 (a1 * (rd l0 x10_2))) x6_1)) * x6_1)))) [.int .i64 (wrap64 ((wrap64 (a1 * (rd l0 x10_2))) - (wrap64 ((wrap64 (Int.tdiv (wrap64 (a1 * (rd l0 x10_2))) x6_1)) * x6_1))))] from rfl) (Reps.none _ _)))
              intro v117 w21 ho22 hb hg_ hnew_
              clear hg_ hnew_
              (first | rw [← Ny116.out] at ho22 | (simp only [Int.reduceToNat] at ho22; rw [← Ny116.out] at ho22))
              have HO118 := Aside0.mk (Kd.R_lower (Kd.R_new' (Kd.R_new' (Kd.R_new' ho22 (Kd.R_lt (pR HO_9.out))) (Kd.R_lt (pR HO111.out))) (Kd.R_lt (pR HO114.out))) (below_size (pE HB)))
              replace HO_9 := re HO_9 ho22 hb
              replace HO111 := re HO111 ho22 hb
              replace HO114 := re HO114 ho22 hb
              replace HB := bs HB hb
              clear hb ho22
              refine hK.out _ _ (((HB.out.cell (World.block_lt_of_cell? w _ hw115_0)).trans hw115_0)) (fun hHeld => ?_)
              clear hK K
              refine norm_ (a' := ?_) ?_ ?_
              rotate_left
              ·show Act.put _ (some 57) _ = _
               simp only [Act.put, List.setIfInBounds_toArray, List.set_cons_zero, List.set_cons_succ, i64_w, i32_w]
               rfl
              exact norm_ (by simp only [putAll, Act.put, List.setIfInBounds_toArray, List.set_cons_zero, List.set_cons_succ]) (hCont (.slice Ao20 y109.length co20, v113, v117) _ ⟨hHeld, (by refine pR ?_; exact Kd.R_mono HO111.out (fun _ hk => ⟨hk.1.2, ⟨hk.2, hk.1.1⟩⟩)), (by refine pR ?_; exact Kd.R_mono HO114.out (fun _ hk => ⟨hk.1.2, ⟨hk.2, hk.1.1⟩⟩)), (by refine pR ?_; exact Kd.R_mono HO118.out (fun _ hk => ⟨hk.1.2, ⟨hk.2, hk.1.1.2⟩⟩)), (by refine pR ?_; exact Kd.R_mono HO_9.out (fun _ hk => ⟨hk.1.1, ⟨hk.1.2, hk.2⟩⟩)), (pE HB)⟩)
             ·skip
              refine Kd.R_lit_step (Kd.int .i64) _ 3 ?hg (N := 57) ?hd (xs := ([wrap64 ((wrap64 (a1 * (rd l0 x10_2))) - (wrap64 ((wrap64 (Int.tdiv (wrap64 (a1 * (rd l0 x10_2))) x6_1)) * x6_1)))] : List Int)) (inner := [.int .i64 (wrap64 ((wrap64 (a1 * (rd l0 x10_2))) - (wrap64 ((wrap64 (Int.tdiv (wrap64 (a1 * (rd l0 x10_2))) x6_1)) * x6_1))))]) (ok := fun _ => True) (okp := fun _ => True) ?hr ?hp (fun _ hk => hk) trivial (Below.refl _ _) (Nat.le_refl _) (by simp) ?_; (case hd => rfl); (case hg => rfl); (case hr => first | (go_simp; done) | (go_simp; rfl)); (case hp => exact (Reps.one (show Kd.M (Kd.int .i64) _ _ _ (wrap64 ((wrap64 (a1 * (rd l0 x10_2))) - (wrap64 ((wrap64 (Int.tdiv (wrap64 (a1 * (rd l0 x10_2))) x6_1)) * x6_1)))) [.int .i64 (wrap64 ((wrap64 (a1 * (rd l0 x10_2))) - (wrap64 ((wrap64 (Int.tdiv (wrap64 (a1 * (rd l0 x10_2))) x6_1)) * x6_1))))] from rfl) (Reps.none _ _)))
              intro v117 w19 ho20 hb hg_ hnew_
              clear hg_ hnew_
              (first | rw [← Ny116.out] at ho20 | (simp only [Int.reduceToNat] at ho20; rw [← Ny116.out] at ho20))
              have HO118 := Aside0.mk (Kd.R_lower (Kd.R_new' (Kd.R_new' (Kd.R_new' ho20 (Kd.R_lt (pR HO_5.out))) (Kd.R_lt (pR HO_9.out))) (Kd.R_lt (pR HO111.out))) (below_size (pE HB)))
              replace HO_5 := re HO_5 ho20 hb
              replace HO_9 := re HO_9 ho20 hb
              replace HO111 := re HO111 ho20 hb
              replace HB := bs HB hb
              clear hb ho20
              obtain ⟨Ao22, co22, eo22⟩ := Kd.R_slice HO111.out
              (first | subst eo22 | (injection eo22 with f1_ f2_ f3_; have f4_ := f1_.symm; have f5_ := f3_.symm; clear f1_ f2_ f3_; subst f4_; subst f5_))
              refine hK.out _ _ (((HB.out.cell (World.block_lt_of_cell? w _ hw115_0)).trans hw115_0)) (fun hHeld => ?_)
              clear hK K
              refine norm_ (a' := ?_) ?_ ?_
              rotate_left
              ·show Act.put _ (some 57) _ = _
               simp only [Act.put, List.setIfInBounds_toArray, List.set_cons_zero, List.set_cons_succ, i64_w, i32_w]
               rfl
              refine on 3 (fun K hK => ?_)
              refine Kd.R_append_rows_step (Kd.int .i64) (w0 := w) w.heap.size (by rfl) (.tmp 42) (.tmp 44) 27 3 (.int .i64 0) 8 rfl Tryz.underlying27 info3 rfl (by decide) (by omega) (.slice Ao14 x5_2.length co14) x5_2 y109 _ _ _ (fun k_ => some k_ ≠ (.slice Ao15 x9_2.length co15 : Value).ownBlock ∧ some k_ ≠ (.slice Ao22 y109.length co22 : Value).ownBlock ∧ some k_ ≠ (v117 : Value).ownBlock) (fun _ => False) rfl rfl ?aO ?aR (fun _ _ h => h) (fun _ h => h.elim) ?aF ?aB ?aS ?aL ?_
              (case aR => exact pC (Kd.R_reads' HO111.out).2.2)
              (case aB => exact (pE HB))
              (case aF => exact (fun k_ hk => ⟨Kd.fresh' (Kd.R_lt (pR HO_9.out)) k_ hk, Kd.fresh' (Kd.R_lt (pR HO111.out)) k_ hk, Kd.fresh' (Kd.R_lt (pR HO118.out)) k_ hk⟩))
              (case aO => exact (by refine pR ?_; exact Kd.R_mono HO_5.out (fun _ hk => ⟨hk.1.1, ⟨hk.1.2, hk.2⟩⟩)))
              (case aS => exact (below_size (pE HB)))
              (case aL => have := LMc12.out; omega)
              intro v113 w21 ho hb hg hat
              rw [← Ny112.out] at ho
              replace HO_9 := Aside0.mk (Kd.R_after (ok := (fun k_ => some k_ ≠ (.slice Ao22 y109.length co22 : Value).ownBlock ∧ some k_ ≠ (v117 : Value).ownBlock)) (by refine pR ?_; exact Kd.R_mono HO_9.out (fun _ hk => ⟨⟨hk.1.2, hk.2⟩, hk.1.1⟩)) hg hat)
              replace HO111 := Aside0.mk (Kd.R_after (ok := (fun k_ => some k_ ≠ (.slice Ao15 x9_2.length co15 : Value).ownBlock ∧ some k_ ≠ (v117 : Value).ownBlock)) (by refine pR ?_; exact Kd.R_mono HO111.out (fun _ hk => ⟨⟨hk.1.2, hk.2⟩, hk.1.1.2⟩)) hg hat)
              replace HO118 := Aside0.mk (Kd.R_after (ok := (fun k_ => some k_ ≠ (.slice Ao15 x9_2.length co15 : Value).ownBlock ∧ some k_ ≠ (.slice Ao22 y109.length co22 : Value).ownBlock)) (by refine pR ?_; exact Kd.R_mono HO118.out (fun _ hk => ⟨⟨hk.1.2, hk.2⟩, hk.1.1.2⟩)) hg hat)
              replace HB := Aside0.mk (hb)
              have HO114 := Aside0.mk (ho)
              clear HO_5 ho hb hg hat
              refine hK.out _ _ (((HB.out.cell (World.block_lt_of_cell? w _ hw115_0)).trans hw115_0)) (fun hHeld => ?_)
              clear hK K
              refine norm_ (a' := ?_) ?_ ?_
              rotate_left
              ·show Act.put _ (some 45) _ = _
               simp only [Act.put, List.setIfInBounds_toArray, List.set_cons_zero, List.set_cons_succ, i64_w, i32_w]
               rfl
              exact norm_ (by simp only [putAll, Act.put, List.setIfInBounds_toArray, List.set_cons_zero, List.set_cons_succ]) (hCont (.slice Ao22 y109.length co22, v113, v117) _ ⟨hHeld, (by refine pR ?_; exact Kd.R_mono HO111.out (fun _ hk => ⟨hk.2, ⟨hk.1.2, hk.1.1⟩⟩)), (by refine pR ?_; exact Kd.R_mono HO114.out (fun _ hk => ⟨hk.2.1, ⟨hk.2.2, hk.1⟩⟩)), (by refine pR ?_; exact Kd.R_mono HO118.out (fun _ hk => ⟨hk.1.2, ⟨hk.2, hk.1.1⟩⟩)), (by refine pR ?_; exact Kd.R_mono HO_9.out (fun _ hk => ⟨hk.1.1, ⟨hk.2, hk.1.2⟩⟩)), (pE HB)⟩)
            ·skip
             refine Kd.R_lit_step (Kd.int .i64) _ 3 ?hg (N := 57) ?hd (xs := ([wrap64 ((wrap64 (a1 * (rd l0 x10_2))) - (wrap64 ((wrap64 (Int.tdiv (wrap64 (a1 * (rd l0 x10_2))) x6_1)) * x6_1)))] : List Int)) (inner := [.int .i64 (wrap64 ((wrap64 (a1 * (rd l0 x10_2))) - (wrap64 ((wrap64 (Int.tdiv (wrap64 (a1 * (rd l0 x10_2))) x6_1)) * x6_1))))]) (ok := fun _ => True) (okp := fun _ => True) ?hr ?hp (fun _ hk => hk) trivial (Below.refl _ _) (Nat.le_refl _) (by simp) ?_; (case hd => rfl); (case hg => rfl); (case hr => first | (go_simp; done) | (go_simp; rfl)); (case hp => exact (Reps.one (show Kd.M (Kd.int .i64) _ _ _ (wrap64 ((wrap64 (a1 * (rd l0 x10_2))) - (wrap64 ((wrap64 (Int.tdiv (wrap64 (a1 * (rd l0 x10_2))) x6_1)) * x6_1)))) [.int .i64 (wrap64 ((wrap64 (a1 * (rd l0 x10_2))) - (wrap64 ((wrap64 (Int.tdiv (wrap64 (a1 * (rd l0 x10_2))) x6_1)) * x6_1))))] from rfl) (Reps.none _ _)))
             intro v117 w17 ho18 hb hg_ hnew_
             clear hg_ hnew_
             (first | rw [← Ny116.out] at ho18 | (simp only [Int.reduceToNat] at ho18; rw [← Ny116.out] at ho18))
             have HO118 := Aside0.mk (Kd.R_lower (Kd.R_new' (Kd.R_new' ho18 (Kd.R_lt (pR HO_5.out))) (Kd.R_lt (pR HO_9.out))) (below_size (pE HB)))
             replace HO_5 := re HO_5 ho18 hb
             replace HO_9 := re HO_9 ho18 hb
             replace HB := bs HB hb
             clear hb ho18
             refine hK.out _ _ (((HB.out.cell (World.block_lt_of_cell? w _ hw115_0)).trans hw115_0)) (fun hHeld => ?_)
             clear hK K
             refine norm_ (a' := ?_) ?_ ?_
             rotate_left
             ·show Act.put _ (some 57) _ = _
              simp only [Act.put, List.setIfInBounds_toArray, List.set_cons_zero, List.set_cons_succ, i64_w, i32_w]
              rfl
             refine on 2 (fun K hK => ?_)
             refine Kd.R_lit_step (Kd.int .i64) _ 3 ?hg (N := 44) ?hd (xs := ([wrap64 (Int.tdiv (wrap64 (a1 * (rd l0 x10_2))) x6_1)] : List Int)) (inner := [.int .i64 (wrap64 (Int.tdiv (wrap64 (a1 * (rd l0 x10_2))) x6_1))]) (ok := fun _ => True) (okp := fun _ => True) ?hr ?hp (fun _ hk => hk) trivial (Below.refl _ _) (Nat.le_refl _) (by simp) ?_; (case hd => rfl); (case hg => rfl); (case hr => first | (go_simp; done) | (go_simp; rfl)); (case hp => exact (Reps.one (show Kd.M (Kd.int .i64) _ _ _ (wrap64 (Int.tdiv (wrap64 (a1 * (rd l0 x10_2))) x6_1)) [.int .i64 (wrap64 (Int.tdiv (wrap64 (a1 * (rd l0 x10_2))) x6_1))] from rfl) (Reps.none _ _)))
             intro v110 w19 ho20 hb hg_ hnew_
             clear hg_ hnew_
             (first | rw [← Ny109.out] at ho20 | (simp only [Int.reduceToNat] at ho20; rw [← Ny109.out] at ho20))
             have HO111 := Aside0.mk (Kd.R_lower (Kd.R_new' (Kd.R_new' (Kd.R_new' ho20 (Kd.R_lt (pR HO_5.out))) (Kd.R_lt (pR HO_9.out))) (Kd.R_lt (pR HO118.out))) (below_size (pE HB)))
             replace HO_5 := re HO_5 ho20 hb
             replace HO_9 := re HO_9 ho20 hb
             replace HO118 := re HO118 ho20 hb
             replace HB := bs HB hb
             clear hb ho20
             obtain ⟨Ao22, co22, eo22⟩ := Kd.R_slice HO111.out
             (first | subst eo22 | (injection eo22 with f1_ f2_ f3_; have f4_ := f1_.symm; have f5_ := f3_.symm; clear f1_ f2_ f3_; subst f4_; subst f5_))
             refine hK.out _ _ (((HB.out.cell (World.block_lt_of_cell? w _ hw115_0)).trans hw115_0)) (fun hHeld => ?_)
             clear hK K
             refine norm_ (a' := ?_) ?_ ?_
             rotate_left
             ·show Act.put _ (some 44) _ = _
              simp only [Act.put, List.setIfInBounds_toArray, List.set_cons_zero, List.set_cons_succ, i64_w, i32_w]
              rfl
             refine on 3 (fun K hK => ?_)
             refine Kd.R_append_rows_step (Kd.int .i64) (w0 := w) w.heap.size (by rfl) (.tmp 42) (.tmp 44) 27 3 (.int .i64 0) 8 rfl Tryz.underlying27 info3 rfl (by decide) (by omega) (.slice Ao14 x5_2.length co14) x5_2 y109 _ _ _ (fun k_ => some k_ ≠ (.slice Ao15 x9_2.length co15 : Value).ownBlock ∧ some k_ ≠ (v117 : Value).ownBlock ∧ some k_ ≠ (.slice Ao22 y109.length co22 : Value).ownBlock) (fun _ => False) rfl rfl ?aO ?aR (fun _ _ h => h) (fun _ h => h.elim) ?aF ?aB ?aS ?aL ?_
             (case aR => exact pC (Kd.R_reads' HO111.out).2.2)
             (case aB => exact (pE HB))
             (case aF => exact (fun k_ hk => ⟨Kd.fresh' (Kd.R_lt (pR HO_9.out)) k_ hk, Kd.fresh' (Kd.R_lt (pR HO118.out)) k_ hk, Kd.fresh' (Kd.R_lt (pR HO111.out)) k_ hk⟩))
             (case aO => exact (by refine pR ?_; exact Kd.R_mono HO_5.out (fun _ hk => ⟨hk.1.1, ⟨hk.1.2, hk.2⟩⟩)))
             (case aS => exact (below_size (pE HB)))
             (case aL => have := LMc12.out; omega)
             intro v113 w21 ho hb hg hat
             rw [← Ny112.out] at ho
             replace HO_9 := Aside0.mk (Kd.R_after (ok := (fun k_ => some k_ ≠ (v117 : Value).ownBlock ∧ some k_ ≠ (.slice Ao22 y109.length co22 : Value).ownBlock)) (by refine pR ?_; exact Kd.R_mono HO_9.out (fun _ hk => ⟨⟨hk.1.2, hk.2⟩, hk.1.1⟩)) hg hat)
             replace HO118 := Aside0.mk (Kd.R_after (ok := (fun k_ => some k_ ≠ (.slice Ao15 x9_2.length co15 : Value).ownBlock ∧ some k_ ≠ (.slice Ao22 y109.length co22 : Value).ownBlock)) (by refine pR ?_; exact Kd.R_mono HO118.out (fun _ hk => ⟨⟨hk.1.2, hk.2⟩, hk.1.1.2⟩)) hg hat)
             replace HO111 := Aside0.mk (Kd.R_after (ok := (fun k_ => some k_ ≠ (.slice Ao15 x9_2.length co15 : Value).ownBlock ∧ some k_ ≠ (v117 : Value).ownBlock)) (by refine pR ?_; exact Kd.R_mono HO111.out (fun _ hk => ⟨⟨hk.1.2, hk.2⟩, hk.1.1.2⟩)) hg hat)
             replace HB := Aside0.mk (hb)
             have HO114 := Aside0.mk (ho)
             clear HO_5 ho hb hg hat
             refine hK.out _ _ (((HB.out.cell (World.block_lt_of_cell? w _ hw115_0)).trans hw115_0)) (fun hHeld => ?_)
             clear hK K
             refine norm_ (a' := ?_) ?_ ?_
             rotate_left
             ·show Act.put _ (some 45) _ = _
              simp only [Act.put, List.setIfInBounds_toArray, List.set_cons_zero, List.set_cons_succ, i64_w, i32_w]
              rfl
             exact norm_ (by simp only [putAll, Act.put, List.setIfInBounds_toArray, List.set_cons_zero, List.set_cons_succ]) (hCont (.slice Ao22 y109.length co22, v113, v117) _ ⟨hHeld, (by refine pR ?_; exact Kd.R_mono HO111.out (fun _ hk => ⟨hk.2, ⟨hk.1.2, hk.1.1⟩⟩)), (by refine pR ?_; exact Kd.R_mono HO114.out (fun _ hk => ⟨hk.2.2, ⟨hk.2.1, hk.1⟩⟩)), (by refine pR ?_; exact Kd.R_mono HO118.out (fun _ hk => ⟨hk.1.2, ⟨hk.2, hk.1.1⟩⟩)), (by refine pR ?_; exact Kd.R_mono HO_9.out (fun _ hk => ⟨hk.1.2, ⟨hk.2, hk.1.1⟩⟩)), (pE HB)⟩)
           rintro ⟨v110, v113, v117⟩ w23 ⟨hS_, h0_, h1_, h2_, h3_, h4_⟩
           have n0_ : Aside0 (Kd.R (Kd.int .i64) 3 w23 w.heap.size (fun k_ => some k_ ≠ (v113 : Value).ownBlock ∧ some k_ ≠ (v117 : Value).ownBlock ∧ some k_ ≠ (.slice Ao15 x9_2.length co15 : Value).ownBlock) v110 y109) := ⟨h0_⟩
           have n1_ : Aside0 (Kd.R (Kd.int .i64) 3 w23 w.heap.size (fun k_ => some k_ ≠ (v110 : Value).ownBlock ∧ some k_ ≠ (v117 : Value).ownBlock ∧ some k_ ≠ (.slice Ao15 x9_2.length co15 : Value).ownBlock) v113 y112) := ⟨h1_⟩
           have n2_ : Aside0 (Kd.R (Kd.int .i64) 3 w23 w.heap.size (fun k_ => some k_ ≠ (v110 : Value).ownBlock ∧ some k_ ≠ (v113 : Value).ownBlock ∧ some k_ ≠ (.slice Ao15 x9_2.length co15 : Value).ownBlock) v117 y116) := ⟨h2_⟩
           have n3_ : Aside0 (Kd.R (Kd.int .i64) 3 w23 w.heap.size (fun k_ => some k_ ≠ (v110 : Value).ownBlock ∧ some k_ ≠ (v113 : Value).ownBlock ∧ some k_ ≠ (v117 : Value).ownBlock) (.slice Ao15 x9_2.length co15) x9_2) := ⟨h3_⟩
           have n4_ : Aside0 (Below w.heap.size w w23) := ⟨h4_⟩
           clear HO_5 HO_9 HB h0_ h1_ h2_ h3_ h4_
           have HO111 := n0_
           have HO114 := n1_
           have HO118 := n2_
           have HO_9 := n3_
           have HB := n4_
           clear n0_ n1_ n2_ n3_ n4_
           have hHeld : w23.cell? (ad108.add (x10_2).toNat) = some (.int .i64 (rd l0 x10_2)) := hS_
           obtain ⟨Ao25, co25, eo25⟩ := Kd.R_slice HO118.out
           (first | subst eo25 | (injection eo25 with f1_ f2_ f3_; have f4_ := f1_.symm; have f5_ := f3_.symm; clear f1_ f2_ f3_; subst f4_; subst f5_))
           refine norm_ (a' := ?_) ?_ ?_
           rotate_left
           ·simp only [putAll, Act.put, List.setIfInBounds_toArray, List.set_cons_zero, List.set_cons_succ]
            rfl
           refine on 16 (fun K hK => ?_)
           refine Kd.R_append_rows_step (Kd.int .i64) (w0 := w) w.heap.size (by rfl) (.tmp 46) (.tmp 57) 27 3 (.int .i64 0) 8 rfl Tryz.underlying27 info3 rfl (by decide) (by omega) (.slice Ao15 x9_2.length co15) x9_2 y116 _ _ _ (fun k_ => some k_ ≠ (v110 : Value).ownBlock ∧ some k_ ≠ (v113 : Value).ownBlock ∧ some k_ ≠ (.slice Ao25 y116.length co25 : Value).ownBlock) (fun _ => False) rfl rfl ?aO ?aR (fun _ _ h => h) (fun _ h => h.elim) ?aF ?aB ?aS ?aL ?_
           (case aR => exact pC (Kd.R_reads' HO118.out).2.2)
           (case aB => exact (pE HB))
           (case aF => exact (fun k_ hk => ⟨Kd.fresh' (Kd.R_lt (pR HO111.out)) k_ hk, Kd.fresh' (Kd.R_lt (pR HO114.out)) k_ hk, Kd.fresh' (Kd.R_lt (pR HO118.out)) k_ hk⟩))
           (case aO => exact (pR HO_9.out))
           (case aS => exact (below_size (pE HB)))
           (case aL => have := LMc13.out; omega)
           intro v120 w24 ho hb hg hat
           rw [← Ny119.out] at ho
           replace HO111 := Aside0.mk (Kd.R_after (ok := (fun k_ => some k_ ≠ (v113 : Value).ownBlock ∧ some k_ ≠ (.slice Ao25 y116.length co25 : Value).ownBlock)) (by refine pR ?_; exact Kd.R_mono HO111.out (fun _ hk => ⟨⟨hk.1, hk.2.1⟩, hk.2.2⟩)) hg hat)
           replace HO114 := Aside0.mk (Kd.R_after (ok := (fun k_ => some k_ ≠ (v110 : Value).ownBlock ∧ some k_ ≠ (.slice Ao25 y116.length co25 : Value).ownBlock)) (by refine pR ?_; exact Kd.R_mono HO114.out (fun _ hk => ⟨⟨hk.1, hk.2.1⟩, hk.2.2⟩)) hg hat)
           replace HO118 := Aside0.mk (Kd.R_after (ok := (fun k_ => some k_ ≠ (v110 : Value).ownBlock ∧ some k_ ≠ (v113 : Value).ownBlock)) (by refine pR ?_; exact Kd.R_mono HO118.out (fun _ hk => ⟨⟨hk.1, hk.2.1⟩, hk.2.2⟩)) hg hat)
           replace HB := Aside0.mk (hb)
           have HO121 := Aside0.mk (ho)
           clear HO_9 ho hb hg hat
           refine hK.out _ _ (((HB.out.cell (World.block_lt_of_cell? w _ hw115_0)).trans hw115_0)) (fun hHeld => ?_)
           clear hK K
           refine norm_ (a' := ?_) ?_ ?_
           rotate_left
           ·show Act.put _ (some 58) _ = _
            simp only [Act.put, List.setIfInBounds_toArray, List.set_cons_zero, List.set_cons_succ, i64_w, i32_w]
            rfl
           refine pu 20 5 ?_
           refine pu 21 9 ?_
           refine pu 22 7 ?_
           refine done_ (done_of HT_.out (by kernel_rfl)) ?_
           try go_wp2
           go_roundg k2
           case measure => have := HK1.out; have := HK2.out; omega
           case rel => exact ⟨(y112), (wrap64 (x7_2 + (wrap64 (Int.tdiv (wrap64 (a1 * (rd l0 x10_2))) x6_1)))), (y119), (wrap64 (x10_2 + 1)), (by first | rfl | (simp; done) | (simp [*]; done)), (by first | rfl | (simp; done) | (simp [*]; done)), H', ⟨by have := HK1.out; have := HK2.out; omega⟩, ⟨by (with_reducible repeat (first | apply Kd.R_alloc | apply Kd.R_drewN | apply Kd.R_drew)); exact Kd.R_mono HO114.out (fun _ hk => hk.2)⟩, ⟨by (with_reducible repeat (first | apply Kd.R_alloc | apply Kd.R_drewN | apply Kd.R_drew)); exact Kd.R_mono HO121.out (fun _ hk => hk.2.1)⟩, ⟨pE HB⟩⟩
          ·rw [if_neg c13] at H
           exact absurd H (by simp)
         ·rw [if_neg c12] at H
          exact absurd H (by simp)
       ·rw [if_neg c10] at H
        exact absurd H (by simp)
      ·rw [if_neg c9] at H
       have c9b0 : decide (x10_2 < (l0.length : Int)) = false := decide_eq_false c9
       clear c9
       have H' := Aside0.mk H
       clear H
       go_wp2
       go_loopg [7] k2 (fun kq v7 w' => ∃ (x5_3 : List Int) (x7_3 : Int) (x9_3 : List Int), v7 = .int .i64 x7_3 ∧ Aside0 (walkmillref06_Share.l2 kq a1 x5_3 x7_3 x9_3 = some r) ∧ Aside0 (kq ≤ k2) ∧ Aside0 (Kd.R (Kd.int .i64) 3 w' w.heap.size (fun k_ => some k_ ≠ (u9 : Value).ownBlock) u5 x5_3) ∧ Aside0 (Kd.R (Kd.int .i64) 3 w' w.heap.size (fun k_ => some k_ ≠ (u5 : Value).ownBlock) u9 x9_3) ∧ Aside0 (Below w.heap.size w w'))
       case atStart => exact ⟨(x5_2), (x7_2), (x9_2), (by first | rfl | (simp; done) | (simp [*]; done)), H', ⟨Nat.le_refl _⟩, ⟨by (with_reducible repeat (first | apply Kd.R_alloc | apply Kd.R_drewN | apply Kd.R_drew)); exact HO_5.out⟩, ⟨by (with_reducible repeat (first | apply Kd.R_alloc | apply Kd.R_drewN | apply Kd.R_drew)); exact HO_9.out⟩, ⟨pE HB⟩⟩
       case round =>
        clear H'
        try clear c1
        try clear p1
        try clear q1
        try clear hx1
        try clear p2
        try clear c5
        try clear c5b0
        try clear c6
        try clear c6b0
        try clear p6
        try clear c9
        try clear c9b0
        try clear c10
        try clear c10b0
        try clear p10
        try clear q10
        try clear hx10
        try clear c11
        try clear c11b0
        try clear c11b1
        try clear p11
        try clear q11
        try clear hx11
        try clear c12
        try clear c13
        try clear hx104_0
        try clear hx108_0
        try clear hx115_0
        try clear p1
        try clear p104
        try clear p108
        try clear p115
        try clear p2
        try clear p6
        try clear q1
        try clear q104
        try clear q108
        try clear q115
        obtain ⟨x5_3, x7_3, x9_3, rfl, HA, HK3, HO_5, HO_9, HB⟩ := hrel
        cases gk with
        | zero => exact absurd HA.out (by simp [walkmillref06_Share.l2])
        | succ k3 =>
         have H := HA.out
         clear HA
         simp only [walkmillref06_Share.l2] at H
         by_cases c26 : x7_3 < a1
         ·rw [if_pos c26] at H
          have c26b0 : decide (x7_3 < a1) = true := decide_eq_true c26
          clear c26
          have H' := Aside0.mk H
          clear H
          go_wp2
          go_loopg [12, 13] k3 (fun kq v12 v13 w' => ∃ (x12_4 : Int) (x13_4 : Int), v12 = .int .i64 x12_4 ∧ v13 = .int .i64 x13_4 ∧ Aside0 (walkmillref06_Share.l3 kq a1 x5_3 x7_3 x9_3 x12_4 x13_4 = some r) ∧ Aside0 (kq ≤ k3) ∧ Aside0 (Kd.R (Kd.int .i64) 3 w' w.heap.size (fun k_ => some k_ ≠ (u9 : Value).ownBlock) u5 x5_3) ∧ Aside0 (Kd.R (Kd.int .i64) 3 w' w.heap.size (fun k_ => some k_ ≠ (u5 : Value).ownBlock) u9 x9_3) ∧ Aside0 (Below w.heap.size w w'))
          case atStart => exact ⟨(0), (1), (by first | rfl | (simp; done) | (simp [*]; done)), (by first | rfl | (simp; done) | (simp [*]; done)), H', ⟨Nat.le_refl _⟩, ⟨by (with_reducible repeat (first | apply Kd.R_alloc | apply Kd.R_drewN | apply Kd.R_drew)); exact HO_5.out⟩, ⟨by (with_reducible repeat (first | apply Kd.R_alloc | apply Kd.R_drewN | apply Kd.R_drew)); exact HO_9.out⟩, ⟨pE HB⟩⟩
          case round =>
           clear H'
           try clear c1
           try clear p1
           try clear q1
           try clear hx1
           try clear c2
           try clear p2
           try clear c5
           try clear c5b0
           try clear c6
           try clear c6b0
           try clear p6
           try clear c9
           try clear c9b0
           try clear c10
           try clear c10b0
           try clear p10
           try clear q10
           try clear hx10
           try clear c11
           try clear c11b0
           try clear c11b1
           try clear p11
           try clear q11
           try clear hx11
           try clear c12
           try clear c13
           try clear c26
           try clear c26b0
           try clear hx104_0
           try clear hx108_0
           try clear hx115_0
           try clear p1
           try clear p10
           try clear p104
           try clear p108
           try clear p11
           try clear p115
           try clear p2
           try clear p6
           try clear q1
           try clear q10
           try clear q104
           try clear q108
           try clear q11
           try clear q115
           obtain ⟨x12_4, x13_4, rfl, rfl, HA, HK4, HO_5, HO_9, HB⟩ := hrel
           cases gk with
           | zero => exact absurd HA.out (by simp [walkmillref06_Share.l3])
           | succ k4 =>
            have H := HA.out
            clear HA
            simp only [walkmillref06_Share.l3] at H
            by_cases c27 : x13_4 < (x9_3.length : Int)
            ·rw [if_pos c27] at H
             have c27b0 : decide (x13_4 < (x9_3.length : Int)) = true := decide_eq_true c27
             clear c27
             by_cases c28 : 0 ≤ x13_4
             ·rw [if_pos c28] at H
              have c28b0 : decide (0 ≤ x13_4) = true := decide_eq_true c28
              clear c28
              by_cases c29 : 0 ≤ x12_4
              ·rw [if_pos c29] at H
               have c29b0 : decide (0 ≤ x12_4) = true := decide_eq_true c29
               clear c29
               by_cases c30 : x12_4 < (x9_3.length : Int)
               ·rw [if_pos c30] at H
                have c30b0 : decide (x12_4 < (x9_3.length : Int)) = true := decide_eq_true c30
                clear c30
                by_cases c31 : (rd x9_3 x13_4) > (rd x9_3 x12_4)
                ·rw [if_pos c31] at H
                 have c31b0 : decide ((rd x9_3 x12_4) < (rd x9_3 x13_4)) = true := decide_eq_true c31
                 clear c31
                 have H' := Aside0.mk H
                 clear H
                 obtain ⟨Ao32, co32, eo32⟩ := Kd.R_slice HO_9.out
                 subst eo32
                 try go_wp2
                 replace HO_5 := Aside0.mk (Kd.R_drew HO_5.out)
                 replace HO_9 := Aside0.mk (Kd.R_drew HO_9.out)
                 replace HB := Aside0.mk (below_drew1 HB.out)
                 have p122 : 0 ≤ (x13_4 : Int) := dT
                 have q122 : x13_4 < (x9_3.length : Int) := dT
                 obtain ⟨ad122, e122, hx122_0⟩ := Kd.at_int (Kd.R_reads' HO_9.out).2.2 x13_4 p122 q122
                 cases e122
                 replace p122 := eq_true p122
                 replace q122 := eq_true q122
                 have p123 : 0 ≤ (x12_4 : Int) := dT
                 have q123 : x12_4 < (x9_3.length : Int) := dT
                 obtain ⟨ad123, e123, hx123_0⟩ := Kd.at_int (Kd.R_reads' HO_9.out).2.2 x12_4 p123 q123
                 obtain rfl : ad122 = ad123 := (by injection e123)
                 replace p123 := eq_true p123
                 replace q123 := eq_true q123
                 refine start_ (n := 9) (S := fun w' => w'.cell? (ad122.add (x13_4).toNat) = some (.int .i64 (rd x9_3 x13_4)) ∧ w'.cell? (ad122.add (x12_4).toNat) = some (.int .i64 (rd x9_3 x12_4))) (ds := []) #[false, false, false, false, false, false, false, false, false] (by kernel_rfl) rfl rfl ⟨hx122_0, hx123_0⟩ (fun hHeld => ?_); refine with_tabW walkmillref06_Share.tab18 walkmillref06_Share.bits18 (fun HT_ HW_ => ?_)
                 generalize wr.drew = w33 at HO_5 HO_9 HB hx122_0 hx123_0 hHeld ⊢
                 refine pu 0 73 ?_
                 refine pu 1 74 ?_
                 refine pu 2 75 ?_
                 refine pu 4 77 ?_
                 refine pu 5 78 ?_
                 refine pu 6 79 ?_
                 refine tk 3 76 hHeld ?_
                 refine tk 7 80 hHeld ?_
                 refine pu 8 81 ?_
                 refine done_ (done_of HT_.out (by kernel_rfl)) ?_
                 try go_wp2
                 go_roundg k4
                 case measure => have := HK1.out; have := HK2.out; have := HK3.out; have := HK4.out; omega
                 case rel => exact ⟨(x13_4), (wrap64 (x13_4 + 1)), (by first | rfl | (simp; done) | (simp [*]; done)), (by first | rfl | (simp; done) | (simp [*]; done)), H', ⟨by have := HK1.out; have := HK2.out; have := HK3.out; have := HK4.out; omega⟩, ⟨by (with_reducible repeat (first | apply Kd.R_alloc | apply Kd.R_drewN | apply Kd.R_drew)); exact HO_5.out⟩, ⟨by (with_reducible repeat (first | apply Kd.R_alloc | apply Kd.R_drewN | apply Kd.R_drew)); exact HO_9.out⟩, ⟨pE HB⟩⟩
                ·rw [if_neg c31] at H
                 have c31b0 : decide ((rd x9_3 x12_4) < (rd x9_3 x13_4)) = false := decide_eq_false c31
                 clear c31
                 have H' := Aside0.mk H
                 clear H
                 obtain ⟨Ao34, co34, eo34⟩ := Kd.R_slice HO_9.out
                 subst eo34
                 try go_wp2
                 replace HO_5 := Aside0.mk (Kd.R_drew HO_5.out)
                 replace HO_9 := Aside0.mk (Kd.R_drew HO_9.out)
                 replace HB := Aside0.mk (below_drew1 HB.out)
                 have p122 : 0 ≤ (x13_4 : Int) := dT
                 have q122 : x13_4 < (x9_3.length : Int) := dT
                 obtain ⟨ad122, e122, hx122_0⟩ := Kd.at_int (Kd.R_reads' HO_9.out).2.2 x13_4 p122 q122
                 cases e122
                 replace p122 := eq_true p122
                 replace q122 := eq_true q122
                 have p123 : 0 ≤ (x12_4 : Int) := dT
                 have q123 : x12_4 < (x9_3.length : Int) := dT
                 obtain ⟨ad123, e123, hx123_0⟩ := Kd.at_int (Kd.R_reads' HO_9.out).2.2 x12_4 p123 q123
                 obtain rfl : ad122 = ad123 := (by injection e123)
                 replace p123 := eq_true p123
                 replace q123 := eq_true q123
                 refine start_ (n := 9) (S := fun w' => w'.cell? (ad122.add (x13_4).toNat) = some (.int .i64 (rd x9_3 x13_4)) ∧ w'.cell? (ad122.add (x12_4).toNat) = some (.int .i64 (rd x9_3 x12_4))) (ds := []) #[false, false, false, false, false, false, false, false, false] (by kernel_rfl) rfl rfl ⟨hx122_0, hx123_0⟩ (fun hHeld => ?_); refine with_tabW walkmillref06_Share.tab18 walkmillref06_Share.bits18 (fun HT_ HW_ => ?_)
                 generalize wr.drew = w35 at HO_5 HO_9 HB hx122_0 hx123_0 hHeld ⊢
                 refine pu 0 73 ?_
                 refine pu 1 74 ?_
                 refine pu 2 75 ?_
                 refine pu 4 77 ?_
                 refine pu 5 78 ?_
                 refine pu 6 79 ?_
                 refine tk 3 76 hHeld ?_
                 refine tk 7 80 hHeld ?_
                 refine pu 8 81 ?_
                 refine done_ (done_of HT_.out (by kernel_rfl)) ?_
                 try go_wp2
                 go_roundg k4
                 case measure => have := HK1.out; have := HK2.out; have := HK3.out; have := HK4.out; omega
                 case rel => exact ⟨(x12_4), (wrap64 (x13_4 + 1)), (by first | rfl | (simp; done) | (simp [*]; done)), (by first | rfl | (simp; done) | (simp [*]; done)), H', ⟨by have := HK1.out; have := HK2.out; have := HK3.out; have := HK4.out; omega⟩, ⟨by (with_reducible repeat (first | apply Kd.R_alloc | apply Kd.R_drewN | apply Kd.R_drew)); exact HO_5.out⟩, ⟨by (with_reducible repeat (first | apply Kd.R_alloc | apply Kd.R_drewN | apply Kd.R_drew)); exact HO_9.out⟩, ⟨pE HB⟩⟩
               ·rw [if_neg c30] at H
                exact absurd H (by simp)
              ·rw [if_neg c29] at H
               exact absurd H (by simp)
             ·rw [if_neg c28] at H
              exact absurd H (by simp)
            ·rw [if_neg c27] at H
             have c27b0 : decide (x13_4 < (x9_3.length : Int)) = false := decide_eq_false c27
             clear c27
             by_cases c36 : 0 ≤ x12_4
             ·rw [if_pos c36] at H
              have c36b0 : decide (0 ≤ x12_4) = true := decide_eq_true c36
              clear c36
              by_cases c37 : x12_4 < (x5_3.length : Int)
              ·rw [if_pos c37] at H
               have c37b0 : decide (x12_4 < (x5_3.length : Int)) = true := decide_eq_true c37
               clear c37
               obtain ⟨y125, hy125⟩ : ∃ y_ : List Int, y_ = (x5_3.set (x12_4 : Int).toNat (wrap64 ((rd x5_3 x12_4) + 1))) := ⟨_, rfl⟩
               replace H : (if x12_4 < (x9_3.length : Int) then (walkmillref06_Share.l2 k4 a1 y125 (wrap64 (x7_3 + 1)) (x9_3.set (x12_4 : Int).toNat (-1))) else (none)) = some r := yy hy125 H
               have Ny125 := Aside0.mk hy125
               clear hy125
               by_cases c39 : x12_4 < (x9_3.length : Int)
               ·rw [if_pos c39] at H
                have c39b0 : decide (x12_4 < (x9_3.length : Int)) = true := decide_eq_true c39
                clear c39
                obtain ⟨y126, hy126⟩ : ∃ y_ : List Int, y_ = (x9_3.set (x12_4 : Int).toNat (-1)) := ⟨_, rfl⟩
                replace H : (walkmillref06_Share.l2 k4 a1 y125 (wrap64 (x7_3 + 1)) y126) = some r := yy hy126 H
                have Ny126 := Aside0.mk hy126
                clear hy126
                have H' := Aside0.mk H
                clear H
                obtain ⟨Ao41, co41, eo41⟩ := Kd.R_slice HO_9.out
                subst eo41
                obtain ⟨Ao42, co42, eo42⟩ := Kd.R_slice HO_5.out
                subst eo42
                have p124 : 0 ≤ (x12_4 : Int) := dT
                have q124 : x12_4 < (x5_3.length : Int) := dT
                obtain ⟨ad124, e124, hx124_0⟩ := Kd.at_int (Kd.R_reads' HO_5.out).2.2 x12_4 p124 q124
                cases e124
                replace p124 := eq_true p124
                replace q124 := eq_true q124
                have p38 : 0 ≤ (x12_4 : Int) := dT
                have q38 : (x12_4 : Int) < ((x5_3.length : Int) : Int) := dT
                obtain ⟨go38, co38, eo38, gb38, gl38, cl38, HG38⟩ := Kd.R_form HO_5.out (by omega)
                (first | cases eo38 | (injection eo38 with ea_ en_ ec_; (first | subst ea_ | (injection ea_ with ea_; subst ea_)); subst ec_; clear en_))
                have GB38 := Aside0.mk gb38
                have GG38 := Aside0.mk HG38
                clear gb38 gl38 HG38
                (first | simp only [add_plain] at hx124_0 | skip)
                obtain ⟨hx38_0, hf38_0⟩ := Kd.R_celln 0 HO_5.out (x12_4 : Int) p38 q38
                replace p38 := eq_true p38
                replace q38 := eq_true q38
                have HP43 := Kd.R_putg HO_5.out (x12_4 : Int) (wrap64 ((rd x5_3 x12_4) + 1))
                go_wp2_with (first | ((with_reducible refine gate_store (t := 3) (p := 88) rfl ?_); refine store_event (t := 3) (p := 88) (v := ?vo_w44) (w1 := (wr.setCell ⟨go38, (x12_4 : Int).toNat, none⟩ (.int .i64 (wrap64 ((rd x5_3 x12_4) + 1))))) ?hg ?ho ?hn ?hr ?_; (case ho => rfl); (case hg => rfl); (case hn => rfl); (case hr => first | (go_simp; done) | (go_simp; rfl)); intro w44 hw; have hg : wr.grownBy w44 (some go38) := (by rw [hw]; exact HP43.2); have hp_ : Kd.R (Kd.int .i64) 3 w44 w.heap.size (fun k_ => some k_ ≠ (.slice Ao41 x9_3.length co41 : Value).ownBlock) (.slice (some ⟨go38, 0, none⟩) x5_3.length co42) y125 := (by rw [hw, Ny125.out]; exact HP43.1); clear HP43; replace HO_5 := Aside0.mk (hp_); replace HO_9 := Aside0.mk (Kd.R_after (v := (.slice (some ⟨go38, 0, none⟩) x5_3.length co42)) (v1 := (.slice (some ⟨go38, 0, none⟩) x5_3.length co42)) (ok := (fun _ => True)) (by refine pR ?_; exact Kd.R_mono HO_9.out (fun _ hk => ⟨trivial, hk⟩)) hg (.inl rfl)); replace HB := Aside0.mk ((by rw [hw]; exact below_set (HB.out) GB38.out : Below w.heap.size w w44)); clear hg hw hp_; have p40 : 0 ≤ (x12_4 : Int) := dT; have q40 : (x12_4 : Int) < ((x9_3.length : Int) : Int) := dT; obtain ⟨go40, co40, eo40, gb40, gl40, cl40, HG40⟩ := Kd.R_form HO_9.out (by omega); (first | cases eo40 | (injection eo40 with ea_ en_ ec_; (first | subst ea_ | (injection ea_ with ea_; subst ea_)); subst ec_; clear en_)); have GB40 := Aside0.mk gb40; have GG40 := Aside0.mk HG40; clear gb40 gl40 HG40; obtain ⟨hx40_0, hf40_0⟩ := Kd.R_celln 0 HO_9.out (x12_4 : Int) p40 q40; replace p40 := eq_true p40; replace q40 := eq_true q40; have n_ := Aside0.mk (Kd.R_mono (ok' := (fun k_ => some k_ ≠ (.slice (some ⟨go38, 0, none⟩) x5_3.length co42 : Value).ownBlock)) HO_9.out (fun k_ hk => hk.2)); clear HO_9; have HO_9 := n_; clear n_; obtain ⟨hy45_, hz45_⟩ := Kd.R_celln 0 HO_9.out (x12_4 : Int) (dT) (dT); have HP45 := Kd.R_putg HO_9.out (x12_4 : Int) (-1)) | ((with_reducible refine gate_store (t := 3) (p := 91) rfl ?_); refine store_event (t := 3) (p := 91) (v := ?vo_w46) (w1 := (w44.setCell ⟨go40, (x12_4 : Int).toNat, none⟩ (.int .i64 (-1)))) ?hg ?ho ?hn ?hr ?_; (case ho => rfl); (case hg => rfl); (case hn => rfl); (case hr => first | (go_simp; done) | (go_simp; rfl)); intro w46 hw; have hg : w44.grownBy w46 (some go40) := (by rw [hw]; exact HP45.2); have hp_ : Kd.R (Kd.int .i64) 3 w46 w.heap.size (fun k_ => some k_ ≠ (.slice (some ⟨go38, 0, none⟩) x5_3.length co42 : Value).ownBlock) (.slice (some ⟨go40, 0, none⟩) x9_3.length co41) y126 := (by rw [hw, Ny126.out]; exact HP45.1); clear HP45; replace HO_5 := Aside0.mk (Kd.R_after (v := (.slice (some ⟨go40, 0, none⟩) x9_3.length co41)) (v1 := (.slice (some ⟨go40, 0, none⟩) x9_3.length co41)) (ok := (fun _ => True)) (by refine pR ?_; exact Kd.R_mono HO_5.out (fun _ hk => ⟨trivial, hk⟩)) hg (.inl rfl)); replace HO_9 := Aside0.mk (hp_); replace HB := Aside0.mk ((by rw [hw]; exact below_set (HB.out) GB40.out : Below w.heap.size w w46)); clear hg hw hp_))
                go_roundg k4
                case measure => have := HK1.out; have := HK2.out; have := HK3.out; have := HK4.out; omega
                case rel => exact ⟨(y125), (wrap64 (x7_3 + 1)), (y126), (by first | rfl | (simp; done) | (simp [*]; done)), H', ⟨by have := HK1.out; have := HK2.out; have := HK3.out; have := HK4.out; omega⟩, ⟨by (with_reducible repeat (first | apply Kd.R_alloc | apply Kd.R_drewN | apply Kd.R_drew)); exact Kd.R_mono HO_5.out (fun _ hk => hk.2)⟩, ⟨by (with_reducible repeat (first | apply Kd.R_alloc | apply Kd.R_drewN | apply Kd.R_drew)); exact HO_9.out⟩, ⟨pE HB⟩⟩
               ·rw [if_neg c39] at H
                exact absurd H (by simp)
              ·rw [if_neg c37] at H
               exact absurd H (by simp)
             ·rw [if_neg c36] at H
              exact absurd H (by simp)
         ·rw [if_neg c26] at H
          have c26b0 : decide (x7_3 < a1) = false := decide_eq_false c26
          clear c26
          obtain rfl := Option.some.inj H
          go_wp2
          go_ret
          exact ⟨_, eT, by (with_reducible repeat (first | apply Kd.R_alloc | apply Kd.R_drewN | apply Kd.R_drew)); exact Kd.R_mono HO_5.out (fun _ hk => trivial), pE HB⟩
end Go.Proofs.YtjaapkkpmegkfaaGreat.P
namespace Go.Proofs.YtjaapkkpmegkfaaGreat.P
open Go.RowKit Go.Proofs.YtjaapkkpmegkfaaGreatW.PrintWords Go.Proofs.YtjaapkkpmegkfaaGreatW.PrintLast Go.Proofs.YtjaapkkpmegkfaaGreatW.PrintMore
set_option maxRecDepth 100000 in
theorem walkmilllaw06_known.eval : walkmilllaw06_known.f 60 = some true := by kernel_rfl
theorem walkmilllaw06_known.at {k : Nat} (hk : 60 ≤ k) : walkmilllaw06_known.f k = some true := at_rounds (g := walkmilllaw06_known.f) walkmilllaw06_known.mono hk walkmilllaw06_known.eval
theorem walkmilllaw06_known.yes {k : Nat} {r : Bool} (h : walkmilllaw06_known.f k = some r) : r = true := by
  have h1 := at_rounds (g := walkmilllaw06_known.f) walkmilllaw06_known.mono (Nat.le_max_left k 60) h
  have h2 := at_rounds (g := walkmilllaw06_known.f) walkmilllaw06_known.mono (Nat.le_max_right k 60) walkmilllaw06_known.eval
  exact Option.some.inj (h1.symm.trans h2)
theorem walkmilllaw06_known.calls (k : Nat) (r : Bool) (w : World) (h : walkmilllaw06_known.f k = some r) : Calls Tryz.prog 15 #[] w fun e w' => e = .returned (.bool r) ∧ Below w.heap.size w w' :=
  walkmilllaw06_known.calls_true k r w (walkmilllaw06_known.yes h) h
end Go.Proofs.YtjaapkkpmegkfaaGreat.P
