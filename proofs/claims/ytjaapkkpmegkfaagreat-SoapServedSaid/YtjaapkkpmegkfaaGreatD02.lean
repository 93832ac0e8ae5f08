/- Part 2 of what the law's proof needs beyond its base: words, walks of functions and plain facts. -/
import Derived.Below
import Derived.Deep.Draws
import Derived.Deep.AppendLies
import Derived.Maps.AppendAt
import Derived.OwnWalk
import Derived.Laws.BytesArg
import Derived.Laws.MakeOwn
import Derived.Laws.OwnMore
import Derived.Deep.OwnRows
import Derived.Tactics
import Derived.Lib.ConvBytes
import Derived.Laws.Slices
import Derived.WalkKit
import Derived.KernelRfl
import Derived.RowKit3
import Derived.Deep.LoopGhost
import Derived.Deep.QuietTactic
import Derived.BigQuiet
import Derived.WideLaws
import Derived.Deep.DeepCutAuto
import Derived.Deep.CutBlock
import Derived.Deep.RegionHeld3
import Derived.Laws.Rows
import Derived.Lib.AppendStr
import Derived.ArgAppend
import Derived.Laws.IdiomCopy
import Derived.RowKit
import Derived.OrdersHeld
import Derived.Laws.BitsLemmas
import Derived.Deep.Slices
import Derived.OpenShut
import Derived.ChangeArms
import Derived.Test.YtjaapkkpmegkfaaGreatR01
import Derived.Test.YtjaapkkpmegkfaaGreatR02
import Derived.Test.YtjaapkkpmegkfaaGreatR03
import Derived.Test.YtjaapkkpmegkfaaGreatR04
import Derived.Test.YtjaapkkpmegkfaaGreatR05
import Derived.Test.YtjaapkkpmegkfaaGreatR06
import Derived.Test.YtjaapkkpmegkfaaGreatR07
import Derived.Test.YtjaapkkpmegkfaaGreatR08
import Derived.Test.YtjaapkkpmegkfaaGreatR09
import Derived.Test.YtjaapkkpmegkfaaGreatR10
import Derived.Test.YtjaapkkpmegkfaaGreatR11
import Derived.Test.YtjaapkkpmegkfaaGreatR12
import Derived.Test.YtjaapkkpmegkfaaGreatR13
import Derived.Test.YtjaapkkpmegkfaaGreatD01
set_option linter.unusedVariables false
set_option linter.unusedSimpArgs false
namespace Go.Proofs.YtjaapkkpmegkfaaGreat.P
open Go.RowKit Go.Proofs.YtjaapkkpmegkfaaGreatW.PrintWords Go.Proofs.YtjaapkkpmegkfaaGreatW.PrintLast Go.Proofs.YtjaapkkpmegkfaaGreatW.PrintMore
attribute [local go_sem] JG JH JY JX Jv Ju JJ JK
mutual
def Qap.l0 : Nat → List S100 → Int → List S89 → Int → Int → Int → Int → Int → Option ((List S100) × Int × Int × Int × Int × Int)
 | 0, _, _, _, _, _, _, _, _ => none
 | k + 1, x4, x5, x102000, x102001, x102002, x102003, x102004, x102005 => if x5 = 0 then (Qap.j1 k x4 x5 true x102000 x102001 x102002 x102003 x102004 x102005) else (if x5 < (x102000.length : Int) then (Qap.j1 k x4 x5 (decide (x5 < 4)) x102000 x102001 x102002 x102003 x102004 x102005) else (Qap.j1 k x4 x5 false x102000 x102001 x102002 x102003 x102004 x102005))
def Qap.j1 : Nat → List S100 → Int → Bool → List S89 → Int → Int → Int → Int → Int → Option ((List S100) × Int × Int × Int × Int × Int)
 | 0, _, _, _, _, _, _, _, _, _ => none
 | k + 1, x4, x5, x23, x102000, x102001, x102002, x102003, x102004, x102005 => if x23 = true then (if x5 < (x102000.length : Int) then (if 0 ≤ x5 then ((QC.f (Int.tmod (wrap64 ((Qar x102000 x5).f0)) 40) (wrap64 ((Int.tmod (wrap64 ((Qar x102000 x5).f0)) 40) + (Int.tmod (wrap64 ((Qar x102000 x5).f1)) 9)))).bind fun bt108 => (if x4.length < 3518437208883 then (Qap.l0 k (x4 ++ [(⟨(⟨bt108.1, bt108.2⟩ : S24), Int.tmod (wrap64 ((Qar x102000 x5).f2)) 40, Int.tmod (wrap64 ((Qar x102000 x5).f3)) 12, Int.tmod (wrap64 ((Qar x102000 x5).f4)) 8⟩ : S100)]) (wrap64 (x5 + 1)) x102000 x102001 x102002 x102003 x102004 x102005) else (none))) else (none)) else ((QC.f 10 12).bind fun bt113 => (if x4.length < 3518437208883 then (Qap.l0 k (x4 ++ [(⟨(⟨bt113.1, bt113.2⟩ : S24), 5, 1, 6⟩ : S100)]) (wrap64 (x5 + 1)) x102000 x102001 x102002 x102003 x102004 x102005) else (none)))) else ((QC.f (wrap64 (1 + (wrap64 (4 * (wrap64 (x102001)))))) (wrap64 ((wrap64 (1 + (wrap64 (4 * (wrap64 (x102001)))))) + (Int.tmod (wrap64 (x102003)) 30)))).bind fun bt118 => ((QC.f (Int.tmod (wrap64 (x102002)) 200) (wrap64 ((Int.tmod (wrap64 (x102002)) 200) + (Int.tmod (wrap64 (x102004)) 20)))).bind fun bt120 => (some (x4, bt118.1, bt118.2, bt120.1, bt120.2, wrap64 (x102005)))))
end
def Qap.f (k : Nat) (l0_0 : List S89) (a0_1 a0_2 a0_3 a0_4 a0_5 : Int) : Option ((List S100) × Int × Int × Int × Int × Int) := Qap.l0 k (([] : List S100)) 0 l0_0 a0_1 a0_2 a0_3 a0_4 a0_5
def Qap.T9 : Bool × List (List Nat × List Nat) := (true, [([], []), ([], []), ([], []), ([], []), ([3], [3]), ([4], [4]), ([5], [5]), ([2, 6], [2, 6]), ([1, 7], [1, 7]), ([], []), ([9], [9]), ([10], [10]), ([11], [11]), ([], []), ([13], [13]), ([14], [14]), ([15], [15]), ([], []), ([17], [17]), ([18], [18]), ([19], [19]), ([8, 12, 16, 20], [8, 12, 16, 20]), ([21], [21]), ([0, 22, 8], [0, 22]), ([23, 23, 0, 1, 2, 3, 4, 5, 6, 7, 8, 9, 10, 11, 12, 13, 14, 15, 16, 17, 18, 19, 20, 21, 22, 23], [0, 23])])
def Qap.B9 : List Nat := [0, 0, 0, 0, 8, 24, 56, 124, 254, 0, 512, 1536, 3584, 0, 8192, 24576, 57344, 0, 131072, 393216, 917504, 2097150, 4194302, 8388607, 16777215]
theorem Qap.tab9 : rtab .any (ZG Tryz.f52 9) = Qap.T9 := by kernel_rfl
theorem Qap.bits9 : J0 Qap.T9.2 Qap.B9 = true := by kernel_rfl
def Qap.T10 : Bool × List (List Nat × List Nat) := (true, [([], []), ([0], [0]), ([1], [1]), ([2], [2]), ([3], [3]), ([4], [4]), ([], []), ([6], [6]), ([7], [7]), ([8], [8]), ([9], [9]), ([5, 0, 1, 2, 3, 4, 5], [5]), ([10, 11, 0, 1, 2, 3, 4, 5, 6, 7, 8, 9, 10, 11], [10])])
def Qap.B10 : List Nat := [0, 1, 3, 7, 15, 31, 0, 64, 192, 448, 960, 63, 4095]
theorem Qap.tab10 : rtab .any (ZG Tryz.f52 10) = Qap.T10 := by kernel_rfl
theorem Qap.bits10 : J0 Qap.T10.2 Qap.B10 = true := by kernel_rfl
def Qap.T11 : Bool × List (List Nat × List Nat) := (true, [([], []), ([], []), ([], []), ([], []), ([3], [3]), ([4], [4]), ([5], [5]), ([6], [6]), ([2, 7], [2, 7]), ([1, 8], [1, 8]), ([], []), ([], []), ([], []), ([12], [12]), ([13], [13]), ([14], [14]), ([15], [15]), ([11, 16], [11, 16]), ([10, 17, 9], [10, 17]), ([], []), ([19], [19]), ([20], [20]), ([21], [21]), ([9, 18, 22], [9, 18, 22]), ([0, 18, 0], [0]), ([23, 24, 0, 1, 2, 3, 4, 5, 6, 7, 8, 9, 10, 11, 12, 13, 14, 15, 16, 17, 18, 19, 20, 21, 22, 23, 24], [23])])
def Qap.B11 : List Nat := [0, 0, 0, 0, 8, 24, 56, 120, 252, 510, 0, 0, 0, 4096, 12288, 28672, 61440, 129024, 262142, 0, 524288, 1572864, 3670016, 8388606, 524287, 33554431]
theorem Qap.tab11 : rtab .any (ZG Tryz.f52 11) = Qap.T11 := by kernel_rfl
theorem Qap.bits11 : J0 Qap.T11.2 Qap.B11 = true := by kernel_rfl
set_option maxHeartbeats 8000000 in
set_option maxRecDepth 100000 in
theorem Qap.calls (k : Nat) (A0_0 : Option Addr) (c0_0 : Nat) (l0_0 : List S89) (a0_1 a0_2 a0_3 a0_4 a0_5 : Int) (r1 : List S100) (r2 r3 r4 r5 r6 : Int) (w : World) (hr0_0 : Kd.C k89 w A0_0 l0_0.length l0_0) (hc0_0 : l0_0.length ≤ c0_0) (h : Qap.f k l0_0 a0_1 a0_2 a0_3 a0_4 a0_5 = some (r1, r2, r3, r4, r5, r6)) :
  Calls Tryz.prog 52 #[.agg #[.slice A0_0 l0_0.length c0_0, .int .u8 a0_1, .int .u8 a0_2, .int .u8 a0_3, .int .u8 a0_4, .int .u8 a0_5]] w fun e w' => ∃ v0_ : Value, e = .returned (.tuple #[v0_, .agg #[.int .i64 r2, .int .i64 r3, .int .i64 r4, .int .i64 r5, .int .i64 r6]]) ∧ Kd.R k100 100 w' w.heap.size (fun _ => True) v0_ r1 ∧ Below w.heap.size w w' := by
 have hff0 : Int.tmod (1 : Int) 12 = 1 := by first | (unfold wrap64; omega) | decide | kernel_rfl
 have hff1 : Int.tmod (10 : Int) 40 = 10 := by first | (unfold wrap64; omega) | decide | kernel_rfl
 have hff2 : Int.tmod (2 : Int) 9 = 2 := by first | (unfold wrap64; omega) | decide | kernel_rfl
 have hff3 : Int.tmod (5 : Int) 40 = 5 := by first | (unfold wrap64; omega) | decide | kernel_rfl
 have hff4 : Int.tmod (6 : Int) 8 = 6 := by first | (unfold wrap64; omega) | decide | kernel_rfl
 have hff5 : IntKind.i64.wrap (1 : Int) = 1 := by first | (unfold wrap64; omega) | decide | kernel_rfl
 have hff6 : IntKind.i64.wrap (10 : Int) = 10 := by first | (unfold wrap64; omega) | decide | kernel_rfl
 have hff7 : IntKind.i64.wrap (12 : Int) = 12 := by first | (unfold wrap64; omega) | decide | kernel_rfl
 have hff8 : IntKind.i64.wrap (2 : Int) = 2 := by first | (unfold wrap64; omega) | decide | kernel_rfl
 have hff9 : IntKind.i64.wrap (5 : Int) = 5 := by first | (unfold wrap64; omega) | decide | kernel_rfl
 have hff10 : IntKind.i64.wrap (6 : Int) = 6 := by first | (unfold wrap64; omega) | decide | kernel_rfl
 have hff11 : wrap64 (1 : Int) = 1 := by first | (unfold wrap64; omega) | decide | kernel_rfl
 have hff12 : wrap64 (10 : Int) = 10 := by first | (unfold wrap64; omega) | decide | kernel_rfl
 have hff13 : wrap64 (12 : Int) = 12 := by first | (unfold wrap64; omega) | decide | kernel_rfl
 have hff14 : wrap64 (2 : Int) = 2 := by first | (unfold wrap64; omega) | decide | kernel_rfl
 have hff15 : wrap64 (5 : Int) = 5 := by first | (unfold wrap64; omega) | decide | kernel_rfl
 have hff16 : wrap64 (6 : Int) = 6 := by first | (unfold wrap64; omega) | decide | kernel_rfl
 have hu91 := Tryz.underlying91; have hu26 := Tryz.underlying26; have hu89 := Tryz.underlying89; have hu100 := Tryz.underlying100; have HR0_0 := Qa.mk hr0_0; have HC0_0 := Qa.mk hc0_0; clear hr0_0 hc0_0; have HB := Qa.mk (Below.refl w.heap.size w); have H : (Qap.l0 k (([] : List S100)) 0 l0_0 a0_1 a0_2 a0_3 a0_4 a0_5) = some (r1, r2, r3, r4, r5, r6) := h; clear h; obtain ⟨y103, hy103⟩ : ∃ y_ : List S100, y_ = (([] : List S100)) := ⟨_, rfl⟩
 replace H : (Qap.l0 k y103 0 l0_0 a0_1 a0_2 a0_3 a0_4 a0_5) = some (r1, r2, r3, r4, r5, r6) := yy hy103 H; have Ny103 := Qa.mk hy103; clear hy103; have H' := Qa.mk H; clear H; go_enter Tryz.func52, Tryz.ntmps52; go_wp2_with (first | ((with_reducible refine gd 1 ?_); (try (refine QG (by rfl) ?_; dsimp only)); refine bx 1 #[.slice A0_0 l0_0.length c0_0, .int .u8 a0_1, .int .u8 a0_2, .int .u8 a0_3, .int .u8 a0_4, .int .u8 a0_5] 91 ?_; intro gb101 hg w2 BK101 hb; have GW101 := gs HB hg; replace HB := bs HB hb; clear hb hg) | ((with_reducible refine gd 3 ?_); (try (refine QG (by rfl) ?_; dsimp only)); refine bx 3 #[.int .i64 0, .int .i64 0, .int .i64 0, .int .i64 0, .int .i64 0] 26 ?_; intro gb102 hg w3 BK102 hb; have GW102 := gs HB hg; replace HB := bs HB hb; have NB101_102 := nl BK101 hg; have NB102_101 := nr BK101 hg; replace BK101 := bb BK101 hb; clear hb hg) | ((with_reducible refine gd 10 ?_); (try (refine QG (by rfl) ?_; dsimp only)); refine rL k100 100 10 ([] : List S100) [] (Reps.none _ _) ?_; intro v104 w4 ho5 hb; replace ho5 := yR Ny103 ho5; have HO105 := rl ho5 HB; replace BK101 := bb BK101 hb; replace BK102 := bb BK102 hb; replace HB := bs HB hb; clear hb ho5))
 go_loopg [4, 5] k (fun kq v4 v5 w' => ∃ (x4_1 : List S100) (x5_1 : Int), v5 = .int .i64 x5_1 ∧ Qa (Qap.l0 kq x4_1 x5_1 l0_0 a0_1 a0_2 a0_3 a0_4 a0_5 = some (r1, r2, r3, r4, r5, r6)) ∧ Qa (kq ≤ k) ∧ Qa (Kd.R k100 100 w' w.heap.size (fun _ => True) v4 x4_1) ∧ Qa (w'.heap[gb101]? = some (.cells #[(.slice A0_0 l0_0.length c0_0), .int .u8 a0_1, .int .u8 a0_2, .int .u8 a0_3, .int .u8 a0_4, .int .u8 a0_5] 91 (0, 0))) ∧ Qa (w'.heap[gb102]? = some (.cells #[.int .i64 0, .int .i64 0, .int .i64 0, .int .i64 0, .int .i64 0] 26 (0, 0))) ∧ Qa (Below w.heap.size w w'))
 case atStart => exact ⟨(y103), (0), eS, H', ⟨Nat.le_refl _⟩, ⟨by (with_reducible repeat (first | apply Kd.R_alloc | apply Kd.R_drewN | apply Kd.R_drew)); exact HO105.out⟩, ⟨pB BK101.out⟩, ⟨pB BK102.out⟩, ⟨pE HB⟩⟩
 case round =>
  clear H'; try clear p2
  try clear c5
  obtain ⟨x4_1, x5_1, rfl, HA, HK1, HO_4, BK101, BK102, HB⟩ := hrel
  cases gk with
  | zero => exact absurd HA.out (by simp [Qap.l0])
  | succ k1 =>
   have H := HA.out; clear HA; simp only [Qap.l0] at H; have HC6 := Qa.mk H; clear H; go_upto_region 3 with (fail)
   go_cut [23] (fun v23 wc => ∃ (kq : Nat) (x23_5 : Bool), v23 = .bool x23_5 ∧ Qa (Qap.j1 kq x4_1 x5_1 x23_5 l0_0 a0_1 a0_2 a0_3 a0_4 a0_5 = some (r1, r2, r3, r4, r5, r6)) ∧ Qa (kq ≤ k1) ∧ Qa (Kd.R k100 100 wc w.heap.size (fun _ => True) u4 x4_1) ∧ Qa (wc.heap[gb101]? = some (.cells #[(.slice A0_0 l0_0.length c0_0), .int .u8 a0_1, .int .u8 a0_2, .int .u8 a0_3, .int .u8 a0_4, .int .u8 a0_5] 91 (0, 0))) ∧ Qa (wc.heap[gb102]? = some (.cells #[.int .i64 0, .int .i64 0, .int .i64 0, .int .i64 0, .int .i64 0] 26 (0, 0))) ∧ Qa (Below w.heap.size w wc))
   case first =>
    have H := HC6.out; clear HC6; by_cases c7 : x5_1 = 0
    ·rw [if_pos c7] at H
     have c7b0 : (x5_1 == 0) = true := beq_iff_eq.mpr c7; have c7b1 : (x5_1 != 0) = false := bne_eq_false_iff_eq.mpr c7; clear c7
     (first | rw [c7b0] | (simp only [QR, QU]; rw [c7b0]) | skip)
     have H' := Qa.mk H; clear H; go_wp2
     go_meet
     case rel => exact ⟨_, (true), eS, H', ⟨by have := HK1.out; first | omega | exact Nat.le_refl _⟩, ⟨by (with_reducible repeat (first | apply Kd.R_alloc | apply Kd.R_drewN | apply Kd.R_drew)); exact HO_4.out⟩, ⟨pB BK101.out⟩, ⟨pB BK102.out⟩, ⟨pE HB⟩⟩
    ·rw [if_neg c7] at H
     have c7b0 : (x5_1 == 0) = false := beq_eq_false_iff_ne.mpr c7; have c7b1 : (x5_1 != 0) = true := bne_iff_ne.mpr c7
     (first | rw [c7b0] | (simp only [QR, QU]; rw [c7b0]) | skip)
     by_cases c8 : x5_1 < (l0_0.length : Int)
     ·rw [if_pos c8] at H
      have c8b0 : decide (x5_1 < (l0_0.length : Int)) = true := decide_eq_true c8; clear c8; have H' := Qa.mk H; clear H; have hnb9 := NB101_102.out; have hnc9 := NB102_101.out; obtain ⟨hcz10_0, hcz10_1, hcz10_2, hcz10_3, hcz10_4, hcz10_5, hfz10_0, hfz10_1, hfz10_2, hfz10_3, hfz10_4, hfz10_5⟩ := cf6 BK101; go_wp2
      go_meet
      case rel => exact ⟨_, (decide (x5_1 < 4)), eS, H', ⟨by have := HK1.out; first | omega | exact Nat.le_refl _⟩, ⟨by (with_reducible repeat (first | apply Kd.R_alloc | apply Kd.R_drewN | apply Kd.R_drew)); exact HO_4.out⟩, ⟨pB BK101.out⟩, ⟨pB BK102.out⟩, ⟨pE HB⟩⟩
     ·rw [if_neg c8] at H
      have c8b0 : decide (x5_1 < (l0_0.length : Int)) = false := decide_eq_false c8; clear c8; have H' := Qa.mk H; clear H; have hnb11 := NB101_102.out; have hnc11 := NB102_101.out; obtain ⟨hcz12_0, hcz12_1, hcz12_2, hcz12_3, hcz12_4, hcz12_5, hfz12_0, hfz12_1, hfz12_2, hfz12_3, hfz12_4, hfz12_5⟩ := cf6 BK101; go_wp2
      go_meet
      case rel => exact ⟨_, (false), eS, H', ⟨by have := HK1.out; first | omega | exact Nat.le_refl _⟩, ⟨by (with_reducible repeat (first | apply Kd.R_alloc | apply Kd.R_drewN | apply Kd.R_drew)); exact HO_4.out⟩, ⟨pB BK101.out⟩, ⟨pB BK102.out⟩, ⟨pE HB⟩⟩
   case rest =>
    clear HC6; try clear c1
    try clear p2
    try clear c5
    try clear c7
    try clear c7b0
    try clear c7b1
    try clear c8
    try clear c8b0
    try clear c9
    try clear c11
    try clear hcz10_0
    try clear hcz10_1
    try clear hcz10_2
    try clear hcz10_3
    try clear hcz10_4
    try clear hcz10_5
    try clear hcz12_0
    try clear hcz12_1
    try clear hcz12_2
    try clear hcz12_3
    try clear hcz12_4
    try clear hcz12_5
    try clear hfz10_0
    try clear hfz10_1
    try clear hfz10_2
    try clear hfz10_3
    try clear hfz10_4
    try clear hfz10_5
    try clear hfz12_0
    try clear hfz12_1
    try clear hfz12_2
    try clear hfz12_3
    try clear hfz12_4
    try clear hfz12_5
    try clear p2
    obtain ⟨kq, x23_5, rfl, HA, HJ5, HO_4, BK101, BK102, HB⟩ := hcut
    cases kq with
    | zero => exact absurd HA.out (by simp [Qap.j1])
    | succ kj5 =>
     have H := HA.out; clear HA; simp only [Qap.j1] at H; by_cases c13 : x23_5 = true
     ·subst c13
      rw [if_pos rfl] at H; by_cases c14 : x5_1 < (l0_0.length : Int)
      ·rw [if_pos c14] at H
       have c14b0 : decide (x5_1 < (l0_0.length : Int)) = true := decide_eq_true c14; clear c14; by_cases c15 : 0 ≤ x5_1
       ·rw [if_pos c15] at H
        have c15b0 : decide (0 ≤ x5_1) = true := decide_eq_true c15; clear c15; obtain ⟨⟨t108, t109⟩, A16, H⟩ := bi H; by_cases c17 : x4_1.length < 3518437208883
        ·rw [if_pos c17] at H
         have LMc17 := Qa.mk c17; clear c17; obtain ⟨y110, hy110⟩ : ∃ y_ : List S100, y_ = (x4_1 ++ [(⟨(⟨t108, t109⟩ : S24), Int.tmod (wrap64 ((Qar l0_0 x5_1).f2)) 40, Int.tmod (wrap64 ((Qar l0_0 x5_1).f3)) 12, Int.tmod (wrap64 ((Qar l0_0 x5_1).f4)) 8⟩ : S100)]) := ⟨_, rfl⟩
         replace H : (Qap.l0 kj5 y110 (wrap64 (x5_1 + 1)) l0_0 a0_1 a0_2 a0_3 a0_4 a0_5) = some (r1, r2, r3, r4, r5, r6) := yy hy110 H; have Ny110 := Qa.mk hy110; clear hy110; have H' := Qa.mk H; clear H
         try go_wp2_with (first | ((with_reducible refine gd 6 ?_); (try (refine QG (by rfl) ?_; dsimp only)); refine bx 6 #[.int .u8 0, .int .u8 0, .int .u8 0, .int .u8 0, .int .u8 0] 89 ?_; intro gb106 hg w18 hbox hb; replace HO_4 := rb HO_4 hb; have BK106 := hbox; have GW106 := gs HB hg; replace HB := bs HB hb; have NB101_106 := nl BK101 hg; have NB106_101 := nr BK101 hg; replace BK101 := bb BK101 hb; have NB102_106 := nl BK102 hg; have NB106_102 := nr BK102 hg; replace BK102 := bb BK102 hb; clear hb hg; have hnb19 := NB106_101.out; have hnc19 := NB101_106.out; have hnb20 := NB106_102.out; have hnc20 := NB102_106.out; obtain ⟨_, _, _, _, _, _, _, _, _, _⟩ := cf5 BK106; have hnb22 := NB101_102.out; have hnc22 := NB102_101.out; obtain ⟨_, _, _, _, _, _, _, _, _, _, _, _⟩ := cf6 BK101; have p107 : 0 ≤ (x5_1 : Int) := dT; have q107 : x5_1 < (l0_0.length : Int) := dT; obtain ⟨ad107, e107, hx107_0, hx107_1, hx107_2, hx107_3, hx107_4⟩ := Qcx HR0_0.out x5_1 p107 q107; cases e107; have hn107_0 : ad107.block ≠ gb106 := Nat.ne_of_lt (Nat.lt_of_lt_of_le (by have := World.block_lt_of_cell? _ _ hx107_0; first | rwa [Qas] at this | exact this) GW106.out); have hn107_1 : ad107.block ≠ gb106 := Nat.ne_of_lt (Nat.lt_of_lt_of_le (by have := World.block_lt_of_cell? _ _ hx107_0; first | rwa [Qas] at this | exact this) GW106.out); have hn107_2 : ad107.block ≠ gb106 := Nat.ne_of_lt (Nat.lt_of_lt_of_le (by have := World.block_lt_of_cell? _ _ hx107_0; first | rwa [Qas] at this | exact this) GW106.out); have hn107_3 : ad107.block ≠ gb106 := Nat.ne_of_lt (Nat.lt_of_lt_of_le (by have := World.block_lt_of_cell? _ _ hx107_0; first | rwa [Qas] at this | exact this) GW106.out); have hn107_4 : ad107.block ≠ gb106 := Nat.ne_of_lt (Nat.lt_of_lt_of_le (by have := World.block_lt_of_cell? _ _ hx107_0; first | rwa [Qas] at this | exact this) GW106.out); replace hx107_0 := cut_ HB hx107_0; replace hx107_1 := cut_ HB hx107_1; replace hx107_2 := cut_ HB hx107_2; replace hx107_3 := cut_ HB hx107_3; replace hx107_4 := cut_ HB hx107_4; replace hx107_0 := (QW (p := ⟨gb106, 0, none⟩) (by first | (rw [Qas]; exact hn107_0) | (show (Addr.add _ _).block ≠ _; rw [Qas]; exact hn107_0) | exact hn107_0) (.int .u8 10)).trans hx107_0; replace hx107_1 := (QW (p := ⟨gb106, 0, none⟩) (by first | (rw [Qas]; exact hn107_0) | (show (Addr.add _ _).block ≠ _; rw [Qas]; exact hn107_0) | exact hn107_0) (.int .u8 10)).trans hx107_1; replace hx107_2 := (QW (p := ⟨gb106, 0, none⟩) (by first | (rw [Qas]; exact hn107_0) | (show (Addr.add _ _).block ≠ _; rw [Qas]; exact hn107_0) | exact hn107_0) (.int .u8 10)).trans hx107_2; replace hx107_3 := (QW (p := ⟨gb106, 0, none⟩) (by first | (rw [Qas]; exact hn107_0) | (show (Addr.add _ _).block ≠ _; rw [Qas]; exact hn107_0) | exact hn107_0) (.int .u8 10)).trans hx107_3; replace hx107_4 := (QW (p := ⟨gb106, 0, none⟩) (by first | (rw [Qas]; exact hn107_0) | (show (Addr.add _ _).block ≠ _; rw [Qas]; exact hn107_0) | exact hn107_0) (.int .u8 10)).trans hx107_4; replace hx107_0 := (QW (p := ⟨gb106, 1, none⟩) (by first | (rw [Qas]; exact hn107_1) | (show (Addr.add _ _).block ≠ _; rw [Qas]; exact hn107_1) | exact hn107_1) (.int .u8 2)).trans hx107_0; replace hx107_1 := (QW (p := ⟨gb106, 1, none⟩) (by first | (rw [Qas]; exact hn107_1) | (show (Addr.add _ _).block ≠ _; rw [Qas]; exact hn107_1) | exact hn107_1) (.int .u8 2)).trans hx107_1; replace hx107_2 := (QW (p := ⟨gb106, 1, none⟩) (by first | (rw [Qas]; exact hn107_1) | (show (Addr.add _ _).block ≠ _; rw [Qas]; exact hn107_1) | exact hn107_1) (.int .u8 2)).trans hx107_2; replace hx107_3 := (QW (p := ⟨gb106, 1, none⟩) (by first | (rw [Qas]; exact hn107_1) | (show (Addr.add _ _).block ≠ _; rw [Qas]; exact hn107_1) | exact hn107_1) (.int .u8 2)).trans hx107_3; replace hx107_4 := (QW (p := ⟨gb106, 1, none⟩) (by first | (rw [Qas]; exact hn107_1) | (show (Addr.add _ _).block ≠ _; rw [Qas]; exact hn107_1) | exact hn107_1) (.int .u8 2)).trans hx107_4; replace hx107_0 := (QW (p := ⟨gb106, 2, none⟩) (by first | (rw [Qas]; exact hn107_2) | (show (Addr.add _ _).block ≠ _; rw [Qas]; exact hn107_2) | exact hn107_2) (.int .u8 5)).trans hx107_0; replace hx107_1 := (QW (p := ⟨gb106, 2, none⟩) (by first | (rw [Qas]; exact hn107_2) | (show (Addr.add _ _).block ≠ _; rw [Qas]; exact hn107_2) | exact hn107_2) (.int .u8 5)).trans hx107_1; replace hx107_2 := (QW (p := ⟨gb106, 2, none⟩) (by first | (rw [Qas]; exact hn107_2) | (show (Addr.add _ _).block ≠ _; rw [Qas]; exact hn107_2) | exact hn107_2) (.int .u8 5)).trans hx107_2; replace hx107_3 := (QW (p := ⟨gb106, 2, none⟩) (by first | (rw [Qas]; exact hn107_2) | (show (Addr.add _ _).block ≠ _; rw [Qas]; exact hn107_2) | exact hn107_2) (.int .u8 5)).trans hx107_3; replace hx107_4 := (QW (p := ⟨gb106, 2, none⟩) (by first | (rw [Qas]; exact hn107_2) | (show (Addr.add _ _).block ≠ _; rw [Qas]; exact hn107_2) | exact hn107_2) (.int .u8 5)).trans hx107_4; replace hx107_0 := (QW (p := ⟨gb106, 3, none⟩) (by first | (rw [Qas]; exact hn107_3) | (show (Addr.add _ _).block ≠ _; rw [Qas]; exact hn107_3) | exact hn107_3) (.int .u8 1)).trans hx107_0; replace hx107_1 := (QW (p := ⟨gb106, 3, none⟩) (by first | (rw [Qas]; exact hn107_3) | (show (Addr.add _ _).block ≠ _; rw [Qas]; exact hn107_3) | exact hn107_3) (.int .u8 1)).trans hx107_1; replace hx107_2 := (QW (p := ⟨gb106, 3, none⟩) (by first | (rw [Qas]; exact hn107_3) | (show (Addr.add _ _).block ≠ _; rw [Qas]; exact hn107_3) | exact hn107_3) (.int .u8 1)).trans hx107_2; replace hx107_3 := (QW (p := ⟨gb106, 3, none⟩) (by first | (rw [Qas]; exact hn107_3) | (show (Addr.add _ _).block ≠ _; rw [Qas]; exact hn107_3) | exact hn107_3) (.int .u8 1)).trans hx107_3; replace hx107_4 := (QW (p := ⟨gb106, 3, none⟩) (by first | (rw [Qas]; exact hn107_3) | (show (Addr.add _ _).block ≠ _; rw [Qas]; exact hn107_3) | exact hn107_3) (.int .u8 1)).trans hx107_4; replace hx107_0 := (QW (p := ⟨gb106, 4, none⟩) (by first | (rw [Qas]; exact hn107_4) | (show (Addr.add _ _).block ≠ _; rw [Qas]; exact hn107_4) | exact hn107_4) (.int .u8 6)).trans hx107_0; replace hx107_1 := (QW (p := ⟨gb106, 4, none⟩) (by first | (rw [Qas]; exact hn107_4) | (show (Addr.add _ _).block ≠ _; rw [Qas]; exact hn107_4) | exact hn107_4) (.int .u8 6)).trans hx107_1; replace hx107_2 := (QW (p := ⟨gb106, 4, none⟩) (by first | (rw [Qas]; exact hn107_4) | (show (Addr.add _ _).block ≠ _; rw [Qas]; exact hn107_4) | exact hn107_4) (.int .u8 6)).trans hx107_2; replace hx107_3 := (QW (p := ⟨gb106, 4, none⟩) (by first | (rw [Qas]; exact hn107_4) | (show (Addr.add _ _).block ≠ _; rw [Qas]; exact hn107_4) | exact hn107_4) (.int .u8 6)).trans hx107_3; replace hx107_4 := (QW (p := ⟨gb106, 4, none⟩) (by first | (rw [Qas]; exact hn107_4) | (show (Addr.add _ _).block ≠ _; rw [Qas]; exact hn107_4) | exact hn107_4) (.int .u8 6)).trans hx107_4; clear hn107_0; clear hn107_1; clear hn107_2; clear hn107_3; clear hn107_4; replace p107 := eq_true p107; replace q107 := eq_true q107))
         have n0_ : Qa (Kd.R k100 100 ((((((((((w18.setCell ⟨gb106, 0, none⟩ (.int .u8 10)).setCell ⟨gb106, 1, none⟩ (.int .u8 2)).setCell ⟨gb106, 2, none⟩ (.int .u8 5)).setCell ⟨gb106, 3, none⟩ (.int .u8 1)).setCell ⟨gb106, 4, none⟩ (.int .u8 6)).setCell ⟨gb106, 0, none⟩ (.int .u8 ((Qar l0_0 x5_1).f0))).setCell ⟨gb106, 1, none⟩ (.int .u8 ((Qar l0_0 x5_1).f1))).setCell ⟨gb106, 2, none⟩ (.int .u8 ((Qar l0_0 x5_1).f2))).setCell ⟨gb106, 3, none⟩ (.int .u8 ((Qar l0_0 x5_1).f3))).setCell ⟨gb106, 4, none⟩ (.int .u8 ((Qar l0_0 x5_1).f4))) w.heap.size (fun _ => True) u4 x4_1) := ⟨by (with_reducible repeat (first | apply Kd.R_alloc | apply Kd.R_drewN | apply Kd.R_drew)); exact Kd.R_mono (Rf5 (g := gb106) (Rf5 (g := gb106) (Kd.R_types HO_4.out BK106.out (by decide)))) (fun _ hk => trivial)⟩; have n1_ : Qa (((((((((((w18.setCell ⟨gb106, 0, none⟩ (.int .u8 10)).setCell ⟨gb106, 1, none⟩ (.int .u8 2)).setCell ⟨gb106, 2, none⟩ (.int .u8 5)).setCell ⟨gb106, 3, none⟩ (.int .u8 1)).setCell ⟨gb106, 4, none⟩ (.int .u8 6)).setCell ⟨gb106, 0, none⟩ (.int .u8 ((Qar l0_0 x5_1).f0))).setCell ⟨gb106, 1, none⟩ (.int .u8 ((Qar l0_0 x5_1).f1))).setCell ⟨gb106, 2, none⟩ (.int .u8 ((Qar l0_0 x5_1).f2))).setCell ⟨gb106, 3, none⟩ (.int .u8 ((Qar l0_0 x5_1).f3))).setCell ⟨gb106, 4, none⟩ (.int .u8 ((Qar l0_0 x5_1).f4))).heap[gb101]? = some (.cells #[.slice (some ad107) l0_0.length c0_0, .int .u8 a0_1, .int .u8 a0_2, .int .u8 a0_3, .int .u8 a0_4, .int .u8 a0_5] 91 (0, 0))) := ⟨pF BK101⟩; have n2_ : Qa (((((((((((w18.setCell ⟨gb106, 0, none⟩ (.int .u8 10)).setCell ⟨gb106, 1, none⟩ (.int .u8 2)).setCell ⟨gb106, 2, none⟩ (.int .u8 5)).setCell ⟨gb106, 3, none⟩ (.int .u8 1)).setCell ⟨gb106, 4, none⟩ (.int .u8 6)).setCell ⟨gb106, 0, none⟩ (.int .u8 ((Qar l0_0 x5_1).f0))).setCell ⟨gb106, 1, none⟩ (.int .u8 ((Qar l0_0 x5_1).f1))).setCell ⟨gb106, 2, none⟩ (.int .u8 ((Qar l0_0 x5_1).f2))).setCell ⟨gb106, 3, none⟩ (.int .u8 ((Qar l0_0 x5_1).f3))).setCell ⟨gb106, 4, none⟩ (.int .u8 ((Qar l0_0 x5_1).f4))).heap[gb102]? = some (.cells #[.int .i64 0, .int .i64 0, .int .i64 0, .int .i64 0, .int .i64 0] 26 (0, 0))) := ⟨pF BK102⟩; have n3_ : Qa (((((((((((w18.setCell ⟨gb106, 0, none⟩ (.int .u8 10)).setCell ⟨gb106, 1, none⟩ (.int .u8 2)).setCell ⟨gb106, 2, none⟩ (.int .u8 5)).setCell ⟨gb106, 3, none⟩ (.int .u8 1)).setCell ⟨gb106, 4, none⟩ (.int .u8 6)).setCell ⟨gb106, 0, none⟩ (.int .u8 ((Qar l0_0 x5_1).f0))).setCell ⟨gb106, 1, none⟩ (.int .u8 ((Qar l0_0 x5_1).f1))).setCell ⟨gb106, 2, none⟩ (.int .u8 ((Qar l0_0 x5_1).f2))).setCell ⟨gb106, 3, none⟩ (.int .u8 ((Qar l0_0 x5_1).f3))).setCell ⟨gb106, 4, none⟩ (.int .u8 ((Qar l0_0 x5_1).f4))).heap[gb106]? = some (.cells #[.int .u8 ((Qar l0_0 x5_1).f0), .int .u8 ((Qar l0_0 x5_1).f1), .int .u8 ((Qar l0_0 x5_1).f2), .int .u8 ((Qar l0_0 x5_1).f3), .int .u8 ((Qar l0_0 x5_1).f4)] 89 (0, 0))) := ⟨by refine pB ?_; refine Qg (cs := #[.int .u8 ((Qar l0_0 x5_1).f0), .int .u8 ((Qar l0_0 x5_1).f1), .int .u8 ((Qar l0_0 x5_1).f2), .int .u8 ((Qar l0_0 x5_1).f3), .int .u8 6]) ?_ 4 _ rfl; refine pB ?_; refine Qg (cs := #[.int .u8 ((Qar l0_0 x5_1).f0), .int .u8 ((Qar l0_0 x5_1).f1), .int .u8 ((Qar l0_0 x5_1).f2), .int .u8 1, .int .u8 6]) ?_ 3 _ rfl; refine pB ?_; refine Qg (cs := #[.int .u8 ((Qar l0_0 x5_1).f0), .int .u8 ((Qar l0_0 x5_1).f1), .int .u8 5, .int .u8 1, .int .u8 6]) ?_ 2 _ rfl; refine pB ?_; refine Qg (cs := #[.int .u8 ((Qar l0_0 x5_1).f0), .int .u8 2, .int .u8 5, .int .u8 1, .int .u8 6]) ?_ 1 _ rfl; refine pB ?_; refine Qg (cs := #[.int .u8 10, .int .u8 2, .int .u8 5, .int .u8 1, .int .u8 6]) ?_ 0 _ rfl; refine pB ?_; refine Qg (cs := #[.int .u8 10, .int .u8 2, .int .u8 5, .int .u8 1, .int .u8 0]) ?_ 4 _ rfl; refine pB ?_; refine Qg (cs := #[.int .u8 10, .int .u8 2, .int .u8 5, .int .u8 0, .int .u8 0]) ?_ 3 _ rfl; refine pB ?_; refine Qg (cs := #[.int .u8 10, .int .u8 2, .int .u8 0, .int .u8 0, .int .u8 0]) ?_ 2 _ rfl; refine pB ?_; refine Qg (cs := #[.int .u8 10, .int .u8 0, .int .u8 0, .int .u8 0, .int .u8 0]) ?_ 1 _ rfl; refine pB ?_; refine Qg (cs := #[.int .u8 0, .int .u8 0, .int .u8 0, .int .u8 0, .int .u8 0]) ?_ 0 _ rfl; (with_reducible repeat (first | refine Qt ?_ _ | refine Qh ?_ | refine Qaq ?_ _)); exact BK106.out⟩; have n4_ : Qa (Below w.heap.size w ((((((((((w18.setCell ⟨gb106, 0, none⟩ (.int .u8 10)).setCell ⟨gb106, 1, none⟩ (.int .u8 2)).setCell ⟨gb106, 2, none⟩ (.int .u8 5)).setCell ⟨gb106, 3, none⟩ (.int .u8 1)).setCell ⟨gb106, 4, none⟩ (.int .u8 6)).setCell ⟨gb106, 0, none⟩ (.int .u8 ((Qar l0_0 x5_1).f0))).setCell ⟨gb106, 1, none⟩ (.int .u8 ((Qar l0_0 x5_1).f1))).setCell ⟨gb106, 2, none⟩ (.int .u8 ((Qar l0_0 x5_1).f2))).setCell ⟨gb106, 3, none⟩ (.int .u8 ((Qar l0_0 x5_1).f3))).setCell ⟨gb106, 4, none⟩ (.int .u8 ((Qar l0_0 x5_1).f4)))) := ⟨pE HB⟩
         (try clear HO_4)
         (try clear BK101)
         (try clear BK102)
         (try clear BK106)
         (try clear HB)
         generalize ((((((((((w18.setCell ⟨gb106, 0, none⟩ (.int .u8 10)).setCell ⟨gb106, 1, none⟩ (.int .u8 2)).setCell ⟨gb106, 2, none⟩ (.int .u8 5)).setCell ⟨gb106, 3, none⟩ (.int .u8 1)).setCell ⟨gb106, 4, none⟩ (.int .u8 6)).setCell ⟨gb106, 0, none⟩ (.int .u8 ((Qar l0_0 x5_1).f0))).setCell ⟨gb106, 1, none⟩ (.int .u8 ((Qar l0_0 x5_1).f1))).setCell ⟨gb106, 2, none⟩ (.int .u8 ((Qar l0_0 x5_1).f2))).setCell ⟨gb106, 3, none⟩ (.int .u8 ((Qar l0_0 x5_1).f3))).setCell ⟨gb106, 4, none⟩ (.int .u8 ((Qar l0_0 x5_1).f4))) = w24 at n0_ n1_ n2_ n3_ n4_ ⊢; have HO_4 := n0_; have BK101 := n1_; have BK102 := n2_; have BK106 := n3_; have HB := n4_; clear n0_ n1_ n2_ n3_ n4_; replace HO_4 := Qa.mk (Kd.R_drew HO_4.out); replace BK101 := Qa.mk (Qh BK101.out); replace BK102 := Qa.mk (Qh BK102.out); replace BK106 := Qa.mk (Qh BK106.out); replace HB := Qa.mk (QM HB.out); refine JS (n := 25) (S := fun w' => w'.cell? ⟨gb106, 0, none⟩ = some (.int .u8 ((Qar l0_0 x5_1).f0)) ∧ w'.cell? ⟨gb106, 1, none⟩ = some (.int .u8 ((Qar l0_0 x5_1).f1)) ∧ w'.cell? ⟨gb106, 2, none⟩ = some (.int .u8 ((Qar l0_0 x5_1).f2)) ∧ w'.cell? ⟨gb106, 3, none⟩ = some (.int .u8 ((Qar l0_0 x5_1).f3)) ∧ w'.cell? ⟨gb106, 4, none⟩ = some (.int .u8 ((Qar l0_0 x5_1).f4))) (ds := []) #[false, false, false, false, false, false, false, false, false, false, false, false, false, false, false, false, false, false, false, false, false, false, false, false, false] (by kernel_rfl) rfl rfl ⟨cz0 BK106, cz1 BK106, cz2 BK106, cz3 BK106, cz4 BK106⟩ (fun hHeld => ?_); refine Jk Qap.tab9 Qap.bits9 (fun HT_ HW_ => ?_); generalize w24.drew = w25 at HO_4 BK101 BK102 BK106 HB hHeld ⊢; refine pu 0 41 ?_; refine pu 1 42 ?_; refine pu 2 43 ?_; refine pu 3 44 ?_; refine pu 9 50 ?_; refine pu 13 54 ?_; refine pu 17 58 ?_; refine tk 4 45 hHeld ?_; refine pu 5 46 ?_; refine pu 6 47 ?_; refine pu 7 48 ?_; refine tk 10 51 hHeld ?_; refine pu 11 52 ?_; refine pu 12 53 ?_; refine tk 14 55 hHeld ?_; refine pu 15 56 ?_; refine pu 16 57 ?_; refine tk 18 59 hHeld ?_; refine pu 19 60 ?_; refine pu 20 61 ?_; refine on 8 (fun K hK => ?_); refine gO Tryz.func58 #[.int .i64 (Int.tmod (wrap64 ((Qar l0_0 x5_1).f0)) 40), .int .i64 (wrap64 ((Int.tmod (wrap64 ((Qar l0_0 x5_1).f0)) 40) + (Int.tmod (wrap64 ((Qar l0_0 x5_1).f1)) 9)))] ?_
         with_reducible refine (QC.calls (Int.tmod (wrap64 ((Qar l0_0 x5_1).f0)) 40) (wrap64 ((Int.tmod (wrap64 ((Qar l0_0 x5_1).f0)) 40) + (Int.tmod (wrap64 ((Qar l0_0 x5_1).f1)) 9))) t108 t109 _ A16.out).mono ?_
         rintro e w26 ⟨rfl, hb⟩; refine ⟨_, rfl, ?_⟩; replace HO_4 := rb HO_4 hb; replace BK101 := bb BK101 hb; replace BK102 := bb BK102 hb; replace BK106 := bb BK106 hb; replace HB := bs HB hb
         (try clear hb)
         (try clear hb2)
         (try clear hk)
         (try clear hi)
         refine hK.out _ _ ⟨cz0 BK106, cz1 BK106, cz2 BK106, cz3 BK106, cz4 BK106⟩ (fun hHeld => ?_); clear hK K; refine QY (a' := ?_) ?_ ?_
         rotate_left
         ·show Act.put _ (some 49) _ = _
          simp only [Act.put, List.setIfInBounds_toArray, List.set_cons_zero, List.set_cons_succ, QR, QU]; rfl
         refine pu 21 62 ?_; refine on 22 (fun K hK => ?_); refine Qcv (w1 := ?_) (v := ?_) (by rfl) rfl ?_ ?_
         rotate_left 2
         ·go_simp
          constructor
          ·rfl
          ·rfl
         refine hK.out _ _ ⟨(Qb (Qaq BK106.out _) 0).trans rfl, (Qb (Qaq BK106.out _) 1).trans rfl, (Qb (Qaq BK106.out _) 2).trans rfl, (Qb (Qaq BK106.out _) 3).trans rfl, (Qb (Qaq BK106.out _) 4).trans rfl⟩ (fun hHeld => ?_); clear hK K; refine QY (a' := ?_) ?_ ?_
         rotate_left
         ·show Act.put _ (some 63) _ = _
          simp only [Act.put, List.setIfInBounds_toArray, List.set_cons_zero, List.set_cons_succ, QR, QU]; rfl
         refine on 23 (fun K hK => ?_); refine Kd.R_append_step k100 (w0 := w) w.heap.size (by rfl) (.tmp 41) (.tmp 63) 22 100 (.agg #[(.int .i64 0), (.int .i64 0), (.int .i64 0), (.int .i64 0), (.int .i64 0)]) 40 rfl Tryz.underlying22 info100 rfl (by decide) (by omega) u4 x4_1 (⟨(⟨t108, t109⟩ : S24), Int.tmod (wrap64 ((Qar l0_0 x5_1).f2)) 40, Int.tmod (wrap64 ((Qar l0_0 x5_1).f3)) 12, Int.tmod (wrap64 ((Qar l0_0 x5_1).f4)) 8⟩ : S100) [.int .i64 t108, .int .i64 t109, .int .i64 (Int.tmod (wrap64 ((Qar l0_0 x5_1).f2)) 40), .int .i64 (Int.tmod (wrap64 ((Qar l0_0 x5_1).f3)) 12), .int .i64 (Int.tmod (wrap64 ((Qar l0_0 x5_1).f4)) 8)] (fun _ => True) (fun _ => False) rfl rfl ?aP (fun _ hk => hk.elim) ?aF ?aO ?aB ?aS ?aL ?_
         (case aP => exact ZM _ _ _ (⟨(⟨t108, t109⟩ : S24), Int.tmod (wrap64 ((Qar l0_0 x5_1).f2)) 40, Int.tmod (wrap64 ((Qar l0_0 x5_1).f3)) 12, Int.tmod (wrap64 ((Qar l0_0 x5_1).f4)) 8⟩ : S100))
         (case aB => exact (pE HB))
         (case aF => exact (fun _ _ => trivial))
         (case aO => exact (pR HO_4.out))
         (case aS => exact (Qr (pE HB)))
         (case aL => have := LMc17.out; omega)
         intro v111 w27 ho hb hg hat; rw [← Ny110.out] at ho; replace BK101 := Qa.mk (Ja (g := gb101) (o := .cells #[.slice (some ad107) l0_0.length c0_0, .int .u8 a0_1, .int .u8 a0_2, .int .u8 a0_3, .int .u8 a0_4, .int .u8 a0_5] 91 (0, 0)) (pB BK101.out) hg (Kd.R_ne HO_4.out BK101.out (by decide))); replace BK102 := Qa.mk (Ja (g := gb102) (o := .cells #[.int .i64 0, .int .i64 0, .int .i64 0, .int .i64 0, .int .i64 0] 26 (0, 0)) (pB BK102.out) hg (Kd.R_ne HO_4.out BK102.out (by decide))); replace BK106 := Qa.mk (Ja (g := gb106) (o := .cells #[.int .u8 ((Qar l0_0 x5_1).f0), .int .u8 ((Qar l0_0 x5_1).f1), .int .u8 ((Qar l0_0 x5_1).f2), .int .u8 ((Qar l0_0 x5_1).f3), .int .u8 ((Qar l0_0 x5_1).f4)] 89 (0, 0)) (pB BK106.out) hg (Kd.R_ne HO_4.out BK106.out (by decide))); replace HB := Qa.mk (hb); have HO112 := Qa.mk (ho); clear HO_4 ho hb hg hat; refine hK.out _ _ ⟨cz0 BK106, cz1 BK106, cz2 BK106, cz3 BK106, cz4 BK106⟩ (fun hHeld => ?_); clear hK K; refine QY (a' := ?_) ?_ ?_
         rotate_left
         ·show Act.put _ (some 64) _ = _
          simp only [Act.put, List.setIfInBounds_toArray, List.set_cons_zero, List.set_cons_succ, QR, QU]; rfl
         refine pu 24 4 ?_; refine JD (JM HT_.out (by kernel_rfl)) ?_
         try go_wp2
         go_roundg kj5
         case measure => have := HK1.out; have := HJ5.out; omega
         case rel => exact ⟨(y110), (wrap64 (x5_1 + 1)), eS, H', ⟨by have := HK1.out; have := HJ5.out; omega⟩, ⟨by (with_reducible repeat (first | apply Kd.R_alloc | apply Kd.R_drewN | apply Kd.R_drew)); exact HO112.out⟩, ⟨pB BK101.out⟩, ⟨pB BK102.out⟩, ⟨pE HB⟩⟩
        ·rw [if_neg c17] at H
         exact absurd H (by simp)
       ·rw [if_neg c15] at H
        exact absurd H (by simp)
      ·rw [if_neg c14] at H
       have c14b0 : decide (x5_1 < (l0_0.length : Int)) = false := decide_eq_false c14; clear c14; obtain ⟨⟨t113, t114⟩, A28, H⟩ := bi H; by_cases c29 : x4_1.length < 3518437208883
       ·rw [if_pos c29] at H
        have LMc29 := Qa.mk c29; clear c29; obtain ⟨y115, hy115⟩ : ∃ y_ : List S100, y_ = (x4_1 ++ [(⟨(⟨t113, t114⟩ : S24), 5, 1, 6⟩ : S100)]) := ⟨_, rfl⟩
        replace H : (Qap.l0 kj5 y115 (wrap64 (x5_1 + 1)) l0_0 a0_1 a0_2 a0_3 a0_4 a0_5) = some (r1, r2, r3, r4, r5, r6) := yy hy115 H; have Ny115 := Qa.mk hy115; clear hy115; have H' := Qa.mk H; clear H
        try go_wp2_with (first | ((with_reducible refine gd 6 ?_); (try (refine QG (by rfl) ?_; dsimp only)); refine bx 6 #[.int .u8 0, .int .u8 0, .int .u8 0, .int .u8 0, .int .u8 0] 89 ?_; intro gb106 hg w30 hbox hb; replace HO_4 := rb HO_4 hb; have BK106 := hbox; have GW106 := gs HB hg; replace HB := bs HB hb; have NB101_106 := nl BK101 hg; have NB106_101 := nr BK101 hg; replace BK101 := bb BK101 hb; have NB102_106 := nl BK102 hg; have NB106_102 := nr BK102 hg; replace BK102 := bb BK102 hb; clear hb hg; have hnb31 := NB106_101.out; have hnc31 := NB101_106.out; have hnb32 := NB106_102.out; have hnc32 := NB102_106.out; obtain ⟨_, _, _, _, _, _, _, _, _, _⟩ := cf5 BK106; have hnb34 := NB101_102.out; have hnc34 := NB102_101.out; obtain ⟨_, _, _, _, _, _, _, _, _, _, _, _⟩ := cf6 BK101))
        have n0_ : Qa (Kd.R k100 100 (((((w30.setCell ⟨gb106, 0, none⟩ (.int .u8 10)).setCell ⟨gb106, 1, none⟩ (.int .u8 2)).setCell ⟨gb106, 2, none⟩ (.int .u8 5)).setCell ⟨gb106, 3, none⟩ (.int .u8 1)).setCell ⟨gb106, 4, none⟩ (.int .u8 6)) w.heap.size (fun _ => True) u4 x4_1) := ⟨by (with_reducible repeat (first | apply Kd.R_alloc | apply Kd.R_drewN | apply Kd.R_drew)); exact Kd.R_mono (Rf5 (g := gb106) (Kd.R_types HO_4.out BK106.out (by decide))) (fun _ hk => trivial)⟩; have n1_ : Qa ((((((w30.setCell ⟨gb106, 0, none⟩ (.int .u8 10)).setCell ⟨gb106, 1, none⟩ (.int .u8 2)).setCell ⟨gb106, 2, none⟩ (.int .u8 5)).setCell ⟨gb106, 3, none⟩ (.int .u8 1)).setCell ⟨gb106, 4, none⟩ (.int .u8 6)).heap[gb101]? = some (.cells #[.slice A0_0 l0_0.length c0_0, .int .u8 a0_1, .int .u8 a0_2, .int .u8 a0_3, .int .u8 a0_4, .int .u8 a0_5] 91 (0, 0))) := ⟨pF BK101⟩; have n2_ : Qa ((((((w30.setCell ⟨gb106, 0, none⟩ (.int .u8 10)).setCell ⟨gb106, 1, none⟩ (.int .u8 2)).setCell ⟨gb106, 2, none⟩ (.int .u8 5)).setCell ⟨gb106, 3, none⟩ (.int .u8 1)).setCell ⟨gb106, 4, none⟩ (.int .u8 6)).heap[gb102]? = some (.cells #[.int .i64 0, .int .i64 0, .int .i64 0, .int .i64 0, .int .i64 0] 26 (0, 0))) := ⟨pF BK102⟩; have n3_ : Qa ((((((w30.setCell ⟨gb106, 0, none⟩ (.int .u8 10)).setCell ⟨gb106, 1, none⟩ (.int .u8 2)).setCell ⟨gb106, 2, none⟩ (.int .u8 5)).setCell ⟨gb106, 3, none⟩ (.int .u8 1)).setCell ⟨gb106, 4, none⟩ (.int .u8 6)).heap[gb106]? = some (.cells #[.int .u8 10, .int .u8 2, .int .u8 5, .int .u8 1, .int .u8 6] 89 (0, 0))) := ⟨by refine pB ?_; refine Qg (cs := #[.int .u8 10, .int .u8 2, .int .u8 5, .int .u8 1, .int .u8 0]) ?_ 4 _ rfl; refine pB ?_; refine Qg (cs := #[.int .u8 10, .int .u8 2, .int .u8 5, .int .u8 0, .int .u8 0]) ?_ 3 _ rfl; refine pB ?_; refine Qg (cs := #[.int .u8 10, .int .u8 2, .int .u8 0, .int .u8 0, .int .u8 0]) ?_ 2 _ rfl; refine pB ?_; refine Qg (cs := #[.int .u8 10, .int .u8 0, .int .u8 0, .int .u8 0, .int .u8 0]) ?_ 1 _ rfl; refine pB ?_; refine Qg (cs := #[.int .u8 0, .int .u8 0, .int .u8 0, .int .u8 0, .int .u8 0]) ?_ 0 _ rfl; (with_reducible repeat (first | refine Qt ?_ _ | refine Qh ?_ | refine Qaq ?_ _)); exact BK106.out⟩; have n4_ : Qa (Below w.heap.size w (((((w30.setCell ⟨gb106, 0, none⟩ (.int .u8 10)).setCell ⟨gb106, 1, none⟩ (.int .u8 2)).setCell ⟨gb106, 2, none⟩ (.int .u8 5)).setCell ⟨gb106, 3, none⟩ (.int .u8 1)).setCell ⟨gb106, 4, none⟩ (.int .u8 6))) := ⟨pE HB⟩
        (try clear HO_4)
        (try clear BK101)
        (try clear BK102)
        (try clear BK106)
        (try clear HB)
        generalize (((((w30.setCell ⟨gb106, 0, none⟩ (.int .u8 10)).setCell ⟨gb106, 1, none⟩ (.int .u8 2)).setCell ⟨gb106, 2, none⟩ (.int .u8 5)).setCell ⟨gb106, 3, none⟩ (.int .u8 1)).setCell ⟨gb106, 4, none⟩ (.int .u8 6)) = w36 at n0_ n1_ n2_ n3_ n4_ ⊢; have HO_4 := n0_; have BK101 := n1_; have BK102 := n2_; have BK106 := n3_; have HB := n4_; clear n0_ n1_ n2_ n3_ n4_; replace HO_4 := Qa.mk (Kd.R_drew HO_4.out); replace BK101 := Qa.mk (Qh BK101.out); replace BK102 := Qa.mk (Qh BK102.out); replace BK106 := Qa.mk (Qh BK106.out); replace HB := Qa.mk (QM HB.out); refine JS (n := 25) (S := fun w' => w'.cell? ⟨gb106, 0, none⟩ = some (.int .u8 10) ∧ w'.cell? ⟨gb106, 1, none⟩ = some (.int .u8 2) ∧ w'.cell? ⟨gb106, 2, none⟩ = some (.int .u8 5) ∧ w'.cell? ⟨gb106, 3, none⟩ = some (.int .u8 1) ∧ w'.cell? ⟨gb106, 4, none⟩ = some (.int .u8 6)) (ds := []) #[false, false, false, false, false, false, false, false, false, false, false, false, false, false, false, false, false, false, false, false, false, false, false, false, false] (by kernel_rfl) rfl rfl ⟨cz0 BK106, cz1 BK106, cz2 BK106, cz3 BK106, cz4 BK106⟩ (fun hHeld => ?_); refine Jk Qap.tab9 Qap.bits9 (fun HT_ HW_ => ?_); generalize w36.drew = w37 at HO_4 BK101 BK102 BK106 HB hHeld ⊢; refine pu 0 41 ?_; refine pu 1 42 ?_; refine pu 2 43 ?_; refine pu 3 44 ?_; refine pu 9 50 ?_; refine pu 13 54 ?_; refine pu 17 58 ?_; refine tk 4 45 hHeld ?_; refine pu 5 46 ?_; refine pu 6 47 ?_; refine pu 7 48 ?_; refine tk 10 51 hHeld ?_; refine pu 11 52 ?_; refine pu 12 53 ?_; refine tk 14 55 hHeld ?_; refine pu 15 56 ?_; refine pu 16 57 ?_; refine tk 18 59 hHeld ?_; refine pu 19 60 ?_; refine pu 20 61 ?_; refine on 8 (fun K hK => ?_); refine gO Tryz.func58 #[.int .i64 10, .int .i64 12] ?_
        with_reducible refine (QC.calls 10 12 t113 t114 _ A28.out).mono ?_
        rintro e w38 ⟨rfl, hb⟩; refine ⟨_, rfl, ?_⟩; replace HO_4 := rb HO_4 hb; replace BK101 := bb BK101 hb; replace BK102 := bb BK102 hb; replace BK106 := bb BK106 hb; replace HB := bs HB hb
        (try clear hb)
        (try clear hb2)
        (try clear hk)
        (try clear hi)
        refine hK.out _ _ ⟨cz0 BK106, cz1 BK106, cz2 BK106, cz3 BK106, cz4 BK106⟩ (fun hHeld => ?_); clear hK K; refine QY (a' := ?_) ?_ ?_
        rotate_left
        ·show Act.put _ (some 49) _ = _
         simp only [Act.put, List.setIfInBounds_toArray, List.set_cons_zero, List.set_cons_succ, QR, QU]; rfl
        refine pu 21 62 ?_; refine on 22 (fun K hK => ?_); refine Qcv (w1 := ?_) (v := ?_) (by rfl) rfl ?_ ?_
        rotate_left 2
        ·go_simp
         constructor
         ·rfl
         ·rfl
        refine hK.out _ _ ⟨(Qb (Qaq BK106.out _) 0).trans rfl, (Qb (Qaq BK106.out _) 1).trans rfl, (Qb (Qaq BK106.out _) 2).trans rfl, (Qb (Qaq BK106.out _) 3).trans rfl, (Qb (Qaq BK106.out _) 4).trans rfl⟩ (fun hHeld => ?_); clear hK K; refine QY (a' := ?_) ?_ ?_
        rotate_left
        ·show Act.put _ (some 63) _ = _
         simp only [Act.put, List.setIfInBounds_toArray, List.set_cons_zero, List.set_cons_succ, QR, QU]; rfl
        refine on 23 (fun K hK => ?_); refine Kd.R_append_step k100 (w0 := w) w.heap.size (by rfl) (.tmp 41) (.tmp 63) 22 100 (.agg #[(.int .i64 0), (.int .i64 0), (.int .i64 0), (.int .i64 0), (.int .i64 0)]) 40 rfl Tryz.underlying22 info100 rfl (by decide) (by omega) u4 x4_1 (⟨(⟨t113, t114⟩ : S24), 5, 1, 6⟩ : S100) [.int .i64 t113, .int .i64 t114, .int .i64 5, .int .i64 1, .int .i64 6] (fun _ => True) (fun _ => False) rfl rfl ?aP (fun _ hk => hk.elim) ?aF ?aO ?aB ?aS ?aL ?_
        (case aP => exact ZM _ _ _ (⟨(⟨t113, t114⟩ : S24), 5, 1, 6⟩ : S100))
        (case aB => exact (pE HB))
        (case aF => exact (fun _ _ => trivial))
        (case aO => exact (pR HO_4.out))
        (case aS => exact (Qr (pE HB)))
        (case aL => have := LMc29.out; omega)
        intro v116 w39 ho hb hg hat; rw [← Ny115.out] at ho; replace BK101 := Qa.mk (Ja (g := gb101) (o := .cells #[.slice A0_0 l0_0.length c0_0, .int .u8 a0_1, .int .u8 a0_2, .int .u8 a0_3, .int .u8 a0_4, .int .u8 a0_5] 91 (0, 0)) (pB BK101.out) hg (Kd.R_ne HO_4.out BK101.out (by decide))); replace BK102 := Qa.mk (Ja (g := gb102) (o := .cells #[.int .i64 0, .int .i64 0, .int .i64 0, .int .i64 0, .int .i64 0] 26 (0, 0)) (pB BK102.out) hg (Kd.R_ne HO_4.out BK102.out (by decide))); replace BK106 := Qa.mk (Ja (g := gb106) (o := .cells #[.int .u8 10, .int .u8 2, .int .u8 5, .int .u8 1, .int .u8 6] 89 (0, 0)) (pB BK106.out) hg (Kd.R_ne HO_4.out BK106.out (by decide))); replace HB := Qa.mk (hb); have HO117 := Qa.mk (ho); clear HO_4 ho hb hg hat; refine hK.out _ _ ⟨cz0 BK106, cz1 BK106, cz2 BK106, cz3 BK106, cz4 BK106⟩ (fun hHeld => ?_); clear hK K; refine QY (a' := ?_) ?_ ?_
        rotate_left
        ·show Act.put _ (some 64) _ = _
         simp only [Act.put, List.setIfInBounds_toArray, List.set_cons_zero, List.set_cons_succ, QR, QU]; rfl
        refine pu 24 4 ?_; refine JD (JM HT_.out (by kernel_rfl)) ?_
        try go_wp2
        go_roundg kj5
        case measure => have := HK1.out; have := HJ5.out; omega
        case rel => exact ⟨(y115), (wrap64 (x5_1 + 1)), eS, H', ⟨by have := HK1.out; have := HJ5.out; omega⟩, ⟨by (with_reducible repeat (first | apply Kd.R_alloc | apply Kd.R_drewN | apply Kd.R_drew)); exact HO117.out⟩, ⟨pB BK101.out⟩, ⟨pB BK102.out⟩, ⟨pE HB⟩⟩
       ·rw [if_neg c29] at H
        exact absurd H (by simp)
     ·replace c13 := Bool.eq_false_iff.mpr c13
      subst c13; rw [if_neg (show ¬ (false = true) by decide)] at H; obtain ⟨⟨t118, t119⟩, A40, H⟩ := bi H; obtain ⟨⟨t120, t121⟩, A41, H⟩ := bi H; simp only [Option.some.injEq, Prod.mk.injEq] at H; obtain ⟨rfl, rfl, rfl, rfl, rfl, rfl⟩ := H
      try go_wp2
      replace HO_4 := Qa.mk (Kd.R_drew HO_4.out); replace BK101 := Qa.mk (Qh BK101.out); replace BK102 := Qa.mk (Qh BK102.out); replace HB := Qa.mk (QM HB.out); refine JS (n := 13) (S := fun w' => w'.cell? ⟨gb101, 0, none⟩ = some (.slice A0_0 l0_0.length c0_0) ∧ w'.cell? ⟨gb101, 1, none⟩ = some (.int .u8 a0_1) ∧ w'.cell? ⟨gb101, 2, none⟩ = some (.int .u8 a0_2) ∧ w'.cell? ⟨gb101, 3, none⟩ = some (.int .u8 a0_3) ∧ w'.cell? ⟨gb101, 4, none⟩ = some (.int .u8 a0_4) ∧ w'.cell? ⟨gb101, 5, none⟩ = some (.int .u8 a0_5)) (ds := []) #[false, false, false, false, false, false, false, false, false, false, false, false, false] (by kernel_rfl) rfl rfl ⟨cz0 BK101, cz1 BK101, cz2 BK101, cz3 BK101, cz4 BK101, cz5 BK101⟩ (fun hHeld => ?_); refine Jk Qap.tab10 Qap.bits10 (fun HT_ HW_ => ?_); generalize wc.drew = w42 at HO_4 BK101 BK102 HB hHeld ⊢; refine pu 0 65 ?_; refine pu 1 66 ?_; refine pu 6 71 ?_; refine pu 7 72 ?_; refine tk 2 67 hHeld ?_; refine pu 3 68 ?_; refine pu 4 69 ?_; refine pu 5 70 ?_; refine pu 11 8 ?_; refine tk 8 73 hHeld ?_; refine pu 9 74 ?_; refine pu 10 75 ?_; refine pu 12 9 ?_; refine JD (JM HT_.out (by kernel_rfl)) ?_
      try go_wp2
      replace HO_4 := Qa.mk (Kd.R_drew HO_4.out); replace BK101 := Qa.mk (Qh BK101.out); replace BK102 := Qa.mk (Qh BK102.out); replace HB := Qa.mk (QM HB.out); refine JS (n := 26) (S := fun w' => w'.cell? ⟨gb101, 0, none⟩ = some (.slice A0_0 l0_0.length c0_0) ∧ w'.cell? ⟨gb101, 1, none⟩ = some (.int .u8 a0_1) ∧ w'.cell? ⟨gb101, 2, none⟩ = some (.int .u8 a0_2) ∧ w'.cell? ⟨gb101, 3, none⟩ = some (.int .u8 a0_3) ∧ w'.cell? ⟨gb101, 4, none⟩ = some (.int .u8 a0_4) ∧ w'.cell? ⟨gb101, 5, none⟩ = some (.int .u8 a0_5)) (ds := []) #[false, false, false, false, false, false, false, false, false, false, false, false, false, false, false, false, false, false, false, false, false, false, false, false, false, false] (by kernel_rfl) rfl rfl ⟨cz0 BK101, cz1 BK101, cz2 BK101, cz3 BK101, cz4 BK101, cz5 BK101⟩ (fun hHeld => ?_); refine Jk Qap.tab11 Qap.bits11 (fun HT_ HW_ => ?_); generalize w42.drew = w43 at HO_4 BK101 BK102 HB hHeld ⊢; refine pu 0 76 ?_; refine pu 1 77 ?_; refine pu 2 78 ?_; refine pu 3 79 ?_; refine pu 4 80 ?_; refine pu 10 86 ?_; refine pu 11 87 ?_; refine pu 12 88 ?_; refine pu 13 89 ?_; refine pu 19 95 ?_; refine pu 20 96 ?_; refine tk 5 81 hHeld ?_; refine pu 6 82 ?_; refine pu 7 83 ?_; refine pu 8 84 ?_; refine tk 14 90 hHeld ?_; refine pu 15 91 ?_; refine pu 16 92 ?_; refine pu 17 93 ?_; refine tk 21 97 hHeld ?_; refine pu 22 98 ?_; refine on 9 (fun K hK => ?_); refine gO Tryz.func58 #[.int .i64 (wrap64 (1 + (wrap64 (4 * (wrap64 (a0_1)))))), .int .i64 (wrap64 ((wrap64 (1 + (wrap64 (4 * (wrap64 (a0_1)))))) + (Int.tmod (wrap64 (a0_3)) 30)))] ?_
      with_reducible refine (QC.calls (wrap64 (1 + (wrap64 (4 * (wrap64 (a0_1)))))) (wrap64 ((wrap64 (1 + (wrap64 (4 * (wrap64 (a0_1)))))) + (Int.tmod (wrap64 (a0_3)) 30))) t118 t119 _ A40.out).mono ?_
      rintro e w44 ⟨rfl, hb⟩; refine ⟨_, rfl, ?_⟩; replace HO_4 := rb HO_4 hb; replace BK101 := bb BK101 hb; replace BK102 := bb BK102 hb; replace HB := bs HB hb
      (try clear hb)
      (try clear hb2)
      (try clear hk)
      (try clear hi)
      refine hK.out _ _ ⟨cz0 BK101, cz1 BK101, cz2 BK101, cz3 BK101, cz4 BK101, cz5 BK101⟩ (fun hHeld => ?_); clear hK K; refine QY (a' := ?_) ?_ ?_
      rotate_left
      ·show Act.put _ (some 85) _ = _
       simp only [Act.put, List.setIfInBounds_toArray, List.set_cons_zero, List.set_cons_succ, QR, QU]; rfl
      refine on 18 (fun K hK => ?_); refine gO Tryz.func58 #[.int .i64 (Int.tmod (wrap64 (a0_2)) 200), .int .i64 (wrap64 ((Int.tmod (wrap64 (a0_2)) 200) + (Int.tmod (wrap64 (a0_4)) 20)))] ?_
      with_reducible refine (QC.calls (Int.tmod (wrap64 (a0_2)) 200) (wrap64 ((Int.tmod (wrap64 (a0_2)) 200) + (Int.tmod (wrap64 (a0_4)) 20))) t120 t121 _ A41.out).mono ?_
      rintro e w45 ⟨rfl, hb⟩; refine ⟨_, rfl, ?_⟩; replace HO_4 := rb HO_4 hb; replace BK101 := bb BK101 hb; replace BK102 := bb BK102 hb; replace HB := bs HB hb
      (try clear hb)
      (try clear hb2)
      (try clear hk)
      (try clear hi)
      refine hK.out _ _ ⟨cz0 BK101, cz1 BK101, cz2 BK101, cz3 BK101, cz4 BK101, cz5 BK101⟩ (fun hHeld => ?_); clear hK K; refine QY (a' := ?_) ?_ ?_
      rotate_left
      ·show Act.put _ (some 94) _ = _
       simp only [Act.put, List.setIfInBounds_toArray, List.set_cons_zero, List.set_cons_succ, QR, QU]; rfl
      refine pu 23 99 ?_; refine pu 24 2 ?_; refine on 25 (fun K hK => ?_); have hs46 : w45.cell? ⟨gb102, 0, none⟩ = some (.int .i64 0) := (Qb BK102.out 0).trans rfl; have hfs46 := Qq BK102.out 0; have hns46_0 := NB101_102.out; have hms46_0 := NB102_101.out; have hs47 : w45.cell? ⟨gb102, 1, none⟩ = some (.int .i64 0) := (Qb BK102.out 1).trans rfl; have hfs47 := Qq BK102.out 1; have hns47_0 := NB101_102.out; have hms47_0 := NB102_101.out; have hs48 : w45.cell? ⟨gb102, 2, none⟩ = some (.int .i64 0) := (Qb BK102.out 2).trans rfl; have hfs48 := Qq BK102.out 2; have hns48_0 := NB101_102.out; have hms48_0 := NB102_101.out; have hs49 : w45.cell? ⟨gb102, 3, none⟩ = some (.int .i64 0) := (Qb BK102.out 3).trans rfl; have hfs49 := Qq BK102.out 3; have hns49_0 := NB101_102.out; have hms49_0 := NB102_101.out; have hs50 : w45.cell? ⟨gb102, 4, none⟩ = some (.int .i64 0) := (Qb BK102.out 4).trans rfl; have hfs50 := Qq BK102.out 4; have hns50_0 := NB101_102.out; have hms50_0 := NB102_101.out; refine Z7 (w1 := ?_) (by rfl) rfl ?_ ?_
      rotate_left
      ·go_simp
       rfl
      refine hK.out _ _ ⟨((QW (p := ⟨gb102, _, none⟩) NB101_102.out _).trans (((QW (p := ⟨gb102, _, none⟩) NB101_102.out _).trans (((QW (p := ⟨gb102, _, none⟩) NB101_102.out _).trans (((QW (p := ⟨gb102, _, none⟩) NB101_102.out _).trans (((QW (p := ⟨gb102, _, none⟩) NB101_102.out _).trans (hHeld.1)))))))))), ((QW (p := ⟨gb102, _, none⟩) NB101_102.out _).trans (((QW (p := ⟨gb102, _, none⟩) NB101_102.out _).trans (((QW (p := ⟨gb102, _, none⟩) NB101_102.out _).trans (((QW (p := ⟨gb102, _, none⟩) NB101_102.out _).trans (((QW (p := ⟨gb102, _, none⟩) NB101_102.out _).trans (hHeld.2.1)))))))))), ((QW (p := ⟨gb102, _, none⟩) NB101_102.out _).trans (((QW (p := ⟨gb102, _, none⟩) NB101_102.out _).trans (((QW (p := ⟨gb102, _, none⟩) NB101_102.out _).trans (((QW (p := ⟨gb102, _, none⟩) NB101_102.out _).trans (((QW (p := ⟨gb102, _, none⟩) NB101_102.out _).trans (hHeld.2.2.1)))))))))), ((QW (p := ⟨gb102, _, none⟩) NB101_102.out _).trans (((QW (p := ⟨gb102, _, none⟩) NB101_102.out _).trans (((QW (p := ⟨gb102, _, none⟩) NB101_102.out _).trans (((QW (p := ⟨gb102, _, none⟩) NB101_102.out _).trans (((QW (p := ⟨gb102, _, none⟩) NB101_102.out _).trans (hHeld.2.2.2.1)))))))))), ((QW (p := ⟨gb102, _, none⟩) NB101_102.out _).trans (((QW (p := ⟨gb102, _, none⟩) NB101_102.out _).trans (((QW (p := ⟨gb102, _, none⟩) NB101_102.out _).trans (((QW (p := ⟨gb102, _, none⟩) NB101_102.out _).trans (((QW (p := ⟨gb102, _, none⟩) NB101_102.out _).trans (hHeld.2.2.2.2.1)))))))))), ((QW (p := ⟨gb102, _, none⟩) NB101_102.out _).trans (((QW (p := ⟨gb102, _, none⟩) NB101_102.out _).trans (((QW (p := ⟨gb102, _, none⟩) NB101_102.out _).trans (((QW (p := ⟨gb102, _, none⟩) NB101_102.out _).trans (((QW (p := ⟨gb102, _, none⟩) NB101_102.out _).trans (hHeld.2.2.2.2.2))))))))))⟩ (fun hHeld => ?_); clear hK K; refine JD (JM HT_.out (by kernel_rfl)) ?_
      try go_wp2
      refine bodyPost_ret (Qce rfl _ _ gb102 26 #[.int .i64 t118, .int .i64 t119, .int .i64 t120, .int .i64 t121, .int .i64 (wrap64 (a0_5))] (0, 0) _ rfl (by refine pB ?_; refine Qg (cs := #[.int .i64 t118, .int .i64 t119, .int .i64 t120, .int .i64 t121, .int .i64 0]) ?_ 4 _ rfl; refine pB ?_; refine Qg (cs := #[.int .i64 t118, .int .i64 t119, .int .i64 t120, .int .i64 0, .int .i64 0]) ?_ 3 _ rfl; refine pB ?_; refine Qg (cs := #[.int .i64 t118, .int .i64 t119, .int .i64 0, .int .i64 0, .int .i64 0]) ?_ 2 _ rfl; refine pB ?_; refine Qg (cs := #[.int .i64 t118, .int .i64 0, .int .i64 0, .int .i64 0, .int .i64 0]) ?_ 1 _ rfl; refine pB ?_; refine Qg (cs := #[.int .i64 0, .int .i64 0, .int .i64 0, .int .i64 0, .int .i64 0]) ?_ 0 _ rfl; (with_reducible repeat (first | refine Qt ?_ _ | refine Qh ?_ | refine Qaq ?_ _)); exact BK102.out) Tryz.underlying26 rfl (by kernel_rfl)) rfl ?_; exact ⟨_, eT, by (with_reducible repeat (first | apply Kd.R_alloc | apply Kd.R_drewN | apply Kd.R_drew)); exact Kd.R_mono (Rf5 (g := gb102) (Kd.R_types HO_4.out BK102.out (by decide))) (fun _ hk => trivial), pE HB⟩
end Go.Proofs.YtjaapkkpmegkfaaGreat.P
