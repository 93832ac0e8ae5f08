/- Part 3 of what the law's proof needs beyond its base: words, walks of functions and plain facts. -/
import Derived.Below
import Derived.Deep.Draws
import Derived.Deep.AppendLies
import Derived.Maps.AppendAt
import Derived.OwnWalk
import Derived.Laws.BytesArg
import Derived.Laws.MakeOwn
import Derived.Laws.OwnMore
import Derived.Deep.OwnRows
import Derived.Tactics
import Derived.Lib.ConvBytes
import Derived.Laws.Slices
import Derived.WalkKit
import Derived.KernelRfl
import Derived.RowKit3
import Derived.Deep.LoopGhost
import Derived.Deep.QuietTactic
import Derived.BigQuiet
import Derived.WideLaws
import Derived.Deep.DeepCutAuto
import Derived.Deep.CutBlock
import Derived.Deep.RegionHeld3
import Derived.Laws.Rows
import Derived.Lib.AppendStr
import Derived.ArgAppend
import Derived.Laws.IdiomCopy
import Derived.RowKit
import Derived.OrdersHeld
import Derived.Laws.BitsLemmas
import Derived.Deep.Slices
import Derived.OpenShut
import Derived.ChangeArms
import Derived.Test.YtjaapkkpmegkfaaGreatR01
import Derived.Test.YtjaapkkpmegkfaaGreatR02
import Derived.Test.YtjaapkkpmegkfaaGreatR03
import Derived.Test.YtjaapkkpmegkfaaGreatR04
import Derived.Test.YtjaapkkpmegkfaaGreatR05
import Derived.Test.YtjaapkkpmegkfaaGreatR06
import Derived.Test.YtjaapkkpmegkfaaGreatR07
import Derived.Test.YtjaapkkpmegkfaaGreatR08
import Derived.Test.YtjaapkkpmegkfaaGreatR09
import Derived.Test.YtjaapkkpmegkfaaGreatR10
import Derived.Test.YtjaapkkpmegkfaaGreatR11
import Derived.Test.YtjaapkkpmegkfaaGreatR12
import Derived.Test.YtjaapkkpmegkfaaGreatR13
import Derived.Test.YtjaapkkpmegkfaaGreatE01
import Derived.Test.YtjaapkkpmegkfaaGreatE02
set_option linter.unusedVariables false
set_option linter.unusedSimpArgs false
namespace Go.Proofs.YtjaapkkpmegkfaaGreat.P
open Go.RowKit Go.Proofs.YtjaapkkpmegkfaaGreatW.PrintWords Go.Proofs.YtjaapkkpmegkfaaGreatW.PrintLast Go.Proofs.YtjaapkkpmegkfaaGreatW.PrintMore
attribute [local go_sem] JG JH JY JX Jv Ju JJ JK
mutual
def Qao.l0 : Nat → List S89 → List Int → List S68 → List S68 → List Int → Int → Option Bool
 | 0, _, _, _, _, _, _ => none
 | k + 1, x0, x1, x5, x6, x7, x8 => if x8 < (x0.length : Int) then (Qao.j1 k x0 x1 x5 x6 x7 x8 (decide (x8 < 12))) else (Qao.j1 k x0 x1 x5 x6 x7 x8 false)
def Qao.j1 : Nat → List S89 → List Int → List S68 → List S68 → List Int → Int → Bool → Option Bool
 | 0, _, _, _, _, _, _, _ => none
 | k + 1, x0, x1, x5, x6, x7, x8, x31 => if x31 = true then (if 0 ≤ x8 then (if x8 < (x0.length : Int) then ((QC.f (wrap64 ((Qap x0 x8).f3)) (wrap64 ((wrap64 ((Qap x0 x8).f3)) + (Int.tmod (wrap64 ((Qap x0 x8).f4)) 30)))).bind fun bt112 => ((Qau.f x1 (wrap64 (2 * x8))).bind fun t115 => ((Qat.f bt112.1 bt112.2 t115).bind fun t116 => ((QC.f (wrap64 (-(Int.tmod (wrap64 ((Qap x0 x8).f2)) 20))) (Int.tmod (wrap64 ((Qap x0 x8).f2)) 20)).bind fun bt117 => ((Qau.f x1 (wrap64 ((wrap64 (2 * x8)) + 1))).bind fun t119 => ((Qat.f bt117.1 bt117.2 t119).bind fun t120 => (if x7.length < 17592186044416 then (if x5.length < 3518437208883 then ((QC.f t116 t116).bind fun bt127 => (if x6.length < 3518437208883 then (Qao.l0 k x0 x1 (x5 ++ [(⟨wrap64 (1 + (Int.tmod (wrap64 ((Qap x0 x8).f0)) 60)), mx 0 (wrap64 ((wrap64 ((wrap64 ((wrap64 (16 * (wrap64 (1 + (Int.tmod (wrap64 ((Qap x0 x8).f0)) 60))))) + (wrap64 ((Qap x0 x8).f3)))) + (Int.tmod (wrap64 ((Qap x0 x8).f1)) 64))) - 32)), Int.tmod (wrap64 ((Qap x0 x8).f2)) 20, (⟨bt112.1, bt112.2⟩ : S24)⟩ : S68)]) (x6 ++ [(⟨wrap64 (1 + (Int.tmod (wrap64 ((Qap x0 x8).f0)) 60)), mx 0 (wrap64 ((wrap64 ((wrap64 ((wrap64 (16 * (wrap64 (1 + (Int.tmod (wrap64 ((Qap x0 x8).f0)) 60))))) + (wrap64 ((Qap x0 x8).f3)))) + (Int.tmod (wrap64 ((Qap x0 x8).f1)) 64))) - 32)), Int.tmod (wrap64 ((Qap x0 x8).f2)) 20, (⟨bt127.1, bt127.2⟩ : S24)⟩ : S68)]) (x7 ++ [wrap64 ((wrap64 ((mx 0 (wrap64 ((wrap64 ((wrap64 ((wrap64 (16 * (wrap64 (1 + (Int.tmod (wrap64 ((Qap x0 x8).f0)) 60))))) + (wrap64 ((Qap x0 x8).f3)))) + (Int.tmod (wrap64 ((Qap x0 x8).f1)) 64))) - 32))) + t120)) - t116)]) (wrap64 (x8 + 1))) else (none))) else (none)) else (none)))))))) else (none)) else (none)) else ((some (([] : List S68) : List S68)).bind fun y132 => (if y132.length + x5.length < 3518437208883 then ((QN.f k (y132 ++ x5)).bind fun bt138 => ((some (([] : List S68) : List S68)).bind fun y145 => (if y145.length + x6.length < 3518437208883 then ((QN.f k (y145 ++ x6)).bind fun bt151 => (if bt138.2.2 = 0 then (if bt151.2.2 = 0 then ((Qar.f k bt138.1 bt138.2.1).bind fun t158 => (if t158 = true then ((Qar.f k bt138.1 bt151.1).bind fun t159 => (if t159 = true then ((Qar.f k bt151.1 bt151.2.1).bind fun t160 => (if t160 = true then ((Qar.f k bt151.2.1 bt138.2.1).bind fun t161 => (Qao.j2 k x5 x7 bt138.1 bt138.2.1 (!t161))) else (Qao.j2 k x5 x7 bt138.1 bt138.2.1 true))) else (Qao.j2 k x5 x7 bt138.1 bt138.2.1 true))) else (Qao.j2 k x5 x7 bt138.1 bt138.2.1 true))) else (Qao.j2 k x5 x7 bt138.1 bt138.2.1 true)) else (Qao.j2 k x5 x7 bt138.1 bt138.2.1 true))) else (none)))) else (none)))
def Qao.j2 : Nat → List S68 → List Int → List Int → List Int → Bool → Option Bool
 | 0, _, _, _, _, _ => none
 | k + 1, x5, x7, x12, x13, x159 => if x159 = true then (some false) else (Qao.l1 k x5 x7 x12 x13 0)
def Qao.l1 : Nat → List S68 → List Int → List Int → List Int → Int → Option Bool
 | 0, _, _, _, _, _ => none
 | k + 1, x5, x7, x12, x13, x18 => if x18 < (x5.length : Int) then (if 0 ≤ x18 then (if x18 < (x7.length : Int) then ((Qas.f k x12 x18).bind fun t164 => (if t164 = true then (if ((rd x7 x18) < (wrap64 (16 * ((Qu x5 x18).f0)))) then (if (rd x7 x18) < (wrap64 (16 * ((Qu x5 x18).f0))) then ((Qas.f k x13 x18).bind fun t165 => (if t165 = true then (Qao.l1 k x5 x7 x12 x13 (wrap64 (x18 + 1))) else (some false))) else (Qao.l1 k x5 x7 x12 x13 (wrap64 (x18 + 1)))) else (some false)) else (if (rd x7 x18) < (wrap64 (16 * ((Qu x5 x18).f0))) then ((Qas.f k x13 x18).bind fun t166 => (if t166 = true then (Qao.l1 k x5 x7 x12 x13 (wrap64 (x18 + 1))) else (some false))) else (Qao.l1 k x5 x7 x12 x13 (wrap64 (x18 + 1)))))) else (none)) else (none)) else (Qao.l2 k x5 x13 0)
def Qao.l2 : Nat → List S68 → List Int → Int → Option Bool
 | 0, _, _, _ => none
 | k + 1, x5, x13, x20 => if x20 < (x13.length : Int) then (if 0 ≤ x20 then (if (rd x13 x20) < 0 then (some false) else (if (rd x13 x20) ≥ (x5.length : Int) then (some false) else (if x20 > 0 then (if 0 ≤ (wrap64 (x20 - 1)) then (if (wrap64 (x20 - 1)) < (x13.length : Int) then (if (rd x13 x20) ≤ (rd x13 (wrap64 (x20 - 1))) then (some false) else (Qao.l2 k x5 x13 (wrap64 (x20 + 1)))) else (none)) else (none)) else (Qao.l2 k x5 x13 (wrap64 (x20 + 1)))))) else (none)) else ((Qd.f k).bind fun t171 => (some t171))
end
def Qao.f (k : Nat) (l0 : List S89) (l1 : List Int) : Option Bool := Qao.l0 k l0 l1 (([] : List S68)) (([] : List S68)) (([] : List Int)) 0
theorem Qao.dead_j2 : ∀ k y0 y1 y2 y3 r, Qao.j2 k y0 y1 y2 y3 true = some r → r = true → False := by
 intro k y0 y1 y2 y3 r h hr
 cases k with
 | zero => simp [Qao.j2] at h
 | succ k => exact absurd ((Option.some.inj (show (some false : Option Bool) = some r from h)).trans hr) (by simp)
def Qao.T6 : Bool × List (List Nat × List Nat) := (true, [([], []), ([0], [0]), ([1], [1]), ([2], [2]), ([3], [3]), ([], []), ([5], [5]), ([6], [6]), ([7], [7]), ([], []), ([9], [9]), ([10], [10]), ([], []), ([12], [12]), ([13], [13]), ([], []), ([15], [15]), ([16], [16]), ([17], [17]), ([14, 18], [14, 18]), ([11, 19], [11, 19]), ([4, 8, 20], [4, 8, 20]), ([], []), ([22, 21, 20, 0, 1, 2, 3, 4, 5, 6, 7, 8, 9, 10, 11, 12, 13, 14, 15, 16, 17, 18, 19, 20, 21, 22], [21, 22])])
def Qao.B6 : List Nat := [0, 1, 3, 7, 15, 0, 32, 96, 224, 0, 512, 1536, 0, 4096, 12288, 0, 32768, 98304, 229376, 520192, 1048064, 2097151, 0, 8388607]
theorem Qao.tab6 : rtab .any (ZG Tryz.f13 6) = Qao.T6 := by kernel_rfl
theorem Qao.bits6 : J0 Qao.T6.2 Qao.B6 = true := by kernel_rfl
def Qao.T8 : Bool × List (List Nat × List Nat) := (true, [([], []), ([0], [0]), ([], []), ([], []), ([3], [3]), ([2, 4], [2, 4]), ([1, 5, 5], [1, 5]), ([6, 6, 0, 1, 2, 3, 4, 5, 6], [6])])
def Qao.B8 : List Nat := [0, 1, 0, 0, 8, 28, 63, 127]
theorem Qao.tab8 : rtab .any (ZG Tryz.f13 8) = Qao.T8 := by kernel_rfl
theorem Qao.bits8 : J0 Qao.T8.2 Qao.B8 = true := by kernel_rfl
def Qao.T9 : Bool × List (List Nat × List Nat) := (true, [([], []), ([], []), ([1], [1]), ([], []), ([3], [3]), ([4], [4]), ([], []), ([6], [6]), ([5, 7], [5, 7]), ([], []), ([], []), ([10], [10]), ([11], [11]), ([9, 12, 8], [9, 12]), ([8, 13, 13], [8, 13]), ([2, 14], [2, 14]), ([], []), ([15, 16], [15, 16]), ([17], [17]), ([0, 18, 14], [0, 18]), ([19, 19, 0, 1, 2, 3, 4, 5, 6, 7, 8, 9, 10, 11, 12, 13, 14, 15, 16, 17, 18, 19], [0, 19])])
def Qao.B9 : List Nat := [0, 0, 2, 0, 8, 24, 0, 64, 248, 0, 0, 1024, 3072, 8184, 16376, 32766, 0, 131070, 262142, 524287, 1048575]
theorem Qao.tab9 : rtab .any (ZG Tryz.f13 9) = Qao.T9 := by kernel_rfl
theorem Qao.bits9 : J0 Qao.T9.2 Qao.B9 = true := by kernel_rfl
def Qao.T20 : Bool × List (List Nat × List Nat) := (true, [([], []), ([], []), ([0, 1], [0, 1]), ([2], [2]), ([], []), ([], []), ([4, 5], [4, 5]), ([6], [6]), ([7], [7]), ([8], [8]), ([3, 9], [3, 9]), ([10, 0, 1, 2, 3, 4, 5, 6, 7, 8, 9, 10], [10])])
def Qao.B20 : List Nat := [0, 0, 3, 7, 0, 0, 48, 112, 240, 496, 1023, 2047]
theorem Qao.tab20 : rtab .any (ZG Tryz.f13 20) = Qao.T20 := by kernel_rfl
theorem Qao.bits20 : J0 Qao.T20.2 Qao.B20 = true := by kernel_rfl
def Qao.T26 : Bool × List (List Nat × List Nat) := (true, [([], []), ([], []), ([0, 1], [0, 1]), ([2], [2]), ([3], [3]), ([4], [4]), ([5], [5]), ([5], [5]), ([6, 7, 5], [5, 6, 7]), ([8, 5], [5, 8]), ([5], [5]), ([10, 5], [5, 10]), ([9, 11, 5], [5, 9, 11]), ([5, 12], [5, 12]), ([13, 5], [13]), ([14], [14]), ([15, 14], [14, 15]), ([16, 14, 14], [14, 16]), ([17], [17]), ([17], [17]), ([18, 19, 17], [17, 18, 19]), ([20, 17], [17, 20]), ([17], [17]), ([17], [17]), ([23, 17], [17, 23]), ([22, 24, 17], [17, 22, 24]), ([25, 17], [17, 25]), ([21, 26, 17], [17, 21, 26]), ([17, 27, 14], [14, 17, 27]), ([14, 28], [14, 28])])
def Qao.B26 : List Nat := [0, 0, 3, 7, 15, 31, 63, 63, 255, 511, 63, 1087, 4095, 8191, 16383, 32767, 65535, 131071, 262143, 262143, 1048575, 2097151, 262143, 262143, 8650751, 29622271, 63176703, 134217727, 268435455, 536870911]
theorem Qao.tab26 : rtab .any (ZG Tryz.f13 26) = Qao.T26 := by kernel_rfl
theorem Qao.bits26 : J0 Qao.T26.2 Qao.B26 = true := by kernel_rfl
set_option maxHeartbeats 8000000 in
set_option maxRecDepth 100000 in
theorem Qao.calls_true (k : Nat) (A0 : Option Addr) (c0 : Nat) (l0 : List S89) (A1 : Option Addr) (c1 : Nat) (l1 : List Int) (r : Bool) (w : World) (hr0 : Kd.C k89 w A0 l0.length l0) (hc0 : l0.length ≤ c0) (hr1 : Kd.C (Kd.int .u8) w A1 l1.length l1) (hc1 : l1.length ≤ c1) (hrt : r = true) (h : Qao.f k l0 l1 = some r) :
  Calls Tryz.prog 13 #[.slice A0 l0.length c0, .slice A1 l1.length c1] w fun e w' => e = .returned (.bool r) ∧ Below w.heap.size w w' := by
 have hu89 := Tryz.underlying89; have hu68 := Tryz.underlying68; have hu24 := Tryz.underlying24; have HRT := Qa.mk hrt; clear hrt; have HR0 := Qa.mk hr0; have HC0 := Qa.mk hc0; clear hr0 hc0; have HR1 := Qa.mk hr1; have HC1 := Qa.mk hc1; clear hr1 hc1; have HB := Qa.mk (Below.refl w.heap.size w); have H : (Qao.l0 k l0 l1 (([] : List S68)) (([] : List S68)) (([] : List Int)) 0) = some r := h; clear h; obtain ⟨y101, hy101⟩ : ∃ y_ : List S68, y_ = (([] : List S68)) := ⟨_, rfl⟩
 replace H : (Qao.l0 k l0 l1 y101 (([] : List S68)) (([] : List Int)) 0) = some r := yy hy101 H; have Ny101 := Qa.mk hy101; clear hy101; obtain ⟨y104, hy104⟩ : ∃ y_ : List S68, y_ = (([] : List S68)) := ⟨_, rfl⟩
 replace H : (Qao.l0 k l0 l1 y101 y104 (([] : List Int)) 0) = some r := yy hy104 H; have Ny104 := Qa.mk hy104; clear hy104; obtain ⟨y107, hy107⟩ : ∃ y_ : List Int, y_ = (([] : List Int)) := ⟨_, rfl⟩
 replace H : (Qao.l0 k l0 l1 y101 y104 y107 0) = some r := yy hy107 H; have Ny107 := Qa.mk hy107; clear hy107; have H' := Qa.mk H; clear H; go_enter Tryz.func13, Tryz.ntmps13; go_wp2_with (first | ((with_reducible refine gd 21 ?_); (try (refine QG (by rfl) ?_; dsimp only)); refine rL k68 68 21 ([] : List S68) [] (Reps.none _ _) ?_; intro v102 w3 ho4 hb; replace ho4 := yR Ny101 ho4; have HO103 := rl ho4 HB; replace HB := bs HB hb; clear hb ho4) | ((with_reducible refine gd 22 ?_); (try (refine QG (by rfl) ?_; dsimp only)); refine rL k68 68 22 ([] : List S68) [] (Reps.none _ _) ?_; intro v105 w5 ho6 hb; replace ho6 := yR Ny104 ho6; have HO106 := Qa.mk (Kd.R_lower (Kd.R_new' ho6 (Kd.R_lt (pR HO103.out))) (Qr (pE HB))); replace HO103 := re HO103 ho6 hb; replace HB := bs HB hb; clear hb ho6) | ((with_reducible refine gd 23 ?_); (try (refine QG (by rfl) ?_; dsimp only)); refine rL (Kd.int .i64) 3 23 ([] : List Int) [] (Reps.none _ _) ?_; intro v108 w7 ho8 hb; replace ho8 := yR Ny107 ho8; replace HO103 := rb HO103 hb; replace HO106 := rb HO106 hb; have HO109 := rl ho8 HB; replace HB := bs HB hb; clear hb ho8))
 go_loopg [5, 6, 7, 8] k (fun kq v5 v6 v7 v8 w' => ∃ (x5_1 : List S68) (x6_1 : List S68) (x7_1 : List Int) (x8_1 : Int), v8 = .int .i64 x8_1 ∧ Qa (Qao.l0 kq l0 l1 x5_1 x6_1 x7_1 x8_1 = some r) ∧ Qa (kq ≤ k) ∧ Qa (Kd.R k68 68 w' w.heap.size (fun k_ => some k_ ≠ (v6 : Value).ownBlock) v5 x5_1) ∧ Qa (Kd.R k68 68 w' w.heap.size (fun k_ => some k_ ≠ (v5 : Value).ownBlock) v6 x6_1) ∧ Qa (Kd.R (Kd.int .i64) 3 w' w.heap.size (fun _ => True) v7 x7_1) ∧ Qa (Below w.heap.size w w'))
 case atStart => exact ⟨(y101), (y104), (y107), (0), eS, H', ⟨Nat.le_refl _⟩, ⟨by (with_reducible repeat (first | apply Kd.R_alloc | apply Kd.R_drewN | apply Kd.R_drew)); exact Kd.R_mono HO103.out (fun _ hk => hk.2)⟩, ⟨by (with_reducible repeat (first | apply Kd.R_alloc | apply Kd.R_drewN | apply Kd.R_drew)); exact Kd.R_mono HO106.out (fun _ hk => hk.2)⟩, ⟨by (with_reducible repeat (first | apply Kd.R_alloc | apply Kd.R_drewN | apply Kd.R_drew)); exact HO109.out⟩, ⟨pE HB⟩⟩
 case round =>
  clear H'; try clear c1
  try clear p2
  obtain ⟨x5_1, x6_1, x7_1, x8_1, rfl, HA, HK1, HO_5, HO_6, HO_7, HB⟩ := hrel
  cases gk with
  | zero => exact absurd HA.out (by simp [Qao.l0])
  | succ k1 =>
   have H := HA.out; clear HA; simp only [Qao.l0] at H; have HC9 := Qa.mk H; clear H; go_upto_region 3 with (fail)
   go_cut [31] (fun v31 wc => ∃ (kq : Nat) (x31_8 : Bool), v31 = .bool x31_8 ∧ Qa (Qao.j1 kq l0 l1 x5_1 x6_1 x7_1 x8_1 x31_8 = some r) ∧ Qa (kq ≤ k1) ∧ Qa (Kd.R k68 68 wc w.heap.size (fun k_ => some k_ ≠ (u6 : Value).ownBlock) u5 x5_1) ∧ Qa (Kd.R k68 68 wc w.heap.size (fun k_ => some k_ ≠ (u5 : Value).ownBlock) u6 x6_1) ∧ Qa (Kd.R (Kd.int .i64) 3 wc w.heap.size (fun _ => True) u7 x7_1) ∧ Qa (Below w.heap.size w wc))
   case first =>
    have H := HC9.out; clear HC9; by_cases c10 : x8_1 < (l0.length : Int)
    ·
     rw [if_pos c10] at H; have c10b0 : decide (x8_1 < (l0.length : Int)) = true := decide_eq_true c10; clear c10
     (first | rw [c10b0] | (simp only [QR, QU]; rw [c10b0]) | skip)
     have H' := Qa.mk H; clear H; go_wp2
     go_meet
     case rel => exact ⟨_, (decide (x8_1 < 12)), eS, H', ⟨by have := HK1.out; first | omega | exact Nat.le_refl _⟩, ⟨by (with_reducible repeat (first | apply Kd.R_alloc | apply Kd.R_drewN | apply Kd.R_drew)); exact HO_5.out⟩, ⟨by (with_reducible repeat (first | apply Kd.R_alloc | apply Kd.R_drewN | apply Kd.R_drew)); exact HO_6.out⟩, ⟨by (with_reducible repeat (first | apply Kd.R_alloc | apply Kd.R_drewN | apply Kd.R_drew)); exact HO_7.out⟩, ⟨pE HB⟩⟩
    ·
     rw [if_neg c10] at H; have c10b0 : decide (x8_1 < (l0.length : Int)) = false := decide_eq_false c10; clear c10
     (first | rw [c10b0] | (simp only [QR, QU]; rw [c10b0]) | skip)
     have H' := Qa.mk H; clear H; go_wp2
     go_meet
     case rel => exact ⟨_, (false), eS, H', ⟨by have := HK1.out; first | omega | exact Nat.le_refl _⟩, ⟨by (with_reducible repeat (first | apply Kd.R_alloc | apply Kd.R_drewN | apply Kd.R_drew)); exact HO_5.out⟩, ⟨by (with_reducible repeat (first | apply Kd.R_alloc | apply Kd.R_drewN | apply Kd.R_drew)); exact HO_6.out⟩, ⟨by (with_reducible repeat (first | apply Kd.R_alloc | apply Kd.R_drewN | apply Kd.R_drew)); exact HO_7.out⟩, ⟨pE HB⟩⟩
   case rest =>
    clear HC9; try clear c1
    try clear p2
    try clear c10
    try clear c10b0
    try clear p2
    obtain ⟨kq, x31_8, rfl, HA, HJ8, HO_5, HO_6, HO_7, HB⟩ := hcut
    cases kq with
    | zero => exact absurd HA.out (by simp [Qao.j1])
    | succ kj8 =>
     have H := HA.out; clear HA; simp only [Qao.j1] at H; by_cases c11 : x31_8 = true
     ·
      subst c11; rw [if_pos rfl] at H; by_cases c12 : 0 ≤ x8_1
      ·
       rw [if_pos c12] at H; have c12b0 : decide (0 ≤ x8_1) = true := decide_eq_true c12; clear c12; by_cases c13 : x8_1 < (l0.length : Int)
       ·
        rw [if_pos c13] at H; have c13b0 : decide (x8_1 < (l0.length : Int)) = true := decide_eq_true c13; clear c13; obtain ⟨⟨t112, t113⟩, A14, H⟩ := bi H; obtain ⟨ji15, hji15⟩ : ∃ j_ : Int, (mx 0 (wrap64 ((wrap64 ((wrap64 ((wrap64 (16 * (wrap64 (1 + (Int.tmod (wrap64 ((Qap l0 x8_1).f0)) 60))))) + (wrap64 ((Qap l0 x8_1).f3)))) + (Int.tmod (wrap64 ((Qap l0 x8_1).f1)) 64))) - 32))) = j_ := ⟨_, rfl⟩
        replace H : ((Qau.f l1 (wrap64 (2 * x8_1))).bind fun t115 => ((Qat.f t112 t113 t115).bind fun t116 => ((QC.f (wrap64 (-(Int.tmod (wrap64 ((Qap l0 x8_1).f2)) 20))) (Int.tmod (wrap64 ((Qap l0 x8_1).f2)) 20)).bind fun bt117 => ((Qau.f l1 (wrap64 ((wrap64 (2 * x8_1)) + 1))).bind fun t119 => ((Qat.f bt117.1 bt117.2 t119).bind fun t120 => (if x7_1.length < 17592186044416 then (if x5_1.length < 3518437208883 then ((QC.f t116 t116).bind fun bt127 => (if x6_1.length < 3518437208883 then (Qao.l0 kj8 l0 l1 (x5_1 ++ [(⟨wrap64 (1 + (Int.tmod (wrap64 ((Qap l0 x8_1).f0)) 60)), ji15, Int.tmod (wrap64 ((Qap l0 x8_1).f2)) 20, (⟨t112, t113⟩ : S24)⟩ : S68)]) (x6_1 ++ [(⟨wrap64 (1 + (Int.tmod (wrap64 ((Qap l0 x8_1).f0)) 60)), ji15, Int.tmod (wrap64 ((Qap l0 x8_1).f2)) 20, (⟨bt127.1, bt127.2⟩ : S24)⟩ : S68)]) (x7_1 ++ [wrap64 ((wrap64 ((ji15) + t120)) - t116)]) (wrap64 (x8_1 + 1))) else (none))) else (none)) else (none))))))) = some r := by first | (rw [hji15] at H; exact H) | (simp only [hji15] at H ⊢; exact H)
        (try rw [hji15] at A14)
        have hji15_ : (if 0 < (wrap64 ((wrap64 ((wrap64 ((wrap64 (16 * (wrap64 (1 + (Int.tmod (wrap64 ((Qap l0 x8_1).f0)) 60))))) + (wrap64 ((Qap l0 x8_1).f3)))) + (Int.tmod (wrap64 ((Qap l0 x8_1).f1)) 64))) - 32)) then (wrap64 ((wrap64 ((wrap64 ((wrap64 (16 * (wrap64 (1 + (Int.tmod (wrap64 ((Qap l0 x8_1).f0)) 60))))) + (wrap64 ((Qap l0 x8_1).f3)))) + (Int.tmod (wrap64 ((Qap l0 x8_1).f1)) 64))) - 32)) else 0) = ji15 := hji15; obtain ⟨t115, A16, H⟩ := bi H; obtain ⟨t116, A17, H⟩ := bi H; obtain ⟨⟨t117, t118⟩, A18, H⟩ := bi H; obtain ⟨t119, A19, H⟩ := bi H; obtain ⟨t120, A20, H⟩ := bi H; by_cases c21 : x7_1.length < 17592186044416
        ·
         rw [if_pos c21] at H; have LMc21 := Qa.mk c21; clear c21; obtain ⟨y121, hy121⟩ : ∃ y_ : List Int, y_ = (x7_1 ++ [wrap64 ((wrap64 ((ji15) + t120)) - t116)]) := ⟨_, rfl⟩
         replace H : (if x5_1.length < 3518437208883 then ((QC.f t116 t116).bind fun bt127 => (if x6_1.length < 3518437208883 then (Qao.l0 kj8 l0 l1 (x5_1 ++ [(⟨wrap64 (1 + (Int.tmod (wrap64 ((Qap l0 x8_1).f0)) 60)), ji15, Int.tmod (wrap64 ((Qap l0 x8_1).f2)) 20, (⟨t112, t113⟩ : S24)⟩ : S68)]) (x6_1 ++ [(⟨wrap64 (1 + (Int.tmod (wrap64 ((Qap l0 x8_1).f0)) 60)), ji15, Int.tmod (wrap64 ((Qap l0 x8_1).f2)) 20, (⟨bt127.1, bt127.2⟩ : S24)⟩ : S68)]) y121 (wrap64 (x8_1 + 1))) else (none))) else (none)) = some r := yy hy121 H; have Ny121 := Qa.mk hy121; clear hy121; by_cases c22 : x5_1.length < 3518437208883
         ·
          rw [if_pos c22] at H; have LMc22 := Qa.mk c22; clear c22; obtain ⟨y124, hy124⟩ : ∃ y_ : List S68, y_ = (x5_1 ++ [(⟨wrap64 (1 + (Int.tmod (wrap64 ((Qap l0 x8_1).f0)) 60)), ji15, Int.tmod (wrap64 ((Qap l0 x8_1).f2)) 20, (⟨t112, t113⟩ : S24)⟩ : S68)]) := ⟨_, rfl⟩
          replace H : ((QC.f t116 t116).bind fun bt127 => (if x6_1.length < 3518437208883 then (Qao.l0 kj8 l0 l1 y124 (x6_1 ++ [(⟨wrap64 (1 + (Int.tmod (wrap64 ((Qap l0 x8_1).f0)) 60)), ji15, Int.tmod (wrap64 ((Qap l0 x8_1).f2)) 20, (⟨bt127.1, bt127.2⟩ : S24)⟩ : S68)]) y121 (wrap64 (x8_1 + 1))) else (none))) = some r := yy hy124 H; have Ny124 := Qa.mk hy124; clear hy124; obtain ⟨⟨t127, t128⟩, A23, H⟩ := bi H; by_cases c24 : x6_1.length < 3518437208883
          ·
           rw [if_pos c24] at H; have LMc24 := Qa.mk c24; clear c24; obtain ⟨y129, hy129⟩ : ∃ y_ : List S68, y_ = (x6_1 ++ [(⟨wrap64 (1 + (Int.tmod (wrap64 ((Qap l0 x8_1).f0)) 60)), ji15, Int.tmod (wrap64 ((Qap l0 x8_1).f2)) 20, (⟨t127, t128⟩ : S24)⟩ : S68)]) := ⟨_, rfl⟩
           replace H : (Qao.l0 kj8 l0 l1 y124 y129 y121 (wrap64 (x8_1 + 1))) = some r := yy hy129 H; have Ny129 := Qa.mk hy129; clear hy129; have H' := Qa.mk H; clear H; have p110 : 0 ≤ (x8_1 : Int) := dT; have q110 : x8_1 < (l0.length : Int) := dT; obtain ⟨ad110, e110, hx110_0, hx110_1, hx110_2, hx110_3, hx110_4⟩ := at_T89 HR0.out x8_1 p110 q110
           cases e110
           replace hx110_0 := cut_ HB hx110_0; replace hx110_1 := cut_ HB hx110_1; replace hx110_2 := cut_ HB hx110_2; replace hx110_3 := cut_ HB hx110_3; replace hx110_4 := cut_ HB hx110_4; replace p110 := eq_true p110; replace q110 := eq_true q110
           try go_wp2_with (first | ((with_reducible refine gd 9 ?_); (try (refine QG (by rfl) ?_; dsimp only)); refine bx 9 #[.int .u8 0, .int .u8 0, .int .u8 0, .int .u8 0, .int .u8 0] 89 ?_; intro gb111 hg w25 hbox hb; replace HO_5 := rb HO_5 hb; replace HO_6 := rb HO_6 hb; replace HO_7 := rb HO_7 hb; have BK111 := hbox; have GW111 := gs HB hg; replace HB := bs HB hb; clear hb hg; obtain ⟨_, _, _, _, _, _, _, _, _, _⟩ := cf5 BK111))
           have n0_ : Qa (Kd.R k68 68 (((((w25.setCell ⟨gb111, 0, none⟩ (.int .u8 ((Qap l0 x8_1).f0))).setCell ⟨gb111, 1, none⟩ (.int .u8 ((Qap l0 x8_1).f1))).setCell ⟨gb111, 2, none⟩ (.int .u8 ((Qap l0 x8_1).f2))).setCell ⟨gb111, 3, none⟩ (.int .u8 ((Qap l0 x8_1).f3))).setCell ⟨gb111, 4, none⟩ (.int .u8 ((Qap l0 x8_1).f4))) w.heap.size (fun k_ => some k_ ≠ (u6 : Value).ownBlock) u5 x5_1) := ⟨by (with_reducible repeat (first | apply Kd.R_alloc | apply Kd.R_drewN | apply Kd.R_drew)); exact Kd.R_mono (Rf5 (g := gb111) (Kd.R_types HO_5.out BK111.out (by decide))) (fun _ hk => hk.1)⟩; have n1_ : Qa (Kd.R k68 68 (((((w25.setCell ⟨gb111, 0, none⟩ (.int .u8 ((Qap l0 x8_1).f0))).setCell ⟨gb111, 1, none⟩ (.int .u8 ((Qap l0 x8_1).f1))).setCell ⟨gb111, 2, none⟩ (.int .u8 ((Qap l0 x8_1).f2))).setCell ⟨gb111, 3, none⟩ (.int .u8 ((Qap l0 x8_1).f3))).setCell ⟨gb111, 4, none⟩ (.int .u8 ((Qap l0 x8_1).f4))) w.heap.size (fun k_ => some k_ ≠ (u5 : Value).ownBlock) u6 x6_1) := ⟨by (with_reducible repeat (first | apply Kd.R_alloc | apply Kd.R_drewN | apply Kd.R_drew)); exact Kd.R_mono (Rf5 (g := gb111) (Kd.R_types HO_6.out BK111.out (by decide))) (fun _ hk => hk.1)⟩; have n2_ : Qa (Kd.R (Kd.int .i64) 3 (((((w25.setCell ⟨gb111, 0, none⟩ (.int .u8 ((Qap l0 x8_1).f0))).setCell ⟨gb111, 1, none⟩ (.int .u8 ((Qap l0 x8_1).f1))).setCell ⟨gb111, 2, none⟩ (.int .u8 ((Qap l0 x8_1).f2))).setCell ⟨gb111, 3, none⟩ (.int .u8 ((Qap l0 x8_1).f3))).setCell ⟨gb111, 4, none⟩ (.int .u8 ((Qap l0 x8_1).f4))) w.heap.size (fun _ => True) u7 x7_1) := ⟨by (with_reducible repeat (first | apply Kd.R_alloc | apply Kd.R_drewN | apply Kd.R_drew)); exact Kd.R_mono (Rf5 (g := gb111) (Kd.R_types HO_7.out BK111.out (by decide))) (fun _ hk => trivial)⟩; have n3_ : Qa ((((((w25.setCell ⟨gb111, 0, none⟩ (.int .u8 ((Qap l0 x8_1).f0))).setCell ⟨gb111, 1, none⟩ (.int .u8 ((Qap l0 x8_1).f1))).setCell ⟨gb111, 2, none⟩ (.int .u8 ((Qap l0 x8_1).f2))).setCell ⟨gb111, 3, none⟩ (.int .u8 ((Qap l0 x8_1).f3))).setCell ⟨gb111, 4, none⟩ (.int .u8 ((Qap l0 x8_1).f4))).heap[gb111]? = some (.cells #[.int .u8 ((Qap l0 x8_1).f0), .int .u8 ((Qap l0 x8_1).f1), .int .u8 ((Qap l0 x8_1).f2), .int .u8 ((Qap l0 x8_1).f3), .int .u8 ((Qap l0 x8_1).f4)] 89 (0, 0))) := ⟨by refine pB ?_; refine Qg (cs := #[.int .u8 ((Qap l0 x8_1).f0), .int .u8 ((Qap l0 x8_1).f1), .int .u8 ((Qap l0 x8_1).f2), .int .u8 ((Qap l0 x8_1).f3), .int .u8 0]) ?_ 4 _ rfl; refine pB ?_; refine Qg (cs := #[.int .u8 ((Qap l0 x8_1).f0), .int .u8 ((Qap l0 x8_1).f1), .int .u8 ((Qap l0 x8_1).f2), .int .u8 0, .int .u8 0]) ?_ 3 _ rfl; refine pB ?_; refine Qg (cs := #[.int .u8 ((Qap l0 x8_1).f0), .int .u8 ((Qap l0 x8_1).f1), .int .u8 0, .int .u8 0, .int .u8 0]) ?_ 2 _ rfl; refine pB ?_; refine Qg (cs := #[.int .u8 ((Qap l0 x8_1).f0), .int .u8 0, .int .u8 0, .int .u8 0, .int .u8 0]) ?_ 1 _ rfl; refine pB ?_; refine Qg (cs := #[.int .u8 0, .int .u8 0, .int .u8 0, .int .u8 0, .int .u8 0]) ?_ 0 _ rfl; (with_reducible repeat (first | refine Qt ?_ _ | refine Qh ?_ | refine Qaq ?_ _)); exact BK111.out⟩; have n4_ : Qa (Below w.heap.size w (((((w25.setCell ⟨gb111, 0, none⟩ (.int .u8 ((Qap l0 x8_1).f0))).setCell ⟨gb111, 1, none⟩ (.int .u8 ((Qap l0 x8_1).f1))).setCell ⟨gb111, 2, none⟩ (.int .u8 ((Qap l0 x8_1).f2))).setCell ⟨gb111, 3, none⟩ (.int .u8 ((Qap l0 x8_1).f3))).setCell ⟨gb111, 4, none⟩ (.int .u8 ((Qap l0 x8_1).f4)))) := ⟨pE HB⟩
           (try clear HO_5)
           (try clear HO_6)
           (try clear HO_7)
           (try clear BK111)
           (try clear HB)
           generalize (((((w25.setCell ⟨gb111, 0, none⟩ (.int .u8 ((Qap l0 x8_1).f0))).setCell ⟨gb111, 1, none⟩ (.int .u8 ((Qap l0 x8_1).f1))).setCell ⟨gb111, 2, none⟩ (.int .u8 ((Qap l0 x8_1).f2))).setCell ⟨gb111, 3, none⟩ (.int .u8 ((Qap l0 x8_1).f3))).setCell ⟨gb111, 4, none⟩ (.int .u8 ((Qap l0 x8_1).f4))) = w27 at n0_ n1_ n2_ n3_ n4_ ⊢; have HO_5 := n0_; have HO_6 := n1_; have HO_7 := n2_; have BK111 := n3_; have HB := n4_; clear n0_ n1_ n2_ n3_ n4_; replace HO_5 := Qa.mk (Kd.R_drew HO_5.out); replace HO_6 := Qa.mk (Kd.R_drew HO_6.out); replace HO_7 := Qa.mk (Kd.R_drew HO_7.out); replace BK111 := Qa.mk (Qh BK111.out); replace HB := Qa.mk (QM HB.out); refine JS (n := 24) (S := fun w' => w'.cell? ⟨gb111, 0, none⟩ = some (.int .u8 ((Qap l0 x8_1).f0)) ∧ w'.cell? ⟨gb111, 1, none⟩ = some (.int .u8 ((Qap l0 x8_1).f1)) ∧ w'.cell? ⟨gb111, 2, none⟩ = some (.int .u8 ((Qap l0 x8_1).f2)) ∧ w'.cell? ⟨gb111, 3, none⟩ = some (.int .u8 ((Qap l0 x8_1).f3)) ∧ w'.cell? ⟨gb111, 4, none⟩ = some (.int .u8 ((Qap l0 x8_1).f4))) (ds := []) #[false, false, false, false, false, false, false, false, false, false, false, false, false, false, false, false, false, false, false, false, false, false, false, false] (by kernel_rfl) rfl rfl ⟨cz0 BK111, cz1 BK111, cz2 BK111, cz3 BK111, cz4 BK111⟩ (fun hHeld => ?_); refine Jk Qao.tab6 Qao.bits6 (fun HT_ HW_ => ?_); generalize w27.drew = w28 at HO_5 HO_6 HO_7 BK111 HB hHeld ⊢; refine pu 0 38 ?_; refine pu 5 43 ?_; refine pu 9 47 ?_; refine pu 12 50 ?_; refine pu 15 53 ?_; refine tk 1 39 hHeld ?_; refine pu 2 40 ?_; refine pu 3 41 ?_; refine pu 4 42 ?_; refine tk 6 44 hHeld ?_; refine pu 7 45 ?_; refine pu 8 46 ?_; refine tk 10 48 hHeld ?_; refine pu 11 49 ?_; refine tk 13 51 hHeld ?_; refine pu 14 52 ?_; refine tk 16 54 hHeld ?_; refine pu 17 55 ?_; refine pu 18 56 ?_; refine pu 19 57 ?_; refine join_ (σ := Nat) 1 #[true, true, true, true, true, true, true, true, true, true, true, true, true, true, true, true, true, true, true, true, true, true, true, false] (fun s_ => [(58, .agg #[.int .i64 t112, .int .i64 t113]), (10, .pointer (some ⟨s_, 0, none⟩)), (59, .agg #[.int .i64 (wrap64 (1 + (Int.tmod (wrap64 ((Qap l0 x8_1).f0)) 60))), .int .i64 0, .int .i64 (Int.tmod (wrap64 ((Qap l0 x8_1).f2)) 20), .int .i64 t112, .int .i64 t113])]) (fun s_ w' => (w'.cell? ⟨gb111, 0, none⟩ = some (.int .u8 ((Qap l0 x8_1).f0)) ∧ w'.cell? ⟨gb111, 1, none⟩ = some (.int .u8 ((Qap l0 x8_1).f1)) ∧ w'.cell? ⟨gb111, 2, none⟩ = some (.int .u8 ((Qap l0 x8_1).f2)) ∧ w'.cell? ⟨gb111, 3, none⟩ = some (.int .u8 ((Qap l0 x8_1).f3)) ∧ w'.cell? ⟨gb111, 4, none⟩ = some (.int .u8 ((Qap l0 x8_1).f4))) ∧ (Kd.R k68 68 w' w.heap.size (fun k_ => some k_ ≠ (u6 : Value).ownBlock ∧ k_ ≠ s_) u5 x5_1) ∧ (Kd.R k68 68 w' w.heap.size (fun k_ => some k_ ≠ (u5 : Value).ownBlock ∧ k_ ≠ s_) u6 x6_1) ∧ (Kd.R (Kd.int .i64) 3 w' w.heap.size (fun _ => True) u7 x7_1) ∧ (w'.heap[gb111]? = some (.cells #[.int .u8 ((Qap l0 x8_1).f0), .int .u8 ((Qap l0 x8_1).f1), .int .u8 ((Qap l0 x8_1).f2), .int .u8 ((Qap l0 x8_1).f3), .int .u8 ((Qap l0 x8_1).f4)] 89 (0, 0))) ∧ (w'.heap[s_]? = some (.cells #[.int .i64 0, .int .i64 0, .int .i64 0, .int .i64 0, .int .i64 0] 68 (0, 0))) ∧ (w.heap.size ≤ s_) ∧ (w.heap.size ≤ s_) ∧ (gb111 ≠ s_) ∧ (s_ ≠ gb111) ∧ (Below w.heap.size w w')) ?_ ?_
           rotate_left
           ·
            intro hCont; refine two_ (i := 20) (j := 22) (Ni := some 58) (Nj := some 10) #[true, true, true, true, true, true, true, true, true, true, true, true, true, true, true, true, true, true, true, true, true, false, false, false] #[true, true, true, true, true, true, true, true, true, true, true, true, true, true, true, true, true, true, true, true, false, false, true, false] rfl rfl rfl rfl (YY HT_.out (by kernel_rfl)) (by decide) (by decide) (fun K hK => ?_) (fun K hK => ?_)
            ·
             skip
             refine gO Tryz.func58 #[.int .i64 (wrap64 ((Qap l0 x8_1).f3)), .int .i64 (wrap64 ((wrap64 ((Qap l0 x8_1).f3)) + (Int.tmod (wrap64 ((Qap l0 x8_1).f4)) 30)))] ?_
             with_reducible refine (QC.calls (wrap64 ((Qap l0 x8_1).f3)) (wrap64 ((wrap64 ((Qap l0 x8_1).f3)) + (Int.tmod (wrap64 ((Qap l0 x8_1).f4)) 30))) t112 t113 _ A14.out).mono ?_
             rintro e w29 ⟨rfl, hb⟩; refine ⟨_, rfl, ?_⟩; replace HO_5 := rb HO_5 hb; replace HO_6 := rb HO_6 hb; replace HO_7 := rb HO_7 hb; replace BK111 := bb BK111 hb; replace HB := bs HB hb
             (try clear hb)
             (try clear hb2)
             (try clear hk)
             (try clear hi)
             refine hK.out _ _ ⟨cz0 BK111, cz1 BK111, cz2 BK111, cz3 BK111, cz4 BK111⟩ (fun hHeld => ?_); clear hK K; refine QY (a' := ?_) ?_ ?_
             rotate_left
             ·
              show Act.put _ (some 58) _ = _; simp only [Act.put, List.setIfInBounds_toArray, List.set_cons_zero, List.set_cons_succ, QR, QU]; rfl
             refine pu 21 59 ?_; refine on 22 (fun K hK => ?_); refine Xu ?hg (N := 10) ?hd (cs := #[.int .i64 0, .int .i64 0, .int .i64 0, .int .i64 0, .int .i64 0]) (t := 68) ?hr ?_; (case hd => rfl); (case hg => rfl); (case hr => first | (go_simp; done) | (go_simp; rfl)); intro gb114 hg w30 hbox hb; replace HO_5 := Qa.mk (Kd.R_below (Kd.R_elderB (pR HO_5.out) gb114 (Nat.le_of_eq hg.symm)) hb); replace HO_6 := Qa.mk (Kd.R_below (Kd.R_elderB (pR HO_6.out) gb114 (Nat.le_of_eq hg.symm)) hb); replace HO_7 := rb HO_7 hb; have BK114 := Qa.mk (hbox); have GW114 := gs HB hg; have GE114 := gs HB hg; replace HB := bs HB hb; have NB111_114 := nl BK111 hg; have NB114_111 := nr BK111 hg; replace BK111 := bb BK111 hb; clear hb hg; refine hK.out _ _ ⟨cz0 BK111, cz1 BK111, cz2 BK111, cz3 BK111, cz4 BK111⟩ (fun hHeld => ?_); clear hK K; refine QY (a' := ?_) ?_ ?_
             rotate_left
             ·
              show Act.put _ (some 10) _ = _; simp only [Act.put, List.setIfInBounds_toArray, List.set_cons_zero, List.set_cons_succ, QR, QU]; rfl
             exact QY (by simp only [ZP, Act.put, List.setIfInBounds_toArray, List.set_cons_zero, List.set_cons_succ]) (hCont (gb114) _ ⟨hHeld, (pR HO_5.out), (pR HO_6.out), (pR HO_7.out), (pB BK111.out), (pB BK114.out), GW114.out, GE114.out, NB111_114.out, NB114_111.out, (pE HB)⟩)
            ·
             skip
             refine Xu ?hg (N := 10) ?hd (cs := #[.int .i64 0, .int .i64 0, .int .i64 0, .int .i64 0, .int .i64 0]) (t := 68) ?hr ?_; (case hd => rfl); (case hg => rfl); (case hr => first | (go_simp; done) | (go_simp; rfl)); intro gb114 hg w29 hbox hb; replace HO_5 := Qa.mk (Kd.R_below (Kd.R_elderB (pR HO_5.out) gb114 (Nat.le_of_eq hg.symm)) hb); replace HO_6 := Qa.mk (Kd.R_below (Kd.R_elderB (pR HO_6.out) gb114 (Nat.le_of_eq hg.symm)) hb); replace HO_7 := rb HO_7 hb; have BK114 := Qa.mk (hbox); have GW114 := gs HB hg; have GE114 := gs HB hg; replace HB := bs HB hb; have NB111_114 := nl BK111 hg; have NB114_111 := nr BK111 hg; replace BK111 := bb BK111 hb; clear hb hg; refine hK.out _ _ ⟨cz0 BK111, cz1 BK111, cz2 BK111, cz3 BK111, cz4 BK111⟩ (fun hHeld => ?_); clear hK K; refine QY (a' := ?_) ?_ ?_
             rotate_left
             ·
              show Act.put _ (some 10) _ = _; simp only [Act.put, List.setIfInBounds_toArray, List.set_cons_zero, List.set_cons_succ, QR, QU]; rfl
             refine on 20 (fun K hK => ?_); refine gO Tryz.func58 #[.int .i64 (wrap64 ((Qap l0 x8_1).f3)), .int .i64 (wrap64 ((wrap64 ((Qap l0 x8_1).f3)) + (Int.tmod (wrap64 ((Qap l0 x8_1).f4)) 30)))] ?_
             with_reducible refine (QC.calls (wrap64 ((Qap l0 x8_1).f3)) (wrap64 ((wrap64 ((Qap l0 x8_1).f3)) + (Int.tmod (wrap64 ((Qap l0 x8_1).f4)) 30))) t112 t113 _ A14.out).mono ?_
             rintro e w30 ⟨rfl, hb⟩; refine ⟨_, rfl, ?_⟩; replace HO_5 := rb HO_5 hb; replace HO_6 := rb HO_6 hb; replace HO_7 := rb HO_7 hb; replace BK111 := bb BK111 hb; replace BK114 := bb BK114 hb; replace HB := bs HB hb
             (try clear hb)
             (try clear hb2)
             (try clear hk)
             (try clear hi)
             refine hK.out _ _ ⟨cz0 BK111, cz1 BK111, cz2 BK111, cz3 BK111, cz4 BK111⟩ (fun hHeld => ?_); clear hK K; refine QY (a' := ?_) ?_ ?_
             rotate_left
             ·
              show Act.put _ (some 58) _ = _; simp only [Act.put, List.setIfInBounds_toArray, List.set_cons_zero, List.set_cons_succ, QR, QU]; rfl
             refine pu 21 59 ?_; exact QY (by simp only [ZP, Act.put, List.setIfInBounds_toArray, List.set_cons_zero, List.set_cons_succ]) (hCont (gb114) _ ⟨hHeld, (pR HO_5.out), (pR HO_6.out), (pR HO_7.out), (pB BK111.out), (pB BK114.out), GW114.out, GE114.out, NB111_114.out, NB114_111.out, (pE HB)⟩)
           rintro gb114 w31 ⟨hS_, h0_, h1_, h2_, h3_, h4_, h5_, h6_, h7_, h8_, h9_⟩; have n0_ : Qa (Kd.R k68 68 w31 w.heap.size (fun k_ => some k_ ≠ (u6 : Value).ownBlock ∧ k_ ≠ gb114) u5 x5_1) := ⟨h0_⟩; have n1_ : Qa (Kd.R k68 68 w31 w.heap.size (fun k_ => some k_ ≠ (u5 : Value).ownBlock ∧ k_ ≠ gb114) u6 x6_1) := ⟨h1_⟩; have n2_ : Qa (Kd.R (Kd.int .i64) 3 w31 w.heap.size (fun _ => True) u7 x7_1) := ⟨h2_⟩; have n3_ : Qa (w31.heap[gb111]? = some (.cells #[.int .u8 ((Qap l0 x8_1).f0), .int .u8 ((Qap l0 x8_1).f1), .int .u8 ((Qap l0 x8_1).f2), .int .u8 ((Qap l0 x8_1).f3), .int .u8 ((Qap l0 x8_1).f4)] 89 (0, 0))) := ⟨h3_⟩; have n4_ : Qa (w31.heap[gb114]? = some (.cells #[.int .i64 0, .int .i64 0, .int .i64 0, .int .i64 0, .int .i64 0] 68 (0, 0))) := ⟨h4_⟩; have n5_ : Qa (w.heap.size ≤ gb114) := ⟨h5_⟩; have n6_ : Qa (w.heap.size ≤ gb114) := ⟨h6_⟩; have n7_ : Qa (gb111 ≠ gb114) := ⟨h7_⟩; have n8_ : Qa (gb114 ≠ gb111) := ⟨h8_⟩; have n9_ : Qa (Below w.heap.size w w31) := ⟨h9_⟩; clear HO_5 HO_6 HO_7 BK111 HB h0_ h1_ h2_ h3_ h4_ h5_ h6_ h7_ h8_ h9_; have HO_5 := n0_; have HO_6 := n1_; have HO_7 := n2_; have BK111 := n3_; have BK114 := n4_; have GW114 := n5_; have GE114 := n6_; have NB111_114 := n7_; have NB114_111 := n8_; have HB := n9_; clear n0_ n1_ n2_ n3_ n4_ n5_ n6_ n7_ n8_ n9_; have hHeld : w31.cell? ⟨gb111, 0, none⟩ = some (.int .u8 ((Qap l0 x8_1).f0)) ∧ w31.cell? ⟨gb111, 1, none⟩ = some (.int .u8 ((Qap l0 x8_1).f1)) ∧ w31.cell? ⟨gb111, 2, none⟩ = some (.int .u8 ((Qap l0 x8_1).f2)) ∧ w31.cell? ⟨gb111, 3, none⟩ = some (.int .u8 ((Qap l0 x8_1).f3)) ∧ w31.cell? ⟨gb111, 4, none⟩ = some (.int .u8 ((Qap l0 x8_1).f4)) := hS_; refine QY (a' := ?_) ?_ ?_
           rotate_left
           ·
            simp only [ZP, Act.put, List.setIfInBounds_toArray, List.set_cons_zero, List.set_cons_succ]; rfl
           refine on 23 (fun K hK => ?_); have hs32 : w31.cell? ⟨gb114, 0, none⟩ = some (.int .i64 0) := (Qb BK114.out 0).trans rfl; have hfs32 := Qq BK114.out 0; have hns32_0 := NB111_114.out; have hms32_0 := NB114_111.out; have hs33 : w31.cell? ⟨gb114, 1, none⟩ = some (.int .i64 0) := (Qb BK114.out 1).trans rfl; have hfs33 := Qq BK114.out 1; have hns33_0 := NB111_114.out; have hms33_0 := NB114_111.out; have hs34 : w31.cell? ⟨gb114, 2, none⟩ = some (.int .i64 0) := (Qb BK114.out 2).trans rfl; have hfs34 := Qq BK114.out 2; have hns34_0 := NB111_114.out; have hms34_0 := NB114_111.out; have hs35 : w31.cell? ⟨gb114, 3, none⟩ = some (.int .i64 0) := (Qb BK114.out 3).trans rfl; have hfs35 := Qq BK114.out 3; have hns35_0 := NB111_114.out; have hms35_0 := NB114_111.out; have hs36 : w31.cell? ⟨gb114, 4, none⟩ = some (.int .i64 0) := (Qb BK114.out 4).trans rfl; have hfs36 := Qq BK114.out 4; have hns36_0 := NB111_114.out; have hms36_0 := NB114_111.out; refine Z7 (w1 := ?_) (by rfl) rfl ?_ ?_
           rotate_left
           ·
            go_simp
            rfl
           refine hK.out _ _ ⟨((QW (p := ⟨gb114, _, none⟩) NB111_114.out _).trans (((QW (p := ⟨gb114, _, none⟩) NB111_114.out _).trans (((QW (p := ⟨gb114, _, none⟩) NB111_114.out _).trans (((QW (p := ⟨gb114, _, none⟩) NB111_114.out _).trans (((QW (p := ⟨gb114, _, none⟩) NB111_114.out _).trans (hHeld.1)))))))))), ((QW (p := ⟨gb114, _, none⟩) NB111_114.out _).trans (((QW (p := ⟨gb114, _, none⟩) NB111_114.out _).trans (((QW (p := ⟨gb114, _, none⟩) NB111_114.out _).trans (((QW (p := ⟨gb114, _, none⟩) NB111_114.out _).trans (((QW (p := ⟨gb114, _, none⟩) NB111_114.out _).trans (hHeld.2.1)))))))))), ((QW (p := ⟨gb114, _, none⟩) NB111_114.out _).trans (((QW (p := ⟨gb114, _, none⟩) NB111_114.out _).trans (((QW (p := ⟨gb114, _, none⟩) NB111_114.out _).trans (((QW (p := ⟨gb114, _, none⟩) NB111_114.out _).trans (((QW (p := ⟨gb114, _, none⟩) NB111_114.out _).trans (hHeld.2.2.1)))))))))), ((QW (p := ⟨gb114, _, none⟩) NB111_114.out _).trans (((QW (p := ⟨gb114, _, none⟩) NB111_114.out _).trans (((QW (p := ⟨gb114, _, none⟩) NB111_114.out _).trans (((QW (p := ⟨gb114, _, none⟩) NB111_114.out _).trans (((QW (p := ⟨gb114, _, none⟩) NB111_114.out _).trans (hHeld.2.2.2.1)))))))))), ((QW (p := ⟨gb114, _, none⟩) NB111_114.out _).trans (((QW (p := ⟨gb114, _, none⟩) NB111_114.out _).trans (((QW (p := ⟨gb114, _, none⟩) NB111_114.out _).trans (((QW (p := ⟨gb114, _, none⟩) NB111_114.out _).trans (((QW (p := ⟨gb114, _, none⟩) NB111_114.out _).trans (hHeld.2.2.2.2))))))))))⟩ (fun hHeld => ?_); clear hK K; refine JD (JM HT_.out (by kernel_rfl)) ?_; have hnb37 := NB114_111.out; have hnc37 := NB111_114.out; obtain ⟨_, _, _, _, _, _, _, _, hfz38_3, hfz38_4⟩ := cf5 BK114; obtain ⟨hcz39_0, hcz39_1, hcz39_2, hcz39_3, hcz39_4, hfz39_0, hfz39_1, hfz39_2, hfz39_3, hfz39_4⟩ := cf5 BK111
           try go_wp2
           have n0_ : Qa (Kd.R k68 68 ((((((w31.setCell ⟨gb114, 0, none⟩ (.int .i64 (wrap64 (1 + (Int.tmod (wrap64 ((Qap l0 x8_1).f0)) 60))))).setCell ⟨gb114, 1, none⟩ (.int .i64 0)).setCell ⟨gb114, 2, none⟩ (.int .i64 (Int.tmod (wrap64 ((Qap l0 x8_1).f2)) 20))).setCell ⟨gb114, 3, none⟩ (.int .i64 t112)).setCell ⟨gb114, 4, none⟩ (.int .i64 t113)).setCell ⟨gb114, 1, none⟩ (.int .i64 ji15)) w.heap.size (fun k_ => some k_ ≠ (u6 : Value).ownBlock ∧ k_ ≠ gb114) u5 x5_1) := ⟨by (with_reducible repeat (first | apply Kd.R_alloc | apply Kd.R_drewN | apply Kd.R_drew)); exact Kd.R_mono (Kd.R_far (p := ⟨gb114, 1, none⟩) (Rf5 (g := gb114) (Kd.R_mono HO_5.out (fun k_ hk => (⟨hk, hk.2⟩ : _ ∧ k_ ≠ gb114)))) (fun _ hk => hk.2) (.int .i64 ji15)) (fun _ hk => ⟨hk.1.1, hk.1.2⟩)⟩; have n1_ : Qa (Kd.R k68 68 ((((((w31.setCell ⟨gb114, 0, none⟩ (.int .i64 (wrap64 (1 + (Int.tmod (wrap64 ((Qap l0 x8_1).f0)) 60))))).setCell ⟨gb114, 1, none⟩ (.int .i64 0)).setCell ⟨gb114, 2, none⟩ (.int .i64 (Int.tmod (wrap64 ((Qap l0 x8_1).f2)) 20))).setCell ⟨gb114, 3, none⟩ (.int .i64 t112)).setCell ⟨gb114, 4, none⟩ (.int .i64 t113)).setCell ⟨gb114, 1, none⟩ (.int .i64 ji15)) w.heap.size (fun k_ => some k_ ≠ (u5 : Value).ownBlock ∧ k_ ≠ gb114) u6 x6_1) := ⟨by (with_reducible repeat (first | apply Kd.R_alloc | apply Kd.R_drewN | apply Kd.R_drew)); exact Kd.R_mono (Kd.R_far (p := ⟨gb114, 1, none⟩) (Rf5 (g := gb114) (Kd.R_mono HO_6.out (fun k_ hk => (⟨hk, hk.2⟩ : _ ∧ k_ ≠ gb114)))) (fun _ hk => hk.2) (.int .i64 ji15)) (fun _ hk => ⟨hk.1.1, hk.1.2⟩)⟩; have n2_ : Qa (Kd.R (Kd.int .i64) 3 ((((((w31.setCell ⟨gb114, 0, none⟩ (.int .i64 (wrap64 (1 + (Int.tmod (wrap64 ((Qap l0 x8_1).f0)) 60))))).setCell ⟨gb114, 1, none⟩ (.int .i64 0)).setCell ⟨gb114, 2, none⟩ (.int .i64 (Int.tmod (wrap64 ((Qap l0 x8_1).f2)) 20))).setCell ⟨gb114, 3, none⟩ (.int .i64 t112)).setCell ⟨gb114, 4, none⟩ (.int .i64 t113)).setCell ⟨gb114, 1, none⟩ (.int .i64 ji15)) w.heap.size (fun _ => True) u7 x7_1) := ⟨by (with_reducible repeat (first | apply Kd.R_alloc | apply Kd.R_drewN | apply Kd.R_drew)); exact Kd.R_mono (Kd.R_far (p := ⟨gb114, 1, none⟩) (Rf5 (g := gb114) (Kd.R_types HO_7.out BK114.out (by decide))) (fun _ hk => hk.2) (.int .i64 ji15)) (fun _ hk => trivial)⟩; have n3_ : Qa (((((((w31.setCell ⟨gb114, 0, none⟩ (.int .i64 (wrap64 (1 + (Int.tmod (wrap64 ((Qap l0 x8_1).f0)) 60))))).setCell ⟨gb114, 1, none⟩ (.int .i64 0)).setCell ⟨gb114, 2, none⟩ (.int .i64 (Int.tmod (wrap64 ((Qap l0 x8_1).f2)) 20))).setCell ⟨gb114, 3, none⟩ (.int .i64 t112)).setCell ⟨gb114, 4, none⟩ (.int .i64 t113)).setCell ⟨gb114, 1, none⟩ (.int .i64 ji15)).heap[gb111]? = some (.cells #[.int .u8 ((Qap l0 x8_1).f0), .int .u8 ((Qap l0 x8_1).f1), .int .u8 ((Qap l0 x8_1).f2), .int .u8 ((Qap l0 x8_1).f3), .int .u8 ((Qap l0 x8_1).f4)] 89 (0, 0))) := ⟨pF BK111⟩; have n4_ : Qa (((((((w31.setCell ⟨gb114, 0, none⟩ (.int .i64 (wrap64 (1 + (Int.tmod (wrap64 ((Qap l0 x8_1).f0)) 60))))).setCell ⟨gb114, 1, none⟩ (.int .i64 0)).setCell ⟨gb114, 2, none⟩ (.int .i64 (Int.tmod (wrap64 ((Qap l0 x8_1).f2)) 20))).setCell ⟨gb114, 3, none⟩ (.int .i64 t112)).setCell ⟨gb114, 4, none⟩ (.int .i64 t113)).setCell ⟨gb114, 1, none⟩ (.int .i64 ji15)).heap[gb114]? = some (.cells #[.int .i64 (wrap64 (1 + (Int.tmod (wrap64 ((Qap l0 x8_1).f0)) 60))), .int .i64 ji15, .int .i64 (Int.tmod (wrap64 ((Qap l0 x8_1).f2)) 20), .int .i64 t112, .int .i64 t113] 68 (0, 0))) := ⟨by refine pB ?_; refine Qg (cs := #[.int .i64 (wrap64 (1 + (Int.tmod (wrap64 ((Qap l0 x8_1).f0)) 60))), .int .i64 0, .int .i64 (Int.tmod (wrap64 ((Qap l0 x8_1).f2)) 20), .int .i64 t112, .int .i64 t113]) ?_ 1 _ rfl; refine pB ?_; refine Qg (cs := #[.int .i64 (wrap64 (1 + (Int.tmod (wrap64 ((Qap l0 x8_1).f0)) 60))), .int .i64 0, .int .i64 (Int.tmod (wrap64 ((Qap l0 x8_1).f2)) 20), .int .i64 t112, .int .i64 0]) ?_ 4 _ rfl; refine pB ?_; refine Qg (cs := #[.int .i64 (wrap64 (1 + (Int.tmod (wrap64 ((Qap l0 x8_1).f0)) 60))), .int .i64 0, .int .i64 (Int.tmod (wrap64 ((Qap l0 x8_1).f2)) 20), .int .i64 0, .int .i64 0]) ?_ 3 _ rfl; refine pB ?_; refine Qg (cs := #[.int .i64 (wrap64 (1 + (Int.tmod (wrap64 ((Qap l0 x8_1).f0)) 60))), .int .i64 0, .int .i64 0, .int .i64 0, .int .i64 0]) ?_ 2 _ rfl; refine pB ?_; refine Qg (cs := #[.int .i64 (wrap64 (1 + (Int.tmod (wrap64 ((Qap l0 x8_1).f0)) 60))), .int .i64 0, .int .i64 0, .int .i64 0, .int .i64 0]) ?_ 1 _ rfl; refine pB ?_; refine Qg (cs := #[.int .i64 0, .int .i64 0, .int .i64 0, .int .i64 0, .int .i64 0]) ?_ 0 _ rfl; (with_reducible repeat (first | refine Qt ?_ _ | refine Qh ?_ | refine Qaq ?_ _)); exact BK114.out⟩; have n5_ : Qa (Below w.heap.size w ((((((w31.setCell ⟨gb114, 0, none⟩ (.int .i64 (wrap64 (1 + (Int.tmod (wrap64 ((Qap l0 x8_1).f0)) 60))))).setCell ⟨gb114, 1, none⟩ (.int .i64 0)).setCell ⟨gb114, 2, none⟩ (.int .i64 (Int.tmod (wrap64 ((Qap l0 x8_1).f2)) 20))).setCell ⟨gb114, 3, none⟩ (.int .i64 t112)).setCell ⟨gb114, 4, none⟩ (.int .i64 t113)).setCell ⟨gb114, 1, none⟩ (.int .i64 ji15))) := ⟨pE HB⟩
           (try clear HO_5)
           (try clear HO_6)
           (try clear HO_7)
           (try clear BK111)
           (try clear BK114)
           (try clear HB)
           generalize ((((((w31.setCell ⟨gb114, 0, none⟩ (.int .i64 (wrap64 (1 + (Int.tmod (wrap64 ((Qap l0 x8_1).f0)) 60))))).setCell ⟨gb114, 1, none⟩ (.int .i64 0)).setCell ⟨gb114, 2, none⟩ (.int .i64 (Int.tmod (wrap64 ((Qap l0 x8_1).f2)) 20))).setCell ⟨gb114, 3, none⟩ (.int .i64 t112)).setCell ⟨gb114, 4, none⟩ (.int .i64 t113)).setCell ⟨gb114, 1, none⟩ (.int .i64 ji15)) = w40 at n0_ n1_ n2_ n3_ n4_ n5_ ⊢; have HO_5 := n0_; have HO_6 := n1_; have HO_7 := n2_; have BK111 := n3_; have BK114 := n4_; have HB := n5_; clear n0_ n1_ n2_ n3_ n4_ n5_; replace HO_5 := Qa.mk (Kd.R_drew HO_5.out); replace HO_6 := Qa.mk (Kd.R_drew HO_6.out); replace HO_7 := Qa.mk (Kd.R_drew HO_7.out); replace BK111 := Qa.mk (Qh BK111.out); replace BK114 := Qa.mk (Qh BK114.out); replace HB := Qa.mk (QM HB.out); refine JS (n := 8) (S := fun w' => w'.cell? ⟨gb114, 0, none⟩ = some (.int .i64 (wrap64 (1 + (Int.tmod (wrap64 ((Qap l0 x8_1).f0)) 60)))) ∧ w'.cell? ⟨gb114, 1, none⟩ = some (.int .i64 ji15) ∧ w'.cell? ⟨gb114, 2, none⟩ = some (.int .i64 (Int.tmod (wrap64 ((Qap l0 x8_1).f2)) 20)) ∧ w'.cell? ⟨gb114, 3, none⟩ = some (.int .i64 t112) ∧ w'.cell? ⟨gb114, 4, none⟩ = some (.int .i64 t113)) (ds := []) #[false, false, false, false, false, false, false, false] (by kernel_rfl) rfl rfl ⟨cz0 BK114, cz1 BK114, cz2 BK114, cz3 BK114, cz4 BK114⟩ (fun hHeld => ?_); refine Jk Qao.tab8 Qao.bits8 (fun HT_ HW_ => ?_); generalize w40.drew = w41 at HO_5 HO_6 HO_7 BK111 BK114 HB hHeld ⊢; refine pu 0 75 ?_; refine pu 2 77 ?_; refine pu 3 78 ?_; refine pu 4 79 ?_; refine tk 1 76 hHeld ?_; refine on 5 (fun K hK => ?_); refine gO Tryz.func57 #[.slice A1 l1.length c1, .int .i64 (wrap64 (2 * x8_1))] ?_
           with_reducible refine (Qau.calls _ _ l1 (wrap64 (2 * x8_1)) t115 _ ?side1 ?side2 A16.out).mono ?_
           (case side1 => exact pC (Kd.C_below HR1.out HB.out))
           (case side2 => exact HC1.out)
           rintro e w' ⟨rfl, ⟨nd, rfl⟩⟩; refine ⟨_, rfl, ?_⟩; refine hK.out _ _ ⟨cz0 BK114, cz1 BK114, cz2 BK114, cz3 BK114, cz4 BK114⟩ (fun hHeld => ?_); clear hK K; refine QY (a' := ?_) ?_ ?_
           rotate_left
           ·
            show Act.put _ (some 80) _ = _; simp only [Act.put, List.setIfInBounds_toArray, List.set_cons_zero, List.set_cons_succ, QR, QU]; rfl
           refine on 6 (fun K hK => ?_); refine gO Tryz.func56 #[.agg #[.int .i64 t112, .int .i64 t113], .int .i64 t115] ?_
           with_reducible refine (Qat.calls t112 t113 t115 t116 _ A17.out).mono ?_
           rintro e w42 ⟨rfl, hb⟩; refine ⟨_, rfl, ?_⟩; replace HO_5 := rb HO_5 hb; replace HO_6 := rb HO_6 hb; replace HO_7 := rb HO_7 hb; replace BK111 := bb BK111 hb; replace BK114 := bb BK114 hb; replace HB := bs HB hb
           (try clear hb)
           (try clear hb2)
           (try clear hk)
           (try clear hi)
           refine hK.out _ _ ⟨cz0 BK114, cz1 BK114, cz2 BK114, cz3 BK114, cz4 BK114⟩ (fun hHeld => ?_); clear hK K; refine QY (a' := ?_) ?_ ?_
           rotate_left
           ·
            show Act.put _ (some 81) _ = _; simp only [Act.put, List.setIfInBounds_toArray, List.set_cons_zero, List.set_cons_succ, QR, QU]; rfl
           refine pu 7 11 ?_; refine JD (JM HT_.out (by kernel_rfl)) ?_
           try go_wp2
           replace HO_5 := Qa.mk (Kd.R_drew HO_5.out); replace HO_6 := Qa.mk (Kd.R_drew HO_6.out); replace HO_7 := Qa.mk (Kd.R_drew HO_7.out); replace BK111 := Qa.mk (Qh BK111.out); replace BK114 := Qa.mk (Qh BK114.out); replace HB := Qa.mk (QM HB.out); refine JS (n := 21) (S := fun w' => w'.cell? ⟨gb114, 0, none⟩ = some (.int .i64 (wrap64 (1 + (Int.tmod (wrap64 ((Qap l0 x8_1).f0)) 60)))) ∧ w'.cell? ⟨gb114, 1, none⟩ = some (.int .i64 ji15) ∧ w'.cell? ⟨gb114, 2, none⟩ = some (.int .i64 (Int.tmod (wrap64 ((Qap l0 x8_1).f2)) 20)) ∧ w'.cell? ⟨gb114, 3, none⟩ = some (.int .i64 t112) ∧ w'.cell? ⟨gb114, 4, none⟩ = some (.int .i64 t113)) (ds := []) #[false, false, false, false, false, false, false, false, false, false, false, false, false, false, false, false, false, false, false, false, false] (by kernel_rfl) rfl rfl ⟨cz0 BK114, cz1 BK114, cz2 BK114, cz3 BK114, cz4 BK114⟩ (fun hHeld => ?_); refine Jk Qao.tab9 Qao.bits9 (fun HT_ HW_ => ?_); generalize w42.drew = w43 at HO_5 HO_6 HO_7 BK111 BK114 HB hHeld ⊢; refine pu 0 82 ?_; refine pu 1 83 ?_; refine pu 3 85 ?_; refine pu 6 88 ?_; refine pu 9 91 ?_; refine pu 10 92 ?_; refine pu 11 93 ?_; refine pu 12 94 ?_; refine pu 16 98 ?_; refine tk 2 84 hHeld ?_; refine tk 4 86 hHeld ?_; refine pu 5 87 ?_; refine tk 7 89 hHeld ?_; refine on 8 (fun K hK => ?_); refine gO Tryz.func58 #[.int .i64 (wrap64 (-(Int.tmod (wrap64 ((Qap l0 x8_1).f2)) 20))), .int .i64 (Int.tmod (wrap64 ((Qap l0 x8_1).f2)) 20)] ?_
           with_reducible refine (QC.calls (wrap64 (-(Int.tmod (wrap64 ((Qap l0 x8_1).f2)) 20))) (Int.tmod (wrap64 ((Qap l0 x8_1).f2)) 20) t117 t118 _ A18.out).mono ?_
           rintro e w44 ⟨rfl, hb⟩; refine ⟨_, rfl, ?_⟩; replace HO_5 := rb HO_5 hb; replace HO_6 := rb HO_6 hb; replace HO_7 := rb HO_7 hb; replace BK111 := bb BK111 hb; replace BK114 := bb BK114 hb; replace HB := bs HB hb
           (try clear hb)
           (try clear hb2)
           (try clear hk)
           (try clear hi)
           refine hK.out _ _ ⟨cz0 BK114, cz1 BK114, cz2 BK114, cz3 BK114, cz4 BK114⟩ (fun hHeld => ?_); clear hK K; refine QY (a' := ?_) ?_ ?_
           rotate_left
           ·
            show Act.put _ (some 90) _ = _; simp only [Act.put, List.setIfInBounds_toArray, List.set_cons_zero, List.set_cons_succ, QR, QU]; rfl
           refine on 13 (fun K hK => ?_); refine gO Tryz.func57 #[.slice A1 l1.length c1, .int .i64 (wrap64 ((wrap64 (2 * x8_1)) + 1))] ?_
           with_reducible refine (Qau.calls _ _ l1 (wrap64 ((wrap64 (2 * x8_1)) + 1)) t119 _ ?side1 ?side2 A19.out).mono ?_
           (case side1 => exact pC (Kd.C_below HR1.out HB.out))
           (case side2 => exact HC1.out)
           rintro e w' ⟨rfl, ⟨nd, rfl⟩⟩; refine ⟨_, rfl, ?_⟩; refine hK.out _ _ ⟨cz0 BK114, cz1 BK114, cz2 BK114, cz3 BK114, cz4 BK114⟩ (fun hHeld => ?_); clear hK K; refine QY (a' := ?_) ?_ ?_
           rotate_left
           ·
            show Act.put _ (some 95) _ = _; simp only [Act.put, List.setIfInBounds_toArray, List.set_cons_zero, List.set_cons_succ, QR, QU]; rfl
           refine on 14 (fun K hK => ?_); refine gO Tryz.func56 #[.agg #[.int .i64 t117, .int .i64 t118], .int .i64 t119] ?_
           with_reducible refine (Qat.calls t117 t118 t119 t120 _ A20.out).mono ?_
           rintro e w45 ⟨rfl, hb⟩; refine ⟨_, rfl, ?_⟩; replace HO_5 := rb HO_5 hb; replace HO_6 := rb HO_6 hb; replace HO_7 := rb HO_7 hb; replace BK111 := bb BK111 hb; replace BK114 := bb BK114 hb; replace HB := bs HB hb
           (try clear hb)
           (try clear hb2)
           (try clear hk)
           (try clear hi)
           refine hK.out _ _ ⟨cz0 BK114, cz1 BK114, cz2 BK114, cz3 BK114, cz4 BK114⟩ (fun hHeld => ?_); clear hK K; refine QY (a' := ?_) ?_ ?_
           rotate_left
           ·
            show Act.put _ (some 96) _ = _; simp only [Act.put, List.setIfInBounds_toArray, List.set_cons_zero, List.set_cons_succ, QR, QU]; rfl
           refine pu 15 97 ?_; refine pu 17 99 ?_; refine on 18 (fun K hK => ?_); refine value_ (w1 := ?_) (v := ?_) (by rfl) rfl ?_ ?_
           rotate_left 2
           ·
            go_simp
            constructor
            ·
             rfl
            ·
             rfl
           refine hK.out _ _ ⟨(Qb (Qaq BK114.out _) 0).trans rfl, (Qb (Qaq BK114.out _) 1).trans rfl, (Qb (Qaq BK114.out _) 2).trans rfl, (Qb (Qaq BK114.out _) 3).trans rfl, (Qb (Qaq BK114.out _) 4).trans rfl⟩ (fun hHeld => ?_); clear hK K; refine QY (a' := ?_) ?_ ?_
           rotate_left
           ·
            show Act.put _ (some 100) _ = _; simp only [Act.put, List.setIfInBounds_toArray, List.set_cons_zero, List.set_cons_succ, QR, QU]; rfl
           refine on 19 (fun K hK => ?_); refine Kd.R_append_step (Kd.int .i64) (w0 := w) w.heap.size (by rfl) (.tmp 82) (.tmp 100) 27 3 (.int .i64 0) 8 rfl Tryz.underlying27 J5 rfl (by decide) (by omega) u7 x7_1 (wrap64 ((wrap64 ((ji15) + t120)) - t116)) [.int .i64 (wrap64 ((wrap64 ((ji15) + t120)) - t116))] (fun _ => True) (fun _ => False) rfl rfl ?aP (fun _ hk => hk.elim) ?aF ?aO ?aB ?aS ?aL ?_
           (case aP => exact rfl)
           (case aB => exact (pE HB))
           (case aF => exact (fun _ _ => trivial))
           (case aO => exact (pR HO_7.out))
           (case aS => exact (Qr (pE HB)))
           (case aL => have := LMc21.out; omega)
           intro v122 w46 ho hb hg hat; rw [← Ny121.out] at ho; replace HO_5 := Qa.mk (Kd.R_over' (pR HO_5.out) (Kd.R_typed (pR HO_7.out)) (by decide) hg); replace HO_6 := Qa.mk (Kd.R_over' (pR HO_6.out) (Kd.R_typed (pR HO_7.out)) (by decide) hg); replace BK111 := Qa.mk (Ja (g := gb111) (o := .cells #[.int .u8 ((Qap l0 x8_1).f0), .int .u8 ((Qap l0 x8_1).f1), .int .u8 ((Qap l0 x8_1).f2), .int .u8 ((Qap l0 x8_1).f3), .int .u8 ((Qap l0 x8_1).f4)] 89 (0, 0)) (pB BK111.out) hg (Kd.R_ne HO_7.out BK111.out (by decide))); replace BK114 := Qa.mk (Ja (g := gb114) (o := .cells #[.int .i64 (wrap64 (1 + (Int.tmod (wrap64 ((Qap l0 x8_1).f0)) 60))), .int .i64 ji15, .int .i64 (Int.tmod (wrap64 ((Qap l0 x8_1).f2)) 20), .int .i64 t112, .int .i64 t113] 68 (0, 0)) (pB BK114.out) hg (Kd.R_ne HO_7.out BK114.out (by decide))); replace HB := Qa.mk (hb); have HO123 := Qa.mk (ho); clear HO_7 ho hb hg hat; refine hK.out _ _ ⟨cz0 BK114, cz1 BK114, cz2 BK114, cz3 BK114, cz4 BK114⟩ (fun hHeld => ?_); clear hK K; refine QY (a' := ?_) ?_ ?_
           rotate_left
           ·
            show Act.put _ (some 101) _ = _; simp only [Act.put, List.setIfInBounds_toArray, List.set_cons_zero, List.set_cons_succ, QR, QU]; rfl
           refine pu 20 7 ?_; refine JD (JM HT_.out (by kernel_rfl)) ?_; have hcz47_0 : w46.cell? ⟨gb114, 0, none⟩ = some (.int .i64 (wrap64 (1 + (Int.tmod (wrap64 ((Qap l0 x8_1).f0)) 60)))) := (Qb BK114.out 0).trans rfl; have hcz47_1 := cz1 BK114; have hcz47_2 : w46.cell? ⟨gb114, 2, none⟩ = some (.int .i64 (Int.tmod (wrap64 ((Qap l0 x8_1).f2)) 20)) := (Qb BK114.out 2).trans rfl; have hcz47_3 := cz3 BK114; have hcz47_4 := cz4 BK114; have hfz47_0 := Qq BK114.out 0; have hfz47_1 := Qq BK114.out 1; have hfz47_2 := Qq BK114.out 2; have hfz47_3 := Qq BK114.out 3; have hfz47_4 := Qq BK114.out 4
           try go_wp2_with (first | ((with_reducible refine JA (b := .append) (xs := #[.tmp 102, .tmp 104]) rfl ?_); (try (refine QG (by rfl) ?_; dsimp only)); at_builtin; refine Kd.R_append k68 (w0 := w) w.heap.size rfl (.tmp 102) (.tmp 104) 64 68 (.agg #[(.int .i64 0), (.int .i64 0), (.int .i64 0), (.int .i64 0), (.int .i64 0)]) 40 rfl Tryz.underlying64 info68 rfl (by decide) (by omega) u5 x5_1 (⟨wrap64 (1 + (Int.tmod (wrap64 ((Qap l0 x8_1).f0)) 60)), ji15, Int.tmod (wrap64 ((Qap l0 x8_1).f2)) 20, (⟨t112, t113⟩ : S24)⟩ : S68) [.int .i64 (wrap64 (1 + (Int.tmod (wrap64 ((Qap l0 x8_1).f0)) 60))), .int .i64 ji15, .int .i64 (Int.tmod (wrap64 ((Qap l0 x8_1).f2)) 20), .int .i64 t112, .int .i64 t113] (fun k_ => some k_ ≠ (u6 : Value).ownBlock ∧ k_ ≠ gb114) (fun _ => False) rfl rfl ?aP (fun _ hk => hk.elim) ?aF ?aO ?aB ?aS ?aL ?_; (case aP => exact Yx _ _ _ (⟨wrap64 (1 + (Int.tmod (wrap64 ((Qap l0 x8_1).f0)) 60)), ji15, Int.tmod (wrap64 ((Qap l0 x8_1).f2)) 20, (⟨t112, t113⟩ : S24)⟩ : S68)); (case aB => exact (pE HB)); (case aF => exact (fun k_ hk => ⟨Kd.fresh' (Kd.R_lt (pR HO_6.out)) k_ hk, Kd.freshB (g := gb114) (o := .cells #[.int .i64 (wrap64 (1 + (Int.tmod (wrap64 ((Qap l0 x8_1).f0)) 60))), .int .i64 ji15, .int .i64 (Int.tmod (wrap64 ((Qap l0 x8_1).f2)) 20), .int .i64 t112, .int .i64 t113] 68 (0, 0)) (pB BK114.out) k_ hk⟩)); (case aO => exact (pR HO_5.out)); (case aS => exact (Qr (pE HB))); (case aL => have := LMc22.out; omega); intro v125 w48 ho hb hg hat; rw [← Ny124.out] at ho; replace HO_6 := Qa.mk (Kd.R_after (ok := (fun k_ => k_ ≠ gb114)) (by refine pR ?_; exact Kd.R_mono HO_6.out (fun _ hk => ⟨hk.2, hk.1⟩)) hg hat); replace BK111 := Qa.mk (Ja (g := gb111) (o := .cells #[.int .u8 ((Qap l0 x8_1).f0), .int .u8 ((Qap l0 x8_1).f1), .int .u8 ((Qap l0 x8_1).f2), .int .u8 ((Qap l0 x8_1).f3), .int .u8 ((Qap l0 x8_1).f4)] 89 (0, 0)) (pB BK111.out) hg (Kd.R_ne HO_5.out BK111.out (by decide))); replace BK114 := Qa.mk (Ja (g := gb114) (o := .cells #[.int .i64 (wrap64 (1 + (Int.tmod (wrap64 ((Qap l0 x8_1).f0)) 60))), .int .i64 ji15, .int .i64 (Int.tmod (wrap64 ((Qap l0 x8_1).f2)) 20), .int .i64 t112, .int .i64 t113] 68 (0, 0)) (pB BK114.out) hg (Kd.R_away HO_5.out (fun _ hk => hk.2))); replace HO123 := Qa.mk (Kd.R_over' (pR HO123.out) (Kd.R_typed (pR HO_5.out)) (by decide) hg); replace HB := Qa.mk (hb); have HO126 := Qa.mk (ho); clear HO_5; clear ho hb hg hat) | ((with_reducible refine gc 58 rfl ?_); refine gL 108 Tryz.func58 #[.int .i64 t116, .int .i64 t116] ?_; (with_reducible refine (QC.calls t116 t116 t127 t128 _ A23.out).mono ?_); rintro e w49 ⟨rfl, hb⟩; refine ⟨_, rfl, ?_⟩; replace HO_6 := rb HO_6 hb; replace HO123 := rb HO123 hb; replace HO126 := rb HO126 hb; replace BK111 := bb BK111 hb; replace BK114 := bb BK114 hb; replace HB := bs HB hb; clear hb; have hcz50_0 : w49.cell? ⟨gb114, 0, none⟩ = some (.int .i64 (wrap64 (1 + (Int.tmod (wrap64 ((Qap l0 x8_1).f0)) 60)))) := (Qb BK114.out 0).trans rfl; have hcz50_1 := cz1 BK114; have hcz50_2 : w49.cell? ⟨gb114, 2, none⟩ = some (.int .i64 (Int.tmod (wrap64 ((Qap l0 x8_1).f2)) 20)) := (Qb BK114.out 2).trans rfl; have hcz50_3 := cz3 BK114; have hcz50_4 := cz4 BK114; have hfz50_0 := Qq BK114.out 0; have hfz50_1 := Qq BK114.out 1; have hfz50_2 := Qq BK114.out 2; have hfz50_3 := Qq BK114.out 3; have hfz50_4 := Qq BK114.out 4) | ((with_reducible refine JA (b := .append) (xs := #[.tmp 110, .tmp 112]) rfl ?_); (try (refine QG (by rfl) ?_; dsimp only)); at_builtin; refine Kd.R_append k68 (w0 := w) w.heap.size rfl (.tmp 110) (.tmp 112) 64 68 (.agg #[(.int .i64 0), (.int .i64 0), (.int .i64 0), (.int .i64 0), (.int .i64 0)]) 40 rfl Tryz.underlying64 info68 rfl (by decide) (by omega) u6 x6_1 (⟨wrap64 (1 + (Int.tmod (wrap64 ((Qap l0 x8_1).f0)) 60)), ji15, Int.tmod (wrap64 ((Qap l0 x8_1).f2)) 20, (⟨t127, t128⟩ : S24)⟩ : S68) [.int .i64 (wrap64 (1 + (Int.tmod (wrap64 ((Qap l0 x8_1).f0)) 60))), .int .i64 ji15, .int .i64 (Int.tmod (wrap64 ((Qap l0 x8_1).f2)) 20), .int .i64 t127, .int .i64 t128] (fun k_ => some k_ ≠ (v125 : Value).ownBlock ∧ k_ ≠ gb114) (fun _ => False) rfl (by first | (go_simp; done) | (go_simp; rfl)) ?aP (fun _ hk => hk.elim) ?aF ?aO ?aB ?aS ?aL ?_; (case aP => exact Yx _ _ _ (⟨wrap64 (1 + (Int.tmod (wrap64 ((Qap l0 x8_1).f0)) 60)), ji15, Int.tmod (wrap64 ((Qap l0 x8_1).f2)) 20, (⟨t127, t128⟩ : S24)⟩ : S68)); (case aB => exact (pE HB)); (case aF => exact (fun k_ hk => ⟨Kd.fresh' (Kd.R_lt (by refine pR ?_; exact (Kd.R_mono (Kd.R_far (p := ⟨gb114, 4, none⟩) (Kd.R_far (p := ⟨gb114, 3, none⟩) (Kd.R_mono HO126.out (fun k_ hk => (⟨hk, hk.2⟩ : _ ∧ k_ ≠ gb114))) (fun _ hk => hk.2) (.int .i64 t127)) (fun _ hk => hk.2) (.int .i64 t128)) (fun _ h_ => h_.1)))) k_ hk, Kd.freshB (g := gb114) (o := .cells #[.int .i64 (wrap64 (1 + (Int.tmod (wrap64 ((Qap l0 x8_1).f0)) 60))), .int .i64 ji15, .int .i64 (Int.tmod (wrap64 ((Qap l0 x8_1).f2)) 20), .int .i64 t127, .int .i64 t128] 68 (0, 0)) (by refine pB ?_; refine Qg (cs := #[.int .i64 (wrap64 (1 + (Int.tmod (wrap64 ((Qap l0 x8_1).f0)) 60))), .int .i64 ji15, .int .i64 (Int.tmod (wrap64 ((Qap l0 x8_1).f2)) 20), .int .i64 t127, .int .i64 t113]) ?_ 4 _ rfl; refine pB ?_; refine Qg (cs := #[.int .i64 (wrap64 (1 + (Int.tmod (wrap64 ((Qap l0 x8_1).f0)) 60))), .int .i64 ji15, .int .i64 (Int.tmod (wrap64 ((Qap l0 x8_1).f2)) 20), .int .i64 t112, .int .i64 t113]) ?_ 3 _ rfl; (with_reducible repeat (first | refine Qt ?_ _ | refine Qh ?_ | refine Qaq ?_ _)); exact BK114.out) k_ hk⟩)); (case aO => exact (by refine pR ?_; exact Kd.R_mono (Kd.R_far (p := ⟨gb114, 4, none⟩) (Kd.R_far (p := ⟨gb114, 3, none⟩) (Kd.R_mono HO_6.out (fun k_ hk => (⟨hk, hk.1⟩ : _ ∧ k_ ≠ gb114))) (fun _ hk => hk.2) (.int .i64 t127)) (fun _ hk => hk.2) (.int .i64 t128)) (fun _ hk => ⟨hk.1.2, hk.1.1⟩))); (case aS => exact (Qr (pE HB))); (case aL => have := LMc24.out; omega); intro v130 w51 ho hb hg hat; rw [← Ny129.out] at ho; replace BK111 := Qa.mk (Ja (g := gb111) (o := .cells #[.int .u8 ((Qap l0 x8_1).f0), .int .u8 ((Qap l0 x8_1).f1), .int .u8 ((Qap l0 x8_1).f2), .int .u8 ((Qap l0 x8_1).f3), .int .u8 ((Qap l0 x8_1).f4)] 89 (0, 0)) (pF BK111) hg (Kd.R_ne HO_6.out BK111.out (by decide))); replace HO123 := Qa.mk (Kd.R_over' (by refine pR ?_; exact (Kd.R_mono (Kd.R_far (p := ⟨gb114, 4, none⟩) (Kd.R_far (p := ⟨gb114, 3, none⟩) (Kd.R_types HO123.out BK114.out (by decide)) (fun _ hk => hk.2) (.int .i64 t127)) (fun _ hk => hk.2) (.int .i64 t128)) (fun _ h_ => h_.1))) (Kd.R_typed (by refine pR ?_; exact (Kd.R_mono (Kd.R_far (p := ⟨gb114, 4, none⟩) (Kd.R_far (p := ⟨gb114, 3, none⟩) (Kd.R_mono HO_6.out (fun k_ hk => (⟨hk, hk.1⟩ : _ ∧ k_ ≠ gb114))) (fun _ hk => hk.2) (.int .i64 t127)) (fun _ hk => hk.2) (.int .i64 t128)) (fun _ h_ => h_.1)))) (by decide) hg); replace BK114 := Qa.mk (Ja (g := gb114) (o := .cells #[.int .i64 (wrap64 (1 + (Int.tmod (wrap64 ((Qap l0 x8_1).f0)) 60))), .int .i64 ji15, .int .i64 (Int.tmod (wrap64 ((Qap l0 x8_1).f2)) 20), .int .i64 t127, .int .i64 t128] 68 (0, 0)) (by refine pB ?_; refine Qg (cs := #[.int .i64 (wrap64 (1 + (Int.tmod (wrap64 ((Qap l0 x8_1).f0)) 60))), .int .i64 ji15, .int .i64 (Int.tmod (wrap64 ((Qap l0 x8_1).f2)) 20), .int .i64 t127, .int .i64 t113]) ?_ 4 _ rfl; refine pB ?_; refine Qg (cs := #[.int .i64 (wrap64 (1 + (Int.tmod (wrap64 ((Qap l0 x8_1).f0)) 60))), .int .i64 ji15, .int .i64 (Int.tmod (wrap64 ((Qap l0 x8_1).f2)) 20), .int .i64 t112, .int .i64 t113]) ?_ 3 _ rfl; (with_reducible repeat (first | refine Qt ?_ _ | refine Qh ?_ | refine Qaq ?_ _)); exact BK114.out) hg (Kd.R_away HO_6.out (fun _ hk => hk.1))); replace HO126 := Qa.mk (Kd.R_after (ok := (fun k_ => k_ ≠ gb114)) (by refine pR ?_; exact Kd.R_mono (Kd.R_far (p := ⟨gb114, 4, none⟩) (Kd.R_far (p := ⟨gb114, 3, none⟩) (Kd.R_mono HO126.out (fun k_ hk => (⟨hk, hk.2⟩ : _ ∧ k_ ≠ gb114))) (fun _ hk => hk.2) (.int .i64 t127)) (fun _ hk => hk.2) (.int .i64 t128)) (fun _ hk => ⟨hk.1.2, hk.1.1⟩)) hg hat); replace HB := Qa.mk (hb); have HO131 := Qa.mk (ho); clear HO_6; clear ho hb hg hat))
           go_roundg kj8
           case measure => have := HK1.out; have := HJ8.out; omega
           case rel => exact ⟨(y124), (y129), (y121), (wrap64 (x8_1 + 1)), eS, H', ⟨by have := HK1.out; have := HJ8.out; omega⟩, ⟨by (with_reducible repeat (first | apply Kd.R_alloc | apply Kd.R_drewN | apply Kd.R_drew)); exact Kd.R_mono HO126.out (fun _ hk => hk.2)⟩, ⟨by (with_reducible repeat (first | apply Kd.R_alloc | apply Kd.R_drewN | apply Kd.R_drew)); exact Kd.R_mono HO131.out (fun _ hk => hk.1)⟩, ⟨by (with_reducible repeat (first | apply Kd.R_alloc | apply Kd.R_drewN | apply Kd.R_drew)); exact HO123.out⟩, ⟨pE HB⟩⟩
          ·
           rw [if_neg c24] at H; exact absurd H (by simp)
         ·
          rw [if_neg c22] at H; exact absurd H (by simp)
        ·
         rw [if_neg c21] at H; exact absurd H (by simp)
       ·
        rw [if_neg c13] at H; exact absurd H (by simp)
      ·
       rw [if_neg c12] at H; exact absurd H (by simp)
     ·
      replace c11 := Bool.eq_false_iff.mpr c11; subst c11; rw [if_neg (show ¬ (false = true) by decide)] at H; obtain ⟨y132, hy132⟩ : ∃ y_ : List S68, y_ = (([] : List S68)) := ⟨_, rfl⟩
      replace H : (if y132.length + x5_1.length < 3518437208883 then ((QN.f kj8 (y132 ++ x5_1)).bind fun bt138 => ((some (([] : List S68) : List S68)).bind fun y145 => (if y145.length + x6_1.length < 3518437208883 then ((QN.f kj8 (y145 ++ x6_1)).bind fun bt151 => (if bt138.2.2 = 0 then (if bt151.2.2 = 0 then ((Qar.f kj8 bt138.1 bt138.2.1).bind fun t158 => (if t158 = true then ((Qar.f kj8 bt138.1 bt151.1).bind fun t159 => (if t159 = true then ((Qar.f kj8 bt151.1 bt151.2.1).bind fun t160 => (if t160 = true then ((Qar.f kj8 bt151.2.1 bt138.2.1).bind fun t161 => (Qao.j2 kj8 x5_1 x7_1 bt138.1 bt138.2.1 (!t161))) else (Qao.j2 kj8 x5_1 x7_1 bt138.1 bt138.2.1 true))) else (Qao.j2 kj8 x5_1 x7_1 bt138.1 bt138.2.1 true))) else (Qao.j2 kj8 x5_1 x7_1 bt138.1 bt138.2.1 true))) else (Qao.j2 kj8 x5_1 x7_1 bt138.1 bt138.2.1 true)) else (Qao.j2 kj8 x5_1 x7_1 bt138.1 bt138.2.1 true))) else (none)))) else (none)) = some r := yy hy132 H; have Ny132 := Qa.mk hy132; clear hy132; by_cases c52 : y132.length + x5_1.length < 3518437208883
      ·
       rw [if_pos c52] at H; have LMc52 := Qa.mk c52; clear c52; obtain ⟨y135, hy135⟩ : ∃ y_ : List S68, y_ = (y132 ++ x5_1) := ⟨_, rfl⟩
       replace H : Option.bind (QN.f kj8 y135) _ = some r := yy hy135 H; have Ny135 := Qa.mk hy135; clear hy135; obtain ⟨⟨t138, t139, t140⟩, A53, H⟩ := bi H; obtain ⟨y145, hy145⟩ : ∃ y_ : List S68, y_ = (([] : List S68)) := ⟨_, rfl⟩
       replace H : (if y145.length + x6_1.length < 3518437208883 then ((QN.f kj8 (y145 ++ x6_1)).bind fun bt151 => (if t140 = 0 then (if bt151.2.2 = 0 then ((Qar.f kj8 t138 t139).bind fun t158 => (if t158 = true then ((Qar.f kj8 t138 bt151.1).bind fun t159 => (if t159 = true then ((Qar.f kj8 bt151.1 bt151.2.1).bind fun t160 => (if t160 = true then ((Qar.f kj8 bt151.2.1 t139).bind fun t161 => (Qao.j2 kj8 x5_1 x7_1 t138 t139 (!t161))) else (Qao.j2 kj8 x5_1 x7_1 t138 t139 true))) else (Qao.j2 kj8 x5_1 x7_1 t138 t139 true))) else (Qao.j2 kj8 x5_1 x7_1 t138 t139 true))) else (Qao.j2 kj8 x5_1 x7_1 t138 t139 true)) else (Qao.j2 kj8 x5_1 x7_1 t138 t139 true))) else (none)) = some r := yy hy145 H; have Ny145 := Qa.mk hy145; clear hy145; by_cases c54 : y145.length + x6_1.length < 3518437208883
       ·
        rw [if_pos c54] at H; have LMc54 := Qa.mk c54; clear c54; obtain ⟨y148, hy148⟩ : ∃ y_ : List S68, y_ = (y145 ++ x6_1) := ⟨_, rfl⟩
        replace H : Option.bind (QN.f kj8 y148) _ = some r := yy hy148 H; have Ny148 := Qa.mk hy148; clear hy148; obtain ⟨⟨t151, t152, t153⟩, A55, H⟩ := bi H; have HC56 := Qa.mk H; clear H; go_upto_region 15 with (first | ((with_reducible refine gd 115 ?_); (try (refine QG (by rfl) ?_; dsimp only)); refine rL k68 68 115 ([] : List S68) [] (Reps.none _ _) ?_; intro v133 w57 ho58 hb; replace ho58 := yR Ny132 ho58; replace HO_7 := rb HO_7 hb; have HO134 := Qa.mk (Kd.R_lower (Kd.R_new' (Kd.R_new' ho58 (Kd.R_lt (pR HO_5.out))) (Kd.R_lt (pR HO_6.out))) (Qr (pE HB))); replace HO_5 := re HO_5 ho58 hb; replace HO_6 := re HO_6 ho58 hb; replace HB := bs HB hb; clear hb ho58; obtain ⟨Ao60, co60, eo60⟩ := Kd.R_slice HO_5.out; subst eo60) | ((with_reducible refine JA (b := .append) (xs := #[.tmp 115, .tmp 116]) rfl ?_); (try (refine QG (by rfl) ?_; dsimp only)); at_builtin; refine Kd.R_append_rows k68 (w0 := w) w.heap.size rfl (.tmp 115) (.tmp 116) 64 68 (.agg #[(.int .i64 0), (.int .i64 0), (.int .i64 0), (.int .i64 0), (.int .i64 0)]) 40 rfl Tryz.underlying64 info68 rfl (by decide) (by omega) v133 y132 x5_1 _ _ _ (fun k_ => some k_ ≠ (.slice Ao60 x5_1.length co60 : Value).ownBlock ∧ some k_ ≠ (u6 : Value).ownBlock) (fun _ => False) rfl rfl ?aO ?aR (fun _ _ h => h) (fun _ h => h.elim) ?aF ?aB ?aS ?aL ?_; (case aR => exact pC (Kd.R_reads' HO_5.out).2.2); (case aB => exact (pE HB)); (case aF => exact (fun k_ hk => ⟨Kd.fresh' (Kd.R_lt (pR HO_5.out)) k_ hk, Kd.fresh' (Kd.R_lt (pR HO_6.out)) k_ hk⟩)); (case aO => exact (by refine pR ?_; exact Kd.R_mono HO134.out (fun _ hk => ⟨hk.1.2, hk.2⟩))); (case aS => exact (Qr (pE HB))); (case aL => have := LMc52.out; omega); intro v136 w59 ho hb hg hat; rw [← Ny135.out] at ho; replace HO_5 := Qa.mk (Kd.R_after (ok := (fun k_ => some k_ ≠ (u6 : Value).ownBlock)) (pR HO_5.out) hg hat); replace HO_6 := Qa.mk (Kd.R_after (ok := (fun k_ => some k_ ≠ (.slice Ao60 x5_1.length co60 : Value).ownBlock)) (pR HO_6.out) hg hat); replace HO_7 := Qa.mk (Kd.R_over' (pR HO_7.out) (Kd.R_typed (pR HO134.out)) (by decide) hg); replace HB := Qa.mk (hb); have HO137 := Qa.mk (ho); clear HO134; clear ho hb hg hat; obtain ⟨Ao61, co61, eo61⟩ := Kd.R_slice HO137.out; subst eo61) | ((with_reducible refine gc 40 rfl ?_); refine gL 118 Tryz.func40 #[.slice Ao61 y135.length co61] ?_; (with_reducible refine (QN.calls kj8 _ _ y135 t138 t139 t140 _ ?side1 ?side2 A53.out).mono ?_); (case side1 => exact pC (Kd.R_reads' HO137.out).2.2); (case side2 => exact (Kd.R_reads' HO137.out).2.1); rintro e w62 ⟨v141, v143, rfl, ho0, ho1, hb⟩; refine ⟨_, rfl, ?_⟩; replace HO_5 := rb HO_5 hb; replace HO_6 := rb HO_6 hb; replace HO137 := rb HO137 hb; have HO142 := Qa.mk (Kd.R_lower (Kd.R_new' ho0 (Kd.R_lt (pR HO_7.out))) (Qr (pE HB))); have HO144 := Qa.mk (Kd.R_lower (Kd.R_new' ho1 (Kd.R_lt (pR HO_7.out))) (Qr (pE HB))); replace HO_7 := Qa.mk (Kd.R_mono (Kd.R_told (Kd.R_told (Kd.R_old (pR HO_7.out) hb) (Kd.R_base ho0)) (Kd.R_base ho1)) (fun _ h_ => h_.1)); replace HB := bs HB hb; clear hb ho0 ho1) | ((with_reducible refine gd 123 ?_); (try (refine QG (by rfl) ?_; dsimp only)); refine rL k68 68 123 ([] : List S68) [] (Reps.none _ _) ?_; intro v146 w63 ho64 hb; replace ho64 := yR Ny145 ho64; replace HO_7 := rb HO_7 hb; replace HO142 := rb HO142 hb; replace HO144 := rb HO144 hb; have HO147 := Qa.mk (Kd.R_lower (Kd.R_new' (Kd.R_new' (Kd.R_new' ho64 (Kd.R_lt (pR HO_5.out))) (Kd.R_lt (pR HO_6.out))) (Kd.R_lt (pR HO137.out))) (Qr (pE HB))); replace HO_5 := re HO_5 ho64 hb; replace HO_6 := re HO_6 ho64 hb; replace HO137 := re HO137 ho64 hb; replace HB := bs HB hb; clear hb ho64; obtain ⟨Ao66, co66, eo66⟩ := Kd.R_slice HO_6.out; subst eo66) | ((with_reducible refine JA (b := .append) (xs := #[.tmp 123, .tmp 124]) rfl ?_); (try (refine QG (by rfl) ?_; dsimp only)); at_builtin; refine Kd.R_append_rows k68 (w0 := w) w.heap.size rfl (.tmp 123) (.tmp 124) 64 68 (.agg #[(.int .i64 0), (.int .i64 0), (.int .i64 0), (.int .i64 0), (.int .i64 0)]) 40 rfl Tryz.underlying64 info68 rfl (by decide) (by omega) v146 y145 x6_1 _ _ _ (fun k_ => some k_ ≠ (.slice Ao60 x5_1.length co60 : Value).ownBlock ∧ some k_ ≠ (.slice Ao66 x6_1.length co66 : Value).ownBlock ∧ some k_ ≠ (.slice Ao61 y135.length co61 : Value).ownBlock) (fun _ => False) rfl rfl ?aO ?aR (fun _ _ h => h) (fun _ h => h.elim) ?aF ?aB ?aS ?aL ?_; (case aR => exact pC (Kd.R_reads' HO_6.out).2.2); (case aB => exact (pE HB)); (case aF => exact (fun k_ hk => ⟨Kd.fresh' (Kd.R_lt (pR HO_5.out)) k_ hk, Kd.fresh' (Kd.R_lt (pR HO_6.out)) k_ hk, Kd.fresh' (Kd.R_lt (pR HO137.out)) k_ hk⟩)); (case aO => exact (by refine pR ?_; exact Kd.R_mono HO147.out (fun _ hk => ⟨hk.1.1.2, ⟨hk.1.2, hk.2⟩⟩))); (case aS => exact (Qr (pE HB))); (case aL => have := LMc54.out; omega); intro v149 w65 ho hb hg hat; rw [← Ny148.out] at ho; replace HO_5 := Qa.mk (Kd.R_after (ok := (fun k_ => some k_ ≠ (.slice Ao66 x6_1.length co66 : Value).ownBlock ∧ some k_ ≠ (.slice Ao61 y135.length co61 : Value).ownBlock)) (pR HO_5.out) hg hat); replace HO_6 := Qa.mk (Kd.R_after (ok := (fun k_ => some k_ ≠ (.slice Ao60 x5_1.length co60 : Value).ownBlock ∧ some k_ ≠ (.slice Ao61 y135.length co61 : Value).ownBlock)) (pR HO_6.out) hg hat); replace HO_7 := Qa.mk (Kd.R_over' (pR HO_7.out) (Kd.R_typed (pR HO147.out)) (by decide) hg); replace HO137 := Qa.mk (Kd.R_after (ok := (fun k_ => some k_ ≠ (.slice Ao60 x5_1.length co60 : Value).ownBlock ∧ some k_ ≠ (.slice Ao66 x6_1.length co66 : Value).ownBlock)) (pR HO137.out) hg hat); replace HO142 := Qa.mk (Kd.R_over' (pR HO142.out) (Kd.R_typed (pR HO147.out)) (by decide) hg); replace HO144 := Qa.mk (Kd.R_over' (pR HO144.out) (Kd.R_typed (pR HO147.out)) (by decide) hg); replace HB := Qa.mk (hb); have HO150 := Qa.mk (ho); clear HO147; clear ho hb hg hat; obtain ⟨Ao67, co67, eo67⟩ := Kd.R_slice HO150.out; subst eo67) | ((with_reducible refine gc 40 rfl ?_); refine gL 126 Tryz.func40 #[.slice Ao67 y148.length co67] ?_; (with_reducible refine (QN.calls kj8 _ _ y148 t151 t152 t153 _ ?side1 ?side2 A55.out).mono ?_); (case side1 => exact pC (Kd.R_reads' HO150.out).2.2); (case side2 => exact (Kd.R_reads' HO150.out).2.1); rintro e w68 ⟨v154, v156, rfl, ho0, ho1, hb⟩; refine ⟨_, rfl, ?_⟩; replace HO_5 := rb HO_5 hb; replace HO_6 := rb HO_6 hb; replace HO137 := rb HO137 hb; replace HO150 := rb HO150 hb; have HO155 := Qa.mk (Kd.R_lower (Kd.R_new' (Kd.R_new' (Kd.R_new' ho0 (Kd.R_lt (pR HO_7.out))) (Kd.R_lt (pR HO142.out))) (Kd.R_lt (pR HO144.out))) (Qr (pE HB))); have HO157 := Qa.mk (Kd.R_lower (Kd.R_new' (Kd.R_new' (Kd.R_new' ho1 (Kd.R_lt (pR HO_7.out))) (Kd.R_lt (pR HO142.out))) (Kd.R_lt (pR HO144.out))) (Qr (pE HB))); replace HO_7 := Qa.mk (Kd.R_mono (Kd.R_told (Kd.R_told (Kd.R_old (pR HO_7.out) hb) (Kd.R_base ho0)) (Kd.R_base ho1)) (fun _ h_ => h_.1)); replace HO142 := Qa.mk (Kd.R_mono (Kd.R_told (Kd.R_told (Kd.R_old (pR HO142.out) hb) (Kd.R_base ho0)) (Kd.R_base ho1)) (fun _ h_ => h_.1)); replace HO144 := Qa.mk (Kd.R_mono (Kd.R_told (Kd.R_told (Kd.R_old (pR HO144.out) hb) (Kd.R_base ho0)) (Kd.R_base ho1)) (fun _ h_ => h_.1)); replace HB := bs HB hb; clear hb ho0 ho1))
        (try simp only [Act.put, List.setIfInBounds_toArray, List.set_cons_zero, List.set_cons_succ])
        go_cut [159] (fun v159 wc => ∃ (kq : Nat) (x159_55 : Bool), v159 = .bool x159_55 ∧ Qa (Qao.j2 kq x5_1 x7_1 t138 t139 x159_55 = some r) ∧ Qa (kq ≤ kj8) ∧ Qa (Kd.R k68 68 wc w.heap.size (fun _ => True) (.slice Ao60 x5_1.length co60) x5_1) ∧ Qa (Kd.R (Kd.int .i64) 3 wc w.heap.size (fun k_ => some k_ ≠ (v141 : Value).ownBlock ∧ some k_ ≠ (v143 : Value).ownBlock) u7 x7_1) ∧ Qa (Kd.R (Kd.int .i64) 3 wc w.heap.size (fun k_ => some k_ ≠ (u7 : Value).ownBlock ∧ some k_ ≠ (v143 : Value).ownBlock) v141 t138) ∧ Qa (Kd.R (Kd.int .i64) 3 wc w.heap.size (fun k_ => some k_ ≠ (u7 : Value).ownBlock ∧ some k_ ≠ (v141 : Value).ownBlock) v143 t139) ∧ Qa (Below w.heap.size w wc))
        case first =>
         have H := HC56.out; clear HC56; by_cases c69 : t140 = 0
         ·
          rw [if_pos c69] at H; have c69b0 : (t140 == 0) = true := beq_iff_eq.mpr c69; have c69b1 : (t140 != 0) = false := bne_eq_false_iff_eq.mpr c69; clear c69
          (first | rw [c69b0] | (simp only [QR, QU]; rw [c69b0]) | skip)
          by_cases c70 : t153 = 0
          ·
           rw [if_pos c70] at H; have c70b0 : (t153 == 0) = true := beq_iff_eq.mpr c70; have c70b1 : (t153 != 0) = false := bne_eq_false_iff_eq.mpr c70; clear c70; obtain ⟨t158, A71, H⟩ := bi H; by_cases c72 : t158 = true
           ·
            subst c72; rw [if_pos rfl] at H; obtain ⟨t159, A73, H⟩ := bi H; by_cases c74 : t159 = true
            ·
             subst c74; rw [if_pos rfl] at H; obtain ⟨t160, A75, H⟩ := bi H; by_cases c76 : t160 = true
             ·
              subst c76; rw [if_pos rfl] at H; obtain ⟨t161, A77, H⟩ := bi H; have H' := Qa.mk H; clear H; obtain ⟨Ao78, co78, eo78⟩ := Kd.R_slice HO142.out; subst eo78; obtain ⟨Ao79, co79, eo79⟩ := Kd.R_slice HO144.out; subst eo79; go_wp2_with (first | (go_at_call 61; (with_reducible refine (Qar.calls kj8 _ _ t138 _ _ t139 true _ ?side1 ?side2 ?side3 ?side4 A71.out).mono ?_); (case side1 => exact pC (Kd.R_reads' HO142.out).2.2); (case side2 => exact (Kd.R_reads' HO142.out).2.1); (case side3 => exact pC (Kd.R_reads' HO144.out).2.2); (case side4 => exact (Kd.R_reads' HO144.out).2.1); rintro e w' ⟨rfl, ⟨nd, rfl⟩⟩; obtain ⟨Ao80, co80, eo80⟩ := Kd.R_slice HO155.out; subst eo80) | (go_at_call 61; (with_reducible refine (Qar.calls kj8 _ _ t138 _ _ t151 true _ ?side1 ?side2 ?side3 ?side4 A73.out).mono ?_); (case side1 => exact pC (Kd.R_reads' HO142.out).2.2); (case side2 => exact (Kd.R_reads' HO142.out).2.1); (case side3 => exact pC (Kd.R_reads' HO155.out).2.2); (case side4 => exact (Kd.R_reads' HO155.out).2.1); rintro e w' ⟨rfl, ⟨nd, rfl⟩⟩; obtain ⟨Ao81, co81, eo81⟩ := Kd.R_slice HO157.out; subst eo81) | (go_at_call 61; (with_reducible refine (Qar.calls kj8 _ _ t151 _ _ t152 true _ ?side1 ?side2 ?side3 ?side4 A75.out).mono ?_); (case side1 => exact pC (Kd.R_reads' HO155.out).2.2); (case side2 => exact (Kd.R_reads' HO155.out).2.1); (case side3 => exact pC (Kd.R_reads' HO157.out).2.2); (case side4 => exact (Kd.R_reads' HO157.out).2.1); rintro e w' ⟨rfl, ⟨nd, rfl⟩⟩) | (go_at_call 61; (with_reducible refine (Qar.calls kj8 _ _ t152 _ _ t139 t161 _ ?side1 ?side2 ?side3 ?side4 A77.out).mono ?_); (case side1 => exact pC (Kd.R_reads' HO157.out).2.2); (case side2 => exact (Kd.R_reads' HO157.out).2.1); (case side3 => exact pC (Kd.R_reads' HO144.out).2.2); (case side4 => exact (Kd.R_reads' HO144.out).2.1); rintro e w' ⟨rfl, ⟨nd, rfl⟩⟩))
              go_meet
              case rel => exact ⟨_, (!t161), eS, H', ⟨by have := HK1.out; have := HJ8.out; first | omega | exact Nat.le_refl _⟩, ⟨by (with_reducible repeat (first | apply Kd.R_alloc | apply Kd.R_drewN | apply Kd.R_drew)); exact Kd.R_mono HO_5.out (fun _ hk => trivial)⟩, ⟨by (with_reducible repeat (first | apply Kd.R_alloc | apply Kd.R_drewN | apply Kd.R_drew)); exact Kd.R_mono HO_7.out (fun _ hk => ⟨hk.1.1.1.2, hk.1.1.2⟩)⟩, ⟨by (with_reducible repeat (first | apply Kd.R_alloc | apply Kd.R_drewN | apply Kd.R_drew)); exact Kd.R_mono HO142.out (fun _ hk => ⟨hk.1.1.2, hk.1.1.1⟩)⟩, ⟨by (with_reducible repeat (first | apply Kd.R_alloc | apply Kd.R_drewN | apply Kd.R_drew)); exact Kd.R_mono HO144.out (fun _ hk => ⟨hk.1.1.2, hk.1.1.1⟩)⟩, ⟨pE HB⟩⟩
             ·
              replace c76 := Bool.eq_false_iff.mpr c76; subst c76; rw [if_neg (show ¬ (false = true) by decide)] at H; exact (Qao.dead_j2 _ _ _ _ _ _ H HRT.out).elim
            ·
             replace c74 := Bool.eq_false_iff.mpr c74; subst c74; rw [if_neg (show ¬ (false = true) by decide)] at H; exact (Qao.dead_j2 _ _ _ _ _ _ H HRT.out).elim
           ·
            replace c72 := Bool.eq_false_iff.mpr c72; subst c72; rw [if_neg (show ¬ (false = true) by decide)] at H; exact (Qao.dead_j2 _ _ _ _ _ _ H HRT.out).elim
          ·
           rw [if_neg c70] at H; have c70b0 : (t153 == 0) = false := beq_eq_false_iff_ne.mpr c70; have c70b1 : (t153 != 0) = true := bne_iff_ne.mpr c70; exact (Qao.dead_j2 _ _ _ _ _ _ H HRT.out).elim
         ·
          rw [if_neg c69] at H; have c69b0 : (t140 == 0) = false := beq_eq_false_iff_ne.mpr c69; have c69b1 : (t140 != 0) = true := bne_iff_ne.mpr c69
          (first | rw [c69b0] | (simp only [QR, QU]; rw [c69b0]) | skip)
          exact (Qao.dead_j2 _ _ _ _ _ _ H HRT.out).elim
        case rest =>
         clear HC56; try clear c1
         try clear c2
         try clear p2
         try clear c4
         try clear c5
         try clear c6
         try clear p6
         try clear c7
         try clear c11
         try clear c12
         try clear c13
         try clear c21
         try clear c22
         try clear c24
         try clear c40
         try clear c52
         try clear c54
         try clear c56
         try clear c57
         try clear c58
         try clear p64
         try clear c69
         try clear c69b0
         try clear c69b1
         try clear c70
         try clear c70b0
         try clear c70b1
         try clear c72
         try clear c74
         try clear c76
         try clear hcz39_0
         try clear hcz39_1
         try clear hcz39_2
         try clear hcz39_3
         try clear hcz39_4
         try clear hcz47_0
         try clear hcz47_1
         try clear hcz47_2
         try clear hcz47_3
         try clear hcz47_4
         try clear hcz50_0
         try clear hcz50_1
         try clear hcz50_2
         try clear hcz50_3
         try clear hcz50_4
         try clear hfz38_3
         try clear hfz38_4
         try clear hfz39_0
         try clear hfz39_1
         try clear hfz39_2
         try clear hfz39_3
         try clear hfz39_4
         try clear hfz47_0
         try clear hfz47_1
         try clear hfz47_2
         try clear hfz47_3
         try clear hfz47_4
         try clear hfz50_0
         try clear hfz50_1
         try clear hfz50_2
         try clear hfz50_3
         try clear hfz50_4
         obtain ⟨kq, x159_55, rfl, HA, HJ55, HO_5, HO_7, HO_12, HO_13, HB⟩ := hcut
         cases kq with
         | zero => exact absurd HA.out (by simp [Qao.j2])
         | succ kj55 =>
          have H := HA.out; clear HA; simp only [Qao.j2] at H; by_cases c82 : x159_55 = true
          ·
           subst c82; rw [if_pos rfl] at H; exact absurd ((Option.some.inj H).trans HRT.out) (by simp)
          ·
           replace c82 := Bool.eq_false_iff.mpr c82; subst c82; rw [if_neg (show ¬ (false = true) by decide)] at H; have H' := Qa.mk H; clear H; go_wp2
           go_loopg [18] kj55 (fun kq v18 w' => ∃ (x18_4 : Int), v18 = .int .i64 x18_4 ∧ Qa (Qao.l1 kq x5_1 x7_1 t138 t139 x18_4 = some r) ∧ Qa (kq ≤ kj55) ∧ Qa (Kd.R k68 68 w' w.heap.size (fun _ => True) (.slice Ao60 x5_1.length co60) x5_1) ∧ Qa (Kd.R (Kd.int .i64) 3 w' w.heap.size (fun k_ => some k_ ≠ (v141 : Value).ownBlock ∧ some k_ ≠ (v143 : Value).ownBlock) u7 x7_1) ∧ Qa (Kd.R (Kd.int .i64) 3 w' w.heap.size (fun k_ => some k_ ≠ (u7 : Value).ownBlock ∧ some k_ ≠ (v143 : Value).ownBlock) v141 t138) ∧ Qa (Kd.R (Kd.int .i64) 3 w' w.heap.size (fun k_ => some k_ ≠ (u7 : Value).ownBlock ∧ some k_ ≠ (v141 : Value).ownBlock) v143 t139) ∧ Qa (Below w.heap.size w w'))
           case atStart => exact ⟨(0), eS, H', ⟨Nat.le_refl _⟩, ⟨by (with_reducible repeat (first | apply Kd.R_alloc | apply Kd.R_drewN | apply Kd.R_drew)); exact HO_5.out⟩, ⟨by (with_reducible repeat (first | apply Kd.R_alloc | apply Kd.R_drewN | apply Kd.R_drew)); exact HO_7.out⟩, ⟨by (with_reducible repeat (first | apply Kd.R_alloc | apply Kd.R_drewN | apply Kd.R_drew)); exact HO_12.out⟩, ⟨by (with_reducible repeat (first | apply Kd.R_alloc | apply Kd.R_drewN | apply Kd.R_drew)); exact HO_13.out⟩, ⟨pE HB⟩⟩
           case round =>
            clear H'; try clear c1
            try clear c2
            try clear p2
            try clear c4
            try clear c5
            try clear c6
            try clear p6
            try clear c7
            try clear c8
            try clear c11
            try clear c12
            try clear c13
            try clear c21
            try clear c22
            try clear c24
            try clear c40
            try clear c52
            try clear c54
            try clear c56
            try clear c57
            try clear c58
            try clear p64
            try clear c69
            try clear c69b0
            try clear c69b1
            try clear c70
            try clear c70b0
            try clear c70b1
            try clear c72
            try clear c74
            try clear c76
            try clear c82
            try clear hcz39_0
            try clear hcz39_1
            try clear hcz39_2
            try clear hcz39_3
            try clear hcz39_4
            try clear hcz47_0
            try clear hcz47_1
            try clear hcz47_2
            try clear hcz47_3
            try clear hcz47_4
            try clear hcz50_0
            try clear hcz50_1
            try clear hcz50_2
            try clear hcz50_3
            try clear hcz50_4
            try clear hfz38_3
            try clear hfz38_4
            try clear hfz39_0
            try clear hfz39_1
            try clear hfz39_2
            try clear hfz39_3
            try clear hfz39_4
            try clear hfz47_0
            try clear hfz47_1
            try clear hfz47_2
            try clear hfz47_3
            try clear hfz47_4
            try clear hfz50_0
            try clear hfz50_1
            try clear hfz50_2
            try clear hfz50_3
            try clear hfz50_4
            try clear p2
            try clear p6
            try clear p64
            obtain ⟨x18_4, rfl, HA, HK4, HO_5, HO_7, HO_12, HO_13, HB⟩ := hrel
            cases gk with
            | zero => exact absurd HA.out (by simp [Qao.l1])
            | succ k4 =>
             have H := HA.out; clear HA; simp only [Qao.l1] at H; by_cases c83 : x18_4 < (x5_1.length : Int)
             ·
              rw [if_pos c83] at H; have c83b0 : decide (x18_4 < (x5_1.length : Int)) = true := decide_eq_true c83; clear c83; by_cases c84 : 0 ≤ x18_4
              ·
               rw [if_pos c84] at H; have c84b0 : decide (0 ≤ x18_4) = true := decide_eq_true c84; clear c84; by_cases c85 : x18_4 < (x7_1.length : Int)
               ·
                rw [if_pos c85] at H; have c85b0 : decide (x18_4 < (x7_1.length : Int)) = true := decide_eq_true c85; clear c85; obtain ⟨t164, A86, H⟩ := bi H; by_cases c87 : t164 = true
                ·
                 subst c87; rw [if_pos rfl] at H; by_cases c88 : ((rd x7_1 x18_4) < (wrap64 (16 * ((Qu x5_1 x18_4).f0))))
                 ·
                  rw [if_pos c88] at H; have c88b0 : decide ((rd x7_1 x18_4) < (wrap64 (16 * ((Qu x5_1 x18_4).f0)))) = true := decide_eq_true c88; clear c88; by_cases c89 : (rd x7_1 x18_4) < (wrap64 (16 * ((Qu x5_1 x18_4).f0)))
                  ·
                   rw [if_pos c89] at H; have c89b0 : decide ((rd x7_1 x18_4) < (wrap64 (16 * ((Qu x5_1 x18_4).f0)))) = true := decide_eq_true c89; clear c89; obtain ⟨t165, A90, H⟩ := bi H; by_cases c91 : t165 = true
                   ·
                    subst c91; rw [if_pos rfl] at H; have H' := Qa.mk H; clear H
                    try go_wp2
                    replace HO_5 := Qa.mk (Kd.R_drew HO_5.out); replace HO_7 := Qa.mk (Kd.R_drew HO_7.out); replace HO_12 := Qa.mk (Kd.R_drew HO_12.out); replace HO_13 := Qa.mk (Kd.R_drew HO_13.out); replace HB := Qa.mk (QM HB.out); obtain ⟨Ao93, co93, eo93⟩ := Kd.R_slice HO_7.out
                    (first | subst eo93 | (injection eo93 with f1_ f2_ f3_; have f4_ := f1_.symm; have f5_ := f3_.symm; clear f1_ f2_ f3_; subst f4_; subst f5_))
                    have p162 : 0 ≤ (x18_4 : Int) := dT; have q162 : x18_4 < (x7_1.length : Int) := dT; obtain ⟨ad162, e162, hx162_0⟩ := Kd.at_int (Kd.R_reads' HO_7.out).2.2 x18_4 p162 q162
                    cases e162
                    replace p162 := eq_true p162; replace q162 := eq_true q162; have p163 : 0 ≤ (x18_4 : Int) := dT; have q163 : x18_4 < (x5_1.length : Int) := dT; obtain ⟨ad163, e163, hx163_0, hx163_1, hx163_2, hx163_3, hx163_4⟩ := Xz (Kd.R_reads' HO_5.out).2.2 x18_4 p163 q163
                    cases e163
                    replace p163 := eq_true p163; replace q163 := eq_true q163; refine JS (n := 12) (S := fun w' => w'.cell? (ad162.add (x18_4).toNat) = some (.int .i64 (rd x7_1 x18_4)) ∧ w'.cell? (ad163.add ((x18_4).toNat * 5)) = some (.int .i64 ((Qu x5_1 x18_4).f0)) ∧ w'.cell? ⟨(ad163.add ((x18_4).toNat * 5)).block, (ad163.add ((x18_4).toNat * 5)).off + 1, none⟩ = some (.int .i64 ((Qu x5_1 x18_4).f1)) ∧ w'.cell? ⟨(ad163.add ((x18_4).toNat * 5)).block, (ad163.add ((x18_4).toNat * 5)).off + 2, none⟩ = some (.int .i64 ((Qu x5_1 x18_4).f2)) ∧ w'.cell? ⟨(ad163.add ((x18_4).toNat * 5)).block, (ad163.add ((x18_4).toNat * 5)).off + 3, none⟩ = some (.int .i64 ((Qu x5_1 x18_4).f3.f0)) ∧ w'.cell? ⟨(ad163.add ((x18_4).toNat * 5)).block, (ad163.add ((x18_4).toNat * 5)).off + 4, none⟩ = some (.int .i64 ((Qu x5_1 x18_4).f3.f1))) (ds := []) #[false, false, false, false, false, false, false, false, false, false, false, false] (by kernel_rfl) rfl rfl ⟨hx162_0, hx163_0, hx163_1, hx163_2, hx163_3, hx163_4⟩ (fun hHeld => ?_); refine Jk Qao.tab20 Qao.bits20 (fun HT_ HW_ => ?_); generalize wr.drew = w92 at HO_5 HO_7 HO_12 HO_13 HB hx162_0 hx163_0 hx163_1 hx163_2 hx163_3 hx163_4 hHeld ⊢; refine pu 0 166 ?_; refine pu 1 167 ?_; refine pu 2 168 ?_; refine pu 4 170 ?_; refine pu 5 171 ?_; refine pu 6 172 ?_; refine pu 7 173 ?_; refine tk 3 169 hHeld ?_; refine tk 8 174 hHeld ?_; refine pu 9 175 ?_; refine pu 10 176 ?_; refine pu 11 19 ?_; refine JD (JM HT_.out (by kernel_rfl)) ?_; obtain ⟨Ao94, co94, eo94⟩ := Kd.R_slice HO_12.out; subst eo94
                    try go_wp2_with (first | ((with_reducible refine gc 62 rfl ?_); refine gL 179 Tryz.func62 #[.slice Ao94 t138.length co94, .int .i64 x18_4] ?_; (with_reducible refine (Qas.calls k4 _ _ t138 x18_4 true _ ?side1 ?side2 A86.out).mono ?_); (case side1 => exact pC (Kd.R_reads' HO_12.out).2.2); (case side2 => exact (Kd.R_reads' HO_12.out).2.1); rintro e w' ⟨rfl, ⟨nd, rfl⟩⟩; refine ⟨_, rfl, ?_⟩; obtain ⟨Ao95, co95, eo95⟩ := Kd.R_slice HO_13.out; subst eo95) | (go_at_call 62; (with_reducible refine (Qas.calls k4 _ _ t139 x18_4 true _ ?side1 ?side2 A90.out).mono ?_); (case side1 => exact pC (Kd.R_reads' HO_13.out).2.2); (case side2 => exact (Kd.R_reads' HO_13.out).2.1); rintro e w' ⟨rfl, ⟨nd, rfl⟩⟩))
                    go_roundg k4
                    case measure => have := HK1.out; have := HJ8.out; have := HJ55.out; have := HK4.out; omega
                    case rel => exact ⟨(wrap64 (x18_4 + 1)), eS, H', ⟨by have := HK1.out; have := HJ8.out; have := HJ55.out; have := HK4.out; omega⟩, ⟨by (with_reducible repeat (first | apply Kd.R_alloc | apply Kd.R_drewN | apply Kd.R_drew)); exact HO_5.out⟩, ⟨by (with_reducible repeat (first | apply Kd.R_alloc | apply Kd.R_drewN | apply Kd.R_drew)); exact HO_7.out⟩, ⟨by (with_reducible repeat (first | apply Kd.R_alloc | apply Kd.R_drewN | apply Kd.R_drew)); exact HO_12.out⟩, ⟨by (with_reducible repeat (first | apply Kd.R_alloc | apply Kd.R_drewN | apply Kd.R_drew)); exact HO_13.out⟩, ⟨pE HB⟩⟩
                   ·
                    replace c91 := Bool.eq_false_iff.mpr c91; subst c91; rw [if_neg (show ¬ (false = true) by decide)] at H; exact absurd ((Option.some.inj H).trans HRT.out) (by simp)
                  ·
                   exact absurd (c88b0.symm.trans (decide_eq_false c89)) (by decide)
                 ·
                  rw [if_neg c88] at H; have c88b0 : decide ((rd x7_1 x18_4) < (wrap64 (16 * ((Qu x5_1 x18_4).f0)))) = false := decide_eq_false c88; clear c88; exact absurd ((Option.some.inj H).trans HRT.out) (by simp)
                ·
                 replace c87 := Bool.eq_false_iff.mpr c87; subst c87; rw [if_neg (show ¬ (false = true) by decide)] at H; by_cases c99 : (rd x7_1 x18_4) < (wrap64 (16 * ((Qu x5_1 x18_4).f0)))
                 ·
                  rw [if_pos c99] at H; have c99b0 : decide ((rd x7_1 x18_4) < (wrap64 (16 * ((Qu x5_1 x18_4).f0)))) = true := decide_eq_true c99; clear c99; obtain ⟨t166, A100, H⟩ := bi H; by_cases c101 : t166 = true
                  ·
                   subst c101; rw [if_pos rfl] at H; have H' := Qa.mk H; clear H
                   try go_wp2
                   replace HO_5 := Qa.mk (Kd.R_drew HO_5.out); replace HO_7 := Qa.mk (Kd.R_drew HO_7.out); replace HO_12 := Qa.mk (Kd.R_drew HO_12.out); replace HO_13 := Qa.mk (Kd.R_drew HO_13.out); replace HB := Qa.mk (QM HB.out); obtain ⟨Ao103, co103, eo103⟩ := Kd.R_slice HO_7.out
                   (first | subst eo103 | (injection eo103 with f1_ f2_ f3_; have f4_ := f1_.symm; have f5_ := f3_.symm; clear f1_ f2_ f3_; subst f4_; subst f5_))
                   have p162 : 0 ≤ (x18_4 : Int) := dT; have q162 : x18_4 < (x7_1.length : Int) := dT; obtain ⟨ad162, e162, hx162_0⟩ := Kd.at_int (Kd.R_reads' HO_7.out).2.2 x18_4 p162 q162
                   cases e162
                   replace p162 := eq_true p162; replace q162 := eq_true q162; have p163 : 0 ≤ (x18_4 : Int) := dT; have q163 : x18_4 < (x5_1.length : Int) := dT; obtain ⟨ad163, e163, hx163_0, hx163_1, hx163_2, hx163_3, hx163_4⟩ := Xz (Kd.R_reads' HO_5.out).2.2 x18_4 p163 q163
                   cases e163
                   replace p163 := eq_true p163; replace q163 := eq_true q163; refine JS (n := 12) (S := fun w' => w'.cell? (ad162.add (x18_4).toNat) = some (.int .i64 (rd x7_1 x18_4)) ∧ w'.cell? (ad163.add ((x18_4).toNat * 5)) = some (.int .i64 ((Qu x5_1 x18_4).f0)) ∧ w'.cell? ⟨(ad163.add ((x18_4).toNat * 5)).block, (ad163.add ((x18_4).toNat * 5)).off + 1, none⟩ = some (.int .i64 ((Qu x5_1 x18_4).f1)) ∧ w'.cell? ⟨(ad163.add ((x18_4).toNat * 5)).block, (ad163.add ((x18_4).toNat * 5)).off + 2, none⟩ = some (.int .i64 ((Qu x5_1 x18_4).f2)) ∧ w'.cell? ⟨(ad163.add ((x18_4).toNat * 5)).block, (ad163.add ((x18_4).toNat * 5)).off + 3, none⟩ = some (.int .i64 ((Qu x5_1 x18_4).f3.f0)) ∧ w'.cell? ⟨(ad163.add ((x18_4).toNat * 5)).block, (ad163.add ((x18_4).toNat * 5)).off + 4, none⟩ = some (.int .i64 ((Qu x5_1 x18_4).f3.f1))) (ds := []) #[false, false, false, false, false, false, false, false, false, false, false, false] (by kernel_rfl) rfl rfl ⟨hx162_0, hx163_0, hx163_1, hx163_2, hx163_3, hx163_4⟩ (fun hHeld => ?_); refine Jk Qao.tab20 Qao.bits20 (fun HT_ HW_ => ?_); generalize wr.drew = w102 at HO_5 HO_7 HO_12 HO_13 HB hx162_0 hx163_0 hx163_1 hx163_2 hx163_3 hx163_4 hHeld ⊢; refine pu 0 166 ?_; refine pu 1 167 ?_; refine pu 2 168 ?_; refine pu 4 170 ?_; refine pu 5 171 ?_; refine pu 6 172 ?_; refine pu 7 173 ?_; refine tk 3 169 hHeld ?_; refine tk 8 174 hHeld ?_; refine pu 9 175 ?_; refine pu 10 176 ?_; refine pu 11 19 ?_; refine JD (JM HT_.out (by kernel_rfl)) ?_; obtain ⟨Ao104, co104, eo104⟩ := Kd.R_slice HO_12.out; subst eo104
                   try go_wp2_with (first | ((with_reducible refine gc 62 rfl ?_); refine gL 179 Tryz.func62 #[.slice Ao104 t138.length co104, .int .i64 x18_4] ?_; (with_reducible refine (Qas.calls k4 _ _ t138 x18_4 false _ ?side1 ?side2 A86.out).mono ?_); (case side1 => exact pC (Kd.R_reads' HO_12.out).2.2); (case side2 => exact (Kd.R_reads' HO_12.out).2.1); rintro e w' ⟨rfl, ⟨nd, rfl⟩⟩; refine ⟨_, rfl, ?_⟩; obtain ⟨Ao105, co105, eo105⟩ := Kd.R_slice HO_13.out; subst eo105) | (go_at_call 62; (with_reducible refine (Qas.calls k4 _ _ t139 x18_4 true _ ?side1 ?side2 A100.out).mono ?_); (case side1 => exact pC (Kd.R_reads' HO_13.out).2.2); (case side2 => exact (Kd.R_reads' HO_13.out).2.1); rintro e w' ⟨rfl, ⟨nd, rfl⟩⟩))
                   go_roundg k4
                   case measure => have := HK1.out; have := HJ8.out; have := HJ55.out; have := HK4.out; omega
                   case rel => exact ⟨(wrap64 (x18_4 + 1)), eS, H', ⟨by have := HK1.out; have := HJ8.out; have := HJ55.out; have := HK4.out; omega⟩, ⟨by (with_reducible repeat (first | apply Kd.R_alloc | apply Kd.R_drewN | apply Kd.R_drew)); exact HO_5.out⟩, ⟨by (with_reducible repeat (first | apply Kd.R_alloc | apply Kd.R_drewN | apply Kd.R_drew)); exact HO_7.out⟩, ⟨by (with_reducible repeat (first | apply Kd.R_alloc | apply Kd.R_drewN | apply Kd.R_drew)); exact HO_12.out⟩, ⟨by (with_reducible repeat (first | apply Kd.R_alloc | apply Kd.R_drewN | apply Kd.R_drew)); exact HO_13.out⟩, ⟨pE HB⟩⟩
                  ·
                   replace c101 := Bool.eq_false_iff.mpr c101; subst c101; rw [if_neg (show ¬ (false = true) by decide)] at H; exact absurd ((Option.some.inj H).trans HRT.out) (by simp)
                 ·
                  rw [if_neg c99] at H; have c99b0 : decide ((rd x7_1 x18_4) < (wrap64 (16 * ((Qu x5_1 x18_4).f0)))) = false := decide_eq_false c99; clear c99; have H' := Qa.mk H; clear H
                  try go_wp2
                  replace HO_5 := Qa.mk (Kd.R_drew HO_5.out); replace HO_7 := Qa.mk (Kd.R_drew HO_7.out); replace HO_12 := Qa.mk (Kd.R_drew HO_12.out); replace HO_13 := Qa.mk (Kd.R_drew HO_13.out); replace HB := Qa.mk (QM HB.out); obtain ⟨Ao107, co107, eo107⟩ := Kd.R_slice HO_7.out
                  (first | subst eo107 | (injection eo107 with f1_ f2_ f3_; have f4_ := f1_.symm; have f5_ := f3_.symm; clear f1_ f2_ f3_; subst f4_; subst f5_))
                  have p162 : 0 ≤ (x18_4 : Int) := dT; have q162 : x18_4 < (x7_1.length : Int) := dT; obtain ⟨ad162, e162, hx162_0⟩ := Kd.at_int (Kd.R_reads' HO_7.out).2.2 x18_4 p162 q162
                  cases e162
                  replace p162 := eq_true p162; replace q162 := eq_true q162; have p163 : 0 ≤ (x18_4 : Int) := dT; have q163 : x18_4 < (x5_1.length : Int) := dT; obtain ⟨ad163, e163, hx163_0, hx163_1, hx163_2, hx163_3, hx163_4⟩ := Xz (Kd.R_reads' HO_5.out).2.2 x18_4 p163 q163
                  cases e163
                  replace p163 := eq_true p163; replace q163 := eq_true q163; refine JS (n := 12) (S := fun w' => w'.cell? (ad162.add (x18_4).toNat) = some (.int .i64 (rd x7_1 x18_4)) ∧ w'.cell? (ad163.add ((x18_4).toNat * 5)) = some (.int .i64 ((Qu x5_1 x18_4).f0)) ∧ w'.cell? ⟨(ad163.add ((x18_4).toNat * 5)).block, (ad163.add ((x18_4).toNat * 5)).off + 1, none⟩ = some (.int .i64 ((Qu x5_1 x18_4).f1)) ∧ w'.cell? ⟨(ad163.add ((x18_4).toNat * 5)).block, (ad163.add ((x18_4).toNat * 5)).off + 2, none⟩ = some (.int .i64 ((Qu x5_1 x18_4).f2)) ∧ w'.cell? ⟨(ad163.add ((x18_4).toNat * 5)).block, (ad163.add ((x18_4).toNat * 5)).off + 3, none⟩ = some (.int .i64 ((Qu x5_1 x18_4).f3.f0)) ∧ w'.cell? ⟨(ad163.add ((x18_4).toNat * 5)).block, (ad163.add ((x18_4).toNat * 5)).off + 4, none⟩ = some (.int .i64 ((Qu x5_1 x18_4).f3.f1))) (ds := []) #[false, false, false, false, false, false, false, false, false, false, false, false] (by kernel_rfl) rfl rfl ⟨hx162_0, hx163_0, hx163_1, hx163_2, hx163_3, hx163_4⟩ (fun hHeld => ?_); refine Jk Qao.tab20 Qao.bits20 (fun HT_ HW_ => ?_); generalize wr.drew = w106 at HO_5 HO_7 HO_12 HO_13 HB hx162_0 hx163_0 hx163_1 hx163_2 hx163_3 hx163_4 hHeld ⊢; refine pu 0 166 ?_; refine pu 1 167 ?_; refine pu 2 168 ?_; refine pu 4 170 ?_; refine pu 5 171 ?_; refine pu 6 172 ?_; refine pu 7 173 ?_; refine tk 3 169 hHeld ?_; refine tk 8 174 hHeld ?_; refine pu 9 175 ?_; refine pu 10 176 ?_; refine pu 11 19 ?_; refine JD (JM HT_.out (by kernel_rfl)) ?_; obtain ⟨Ao108, co108, eo108⟩ := Kd.R_slice HO_12.out; subst eo108
                  try go_wp2_with (first | ((with_reducible refine gc 62 rfl ?_); refine gL 179 Tryz.func62 #[.slice Ao108 t138.length co108, .int .i64 x18_4] ?_; (with_reducible refine (Qas.calls k4 _ _ t138 x18_4 false _ ?side1 ?side2 A86.out).mono ?_); (case side1 => exact pC (Kd.R_reads' HO_12.out).2.2); (case side2 => exact (Kd.R_reads' HO_12.out).2.1); rintro e w' ⟨rfl, ⟨nd, rfl⟩⟩; refine ⟨_, rfl, ?_⟩))
                  go_roundg k4
                  case measure => have := HK1.out; have := HJ8.out; have := HJ55.out; have := HK4.out; omega
                  case rel => exact ⟨(wrap64 (x18_4 + 1)), eS, H', ⟨by have := HK1.out; have := HJ8.out; have := HJ55.out; have := HK4.out; omega⟩, ⟨by (with_reducible repeat (first | apply Kd.R_alloc | apply Kd.R_drewN | apply Kd.R_drew)); exact HO_5.out⟩, ⟨by (with_reducible repeat (first | apply Kd.R_alloc | apply Kd.R_drewN | apply Kd.R_drew)); exact HO_7.out⟩, ⟨by (with_reducible repeat (first | apply Kd.R_alloc | apply Kd.R_drewN | apply Kd.R_drew)); exact HO_12.out⟩, ⟨by (with_reducible repeat (first | apply Kd.R_alloc | apply Kd.R_drewN | apply Kd.R_drew)); exact HO_13.out⟩, ⟨pE HB⟩⟩
               ·
                rw [if_neg c85] at H; exact absurd H (by simp)
              ·
               rw [if_neg c84] at H; exact absurd H (by simp)
             ·
              rw [if_neg c83] at H; have c83b0 : decide (x18_4 < (x5_1.length : Int)) = false := decide_eq_false c83; clear c83; have H' := Qa.mk H; clear H; go_wp2
              go_loopg [20] k4 (fun kq v20 w' => ∃ (x20_5 : Int), v20 = .int .i64 x20_5 ∧ Qa (Qao.l2 kq x5_1 t139 x20_5 = some r) ∧ Qa (kq ≤ k4) ∧ Qa (Kd.R k68 68 w' w.heap.size (fun _ => True) (.slice Ao60 x5_1.length co60) x5_1) ∧ Qa (Kd.R (Kd.int .i64) 3 w' w.heap.size (fun _ => True) v143 t139) ∧ Qa (Below w.heap.size w w'))
              case atStart => exact ⟨(0), eS, H', ⟨Nat.le_refl _⟩, ⟨by (with_reducible repeat (first | apply Kd.R_alloc | apply Kd.R_drewN | apply Kd.R_drew)); exact HO_5.out⟩, ⟨by (with_reducible repeat (first | apply Kd.R_alloc | apply Kd.R_drewN | apply Kd.R_drew)); exact Kd.R_mono HO_13.out (fun _ hk => trivial)⟩, ⟨pE HB⟩⟩
              case round =>
               clear H'; try clear c1
               try clear p1
               try clear q1
               try clear hx1
               try clear p2
               try clear c6
               try clear p6
               try clear c8
               try clear c9
               try clear c10
               try clear p16
               try clear q16
               try clear hx16
               try clear c62
               try clear p64
               try clear c83
               try clear c83b0
               try clear c84
               try clear c85
               try clear c87
               try clear c88
               try clear c88b0
               try clear c89
               try clear c89b0
               try clear c91
               try clear c99
               try clear c99b0
               try clear c101
               try clear hx162_0
               try clear hx163_0
               try clear hx163_1
               try clear hx163_2
               try clear hx163_3
               try clear hx163_4
               try clear p162
               try clear p163
               try clear q162
               try clear q163
               obtain ⟨x20_5, rfl, HA, HK5, HO_5, HO_13, HB⟩ := hrel
               cases gk with
               | zero => exact absurd HA.out (by simp [Qao.l2])
               | succ k5 =>
                have H := HA.out; clear HA; simp only [Qao.l2] at H; by_cases c109 : x20_5 < (t139.length : Int)
                ·
                 rw [if_pos c109] at H; have c109b0 : decide (x20_5 < (t139.length : Int)) = true := decide_eq_true c109; clear c109; by_cases c110 : 0 ≤ x20_5
                 ·
                  rw [if_pos c110] at H; have c110b0 : decide (0 ≤ x20_5) = true := decide_eq_true c110; clear c110; by_cases c111 : (rd t139 x20_5) < 0
                  ·
                   rw [if_pos c111] at H; have c111b0 : decide ((rd t139 x20_5) < 0) = true := decide_eq_true c111; clear c111; exact absurd ((Option.some.inj H).trans HRT.out) (by simp)
                  ·
                   rw [if_neg c111] at H; have c111b0 : decide ((rd t139 x20_5) < 0) = false := decide_eq_false c111; clear c111; by_cases c112 : (rd t139 x20_5) ≥ (x5_1.length : Int)
                   ·
                    rw [if_pos c112] at H; have c112b0 : decide ((x5_1.length : Int) ≤ (rd t139 x20_5)) = true := decide_eq_true c112; clear c112; exact absurd ((Option.some.inj H).trans HRT.out) (by simp)
                   ·
                    rw [if_neg c112] at H; have c112b0 : decide ((x5_1.length : Int) ≤ (rd t139 x20_5)) = false := decide_eq_false c112; clear c112; by_cases c113 : x20_5 > 0
                    ·
                     rw [if_pos c113] at H; have c113b0 : decide (0 < x20_5) = true := decide_eq_true c113; clear c113; obtain ⟨ji114, hji114⟩ : ∃ j_ : Int, (wrap64 (x20_5 - 1)) = j_ := ⟨_, rfl⟩
                     replace H : (if 0 ≤ (ji114) then (if (ji114) < (t139.length : Int) then (if (rd t139 x20_5) ≤ (rd t139 (ji114)) then (some false) else (Qao.l2 k5 x5_1 t139 (wrap64 (x20_5 + 1)))) else (none)) else (none)) = some r := by first | (rw [hji114] at H; exact H) | (simp only [hji114] at H ⊢; exact H)
                     have hji114w : (IntKind.i64.wrap (x20_5 - 1)) = ji114 := (QR _).trans hji114; by_cases c115 : 0 ≤ (ji114)
                     ·
                      rw [if_pos c115] at H; have c115b0 : decide (0 ≤ (ji114)) = true := decide_eq_true c115; clear c115; by_cases c116 : (ji114) < (t139.length : Int)
                      ·
                       rw [if_pos c116] at H; have c116b0 : decide ((ji114) < (t139.length : Int)) = true := decide_eq_true c116; clear c116; by_cases c117 : (rd t139 x20_5) ≤ (rd t139 (ji114))
                       ·
                        rw [if_pos c117] at H; have c117b0 : decide ((rd t139 x20_5) ≤ (rd t139 (ji114))) = true := decide_eq_true c117; clear c117; exact absurd ((Option.some.inj H).trans HRT.out) (by simp)
                       ·
                        rw [if_neg c117] at H; have c117b0 : decide ((rd t139 x20_5) ≤ (rd t139 (ji114))) = false := decide_eq_false c117; clear c117; have H' := Qa.mk H; clear H; obtain ⟨Ao118, co118, eo118⟩ := Kd.R_slice HO_13.out; subst eo118
                        try go_wp2
                        replace HO_5 := Qa.mk (Kd.R_drew HO_5.out); replace HO_13 := Qa.mk (Kd.R_drew HO_13.out); replace HB := Qa.mk (QM HB.out); have p167 : 0 ≤ (x20_5 : Int) := dT; have q167 : x20_5 < (t139.length : Int) := dT; obtain ⟨ad167, e167, hx167_0⟩ := Kd.at_int (Kd.R_reads' HO_13.out).2.2 x20_5 p167 q167
                        cases e167
                        replace p167 := eq_true p167; replace q167 := eq_true q167; have p168 : 0 ≤ (x20_5 : Int) := dT; have q168 : x20_5 < (t139.length : Int) := dT; obtain ⟨ad168, e168, hx168_0⟩ := Kd.at_int (Kd.R_reads' HO_13.out).2.2 x20_5 p168 q168; obtain rfl : ad167 = ad168 := (by injection e168); replace p168 := eq_true p168; replace q168 := eq_true q168; have p169 : 0 ≤ (x20_5 : Int) := dT; have q169 : x20_5 < (t139.length : Int) := dT; obtain ⟨ad169, e169, hx169_0⟩ := Kd.at_int (Kd.R_reads' HO_13.out).2.2 x20_5 p169 q169; obtain rfl : ad167 = ad169 := (by injection e169); replace p169 := eq_true p169; replace q169 := eq_true q169; have p170 : 0 ≤ ((ji114) : Int) := dT; have q170 : (ji114) < (t139.length : Int) := dT; obtain ⟨ad170, e170, hx170_0⟩ := Kd.at_int (Kd.R_reads' HO_13.out).2.2 (ji114) p170 q170; obtain rfl : ad167 = ad170 := (by injection e170); replace p170 := eq_true p170; replace q170 := eq_true q170; refine JS (n := 30) (S := fun w' => w'.cell? (ad167.add (x20_5).toNat) = some (.int .i64 (rd t139 x20_5)) ∧ w'.cell? (ad167.add (x20_5).toNat) = some (.int .i64 (rd t139 x20_5)) ∧ w'.cell? (ad167.add (x20_5).toNat) = some (.int .i64 (rd t139 x20_5)) ∧ w'.cell? (ad167.add ((ji114)).toNat) = some (.int .i64 (rd t139 (ji114)))) (ds := []) #[false, false, false, false, false, false, false, false, false, false, false, false, false, false, false, false, false, false, false, false, false, false, false, false, false, false, false, false, false, false] (by kernel_rfl) rfl rfl ⟨hx167_0, hx168_0, hx169_0, hx170_0⟩ (fun hHeld => ?_); refine Jk Qao.tab26 Qao.bits26 (fun HT_ HW_ => ?_); generalize wr.drew = w119 at HO_5 HO_13 HB hx167_0 hx168_0 hx169_0 hx170_0 hHeld ⊢; refine pu 0 199 ?_; refine pu 1 200 ?_; refine pu 2 201 ?_; refine tk 3 202 hHeld ?_; refine pu 4 203 ?_; refine pu 5 204 ?_; refine pu 6 205 ?_; refine pu 7 206 ?_; refine pu 8 207 ?_; refine pu 10 209 ?_; refine pu 11 210 ?_; refine tk 9 208 hHeld ?_; refine pu 12 211 ?_; refine pu 13 212 ?_; refine pu 14 213 ?_; refine pu 15 214 ?_; refine pu 16 215 ?_; refine pu 17 216 ?_; refine pu 18 217 ?_; refine pu 19 218 ?_; refine pu 20 219 ?_; refine pu 22 221 ?_; refine pu 23 222 ?_; refine pu 24 223 ?_; refine pu 25 224 ?_; refine tk 21 220 hHeld ?_; refine tk 26 225 hHeld ?_; refine pu 27 226 ?_; refine pu 28 227 ?_; refine pu 29 228 ?_; refine JD (JM HT_.out (by kernel_rfl)) ?_
                        try go_wp2
                        go_roundg k5
                        case measure => have := HK1.out; have := HJ8.out; have := HJ55.out; have := HK4.out; have := HK5.out; omega
                        case rel => exact ⟨(wrap64 (x20_5 + 1)), eS, H', ⟨by have := HK1.out; have := HJ8.out; have := HJ55.out; have := HK4.out; have := HK5.out; omega⟩, ⟨by (with_reducible repeat (first | apply Kd.R_alloc | apply Kd.R_drewN | apply Kd.R_drew)); exact HO_5.out⟩, ⟨by (with_reducible repeat (first | apply Kd.R_alloc | apply Kd.R_drewN | apply Kd.R_drew)); exact HO_13.out⟩, ⟨pE HB⟩⟩
                      ·
                       rw [if_neg c116] at H; exact absurd H (by simp)
                     ·
                      rw [if_neg c115] at H; exact absurd H (by simp)
                    ·
                     rw [if_neg c113] at H; have c113b0 : decide (0 < x20_5) = false := decide_eq_false c113; clear c113; have H' := Qa.mk H; clear H; obtain ⟨Ao120, co120, eo120⟩ := Kd.R_slice HO_13.out; subst eo120
                     try go_wp2
                     replace HO_5 := Qa.mk (Kd.R_drew HO_5.out); replace HO_13 := Qa.mk (Kd.R_drew HO_13.out); replace HB := Qa.mk (QM HB.out); have p167 : 0 ≤ (x20_5 : Int) := dT; have q167 : x20_5 < (t139.length : Int) := dT; obtain ⟨ad167, e167, hx167_0⟩ := Kd.at_int (Kd.R_reads' HO_13.out).2.2 x20_5 p167 q167
                     cases e167
                     replace p167 := eq_true p167; replace q167 := eq_true q167; have p168 : 0 ≤ (x20_5 : Int) := dT; have q168 : x20_5 < (t139.length : Int) := dT; obtain ⟨ad168, e168, hx168_0⟩ := Kd.at_int (Kd.R_reads' HO_13.out).2.2 x20_5 p168 q168; obtain rfl : ad167 = ad168 := (by injection e168); replace p168 := eq_true p168; replace q168 := eq_true q168; refine JS (n := 30) (S := fun w' => w'.cell? (ad167.add (x20_5).toNat) = some (.int .i64 (rd t139 x20_5)) ∧ w'.cell? (ad167.add (x20_5).toNat) = some (.int .i64 (rd t139 x20_5))) (ds := []) #[false, false, false, false, false, false, false, false, false, false, false, false, false, false, false, false, false, false, false, false, false, false, false, false, false, false, false, false, false, false] (by kernel_rfl) rfl rfl ⟨hx167_0, hx168_0⟩ (fun hHeld => ?_); refine Jk Qao.tab26 Qao.bits26 (fun HT_ HW_ => ?_); generalize wr.drew = w121 at HO_5 HO_13 HB hx167_0 hx168_0 hHeld ⊢; refine pu 0 199 ?_; refine pu 1 200 ?_; refine pu 2 201 ?_; refine tk 3 202 hHeld ?_; refine pu 4 203 ?_; refine pu 5 204 ?_; refine pu 6 205 ?_; refine pu 7 206 ?_; refine pu 8 207 ?_; refine pu 10 209 ?_; refine pu 11 210 ?_; refine tk 9 208 hHeld ?_; refine pu 12 211 ?_; refine pu 13 212 ?_; refine pu 14 213 ?_; refine pu 15 214 ?_; refine pu 16 215 ?_; refine pu 17 216 ?_; refine pd 18 217 ?_; refine pd 19 218 ?_; refine pd 20 219 ?_; refine pd 21 220 ?_; refine pd 22 221 ?_; refine pd 23 222 ?_; refine pd 24 223 ?_; refine pd 25 224 ?_; refine pd 26 225 ?_; refine pd 27 226 ?_; refine pu 28 227 ?_; refine pu 29 228 ?_; refine JD (JM HT_.out (by kernel_rfl)) ?_
                     try go_wp2
                     go_roundg k5
                     case measure => have := HK1.out; have := HJ8.out; have := HJ55.out; have := HK4.out; have := HK5.out; omega
                     case rel => exact ⟨(wrap64 (x20_5 + 1)), eS, H', ⟨by have := HK1.out; have := HJ8.out; have := HJ55.out; have := HK4.out; have := HK5.out; omega⟩, ⟨by (with_reducible repeat (first | apply Kd.R_alloc | apply Kd.R_drewN | apply Kd.R_drew)); exact HO_5.out⟩, ⟨by (with_reducible repeat (first | apply Kd.R_alloc | apply Kd.R_drewN | apply Kd.R_drew)); exact HO_13.out⟩, ⟨pE HB⟩⟩
                 ·
                  rw [if_neg c110] at H; exact absurd H (by simp)
                ·
                 rw [if_neg c109] at H; have c109b0 : decide (x20_5 < (t139.length : Int)) = false := decide_eq_false c109; clear c109; obtain ⟨t171, A122, H⟩ := bi H; obtain rfl := Option.some.inj H; obtain ⟨Ao123, co123, eo123⟩ := Kd.R_slice HO_13.out; subst eo123; go_wp2_with (first | ((with_reducible refine gc 15 rfl ?_); refine gL 229 Tryz.func15 #[] ?_; (with_reducible refine (Qd.calls k5  t171 _ A122.out).mono ?_); rintro e w124 ⟨rfl, hb⟩; refine ⟨_, rfl, ?_⟩; replace HO_5 := rb HO_5 hb; replace HO_13 := rb HO_13 hb; replace HB := bs HB hb; clear hb)); go_ret; exact ⟨eT, pE HB⟩
       ·
        rw [if_neg c54] at H; exact absurd H (by simp)
      ·
       rw [if_neg c52] at H; exact absurd H (by simp)
end Go.Proofs.YtjaapkkpmegkfaaGreat.P
