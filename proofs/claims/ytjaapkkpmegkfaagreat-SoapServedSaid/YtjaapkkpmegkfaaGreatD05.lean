/- Part 5 of what the law's proof needs beyond its base: words, walks of functions and plain facts. -/
import Derived.Below
import Derived.Deep.Draws
import Derived.Deep.AppendLies
import Derived.Maps.AppendAt
import Derived.OwnWalk
import Derived.Laws.BytesArg
import Derived.Laws.MakeOwn
import Derived.Laws.OwnMore
import Derived.Deep.OwnRows
import Derived.Tactics
import Derived.Lib.ConvBytes
import Derived.Laws.Slices
import Derived.WalkKit
import Derived.KernelRfl
import Derived.RowKit3
import Derived.Deep.LoopGhost
import Derived.Deep.QuietTactic
import Derived.BigQuiet
import Derived.WideLaws
import Derived.Deep.DeepCutAuto
import Derived.Deep.CutBlock
import Derived.Deep.RegionHeld3
import Derived.Laws.Rows
import Derived.Lib.AppendStr
import Derived.ArgAppend
import Derived.Laws.IdiomCopy
import Derived.RowKit
import Derived.OrdersHeld
import Derived.Laws.BitsLemmas
import Derived.Deep.Slices
import Derived.OpenShut
import Derived.ChangeArms
import Derived.Test.YtjaapkkpmegkfaaGreatR01
import Derived.Test.YtjaapkkpmegkfaaGreatR02
import Derived.Test.YtjaapkkpmegkfaaGreatR03
import Derived.Test.YtjaapkkpmegkfaaGreatR04
import Derived.Test.YtjaapkkpmegkfaaGreatR05
import Derived.Test.YtjaapkkpmegkfaaGreatR06
import Derived.Test.YtjaapkkpmegkfaaGreatR07
import Derived.Test.YtjaapkkpmegkfaaGreatR08
import Derived.Test.YtjaapkkpmegkfaaGreatR09
import Derived.Test.YtjaapkkpmegkfaaGreatR10
import Derived.Test.YtjaapkkpmegkfaaGreatR11
import Derived.Test.YtjaapkkpmegkfaaGreatR12
import Derived.Test.YtjaapkkpmegkfaaGreatR13
import Derived.Test.YtjaapkkpmegkfaaGreatD01
import Derived.Test.YtjaapkkpmegkfaaGreatD02
import Derived.Test.YtjaapkkpmegkfaaGreatD03
import Derived.Test.YtjaapkkpmegkfaaGreatD04
set_option linter.unusedVariables false
set_option linter.unusedSimpArgs false
namespace Go.Proofs.YtjaapkkpmegkfaaGreat.P
open Go.RowKit Go.Proofs.YtjaapkkpmegkfaaGreatW.PrintWords Go.Proofs.YtjaapkkpmegkfaaGreatW.PrintLast Go.Proofs.YtjaapkkpmegkfaaGreatW.PrintMore
attribute [local go_sem] JG JH JY JX Jv Ju JJ JK
mutual
def Qao.j1 : Nat → List S100 → List S26 → Option Bool
 | 0, _, _ => none
 | k + 1, x5, x7 => (Qau.f x5).bind fun t127 => ((some (([] : List S26) : List S26)).bind fun y130 => (if y130.length + x7.length < 3518437208883 then ((QD.f k t127 (y130 ++ x7)).bind fun bt136 => (if bt136.2 = 0 then (Qao.j2 k x5 x7 bt136.1 (decide ((bt136.1.length : Int) > (x7.length : Int)))) else (Qao.j2 k x5 x7 bt136.1 true))) else (none)))
def Qao.j2 : Nat → List S100 → List S26 → List (List Int) → Bool → Option Bool
 | 0, _, _, _, _ => none
 | k + 1, x5, x7, x11, x65 => if x65 = true then (some false) else ((Qau.f x5).bind fun t140 => (Qao.l1 k x7 x11 t140 0))
def Qao.l1 : Nat → List S26 → List (List Int) → List S100 → Int → Option Bool
 | 0, _, _, _, _ => none
 | k + 1, x7, x11, x13, x14 => if x14 < (x7.length : Int) then ((Qau.f x13).bind fun t144 => (if 0 ≤ x14 then ((Jb.f k t144 ((Qy x7 x14).f0.f0) ((Qy x7 x14).f0.f1) ((Qy x7 x14).f1.f0) ((Qy x7 x14).f1.f1) ((Qy x7 x14).f2)).bind fun bt148 => (if x14 = (x11.length : Int) then (if bt148.2.2 = 9 then ((Qd.f k).bind fun t153 => (some t153)) else (some false)) else (if bt148.2.2 = 0 then (if x14 < (x11.length : Int) then ((Qat.f k x13 (Jo x11 x14)).bind fun t155 => (if t155 = true then (Qao.j4 k x7 x11 x13 x14 bt148.1 ((bt148.1.length : Int) != ((Jo x11 x14).length : Int))) else (Qao.j4 k x7 x11 x13 x14 bt148.1 true))) else (none)) else (Qao.j4 k x7 x11 x13 x14 bt148.1 true)))) else (none))) else (if (x11.length : Int) = (x7.length : Int) then ((Qd.f k).bind fun t143 => (some t143)) else (some false))
def Qao.j4 : Nat → List S26 → List (List Int) → List S100 → Int → List Int → Bool → Option Bool
 | 0, _, _, _, _, _, _ => none
 | k + 1, x7, x11, x13, x14, x15, x114 => if x114 = true then (some false) else (Qao.l2 k x7 x11 x13 x14 x15 0)
def Qao.l2 : Nat → List S26 → List (List Int) → List S100 → Int → List Int → Int → Option Bool
 | 0, _, _, _, _, _, _ => none
 | k + 1, x7, x11, x13, x14, x15, x18 => if x18 < (x13.length : Int) then (if 0 ≤ x18 then (if x18 < (x15.length : Int) then (if 0 ≤ x14 then (if x14 < (x11.length : Int) then (if x18 < ((Jo x11 x14).length : Int) then (if (rd x15 x18) = (rd (Jo x11 x14) x18) then (Qao.l2 k x7 x11 (x13.set (x18 : Int).toNat (⟨(⟨(Qf x13 x18).f0.f0, (Qf x13 x18).f0.f1⟩ : S24), (Qf x13 x18).f1, (Qf x13 x18).f2, wrap64 (((Qf x13 x18).f3) - (rd x15 x18))⟩ : S100)) x14 x15 (wrap64 (x18 + 1))) else (some false)) else (none)) else (none)) else (none)) else (none)) else (none)) else (Qao.l1 k x7 x11 x13 (wrap64 (x14 + 1)))
def Qao.l0 : Nat → List S89 → List S100 → List S26 → Int → Option Bool
 | 0, _, _, _, _ => none
 | k + 1, x1, x5, x7, x8 => if x8 < (x1.length : Int) then (if x8 < 6 then (if 0 ≤ x8 then ((Qap.f k ([] : List S89) ((Qar x1 x8).f0) ((Qar x1 x8).f1) ((Qar x1 x8).f2) ((Qar x1 x8).f3) ((Qar x1 x8).f4)).bind fun bt115 => (if x7.length < 3518437208883 then (Qao.l0 k x1 x5 (x7 ++ [(⟨(⟨bt115.2.1, bt115.2.2.1⟩ : S24), (⟨bt115.2.2.2.1, bt115.2.2.2.2.1⟩ : S24), bt115.2.2.2.2.2⟩ : S26)]) (wrap64 (x8 + 1))) else (none))) else (none)) else (Qao.j1 k x5 x7)) else (Qao.j1 k x5 x7)
end
def Qao.f (k : Nat) (l0_0 : List S89) (a0_1 a0_2 a0_3 a0_4 a0_5 : Int) (l1 : List S89) : Option Bool := (Qap.f k l0_0 a0_1 a0_2 a0_3 a0_4 a0_5).bind fun bt102 => (Qao.l0 k l1 bt102.1 (([] : List S26)) 0)
theorem Qao.dead_j2 : ∀ k y0 y1 y2 r, Qao.j2 k y0 y1 y2 true = some r → r = true → False := by
 intro k y0 y1 y2 r h hr
 cases k with
 | zero => simp [Qao.j2] at h
 | succ k => exact absurd ((Option.some.inj (show (some false : Option Bool) = some r from h)).trans hr) (by simp)
theorem Qao.dead_j4 : ∀ k y0 y1 y2 y3 y4 r, Qao.j4 k y0 y1 y2 y3 y4 true = some r → r = true → False := by
 intro k y0 y1 y2 y3 y4 r h hr
 cases k with
 | zero => simp [Qao.j4] at h
 | succ k => exact absurd ((Option.some.inj (show (some false : Option Bool) = some r from h)).trans hr) (by simp)
def Qao.T15 : Bool × List (List Nat × List Nat) := (true, [([], []), ([0], [0]), ([], []), ([], []), ([2, 3], [2, 3]), ([4], [4]), ([1, 5, 1], [1, 5]), ([6], [6]), ([7], [7]), ([7], [7]), ([7], [7]), ([8, 6, 0, 1, 2, 3, 4, 5, 6, 7, 8], [8]), ([9, 11, 0, 1, 2, 3, 4, 5, 6, 7, 8, 9, 11], [9]), ([10, 12, 0, 1, 2, 3, 4, 5, 6, 7, 8, 9, 10, 11, 12], [10])])
def Qao.B15 : List Nat := [0, 1, 0, 0, 12, 28, 63, 127, 255, 255, 255, 511, 3071, 8191]
theorem Qao.tab15 : rtab .any (ZG Tryz.f12 15) = Qao.T15 := by kernel_rfl
theorem Qao.bits15 : J0 Qao.T15.2 Qao.B15 = true := by kernel_rfl
def Qao.T23 : Bool × List (List Nat × List Nat) := (true, [([], []), ([], []), ([0, 1], [0, 1]), ([2], [2]), ([], []), ([], []), ([4, 5], [4, 5]), ([6], [6]), ([], []), ([7, 8], [7, 8]), ([9], [9]), ([3, 10], [3, 10])])
def Qao.B23 : List Nat := [0, 0, 3, 7, 0, 0, 48, 112, 0, 496, 1008, 2047]
theorem Qao.tab23 : rtab .any (ZG Tryz.f12 23) = Qao.T23 := by kernel_rfl
theorem Qao.bits23 : J0 Qao.T23.2 Qao.B23 = true := by kernel_rfl
def Qao.T25 : Bool × List (List Nat × List Nat) := (true, [([], []), ([], []), ([0, 1], [0, 1]), ([2], [2]), ([3], [3]), ([], []), ([], []), ([5, 6], [5, 6]), ([7], [7]), ([4, 8], [4, 8]), ([0, 1, 0, 1, 2, 3, 4, 5, 6, 7, 8, 9], [0, 1]), ([10, 0, 1, 2, 3, 4, 5, 6, 7, 8, 9], [10]), ([11, 9, 0, 1, 2, 3, 4, 5, 6, 7, 8, 9], [9, 11])])
def Qao.B25 : List Nat := [0, 0, 3, 7, 15, 0, 0, 96, 224, 511, 1023, 2047, 4095]
theorem Qao.tab25 : rtab .any (ZG Tryz.f12 25) = Qao.T25 := by kernel_rfl
theorem Qao.bits25 : J0 Qao.T25.2 Qao.B25 = true := by kernel_rfl
set_option maxHeartbeats 8000000 in
set_option maxRecDepth 100000 in
theorem Qao.calls_true (k : Nat) (A0_0 : Option Addr) (c0_0 : Nat) (l0_0 : List S89) (a0_1 a0_2 a0_3 a0_4 a0_5 : Int) (A1 : Option Addr) (c1 : Nat) (l1 : List S89) (r : Bool) (w : World) (hr0_0 : Kd.C k89 w A0_0 l0_0.length l0_0) (hc0_0 : l0_0.length ≤ c0_0) (hr1 : Kd.C k89 w A1 l1.length l1) (hc1 : l1.length ≤ c1) (hrt : r = true) (h : Qao.f k l0_0 a0_1 a0_2 a0_3 a0_4 a0_5 l1 = some r) :
  Calls Tryz.prog 12 #[.agg #[.slice A0_0 l0_0.length c0_0, .int .u8 a0_1, .int .u8 a0_2, .int .u8 a0_3, .int .u8 a0_4, .int .u8 a0_5], .slice A1 l1.length c1] w fun e w' => e = .returned (.bool r) ∧ Below w.heap.size w w' := by
 have hu91 := Tryz.underlying91; have hu26 := Tryz.underlying26; have hu89 := Tryz.underlying89; have HRT := Qa.mk hrt; clear hrt; have HR0_0 := Qa.mk hr0_0; have HC0_0 := Qa.mk hc0_0; clear hr0_0 hc0_0; have HR1 := Qa.mk hr1; have HC1 := Qa.mk hc1; clear hr1 hc1; have HB := Qa.mk (Below.refl w.heap.size w); have H : ((Qap.f k l0_0 a0_1 a0_2 a0_3 a0_4 a0_5).bind fun bt102 => (Qao.l0 k l1 bt102.1 (([] : List S26)) 0)) = some r := h; clear h; obtain ⟨⟨t102, t105, t106, t107, t108, t109⟩, A3, H⟩ := bi H; obtain ⟨y111, hy111⟩ : ∃ y_ : List S26, y_ = (([] : List S26)) := ⟨_, rfl⟩
 replace H : (Qao.l0 k l1 t102 y111 0) = some r := yy hy111 H; have Ny111 := Qa.mk hy111; clear hy111; have HC4 := Qa.mk H; clear H; go_enter Tryz.func12, Tryz.ntmps12
 go_upto_block 0 with (first | ((with_reducible refine gd 2 ?_); (try (refine QG (by rfl) ?_; dsimp only)); refine bx 2 #[.slice A0_0 l0_0.length c0_0, .int .u8 a0_1, .int .u8 a0_2, .int .u8 a0_3, .int .u8 a0_4, .int .u8 a0_5] 91 ?_; intro gb101 hg w5 BK101 hb; have GW101 := gs HB hg; replace HB := bs HB hb; clear hb hg; obtain ⟨hcz6_0, hcz6_1, hcz6_2, hcz6_3, hcz6_4, hcz6_5, hfz6_0, hfz6_1, hfz6_2, hfz6_3, hfz6_4, hfz6_5⟩ := cf6 BK101) | ((with_reducible refine gc 52 rfl ?_); refine gL 21 Tryz.func52 #[.agg #[.slice A0_0 l0_0.length c0_0, .int .u8 a0_1, .int .u8 a0_2, .int .u8 a0_3, .int .u8 a0_4, .int .u8 a0_5]] ?_; (with_reducible refine (Qap.calls k _ _ l0_0 a0_1 a0_2 a0_3 a0_4 a0_5 t102 t105 t106 t107 t108 t109 _ ?side1 ?side2 A3.out).mono ?_); (case side1 => exact pC (Kd.C_below HR0_0.out HB.out)); (case side2 => exact HC0_0.out); rintro e w7 ⟨v103, rfl, ho0, hb⟩; refine ⟨_, rfl, ?_⟩; have HO104 := rl ho0 HB; replace BK101 := bb BK101 hb; replace HB := bs HB hb; clear hb ho0) | ((with_reducible refine gd 6 ?_); (try (refine QG (by rfl) ?_; dsimp only)); refine bx 6 #[.int .i64 0, .int .i64 0, .int .i64 0, .int .i64 0, .int .i64 0] 26 ?_; intro gb110 hg w8 hbox hb; replace HO104 := rb HO104 hb; have BK110 := hbox; have GW110 := gs HB hg; replace HB := bs HB hb; have NB101_110 := nl BK101 hg; have NB110_101 := nr BK101 hg; replace BK101 := bb BK101 hb; clear hb hg; have hnb9 := NB110_101.out; have hnc9 := NB101_110.out; obtain ⟨hcz10_0, hcz10_1, hcz10_2, hcz10_3, hcz10_4, hfz10_0, hfz10_1, hfz10_2, hfz10_3, hfz10_4⟩ := cf5 BK110) | ((with_reducible refine gd 24 ?_); (try (refine QG (by rfl) ?_; dsimp only)); refine rL k26 26 24 ([] : List S26) [] (Reps.none _ _) ?_; intro v112 w11 ho12 hb; replace ho12 := yR Ny111 ho12; replace HO104 := Qa.mk (Kd.R_below (by refine pR ?_; exact (Rt5 (g := gb110) HO104 BK110)) hb); have HO113 := Qa.mk (Kd.R_lower (Kd.R_newB ho12 (g := gb110) (o := .cells #[.int .i64 t105, .int .i64 t106, .int .i64 t107, .int .i64 t108, .int .i64 t109] 26 (0, 0)) (by refine pB ?_; refine Qg (cs := #[.int .i64 t105, .int .i64 t106, .int .i64 t107, .int .i64 t108, .int .i64 0]) ?_ 4 _ rfl; refine pB ?_; refine Qg (cs := #[.int .i64 t105, .int .i64 t106, .int .i64 t107, .int .i64 0, .int .i64 0]) ?_ 3 _ rfl; refine pB ?_; refine Qg (cs := #[.int .i64 t105, .int .i64 t106, .int .i64 0, .int .i64 0, .int .i64 0]) ?_ 2 _ rfl; refine pB ?_; refine Qg (cs := #[.int .i64 t105, .int .i64 0, .int .i64 0, .int .i64 0, .int .i64 0]) ?_ 1 _ rfl; refine pB ?_; refine Qg (cs := #[.int .i64 0, .int .i64 0, .int .i64 0, .int .i64 0, .int .i64 0]) ?_ 0 _ rfl; (with_reducible repeat (first | refine Qt ?_ _ | refine Qh ?_ | refine Qaq ?_ _)); exact BK110.out)) (Qr (pE HB))); replace BK101 := bf BK101 hb; replace BK110 := Qa.mk (QX (g := gb110) (o := .cells #[.int .i64 t105, .int .i64 t106, .int .i64 t107, .int .i64 t108, .int .i64 t109] 26 (0, 0)) (by refine pB ?_; refine Qg (cs := #[.int .i64 t105, .int .i64 t106, .int .i64 t107, .int .i64 t108, .int .i64 0]) ?_ 4 _ rfl; refine pB ?_; refine Qg (cs := #[.int .i64 t105, .int .i64 t106, .int .i64 t107, .int .i64 0, .int .i64 0]) ?_ 3 _ rfl; refine pB ?_; refine Qg (cs := #[.int .i64 t105, .int .i64 t106, .int .i64 0, .int .i64 0, .int .i64 0]) ?_ 2 _ rfl; refine pB ?_; refine Qg (cs := #[.int .i64 t105, .int .i64 0, .int .i64 0, .int .i64 0, .int .i64 0]) ?_ 1 _ rfl; refine pB ?_; refine Qg (cs := #[.int .i64 0, .int .i64 0, .int .i64 0, .int .i64 0, .int .i64 0]) ?_ 0 _ rfl; (with_reducible repeat (first | refine Qt ?_ _ | refine Qh ?_ | refine Qaq ?_ _)); exact BK110.out) hb); replace HB := bs HB hb; clear hb ho12))
 (try simp only [Act.put, List.setIfInBounds_toArray, List.set_cons_zero, List.set_cons_succ])
 go_cut [7] (fun v7 wc => ∃ (kq : Nat) (x7_3 : List S26), Qa (Qao.j1 kq t102 x7_3 = some r) ∧ Qa (kq ≤ k) ∧ Qa (Kd.R k100 100 wc w.heap.size (fun _ => True) v103 t102) ∧ Qa (Kd.R k26 26 wc w.heap.size (fun k_ => k_ ≠ gb110) v7 x7_3) ∧ Qa (wc.heap[gb101]? = some (.cells #[(.slice A0_0 l0_0.length c0_0), .int .u8 a0_1, .int .u8 a0_2, .int .u8 a0_3, .int .u8 a0_4, .int .u8 a0_5] 91 (0, 0))) ∧ Qa (wc.heap[gb110]? = some (.cells #[.int .i64 t105, .int .i64 t106, .int .i64 t107, .int .i64 t108, .int .i64 t109] 26 (0, 0))) ∧ Qa (Below w.heap.size w wc))
 case first =>
  have H := HC4.out; clear HC4; have H' := Qa.mk H; clear H; go_wp2
  go_loopg [7, 8] k (fun kq v7 v8 w' => ∃ (x7_1 : List S26) (x8_1 : Int), v8 = .int .i64 x8_1 ∧ Qa (Qao.l0 kq l1 t102 x7_1 x8_1 = some r) ∧ Qa (kq ≤ k) ∧ Qa (Kd.R k100 100 w' w.heap.size (fun _ => True) v103 t102) ∧ Qa (Kd.R k26 26 w' w.heap.size (fun k_ => k_ ≠ gb110) v7 x7_1) ∧ Qa (w'.heap[gb101]? = some (.cells #[(.slice A0_0 l0_0.length c0_0), .int .u8 a0_1, .int .u8 a0_2, .int .u8 a0_3, .int .u8 a0_4, .int .u8 a0_5] 91 (0, 0))) ∧ Qa (w'.heap[gb110]? = some (.cells #[.int .i64 t105, .int .i64 t106, .int .i64 t107, .int .i64 t108, .int .i64 t109] 26 (0, 0))) ∧ Qa (Below w.heap.size w w'))
  case atStart => exact ⟨(y111), (0), eS, H', ⟨Nat.le_refl _⟩, ⟨by (with_reducible repeat (first | apply Kd.R_alloc | apply Kd.R_drewN | apply Kd.R_drew)); exact HO104.out⟩, ⟨by (with_reducible repeat (first | apply Kd.R_alloc | apply Kd.R_drewN | apply Kd.R_drew)); exact Kd.R_mono HO113.out (fun _ hk => hk.2)⟩, ⟨pB BK101.out⟩, ⟨pB BK110.out⟩, ⟨pE HB⟩⟩
  case round =>
   clear H'; try clear c1
   try clear p2
   try clear c5
   try clear c9
   try clear c12
   try clear hcz10_0
   try clear hcz10_1
   try clear hcz10_2
   try clear hcz10_3
   try clear hcz10_4
   try clear hcz6_0
   try clear hcz6_1
   try clear hcz6_2
   try clear hcz6_3
   try clear hcz6_4
   try clear hcz6_5
   try clear hfz10_0
   try clear hfz10_1
   try clear hfz10_2
   try clear hfz10_3
   try clear hfz10_4
   try clear hfz6_0
   try clear hfz6_1
   try clear hfz6_2
   try clear hfz6_3
   try clear hfz6_4
   try clear hfz6_5
   obtain ⟨x7_1, x8_1, rfl, HA, HK1, HO_5, HO_7, BK101, BK110, HB⟩ := hrel
   cases gk with
   | zero => exact absurd HA.out (by simp [Qao.l0])
   | succ k1 =>
    have H := HA.out; clear HA; simp only [Qao.l0] at H; by_cases c13 : x8_1 < (l1.length : Int)
    ·rw [if_pos c13] at H
     have c13b0 : decide (x8_1 < (l1.length : Int)) = true := decide_eq_true c13; clear c13
     (first | rw [c13b0] | (simp only [QR, QU]; rw [c13b0]) | skip)
     by_cases c14 : x8_1 < 6
     ·rw [if_pos c14] at H
      have c14b0 : decide (x8_1 < 6) = true := decide_eq_true c14; clear c14; by_cases c15 : 0 ≤ x8_1
      ·rw [if_pos c15] at H
       have c15b0 : decide (0 ≤ x8_1) = true := decide_eq_true c15; clear c15; obtain ⟨⟨t115, t118, t119, t120, t121, t122⟩, A16, H⟩ := bi H; by_cases c17 : x7_1.length < 3518437208883
       ·rw [if_pos c17] at H
        have LMc17 := Qa.mk c17; clear c17; obtain ⟨y124, hy124⟩ : ∃ y_ : List S26, y_ = (x7_1 ++ [(⟨(⟨t118, t119⟩ : S24), (⟨t120, t121⟩ : S24), t122⟩ : S26)]) := ⟨_, rfl⟩
        replace H : (Qao.l0 k1 l1 t102 y124 (wrap64 (x8_1 + 1))) = some r := yy hy124 H; have Ny124 := Qa.mk hy124; clear hy124; have H' := Qa.mk H; clear H; have p114 : 0 ≤ (x8_1 : Int) := dT; have q114 : x8_1 < (l1.length : Int) := dT; obtain ⟨ad114, e114, hx114_0, hx114_1, hx114_2, hx114_3, hx114_4⟩ := Qcx HR1.out x8_1 p114 q114
        cases e114
        replace hx114_0 := cut_ HB hx114_0; replace hx114_1 := cut_ HB hx114_1; replace hx114_2 := cut_ HB hx114_2; replace hx114_3 := cut_ HB hx114_3; replace hx114_4 := cut_ HB hx114_4; replace p114 := eq_true p114; replace q114 := eq_true q114; go_wp2_with (first | ((with_reducible refine gc 52 rfl ?_); refine gL 41 Tryz.func52 #[.agg #[.slice none 0 0, .int .u8 ((Qar l1 x8_1).f0), .int .u8 ((Qar l1 x8_1).f1), .int .u8 ((Qar l1 x8_1).f2), .int .u8 ((Qar l1 x8_1).f3), .int .u8 ((Qar l1 x8_1).f4)]] ?_; (refine (Qap.calls k1 _ _ ([] : List S89) ((Qar l1 x8_1).f0) ((Qar l1 x8_1).f1) ((Qar l1 x8_1).f2) ((Qar l1 x8_1).f3) ((Qar l1 x8_1).f4) t115 t118 t119 t120 t121 t122 _ ?side1 ?side2 A16.out).mono ?_); (case side1 => exact Kd.C_nil _ _); (case side2 => exact Nat.le_refl _); rintro e w18 ⟨v116, rfl, ho0, hb⟩; refine ⟨_, rfl, ?_⟩; replace HO_7 := rb HO_7 hb; have HO117 := Qa.mk (Kd.R_lower (Kd.R_new' ho0 (Kd.R_lt (pR HO_5.out))) (Qr (pE HB))); replace HO_5 := re HO_5 ho0 hb; replace BK101 := bb BK101 hb; replace BK110 := bb BK110 hb; replace HB := bs HB hb; clear hb ho0) | ((with_reducible refine gd 10 ?_); (try (refine QG (by rfl) ?_; dsimp only)); refine bx 10 #[.int .i64 0, .int .i64 0, .int .i64 0, .int .i64 0, .int .i64 0] 26 ?_; intro gb123 hg w19 hbox hb; replace HO_5 := rb HO_5 hb; replace HO_7 := Qa.mk (Kd.R_below (Kd.R_elderB (pR HO_7.out) gb123 (Nat.le_of_eq hg.symm)) hb); replace HO117 := rb HO117 hb; have BK123 := hbox; have GW123 := gs HB hg; replace HB := bs HB hb; have NB101_123 := nl BK101 hg; have NB123_101 := nr BK101 hg; replace BK101 := bb BK101 hb; have NB110_123 := nl BK110 hg; have NB123_110 := nr BK110 hg; replace BK110 := bb BK110 hb; clear hb hg; have hnb20 := NB123_101.out; have hnc20 := NB101_123.out; have hnb21 := NB123_110.out; have hnc21 := NB110_123.out; obtain ⟨hcz22_0, hcz22_1, hcz22_2, hcz22_3, hcz22_4, hfz22_0, hfz22_1, hfz22_2, hfz22_3, hfz22_4⟩ := cf5 BK123) | ((with_reducible refine JA (b := .append) (xs := #[.tmp 44, .tmp 46]) rfl ?_); (try (refine QG (by rfl) ?_; dsimp only)); at_builtin; refine Kd.R_append k26 (w0 := w) w.heap.size rfl (.tmp 44) (.tmp 46) 58 26 (.agg #[(.int .i64 0), (.int .i64 0), (.int .i64 0), (.int .i64 0), (.int .i64 0)]) 40 rfl Tryz.underlying58 Qc0 rfl (by decide) (by omega) u7 x7_1 (⟨(⟨t118, t119⟩ : S24), (⟨t120, t121⟩ : S24), t122⟩ : S26) [.int .i64 t118, .int .i64 t119, .int .i64 t120, .int .i64 t121, .int .i64 t122] (fun k_ => k_ ≠ gb110 ∧ k_ ≠ gb123) (fun _ => False) rfl (by first | (go_simp; done) | (go_simp; rfl)) ?aP (fun _ hk => hk.elim) ?aF ?aO ?aB ?aS ?aL ?_; (case aP => exact Xp _ _ _ (⟨(⟨t118, t119⟩ : S24), (⟨t120, t121⟩ : S24), t122⟩ : S26)); (case aB => exact (pE HB)); (case aF => exact (fun k_ hk => ⟨Kd.freshB (g := gb110) (o := .cells #[.int .i64 t105, .int .i64 t106, .int .i64 t107, .int .i64 t108, .int .i64 t109] 26 (0, 0)) (pF BK110) k_ hk, Kd.freshB (g := gb123) (o := .cells #[.int .i64 t118, .int .i64 t119, .int .i64 t120, .int .i64 t121, .int .i64 t122] 26 (0, 0)) (by refine pB ?_; refine Qg (cs := #[.int .i64 t118, .int .i64 t119, .int .i64 t120, .int .i64 t121, .int .i64 0]) ?_ 4 _ rfl; refine pB ?_; refine Qg (cs := #[.int .i64 t118, .int .i64 t119, .int .i64 t120, .int .i64 0, .int .i64 0]) ?_ 3 _ rfl; refine pB ?_; refine Qg (cs := #[.int .i64 t118, .int .i64 t119, .int .i64 0, .int .i64 0, .int .i64 0]) ?_ 2 _ rfl; refine pB ?_; refine Qg (cs := #[.int .i64 t118, .int .i64 0, .int .i64 0, .int .i64 0, .int .i64 0]) ?_ 1 _ rfl; refine pB ?_; refine Qg (cs := #[.int .i64 0, .int .i64 0, .int .i64 0, .int .i64 0, .int .i64 0]) ?_ 0 _ rfl; (with_reducible repeat (first | refine Qt ?_ _ | refine Qh ?_ | refine Qaq ?_ _)); exact BK123.out) k_ hk⟩)); (case aO => exact (by refine pR ?_; exact Kd.R_mono (Rf5 (g := gb123) (Kd.R_mono HO_7.out (fun k_ hk => (⟨hk, hk.2⟩ : _ ∧ k_ ≠ gb123)))) (fun _ hk => ⟨hk.1.1, hk.1.2⟩))); (case aS => exact (Qr (pE HB))); (case aL => have := LMc17.out; omega); intro v125 w23 ho hb hg hat; rw [← Ny124.out] at ho; replace HO_5 := Qa.mk (Kd.R_over' (by refine pR ?_; exact (Rt5 (g := gb123) HO_5 BK123)) (Kd.R_typed (by refine pR ?_; exact (Kd.R_mono (Rf5 (g := gb123) (Kd.R_mono HO_7.out (fun k_ hk => (⟨hk, hk.2⟩ : _ ∧ k_ ≠ gb123)))) (fun _ h_ => h_.1)))) (by decide) hg); replace BK101 := Qa.mk (Ja (g := gb101) (o := .cells #[.slice A0_0 l0_0.length c0_0, .int .u8 a0_1, .int .u8 a0_2, .int .u8 a0_3, .int .u8 a0_4, .int .u8 a0_5] 91 (0, 0)) (pF BK101) hg (Kd.R_ne HO_7.out BK101.out (by decide))); replace BK110 := Qa.mk (Ja (g := gb110) (o := .cells #[.int .i64 t105, .int .i64 t106, .int .i64 t107, .int .i64 t108, .int .i64 t109] 26 (0, 0)) (pF BK110) hg (Kd.R_away HO_7.out (fun _ hk => hk.1))); replace HO117 := Qa.mk (Kd.R_over' (by refine pR ?_; exact (Rt5 (g := gb123) HO117 BK123)) (Kd.R_typed (by refine pR ?_; exact (Kd.R_mono (Rf5 (g := gb123) (Kd.R_mono HO_7.out (fun k_ hk => (⟨hk, hk.2⟩ : _ ∧ k_ ≠ gb123)))) (fun _ h_ => h_.1)))) (by decide) hg); replace BK123 := Qa.mk (Ja (g := gb123) (o := .cells #[.int .i64 t118, .int .i64 t119, .int .i64 t120, .int .i64 t121, .int .i64 t122] 26 (0, 0)) (by refine pB ?_; refine Qg (cs := #[.int .i64 t118, .int .i64 t119, .int .i64 t120, .int .i64 t121, .int .i64 0]) ?_ 4 _ rfl; refine pB ?_; refine Qg (cs := #[.int .i64 t118, .int .i64 t119, .int .i64 t120, .int .i64 0, .int .i64 0]) ?_ 3 _ rfl; refine pB ?_; refine Qg (cs := #[.int .i64 t118, .int .i64 t119, .int .i64 0, .int .i64 0, .int .i64 0]) ?_ 2 _ rfl; refine pB ?_; refine Qg (cs := #[.int .i64 t118, .int .i64 0, .int .i64 0, .int .i64 0, .int .i64 0]) ?_ 1 _ rfl; refine pB ?_; refine Qg (cs := #[.int .i64 0, .int .i64 0, .int .i64 0, .int .i64 0, .int .i64 0]) ?_ 0 _ rfl; (with_reducible repeat (first | refine Qt ?_ _ | refine Qh ?_ | refine Qaq ?_ _)); exact BK123.out) hg (Kd.R_away HO_7.out (fun _ hk => hk.2))); replace HB := Qa.mk (hb); have HO126 := Qa.mk (ho); clear HO_7; clear ho hb hg hat))
        go_roundg k1
        case measure => have := HK1.out; omega
        case rel => exact ⟨(y124), (wrap64 (x8_1 + 1)), eS, H', ⟨by have := HK1.out; omega⟩, ⟨by (with_reducible repeat (first | apply Kd.R_alloc | apply Kd.R_drewN | apply Kd.R_drew)); exact Kd.R_mono HO_5.out (fun _ hk => trivial)⟩, ⟨by (with_reducible repeat (first | apply Kd.R_alloc | apply Kd.R_drewN | apply Kd.R_drew)); exact Kd.R_mono HO126.out (fun _ hk => hk.1)⟩, ⟨pB BK101.out⟩, ⟨pB BK110.out⟩, ⟨pE HB⟩⟩
       ·rw [if_neg c17] at H
        exact absurd H (by simp)
      ·rw [if_neg c15] at H
       exact absurd H (by simp)
     ·rw [if_neg c14] at H
      have c14b0 : decide (x8_1 < 6) = false := decide_eq_false c14; clear c14; have H' := Qa.mk H; clear H; go_wp2
      go_meet
      case rel => exact ⟨_, (x7_1), H', ⟨by have := HK1.out; first | omega | exact Nat.le_refl _⟩, ⟨by (with_reducible repeat (first | apply Kd.R_alloc | apply Kd.R_drewN | apply Kd.R_drew)); exact HO_5.out⟩, ⟨by (with_reducible repeat (first | apply Kd.R_alloc | apply Kd.R_drewN | apply Kd.R_drew)); exact HO_7.out⟩, ⟨pB BK101.out⟩, ⟨pB BK110.out⟩, ⟨pE HB⟩⟩
    ·rw [if_neg c13] at H
     have c13b0 : decide (x8_1 < (l1.length : Int)) = false := decide_eq_false c13; clear c13
     (first | rw [c13b0] | (simp only [QR, QU]; rw [c13b0]) | skip)
     have H' := Qa.mk H; clear H; go_wp2
     go_meet
     case rel => exact ⟨_, (x7_1), H', ⟨by have := HK1.out; first | omega | exact Nat.le_refl _⟩, ⟨by (with_reducible repeat (first | apply Kd.R_alloc | apply Kd.R_drewN | apply Kd.R_drew)); exact HO_5.out⟩, ⟨by (with_reducible repeat (first | apply Kd.R_alloc | apply Kd.R_drewN | apply Kd.R_drew)); exact HO_7.out⟩, ⟨pB BK101.out⟩, ⟨pB BK110.out⟩, ⟨pE HB⟩⟩
 case rest =>
  clear HC4; try clear c1
  try clear p1
  try clear q1
  try clear hx1
  try clear c2
  try clear p2
  try clear c5
  try clear p6
  try clear c9
  try clear p11
  try clear q11
  try clear hx11
  try clear c12
  try clear c13
  try clear c13b0
  try clear c14
  try clear c14b0
  try clear c15
  try clear c15b0
  try clear c17
  try clear c20
  try clear c21
  try clear hcz10_0
  try clear hcz10_1
  try clear hcz10_2
  try clear hcz10_3
  try clear hcz10_4
  try clear hcz22_0
  try clear hcz22_1
  try clear hcz22_2
  try clear hcz22_3
  try clear hcz22_4
  try clear hcz6_0
  try clear hcz6_1
  try clear hcz6_2
  try clear hcz6_3
  try clear hcz6_4
  try clear hcz6_5
  try clear hfz10_0
  try clear hfz10_1
  try clear hfz10_2
  try clear hfz10_3
  try clear hfz10_4
  try clear hfz22_0
  try clear hfz22_1
  try clear hfz22_2
  try clear hfz22_3
  try clear hfz22_4
  try clear hfz6_0
  try clear hfz6_1
  try clear hfz6_2
  try clear hfz6_3
  try clear hfz6_4
  try clear hfz6_5
  try clear hx114_0
  try clear hx114_1
  try clear hx114_2
  try clear hx114_3
  try clear hx114_4
  try clear p114
  try clear p2
  try clear q114
  obtain ⟨kq, x7_3, HA, HJ3, HO_5, HO_7, BK101, BK110, HB⟩ := hcut
  cases kq with
  | zero => exact absurd HA.out (by simp [Qao.j1])
  | succ kj3 =>
   have H := HA.out; clear HA; simp only [Qao.j1] at H; obtain ⟨t127, A24, H⟩ := bi H; obtain ⟨y130, hy130⟩ : ∃ y_ : List S26, y_ = (([] : List S26)) := ⟨_, rfl⟩
   replace H : (if y130.length + x7_3.length < 3518437208883 then ((QD.f kj3 t127 (y130 ++ x7_3)).bind fun bt136 => (if bt136.2 = 0 then (Qao.j2 kj3 t102 x7_3 bt136.1 (decide ((bt136.1.length : Int) > (x7_3.length : Int)))) else (Qao.j2 kj3 t102 x7_3 bt136.1 true))) else (none)) = some r := yy hy130 H; have Ny130 := Qa.mk hy130; clear hy130; by_cases c25 : y130.length + x7_3.length < 3518437208883
   ·rw [if_pos c25] at H
    have LMc25 := Qa.mk c25; clear c25; obtain ⟨y133, hy133⟩ : ∃ y_ : List S26, y_ = (y130 ++ x7_3) := ⟨_, rfl⟩
    replace H : Option.bind (QD.f kj3 t127 y133) _ = some r := yy hy133 H; have Ny133 := Qa.mk hy133; clear hy133; obtain ⟨⟨t136, t137⟩, A26, H⟩ := bi H; have HC27 := Qa.mk H; clear H; obtain ⟨Ao28, co28, eo28⟩ := Kd.R_slice HO_5.out; subst eo28; go_upto_region 9 with (first | ((with_reducible refine gc 54 rfl ?_); refine gL 50 Tryz.func54 #[.slice Ao28 t102.length co28] ?_; (with_reducible refine (Qau.calls _ _ t102 t127 _ ?side1 ?side2 A24.out).mono ?_); (case side1 => exact pC (Kd.R_reads' HO_5.out).2.2); (case side2 => exact (Kd.R_reads' HO_5.out).2.1); rintro e w29 ⟨v128, rfl, ho0, hb⟩; refine ⟨_, rfl, ?_⟩; replace HO_7 := rb HO_7 hb; have HO129 := Qa.mk (Kd.R_lower (Kd.R_new' ho0 (Kd.R_lt (pR HO_5.out))) (Qr (pE HB))); replace HO_5 := re HO_5 ho0 hb; replace BK101 := bb BK101 hb; replace BK110 := bb BK110 hb; replace HB := bs HB hb; clear hb ho0) | ((with_reducible refine gd 51 ?_); (try (refine QG (by rfl) ?_; dsimp only)); refine rL k26 26 51 ([] : List S26) [] (Reps.none _ _) ?_; intro v131 w30 ho31 hb; replace ho31 := yR Ny130 ho31; replace HO_5 := rb HO_5 hb; replace HO129 := rb HO129 hb; have HO132 := Qa.mk (Kd.R_lower (Kd.R_newB (Kd.R_new' ho31 (Kd.R_lt (pR HO_7.out))) (g := gb110) (o := .cells #[.int .i64 t105, .int .i64 t106, .int .i64 t107, .int .i64 t108, .int .i64 t109] 26 (0, 0)) (pB BK110.out)) (Qr (pE HB))); replace HO_7 := re HO_7 ho31 hb; replace BK101 := bb BK101 hb; replace BK110 := bb BK110 hb; replace HB := bs HB hb; clear hb ho31; obtain ⟨Ao33, co33, eo33⟩ := Kd.R_slice HO_7.out; subst eo33) | ((with_reducible refine JA (b := .append) (xs := #[.tmp 51, .tmp 52]) rfl ?_); (try (refine QG (by rfl) ?_; dsimp only)); at_builtin; refine Kd.R_append_rows k26 (w0 := w) w.heap.size rfl (.tmp 51) (.tmp 52) 58 26 (.agg #[(.int .i64 0), (.int .i64 0), (.int .i64 0), (.int .i64 0), (.int .i64 0)]) 40 rfl Tryz.underlying58 Qc0 rfl (by decide) (by omega) v131 y130 x7_3 _ _ _ (fun k_ => some k_ ≠ (.slice Ao33 x7_3.length co33 : Value).ownBlock ∧ k_ ≠ gb110) (fun _ => False) rfl rfl ?aO ?aR (fun _ _ h => h) (fun _ h => h.elim) ?aF ?aB ?aS ?aL ?_; (case aR => exact pC (Kd.R_reads' HO_7.out).2.2); (case aB => exact (pE HB)); (case aF => exact (fun k_ hk => ⟨Kd.fresh' (Kd.R_lt (pR HO_7.out)) k_ hk, Kd.freshB (g := gb110) (o := .cells #[.int .i64 t105, .int .i64 t106, .int .i64 t107, .int .i64 t108, .int .i64 t109] 26 (0, 0)) (pB BK110.out) k_ hk⟩)); (case aO => exact (by refine pR ?_; exact Kd.R_mono HO132.out (fun _ hk => ⟨hk.1.2, hk.2⟩))); (case aS => exact (Qr (pE HB))); (case aL => have := LMc25.out; omega); intro v134 w32 ho hb hg hat; rw [← Ny133.out] at ho; replace HO_5 := Qa.mk (Kd.R_over' (pR HO_5.out) (Kd.R_typed (pR HO132.out)) (by decide) hg); replace HO_7 := Qa.mk (Kd.R_after (ok := (fun k_ => k_ ≠ gb110)) (pR HO_7.out) hg hat); replace BK101 := Qa.mk (Ja (g := gb101) (o := .cells #[.slice A0_0 l0_0.length c0_0, .int .u8 a0_1, .int .u8 a0_2, .int .u8 a0_3, .int .u8 a0_4, .int .u8 a0_5] 91 (0, 0)) (pB BK101.out) hg (Kd.R_ne HO132.out BK101.out (by decide))); replace BK110 := Qa.mk (Ja (g := gb110) (o := .cells #[.int .i64 t105, .int .i64 t106, .int .i64 t107, .int .i64 t108, .int .i64 t109] 26 (0, 0)) (pB BK110.out) hg (Kd.R_away HO132.out (fun _ hk => hk.2))); replace HO129 := Qa.mk (Kd.R_over' (pR HO129.out) (Kd.R_typed (pR HO132.out)) (by decide) hg); replace HB := Qa.mk (hb); have HO135 := Qa.mk (ho); clear HO132; clear ho hb hg hat; obtain ⟨Ao34, co34, eo34⟩ := Kd.R_slice HO129.out; subst eo34; obtain ⟨Ao35, co35, eo35⟩ := Kd.R_slice HO135.out; subst eo35) | ((with_reducible refine gc 38 rfl ?_); refine gL 54 Tryz.func38 #[.slice Ao34 t127.length co34, .slice Ao35 y133.length co35] ?_; (with_reducible refine (QD.calls kj3 _ _ t127 _ _ y133 t136 t137 _ ?side1 ?side2 ?side3 ?side4 A26.out).mono ?_); (case side1 => exact pC (Kd.R_reads' HO129.out).2.2); (case side2 => exact (Kd.R_reads' HO129.out).2.1); (case side3 => exact pC (Kd.R_reads' HO135.out).2.2); (case side4 => exact (Kd.R_reads' HO135.out).2.1); rintro e w36 ⟨v138, rfl, ho0, hb⟩; refine ⟨_, rfl, ?_⟩; replace HO_5 := rb HO_5 hb; replace HO_7 := rb HO_7 hb; replace HO129 := rb HO129 hb; replace HO135 := rb HO135 hb; have HO139 := Qa.mk (Kd.S_lower ho0 (Qr (pE HB))); replace BK101 := bb BK101 hb; replace BK110 := bb BK110 hb; replace HB := bs HB hb; clear hb ho0))
    (try simp only [Act.put, List.setIfInBounds_toArray, List.set_cons_zero, List.set_cons_succ])
    go_cut [65] (fun v65 wc => ∃ (kq : Nat) (x65_26 : Bool), v65 = .bool x65_26 ∧ Qa (Qao.j2 kq t102 x7_3 t136 x65_26 = some r) ∧ Qa (kq ≤ kj3) ∧ Qa (Kd.R k100 100 wc w.heap.size (fun _ => True) (.slice Ao28 t102.length co28) t102) ∧ Qa (Kd.R k26 26 wc w.heap.size (fun k_ => k_ ≠ gb110) (.slice Ao33 x7_3.length co33) x7_3) ∧ Qa (Kd.S (Kd.slice 3 (Kd.int .i64)) 27 wc w.heap.size (fun _ => True) v138 t136) ∧ Qa (wc.heap[gb101]? = some (.cells #[(.slice A0_0 l0_0.length c0_0), .int .u8 a0_1, .int .u8 a0_2, .int .u8 a0_3, .int .u8 a0_4, .int .u8 a0_5] 91 (0, 0))) ∧ Qa (wc.heap[gb110]? = some (.cells #[.int .i64 t105, .int .i64 t106, .int .i64 t107, .int .i64 t108, .int .i64 t109] 26 (0, 0))) ∧ Qa (Below w.heap.size w wc))
    case first =>
     have H := HC27.out; clear HC27; by_cases c37 : t137 = 0
     ·rw [if_pos c37] at H
      have c37b0 : (t137 == 0) = true := beq_iff_eq.mpr c37; have c37b1 : (t137 != 0) = false := bne_eq_false_iff_eq.mpr c37; clear c37
      (first | rw [c37b0] | (simp only [QR, QU]; rw [c37b0]) | skip)
      have H' := Qa.mk H; clear H; obtain ⟨Ao38, co38, eo38⟩ := Kd.S_slice HO139.out; subst eo38; go_wp2
      go_meet
      case rel => exact ⟨_, (decide ((t136.length : Int) > (x7_3.length : Int))), eS, H', ⟨by have := HJ3.out; first | omega | exact Nat.le_refl _⟩, ⟨by (with_reducible repeat (first | apply Kd.R_alloc | apply Kd.R_drewN | apply Kd.R_drew)); exact Kd.R_mono HO_5.out (fun _ hk => trivial)⟩, ⟨by (with_reducible repeat (first | apply Kd.R_alloc | apply Kd.R_drewN | apply Kd.R_drew)); exact Kd.R_mono HO_7.out (fun _ hk => hk.1)⟩, ⟨by (with_reducible repeat (first | apply Kd.S_alloc | apply Kd.S_drewN | apply Kd.S_drew)); exact HO139.out⟩, ⟨pB BK101.out⟩, ⟨pB BK110.out⟩, ⟨pE HB⟩⟩
     ·rw [if_neg c37] at H
      have c37b0 : (t137 == 0) = false := beq_eq_false_iff_ne.mpr c37; have c37b1 : (t137 != 0) = true := bne_iff_ne.mpr c37
      (first | rw [c37b0] | (simp only [QR, QU]; rw [c37b0]) | skip)
      exact (Qao.dead_j2 _ _ _ _ _ H HRT.out).elim
    case rest =>
     clear HC27; try clear c1
     try clear p1
     try clear q1
     try clear hx1
     try clear c2
     try clear p2
     try clear c3
     try clear c5
     try clear p6
     try clear c9
     try clear p11
     try clear q11
     try clear hx11
     try clear c12
     try clear c13
     try clear c13b0
     try clear c14
     try clear c14b0
     try clear c15
     try clear c15b0
     try clear c17
     try clear c20
     try clear c21
     try clear c25
     try clear c37
     try clear c37b0
     try clear c37b1
     try clear c38
     try clear hcz10_0
     try clear hcz10_1
     try clear hcz10_2
     try clear hcz10_3
     try clear hcz10_4
     try clear hcz22_0
     try clear hcz22_1
     try clear hcz22_2
     try clear hcz22_3
     try clear hcz22_4
     try clear hcz6_0
     try clear hcz6_1
     try clear hcz6_2
     try clear hcz6_3
     try clear hcz6_4
     try clear hcz6_5
     try clear hfz10_0
     try clear hfz10_1
     try clear hfz10_2
     try clear hfz10_3
     try clear hfz10_4
     try clear hfz22_0
     try clear hfz22_1
     try clear hfz22_2
     try clear hfz22_3
     try clear hfz22_4
     try clear hfz6_0
     try clear hfz6_1
     try clear hfz6_2
     try clear hfz6_3
     try clear hfz6_4
     try clear hfz6_5
     try clear hx114_0
     try clear hx114_1
     try clear hx114_2
     try clear hx114_3
     try clear hx114_4
     try clear p1
     try clear p11
     try clear p114
     try clear p2
     try clear p6
     try clear q1
     try clear q11
     try clear q114
     obtain ⟨kq, x65_26, rfl, HA, HJ26, HO_5, HO_7, HO_11, BK101, BK110, HB⟩ := hcut
     cases kq with
     | zero => exact absurd HA.out (by simp [Qao.j2])
     | succ kj26 =>
      have H := HA.out; clear HA; simp only [Qao.j2] at H; by_cases c39 : x65_26 = true
      ·subst c39
       rw [if_pos rfl] at H; exact absurd ((Option.some.inj H).trans HRT.out) (by simp)
      ·replace c39 := Bool.eq_false_iff.mpr c39
       subst c39; rw [if_neg (show ¬ (false = true) by decide)] at H; obtain ⟨t140, A40, H⟩ := bi H; have H' := Qa.mk H; clear H; go_wp2_with (first | ((with_reducible refine gc 54 rfl ?_); refine gL 67 Tryz.func54 #[.slice Ao28 t102.length co28] ?_; (with_reducible refine (Qau.calls _ _ t102 t140 _ ?side1 ?side2 A40.out).mono ?_); (case side1 => exact pC (Kd.R_reads' HO_5.out).2.2); (case side2 => exact (Kd.R_reads' HO_5.out).2.1); rintro e w41 ⟨v141, rfl, ho0, hb⟩; refine ⟨_, rfl, ?_⟩; replace HO_7 := rb HO_7 hb; replace HO_11 := Qa.mk (Kd.S_below (pS HO_11.out) hb); have HO142 := Qa.mk (Kd.R_lower (Kd.R_new' ho0 (Kd.R_lt (pR HO_5.out))) (Qr (pE HB))); replace HO_5 := re HO_5 ho0 hb; replace BK101 := bb BK101 hb; replace BK110 := bb BK110 hb; replace HB := bs HB hb; clear hb ho0))
       go_loopg [14] kj26 (fun kq v14 w' => ∃ (x13_3 : List S100) (x14_3 : Int), v14 = .int .i64 x14_3 ∧ Qa (Qao.l1 kq x7_3 t136 x13_3 x14_3 = some r) ∧ Qa (kq ≤ kj26) ∧ Qa (Kd.R k26 26 w' w.heap.size (fun k_ => k_ ≠ gb110) (.slice Ao33 x7_3.length co33) x7_3) ∧ Qa (Kd.S (Kd.slice 3 (Kd.int .i64)) 27 w' w.heap.size (fun _ => True) v138 t136) ∧ Qa (Kd.R k100 100 w' w.heap.size (fun _ => True) v141 x13_3) ∧ Qa (w'.heap[gb101]? = some (.cells #[(.slice A0_0 l0_0.length c0_0), .int .u8 a0_1, .int .u8 a0_2, .int .u8 a0_3, .int .u8 a0_4, .int .u8 a0_5] 91 (0, 0))) ∧ Qa (w'.heap[gb110]? = some (.cells #[.int .i64 t105, .int .i64 t106, .int .i64 t107, .int .i64 t108, .int .i64 t109] 26 (0, 0))) ∧ Qa (Below w.heap.size w w'))
       case atStart => exact ⟨(t140), (0), eS, H', ⟨Nat.le_refl _⟩, ⟨by (with_reducible repeat (first | apply Kd.R_alloc | apply Kd.R_drewN | apply Kd.R_drew)); exact HO_7.out⟩, ⟨by (with_reducible repeat (first | apply Kd.S_alloc | apply Kd.S_drewN | apply Kd.S_drew)); exact HO_11.out⟩, ⟨by (with_reducible repeat (first | apply Kd.R_alloc | apply Kd.R_drewN | apply Kd.R_drew)); exact Kd.R_mono HO142.out (fun _ hk => trivial)⟩, ⟨pB BK101.out⟩, ⟨pB BK110.out⟩, ⟨pE HB⟩⟩
       case round =>
        clear H'; try clear c1
        try clear p1
        try clear q1
        try clear hx1
        try clear c2
        try clear p2
        try clear c3
        try clear c5
        try clear p6
        try clear c9
        try clear p11
        try clear q11
        try clear hx11
        try clear c12
        try clear c13
        try clear c13b0
        try clear c14
        try clear c14b0
        try clear c15
        try clear c15b0
        try clear c17
        try clear c20
        try clear c21
        try clear c25
        try clear c37
        try clear c37b0
        try clear c37b1
        try clear c38
        try clear c39
        try clear hcz10_0
        try clear hcz10_1
        try clear hcz10_2
        try clear hcz10_3
        try clear hcz10_4
        try clear hcz22_0
        try clear hcz22_1
        try clear hcz22_2
        try clear hcz22_3
        try clear hcz22_4
        try clear hcz6_0
        try clear hcz6_1
        try clear hcz6_2
        try clear hcz6_3
        try clear hcz6_4
        try clear hcz6_5
        try clear hfz10_0
        try clear hfz10_1
        try clear hfz10_2
        try clear hfz10_3
        try clear hfz10_4
        try clear hfz22_0
        try clear hfz22_1
        try clear hfz22_2
        try clear hfz22_3
        try clear hfz22_4
        try clear hfz6_0
        try clear hfz6_1
        try clear hfz6_2
        try clear hfz6_3
        try clear hfz6_4
        try clear hfz6_5
        try clear hx114_0
        try clear hx114_1
        try clear hx114_2
        try clear hx114_3
        try clear hx114_4
        try clear p1
        try clear p11
        try clear p114
        try clear p2
        try clear p6
        try clear q1
        try clear q11
        try clear q114
        obtain ⟨x13_3, x14_3, rfl, HA, HK3, HO_7, HO_11, HO_13, BK101, BK110, HB⟩ := hrel
        cases gk with
        | zero => exact absurd HA.out (by simp [Qao.l1])
        | succ k3 =>
         have H := HA.out; clear HA; simp only [Qao.l1] at H; by_cases c42 : x14_3 < (x7_3.length : Int)
         ·rw [if_pos c42] at H
          have c42b0 : decide (x14_3 < (x7_3.length : Int)) = true := decide_eq_true c42; clear c42; obtain ⟨t144, A43, H⟩ := bi H; by_cases c44 : 0 ≤ x14_3
          ·rw [if_pos c44] at H
           have c44b0 : decide (0 ≤ x14_3) = true := decide_eq_true c44; clear c44; obtain ⟨⟨t148, t151, t152⟩, A45, H⟩ := bi H; by_cases c46 : x14_3 = (t136.length : Int)
           ·rw [if_pos c46] at H
            have c46b0 : (x14_3 == (t136.length : Int)) = true := beq_iff_eq.mpr c46; have c46b1 : (x14_3 != (t136.length : Int)) = false := bne_eq_false_iff_eq.mpr c46; clear c46; by_cases c47 : t152 = 9
            ·rw [if_pos c47] at H
             have c47b0 : (t152 == 9) = true := beq_iff_eq.mpr c47; have c47b1 : (t152 != 9) = false := bne_eq_false_iff_eq.mpr c47; clear c47; obtain ⟨t153, A48, H⟩ := bi H; obtain rfl := Option.some.inj H
             try go_wp2
             replace HO_7 := Qa.mk (Kd.R_drew HO_7.out); replace HO_11 := Qa.mk (Kd.S_drew HO_11.out); replace HO_13 := Qa.mk (Kd.R_drew HO_13.out); replace BK101 := Qa.mk (Qh BK101.out); replace BK110 := Qa.mk (Qh BK110.out); replace HB := Qa.mk (QM HB.out); have p147 : 0 ≤ (x14_3 : Int) := dT; have q147 : x14_3 < (x7_3.length : Int) := dT; obtain ⟨ad147, e147, hx147_0, hx147_1, hx147_2, hx147_3, hx147_4⟩ := Yb (Kd.R_reads' HO_7.out).2.2 x14_3 p147 q147
             cases e147
             replace p147 := eq_true p147; replace q147 := eq_true q147; obtain ⟨Ao50, co50, eo50⟩ := Kd.R_slice HO_13.out
             (first | subst eo50 | (injection eo50 with f1_ f2_ f3_; have f4_ := f1_.symm; have f5_ := f3_.symm; clear f1_ f2_ f3_; subst f4_; subst f5_))
             refine JS (n := 14) (S := fun w' => w'.cell? (ad147.add ((x14_3).toNat * 5)) = some (.int .i64 ((Qy x7_3 x14_3).f0.f0)) ∧ w'.cell? ⟨(ad147.add ((x14_3).toNat * 5)).block, (ad147.add ((x14_3).toNat * 5)).off + 1, none⟩ = some (.int .i64 ((Qy x7_3 x14_3).f0.f1)) ∧ w'.cell? ⟨(ad147.add ((x14_3).toNat * 5)).block, (ad147.add ((x14_3).toNat * 5)).off + 2, none⟩ = some (.int .i64 ((Qy x7_3 x14_3).f1.f0)) ∧ w'.cell? ⟨(ad147.add ((x14_3).toNat * 5)).block, (ad147.add ((x14_3).toNat * 5)).off + 3, none⟩ = some (.int .i64 ((Qy x7_3 x14_3).f1.f1)) ∧ w'.cell? ⟨(ad147.add ((x14_3).toNat * 5)).block, (ad147.add ((x14_3).toNat * 5)).off + 4, none⟩ = some (.int .i64 ((Qy x7_3 x14_3).f2))) (ds := []) #[false, false, false, false, false, false, false, false, false, false, false, false, false, false] (by kernel_rfl) rfl rfl ⟨hx147_0, hx147_1, hx147_2, hx147_3, hx147_4⟩ (fun hHeld => ?_); refine Jk Qao.tab15 Qao.bits15 (fun HT_ HW_ => ?_); generalize wr.drew = w49 at HO_7 HO_11 HO_13 BK101 BK110 HB hx147_0 hx147_1 hx147_2 hx147_3 hx147_4 hHeld ⊢; refine pu 0 75 ?_; refine pu 2 77 ?_; refine pu 3 78 ?_; refine pu 4 79 ?_; refine tk 5 80 hHeld ?_; refine on 1 (fun K hK => ?_); refine gO Tryz.func54 #[.slice Ao50 x13_3.length co50] ?_
             with_reducible refine (Qau.calls _ _ x13_3 t144 _ ?side1 ?side2 A43.out).mono ?_
             (case side1 => exact pC (Kd.R_reads' HO_13.out).2.2)
             (case side2 => exact (Kd.R_reads' HO_13.out).2.1)
             rintro e w51 ⟨v145, rfl, ho0, hb⟩; have HS0_ := (hb.cell (World.block_lt_of_cell? _ _ (hHeld.1))).trans (hHeld.1); have HS1_ := (hb.cell (World.block_lt_of_cell? _ _ (hHeld.2.1))).trans (hHeld.2.1); have HS2_ := (hb.cell (World.block_lt_of_cell? _ _ (hHeld.2.2.1))).trans (hHeld.2.2.1); have HS3_ := (hb.cell (World.block_lt_of_cell? _ _ (hHeld.2.2.2.1))).trans (hHeld.2.2.2.1); have HS4_ := (hb.cell (World.block_lt_of_cell? _ _ (hHeld.2.2.2.2))).trans (hHeld.2.2.2.2); refine ⟨_, rfl, ?_⟩; replace HO_7 := rb HO_7 hb; replace HO_11 := Qa.mk (Kd.S_below (pS HO_11.out) hb); have HO146 := Qa.mk (Kd.R_lower (Kd.R_new' ho0 (Kd.R_lt (pR HO_13.out))) (Qr (pE HB))); replace HO_13 := re HO_13 ho0 hb; replace BK101 := bb BK101 hb; replace BK110 := bb BK110 hb; replace HB := bs HB hb
             (try clear hb)
             (try clear hb2)
             (try clear hk)
             (try clear hi)
             (try clear ho0)
             obtain ⟨Ao52, co52, eo52⟩ := Kd.R_slice HO146.out
             (first | subst eo52 | (injection eo52 with f1_ f2_ f3_; have f4_ := f1_.symm; have f5_ := f3_.symm; clear f1_ f2_ f3_; subst f4_; subst f5_))
             refine hK.out _ _ ⟨HS0_, HS1_, HS2_, HS3_, HS4_⟩ (fun hHeld => ?_); clear hK K; refine QY (a' := ?_) ?_ ?_
             rotate_left
             ·show Act.put _ (some 76) _ = _
              simp only [Act.put, List.setIfInBounds_toArray, List.set_cons_zero, List.set_cons_succ, QR, QU]; rfl
             refine on 6 (fun K hK => ?_); refine gO Tryz.func32 #[.slice Ao52 t144.length co52, .agg #[.int .i64 ((Qy x7_3 x14_3).f0.f0), .int .i64 ((Qy x7_3 x14_3).f0.f1), .int .i64 ((Qy x7_3 x14_3).f1.f0), .int .i64 ((Qy x7_3 x14_3).f1.f1), .int .i64 ((Qy x7_3 x14_3).f2)]] ?_
             with_reducible refine (Jb.calls k3 _ _ t144 ((Qy x7_3 x14_3).f0.f0) ((Qy x7_3 x14_3).f0.f1) ((Qy x7_3 x14_3).f1.f0) ((Qy x7_3 x14_3).f1.f1) ((Qy x7_3 x14_3).f2) t148 t151 t152 _ ?side1 ?side2 A45.out).mono ?_
             (case side1 => exact pC (Kd.R_reads' HO146.out).2.2)
             (case side2 => exact (Kd.R_reads' HO146.out).2.1)
             rintro e w53 ⟨v149, rfl, ho0, hb⟩; have HS0_ := (hb.cell (World.block_lt_of_cell? _ _ (hHeld.1))).trans (hHeld.1); have HS1_ := (hb.cell (World.block_lt_of_cell? _ _ (hHeld.2.1))).trans (hHeld.2.1); have HS2_ := (hb.cell (World.block_lt_of_cell? _ _ (hHeld.2.2.1))).trans (hHeld.2.2.1); have HS3_ := (hb.cell (World.block_lt_of_cell? _ _ (hHeld.2.2.2.1))).trans (hHeld.2.2.2.1); have HS4_ := (hb.cell (World.block_lt_of_cell? _ _ (hHeld.2.2.2.2))).trans (hHeld.2.2.2.2); refine ⟨_, rfl, ?_⟩; replace HO_7 := rb HO_7 hb; replace HO_11 := Qa.mk (Kd.S_elder' (pS HO_11.out) (Kd.R_base ho0) hb); replace HO_13 := rb HO_13 hb; replace HO146 := rb HO146 hb; have HO150 := rl ho0 HB; replace BK101 := bb BK101 hb; replace BK110 := bb BK110 hb; replace HB := bs HB hb
             (try clear hb)
             (try clear hb2)
             (try clear hk)
             (try clear hi)
             (try clear ho0)
             refine hK.out _ _ ⟨HS0_, HS1_, HS2_, HS3_, HS4_⟩ (fun hHeld => ?_); clear hK K; refine QY (a' := ?_) ?_ ?_
             rotate_left
             ·show Act.put _ (some 81) _ = _
              simp only [Act.put, List.setIfInBounds_toArray, List.set_cons_zero, List.set_cons_succ, QR, QU]; rfl
             refine pu 7 74 ?_; refine pu 8 82 ?_; refine pu 9 83 ?_; refine pu 10 84 ?_; refine pu 11 15 ?_; refine pu 12 16 ?_; refine pu 13 17 ?_; refine JD (JM HT_.out (by kernel_rfl)) ?_; obtain ⟨Ao54, co54, eo54⟩ := Kd.S_slice HO_11.out; subst eo54
             try go_wp2_with (first | (go_at_call 15; (with_reducible refine (Qd.calls k3  t153 _ A48.out).mono ?_); rintro e w55 ⟨rfl, hb⟩; replace HO_7 := rb HO_7 hb; replace HO_11 := Qa.mk (Kd.S_below (pS HO_11.out) hb); replace HO_13 := rb HO_13 hb; replace HO146 := rb HO146 hb; replace HO150 := rb HO150 hb; replace BK101 := bb BK101 hb; replace BK110 := bb BK110 hb; replace HB := bs HB hb; (try clear hb); (try clear hb2); (try clear hk); (try clear hi)))
             go_ret; exact ⟨eT, pE HB⟩
            ·rw [if_neg c47] at H
             have c47b0 : (t152 == 9) = false := beq_eq_false_iff_ne.mpr c47; have c47b1 : (t152 != 9) = true := bne_iff_ne.mpr c47; exact absurd ((Option.some.inj H).trans HRT.out) (by simp)
           ·rw [if_neg c46] at H
            have c46b0 : (x14_3 == (t136.length : Int)) = false := beq_eq_false_iff_ne.mpr c46; have c46b1 : (x14_3 != (t136.length : Int)) = true := bne_iff_ne.mpr c46; have HC56 := Qa.mk H; clear H
            try go_wp2
            replace HO_7 := Qa.mk (Kd.R_drew HO_7.out); replace HO_11 := Qa.mk (Kd.S_drew HO_11.out); replace HO_13 := Qa.mk (Kd.R_drew HO_13.out); replace BK101 := Qa.mk (Qh BK101.out); replace BK110 := Qa.mk (Qh BK110.out); replace HB := Qa.mk (QM HB.out); have p147 : 0 ≤ (x14_3 : Int) := dT; have q147 : x14_3 < (x7_3.length : Int) := dT; obtain ⟨ad147, e147, hx147_0, hx147_1, hx147_2, hx147_3, hx147_4⟩ := Yb (Kd.R_reads' HO_7.out).2.2 x14_3 p147 q147
            cases e147
            replace p147 := eq_true p147; replace q147 := eq_true q147; obtain ⟨Ao58, co58, eo58⟩ := Kd.R_slice HO_13.out
            (first | subst eo58 | (injection eo58 with f1_ f2_ f3_; have f4_ := f1_.symm; have f5_ := f3_.symm; clear f1_ f2_ f3_; subst f4_; subst f5_))
            refine JS (n := 14) (S := fun w' => w'.cell? (ad147.add ((x14_3).toNat * 5)) = some (.int .i64 ((Qy x7_3 x14_3).f0.f0)) ∧ w'.cell? ⟨(ad147.add ((x14_3).toNat * 5)).block, (ad147.add ((x14_3).toNat * 5)).off + 1, none⟩ = some (.int .i64 ((Qy x7_3 x14_3).f0.f1)) ∧ w'.cell? ⟨(ad147.add ((x14_3).toNat * 5)).block, (ad147.add ((x14_3).toNat * 5)).off + 2, none⟩ = some (.int .i64 ((Qy x7_3 x14_3).f1.f0)) ∧ w'.cell? ⟨(ad147.add ((x14_3).toNat * 5)).block, (ad147.add ((x14_3).toNat * 5)).off + 3, none⟩ = some (.int .i64 ((Qy x7_3 x14_3).f1.f1)) ∧ w'.cell? ⟨(ad147.add ((x14_3).toNat * 5)).block, (ad147.add ((x14_3).toNat * 5)).off + 4, none⟩ = some (.int .i64 ((Qy x7_3 x14_3).f2))) (ds := []) #[false, false, false, false, false, false, false, false, false, false, false, false, false, false] (by kernel_rfl) rfl rfl ⟨hx147_0, hx147_1, hx147_2, hx147_3, hx147_4⟩ (fun hHeld => ?_); refine Jk Qao.tab15 Qao.bits15 (fun HT_ HW_ => ?_); generalize wr.drew = w57 at HO_7 HO_11 HO_13 BK101 BK110 HB hx147_0 hx147_1 hx147_2 hx147_3 hx147_4 hHeld ⊢; refine pu 0 75 ?_; refine pu 2 77 ?_; refine pu 3 78 ?_; refine pu 4 79 ?_; refine tk 5 80 hHeld ?_; refine on 1 (fun K hK => ?_); refine gO Tryz.func54 #[.slice Ao58 x13_3.length co58] ?_
            with_reducible refine (Qau.calls _ _ x13_3 t144 _ ?side1 ?side2 A43.out).mono ?_
            (case side1 => exact pC (Kd.R_reads' HO_13.out).2.2)
            (case side2 => exact (Kd.R_reads' HO_13.out).2.1)
            rintro e w59 ⟨v145, rfl, ho0, hb⟩; have HS0_ := (hb.cell (World.block_lt_of_cell? _ _ (hHeld.1))).trans (hHeld.1); have HS1_ := (hb.cell (World.block_lt_of_cell? _ _ (hHeld.2.1))).trans (hHeld.2.1); have HS2_ := (hb.cell (World.block_lt_of_cell? _ _ (hHeld.2.2.1))).trans (hHeld.2.2.1); have HS3_ := (hb.cell (World.block_lt_of_cell? _ _ (hHeld.2.2.2.1))).trans (hHeld.2.2.2.1); have HS4_ := (hb.cell (World.block_lt_of_cell? _ _ (hHeld.2.2.2.2))).trans (hHeld.2.2.2.2); refine ⟨_, rfl, ?_⟩; replace HO_7 := rb HO_7 hb; replace HO_11 := Qa.mk (Kd.S_below (pS HO_11.out) hb); have HO146 := Qa.mk (Kd.R_lower (Kd.R_new' ho0 (Kd.R_lt (pR HO_13.out))) (Qr (pE HB))); replace HO_13 := re HO_13 ho0 hb; replace BK101 := bb BK101 hb; replace BK110 := bb BK110 hb; replace HB := bs HB hb
            (try clear hb)
            (try clear hb2)
            (try clear hk)
            (try clear hi)
            (try clear ho0)
            obtain ⟨Ao60, co60, eo60⟩ := Kd.R_slice HO146.out
            (first | subst eo60 | (injection eo60 with f1_ f2_ f3_; have f4_ := f1_.symm; have f5_ := f3_.symm; clear f1_ f2_ f3_; subst f4_; subst f5_))
            refine hK.out _ _ ⟨HS0_, HS1_, HS2_, HS3_, HS4_⟩ (fun hHeld => ?_); clear hK K; refine QY (a' := ?_) ?_ ?_
            rotate_left
            ·show Act.put _ (some 76) _ = _
             simp only [Act.put, List.setIfInBounds_toArray, List.set_cons_zero, List.set_cons_succ, QR, QU]; rfl
            refine on 6 (fun K hK => ?_); refine gO Tryz.func32 #[.slice Ao60 t144.length co60, .agg #[.int .i64 ((Qy x7_3 x14_3).f0.f0), .int .i64 ((Qy x7_3 x14_3).f0.f1), .int .i64 ((Qy x7_3 x14_3).f1.f0), .int .i64 ((Qy x7_3 x14_3).f1.f1), .int .i64 ((Qy x7_3 x14_3).f2)]] ?_
            with_reducible refine (Jb.calls k3 _ _ t144 ((Qy x7_3 x14_3).f0.f0) ((Qy x7_3 x14_3).f0.f1) ((Qy x7_3 x14_3).f1.f0) ((Qy x7_3 x14_3).f1.f1) ((Qy x7_3 x14_3).f2) t148 t151 t152 _ ?side1 ?side2 A45.out).mono ?_
            (case side1 => exact pC (Kd.R_reads' HO146.out).2.2)
            (case side2 => exact (Kd.R_reads' HO146.out).2.1)
            rintro e w61 ⟨v149, rfl, ho0, hb⟩; have HS0_ := (hb.cell (World.block_lt_of_cell? _ _ (hHeld.1))).trans (hHeld.1); have HS1_ := (hb.cell (World.block_lt_of_cell? _ _ (hHeld.2.1))).trans (hHeld.2.1); have HS2_ := (hb.cell (World.block_lt_of_cell? _ _ (hHeld.2.2.1))).trans (hHeld.2.2.1); have HS3_ := (hb.cell (World.block_lt_of_cell? _ _ (hHeld.2.2.2.1))).trans (hHeld.2.2.2.1); have HS4_ := (hb.cell (World.block_lt_of_cell? _ _ (hHeld.2.2.2.2))).trans (hHeld.2.2.2.2); refine ⟨_, rfl, ?_⟩; replace HO_7 := rb HO_7 hb; replace HO_11 := Qa.mk (Kd.S_elder' (pS HO_11.out) (Kd.R_base ho0) hb); replace HO_13 := rb HO_13 hb; replace HO146 := rb HO146 hb; have HO150 := rl ho0 HB; replace BK101 := bb BK101 hb; replace BK110 := bb BK110 hb; replace HB := bs HB hb
            (try clear hb)
            (try clear hb2)
            (try clear hk)
            (try clear hi)
            (try clear ho0)
            refine hK.out _ _ ⟨HS0_, HS1_, HS2_, HS3_, HS4_⟩ (fun hHeld => ?_); clear hK K; refine QY (a' := ?_) ?_ ?_
            rotate_left
            ·show Act.put _ (some 81) _ = _
             simp only [Act.put, List.setIfInBounds_toArray, List.set_cons_zero, List.set_cons_succ, QR, QU]; rfl
            refine pu 7 74 ?_; refine pu 8 82 ?_; refine pu 9 83 ?_; refine pu 10 84 ?_; refine pu 11 15 ?_; refine pu 12 16 ?_; refine pu 13 17 ?_; refine JD (JM HT_.out (by kernel_rfl)) ?_; obtain ⟨Ao62, co62, eo62⟩ := Kd.S_slice HO_11.out; subst eo62; go_upto_region 18 with (fail)
            go_cut [114] (fun v114 wc => ∃ (kq : Nat) (x114_55 : Bool), v114 = .bool x114_55 ∧ Qa (Qao.j4 kq x7_3 t136 x13_3 x14_3 t148 x114_55 = some r) ∧ Qa (kq ≤ k3) ∧ Qa (Kd.R k26 26 wc w.heap.size (fun k_ => k_ ≠ gb110) (.slice (some ad147) x7_3.length co33) x7_3) ∧ Qa (Kd.S (Kd.slice 3 (Kd.int .i64)) 27 wc w.heap.size (fun k_ => some k_ ≠ (v149 : Value).ownBlock) (.slice Ao62 t136.length co62) t136) ∧ Qa (Kd.R k100 100 wc w.heap.size (fun _ => True) (.slice Ao58 x13_3.length co58) x13_3) ∧ Qa (Kd.R (Kd.int .i64) 3 wc w.heap.size (fun _ => True) v149 t148) ∧ Qa (wc.heap[gb101]? = some (.cells #[(.slice A0_0 l0_0.length c0_0), .int .u8 a0_1, .int .u8 a0_2, .int .u8 a0_3, .int .u8 a0_4, .int .u8 a0_5] 91 (0, 0))) ∧ Qa (wc.heap[gb110]? = some (.cells #[.int .i64 t105, .int .i64 t106, .int .i64 t107, .int .i64 t108, .int .i64 t109] 26 (0, 0))) ∧ Qa (Below w.heap.size w wc))
            case first =>
             have H := HC56.out; clear HC56; by_cases c63 : t152 = 0
             ·rw [if_pos c63] at H
              have c63b0 : (t152 == 0) = true := beq_iff_eq.mpr c63; have c63b1 : (t152 != 0) = false := bne_eq_false_iff_eq.mpr c63; clear c63
              (first | rw [c63b0] | (simp only [QR, QU]; rw [c63b0]) | skip)
              by_cases c64 : x14_3 < (t136.length : Int)
              ·rw [if_pos c64] at H
               have c64b0 : decide (x14_3 < (t136.length : Int)) = true := decide_eq_true c64; clear c64; obtain ⟨t155, A65, H⟩ := bi H; by_cases c66 : t155 = true
               ·subst c66
                rw [if_pos rfl] at H; have H' := Qa.mk H; clear H; have p154 : 0 ≤ (x14_3 : Int) := dT; have q154 : x14_3 < (t136.length : Int) := dT; obtain ⟨ad154, A154_0, c154_0, e154, hx154_0, hl154_0, hi154_0⟩ := XZ (Kd.S_reads' HO_11.out).2.2 x14_3 p154 q154
                cases e154
                obtain ⟨ce154, hce154, hMe154, hcc154⟩ := Kd.S_get HO_11.out [] x14_3 p154 (by first | exact q154 | exact dT | (have e_ := (Kd.S_reads' HO_11.out).1; omega)); obtain ⟨ve154_0, rfl, ge154_0⟩ := hMe154; have hv154_0 := hcc154 0 _ rfl; rw [Nat.add_zero, show ((Kd.slice 3 (Kd.int .i64))).sz = 1 from rfl, Nat.mul_one] at hv154_0; replace hv154_0 := Option.some.inj (hv154_0.symm.trans hx154_0); rw [hv154_0] at ge154_0; have HL154_0 := Qa.mk (show Kd.R (Kd.int .i64) 3 _ _ _ _ (Jo t136 x14_3) from ge154_0); clear hv154_0 ge154_0 hcc154 hce154; have HR154_0 := Qa.mk hi154_0; have HC154_0 := Qa.mk hl154_0; clear hi154_0 hl154_0; replace p154 := eq_true p154; replace q154 := eq_true q154; go_wp2_with (first | (go_at_call 60; (with_reducible refine (Qat.calls k3 _ _ x13_3 _ _ (Jo t136 x14_3) true _ ?side1 ?side2 ?side3 ?side4 A65.out).mono ?_); (case side1 => exact pC (Kd.R_reads' HO_13.out).2.2); (case side2 => exact (Kd.R_reads' HO_13.out).2.1); (case side3 => exact pC HR154_0.out); (case side4 => exact HC154_0.out); rintro e w' ⟨rfl, ⟨nd, rfl⟩⟩; obtain ⟨Ao67, co67, eo67⟩ := Kd.R_slice HO150.out; subst eo67; have p156 : 0 ≤ (x14_3 : Int) := dT; have q156 : x14_3 < (t136.length : Int) := dT; obtain ⟨ad156, A156_0, c156_0, e156, hx156_0, hl156_0, hi156_0⟩ := XZ (Kd.S_reads' HO_11.out).2.2 x14_3 p156 q156; obtain rfl : ad154 = ad156 := (by injection e156); obtain ⟨ce156, hce156, hMe156, hcc156⟩ := Kd.S_get HO_11.out [] x14_3 p156 (by first | exact q156 | exact dT | (have e_ := (Kd.S_reads' HO_11.out).1; omega)); obtain ⟨ve156_0, rfl, ge156_0⟩ := hMe156; have hv156_0 := hcc156 0 _ rfl; rw [Nat.add_zero, show ((Kd.slice 3 (Kd.int .i64))).sz = 1 from rfl, Nat.mul_one] at hv156_0; replace hv156_0 := Option.some.inj (hv156_0.symm.trans hx156_0); rw [hv156_0] at ge156_0; have HL156_0 := Qa.mk (show Kd.R (Kd.int .i64) 3 _ _ _ _ (Jo t136 x14_3) from ge156_0); clear hv156_0 ge156_0; clear hcc156 hce156; have HR156_0 := Qa.mk hi156_0; have HC156_0 := Qa.mk hl156_0; clear hi156_0 hl156_0; replace p156 := eq_true p156; replace q156 := eq_true q156; have ea_ := Option.some.inj (hx154_0.symm.trans hx156_0); injection ea_ with ea_ en_ ec_; subst ea_; subst ec_; clear en_))
                go_meet
                case rel => exact ⟨_, (((t148.length : Int) != ((Jo t136 x14_3).length : Int))), eS, H', ⟨by have := HJ3.out; have := HJ26.out; have := HK3.out; first | omega | exact Nat.le_refl _⟩, ⟨by (with_reducible repeat (first | apply Kd.R_alloc | apply Kd.R_drewN | apply Kd.R_drew)); exact HO_7.out⟩, ⟨by (with_reducible repeat (first | apply Kd.S_alloc | apply Kd.S_drewN | apply Kd.S_drew)); exact Kd.S_mono HO_11.out (fun _ hk => hk.2)⟩, ⟨by (with_reducible repeat (first | apply Kd.R_alloc | apply Kd.R_drewN | apply Kd.R_drew)); exact Kd.R_mono HO_13.out (fun _ hk => trivial)⟩, ⟨by (with_reducible repeat (first | apply Kd.R_alloc | apply Kd.R_drewN | apply Kd.R_drew)); exact HO150.out⟩, ⟨pB BK101.out⟩, ⟨pB BK110.out⟩, ⟨pE HB⟩⟩
               ·replace c66 := Bool.eq_false_iff.mpr c66
                subst c66; rw [if_neg (show ¬ (false = true) by decide)] at H; exact (Qao.dead_j4 _ _ _ _ _ _ _ H HRT.out).elim
              ·rw [if_neg c64] at H
               exact absurd H (by simp)
             ·rw [if_neg c63] at H
              have c63b0 : (t152 == 0) = false := beq_eq_false_iff_ne.mpr c63; have c63b1 : (t152 != 0) = true := bne_iff_ne.mpr c63
              (first | rw [c63b0] | (simp only [QR, QU]; rw [c63b0]) | skip)
              exact (Qao.dead_j4 _ _ _ _ _ _ _ H HRT.out).elim
            case rest =>
             clear HC56; try clear c1
             try clear p1
             try clear q1
             try clear hx1
             try clear p2
             try clear c3
             try clear c4
             try clear c5
             try clear c6
             try clear p6
             try clear p11
             try clear q11
             try clear hx11
             try clear p14
             try clear q14
             try clear hx14
             try clear c15
             try clear p15
             try clear q15
             try clear hx15
             try clear c32
             try clear c42
             try clear c42b0
             try clear c44
             try clear c44b0
             try clear c46
             try clear c46b0
             try clear c46b1
             try clear c47
             try clear c47b0
             try clear c47b1
             try clear c54
             try clear c63
             try clear c63b0
             try clear c63b1
             try clear c64
             try clear c64b0
             try clear c66
             try clear hcz6_1
             try clear hcz6_2
             try clear hcz6_3
             try clear hcz6_4
             try clear hcz6_5
             try clear hfz10_0
             try clear hfz10_1
             try clear hfz10_2
             try clear hfz10_3
             try clear hfz10_4
             try clear hfz22_0
             try clear hfz22_1
             try clear hfz22_2
             try clear hfz22_3
             try clear hfz22_4
             try clear hfz6_0
             try clear hfz6_1
             try clear hfz6_2
             try clear hfz6_3
             try clear hfz6_4
             try clear hfz6_5
             try clear hx114_0
             try clear hx114_1
             try clear hx114_2
             try clear hx114_3
             try clear hx114_4
             try clear hx147_0
             try clear hx147_1
             try clear hx147_2
             try clear hx147_3
             try clear hx147_4
             try clear hx154_0
             try clear hx156_0
             try clear p1
             try clear p11
             try clear p114
             try clear p147
             try clear p154
             try clear p156
             try clear p2
             try clear p6
             try clear q1
             try clear q11
             try clear q114
             try clear q147
             try clear q154
             try clear q156
             obtain ⟨kq, x114_55, rfl, HA, HJ55, HO_7, HO_11, HO_13, HO_15, BK101, BK110, HB⟩ := hcut
             cases kq with
             | zero => exact absurd HA.out (by simp [Qao.j4])
             | succ kj55 =>
              have H := HA.out; clear HA; simp only [Qao.j4] at H; by_cases c68 : x114_55 = true
              ·subst c68
               rw [if_pos rfl] at H; exact absurd ((Option.some.inj H).trans HRT.out) (by simp)
              ·replace c68 := Bool.eq_false_iff.mpr c68
               subst c68; rw [if_neg (show ¬ (false = true) by decide)] at H; have H' := Qa.mk H; clear H; go_wp2
               go_loopg [18] kj55 (fun kq v18 w' => ∃ (x13_5 : List S100) (x18_5 : Int), v18 = .int .i64 x18_5 ∧ Qa (Qao.l2 kq x7_3 t136 x13_5 x14_3 t148 x18_5 = some r) ∧ Qa (kq ≤ kj55) ∧ Qa (Kd.R k26 26 w' w.heap.size (fun k_ => k_ ≠ gb110) (.slice (some ad147) x7_3.length co33) x7_3) ∧ Qa (Kd.S (Kd.slice 3 (Kd.int .i64)) 27 w' w.heap.size (fun k_ => some k_ ≠ (v149 : Value).ownBlock) (.slice Ao62 t136.length co62) t136) ∧ Qa (Kd.R k100 100 w' w.heap.size (fun _ => True) (.slice Ao58 x13_3.length co58) x13_5) ∧ Qa (Kd.R (Kd.int .i64) 3 w' w.heap.size (fun _ => True) v149 t148) ∧ Qa (w'.heap[gb101]? = some (.cells #[(.slice A0_0 l0_0.length c0_0), .int .u8 a0_1, .int .u8 a0_2, .int .u8 a0_3, .int .u8 a0_4, .int .u8 a0_5] 91 (0, 0))) ∧ Qa (w'.heap[gb110]? = some (.cells #[.int .i64 t105, .int .i64 t106, .int .i64 t107, .int .i64 t108, .int .i64 t109] 26 (0, 0))) ∧ Qa (Below w.heap.size w w'))
               case atStart => exact ⟨(x13_3), (0), eS, H', ⟨Nat.le_refl _⟩, ⟨by (with_reducible repeat (first | apply Kd.R_alloc | apply Kd.R_drewN | apply Kd.R_drew)); exact HO_7.out⟩, ⟨by (with_reducible repeat (first | apply Kd.S_alloc | apply Kd.S_drewN | apply Kd.S_drew)); exact HO_11.out⟩, ⟨by (with_reducible repeat (first | apply Kd.R_alloc | apply Kd.R_drewN | apply Kd.R_drew)); exact HO_13.out⟩, ⟨by (with_reducible repeat (first | apply Kd.R_alloc | apply Kd.R_drewN | apply Kd.R_drew)); exact HO_15.out⟩, ⟨pB BK101.out⟩, ⟨pB BK110.out⟩, ⟨pE HB⟩⟩
               case round =>
                clear H'; try clear c1
                try clear p1
                try clear q1
                try clear hx1
                try clear p2
                try clear c3
                try clear c4
                try clear c5
                try clear c6
                try clear p6
                try clear p11
                try clear q11
                try clear hx11
                try clear p14
                try clear q14
                try clear hx14
                try clear c15
                try clear p15
                try clear q15
                try clear hx15
                try clear c32
                try clear c42
                try clear c42b0
                try clear c44
                try clear c44b0
                try clear c46
                try clear c46b0
                try clear c46b1
                try clear c47
                try clear c47b0
                try clear c47b1
                try clear c54
                try clear c63
                try clear c63b0
                try clear c63b1
                try clear c64
                try clear c64b0
                try clear c66
                try clear c68
                try clear hcz6_1
                try clear hcz6_2
                try clear hcz6_3
                try clear hcz6_4
                try clear hcz6_5
                try clear hfz10_0
                try clear hfz10_1
                try clear hfz10_2
                try clear hfz10_3
                try clear hfz10_4
                try clear hfz22_0
                try clear hfz22_1
                try clear hfz22_2
                try clear hfz22_3
                try clear hfz22_4
                try clear hfz6_0
                try clear hfz6_1
                try clear hfz6_2
                try clear hfz6_3
                try clear hfz6_4
                try clear hfz6_5
                try clear hx114_0
                try clear hx114_1
                try clear hx114_2
                try clear hx114_3
                try clear hx114_4
                try clear hx147_0
                try clear hx147_1
                try clear hx147_2
                try clear hx147_3
                try clear hx147_4
                try clear hx154_0
                try clear hx156_0
                try clear p1
                try clear p11
                try clear p114
                try clear p14
                try clear p147
                try clear p15
                try clear p154
                try clear p156
                try clear p2
                try clear p6
                try clear q1
                try clear q11
                try clear q114
                try clear q14
                try clear q147
                try clear q15
                try clear q154
                try clear q156
                obtain ⟨x13_5, x18_5, rfl, HA, HK5, HO_7, HO_11, HO_13, HO_15, BK101, BK110, HB⟩ := hrel; have hl13_5 := (Kd.R_reads' HO_13.out).1; rw [hl13_5] at HO_13
                (try simp only [hl13_5])
                (try simp only [hl13_5] at BK101)
                (try simp only [hl13_5] at BK110)
                (try simp only [hl13_5] at HO_7)
                (try simp only [hl13_5] at HO_11)
                (try simp only [hl13_5] at HO_15)
                cases gk with
                | zero => exact absurd HA.out (by simp [Qao.l2])
                | succ k5 =>
                 have H := HA.out; clear HA; simp only [Qao.l2] at H; by_cases c69 : x18_5 < (x13_5.length : Int)
                 ·rw [if_pos c69] at H
                  have c69b0 : decide (x18_5 < (x13_5.length : Int)) = true := decide_eq_true c69; clear c69; by_cases c70 : 0 ≤ x18_5
                  ·rw [if_pos c70] at H
                   have c70b0 : decide (0 ≤ x18_5) = true := decide_eq_true c70; clear c70; by_cases c71 : x18_5 < (t148.length : Int)
                   ·rw [if_pos c71] at H
                    have c71b0 : decide (x18_5 < (t148.length : Int)) = true := decide_eq_true c71; clear c71; by_cases c72 : 0 ≤ x14_3
                    ·rw [if_pos c72] at H
                     have c72b0 : decide (0 ≤ x14_3) = true := decide_eq_true c72; clear c72; by_cases c73 : x14_3 < (t136.length : Int)
                     ·rw [if_pos c73] at H
                      have c73b0 : decide (x14_3 < (t136.length : Int)) = true := decide_eq_true c73; clear c73; by_cases c74 : x18_5 < ((Jo t136 x14_3).length : Int)
                      ·rw [if_pos c74] at H
                       have c74b0 : decide (x18_5 < ((Jo t136 x14_3).length : Int)) = true := decide_eq_true c74; clear c74; by_cases c75 : (rd t148 x18_5) = (rd (Jo t136 x14_3) x18_5)
                       ·rw [if_pos c75] at H
                        have c75b0 : ((rd t148 x18_5) == (rd (Jo t136 x14_3) x18_5)) = true := beq_iff_eq.mpr c75; have c75b1 : ((rd t148 x18_5) != (rd (Jo t136 x14_3) x18_5)) = false := bne_eq_false_iff_eq.mpr c75; clear c75; obtain ⟨y162, hy162⟩ : ∃ y_ : List S100, y_ = (x13_5.set (x18_5 : Int).toNat (⟨(⟨(Qf x13_5 x18_5).f0.f0, (Qf x13_5 x18_5).f0.f1⟩ : S24), (Qf x13_5 x18_5).f1, (Qf x13_5 x18_5).f2, wrap64 (((Qf x13_5 x18_5).f3) - (rd t148 x18_5))⟩ : S100)) := ⟨_, rfl⟩
                        replace H : (Qao.l2 k5 x7_3 t136 y162 x14_3 t148 (wrap64 (x18_5 + 1))) = some r := yy hy162 H; have Ny162 := Qa.mk hy162; clear hy162; have H' := Qa.mk H; clear H
                        try go_wp2
                        replace HO_7 := Qa.mk (Kd.R_drew HO_7.out); replace HO_11 := Qa.mk (Kd.S_drew HO_11.out); replace HO_13 := Qa.mk (Kd.R_drew HO_13.out); replace HO_15 := Qa.mk (Kd.R_drew HO_15.out); replace BK101 := Qa.mk (Qh BK101.out); replace BK110 := Qa.mk (Qh BK110.out); replace HB := Qa.mk (QM HB.out); obtain ⟨Ao78, co78, eo78⟩ := Kd.R_slice HO_15.out
                        (first | subst eo78 | (injection eo78 with f1_ f2_ f3_; have f4_ := f1_.symm; have f5_ := f3_.symm; clear f1_ f2_ f3_; subst f4_; subst f5_))
                        have p157 : 0 ≤ (x18_5 : Int) := dT; have q157 : x18_5 < (t148.length : Int) := dT; obtain ⟨ad157, e157, hx157_0⟩ := Kd.at_int (Kd.R_reads' HO_15.out).2.2 x18_5 p157 q157
                        cases e157
                        replace p157 := eq_true p157; replace q157 := eq_true q157; have p158 : 0 ≤ (x14_3 : Int) := dT; have q158 : x14_3 < (t136.length : Int) := dT; obtain ⟨ad158, A158_0, c158_0, e158, hx158_0, hl158_0, hi158_0⟩ := XZ (Kd.S_reads' HO_11.out).2.2 x14_3 p158 q158
                        cases e158
                        obtain ⟨ce158, hce158, hMe158, hcc158⟩ := Kd.S_get HO_11.out [] x14_3 p158 (by first | exact q158 | exact dT | (have e_ := (Kd.S_reads' HO_11.out).1; omega)); obtain ⟨ve158_0, rfl, ge158_0⟩ := hMe158; have hv158_0 := hcc158 0 _ rfl; rw [Nat.add_zero, show ((Kd.slice 3 (Kd.int .i64))).sz = 1 from rfl, Nat.mul_one] at hv158_0; replace hv158_0 := Option.some.inj (hv158_0.symm.trans hx158_0); rw [hv158_0] at ge158_0; have HL158_0 := Qa.mk (show Kd.R (Kd.int .i64) 3 _ _ _ _ (Jo t136 x14_3) from ge158_0); clear hv158_0 ge158_0 hcc158 hce158; have HR158_0 := Qa.mk hi158_0; have HC158_0 := Qa.mk hl158_0; clear hi158_0 hl158_0; replace p158 := eq_true p158; replace q158 := eq_true q158; have p159 : 0 ≤ (x18_5 : Int) := dT; have q159 : x18_5 < ((Jo t136 x14_3).length : Int) := dT; obtain ⟨ad159, e159, hx159_0⟩ := Kd.at_int (by repeat (first | (with_reducible exact HR158_0.out) | (with_reducible refine Kd.C_alloc ?_ _) | (with_reducible refine Kd.C_drewN ?_ _) | (with_reducible refine Kd.C_drew ?_) | exact HR158_0.out)) x18_5 p159 q159
                        cases e159
                        replace p159 := eq_true p159; replace q159 := eq_true q159; refine JS (n := 12) (S := fun w' => w'.cell? (ad157.add (x18_5).toNat) = some (.int .i64 (rd t148 x18_5)) ∧ w'.cell? (ad158.add (x14_3).toNat) = some (.slice (some ad159) (Jo t136 x14_3).length c158_0) ∧ w'.cell? (ad159.add (x18_5).toNat) = some (.int .i64 (rd (Jo t136 x14_3) x18_5))) (ds := []) #[false, false, false, false, false, false, false, false, false, false, false, false] (by kernel_rfl) rfl rfl ⟨hx157_0, hx158_0, hx159_0⟩ (fun hHeld => ?_); refine Jk Qao.tab23 Qao.bits23 (fun HT_ HW_ => ?_); generalize wr.drew = w77 at HO_7 HO_11 HO_13 HO_15 BK101 BK110 HB HL158_0 HR158_0 hx157_0 hx158_0 hx159_0 hHeld ⊢; refine pu 0 121 ?_; refine pu 1 122 ?_; refine pu 2 123 ?_; refine pu 4 125 ?_; refine pu 5 126 ?_; refine pu 6 127 ?_; refine pu 8 129 ?_; refine tk 3 124 hHeld ?_; refine tk 7 128 hHeld ?_; refine pu 9 130 ?_; refine tk 10 131 hHeld ?_; refine pu 11 132 ?_; refine JD (JM HT_.out (by kernel_rfl)) ?_
                        try go_wp2
                        replace HO_7 := Qa.mk (Kd.R_drew HO_7.out); replace HO_11 := Qa.mk (Kd.S_drew HO_11.out); replace HO_13 := Qa.mk (Kd.R_drew HO_13.out); replace HO_15 := Qa.mk (Kd.R_drew HO_15.out); replace HL158_0 := Qa.mk (Kd.R_drew HL158_0.out); replace BK101 := Qa.mk (Qh BK101.out); replace BK110 := Qa.mk (Qh BK110.out); replace HR158_0 := Qa.mk (Kd.C_drew HR158_0.out); replace HB := Qa.mk (QM HB.out); have p160 : 0 ≤ (x18_5 : Int) := dT; have q160 : x18_5 < (x13_5.length : Int) := dT; obtain ⟨ad160, e160, hx160_0, hx160_1, hx160_2, hx160_3, hx160_4⟩ := Zf (Kd.R_reads' HO_13.out).2.2 x18_5 p160 q160
                        cases e160
                        replace p160 := eq_true p160; replace q160 := eq_true q160; have p161 : 0 ≤ (x18_5 : Int) := dT; have q161 : x18_5 < (t148.length : Int) := dT; obtain ⟨ad161, e161, hx161_0⟩ := Kd.at_int (Kd.R_reads' HO_15.out).2.2 x18_5 p161 q161; obtain rfl : ad157 = ad161 := (by injection e161); replace p161 := eq_true p161; replace q161 := eq_true q161; have p76 : 0 ≤ (x18_5 : Int) := dT; have q76 : (x18_5 : Int) < ((x13_5.length : Int) : Int) := dT; obtain ⟨go76, co76, eo76, gb76, gl76, cl76, HG76⟩ := Kd.R_form HO_13.out (by omega)
                        (first | cases eo76 | (injection eo76 with ea_ en_ ec_; (first | subst ea_ | (injection ea_ with ea_; subst ea_)); subst ec_; clear en_))
                        have GB76 := Qa.mk gb76; have GG76 := Qa.mk HG76; clear gb76 gl76 HG76
                        (first | simp only [JP] at hx160_0 | skip)
                        (first | simp only [JP] at hx160_1 | skip)
                        (first | simp only [JP] at hx160_2 | skip)
                        (first | simp only [JP] at hx160_3 | skip)
                        (first | simp only [JP] at hx160_4 | skip)
                        obtain ⟨ce76, hcl76, hM76, hcc76, hfr76⟩ := Kd.R_elem HO_13.out z100 (x18_5 : Int) p76 q76; obtain rfl := ZH hM76; have hx76_0 : World.cell? _ ⟨go76, (x18_5 : Int).toNat * 5, none⟩ = some (.int .i64 ((Qf x13_5 x18_5).f0.f0)) := hcc76 0 _ rfl; have hx76_1 : World.cell? _ ⟨go76, (x18_5 : Int).toNat * 5 + 1, none⟩ = some (.int .i64 ((Qf x13_5 x18_5).f0.f1)) := hcc76 1 _ rfl; have hx76_2 : World.cell? _ ⟨go76, (x18_5 : Int).toNat * 5 + 2, none⟩ = some (.int .i64 ((Qf x13_5 x18_5).f1)) := hcc76 2 _ rfl; have hx76_3 : World.cell? _ ⟨go76, (x18_5 : Int).toNat * 5 + 3, none⟩ = some (.int .i64 ((Qf x13_5 x18_5).f2)) := hcc76 3 _ rfl; have hx76_4 : World.cell? _ ⟨go76, (x18_5 : Int).toNat * 5 + 4, none⟩ = some (.int .i64 ((Qf x13_5 x18_5).f3)) := hcc76 4 _ rfl; have hf76_0 : World.frozen? _ ⟨go76, (x18_5 : Int).toNat * 5, none⟩ = false := hfr76 0; have hf76_1 : World.frozen? _ ⟨go76, (x18_5 : Int).toNat * 5 + 1, none⟩ = false := hfr76 1; have hf76_2 : World.frozen? _ ⟨go76, (x18_5 : Int).toNat * 5 + 2, none⟩ = false := hfr76 2; have hf76_3 : World.frozen? _ ⟨go76, (x18_5 : Int).toNat * 5 + 3, none⟩ = false := hfr76 3; have hf76_4 : World.frozen? _ ⟨go76, (x18_5 : Int).toNat * 5 + 4, none⟩ = false := hfr76 4; clear hcl76 hcc76 hfr76 hM76; replace p76 := eq_true p76; replace q76 := eq_true q76; obtain ⟨ce80, hcl80, hM80, hcc80, hfr80⟩ := Kd.R_elem HO_13.out z100 (x18_5 : Int) (dT) (by have h_ : (x18_5 : Int) < ((x13_5.length : Int) : Int) := dT; first | exact h_ | (have e_ := (Kd.R_reads' HO_13.out).1; omega) | simpa using h_); obtain rfl := ZH hM80; have HP80 := (Kd.R_seg HO_13.out (x18_5 : Int) (dT) (by have h_ : (x18_5 : Int) < ((x13_5.length : Int) : Int) := dT; first | exact h_ | (have e_ := (Kd.R_reads' HO_13.out).1; omega) | simpa using h_) (seg := [.int .i64 (wrap64 (((Qf x13_5 x18_5).f3) - (rd t148 x18_5)))]) (j := 4) hcl80 hcc80 (show 5 ≤ 5 from by decide) (x' := (⟨(⟨(Qf x13_5 x18_5).f0.f0, (Qf x13_5 x18_5).f0.f1⟩ : S24), (Qf x13_5 x18_5).f1, (Qf x13_5 x18_5).f2, wrap64 (((Qf x13_5 x18_5).f3) - (rd t148 x18_5))⟩ : S100)) (ZM _ _ _ (⟨(⟨(Qf x13_5 x18_5).f0.f0, (Qf x13_5 x18_5).f0.f1⟩ : S24), (Qf x13_5 x18_5).f1, (Qf x13_5 x18_5).f2, wrap64 (((Qf x13_5 x18_5).f3) - (rd t148 x18_5))⟩ : S100) ) (fun _ hk => hk)).1; rw [← Ny162.out] at HP80; have HQ80 := Qa.mk HP80; clear hcl80 hcc80 hfr80 hM80 HP80; refine JS (n := 13) (S := fun w' => w'.cell? ⟨go76, ((x18_5).toNat * 5), none⟩ = some (.int .i64 ((Qf x13_5 x18_5).f0.f0)) ∧ w'.cell? ⟨go76, ((x18_5).toNat * 5) + 1, none⟩ = some (.int .i64 ((Qf x13_5 x18_5).f0.f1)) ∧ w'.cell? ⟨go76, ((x18_5).toNat * 5) + 2, none⟩ = some (.int .i64 ((Qf x13_5 x18_5).f1)) ∧ w'.cell? ⟨go76, ((x18_5).toNat * 5) + 3, none⟩ = some (.int .i64 ((Qf x13_5 x18_5).f2)) ∧ w'.cell? ⟨go76, ((x18_5).toNat * 5) + 4, none⟩ = some (.int .i64 ((Qf x13_5 x18_5).f3)) ∧ w'.cell? (ad157.add (x18_5).toNat) = some (.int .i64 (rd t148 x18_5))) (ds := [12]) #[false, false, false, false, false, false, false, false, false, false, false, false, false] (by kernel_rfl) rfl rfl ⟨hx160_0, hx160_1, hx160_2, hx160_3, hx160_4, hx161_0⟩ (fun hHeld => ?_); refine Jk Qao.tab25 Qao.bits25 (fun HT_ HW_ => ?_); generalize w77.drew = w79 at HO_7 HO_11 HO_13 HO_15 HL158_0 BK101 BK110 HR158_0 HB GG76 HQ80 hf76_0 hf76_1 hf76_2 hf76_3 hf76_4 hx160_0 hx160_1 hx160_2 hx160_3 hx160_4 hx161_0 hx76_0 hx76_1 hx76_2 hx76_3 hx76_4 hHeld ⊢; refine pu 0 133 ?_; refine pu 1 134 ?_; refine pu 2 135 ?_; refine pu 3 136 ?_; refine pu 5 138 ?_; refine pu 6 139 ?_; refine pu 7 140 ?_; refine tk 4 137 hHeld ?_; refine tk 8 141 hHeld ?_; refine pu 9 142 ?_; refine pu 10 143 ?_; refine pu 11 144 ?_; refine last_ (i := 12) (N := none) #[true, true, true, true, true, true, true, true, true, true, true, true, true] rfl rfl (X9 HT_.out (by kernel_rfl)) (by decide) (fun K hK => ?_); refine Z7 (w1 := ?_) (by rfl) rfl ?_ ?_
                        rotate_left
                        ·go_simp
                         rfl
                        refine hK.out _ _ ?_; clear hK K; refine JD (JM HT_.out (by kernel_rfl)) ?_
                        try go_wp2
                        (try simp only [← hl13_5])
                        go_roundg k5
                        case measure => have := HJ3.out; have := HJ26.out; have := HK3.out; have := HJ55.out; have := HK5.out; omega
                        case rel => exact ⟨(y162), (wrap64 (x18_5 + 1)), eS, H', ⟨by have := HJ3.out; have := HJ26.out; have := HK3.out; have := HJ55.out; have := HK5.out; omega⟩, ⟨by (try simp only [hl13_5]); (with_reducible repeat (first | apply Kd.R_alloc | apply Kd.R_drewN | apply Kd.R_drew)); exact Kd.R_mono (Kd.R_far (p := ⟨go76, (x18_5 : Int).toNat * 5 + 4, none⟩) (Kd.R_types HO_7.out GG76.out (by decide)) (fun _ hk => hk.2) (.int .i64 (wrap64 (((Qf x13_5 x18_5).f3) - (rd t148 x18_5))))) (fun _ hk => hk.1)⟩, ⟨by (try simp only [hl13_5]); (with_reducible repeat (first | apply Kd.S_alloc | apply Kd.S_drewN | apply Kd.S_drew)); exact Kd.S_mono (Kd.S_far (p := ⟨go76, (x18_5 : Int).toNat * 5 + 4, none⟩) (Kd.S_types HO_11.out GG76.out (by decide)) (fun _ hk => hk.2) (.int .i64 (wrap64 (((Qf x13_5 x18_5).f3) - (rd t148 x18_5))))) (fun _ hk => hk.1)⟩, ⟨by (try simp only [hl13_5]); (with_reducible repeat (first | apply Kd.R_alloc | apply Kd.R_drewN | apply Kd.R_drew)); exact HQ80.out⟩, ⟨by (try simp only [hl13_5]); (with_reducible repeat (first | apply Kd.R_alloc | apply Kd.R_drewN | apply Kd.R_drew)); exact Kd.R_mono (Kd.R_far (p := ⟨go76, (x18_5 : Int).toNat * 5 + 4, none⟩) (Kd.R_types HO_15.out GG76.out (by decide)) (fun _ hk => hk.2) (.int .i64 (wrap64 (((Qf x13_5 x18_5).f3) - (rd t148 x18_5))))) (fun _ hk => trivial)⟩, ⟨by (try simp only [hl13_5]); refine pB ?_; refine Qx ?_ (by have h_ := Kd.R_ne HO_13.out BK101.out (by decide); intro e_; exact h_ (by rw [e_]; rfl)) _; (with_reducible repeat (first | refine Qt ?_ _ | refine Qh ?_ | refine Qaq ?_ _)); exact BK101.out⟩, ⟨by (try simp only [hl13_5]); refine pB ?_; refine Qx ?_ (by have h_ := Kd.R_ne HO_13.out BK110.out (by decide); intro e_; exact h_ (by rw [e_]; rfl)) _; (with_reducible repeat (first | refine Qt ?_ _ | refine Qh ?_ | refine Qaq ?_ _)); exact BK110.out⟩, ⟨pE HB⟩⟩
                       ·rw [if_neg c75] at H
                        have c75b0 : ((rd t148 x18_5) == (rd (Jo t136 x14_3) x18_5)) = false := beq_eq_false_iff_ne.mpr c75; have c75b1 : ((rd t148 x18_5) != (rd (Jo t136 x14_3) x18_5)) = true := bne_iff_ne.mpr c75; exact absurd ((Option.some.inj H).trans HRT.out) (by simp)
                      ·rw [if_neg c74] at H
                       exact absurd H (by simp)
                     ·rw [if_neg c73] at H
                      exact absurd H (by simp)
                    ·rw [if_neg c72] at H
                     exact absurd H (by simp)
                   ·rw [if_neg c71] at H
                    exact absurd H (by simp)
                  ·rw [if_neg c70] at H
                   exact absurd H (by simp)
                 ·rw [if_neg c69] at H
                  have c69b0 : decide (x18_5 < (x13_5.length : Int)) = false := decide_eq_false c69; clear c69; have H' := Qa.mk H; clear H; go_wp2
                  (try simp only [← hl13_5])
                  go_roundg k5
                  case measure => have := HJ3.out; have := HJ26.out; have := HK3.out; have := HJ55.out; have := HK5.out; omega
                  case rel => exact ⟨(x13_5), (wrap64 (x14_3 + 1)), eS, H', ⟨by have := HJ3.out; have := HJ26.out; have := HK3.out; have := HJ55.out; have := HK5.out; omega⟩, ⟨by (try simp only [hl13_5]); (with_reducible repeat (first | apply Kd.R_alloc | apply Kd.R_drewN | apply Kd.R_drew)); exact HO_7.out⟩, ⟨by (try simp only [hl13_5]); (with_reducible repeat (first | apply Kd.S_alloc | apply Kd.S_drewN | apply Kd.S_drew)); exact Kd.S_mono HO_11.out (fun _ hk => trivial)⟩, ⟨by (try simp only [hl13_5]); (with_reducible repeat (first | apply Kd.R_alloc | apply Kd.R_drewN | apply Kd.R_drew)); exact HO_13.out⟩, ⟨by (try simp only [hl13_5]); (with_reducible repeat (first | refine Qt ?_ _ | refine Qh ?_ | refine Qaq ?_ _)); exact BK101.out⟩, ⟨by (try simp only [hl13_5]); (with_reducible repeat (first | refine Qt ?_ _ | refine Qh ?_ | refine Qaq ?_ _)); exact BK110.out⟩, ⟨pE HB⟩⟩
          ·rw [if_neg c44] at H
           exact absurd H (by simp)
         ·rw [if_neg c42] at H
          have c42b0 : decide (x14_3 < (x7_3.length : Int)) = false := decide_eq_false c42; clear c42; by_cases c81 : (t136.length : Int) = (x7_3.length : Int)
          ·rw [if_pos c81] at H
           have c81b0 : ((t136.length : Int) == (x7_3.length : Int)) = true := beq_iff_eq.mpr c81; have c81b1 : ((t136.length : Int) != (x7_3.length : Int)) = false := bne_eq_false_iff_eq.mpr c81; have c81b2 : (t136.length == x7_3.length) = true := by first | simpa using c81 | (simp at c81 ⊢; omega)
           clear c81; obtain ⟨t143, A82, H⟩ := bi H; obtain rfl := Option.some.inj H; obtain ⟨Ao83, co83, eo83⟩ := Kd.S_slice HO_11.out; subst eo83; go_wp2_with (first | (go_at_call 15; (with_reducible refine (Qd.calls k3  t143 _ A82.out).mono ?_); rintro e w84 ⟨rfl, hb⟩; replace HO_7 := rb HO_7 hb; replace HO_11 := Qa.mk (Kd.S_below (pS HO_11.out) hb); replace HO_13 := rb HO_13 hb; replace BK101 := bb BK101 hb; replace BK110 := bb BK110 hb; replace HB := bs HB hb; (try clear hb); (try clear hb2); (try clear hk); (try clear hi))); go_ret; exact ⟨eT, pE HB⟩
          ·rw [if_neg c81] at H
           have c81b0 : ((t136.length : Int) == (x7_3.length : Int)) = false := beq_eq_false_iff_ne.mpr c81; have c81b1 : ((t136.length : Int) != (x7_3.length : Int)) = true := bne_iff_ne.mpr c81; have c81b2 : (t136.length == x7_3.length) = false := by first | simpa using c81 | (simp at c81 ⊢; omega)
           exact absurd ((Option.some.inj H).trans HRT.out) (by simp)
   ·rw [if_neg c25] at H
    exact absurd H (by simp)
end Go.Proofs.YtjaapkkpmegkfaaGreat.P
