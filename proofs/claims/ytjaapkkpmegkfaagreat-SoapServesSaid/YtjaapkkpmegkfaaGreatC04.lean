/- Part 4 of what the law's proof needs beyond its base: words, walks of functions and plain facts. -/
import Derived.Below
import Derived.Deep.Draws
import Derived.Deep.AppendLies
import Derived.Maps.AppendAt
import Derived.OwnWalk
import Derived.Laws.BytesArg
import Derived.Laws.MakeOwn
import Derived.Laws.OwnMore
import Derived.Deep.OwnRows
import Derived.Tactics
import Derived.Lib.ConvBytes
import Derived.Laws.Slices
import Derived.WalkKit
import Derived.KernelRfl
import Derived.RowKit3
import Derived.Deep.LoopGhost
import Derived.Deep.QuietTactic
import Derived.BigQuiet
import Derived.WideLaws
import Derived.Deep.DeepCutAuto
import Derived.Deep.CutBlock
import Derived.Deep.RegionHeld3
import Derived.Laws.Rows
import Derived.Lib.AppendStr
import Derived.ArgAppend
import Derived.Laws.IdiomCopy
import Derived.RowKit
import Derived.OrdersHeld
import Derived.Laws.BitsLemmas
import Derived.Deep.Slices
import Derived.OpenShut
import Derived.ChangeArms
import Derived.Test.YtjaapkkpmegkfaaGreatR01
import Derived.Test.YtjaapkkpmegkfaaGreatR02
import Derived.Test.YtjaapkkpmegkfaaGreatR03
import Derived.Test.YtjaapkkpmegkfaaGreatR04
import Derived.Test.YtjaapkkpmegkfaaGreatR05
import Derived.Test.YtjaapkkpmegkfaaGreatR06
import Derived.Test.YtjaapkkpmegkfaaGreatR07
import Derived.Test.YtjaapkkpmegkfaaGreatR08
import Derived.Test.YtjaapkkpmegkfaaGreatR09
import Derived.Test.YtjaapkkpmegkfaaGreatR10
import Derived.Test.YtjaapkkpmegkfaaGreatR11
import Derived.Test.YtjaapkkpmegkfaaGreatR12
import Derived.Test.YtjaapkkpmegkfaaGreatR13
import Derived.Test.YtjaapkkpmegkfaaGreatC01
import Derived.Test.YtjaapkkpmegkfaaGreatC02
import Derived.Test.YtjaapkkpmegkfaaGreatC03
set_option linter.unusedVariables false
set_option linter.unusedSimpArgs false
namespace Go.Proofs.YtjaapkkpmegkfaaGreat.P
open Go.RowKit Go.Proofs.YtjaapkkpmegkfaaGreatW.PrintWords Go.Proofs.YtjaapkkpmegkfaaGreatW.PrintLast Go.Proofs.YtjaapkkpmegkfaaGreatW.PrintMore
attribute [local go_sem] JG JH JY JX Jv Ju JJ JK
def Qaq.l0 : Nat → List S100 → List Int → Bool → List Int → Bool → Int → Int → Int → Int → Int → Option (List Int × Bool)
 | 0, _, _, _, _, _, _, _, _, _, _ => none
 | k + 1, x0, x6, x7, x8, x9, x102000, x102001, x102002, x102003, x102004 => if x9 = true then ((Qau.f k x0 x102000 x102001 x102002 x102003 x102004 x8).bind fun bt108 => (if bt108.1 ≥ 0 then ((Qaw.f k x0 x8).bind fun t110 => (if t110 ≤ x102004 then (if x7 = true then ((Qax.f k x0 x8).bind fun t111 => ((Qax.f k x0 x6).bind fun t112 => (if t111 < t112 then ((some (([] : List Int) : List Int)).bind fun y113 => (if y113.length + x8.length < 17592186044416 then ((Qas.f k x0 x8).bind fun bt119 => (Qaq.l0 k x0 (y113 ++ x8) true bt119.2 bt119.1 x102000 x102001 x102002 x102003 x102004)) else (none))) else ((Qas.f k x0 x8).bind fun bt121 => (Qaq.l0 k x0 x6 x7 bt121.2 bt121.1 x102000 x102001 x102002 x102003 x102004))))) else ((some (([] : List Int) : List Int)).bind fun y123 => (if y123.length + x8.length < 17592186044416 then ((Qas.f k x0 x8).bind fun bt129 => (Qaq.l0 k x0 (y123 ++ x8) true bt129.2 bt129.1 x102000 x102001 x102002 x102003 x102004)) else (none)))) else ((Qas.f k x0 x8).bind fun bt131 => (Qaq.l0 k x0 x6 x7 bt131.2 bt131.1 x102000 x102001 x102002 x102003 x102004)))) else ((Qas.f k x0 x8).bind fun bt133 => (Qaq.l0 k x0 x6 x7 bt133.2 bt133.1 x102000 x102001 x102002 x102003 x102004)))) else (some (x6, x7))
def Qaq.f (k : Nat) (l0 : List S100) (a1_0 a1_1 a1_2 a1_3 a1_4 : Int) : Option (List Int × Bool) := if 0 ≤ (l0.length : Int) then (if ((l0.length : Int) : Int).toNat ≤ 35184372088832 then (Qaq.l0 k l0 (([] : List Int)) false (List.replicate ((l0.length : Int) : Int).toNat 0) true a1_0 a1_1 a1_2 a1_3 a1_4) else (none)) else (none)
def Qaq.T5 : Bool × List (List Nat × List Nat) := (true, [([], []), ([], []), ([], []), ([0, 1, 2], [0, 1, 2]), ([3], [3]), ([4], [4]), ([5, 3], [5]), ([6], [6]), ([6], [6]), ([7, 8, 6, 6], [6, 7, 8]), ([6], [6]), ([10, 6], [6, 10]), ([9, 11, 6], [6, 9, 11]), ([6, 12], [6, 12]), ([13, 9], [13]), ([14], [14]), ([15, 14], [14, 15]), ([16, 14, 14], [14, 16]), ([17], [17]), ([17], [17]), ([18, 19, 17, 17], [17, 18, 19]), ([17], [17]), ([17], [17]), ([21, 22, 20, 17], [17, 21, 22]), ([20, 23, 17], [17, 20, 23]), ([17, 24, 14], [14, 17, 24]), ([14, 25], [14, 25])])
def Qaq.B5 : List Nat := [0, 0, 0, 7, 15, 31, 63, 127, 127, 511, 127, 1151, 4095, 8191, 16383, 32767, 65535, 131071, 262143, 262143, 1048575, 262143, 262143, 8388607, 16777215, 33554431, 67108863]
theorem Qaq.tab5 : rtab .any (ZG Tryz.f33 5) = Qaq.T5 := by kernel_rfl
theorem Qaq.bits5 : J0 Qaq.T5.2 Qaq.B5 = true := by kernel_rfl
set_option maxHeartbeats 8000000 in
set_option maxRecDepth 100000 in
theorem Qaq.calls (k : Nat) (A0 : Option Addr) (c0 : Nat) (l0 : List S100) (a1_0 a1_1 a1_2 a1_3 a1_4 : Int) (r1 : List Int) (r2 : Bool) (w : World) (hr0 : Kd.C k100 w A0 l0.length l0) (hc0 : l0.length ≤ c0) (h : Qaq.f k l0 a1_0 a1_1 a1_2 a1_3 a1_4 = some (r1, r2)) :
  Calls Tryz.prog 33 #[.slice A0 l0.length c0, .agg #[.int .i64 a1_0, .int .i64 a1_1, .int .i64 a1_2, .int .i64 a1_3, .int .i64 a1_4]] w fun e w' => ∃ v0_ : Value, e = .returned (.tuple #[v0_, .bool r2]) ∧ Kd.R (Kd.int .i64) 3 w' w.heap.size (fun _ => True) v0_ r1 ∧ Below w.heap.size w w' := by
 have hfd24_0 : ∀ (x0_ x1_ : Value) (W_ : World), (Instr.field 24 (.agg #[x0_, x1_]) 0).run Tryz.prog W_ = .ok (x0_) W_ := fun _ _ _ => by kernel_rfl
 have hu26 := Tryz.underlying26; have HR0 := Qa.mk hr0; have HC0 := Qa.mk hc0; clear hr0 hc0; have HB := Qa.mk (Below.refl w.heap.size w); have H : (if 0 ≤ (l0.length : Int) then (if ((l0.length : Int) : Int).toNat ≤ 35184372088832 then (Qaq.l0 k l0 (([] : List Int)) false (List.replicate ((l0.length : Int) : Int).toNat 0) true a1_0 a1_1 a1_2 a1_3 a1_4) else (none)) else (none)) = some (r1, r2) := h; clear h; obtain ⟨y102, hy102⟩ : ∃ y_ : List Int, y_ = (([] : List Int)) := ⟨_, rfl⟩
 replace H : (if 0 ≤ (l0.length : Int) then (if ((l0.length : Int) : Int).toNat ≤ 35184372088832 then (Qaq.l0 k l0 y102 false (List.replicate ((l0.length : Int) : Int).toNat 0) true a1_0 a1_1 a1_2 a1_3 a1_4) else (none)) else (none)) = some (r1, r2) := yy hy102 H; have Ny102 := Qa.mk hy102; clear hy102; by_cases c3 : 0 ≤ (l0.length : Int)
 ·rw [if_pos c3] at H
  have c3b0 := eq_true c3; have c3b1 : decide (0 ≤ (l0.length : Int)) = true := decide_eq_true c3; clear c3; by_cases c4 : ((l0.length : Int) : Int).toNat ≤ 35184372088832
  ·rw [if_pos c4] at H
   have c4b0 := eq_true c4; have c4b1 : decide (((l0.length : Int) : Int).toNat ≤ 35184372088832) = true := decide_eq_true c4; clear c4; obtain ⟨y105, hy105⟩ : ∃ y_ : List Int, y_ = (List.replicate ((l0.length : Int) : Int).toNat 0) := ⟨_, rfl⟩
   replace H : (Qaq.l0 k l0 y102 false y105 true a1_0 a1_1 a1_2 a1_3 a1_4) = some (r1, r2) := yy hy105 H; have Ny105 := Qa.mk hy105; clear hy105; have H' := Qa.mk H; clear H; go_enter Tryz.func33, Tryz.ntmps33; go_wp2_with (first | (refine bx 3 #[.int .i64 a1_0, .int .i64 a1_1, .int .i64 a1_2, .int .i64 a1_3, .int .i64 a1_4] 26 ?_; intro gb101 hg w5 BK101 hb; have GW101 := gs HB hg; replace HB := bs HB hb; clear hb hg) | ((with_reducible refine gd 10 ?_); refine rL (Kd.int .i64) 3 10 ([] : List Int) [] (Reps.none _ _) ?_; intro v103 w6 ho7 hb; replace ho7 := yR Ny102 ho7; have HO104 := rl ho7 HB; replace BK101 := bb BK101 hb; replace HB := bs HB hb; clear hb ho7) | ((with_reducible refine gd 13 ?_); refine Kd.R_make (Kd.int .i64) _ 3 rfl (N := 13) rfl 27 _ _ rfl (l0.length : Int) rfl rfl Tryz.underlying27 (.int .i64 0) 8 J5 rfl (by decide) (by omega) 0 (ok := fun _ => True) (okp := fun _ => True) rfl (fun _ hk => hk) trivial (dT) (Nat.le_trans (Nat.mul_le_mul_right _ (dT : (l0.length : Int).toNat ≤ 35184372088832)) (by omega)) (Below.refl _ _) (Nat.le_refl _) ?_; intro v106 w8 ho9 hb hg_ hnew_; clear hg_ hnew_; replace ho9 := yR Ny105 ho9; have HO107 := Qa.mk (Kd.R_lower (Kd.R_new' ho9 (Kd.R_lt (pR HO104.out))) (Qr (pE HB))); replace HO104 := re HO104 ho9 hb; replace BK101 := bb BK101 hb; replace HB := bs HB hb; clear hb ho9))
   go_loopg [6, 7, 9] k (fun kq v6 v7 v9 w' => ∃ (x6_1 : List Int) (x7_1 : Bool) (x8_1 : List Int) (x9_1 : Bool), v7 = .bool x7_1 ∧ v9 = .bool x9_1 ∧ Qa (Qaq.l0 kq l0 x6_1 x7_1 x8_1 x9_1 a1_0 a1_1 a1_2 a1_3 a1_4 = some (r1, r2)) ∧ Qa (kq ≤ k) ∧ Qa (Kd.R (Kd.int .i64) 3 w' w.heap.size (fun k_ => some k_ ≠ (v106 : Value).ownBlock) v6 x6_1) ∧ Qa (Kd.R (Kd.int .i64) 3 w' w.heap.size (fun k_ => some k_ ≠ (v6 : Value).ownBlock) v106 x8_1) ∧ Qa (w'.heap[gb101]? = some (.cells #[.int .i64 a1_0, .int .i64 a1_1, .int .i64 a1_2, .int .i64 a1_3, .int .i64 a1_4] 26 (0, 0))) ∧ Qa (Below w.heap.size w w'))
   case atStart => exact ⟨(y102), (false), (y105), (true), eS, eS, H', ⟨Nat.le_refl _⟩, ⟨by (with_reducible repeat (first | apply Kd.R_alloc | apply Kd.R_drewN | apply Kd.R_drew)); exact Kd.R_mono HO104.out (fun _ hk => hk.2)⟩, ⟨by (with_reducible repeat (first | apply Kd.R_alloc | apply Kd.R_drewN | apply Kd.R_drew)); exact Kd.R_mono HO107.out (fun _ hk => hk.2)⟩, ⟨pB BK101.out⟩, ⟨pE HB⟩⟩
   case round =>
    clear H'; try clear p2
    try clear c3
    try clear c3b0
    try clear c3b1
    try clear c4
    try clear c4b0
    try clear c4b1
    obtain ⟨x6_1, x7_1, x8_1, x9_1, rfl, rfl, HA, HK1, HO_6, HO_8, BK101, HB⟩ := hrel
    cases gk with
    | zero => exact absurd HA.out (by simp [Qaq.l0])
    | succ k1 =>
     have H := HA.out; clear HA; simp only [Qaq.l0] at H; by_cases c10 : x9_1 = true
     ·subst c10
      rw [if_pos rfl] at H; obtain ⟨⟨t108, t109⟩, A11, H⟩ := bi H; by_cases c12 : t108 ≥ 0
      ·rw [if_pos c12] at H
       have c12b0 : decide (0 ≤ t108) = true := decide_eq_true c12; clear c12; obtain ⟨t110, A13, H⟩ := bi H; by_cases c14 : t110 ≤ a1_4
       ·rw [if_pos c14] at H
        have c14b0 : decide (t110 ≤ a1_4) = true := decide_eq_true c14; clear c14; by_cases c15 : x7_1 = true
        ·subst c15
         rw [if_pos rfl] at H; obtain ⟨t111, A16, H⟩ := bi H; obtain ⟨t112, A17, H⟩ := bi H; by_cases c18 : t111 < t112
         ·rw [if_pos c18] at H
          have c18b0 : decide (t111 < t112) = true := decide_eq_true c18; clear c18; obtain ⟨y113, hy113⟩ : ∃ y_ : List Int, y_ = (([] : List Int)) := ⟨_, rfl⟩
          replace H : (if y113.length + x8_1.length < 17592186044416 then ((Qas.f k1 l0 x8_1).bind fun bt119 => (Qaq.l0 k1 l0 (y113 ++ x8_1) true bt119.2 bt119.1 a1_0 a1_1 a1_2 a1_3 a1_4)) else (none)) = some (r1, r2) := yy hy113 H; have Ny113 := Qa.mk hy113; clear hy113; by_cases c19 : y113.length + x8_1.length < 17592186044416
          ·rw [if_pos c19] at H
           have LMc19 := Qa.mk c19; clear c19; obtain ⟨y116, hy116⟩ : ∃ y_ : List Int, y_ = (y113 ++ x8_1) := ⟨_, rfl⟩
           replace H : ((Qas.f k1 l0 x8_1).bind fun bt119 => (Qaq.l0 k1 l0 y116 true bt119.2 bt119.1 a1_0 a1_1 a1_2 a1_3 a1_4)) = some (r1, r2) := yy hy116 H; have Ny116 := Qa.mk hy116; clear hy116; obtain ⟨⟨t119, t120⟩, A20, H⟩ := bi H; have H' := Qa.mk H; clear H
           try go_wp2
           replace HO_6 := Qa.mk (Kd.R_drew HO_6.out); replace HO_8 := Qa.mk (Kd.R_drew HO_8.out); replace BK101 := Qa.mk (Qh BK101.out); replace HB := Qa.mk (QM HB.out); obtain ⟨Ao22, co22, eo22⟩ := Kd.R_slice HO_8.out
           (first | subst eo22 | (injection eo22 with f1_ f2_ f3_; have f4_ := f1_.symm; have f5_ := f3_.symm; clear f1_ f2_ f3_; subst f4_; subst f5_))
           refine JS (n := 27) (S := fun w' => w'.cell? ⟨gb101, 0, none⟩ = some (.int .i64 a1_0) ∧ w'.cell? ⟨gb101, 1, none⟩ = some (.int .i64 a1_1) ∧ w'.cell? ⟨gb101, 2, none⟩ = some (.int .i64 a1_2) ∧ w'.cell? ⟨gb101, 3, none⟩ = some (.int .i64 a1_3) ∧ w'.cell? ⟨gb101, 4, none⟩ = some (.int .i64 a1_4)) (ds := []) #[false, false, false, false, false, false, false, false, false, false, false, false, false, false, false, false, false, false, false, false, false, false, false, false, false, false, false] (by kernel_rfl) rfl rfl ⟨cz0 BK101, cz1 BK101, cz2 BK101, cz3 BK101, cz4 BK101⟩ (fun hHeld => ?_); refine Jk Qaq.tab5 Qaq.bits5 (fun HT_ HW_ => ?_); generalize wr.drew = w21 at HO_6 HO_8 BK101 HB hHeld ⊢; refine pu 0 18 ?_; refine pu 2 20 ?_; refine tk 1 19 hHeld ?_; refine on 3 (fun K hK => ?_); refine gO Tryz.func29 #[.slice A0 l0.length c0, .agg #[.int .i64 a1_0, .int .i64 a1_1, .int .i64 a1_2, .int .i64 a1_3, .int .i64 a1_4], .slice Ao22 x8_1.length co22] ?_
           with_reducible refine (Qau.calls k1 _ _ l0 a1_0 a1_1 a1_2 a1_3 a1_4 _ _ x8_1 t108 t109 _ ?side1 ?side2 ?side3 ?side4 A11.out).mono ?_
           (case side1 => exact pC (Kd.C_below HR0.out HB.out))
           (case side2 => exact HC0.out)
           (case side3 => exact pC (Kd.R_reads' HO_8.out).2.2)
           (case side4 => exact (Kd.R_reads' HO_8.out).2.1)
           rintro e w23 ⟨rfl, hb⟩; refine ⟨_, rfl, ?_⟩; replace HO_6 := rb HO_6 hb; replace HO_8 := rb HO_8 hb; replace BK101 := bb BK101 hb; replace HB := bs HB hb
           (try clear hb)
           (try clear hb2)
           (try clear hk)
           (try clear hi)
           refine hK.out _ _ ⟨cz0 BK101, cz1 BK101, cz2 BK101, cz3 BK101, cz4 BK101⟩ (fun hHeld => ?_); clear hK K; refine QY (a' := ?_) ?_ ?_
           rotate_left
           ·show Act.put _ (some 21) _ = _
            simp only [Act.put, List.setIfInBounds_toArray, List.set_cons_zero, List.set_cons_succ, QR, QU]; rfl
           refine pu 4 22 ?_; refine pu 5 23 ?_; refine pu 6 24 ?_; refine pu 7 25 ?_; refine pu 8 26 ?_; refine pu 10 28 ?_; refine tk 11 29 hHeld ?_; refine on 9 (fun K hK => ?_); refine gO Tryz.func30 #[.slice A0 l0.length c0, .slice Ao22 x8_1.length co22] ?_
           with_reducible refine (Qaw.calls k1 _ _ l0 _ _ x8_1 t110 _ ?side1 ?side2 ?side3 ?side4 A13.out).mono ?_
           (case side1 => exact pC (Kd.C_below HR0.out HB.out))
           (case side2 => exact HC0.out)
           (case side3 => exact pC (Kd.R_reads' HO_8.out).2.2)
           (case side4 => exact (Kd.R_reads' HO_8.out).2.1)
           rintro e w' ⟨rfl, ⟨nd, rfl⟩⟩; refine ⟨_, rfl, ?_⟩; refine hK.out _ _ ⟨cz0 BK101, cz1 BK101, cz2 BK101, cz3 BK101, cz4 BK101⟩ (fun hHeld => ?_); clear hK K; refine QY (a' := ?_) ?_ ?_
           rotate_left
           ·show Act.put _ (some 27) _ = _
            simp only [Act.put, List.setIfInBounds_toArray, List.set_cons_zero, List.set_cons_succ, QR, QU]; rfl
           refine pu 12 30 ?_; refine pu 13 31 ?_; refine pu 14 32 ?_; refine pu 15 33 ?_; refine pu 16 34 ?_; refine pu 17 35 ?_; refine pu 18 36 ?_; refine pu 19 37 ?_; refine pu 21 39 ?_; refine pu 22 40 ?_; refine on 20 (fun K hK => ?_); refine gO Tryz.func34 #[.slice A0 l0.length c0, .slice Ao22 x8_1.length co22] ?_
           with_reducible refine (Qax.calls k1 _ _ l0 _ _ x8_1 t111 _ ?side1 ?side2 ?side3 ?side4 A16.out).mono ?_
           (case side1 => exact pC (Kd.C_below HR0.out (pE HB)))
           (case side2 => exact HC0.out)
           (case side3 => exact pC (Kd.R_reads' HO_8.out).2.2)
           (case side4 => exact (Kd.R_reads' HO_8.out).2.1)
           rintro e w' ⟨rfl, ⟨nd, rfl⟩⟩; refine ⟨_, rfl, ?_⟩; obtain ⟨Ao24, co24, eo24⟩ := Kd.R_slice HO_6.out
           (first | subst eo24 | (injection eo24 with f1_ f2_ f3_; have f4_ := f1_.symm; have f5_ := f3_.symm; clear f1_ f2_ f3_; subst f4_; subst f5_))
           refine hK.out _ _ ⟨cz0 BK101, cz1 BK101, cz2 BK101, cz3 BK101, cz4 BK101⟩ (fun hHeld => ?_); clear hK K; refine QY (a' := ?_) ?_ ?_
           rotate_left
           ·show Act.put _ (some 38) _ = _
            simp only [Act.put, List.setIfInBounds_toArray, List.set_cons_zero, List.set_cons_succ, QR, QU]; rfl
           refine on 23 (fun K hK => ?_); refine gO Tryz.func34 #[.slice A0 l0.length c0, .slice Ao24 x6_1.length co24] ?_
           with_reducible refine (Qax.calls k1 _ _ l0 _ _ x6_1 t112 _ ?side1 ?side2 ?side3 ?side4 A17.out).mono ?_
           (case side1 => exact pC (Kd.C_below HR0.out (pE HB)))
           (case side2 => exact HC0.out)
           (case side3 => exact pC (Kd.R_reads' HO_6.out).2.2)
           (case side4 => exact (Kd.R_reads' HO_6.out).2.1)
           rintro e w' ⟨rfl, ⟨nd, rfl⟩⟩; refine ⟨_, rfl, ?_⟩; refine hK.out _ _ ⟨cz0 BK101, cz1 BK101, cz2 BK101, cz3 BK101, cz4 BK101⟩ (fun hHeld => ?_); clear hK K; refine QY (a' := ?_) ?_ ?_
           rotate_left
           ·show Act.put _ (some 41) _ = _
            simp only [Act.put, List.setIfInBounds_toArray, List.set_cons_zero, List.set_cons_succ, QR, QU]; rfl
           refine pu 24 42 ?_; refine pu 25 43 ?_; refine pu 26 44 ?_; refine JD (JM HT_.out (by kernel_rfl)) ?_
           try go_wp2_with (first | ((with_reducible refine gd 45 ?_); refine rL (Kd.int .i64) 3 45 ([] : List Int) [] (Reps.none _ _) ?_; intro v114 w25 ho26 hb; replace ho26 := yR Ny113 ho26; have HO115 := Qa.mk (Kd.R_lower (Kd.R_new' (Kd.R_new' ho26 (Kd.R_lt (pR HO_6.out))) (Kd.R_lt (pR HO_8.out))) (Qr (pE HB))); replace HO_6 := re HO_6 ho26 hb; replace HO_8 := re HO_8 ho26 hb; replace BK101 := bb BK101 hb; replace HB := bs HB hb; clear hb ho26) | ((with_reducible refine JA (b := .append) (xs := #[.tmp 45, .tmp 46]) rfl ?_); at_builtin; refine Kd.R_append_rows (Kd.int .i64) (w0 := w) w.heap.size rfl (.tmp 45) (.tmp 46) 27 3 (.int .i64 0) 8 rfl Tryz.underlying27 J5 rfl (by decide) (by omega) v114 y113 x8_1 _ _ _ (fun k_ => some k_ ≠ (.slice Ao24 x6_1.length co24 : Value).ownBlock ∧ some k_ ≠ (.slice Ao22 x8_1.length co22 : Value).ownBlock) (fun _ => False) rfl rfl ?aO ?aR (fun _ _ h => h) (fun _ h => h.elim) ?aF ?aB ?aS ?aL ?_; (case aR => exact pC (Kd.R_reads' HO_8.out).2.2); (case aB => exact (pE HB)); (case aF => exact (fun k_ hk => ⟨Kd.fresh' (Kd.R_lt (pR HO_6.out)) k_ hk, Kd.fresh' (Kd.R_lt (pR HO_8.out)) k_ hk⟩)); (case aO => exact (by refine pR ?_; exact Kd.R_mono HO115.out (fun _ hk => ⟨hk.1.2, hk.2⟩))); (case aS => exact (Qr (pE HB))); (case aL => have := LMc19.out; omega); intro v117 w27 ho hb hg hat; rw [← Ny116.out] at ho; replace HO_6 := Qa.mk (Kd.R_after (ok := (fun k_ => some k_ ≠ (.slice Ao22 x8_1.length co22 : Value).ownBlock)) (pR HO_6.out) hg hat); replace HO_8 := Qa.mk (Kd.R_after (ok := (fun k_ => some k_ ≠ (.slice Ao24 x6_1.length co24 : Value).ownBlock)) (pR HO_8.out) hg hat); replace BK101 := Qa.mk (Ja (g := gb101) (o := .cells #[.int .i64 a1_0, .int .i64 a1_1, .int .i64 a1_2, .int .i64 a1_3, .int .i64 a1_4] 26 (0, 0)) (pB BK101.out) hg (Kd.R_ne HO115.out BK101.out (by decide))); replace HB := Qa.mk (hb); have HO118 := Qa.mk (ho); clear HO115; clear ho hb hg hat) | ((with_reducible refine gc 81 rfl ?_); refine gL 17 Tryz.func81 #[.slice A0 l0.length c0, .slice Ao22 x8_1.length co22] ?_; (with_reducible refine (Qas.calls k1 _ _ l0 (fun k_ => some k_ = (.slice Ao22 x8_1.length co22 : Value).ownBlock) (.slice Ao22 x8_1.length co22) x8_1 t119 t120 w _ ?side1 ?side2 ?side3 ?side4 A20.out).mono ?_); (case side1 => repeat (first | (with_reducible first | exact HB.out | apply QO | apply Ji | apply QM | refine Q3 ?_ GW101.out) | exact HB.out)); (case side2 => exact Kd.C_kept_came JT HR0.out (pE HB) (fun k_ hs_ => (fun e_ => Kd.R_base HO_8.out k_ e_.symm) hs_)); (case side3 => exact HC0.out); (case side4 => exact Kd.R_tight rfl HO_8.out); rintro e w28 ⟨rfl, hy0, hb, hkp⟩; refine ⟨_, rfl, ?_⟩; replace HO_6 := Qa.mk (Kd.R_mono (ok' := fun k_ => some k_ ≠ (.slice Ao22 x8_1.length co22 : Value).ownBlock ∧ some k_ ≠ (v117 : Value).ownBlock) (Kd.R_keptB (HO_6.out) hkp (fun k_ hk_ hs_ => (hk_.1) hs_)) (fun k_ hk_ => ⟨hk_.1.1, hk_.1.2⟩)); replace BK101 := Qa.mk (Jn (pB BK101.out) hkp (fun hs_ => (fun e_ => (Kd.R_ne HO_8.out BK101.out (by decide)) e_) hs_)); replace HO_8 := Qa.mk (Kd.R_reok rfl hy0 (fun k_ e_ => HO_8.out.1 k_ e_)); replace HO118 := Qa.mk (Kd.R_mono (ok' := fun k_ => some k_ ≠ (.slice Ao24 x6_1.length co24 : Value).ownBlock ∧ some k_ ≠ (.slice Ao22 x8_1.length co22 : Value).ownBlock) (Kd.R_keptB (HO118.out) hkp (fun k_ hk_ hs_ => (hk_.2) hs_)) (fun k_ hk_ => ⟨hk_.1.1, hk_.1.2⟩)); replace HB := Qa.mk (hb); clear hb hkp hy0))
           go_roundg k1
           case measure => have := HK1.out; omega
           case rel => exact ⟨(y116), (true), (t120), (t119), eS, eS, H', ⟨by have := HK1.out; omega⟩, ⟨by (with_reducible repeat (first | apply Kd.R_alloc | apply Kd.R_drewN | apply Kd.R_drew)); exact Kd.R_mono HO118.out (fun _ hk => hk.2)⟩, ⟨by (with_reducible repeat (first | apply Kd.R_alloc | apply Kd.R_drewN | apply Kd.R_drew)); exact Kd.R_mono HO_8.out (fun _ hk => hk.2)⟩, ⟨pB BK101.out⟩, ⟨pE HB⟩⟩
          ·rw [if_neg c19] at H
           exact absurd H (by simp)
         ·rw [if_neg c18] at H
          have c18b0 : decide (t111 < t112) = false := decide_eq_false c18; clear c18; obtain ⟨⟨t121, t122⟩, A29, H⟩ := bi H; have H' := Qa.mk H; clear H
          try go_wp2
          replace HO_6 := Qa.mk (Kd.R_drew HO_6.out); replace HO_8 := Qa.mk (Kd.R_drew HO_8.out); replace BK101 := Qa.mk (Qh BK101.out); replace HB := Qa.mk (QM HB.out); obtain ⟨Ao31, co31, eo31⟩ := Kd.R_slice HO_8.out
          (first | subst eo31 | (injection eo31 with f1_ f2_ f3_; have f4_ := f1_.symm; have f5_ := f3_.symm; clear f1_ f2_ f3_; subst f4_; subst f5_))
          refine JS (n := 27) (S := fun w' => w'.cell? ⟨gb101, 0, none⟩ = some (.int .i64 a1_0) ∧ w'.cell? ⟨gb101, 1, none⟩ = some (.int .i64 a1_1) ∧ w'.cell? ⟨gb101, 2, none⟩ = some (.int .i64 a1_2) ∧ w'.cell? ⟨gb101, 3, none⟩ = some (.int .i64 a1_3) ∧ w'.cell? ⟨gb101, 4, none⟩ = some (.int .i64 a1_4)) (ds := []) #[false, false, false, false, false, false, false, false, false, false, false, false, false, false, false, false, false, false, false, false, false, false, false, false, false, false, false] (by kernel_rfl) rfl rfl ⟨cz0 BK101, cz1 BK101, cz2 BK101, cz3 BK101, cz4 BK101⟩ (fun hHeld => ?_); refine Jk Qaq.tab5 Qaq.bits5 (fun HT_ HW_ => ?_); generalize wr.drew = w30 at HO_6 HO_8 BK101 HB hHeld ⊢; refine pu 0 18 ?_; refine pu 2 20 ?_; refine tk 1 19 hHeld ?_; refine on 3 (fun K hK => ?_); refine gO Tryz.func29 #[.slice A0 l0.length c0, .agg #[.int .i64 a1_0, .int .i64 a1_1, .int .i64 a1_2, .int .i64 a1_3, .int .i64 a1_4], .slice Ao31 x8_1.length co31] ?_
          with_reducible refine (Qau.calls k1 _ _ l0 a1_0 a1_1 a1_2 a1_3 a1_4 _ _ x8_1 t108 t109 _ ?side1 ?side2 ?side3 ?side4 A11.out).mono ?_
          (case side1 => exact pC (Kd.C_below HR0.out HB.out))
          (case side2 => exact HC0.out)
          (case side3 => exact pC (Kd.R_reads' HO_8.out).2.2)
          (case side4 => exact (Kd.R_reads' HO_8.out).2.1)
          rintro e w32 ⟨rfl, hb⟩; refine ⟨_, rfl, ?_⟩; replace HO_6 := rb HO_6 hb; replace HO_8 := rb HO_8 hb; replace BK101 := bb BK101 hb; replace HB := bs HB hb
          (try clear hb)
          (try clear hb2)
          (try clear hk)
          (try clear hi)
          refine hK.out _ _ ⟨cz0 BK101, cz1 BK101, cz2 BK101, cz3 BK101, cz4 BK101⟩ (fun hHeld => ?_); clear hK K; refine QY (a' := ?_) ?_ ?_
          rotate_left
          ·show Act.put _ (some 21) _ = _
           simp only [Act.put, List.setIfInBounds_toArray, List.set_cons_zero, List.set_cons_succ, QR, QU]; rfl
          refine pu 4 22 ?_; refine pu 5 23 ?_; refine pu 6 24 ?_; refine pu 7 25 ?_; refine pu 8 26 ?_; refine pu 10 28 ?_; refine tk 11 29 hHeld ?_; refine on 9 (fun K hK => ?_); refine gO Tryz.func30 #[.slice A0 l0.length c0, .slice Ao31 x8_1.length co31] ?_
          with_reducible refine (Qaw.calls k1 _ _ l0 _ _ x8_1 t110 _ ?side1 ?side2 ?side3 ?side4 A13.out).mono ?_
          (case side1 => exact pC (Kd.C_below HR0.out HB.out))
          (case side2 => exact HC0.out)
          (case side3 => exact pC (Kd.R_reads' HO_8.out).2.2)
          (case side4 => exact (Kd.R_reads' HO_8.out).2.1)
          rintro e w' ⟨rfl, ⟨nd, rfl⟩⟩; refine ⟨_, rfl, ?_⟩; refine hK.out _ _ ⟨cz0 BK101, cz1 BK101, cz2 BK101, cz3 BK101, cz4 BK101⟩ (fun hHeld => ?_); clear hK K; refine QY (a' := ?_) ?_ ?_
          rotate_left
          ·show Act.put _ (some 27) _ = _
           simp only [Act.put, List.setIfInBounds_toArray, List.set_cons_zero, List.set_cons_succ, QR, QU]; rfl
          refine pu 12 30 ?_; refine pu 13 31 ?_; refine pu 14 32 ?_; refine pu 15 33 ?_; refine pu 16 34 ?_; refine pu 17 35 ?_; refine pu 18 36 ?_; refine pu 19 37 ?_; refine pu 21 39 ?_; refine pu 22 40 ?_; refine on 20 (fun K hK => ?_); refine gO Tryz.func34 #[.slice A0 l0.length c0, .slice Ao31 x8_1.length co31] ?_
          with_reducible refine (Qax.calls k1 _ _ l0 _ _ x8_1 t111 _ ?side1 ?side2 ?side3 ?side4 A16.out).mono ?_
          (case side1 => exact pC (Kd.C_below HR0.out (pE HB)))
          (case side2 => exact HC0.out)
          (case side3 => exact pC (Kd.R_reads' HO_8.out).2.2)
          (case side4 => exact (Kd.R_reads' HO_8.out).2.1)
          rintro e w' ⟨rfl, ⟨nd, rfl⟩⟩; refine ⟨_, rfl, ?_⟩; obtain ⟨Ao33, co33, eo33⟩ := Kd.R_slice HO_6.out
          (first | subst eo33 | (injection eo33 with f1_ f2_ f3_; have f4_ := f1_.symm; have f5_ := f3_.symm; clear f1_ f2_ f3_; subst f4_; subst f5_))
          refine hK.out _ _ ⟨cz0 BK101, cz1 BK101, cz2 BK101, cz3 BK101, cz4 BK101⟩ (fun hHeld => ?_); clear hK K; refine QY (a' := ?_) ?_ ?_
          rotate_left
          ·show Act.put _ (some 38) _ = _
           simp only [Act.put, List.setIfInBounds_toArray, List.set_cons_zero, List.set_cons_succ, QR, QU]; rfl
          refine on 23 (fun K hK => ?_); refine gO Tryz.func34 #[.slice A0 l0.length c0, .slice Ao33 x6_1.length co33] ?_
          with_reducible refine (Qax.calls k1 _ _ l0 _ _ x6_1 t112 _ ?side1 ?side2 ?side3 ?side4 A17.out).mono ?_
          (case side1 => exact pC (Kd.C_below HR0.out (pE HB)))
          (case side2 => exact HC0.out)
          (case side3 => exact pC (Kd.R_reads' HO_6.out).2.2)
          (case side4 => exact (Kd.R_reads' HO_6.out).2.1)
          rintro e w' ⟨rfl, ⟨nd, rfl⟩⟩; refine ⟨_, rfl, ?_⟩; refine hK.out _ _ ⟨cz0 BK101, cz1 BK101, cz2 BK101, cz3 BK101, cz4 BK101⟩ (fun hHeld => ?_); clear hK K; refine QY (a' := ?_) ?_ ?_
          rotate_left
          ·show Act.put _ (some 41) _ = _
           simp only [Act.put, List.setIfInBounds_toArray, List.set_cons_zero, List.set_cons_succ, QR, QU]; rfl
          refine pu 24 42 ?_; refine pu 25 43 ?_; refine pu 26 44 ?_; refine JD (JM HT_.out (by kernel_rfl)) ?_
          try go_wp2_with (first | ((with_reducible refine gc 81 rfl ?_); refine gL 17 Tryz.func81 #[.slice A0 l0.length c0, .slice Ao31 x8_1.length co31] ?_; (with_reducible refine (Qas.calls k1 _ _ l0 (fun k_ => some k_ = (.slice Ao31 x8_1.length co31 : Value).ownBlock) (.slice Ao31 x8_1.length co31) x8_1 t121 t122 w _ ?side1 ?side2 ?side3 ?side4 A29.out).mono ?_); (case side1 => repeat (first | (with_reducible first | exact HB.out | apply QO | apply Ji | apply QM | refine Q3 ?_ GW101.out) | exact HB.out)); (case side2 => exact Kd.C_kept_came JT HR0.out (pE HB) (fun k_ hs_ => (fun e_ => Kd.R_base HO_8.out k_ e_.symm) hs_)); (case side3 => exact HC0.out); (case side4 => exact Kd.R_tight rfl HO_8.out); rintro e w34 ⟨rfl, hy0, hb, hkp⟩; refine ⟨_, rfl, ?_⟩; replace HO_6 := Qa.mk (Kd.R_mono (ok' := fun k_ => some k_ ≠ (.slice Ao31 x8_1.length co31 : Value).ownBlock) (Kd.R_keptB (HO_6.out) hkp (fun k_ hk_ hs_ => (hk_) hs_)) (fun k_ hk_ => hk_.1)); replace BK101 := Qa.mk (Jn (pB BK101.out) hkp (fun hs_ => (fun e_ => (Kd.R_ne HO_8.out BK101.out (by decide)) e_) hs_)); replace HO_8 := Qa.mk (Kd.R_reok rfl hy0 (fun k_ e_ => HO_8.out.1 k_ e_)); replace HB := Qa.mk (hb); clear hb hkp hy0))
          go_roundg k1
          case measure => have := HK1.out; omega
          case rel => exact ⟨(x6_1), (true), (t122), (t121), eS, eS, H', ⟨by have := HK1.out; omega⟩, ⟨by (with_reducible repeat (first | apply Kd.R_alloc | apply Kd.R_drewN | apply Kd.R_drew)); exact HO_6.out⟩, ⟨by (with_reducible repeat (first | apply Kd.R_alloc | apply Kd.R_drewN | apply Kd.R_drew)); exact HO_8.out⟩, ⟨pB BK101.out⟩, ⟨pE HB⟩⟩
        ·replace c15 := Bool.eq_false_iff.mpr c15
         subst c15; rw [if_neg (show ¬ (false = true) by decide)] at H; obtain ⟨y123, hy123⟩ : ∃ y_ : List Int, y_ = (([] : List Int)) := ⟨_, rfl⟩
         replace H : (if y123.length + x8_1.length < 17592186044416 then ((Qas.f k1 l0 x8_1).bind fun bt129 => (Qaq.l0 k1 l0 (y123 ++ x8_1) true bt129.2 bt129.1 a1_0 a1_1 a1_2 a1_3 a1_4)) else (none)) = some (r1, r2) := yy hy123 H; have Ny123 := Qa.mk hy123; clear hy123; by_cases c35 : y123.length + x8_1.length < 17592186044416
         ·rw [if_pos c35] at H
          have LMc35 := Qa.mk c35; clear c35; obtain ⟨y126, hy126⟩ : ∃ y_ : List Int, y_ = (y123 ++ x8_1) := ⟨_, rfl⟩
          replace H : ((Qas.f k1 l0 x8_1).bind fun bt129 => (Qaq.l0 k1 l0 y126 true bt129.2 bt129.1 a1_0 a1_1 a1_2 a1_3 a1_4)) = some (r1, r2) := yy hy126 H; have Ny126 := Qa.mk hy126; clear hy126; obtain ⟨⟨t129, t130⟩, A36, H⟩ := bi H; have H' := Qa.mk H; clear H
          try go_wp2
          replace HO_6 := Qa.mk (Kd.R_drew HO_6.out); replace HO_8 := Qa.mk (Kd.R_drew HO_8.out); replace BK101 := Qa.mk (Qh BK101.out); replace HB := Qa.mk (QM HB.out); obtain ⟨Ao38, co38, eo38⟩ := Kd.R_slice HO_8.out
          (first | subst eo38 | (injection eo38 with f1_ f2_ f3_; have f4_ := f1_.symm; have f5_ := f3_.symm; clear f1_ f2_ f3_; subst f4_; subst f5_))
          refine JS (n := 27) (S := fun w' => w'.cell? ⟨gb101, 0, none⟩ = some (.int .i64 a1_0) ∧ w'.cell? ⟨gb101, 1, none⟩ = some (.int .i64 a1_1) ∧ w'.cell? ⟨gb101, 2, none⟩ = some (.int .i64 a1_2) ∧ w'.cell? ⟨gb101, 3, none⟩ = some (.int .i64 a1_3) ∧ w'.cell? ⟨gb101, 4, none⟩ = some (.int .i64 a1_4)) (ds := []) #[false, false, false, false, false, false, false, false, false, false, false, false, false, false, false, false, false, false, false, false, false, false, false, false, false, false, false] (by kernel_rfl) rfl rfl ⟨cz0 BK101, cz1 BK101, cz2 BK101, cz3 BK101, cz4 BK101⟩ (fun hHeld => ?_); refine Jk Qaq.tab5 Qaq.bits5 (fun HT_ HW_ => ?_); generalize wr.drew = w37 at HO_6 HO_8 BK101 HB hHeld ⊢; refine pu 0 18 ?_; refine pu 2 20 ?_; refine tk 1 19 hHeld ?_; refine on 3 (fun K hK => ?_); refine gO Tryz.func29 #[.slice A0 l0.length c0, .agg #[.int .i64 a1_0, .int .i64 a1_1, .int .i64 a1_2, .int .i64 a1_3, .int .i64 a1_4], .slice Ao38 x8_1.length co38] ?_
          with_reducible refine (Qau.calls k1 _ _ l0 a1_0 a1_1 a1_2 a1_3 a1_4 _ _ x8_1 t108 t109 _ ?side1 ?side2 ?side3 ?side4 A11.out).mono ?_
          (case side1 => exact pC (Kd.C_below HR0.out HB.out))
          (case side2 => exact HC0.out)
          (case side3 => exact pC (Kd.R_reads' HO_8.out).2.2)
          (case side4 => exact (Kd.R_reads' HO_8.out).2.1)
          rintro e w39 ⟨rfl, hb⟩; refine ⟨_, rfl, ?_⟩; replace HO_6 := rb HO_6 hb; replace HO_8 := rb HO_8 hb; replace BK101 := bb BK101 hb; replace HB := bs HB hb
          (try clear hb)
          (try clear hb2)
          (try clear hk)
          (try clear hi)
          refine hK.out _ _ ⟨cz0 BK101, cz1 BK101, cz2 BK101, cz3 BK101, cz4 BK101⟩ (fun hHeld => ?_); clear hK K; refine QY (a' := ?_) ?_ ?_
          rotate_left
          ·show Act.put _ (some 21) _ = _
           simp only [Act.put, List.setIfInBounds_toArray, List.set_cons_zero, List.set_cons_succ, QR, QU]; rfl
          refine pu 4 22 ?_; refine pu 5 23 ?_; refine pu 6 24 ?_; refine pu 7 25 ?_; refine pu 8 26 ?_; refine pu 10 28 ?_; refine tk 11 29 hHeld ?_; refine on 9 (fun K hK => ?_); refine gO Tryz.func30 #[.slice A0 l0.length c0, .slice Ao38 x8_1.length co38] ?_
          with_reducible refine (Qaw.calls k1 _ _ l0 _ _ x8_1 t110 _ ?side1 ?side2 ?side3 ?side4 A13.out).mono ?_
          (case side1 => exact pC (Kd.C_below HR0.out HB.out))
          (case side2 => exact HC0.out)
          (case side3 => exact pC (Kd.R_reads' HO_8.out).2.2)
          (case side4 => exact (Kd.R_reads' HO_8.out).2.1)
          rintro e w' ⟨rfl, ⟨nd, rfl⟩⟩; refine ⟨_, rfl, ?_⟩; refine hK.out _ _ ⟨cz0 BK101, cz1 BK101, cz2 BK101, cz3 BK101, cz4 BK101⟩ (fun hHeld => ?_); clear hK K; refine QY (a' := ?_) ?_ ?_
          rotate_left
          ·show Act.put _ (some 27) _ = _
           simp only [Act.put, List.setIfInBounds_toArray, List.set_cons_zero, List.set_cons_succ, QR, QU]; rfl
          refine pu 12 30 ?_; refine pu 13 31 ?_; refine pu 14 32 ?_; refine pu 15 33 ?_; refine pu 16 34 ?_; refine pu 17 35 ?_; refine pd 18 36 ?_; refine pd 19 37 ?_; refine pd 20 38 ?_; refine pd 21 39 ?_; refine pd 22 40 ?_; refine pd 23 41 ?_; refine pd 24 42 ?_; refine pu 25 43 ?_; refine pu 26 44 ?_; refine JD (JM HT_.out (by kernel_rfl)) ?_
          try go_wp2_with (first | ((with_reducible refine gd 45 ?_); refine rL (Kd.int .i64) 3 45 ([] : List Int) [] (Reps.none _ _) ?_; intro v124 w40 ho41 hb; replace ho41 := yR Ny123 ho41; have HO125 := Qa.mk (Kd.R_lower (Kd.R_new' (Kd.R_new' ho41 (Kd.R_lt (pR HO_6.out))) (Kd.R_lt (pR HO_8.out))) (Qr (pE HB))); replace HO_6 := re HO_6 ho41 hb; replace HO_8 := re HO_8 ho41 hb; replace BK101 := bb BK101 hb; replace HB := bs HB hb; clear hb ho41) | ((with_reducible refine JA (b := .append) (xs := #[.tmp 45, .tmp 46]) rfl ?_); at_builtin; refine Kd.R_append_rows (Kd.int .i64) (w0 := w) w.heap.size rfl (.tmp 45) (.tmp 46) 27 3 (.int .i64 0) 8 rfl Tryz.underlying27 J5 rfl (by decide) (by omega) v124 y123 x8_1 _ _ _ (fun k_ => some k_ ≠ (u6 : Value).ownBlock ∧ some k_ ≠ (.slice Ao38 x8_1.length co38 : Value).ownBlock) (fun _ => False) rfl rfl ?aO ?aR (fun _ _ h => h) (fun _ h => h.elim) ?aF ?aB ?aS ?aL ?_; (case aR => exact pC (Kd.R_reads' HO_8.out).2.2); (case aB => exact (pE HB)); (case aF => exact (fun k_ hk => ⟨Kd.fresh' (Kd.R_lt (pR HO_6.out)) k_ hk, Kd.fresh' (Kd.R_lt (pR HO_8.out)) k_ hk⟩)); (case aO => exact (by refine pR ?_; exact Kd.R_mono HO125.out (fun _ hk => ⟨hk.1.2, hk.2⟩))); (case aS => exact (Qr (pE HB))); (case aL => have := LMc35.out; omega); intro v127 w42 ho hb hg hat; rw [← Ny126.out] at ho; replace HO_6 := Qa.mk (Kd.R_after (ok := (fun k_ => some k_ ≠ (.slice Ao38 x8_1.length co38 : Value).ownBlock)) (pR HO_6.out) hg hat); replace HO_8 := Qa.mk (Kd.R_after (ok := (fun k_ => some k_ ≠ (u6 : Value).ownBlock)) (pR HO_8.out) hg hat); replace BK101 := Qa.mk (Ja (g := gb101) (o := .cells #[.int .i64 a1_0, .int .i64 a1_1, .int .i64 a1_2, .int .i64 a1_3, .int .i64 a1_4] 26 (0, 0)) (pB BK101.out) hg (Kd.R_ne HO125.out BK101.out (by decide))); replace HB := Qa.mk (hb); have HO128 := Qa.mk (ho); clear HO125; clear ho hb hg hat) | ((with_reducible refine gc 81 rfl ?_); refine gL 17 Tryz.func81 #[.slice A0 l0.length c0, .slice Ao38 x8_1.length co38] ?_; (with_reducible refine (Qas.calls k1 _ _ l0 (fun k_ => some k_ = (.slice Ao38 x8_1.length co38 : Value).ownBlock) (.slice Ao38 x8_1.length co38) x8_1 t129 t130 w _ ?side1 ?side2 ?side3 ?side4 A36.out).mono ?_); (case side1 => repeat (first | (with_reducible first | exact HB.out | apply QO | apply Ji | apply QM | refine Q3 ?_ GW101.out) | exact HB.out)); (case side2 => exact Kd.C_kept_came JT HR0.out (pE HB) (fun k_ hs_ => (fun e_ => Kd.R_base HO_8.out k_ e_.symm) hs_)); (case side3 => exact HC0.out); (case side4 => exact Kd.R_tight rfl HO_8.out); rintro e w43 ⟨rfl, hy0, hb, hkp⟩; refine ⟨_, rfl, ?_⟩; replace HO_6 := Qa.mk (Kd.R_mono (ok' := fun k_ => some k_ ≠ (.slice Ao38 x8_1.length co38 : Value).ownBlock ∧ some k_ ≠ (v127 : Value).ownBlock) (Kd.R_keptB (HO_6.out) hkp (fun k_ hk_ hs_ => (hk_.1) hs_)) (fun k_ hk_ => ⟨hk_.1.1, hk_.1.2⟩)); replace BK101 := Qa.mk (Jn (pB BK101.out) hkp (fun hs_ => (fun e_ => (Kd.R_ne HO_8.out BK101.out (by decide)) e_) hs_)); replace HO_8 := Qa.mk (Kd.R_reok rfl hy0 (fun k_ e_ => HO_8.out.1 k_ e_)); replace HO128 := Qa.mk (Kd.R_mono (ok' := fun k_ => some k_ ≠ (u6 : Value).ownBlock ∧ some k_ ≠ (.slice Ao38 x8_1.length co38 : Value).ownBlock) (Kd.R_keptB (HO128.out) hkp (fun k_ hk_ hs_ => (hk_.2) hs_)) (fun k_ hk_ => ⟨hk_.1.1, hk_.1.2⟩)); replace HB := Qa.mk (hb); clear hb hkp hy0))
          go_roundg k1
          case measure => have := HK1.out; omega
          case rel => exact ⟨(y126), (true), (t130), (t129), eS, eS, H', ⟨by have := HK1.out; omega⟩, ⟨by (with_reducible repeat (first | apply Kd.R_alloc | apply Kd.R_drewN | apply Kd.R_drew)); exact Kd.R_mono HO128.out (fun _ hk => hk.2)⟩, ⟨by (with_reducible repeat (first | apply Kd.R_alloc | apply Kd.R_drewN | apply Kd.R_drew)); exact Kd.R_mono HO_8.out (fun _ hk => hk.2)⟩, ⟨pB BK101.out⟩, ⟨pE HB⟩⟩
         ·rw [if_neg c35] at H
          exact absurd H (by simp)
       ·rw [if_neg c14] at H
        have c14b0 : decide (t110 ≤ a1_4) = false := decide_eq_false c14; clear c14; obtain ⟨⟨t131, t132⟩, A44, H⟩ := bi H; have H' := Qa.mk H; clear H
        try go_wp2
        replace HO_6 := Qa.mk (Kd.R_drew HO_6.out); replace HO_8 := Qa.mk (Kd.R_drew HO_8.out); replace BK101 := Qa.mk (Qh BK101.out); replace HB := Qa.mk (QM HB.out); obtain ⟨Ao46, co46, eo46⟩ := Kd.R_slice HO_8.out
        (first | subst eo46 | (injection eo46 with f1_ f2_ f3_; have f4_ := f1_.symm; have f5_ := f3_.symm; clear f1_ f2_ f3_; subst f4_; subst f5_))
        refine JS (n := 27) (S := fun w' => w'.cell? ⟨gb101, 0, none⟩ = some (.int .i64 a1_0) ∧ w'.cell? ⟨gb101, 1, none⟩ = some (.int .i64 a1_1) ∧ w'.cell? ⟨gb101, 2, none⟩ = some (.int .i64 a1_2) ∧ w'.cell? ⟨gb101, 3, none⟩ = some (.int .i64 a1_3) ∧ w'.cell? ⟨gb101, 4, none⟩ = some (.int .i64 a1_4)) (ds := []) #[false, false, false, false, false, false, false, false, false, false, false, false, false, false, false, false, false, false, false, false, false, false, false, false, false, false, false] (by kernel_rfl) rfl rfl ⟨cz0 BK101, cz1 BK101, cz2 BK101, cz3 BK101, cz4 BK101⟩ (fun hHeld => ?_); refine Jk Qaq.tab5 Qaq.bits5 (fun HT_ HW_ => ?_); generalize wr.drew = w45 at HO_6 HO_8 BK101 HB hHeld ⊢; refine pu 0 18 ?_; refine pu 2 20 ?_; refine tk 1 19 hHeld ?_; refine on 3 (fun K hK => ?_); refine gO Tryz.func29 #[.slice A0 l0.length c0, .agg #[.int .i64 a1_0, .int .i64 a1_1, .int .i64 a1_2, .int .i64 a1_3, .int .i64 a1_4], .slice Ao46 x8_1.length co46] ?_
        with_reducible refine (Qau.calls k1 _ _ l0 a1_0 a1_1 a1_2 a1_3 a1_4 _ _ x8_1 t108 t109 _ ?side1 ?side2 ?side3 ?side4 A11.out).mono ?_
        (case side1 => exact pC (Kd.C_below HR0.out HB.out))
        (case side2 => exact HC0.out)
        (case side3 => exact pC (Kd.R_reads' HO_8.out).2.2)
        (case side4 => exact (Kd.R_reads' HO_8.out).2.1)
        rintro e w47 ⟨rfl, hb⟩; refine ⟨_, rfl, ?_⟩; replace HO_6 := rb HO_6 hb; replace HO_8 := rb HO_8 hb; replace BK101 := bb BK101 hb; replace HB := bs HB hb
        (try clear hb)
        (try clear hb2)
        (try clear hk)
        (try clear hi)
        refine hK.out _ _ ⟨cz0 BK101, cz1 BK101, cz2 BK101, cz3 BK101, cz4 BK101⟩ (fun hHeld => ?_); clear hK K; refine QY (a' := ?_) ?_ ?_
        rotate_left
        ·show Act.put _ (some 21) _ = _
         simp only [Act.put, List.setIfInBounds_toArray, List.set_cons_zero, List.set_cons_succ, QR, QU]; rfl
        refine pu 4 22 ?_; refine pu 5 23 ?_; refine pu 6 24 ?_; refine pu 7 25 ?_; refine pu 8 26 ?_; refine pu 10 28 ?_; refine tk 11 29 hHeld ?_; refine on 9 (fun K hK => ?_); refine gO Tryz.func30 #[.slice A0 l0.length c0, .slice Ao46 x8_1.length co46] ?_
        with_reducible refine (Qaw.calls k1 _ _ l0 _ _ x8_1 t110 _ ?side1 ?side2 ?side3 ?side4 A13.out).mono ?_
        (case side1 => exact pC (Kd.C_below HR0.out HB.out))
        (case side2 => exact HC0.out)
        (case side3 => exact pC (Kd.R_reads' HO_8.out).2.2)
        (case side4 => exact (Kd.R_reads' HO_8.out).2.1)
        rintro e w' ⟨rfl, ⟨nd, rfl⟩⟩; refine ⟨_, rfl, ?_⟩; refine hK.out _ _ ⟨cz0 BK101, cz1 BK101, cz2 BK101, cz3 BK101, cz4 BK101⟩ (fun hHeld => ?_); clear hK K; refine QY (a' := ?_) ?_ ?_
        rotate_left
        ·show Act.put _ (some 27) _ = _
         simp only [Act.put, List.setIfInBounds_toArray, List.set_cons_zero, List.set_cons_succ, QR, QU]; rfl
        refine pu 12 30 ?_; refine pu 13 31 ?_; refine pu 14 32 ?_; refine pd 15 33 ?_; refine pd 16 34 ?_; refine pd 17 35 ?_; refine pd 18 36 ?_; refine pd 19 37 ?_; refine pd 20 38 ?_; refine pd 21 39 ?_; refine pd 22 40 ?_; refine pd 23 41 ?_; refine pd 24 42 ?_; refine pd 25 43 ?_; refine pu 26 44 ?_; refine JD (JM HT_.out (by kernel_rfl)) ?_
        try go_wp2_with (first | ((with_reducible refine gc 81 rfl ?_); refine gL 17 Tryz.func81 #[.slice A0 l0.length c0, .slice Ao46 x8_1.length co46] ?_; (with_reducible refine (Qas.calls k1 _ _ l0 (fun k_ => some k_ = (.slice Ao46 x8_1.length co46 : Value).ownBlock) (.slice Ao46 x8_1.length co46) x8_1 t131 t132 w _ ?side1 ?side2 ?side3 ?side4 A44.out).mono ?_); (case side1 => repeat (first | (with_reducible first | exact HB.out | apply QO | apply Ji | apply QM | refine Q3 ?_ GW101.out) | exact HB.out)); (case side2 => exact Kd.C_kept_came JT HR0.out (pE HB) (fun k_ hs_ => (fun e_ => Kd.R_base HO_8.out k_ e_.symm) hs_)); (case side3 => exact HC0.out); (case side4 => exact Kd.R_tight rfl HO_8.out); rintro e w48 ⟨rfl, hy0, hb, hkp⟩; refine ⟨_, rfl, ?_⟩; replace HO_6 := Qa.mk (Kd.R_mono (ok' := fun k_ => some k_ ≠ (.slice Ao46 x8_1.length co46 : Value).ownBlock) (Kd.R_keptB (HO_6.out) hkp (fun k_ hk_ hs_ => (hk_) hs_)) (fun k_ hk_ => hk_.1)); replace BK101 := Qa.mk (Jn (pB BK101.out) hkp (fun hs_ => (fun e_ => (Kd.R_ne HO_8.out BK101.out (by decide)) e_) hs_)); replace HO_8 := Qa.mk (Kd.R_reok rfl hy0 (fun k_ e_ => HO_8.out.1 k_ e_)); replace HB := Qa.mk (hb); clear hb hkp hy0))
        go_roundg k1
        case measure => have := HK1.out; omega
        case rel => exact ⟨(x6_1), (x7_1), (t132), (t131), eS, eS, H', ⟨by have := HK1.out; omega⟩, ⟨by (with_reducible repeat (first | apply Kd.R_alloc | apply Kd.R_drewN | apply Kd.R_drew)); exact HO_6.out⟩, ⟨by (with_reducible repeat (first | apply Kd.R_alloc | apply Kd.R_drewN | apply Kd.R_drew)); exact HO_8.out⟩, ⟨pB BK101.out⟩, ⟨pE HB⟩⟩
      ·rw [if_neg c12] at H
       have c12b0 : decide (0 ≤ t108) = false := decide_eq_false c12; clear c12; obtain ⟨⟨t133, t134⟩, A49, H⟩ := bi H; have H' := Qa.mk H; clear H
       try go_wp2
       replace HO_6 := Qa.mk (Kd.R_drew HO_6.out); replace HO_8 := Qa.mk (Kd.R_drew HO_8.out); replace BK101 := Qa.mk (Qh BK101.out); replace HB := Qa.mk (QM HB.out); obtain ⟨Ao51, co51, eo51⟩ := Kd.R_slice HO_8.out
       (first | subst eo51 | (injection eo51 with f1_ f2_ f3_; have f4_ := f1_.symm; have f5_ := f3_.symm; clear f1_ f2_ f3_; subst f4_; subst f5_))
       refine JS (n := 27) (S := fun w' => w'.cell? ⟨gb101, 0, none⟩ = some (.int .i64 a1_0) ∧ w'.cell? ⟨gb101, 1, none⟩ = some (.int .i64 a1_1) ∧ w'.cell? ⟨gb101, 2, none⟩ = some (.int .i64 a1_2) ∧ w'.cell? ⟨gb101, 3, none⟩ = some (.int .i64 a1_3) ∧ w'.cell? ⟨gb101, 4, none⟩ = some (.int .i64 a1_4)) (ds := []) #[false, false, false, false, false, false, false, false, false, false, false, false, false, false, false, false, false, false, false, false, false, false, false, false, false, false, false] (by kernel_rfl) rfl rfl ⟨cz0 BK101, cz1 BK101, cz2 BK101, cz3 BK101, cz4 BK101⟩ (fun hHeld => ?_); refine Jk Qaq.tab5 Qaq.bits5 (fun HT_ HW_ => ?_); generalize wr.drew = w50 at HO_6 HO_8 BK101 HB hHeld ⊢; refine pu 0 18 ?_; refine pu 2 20 ?_; refine tk 1 19 hHeld ?_; refine on 3 (fun K hK => ?_); refine gO Tryz.func29 #[.slice A0 l0.length c0, .agg #[.int .i64 a1_0, .int .i64 a1_1, .int .i64 a1_2, .int .i64 a1_3, .int .i64 a1_4], .slice Ao51 x8_1.length co51] ?_
       with_reducible refine (Qau.calls k1 _ _ l0 a1_0 a1_1 a1_2 a1_3 a1_4 _ _ x8_1 t108 t109 _ ?side1 ?side2 ?side3 ?side4 A11.out).mono ?_
       (case side1 => exact pC (Kd.C_below HR0.out HB.out))
       (case side2 => exact HC0.out)
       (case side3 => exact pC (Kd.R_reads' HO_8.out).2.2)
       (case side4 => exact (Kd.R_reads' HO_8.out).2.1)
       rintro e w52 ⟨rfl, hb⟩; refine ⟨_, rfl, ?_⟩; replace HO_6 := rb HO_6 hb; replace HO_8 := rb HO_8 hb; replace BK101 := bb BK101 hb; replace HB := bs HB hb
       (try clear hb)
       (try clear hb2)
       (try clear hk)
       (try clear hi)
       refine hK.out _ _ ⟨cz0 BK101, cz1 BK101, cz2 BK101, cz3 BK101, cz4 BK101⟩ (fun hHeld => ?_); clear hK K; refine QY (a' := ?_) ?_ ?_
       rotate_left
       ·show Act.put _ (some 21) _ = _
        simp only [Act.put, List.setIfInBounds_toArray, List.set_cons_zero, List.set_cons_succ, QR, QU]; rfl
       refine pu 4 22 ?_; refine pu 5 23 ?_; refine pu 6 24 ?_; refine pd 7 25 ?_; refine pd 8 26 ?_; refine pd 9 27 ?_; refine pd 10 28 ?_; refine pd 11 29 ?_; refine pd 12 30 ?_; refine pu 13 31 ?_; refine pu 14 32 ?_; refine pd 15 33 ?_; refine pd 16 34 ?_; refine pd 17 35 ?_; refine pd 18 36 ?_; refine pd 19 37 ?_; refine pd 20 38 ?_; refine pd 21 39 ?_; refine pd 22 40 ?_; refine pd 23 41 ?_; refine pd 24 42 ?_; refine pd 25 43 ?_; refine pu 26 44 ?_; refine JD (JM HT_.out (by kernel_rfl)) ?_
       try go_wp2_with (first | ((with_reducible refine gc 81 rfl ?_); refine gL 17 Tryz.func81 #[.slice A0 l0.length c0, .slice Ao51 x8_1.length co51] ?_; (with_reducible refine (Qas.calls k1 _ _ l0 (fun k_ => some k_ = (.slice Ao51 x8_1.length co51 : Value).ownBlock) (.slice Ao51 x8_1.length co51) x8_1 t133 t134 w _ ?side1 ?side2 ?side3 ?side4 A49.out).mono ?_); (case side1 => repeat (first | (with_reducible first | exact HB.out | apply QO | apply Ji | apply QM | refine Q3 ?_ GW101.out) | exact HB.out)); (case side2 => exact Kd.C_kept_came JT HR0.out (pE HB) (fun k_ hs_ => (fun e_ => Kd.R_base HO_8.out k_ e_.symm) hs_)); (case side3 => exact HC0.out); (case side4 => exact Kd.R_tight rfl HO_8.out); rintro e w53 ⟨rfl, hy0, hb, hkp⟩; refine ⟨_, rfl, ?_⟩; replace HO_6 := Qa.mk (Kd.R_mono (ok' := fun k_ => some k_ ≠ (.slice Ao51 x8_1.length co51 : Value).ownBlock) (Kd.R_keptB (HO_6.out) hkp (fun k_ hk_ hs_ => (hk_) hs_)) (fun k_ hk_ => hk_.1)); replace BK101 := Qa.mk (Jn (pB BK101.out) hkp (fun hs_ => (fun e_ => (Kd.R_ne HO_8.out BK101.out (by decide)) e_) hs_)); replace HO_8 := Qa.mk (Kd.R_reok rfl hy0 (fun k_ e_ => HO_8.out.1 k_ e_)); replace HB := Qa.mk (hb); clear hb hkp hy0))
       go_roundg k1
       case measure => have := HK1.out; omega
       case rel => exact ⟨(x6_1), (x7_1), (t134), (t133), eS, eS, H', ⟨by have := HK1.out; omega⟩, ⟨by (with_reducible repeat (first | apply Kd.R_alloc | apply Kd.R_drewN | apply Kd.R_drew)); exact HO_6.out⟩, ⟨by (with_reducible repeat (first | apply Kd.R_alloc | apply Kd.R_drewN | apply Kd.R_drew)); exact HO_8.out⟩, ⟨pB BK101.out⟩, ⟨pE HB⟩⟩
     ·replace c10 := Bool.eq_false_iff.mpr c10
      subst c10; rw [if_neg (show ¬ (false = true) by decide)] at H; simp only [Option.some.injEq, Prod.mk.injEq] at H; obtain ⟨rfl, rfl⟩ := H; go_wp2; go_ret2; exact ⟨_, eT, by (with_reducible repeat (first | apply Kd.R_alloc | apply Kd.R_drewN | apply Kd.R_drew)); exact Kd.R_mono HO_6.out (fun _ hk => trivial), pE HB⟩
  ·rw [if_neg c4] at H
   exact absurd H (by simp)
 ·rw [if_neg c3] at H
  exact absurd H (by simp)
end Go.Proofs.YtjaapkkpmegkfaaGreat.P
