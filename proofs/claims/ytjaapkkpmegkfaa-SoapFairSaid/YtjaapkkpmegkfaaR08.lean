/- Part 8 of what the law's proof needs: words, walks of functions and plain facts. -/
import Derived.Shelf.SlicesQ.Load
import Derived.Shelf.Abstract
import Derived.Lib.Hide
import Derived.Lib.BufferMore
import Derived.Lib.LazyBuf
import Derived.Shelf.SortM.Plain
import Derived.Shelf.SortM.SortNone
import Derived.Ground.SlgmProg
import Derived.Ground.Names2Prog
import Derived.Shelf.Slices.CompactI
import Derived.Test.YtjaapkkpmegkfaaProg
import Derived.Lib.SlKeysI
import Derived.Test.YtjaapkkpmegkfaaR02
import Derived.Test.YtjaapkkpmegkfaaR04
import Derived.Test.YtjaapkkpmegkfaaR06
import Derived.Test.YtjaapkkpmegkfaaR07
set_option linter.unusedVariables false
set_option linter.unusedSimpArgs false
namespace Go.Proofs.Ytjaapkkpmegkfaa.P
open Go.RowKit Go.Proofs.YtjaapkkpmegkfaaW.PrintWords Go.Proofs.YtjaapkkpmegkfaaW.PrintLast Go.Proofs.YtjaapkkpmegkfaaW.PrintMore
attribute [local go_sem] JG JH JY JX Jv Ju JJ JK
mutual
def QD.l0 : Nat → List (List Int) → List S83 → List S40 → Int → Int → Option ((List (List Int)) × Int)
 | 0, _, _, _, _, _ => none
 | k + 1, x4, x7, x29, x30, x31 => if x31 < x30 then (if 0 ≤ x31 then (if x31 < (x29.length : Int) then ((Qv.f k ((Qy x29 x31).f0.f0) ((Qy x29 x31).f0.f1) ((Qy x29 x31).f1.f0) ((Qy x29 x31).f1.f1) ((Qy x29 x31).f2) x7).bind fun bt108 => (if bt108.2 = true then (if x4.length < 5864062014805 then (QD.l1 k (x4 ++ [bt108.1]) x7 x29 x30 x31 bt108.1 (bt108.1.length : Int) 0) else (none)) else (some (x4, 0)))) else (none)) else (none)) else (some (x4, 0))
def QD.l1 : Nat → List (List Int) → List S83 → List S40 → Int → Int → List Int → Int → Int → Option ((List (List Int)) × Int)
 | 0, _, _, _, _, _, _, _, _ => none
 | k + 1, x4, x7, x29, x30, x31, x48, x49, x50 => if x50 < x49 then (if 0 ≤ x50 then (if x50 < (x48.length : Int) then (if x50 < (x7.length : Int) then (QD.l1 k x4 (x7.set (x50 : Int).toNat (⟨(⟨(Qf x7 x50).f0.f0, (Qf x7 x50).f0.f1⟩ : S36), (Qf x7 x50).f1, (Qf x7 x50).f2, wrap64 (((Qf x7 x50).f3) - (rd x48 x50))⟩ : S83)) x29 x30 x31 x48 x49 (wrap64 (x50 + 1))) else (none)) else (none)) else (none)) else (QD.l0 k x4 x7 x29 x30 (wrap64 (x31 + 1)))
end
def QD.f (k : Nat) (l0 : List S83) (l1 : List S40) : Option ((List (List Int)) × Int) := (Jf.f l0).bind fun t101 => (if t101 = 0 then (if (l1.length : Int) > 6 then (some (([] : List (List Int)), 8)) else ((Js.f l1).bind fun t102 => (if t102 = true then (some (([] : List (List Int)), 3)) else ((Q6.f l0).bind fun t103 => (QD.l0 k ([] : List (List Int)) t103 l1 (l1.length : Int) 0))))) else (some (([] : List (List Int)), t101)))
theorem QD.mono_l : ∀ k, (∀ y0 y1 y2 y3 y4, LeO (QD.l0 k y0 y1 y2 y3 y4) (QD.l0 (k + 1) y0 y1 y2 y3 y4)) ∧ (∀ y0 y1 y2 y3 y4 y5 y6 y7, LeO (QD.l1 k y0 y1 y2 y3 y4 y5 y6 y7) (QD.l1 (k + 1) y0 y1 y2 y3 y4 y5 y6 y7))
 | 0 => ⟨fun _ _ _ _ _ r h => by simp [QD.l0] at h, fun _ _ _ _ _ _ _ _ r h => by simp [QD.l1] at h⟩
 | k + 1 => by
  obtain ⟨ih0, ih1⟩ := QD.mono_l k; refine ⟨?_, ?_⟩
  ·intro y0 y1 y2 y3 y4
   unfold QD.l0
   repeat' first
   | (with_reducible exact ih0 _ _ _ _ _)
   | (with_reducible exact ih1 _ _ _ _ _ _ _ _)
   | (with_reducible exact Qv.mono _ _ _ _ _ _ _)
   | (with_reducible exact LeO.refl _)
   | (with_reducible exact LeO.none _)
   | (with_reducible refine LeO.ite ?_ ?_)
   | (with_reducible refine LeO.bind ?_ (fun _ => ?_))
  ·intro y0 y1 y2 y3 y4 y5 y6 y7
   unfold QD.l1
   repeat' first
   | (with_reducible exact ih0 _ _ _ _ _)
   | (with_reducible exact ih1 _ _ _ _ _ _ _ _)
   | (with_reducible exact Qv.mono _ _ _ _ _ _ _)
   | (with_reducible exact LeO.refl _)
   | (with_reducible exact LeO.none _)
   | (with_reducible refine LeO.ite ?_ ?_)
   | (with_reducible refine LeO.bind ?_ (fun _ => ?_))
theorem QD.mono : ∀ a0 a1 k, LeO (QD.f k a0 a1) (QD.f (k + 1) a0 a1) := by
 intro a0 a1 k; obtain ⟨ih0, ih1⟩ := QD.mono_l k; unfold QD.f
 repeat' first
   | (with_reducible exact ih0 _ _ _ _ _)
   | (with_reducible exact ih1 _ _ _ _ _ _ _ _)
   | (with_reducible exact Qv.mono _ _ _ _ _ _ _)
   | (with_reducible exact LeO.refl _)
   | (with_reducible exact LeO.none _)
   | (with_reducible refine LeO.ite ?_ ?_)
   | (with_reducible refine LeO.bind ?_ (fun _ => ?_))
set_option maxHeartbeats 8000000 in
set_option maxRecDepth 100000 in
theorem QD.calls (k : Nat) (A0 : Option Addr) (c0 : Nat) (l0 : List S83) (A1 : Option Addr) (c1 : Nat) (l1 : List S40) (r1 : List (List Int)) (r2 : Int) (w : World) (hr0 : Kd.C k83 w A0 l0.length l0) (hc0 : l0.length ≤ c0) (hr1 : Kd.C k40 w A1 l1.length l1) (hc1 : l1.length ≤ c1) (h : QD.f k l0 l1 = some (r1, r2)) :
  Calls Try.prog 18 #[.slice A0 l0.length c0, .slice A1 l1.length c1] w fun e w' => ∃ v0_ : Value, e = .returned (.tuple #[v0_, .int .i64 r2]) ∧ Kd.S (Kd.slice 3 (Kd.int .i64)) 24 w' w.heap.size (fun _ => True) v0_ r1 ∧ Below w.heap.size w w' := by
 have hu40 := Try.underlying40; have hu75 := Try.underlying75; have HR0 := Qa.mk hr0; have HC0 := Qa.mk hc0; clear hr0 hc0; have HR1 := Qa.mk hr1; have HC1 := Qa.mk hc1; clear hr1 hc1; have HB := Qa.mk (Below.refl w.heap.size w); have H : ((Jf.f l0).bind fun t101 => (if t101 = 0 then (if (l1.length : Int) > 6 then (some (([] : List (List Int)), 8)) else ((Js.f l1).bind fun t102 => (if t102 = true then (some (([] : List (List Int)), 3)) else ((Q6.f l0).bind fun t103 => (QD.l0 k ([] : List (List Int)) t103 l1 (l1.length : Int) 0))))) else (some (([] : List (List Int)), t101)))) = some (r1, r2) := h; clear h; obtain ⟨t101, A3, H⟩ := bi H; by_cases c4 : t101 = 0
 ·rw [if_pos c4] at H
  have c4b0 : (t101 == 0) = true := beq_iff_eq.mpr c4; have c4b1 : (t101 != 0) = false := bne_eq_false_iff_eq.mpr c4; clear c4; by_cases c5 : (l1.length : Int) > 6
  ·rw [if_pos c5] at H
   have c5b0 : decide (6 < (l1.length : Int)) = true := decide_eq_true c5; have c5b1 : decide (6 < l1.length) = true := decide_eq_true (by omega); clear c5; simp only [Option.some.injEq, Prod.mk.injEq] at H; obtain ⟨rfl, rfl⟩ := H; go_enter Try.func18, Try.ntmps18; go_wp2_with (first | ((with_reducible refine gc 25 rfl ?_); refine gL 15 Try.func25 #[.slice A0 l0.length c0] ?_; (with_reducible refine (Jf.calls _ _ l0 t101 _ ?side1 ?side2 A3.out).mono ?_); (case side1 => exact pC HR0.out); (case side2 => exact HC0.out); rintro e w6 ⟨rfl, hb⟩; refine ⟨_, rfl, ?_⟩; replace HB := bs HB hb; clear hb)); go_ret2; exact ⟨_, eT, by first | exact Kd.S_nil _ _ _ _ _ | exact Kd.N_nil _ _ _ _ _ | exact Kd.V_nil _ _ _ _ _ | exact Kd.Q_nil _ _ _ _ _ | exact Kd.R_nil _ _ _ _ _, pE HB⟩
  ·rw [if_neg c5] at H
   have c5b0 : decide (6 < (l1.length : Int)) = false := decide_eq_false c5; have c5b1 : decide (6 < l1.length) = false := decide_eq_false (by omega); clear c5; obtain ⟨t102, A7, H⟩ := bi H; by_cases c8 : t102 = true
   ·subst c8
    rw [if_pos rfl] at H; simp only [Option.some.injEq, Prod.mk.injEq] at H; obtain ⟨rfl, rfl⟩ := H; go_enter Try.func18, Try.ntmps18; go_wp2_with (first | ((with_reducible refine gc 25 rfl ?_); refine gL 15 Try.func25 #[.slice A0 l0.length c0] ?_; (with_reducible refine (Jf.calls _ _ l0 t101 _ ?side1 ?side2 A3.out).mono ?_); (case side1 => exact pC HR0.out); (case side2 => exact HC0.out); rintro e w9 ⟨rfl, hb⟩; refine ⟨_, rfl, ?_⟩; replace HB := bs HB hb; clear hb) | ((with_reducible refine gc 44 rfl ?_); refine gL 26 Try.func44 #[.slice A1 l1.length c1, .func (.func 45) #[] #[]] ?_; (with_reducible refine (Js.calls _ _ l1  true _ ?side1 ?side2 A7.out).mono ?_); (case side1 => exact pC (Kd.C_below HR1.out HB.out)); (case side2 => exact HC1.out); rintro e w10 ⟨rfl, hb⟩; refine ⟨_, rfl, ?_⟩; replace HB := bs HB hb; clear hb)); go_ret2; exact ⟨_, eT, by first | exact Kd.S_nil _ _ _ _ _ | exact Kd.N_nil _ _ _ _ _ | exact Kd.V_nil _ _ _ _ _ | exact Kd.Q_nil _ _ _ _ _ | exact Kd.R_nil _ _ _ _ _, pE HB⟩
   ·replace c8 := Bool.eq_false_iff.mpr c8
    subst c8; rw [if_neg (show ¬ (false = true) by decide)] at H; obtain ⟨t103, A11, H⟩ := bi H; have H' := Qa.mk H; clear H; go_enter Try.func18, Try.ntmps18; go_wp2_with (first | ((with_reducible refine gc 25 rfl ?_); refine gL 15 Try.func25 #[.slice A0 l0.length c0] ?_; (with_reducible refine (Jf.calls _ _ l0 t101 _ ?side1 ?side2 A3.out).mono ?_); (case side1 => exact pC HR0.out); (case side2 => exact HC0.out); rintro e w12 ⟨rfl, hb⟩; refine ⟨_, rfl, ?_⟩; replace HB := bs HB hb; clear hb) | ((with_reducible refine gc 44 rfl ?_); refine gL 26 Try.func44 #[.slice A1 l1.length c1, .func (.func 45) #[] #[]] ?_; (with_reducible refine (Js.calls _ _ l1  false _ ?side1 ?side2 A7.out).mono ?_); (case side1 => exact pC (Kd.C_below HR1.out HB.out)); (case side2 => exact HC1.out); rintro e w13 ⟨rfl, hb⟩; refine ⟨_, rfl, ?_⟩; replace HB := bs HB hb; clear hb) | ((with_reducible refine gc 46 rfl ?_); refine gL 28 Try.func46 #[.slice A0 l0.length c0] ?_; (with_reducible refine (Q6.calls _ _ l0 t103 _ ?side1 ?side2 A11.out).mono ?_); (case side1 => exact pC (Kd.C_below HR0.out HB.out)); (case side2 => exact HC0.out); rintro e w14 ⟨v104, rfl, ho0, hb⟩; refine ⟨_, rfl, ?_⟩; have HO105 := rl ho0 HB; replace HB := bs HB hb; clear hb ho0))
    go_loopg [4, 31] k (fun kq v4 v31 w' => ∃ (x4_1 : List (List Int)) (x7_1 : List S83) (x31_1 : Int), v31 = .int .i64 x31_1 ∧ Qa (QD.l0 kq x4_1 x7_1 l1 (l1.length : Int) x31_1 = some (r1, r2)) ∧ Qa (kq ≤ k) ∧ Qa (Kd.S (Kd.slice 3 (Kd.int .i64)) 24 w' w.heap.size (fun _ => True) v4 x4_1) ∧ Qa (Kd.R k83 83 w' w.heap.size (fun _ => True) v104 x7_1) ∧ Qa (Below w.heap.size w w'))
    case atStart => exact ⟨(([] : List (List Int))), (t103), (0), eS, H', ⟨Nat.le_refl _⟩, ⟨by first | exact Kd.S_nil _ _ _ _ _ | exact Kd.N_nil _ _ _ _ _ | exact Kd.V_nil _ _ _ _ _ | exact Kd.Q_nil _ _ _ _ _ | exact Kd.R_nil _ _ _ _ _⟩, ⟨by (with_reducible repeat (first | apply Kd.R_alloc | apply Kd.R_drewN | apply Kd.R_drew)); exact HO105.out⟩, ⟨pE HB⟩⟩
    case round =>
     clear H'; try clear c1
     try clear p2
     try clear c3
     try clear c4
     try clear c4b0
     try clear c4b1
     try clear c5
     try clear c5b0
     try clear c5b1
     try clear c7
     try clear c8
     try clear c9
     obtain ⟨x4_1, x7_1, x31_1, rfl, HA, HK1, HO_4, HO_7, HB⟩ := hrel
     cases gk with
     | zero => exact absurd HA.out (by simp [QD.l0])
     | succ k1 =>
      have H := HA.out; clear HA; simp only [QD.l0] at H; by_cases c15 : x31_1 < (l1.length : Int)
      ·rw [if_pos c15] at H
       have c15b0 : decide (x31_1 < (l1.length : Int)) = true := decide_eq_true c15; clear c15; by_cases c16 : 0 ≤ x31_1
       ·rw [if_pos c16] at H
        have c16b0 : decide (0 ≤ x31_1) = true := decide_eq_true c16; clear c16; by_cases c17 : x31_1 < (l1.length : Int)
        ·rw [if_pos c17] at H
         have c17b0 : decide (x31_1 < (l1.length : Int)) = true := decide_eq_true c17; clear c17; obtain ⟨⟨t108, t111⟩, A18, H⟩ := bi H; by_cases c19 : t111 = true
         ·subst c19
          rw [if_pos rfl] at H; by_cases c20 : x4_1.length < 5864062014805
          ·rw [if_pos c20] at H
           have LMc20 := Qa.mk c20; clear c20; obtain ⟨y112, hy112⟩ : ∃ y_ : List (List Int), y_ = (x4_1 ++ [t108]) := ⟨_, rfl⟩
           replace H : (QD.l1 k1 y112 x7_1 l1 (l1.length : Int) x31_1 t108 (t108.length : Int) 0) = some (r1, r2) := yy hy112 H; have Ny112 := Qa.mk hy112; clear hy112; have H' := Qa.mk H; clear H; have p106 : 0 ≤ (x31_1 : Int) := dT; have q106 : x31_1 < (l1.length : Int) := dT; obtain ⟨ad106, e106, hx106_0, hx106_1, hx106_2, hx106_3, hx106_4⟩ := Yb HR1.out x31_1 p106 q106
           cases e106
           replace hx106_0 := cut_ HB hx106_0; replace hx106_1 := cut_ HB hx106_1; replace hx106_2 := cut_ HB hx106_2; replace hx106_3 := cut_ HB hx106_3; replace hx106_4 := cut_ HB hx106_4; replace p106 := eq_true p106; replace q106 := eq_true q106; go_wp2_with (first | (refine bx 9 #[.int .i64 0, .int .i64 0, .int .i64 0, .int .i64 0, .int .i64 0] 40 ?_; intro gb107 hg w21 hbox hb; replace HO_4 := Qa.mk (Kd.S_below (pS HO_4.out) hb); replace HO_7 := rb HO_7 hb; have BK107 := hbox; have GW107 := gs HB hg; replace HB := bs HB hb; clear hb hg; obtain ⟨hcz22_0, hcz22_1, hcz22_2, hcz22_3, hcz22_4, hfz22_0, hfz22_1, hfz22_2, hfz22_3, hfz22_4⟩ := cf5 BK107; obtain ⟨Ao23, co23, eo23⟩ := Kd.R_slice HO_7.out; subst eo23) | ((with_reducible refine gc 36 rfl ?_); refine gL 39 Try.func36 #[.agg #[.int .i64 ((Qy l1 x31_1).f0.f0), .int .i64 ((Qy l1 x31_1).f0.f1), .int .i64 ((Qy l1 x31_1).f1.f0), .int .i64 ((Qy l1 x31_1).f1.f1), .int .i64 ((Qy l1 x31_1).f2), .slice Ao23 x7_1.length co23]] ?_; (with_reducible refine (Qv.calls k1 ((Qy l1 x31_1).f0.f0) ((Qy l1 x31_1).f0.f1) ((Qy l1 x31_1).f1.f0) ((Qy l1 x31_1).f1.f1) ((Qy l1 x31_1).f2) _ _ x7_1 t108 true _ ?side1 ?side2 A18.out).mono ?_); (case side1 => refine (Kd.R_reads' (e := 83) (base := w.heap.size) (ok := fun k_ => True) (n := x7_1.length) (c := co23) ?_).2.2; exact (by refine pR ?_; exact (Rt5 (g := gb107) HO_7 BK107))); (case side2 => exact (Kd.R_reads' HO_7.out).2.1); rintro e w24 ⟨v109, rfl, ho0, hb⟩; refine ⟨_, rfl, ?_⟩; replace HO_4 := Qa.mk (Kd.S_elder' (by refine pS ?_; exact (Kd.S_mono (Sf5 (g := gb107) (Kd.S_types HO_4.out BK107.out (by decide))) (fun _ h_ => h_.1))) (Kd.R_base ho0) hb); replace HO_7 := Qa.mk (Kd.R_below (by refine pR ?_; exact (Rt5 (g := gb107) HO_7 BK107)) hb); have HO110 := rl ho0 HB; replace BK107 := Qa.mk (QX (g := gb107) (o := .cells #[.int .i64 ((Qy l1 x31_1).f0.f0), .int .i64 ((Qy l1 x31_1).f0.f1), .int .i64 ((Qy l1 x31_1).f1.f0), .int .i64 ((Qy l1 x31_1).f1.f1), .int .i64 ((Qy l1 x31_1).f2)] 40 (0, 0)) (by refine pB ?_; refine Qg (cs := #[.int .i64 ((Qy l1 x31_1).f0.f0), .int .i64 ((Qy l1 x31_1).f0.f1), .int .i64 ((Qy l1 x31_1).f1.f0), .int .i64 ((Qy l1 x31_1).f1.f1), .int .i64 0]) ?_ 4 _ rfl; refine pB ?_; refine Qg (cs := #[.int .i64 ((Qy l1 x31_1).f0.f0), .int .i64 ((Qy l1 x31_1).f0.f1), .int .i64 ((Qy l1 x31_1).f1.f0), .int .i64 0, .int .i64 0]) ?_ 3 _ rfl; refine pB ?_; refine Qg (cs := #[.int .i64 ((Qy l1 x31_1).f0.f0), .int .i64 ((Qy l1 x31_1).f0.f1), .int .i64 0, .int .i64 0, .int .i64 0]) ?_ 2 _ rfl; refine pB ?_; refine Qg (cs := #[.int .i64 ((Qy l1 x31_1).f0.f0), .int .i64 0, .int .i64 0, .int .i64 0, .int .i64 0]) ?_ 1 _ rfl; refine pB ?_; refine Qg (cs := #[.int .i64 0, .int .i64 0, .int .i64 0, .int .i64 0, .int .i64 0]) ?_ 0 _ rfl; (with_reducible repeat (first | refine Qt ?_ _ | refine Qh ?_ | refine blk_alloc ?_ _)); exact BK107.out) hb); replace HB := bs HB hb; clear hb ho0; obtain ⟨Ao26, co26, eo26⟩ := Kd.R_slice HO110.out; subst eo26) | ((with_reducible refine JA (b := .append) (xs := #[.tmp 44, .tmp 46]) rfl ?_); at_builtin; refine Kd.S_append (Kd.slice 3 (Kd.int .i64)) (w0 := w) w.heap.size rfl (.tmp 44) (.tmp 46) 51 24 (.slice none 0 0) 24 rfl Try.underlying51 info24 rfl (by decide) (by omega) u4 x4_1 t108 [.slice Ao26 t108.length co26] (fun _ => True) (fun k_ => some k_ = (.slice Ao26 t108.length co26 : Value).ownBlock) rfl rfl ?aP (fun k_ hk_ => ((Kd.R_mono (ok' := fun k_ => ((fun _ => True)) k_ ∧ some k_ ≠ (u4 : Value).ownBlock) (Kd.R_apart' (HO110.out) (Kd.S_typed HO_4.out) (by decide)) (fun k_ hk => ⟨trivial, hk.2⟩))).1 k_ hk_.symm) ?aF ?aO ?aB ?aS ?aL ?_; (case aP => exact Kd.M_row (Kd.R_mono (Kd.R_tight rfl (Kd.R_mono (ok' := fun k_ => ((fun _ => True)) k_ ∧ some k_ ≠ (u4 : Value).ownBlock) (Kd.R_apart' (HO110.out) (Kd.S_typed HO_4.out) (by decide)) (fun k_ hk => ⟨trivial, hk.2⟩))) (fun _ h_ => h_))); (case aB => exact (pE HB)); (case aF => exact (fun _ _ => trivial)); (case aO => exact (by refine pS ?_; exact Kd.S_mono HO_4.out (fun k_ hk => ⟨trivial, fun e_ => hk.2 e_⟩))); (case aS => exact (Qr (pE HB))); (case aL => have := LMc20.out; omega); intro v113 w25 ho hb hg hat; rw [← Ny112.out] at ho; replace HO_7 := Qa.mk (Kd.R_over' (pR HO_7.out) (Kd.S_typed (pS HO_4.out)) (by decide) hg); replace BK107 := Qa.mk (Ja (g := gb107) (o := .cells #[.int .i64 ((Qy l1 x31_1).f0.f0), .int .i64 ((Qy l1 x31_1).f0.f1), .int .i64 ((Qy l1 x31_1).f1.f0), .int .i64 ((Qy l1 x31_1).f1.f1), .int .i64 ((Qy l1 x31_1).f2)] 40 (0, 0)) (pB BK107.out) hg (Kd.S_ne HO_4.out BK107.out (by decide))); replace HO110 := Qa.mk (Kd.R_over' (pR HO110.out) (Kd.S_typed (pS HO_4.out)) (by decide) hg); replace HB := Qa.mk (hb); have HO114 := Qa.mk (ho); clear HO_4; clear ho hb hg hat))
           go_loopg [50] k1 (fun kq v50 w' => ∃ (x7_2 : List S83) (x50_2 : Int), v50 = .int .i64 x50_2 ∧ Qa (QD.l1 kq y112 x7_2 l1 (l1.length : Int) x31_1 t108 (t108.length : Int) x50_2 = some (r1, r2)) ∧ Qa (kq ≤ k1) ∧ Qa (Kd.S (Kd.slice 3 (Kd.int .i64)) 24 w' w.heap.size (fun _ => True) v113 y112) ∧ Qa (Kd.R k83 83 w' w.heap.size (fun _ => True) (.slice Ao23 x7_1.length co23) x7_2) ∧ Qa (Kd.R (Kd.int .i64) 3 w' w.heap.size (fun _ => True) (.slice Ao26 t108.length co26) t108) ∧ Qa (w'.heap[gb107]? = some (.cells #[.int .i64 ((Qy l1 x31_1).f0.f0), .int .i64 ((Qy l1 x31_1).f0.f1), .int .i64 ((Qy l1 x31_1).f1.f0), .int .i64 ((Qy l1 x31_1).f1.f1), .int .i64 ((Qy l1 x31_1).f2)] 40 (0, 0))) ∧ Qa (Below w.heap.size w w'))
           case atStart => exact ⟨(x7_1), (0), eS, H', ⟨Nat.le_refl _⟩, ⟨by (with_reducible repeat (first | apply Kd.S_alloc | apply Kd.S_drewN | apply Kd.S_drew)); exact HO114.out⟩, ⟨by (with_reducible repeat (first | apply Kd.R_alloc | apply Kd.R_drewN | apply Kd.R_drew)); exact HO_7.out⟩, ⟨by (with_reducible repeat (first | apply Kd.R_alloc | apply Kd.R_drewN | apply Kd.R_drew)); exact HO110.out⟩, ⟨pB BK107.out⟩, ⟨pE HB⟩⟩
           case round =>
            clear H'; try clear c1
            try clear p1
            try clear q1
            try clear hx1
            try clear c2
            try clear p2
            try clear c3
            try clear c4
            try clear c4b0
            try clear c4b1
            try clear c5
            try clear c5b0
            try clear c5b1
            try clear c7
            try clear c8
            try clear c9
            try clear p10
            try clear q10
            try clear hx10
            try clear c15
            try clear c15b0
            try clear c16
            try clear c16b0
            try clear c17
            try clear c17b0
            try clear c18
            try clear c19
            try clear c20
            try clear hcz22_0
            try clear hcz22_1
            try clear hcz22_2
            try clear hcz22_3
            try clear hcz22_4
            try clear hfz22_0
            try clear hfz22_1
            try clear hfz22_2
            try clear hfz22_3
            try clear hfz22_4
            try clear hx106_0
            try clear hx106_1
            try clear hx106_2
            try clear hx106_3
            try clear hx106_4
            try clear p106
            try clear p2
            try clear q106
            obtain ⟨x7_2, x50_2, rfl, HA, HK2, HO_4, HO_7, HO_48, BK107, HB⟩ := hrel; have hl7_2 := (Kd.R_reads' HO_7.out).1; rw [hl7_2] at HO_7
            (try simp only [hl7_2])
            (try simp only [hl7_2] at BK107)
            (try simp only [hl7_2] at HO_4)
            (try simp only [hl7_2] at HO_48)
            cases gk with
            | zero => exact absurd HA.out (by simp [QD.l1])
            | succ k2 =>
             have H := HA.out; clear HA; simp only [QD.l1] at H; by_cases c27 : x50_2 < (t108.length : Int)
             ·rw [if_pos c27] at H
              have c27b0 : decide (x50_2 < (t108.length : Int)) = true := decide_eq_true c27; clear c27; by_cases c28 : 0 ≤ x50_2
              ·rw [if_pos c28] at H
               have c28b0 : decide (0 ≤ x50_2) = true := decide_eq_true c28; clear c28; by_cases c29 : x50_2 < (t108.length : Int)
               ·rw [if_pos c29] at H
                have c29b0 : decide (x50_2 < (t108.length : Int)) = true := decide_eq_true c29; clear c29; by_cases c30 : x50_2 < (x7_2.length : Int)
                ·rw [if_pos c30] at H
                 have c30b0 : decide (x50_2 < (x7_2.length : Int)) = true := decide_eq_true c30; clear c30; obtain ⟨y117, hy117⟩ : ∃ y_ : List S83, y_ = (x7_2.set (x50_2 : Int).toNat (⟨(⟨(Qf x7_2 x50_2).f0.f0, (Qf x7_2 x50_2).f0.f1⟩ : S36), (Qf x7_2 x50_2).f1, (Qf x7_2 x50_2).f2, wrap64 (((Qf x7_2 x50_2).f3) - (rd t108 x50_2))⟩ : S83)) := ⟨_, rfl⟩
                 replace H : (QD.l1 k2 y112 y117 l1 (l1.length : Int) x31_1 t108 (t108.length : Int) (wrap64 (x50_2 + 1))) = some (r1, r2) := yy hy117 H; have Ny117 := Qa.mk hy117; clear hy117; have H' := Qa.mk H; clear H; have p115 : 0 ≤ (x50_2 : Int) := dT; have q115 : x50_2 < (t108.length : Int) := dT; obtain ⟨ad115, e115, hx115_0⟩ := Kd.at_int (Kd.R_reads' HO_48.out).2.2 x50_2 p115 q115
                 cases e115
                 replace p115 := eq_true p115; replace q115 := eq_true q115; have p116 : 0 ≤ (x50_2 : Int) := dT; have q116 : x50_2 < (x7_2.length : Int) := dT; obtain ⟨ad116, e116, hx116_0, hx116_1, hx116_2, hx116_3, hx116_4⟩ := Zf (Kd.R_reads' HO_7.out).2.2 x50_2 p116 q116
                 cases e116
                 replace p116 := eq_true p116; replace q116 := eq_true q116; have p31 : 0 ≤ (x50_2 : Int) := dT; have q31 : (x50_2 : Int) < ((x7_2.length : Int) : Int) := dT; obtain ⟨go31, co31, eo31, gb31, gl31, cl31, HG31⟩ := Kd.R_form HO_7.out (by omega)
                 (first | cases eo31 | (injection eo31 with ea_ en_ ec_; (first | subst ea_ | (injection ea_ with ea_; subst ea_)); subst ec_; clear en_))
                 have GB31 := Qa.mk gb31; have GG31 := Qa.mk HG31; clear gb31 gl31 HG31
                 (first | simp only [JP] at hx116_0 | skip)
                 (first | simp only [JP] at hx116_1 | skip)
                 (first | simp only [JP] at hx116_2 | skip)
                 (first | simp only [JP] at hx116_3 | skip)
                 (first | simp only [JP] at hx116_4 | skip)
                 obtain ⟨ce31, hcl31, hM31, hcc31, hfr31⟩ := Kd.R_elem HO_7.out z83 (x50_2 : Int) p31 q31; obtain rfl := ZH hM31; have hx31_0 : wr.cell? ⟨go31, (x50_2 : Int).toNat * 5, none⟩ = some (.int .i64 ((Qf x7_2 x50_2).f0.f0)) := hcc31 0 _ rfl; have hx31_1 : wr.cell? ⟨go31, (x50_2 : Int).toNat * 5 + 1, none⟩ = some (.int .i64 ((Qf x7_2 x50_2).f0.f1)) := hcc31 1 _ rfl; have hx31_2 : wr.cell? ⟨go31, (x50_2 : Int).toNat * 5 + 2, none⟩ = some (.int .i64 ((Qf x7_2 x50_2).f1)) := hcc31 2 _ rfl; have hx31_3 : wr.cell? ⟨go31, (x50_2 : Int).toNat * 5 + 3, none⟩ = some (.int .i64 ((Qf x7_2 x50_2).f2)) := hcc31 3 _ rfl; have hx31_4 : wr.cell? ⟨go31, (x50_2 : Int).toNat * 5 + 4, none⟩ = some (.int .i64 ((Qf x7_2 x50_2).f3)) := hcc31 4 _ rfl; have hf31_0 : wr.frozen? ⟨go31, (x50_2 : Int).toNat * 5, none⟩ = false := hfr31 0; have hf31_1 : wr.frozen? ⟨go31, (x50_2 : Int).toNat * 5 + 1, none⟩ = false := hfr31 1; have hf31_2 : wr.frozen? ⟨go31, (x50_2 : Int).toNat * 5 + 2, none⟩ = false := hfr31 2; have hf31_3 : wr.frozen? ⟨go31, (x50_2 : Int).toNat * 5 + 3, none⟩ = false := hfr31 3; have hf31_4 : wr.frozen? ⟨go31, (x50_2 : Int).toNat * 5 + 4, none⟩ = false := hfr31 4; clear hcl31 hcc31 hfr31 hM31; replace p31 := eq_true p31; replace q31 := eq_true q31; have HX32 := Qa.mk (show Kd.R k83 83 wr w.heap.size (fun _ => True) (.slice (some ⟨go31, 0, none⟩) x7_2.length co23) x7_2 from (pR HO_7.out)); obtain ⟨ce32, hcl32, hM32, hcc32, hfr32⟩ := Kd.R_elem HX32.out z83 (x50_2 : Int) (dT) (by have h_ : (x50_2 : Int) < ((x7_2.length : Int) : Int) := dT; first | exact h_ | (have e_ := (Kd.R_reads' HO_7.out).1; omega) | simpa using h_); obtain rfl := ZH hM32; have HP32 := Kd.R_seg HX32.out (x50_2 : Int) (dT) (by have h_ : (x50_2 : Int) < ((x7_2.length : Int) : Int) := dT; first | exact h_ | (have e_ := (Kd.R_reads' HO_7.out).1; omega) | simpa using h_) (seg := [.int .i64 (wrap64 (((Qf x7_2 x50_2).f3) - (rd t108 x50_2)))]) (j := 4) hcl32 hcc32 (show 5 ≤ 5 from by decide) (x' := (⟨(⟨(Qf x7_2 x50_2).f0.f0, (Qf x7_2 x50_2).f0.f1⟩ : S36), (Qf x7_2 x50_2).f1, (Qf x7_2 x50_2).f2, wrap64 (((Qf x7_2 x50_2).f3) - (rd t108 x50_2))⟩ : S83)) (ZM _ _ _ (⟨(⟨(Qf x7_2 x50_2).f0.f0, (Qf x7_2 x50_2).f0.f1⟩ : S36), (Qf x7_2 x50_2).f1, (Qf x7_2 x50_2).f2, wrap64 (((Qf x7_2 x50_2).f3) - (rd t108 x50_2))⟩ : S83) ) (fun _ hk => hk); have hx32_4 := hcc32 4 _ rfl
                 (try simp only [show (k83).sz = 5 from rfl, Nat.mul_one, Nat.add_zero] at hx32_4)
                 have hf32_4 := hfr32 4
                 (try simp only [show (k83).sz = 5 from rfl, Nat.mul_one, Nat.add_zero] at hf32_4)
                 clear hcl32 hcc32 hfr32 hM32; go_wp2_with (first | ((with_reducible refine Z3 (t := 3) (p := 63) rfl ?_); refine ZX (t := 3) (p := 63) (v := ?vo_w33) (w1 := (wr.setCell ⟨go31, (x50_2 : Int).toNat * 5 + 4, none⟩ (.int .i64 (wrap64 (((Qf x7_2 x50_2).f3) - (rd t108 x50_2)))))) ?hg ?ho ?hn ?hr ?_; (case ho => rfl); (case hg => rfl); (case hn => rfl); (case hr => first | (go_simp; done) | (go_simp; rfl)); intro w33 hw; have hg : wr.grownBy w33 (some go31) := (by rw [hw]; exact HP32.2); have hp_ : Kd.R k83 83 w33 w.heap.size (fun _ => True) (.slice (some ⟨go31, 0, none⟩) x7_2.length co23) y117 := (by rw [hw, Ny117.out]; exact HP32.1); clear HP32; replace HO_4 := Qa.mk (Kd.S_over' (v := (.slice (some ⟨go31, 0, none⟩) x7_2.length co23)) (pS HO_4.out) (Kd.R_typed HO_7.out) (by decide) hg); replace HO_48 := Qa.mk (Kd.R_over' (v := (.slice (some ⟨go31, 0, none⟩) x7_2.length co23)) (pR HO_48.out) (Kd.R_typed HO_7.out) (by decide) hg); replace BK107 := Qa.mk (Ja (g := gb107) (o := .cells #[.int .i64 ((Qy l1 x31_1).f0.f0), .int .i64 ((Qy l1 x31_1).f0.f1), .int .i64 ((Qy l1 x31_1).f1.f0), .int .i64 ((Qy l1 x31_1).f1.f1), .int .i64 ((Qy l1 x31_1).f2)] 40 (0, 0)) (pB BK107.out) hg (Kd.R_ne HO_7.out BK107.out (by decide))); replace HO_7 := Qa.mk (hp_); replace HB := Qa.mk ((by rw [hw]; exact Q3 (HB.out) GB31.out : Below w.heap.size w w33)); clear hg hw hp_))
                 (try simp only [← hl7_2])
                 go_roundg k2
                 case measure => have := HK1.out; have := HK2.out; omega
                 case rel => exact ⟨(y117), (wrap64 (x50_2 + 1)), eS, H', ⟨by have := HK1.out; have := HK2.out; omega⟩, ⟨by (try simp only [hl7_2]); (with_reducible repeat (first | apply Kd.S_alloc | apply Kd.S_drewN | apply Kd.S_drew)); exact HO_4.out⟩, ⟨by (try simp only [hl7_2]); (with_reducible repeat (first | apply Kd.R_alloc | apply Kd.R_drewN | apply Kd.R_drew)); exact HO_7.out⟩, ⟨by (try simp only [hl7_2]); (with_reducible repeat (first | apply Kd.R_alloc | apply Kd.R_drewN | apply Kd.R_drew)); exact HO_48.out⟩, ⟨by (try simp only [hl7_2]); (with_reducible repeat (first | refine Qt ?_ _ | refine Qh ?_ | refine blk_alloc ?_ _)); exact BK107.out⟩, ⟨pE HB⟩⟩
                ·rw [if_neg c30] at H
                 exact absurd H (by simp)
               ·rw [if_neg c29] at H
                exact absurd H (by simp)
              ·rw [if_neg c28] at H
               exact absurd H (by simp)
             ·rw [if_neg c27] at H
              have c27b0 : decide (x50_2 < (t108.length : Int)) = false := decide_eq_false c27; clear c27; have H' := Qa.mk H; clear H; go_wp2
              (try simp only [← hl7_2])
              go_roundg k2
              case measure => have := HK1.out; have := HK2.out; omega
              case rel => exact ⟨(y112), (x7_2), (wrap64 (x31_1 + 1)), eS, H', ⟨by have := HK1.out; have := HK2.out; omega⟩, ⟨by (try simp only [hl7_2]); (with_reducible repeat (first | apply Kd.S_alloc | apply Kd.S_drewN | apply Kd.S_drew)); exact HO_4.out⟩, ⟨by (try simp only [hl7_2]); (with_reducible repeat (first | apply Kd.R_alloc | apply Kd.R_drewN | apply Kd.R_drew)); exact HO_7.out⟩, ⟨pE HB⟩⟩
          ·rw [if_neg c20] at H
           exact absurd H (by simp)
         ·replace c19 := Bool.eq_false_iff.mpr c19
          subst c19; rw [if_neg (show ¬ (false = true) by decide)] at H; simp only [Option.some.injEq, Prod.mk.injEq] at H; obtain ⟨rfl, rfl⟩ := H; have p106 : 0 ≤ (x31_1 : Int) := dT; have q106 : x31_1 < (l1.length : Int) := dT; obtain ⟨ad106, e106, hx106_0, hx106_1, hx106_2, hx106_3, hx106_4⟩ := Yb HR1.out x31_1 p106 q106
          cases e106
          replace hx106_0 := cut_ HB hx106_0; replace hx106_1 := cut_ HB hx106_1; replace hx106_2 := cut_ HB hx106_2; replace hx106_3 := cut_ HB hx106_3; replace hx106_4 := cut_ HB hx106_4; replace p106 := eq_true p106; replace q106 := eq_true q106; go_wp2_with (first | (refine bx 9 #[.int .i64 0, .int .i64 0, .int .i64 0, .int .i64 0, .int .i64 0] 40 ?_; intro gb107 hg w34 hbox hb; replace HO_4 := Qa.mk (Kd.S_below (pS HO_4.out) hb); replace HO_7 := rb HO_7 hb; have BK107 := hbox; have GW107 := gs HB hg; replace HB := bs HB hb; clear hb hg; obtain ⟨_, _, _, _, _, _, _, _, _, _⟩ := cf5 BK107; obtain ⟨Ao36, co36, eo36⟩ := Kd.R_slice HO_7.out; subst eo36) | ((with_reducible refine gc 36 rfl ?_); refine gL 39 Try.func36 #[.agg #[.int .i64 ((Qy l1 x31_1).f0.f0), .int .i64 ((Qy l1 x31_1).f0.f1), .int .i64 ((Qy l1 x31_1).f1.f0), .int .i64 ((Qy l1 x31_1).f1.f1), .int .i64 ((Qy l1 x31_1).f2), .slice Ao36 x7_1.length co36]] ?_; (with_reducible refine (Qv.calls k1 ((Qy l1 x31_1).f0.f0) ((Qy l1 x31_1).f0.f1) ((Qy l1 x31_1).f1.f0) ((Qy l1 x31_1).f1.f1) ((Qy l1 x31_1).f2) _ _ x7_1 t108 false _ ?side1 ?side2 A18.out).mono ?_); (case side1 => refine (Kd.R_reads' (e := 83) (base := w.heap.size) (ok := fun k_ => True) (n := x7_1.length) (c := co36) ?_).2.2; exact (by refine pR ?_; exact (Rt5 (g := gb107) HO_7 BK107))); (case side2 => exact (Kd.R_reads' HO_7.out).2.1); rintro e w37 ⟨v109, rfl, ho0, hb⟩; refine ⟨_, rfl, ?_⟩; replace HO_4 := Qa.mk (Kd.S_elder' (by refine pS ?_; exact (Kd.S_mono (Sf5 (g := gb107) (Kd.S_types HO_4.out BK107.out (by decide))) (fun _ h_ => h_.1))) (Kd.R_base ho0) hb); replace HO_7 := Qa.mk (Kd.R_below (by refine pR ?_; exact (Rt5 (g := gb107) HO_7 BK107)) hb); have HO110 := rl ho0 HB; replace BK107 := Qa.mk (QX (g := gb107) (o := .cells #[.int .i64 ((Qy l1 x31_1).f0.f0), .int .i64 ((Qy l1 x31_1).f0.f1), .int .i64 ((Qy l1 x31_1).f1.f0), .int .i64 ((Qy l1 x31_1).f1.f1), .int .i64 ((Qy l1 x31_1).f2)] 40 (0, 0)) (by refine pB ?_; refine Qg (cs := #[.int .i64 ((Qy l1 x31_1).f0.f0), .int .i64 ((Qy l1 x31_1).f0.f1), .int .i64 ((Qy l1 x31_1).f1.f0), .int .i64 ((Qy l1 x31_1).f1.f1), .int .i64 0]) ?_ 4 _ rfl; refine pB ?_; refine Qg (cs := #[.int .i64 ((Qy l1 x31_1).f0.f0), .int .i64 ((Qy l1 x31_1).f0.f1), .int .i64 ((Qy l1 x31_1).f1.f0), .int .i64 0, .int .i64 0]) ?_ 3 _ rfl; refine pB ?_; refine Qg (cs := #[.int .i64 ((Qy l1 x31_1).f0.f0), .int .i64 ((Qy l1 x31_1).f0.f1), .int .i64 0, .int .i64 0, .int .i64 0]) ?_ 2 _ rfl; refine pB ?_; refine Qg (cs := #[.int .i64 ((Qy l1 x31_1).f0.f0), .int .i64 0, .int .i64 0, .int .i64 0, .int .i64 0]) ?_ 1 _ rfl; refine pB ?_; refine Qg (cs := #[.int .i64 0, .int .i64 0, .int .i64 0, .int .i64 0, .int .i64 0]) ?_ 0 _ rfl; (with_reducible repeat (first | refine Qt ?_ _ | refine Qh ?_ | refine blk_alloc ?_ _)); exact BK107.out) hb); replace HB := bs HB hb; clear hb ho0)); go_ret2; exact ⟨_, eT, by (with_reducible repeat (first | apply Kd.S_alloc | apply Kd.S_drewN | apply Kd.S_drew)); exact Kd.S_mono HO_4.out (fun _ hk => trivial), pE HB⟩
        ·rw [if_neg c17] at H
         exact absurd H (by simp)
       ·rw [if_neg c16] at H
        exact absurd H (by simp)
      ·rw [if_neg c15] at H
       have c15b0 : decide (x31_1 < (l1.length : Int)) = false := decide_eq_false c15; clear c15; simp only [Option.some.injEq, Prod.mk.injEq] at H; obtain ⟨rfl, rfl⟩ := H; go_wp2; go_ret2; exact ⟨_, eT, by (with_reducible repeat (first | apply Kd.S_alloc | apply Kd.S_drewN | apply Kd.S_drew)); exact HO_4.out, pE HB⟩
 ·rw [if_neg c4] at H
  have c4b0 : (t101 == 0) = false := beq_eq_false_iff_ne.mpr c4; have c4b1 : (t101 != 0) = true := bne_iff_ne.mpr c4; simp only [Option.some.injEq, Prod.mk.injEq] at H; obtain ⟨rfl, rfl⟩ := H; go_enter Try.func18, Try.ntmps18; go_wp2_with (first | ((with_reducible refine gc 25 rfl ?_); refine gL 15 Try.func25 #[.slice A0 l0.length c0] ?_; (with_reducible refine (Jf.calls _ _ l0 t101 _ ?side1 ?side2 A3.out).mono ?_); (case side1 => exact pC HR0.out); (case side2 => exact HC0.out); rintro e w38 ⟨rfl, hb⟩; refine ⟨_, rfl, ?_⟩; replace HB := bs HB hb; clear hb)); go_ret2; exact ⟨_, eT, by first | exact Kd.S_nil _ _ _ _ _ | exact Kd.N_nil _ _ _ _ _ | exact Kd.V_nil _ _ _ _ _ | exact Kd.Q_nil _ _ _ _ _ | exact Kd.R_nil _ _ _ _ _, pE HB⟩
def QB.l0 : Nat → List Int → Int → Int → Int → Option Int
 | 0, _, _, _, _ => none
 | k + 1, x0, x1, x7, x8 => if x8 < x7 then (if 0 ≤ x8 then (if x8 < (x0.length : Int) then (if x1 = (rd x0 x8) then (some x8) else (QB.l0 k x0 x1 x7 (wrap64 (x8 + 1)))) else (none)) else (none)) else (some (-1))
def QB.f (k : Nat) (l0 : List Int) (a1 : Int) : Option Int := QB.l0 k l0 a1 (l0.length : Int) 0
theorem QB.mono_l : ∀ k, (∀ y0 y1 y2 y3, LeO (QB.l0 k y0 y1 y2 y3) (QB.l0 (k + 1) y0 y1 y2 y3))
 | 0 => fun _ _ _ _ r h => by simp [QB.l0] at h
 | k + 1 => by
  have ih0 := QB.mono_l k
  ·intro y0 y1 y2 y3
   unfold QB.l0
   repeat' first
   | (with_reducible exact ih0 _ _ _ _)
   | (with_reducible exact LeO.refl _)
   | (with_reducible exact LeO.none _)
   | (with_reducible refine LeO.ite ?_ ?_)
   | (with_reducible refine LeO.bind ?_ (fun _ => ?_))
theorem QB.mono : ∀ a0 a1 k, LeO (QB.f k a0 a1) (QB.f (k + 1) a0 a1) := by
 intro a0 a1 k; have ih0 := QB.mono_l k; unfold QB.f
 repeat' first
   | (with_reducible exact ih0 _ _ _ _)
   | (with_reducible exact LeO.refl _)
   | (with_reducible exact LeO.none _)
   | (with_reducible refine LeO.ite ?_ ?_)
   | (with_reducible refine LeO.bind ?_ (fun _ => ?_))
set_option maxHeartbeats 8000000 in
set_option maxRecDepth 100000 in
theorem QB.calls (k : Nat) (A0 : Option Addr) (c0 : Nat) (l0 : List Int) (a1 r : Int) (w : World) (hr0 : Kd.C (Kd.int .i64) w A0 l0.length l0) (hc0 : l0.length ≤ c0) (h : QB.f k l0 a1 = some r) :
  Calls Try.prog 81 #[.slice A0 l0.length c0, .int .i64 a1] w fun e w' => e = .returned (.int .i64 r) ∧ JB w w' := by
 have HR0 := Qa.mk hr0; have HC0 := Qa.mk hc0; clear hr0 hc0; have H : (QB.l0 k l0 a1 (l0.length : Int) 0) = some r := h; clear h; have H' := Qa.mk H; clear H; go_enter Try.func81, Try.ntmps81; go_wp2
 go_loopg [8] k (fun kq v8 w' => ∃ (x8_1 : Int), v8 = .int .i64 x8_1 ∧ Qa (QB.l0 kq l0 a1 (l0.length : Int) x8_1 = some r) ∧ Qa (kq ≤ k) ∧ JB w w')
 case atStart => exact ⟨(0), eS, H', ⟨Nat.le_refl _⟩, dS⟩
 case round =>
  clear H'; try clear c1
  try clear p2
  obtain ⟨x8_1, rfl, HA, HK1, ⟨m1, rfl⟩⟩ := hrel
  cases gk with
  | zero => exact absurd HA.out (by simp [QB.l0])
  | succ k1 =>
   have H := HA.out; clear HA; simp only [QB.l0] at H; by_cases c3 : x8_1 < (l0.length : Int)
   ·rw [if_pos c3] at H
    have c3b0 : decide (x8_1 < (l0.length : Int)) = true := decide_eq_true c3; clear c3; by_cases c4 : 0 ≤ x8_1
    ·rw [if_pos c4] at H
     have c4b0 : decide (0 ≤ x8_1) = true := decide_eq_true c4; clear c4; by_cases c5 : x8_1 < (l0.length : Int)
     ·rw [if_pos c5] at H
      have c5b0 : decide (x8_1 < (l0.length : Int)) = true := decide_eq_true c5; clear c5; by_cases c6 : a1 = (rd l0 x8_1)
      ·rw [if_pos c6] at H
       have c6b0 : (a1 == (rd l0 x8_1)) = true := beq_iff_eq.mpr c6; have c6b1 : (a1 != (rd l0 x8_1)) = false := bne_eq_false_iff_eq.mpr c6; clear c6; obtain rfl := Option.some.inj H; have p101 : 0 ≤ (x8_1 : Int) := dT; have q101 : x8_1 < (l0.length : Int) := dT; obtain ⟨ad101, e101, hx101_0⟩ := Kd.at_int HR0.out x8_1 p101 q101
       cases e101
       replace p101 := eq_true p101; replace q101 := eq_true q101; go_wp2; go_ret; exact ⟨eS, dS⟩
      ·rw [if_neg c6] at H
       have c6b0 : (a1 == (rd l0 x8_1)) = false := beq_eq_false_iff_ne.mpr c6; have c6b1 : (a1 != (rd l0 x8_1)) = true := bne_iff_ne.mpr c6; have H' := Qa.mk H; clear H; have p101 : 0 ≤ (x8_1 : Int) := dT; have q101 : x8_1 < (l0.length : Int) := dT; obtain ⟨ad101, e101, hx101_0⟩ := Kd.at_int HR0.out x8_1 p101 q101
       cases e101
       replace p101 := eq_true p101; replace q101 := eq_true q101; go_wp2
       go_roundg k1
       case measure => have := HK1.out; omega
       case rel => exact ⟨(wrap64 (x8_1 + 1)), eS, H', ⟨by have := HK1.out; omega⟩, dS⟩
     ·rw [if_neg c5] at H
      exact absurd H (by simp)
    ·rw [if_neg c4] at H
     exact absurd H (by simp)
   ·rw [if_neg c3] at H
    have c3b0 : decide (x8_1 < (l0.length : Int)) = false := decide_eq_false c3; clear c3; obtain rfl := Option.some.inj H; go_wp2; go_ret; exact ⟨eS, dS⟩
def QI.f (k : Nat) (l0 : List Int) (a1 : Int) : Option Bool := (QB.f k l0 a1).bind fun t101 => (some (decide (t101 ≥ 0)))
theorem QI.mono : ∀ a0 a1 k, LeO (QI.f k a0 a1) (QI.f (k + 1) a0 a1) := by
 intro a0 a1 k; unfold QI.f
 repeat' first
   | (with_reducible exact QB.mono _ _ _)
   | (with_reducible exact LeO.refl _)
   | (with_reducible exact LeO.none _)
   | (with_reducible refine LeO.ite ?_ ?_)
   | (with_reducible refine LeO.bind ?_ (fun _ => ?_))
set_option maxHeartbeats 8000000 in
set_option maxRecDepth 100000 in
theorem QI.calls (k : Nat) (A0 : Option Addr) (c0 : Nat) (l0 : List Int) (a1 : Int) (r : Bool) (w : World) (hr0 : Kd.C (Kd.int .i64) w A0 l0.length l0) (hc0 : l0.length ≤ c0) (h : QI.f k l0 a1 = some r) :
  Calls Try.prog 71 #[.slice A0 l0.length c0, .int .i64 a1] w fun e w' => e = .returned (.bool r) ∧ JB w w' := by
 have HR0 := Qa.mk hr0; have HC0 := Qa.mk hc0; clear hr0 hc0; have H : ((QB.f k l0 a1).bind fun t101 => (some (decide (t101 ≥ 0)))) = some r := h; clear h; obtain ⟨t101, A3, H⟩ := bi H; obtain rfl := Option.some.inj H; go_enter Try.func71, Try.ntmps71; go_wp2_with (first | ((with_reducible refine gc 81 rfl ?_); refine gL 7 Try.func81 #[.slice A0 l0.length c0, .int .i64 a1] ?_; (with_reducible refine (QB.calls k _ _ l0 a1 t101 _ ?side1 ?side2 A3.out).mono ?_); (case side1 => exact pC HR0.out); (case side2 => exact HC0.out); rintro e w' ⟨rfl, ⟨nd, rfl⟩⟩; refine ⟨_, rfl, ?_⟩)); go_ret; exact ⟨eS, dS⟩
def Je.f (k : Nat) (l0_0 l0_1 : List Int) (a0_2 a1 : Int) : Option Int := (QI.f k l0_0 a1).bind fun t102 => (if t102 = true then (some 1) else ((QI.f k l0_1 a1).bind fun t103 => (if t103 = true then (some 2) else (some 0))))
theorem Je.mono : ∀ a0 a1 a2 a3 k, LeO (Je.f k a0 a1 a2 a3) (Je.f (k + 1) a0 a1 a2 a3) := by
 intro a0 a1 a2 a3 k; unfold Je.f
 repeat' first
   | (with_reducible exact QI.mono _ _ _)
   | (with_reducible exact LeO.refl _)
   | (with_reducible exact LeO.none _)
   | (with_reducible refine LeO.ite ?_ ?_)
   | (with_reducible refine LeO.bind ?_ (fun _ => ?_))
set_option maxHeartbeats 8000000 in
set_option maxRecDepth 100000 in
theorem Je.calls (k : Nat) (A0_0 : Option Addr) (c0_0 : Nat) (l0_0 : List Int) (A0_1 : Option Addr) (c0_1 : Nat) (l0_1 : List Int) (a0_2 a1 r : Int) (w : World) (hr0_0 : Kd.C (Kd.int .i64) w A0_0 l0_0.length l0_0) (hc0_0 : l0_0.length ≤ c0_0) (hr0_1 : Kd.C (Kd.int .i64) w A0_1 l0_1.length l0_1) (hc0_1 : l0_1.length ≤ c0_1) (h : Je.f k l0_0 l0_1 a0_2 a1 = some r) :
  Calls Try.prog 53 #[.agg #[.slice A0_0 l0_0.length c0_0, .slice A0_1 l0_1.length c0_1, .int .i64 a0_2], .int .i64 a1] w fun e w' => e = .returned (.int .i64 r) ∧ Below w.heap.size w w' := by
 have hu64 := Try.underlying64; have HR0_0 := Qa.mk hr0_0; have HC0_0 := Qa.mk hc0_0; clear hr0_0 hc0_0; have HR0_1 := Qa.mk hr0_1; have HC0_1 := Qa.mk hc0_1; clear hr0_1 hc0_1; have HB := Qa.mk (Below.refl w.heap.size w); have H : ((QI.f k l0_0 a1).bind fun t102 => (if t102 = true then (some 1) else ((QI.f k l0_1 a1).bind fun t103 => (if t103 = true then (some 2) else (some 0))))) = some r := h; clear h; obtain ⟨t102, A3, H⟩ := bi H; by_cases c4 : t102 = true
 ·subst c4
  rw [if_pos rfl] at H; obtain rfl := Option.some.inj H; go_enter Try.func53, Try.ntmps53; go_wp2_with (first | (refine bx 2 #[.slice A0_0 l0_0.length c0_0, .slice A0_1 l0_1.length c0_1, .int .i64 a0_2] 64 ?_; intro gb101 hg w5 BK101 hb; have GW101 := gs HB hg; replace HB := bs HB hb; clear hb hg; obtain ⟨_, _, _, _, _, _⟩ := cf3 BK101) | ((with_reducible refine gc 71 rfl ?_); refine gL 9 Try.func71 #[.slice A0_0 l0_0.length c0_0, .int .i64 a1] ?_; (with_reducible refine (QI.calls k _ _ l0_0 a1 true _ ?side1 ?side2 A3.out).mono ?_); (case side1 => exact pC (Kd.C_below HR0_0.out HB.out)); (case side2 => exact HC0_0.out); rintro e w' ⟨rfl, ⟨nd, rfl⟩⟩; refine ⟨_, rfl, ?_⟩)); go_ret; exact ⟨eT, pE HB⟩
 ·replace c4 := Bool.eq_false_iff.mpr c4
  subst c4; rw [if_neg (show ¬ (false = true) by decide)] at H; obtain ⟨t103, A7, H⟩ := bi H; by_cases c8 : t103 = true
  ·subst c8
   rw [if_pos rfl] at H; obtain rfl := Option.some.inj H; go_enter Try.func53, Try.ntmps53; go_wp2_with (first | (refine bx 2 #[.slice A0_0 l0_0.length c0_0, .slice A0_1 l0_1.length c0_1, .int .i64 a0_2] 64 ?_; intro gb101 hg w9 BK101 hb; have GW101 := gs HB hg; replace HB := bs HB hb; clear hb hg; obtain ⟨_, _, _, _, _, _⟩ := cf3 BK101) | ((with_reducible refine gc 71 rfl ?_); refine gL 9 Try.func71 #[.slice A0_0 l0_0.length c0_0, .int .i64 a1] ?_; (with_reducible refine (QI.calls k _ _ l0_0 a1 false _ ?side1 ?side2 A3.out).mono ?_); (case side1 => exact pC (Kd.C_below HR0_0.out HB.out)); (case side2 => exact HC0_0.out); rintro e w' ⟨rfl, ⟨nd, rfl⟩⟩; refine ⟨_, rfl, ?_⟩) | ((with_reducible refine gc 71 rfl ?_); refine gL 14 Try.func71 #[.slice A0_1 l0_1.length c0_1, .int .i64 a1] ?_; (with_reducible refine (QI.calls k _ _ l0_1 a1 true _ ?side1 ?side2 A7.out).mono ?_); (case side1 => exact pC (Kd.C_below HR0_1.out (pE HB))); (case side2 => exact HC0_1.out); rintro e w' ⟨rfl, ⟨nd, rfl⟩⟩; refine ⟨_, rfl, ?_⟩)); go_ret; exact ⟨eT, pE HB⟩
  ·replace c8 := Bool.eq_false_iff.mpr c8
   subst c8; rw [if_neg (show ¬ (false = true) by decide)] at H; obtain rfl := Option.some.inj H; go_enter Try.func53, Try.ntmps53; go_wp2_with (first | (refine bx 2 #[.slice A0_0 l0_0.length c0_0, .slice A0_1 l0_1.length c0_1, .int .i64 a0_2] 64 ?_; intro gb101 hg w11 BK101 hb; have GW101 := gs HB hg; replace HB := bs HB hb; clear hb hg; obtain ⟨_, _, _, _, _, _⟩ := cf3 BK101) | ((with_reducible refine gc 71 rfl ?_); refine gL 9 Try.func71 #[.slice A0_0 l0_0.length c0_0, .int .i64 a1] ?_; (with_reducible refine (QI.calls k _ _ l0_0 a1 false _ ?side1 ?side2 A3.out).mono ?_); (case side1 => exact pC (Kd.C_below HR0_0.out HB.out)); (case side2 => exact HC0_0.out); rintro e w' ⟨rfl, ⟨nd, rfl⟩⟩; refine ⟨_, rfl, ?_⟩) | ((with_reducible refine gc 71 rfl ?_); refine gL 14 Try.func71 #[.slice A0_1 l0_1.length c0_1, .int .i64 a1] ?_; (with_reducible refine (QI.calls k _ _ l0_1 a1 false _ ?side1 ?side2 A7.out).mono ?_); (case side1 => exact pC (Kd.C_below HR0_1.out (pE HB))); (case side2 => exact HC0_1.out); rintro e w' ⟨rfl, ⟨nd, rfl⟩⟩; refine ⟨_, rfl, ?_⟩)); go_ret; exact ⟨eT, pE HB⟩
end Go.Proofs.Ytjaapkkpmegkfaa.P
namespace Go.Proofs.Ytjaapkkpmegkfaa.P
open Go.RowKit Go.Proofs.YtjaapkkpmegkfaaW.PrintWords Go.Proofs.YtjaapkkpmegkfaaW.PrintLast Go.Proofs.YtjaapkkpmegkfaaW.PrintMore
set_option maxRecDepth 100000 in
theorem XD (W : World) (n : Nat) (h0 : 0 < n) (hn : n ≤ 1000000) (ty : TypeId) :
  (Builtin.append_ #[24, 3] ty #[.slice none 0 0, .int .i64 (n : Int)]).run Try.prog W = .ok (.slice (some ⟨W.heap.size, 0, none⟩) n (grownCap W n 0 3)) (W.drew.alloc (.cells (Builtin.zeroCells #[.int .i64 0] n ++ Builtin.zeroCells #[.int .i64 0] (grownCap W n 0 3 - n)) 3)) := by
 have hu : Try.prog.underlying 24 = some (.slice 3) := Try.underlying24; have hu3 := Try.underlying3
 obtain ⟨i3, hi3, hz3, hs3, hb3⟩ : ∃ i, Try.prog.info? 3 = some i ∧ i.zero = some (.int .i64 0) ∧ i.size = 1 ∧ i.bytes = 8 := by
  have h := J5
  cases hi : Try.prog.info? 3 with
  | none => rw [hi] at h; cases h
  | some i => rw [hi] at h; simp only [Option.map_some, Option.some.injEq, Prod.mk.injEq] at h; exact ⟨i, rfl, h.1, h.2.1, h.2.2⟩
 have hw : IntKind.i64.wrap (n : Int) = (n : Int) := by rw [QR]; unfold wrap64; omega
 have h1 : ¬ ((n : Int) < 0) := by omega
 have h2 : ¬ (281474976710656 < (n : Int) * 8) := by omega
 have h3 : n ≠ 0 := by omega
 have h4 : ¬ (9223372036854775807 < (n : Int)) := by omega
 have h48' : ¬ (281474976710656 < Builtin.nextslicecap n 0 * 8) := by rw [nextslicecap_zero h0]; omega
 have h5 : ¬ ((n : Int) ≤ 0) := by omega
 have h6 : max (n : Int) 0 = (n : Int) := by omega
 simp [Builtin.append_, asIntOf, h5, h6, Value.cells, run_underlying hu, run_underlying hu3, sizeOf, typeInfo, zeroValue, hi3, hz3, hs3, hb3, asInt, hw, h1, h2, h3, h4, h48', Question.forced, run_firstCells_none, newRow, grownCap]
set_option maxHeartbeats 4000000 in
set_option maxRecDepth 100000 in
theorem Qak (n : Nat) (hn : n ≤ 1000000) (w : World) : Calls Try.prog 77 #[.slice none 0 0, .int .i64 (n : Int)] w fun e w' => ∃ v, e = .returned v ∧ w'.ownsRow w.heap.size 3 1 v 0 [] ∧ Below w.heap.size w w' := by
 have hw : wrap64 (n : Int) = (n : Int) := by unfold wrap64; omega
 by_cases h0 : n = 0
 ·subst h0
  go_enter Try.func77, Try.ntmps77; go_wp2; go_ret; exact ⟨_, rfl, XJ _ _ _ _, Below.refl _ _⟩
 ·have hA := XD w n (by omega) hn 27
  have hge := grownCap_ge w n 0 3; have hle := grownCap_le_maxLen w n 0 3 (by simp only [maxLen]; omega); have d1 : decide ((n : Int) < 0) = false := decide_eq_false (by omega); have d2 : decide ((n : Int) > 0) = true := decide_eq_true (by omega); have d3 : decide (0 < (n : Int)) = true := decide_eq_true (by omega); have d4 : decide (0 < n) = true := decide_eq_true (by omega); have h1 : ¬ ((n : Int) < 0) := by omega
  have h2 : ¬ (281474976710656 < (n : Int) * 8) := by omega
  have h3 : n ≠ 0 := by omega
  have h4 : ¬ (9223372036854775807 < (n : Int)) := by omega
  have h48' : ¬ (281474976710656 < Builtin.nextslicecap n 0 * 8) := by rw [nextslicecap_zero (by omega)]; omega
  have h5 : ¬ ((n : Int) ≤ 0) := by omega
  have h6 : max (n : Int) 0 = (n : Int) := by omega
  have hw' : IntKind.i64.wrap (n : Int) = (n : Int) := by rw [QR]; exact hw
  clear hA; have HGE := Qa.mk hge; have HLE := Qa.mk hle; have HN := Qa.mk h0; clear hge hle h0; go_enter Try.func77, Try.ntmps77; go_wp2; go_ret; refine ⟨_, rfl, ⟨by simp, .inr ⟨w.heap.size, grownCap w n 0 3, Builtin.zeroCells #[.int .i64 0] n ++ Builtin.zeroCells #[.int .i64 0] (grownCap w n 0 3 - n), rfl, Nat.le_refl _, ?_, Nat.zero_le _, HLE.out, ?_, by simp⟩⟩, ?_⟩
  ·exact World.alloc_heap_new w _
  ·have := HGE.out
   show (Builtin.zeroCells #[Value.int IntKind.i64 0] n ++ Builtin.zeroCells #[Value.int IntKind.i64 0] (grownCap w n 0 3 - n)).size = grownCap w n 0 3 * 1; simp only [Array.size_append, size_zeroCells]
   simp
   omega
  ·exact ZC (QO (Below.refl _ _) _)
end Go.Proofs.Ytjaapkkpmegkfaa.P
namespace Go.Proofs.Ytjaapkkpmegkfaa.P
open Go.RowKit Go.Proofs.YtjaapkkpmegkfaaW.PrintWords Go.Proofs.YtjaapkkpmegkfaaW.PrintLast Go.Proofs.YtjaapkkpmegkfaaW.PrintMore
attribute [local go_sem] JG JH JY JX Jv Ju JJ JK
mutual
def QK.l0 : Nat → List (List Int) → Int → List (List Int) → Int → Int → Option (List Int)
 | 0, _, _, _, _, _ => none
 | k + 1, x0, x3, x9, x10, x11 => if x11 < x10 then (if 0 ≤ x11 then (if x11 < (x9.length : Int) then (if (wrap64 (x3 + ((Jo x9 x11).length : Int))) < 0 then (none) else (QK.l0 k x0 (wrap64 (x3 + ((Jo x9 x11).length : Int))) x9 x10 (wrap64 (x11 + 1)))) else (none)) else (none)) else (if 0 ≤ x3 ∧ x3 ≤ 1000000 then (QK.l1 k (([] : List Int)) x0 (x0.length : Int) 0) else none)
def QK.l1 : Nat → List Int → List (List Int) → Int → Int → Option (List Int)
 | 0, _, _, _, _ => none
 | k + 1, x6, x25, x26, x27 => if x27 < x26 then (if 0 ≤ x27 then (if x27 < (x25.length : Int) then (if x6.length + (Jo x25 x27).length < 17592186044416 then (QK.l1 k (x6 ++ (Jo x25 x27)) x25 x26 (wrap64 (x27 + 1))) else (none)) else (none)) else (none)) else (some x6)
end
def QK.f (k : Nat) (l0 : List (List Int)) : Option (List Int) := QK.l0 k l0 0 l0 (l0.length : Int) 0
set_option maxHeartbeats 8000000 in
set_option maxRecDepth 100000 in
theorem QK.calls (k : Nat) (A0 : Option Addr) (c0 : Nat) (l0 : List (List Int)) (r : List Int) (w : World) (hr0 : Kd.C (Kd.slice 3 (Kd.int .i64)) w A0 l0.length l0) (hc0 : l0.length ≤ c0) (h : QK.f k l0 = some r) :
  Calls Try.prog 67 #[.slice A0 l0.length c0] w fun e w' => ∃ v0_ : Value, e = .returned (v0_) ∧ Kd.R (Kd.int .i64) 3 w' w.heap.size (fun _ => True) v0_ r ∧ Below w.heap.size w w' := by
 have HR0 := Qa.mk hr0; have HC0 := Qa.mk hc0; clear hr0 hc0; have HB := Qa.mk (Below.refl w.heap.size w); have H : (QK.l0 k l0 0 l0 (l0.length : Int) 0) = some r := h; clear h; have H' := Qa.mk H; clear H; go_enter Try.func67, Try.ntmps67; go_wp2
 go_loopg [3, 11] k (fun kq v3 v11 w' => ∃ (x3_1 : Int) (x11_1 : Int), v3 = .int .i64 x3_1 ∧ v11 = .int .i64 x11_1 ∧ Qa (QK.l0 kq l0 x3_1 l0 (l0.length : Int) x11_1 = some r) ∧ Qa (kq ≤ k) ∧ Qa (Below w.heap.size w w'))
 case atStart => exact ⟨(0), (0), eS, eS, H', ⟨Nat.le_refl _⟩, ⟨pE HB⟩⟩
 case round =>
  clear H'; obtain ⟨x3_1, x11_1, rfl, rfl, HA, HK1, HB⟩ := hrel
  cases gk with
  | zero => exact absurd HA.out (by simp [QK.l0])
  | succ k1 =>
   have H := HA.out; clear HA; simp only [QK.l0] at H; by_cases c2 : x11_1 < (l0.length : Int)
   ·rw [if_pos c2] at H
    have c2b0 : decide (x11_1 < (l0.length : Int)) = true := decide_eq_true c2; clear c2; by_cases c3 : 0 ≤ x11_1
    ·rw [if_pos c3] at H
     have c3b0 : decide (0 ≤ x11_1) = true := decide_eq_true c3; clear c3; by_cases c4 : x11_1 < (l0.length : Int)
     ·rw [if_pos c4] at H
      have c4b0 : decide (x11_1 < (l0.length : Int)) = true := decide_eq_true c4; clear c4; by_cases c5 : (wrap64 (x3_1 + ((Jo l0 x11_1).length : Int))) < 0
      ·rw [if_pos c5] at H
       exact absurd H (by simp)
      ·rw [if_neg c5] at H
       have c5b0 : decide ((wrap64 (x3_1 + ((Jo l0 x11_1).length : Int))) < 0) = false := decide_eq_false c5; clear c5; have H' := Qa.mk H; clear H; have p101 : 0 ≤ (x11_1 : Int) := dT; have q101 : x11_1 < (l0.length : Int) := dT; obtain ⟨ad101, A101_0, c101_0, e101, hx101_0, hl101_0, hi101_0⟩ := XZ HR0.out x11_1 p101 q101
       cases e101
       replace hx101_0 := cut_ HB hx101_0; have HR101_0 := Qa.mk hi101_0; have HC101_0 := Qa.mk hl101_0; clear hi101_0 hl101_0; replace p101 := eq_true p101; replace q101 := eq_true q101; go_wp2
       go_roundg k1
       case measure => have := HK1.out; omega
       case rel => exact ⟨(wrap64 (x3_1 + ((Jo l0 x11_1).length : Int))), (wrap64 (x11_1 + 1)), eS, eS, H', ⟨by have := HK1.out; omega⟩, ⟨pE HB⟩⟩
     ·rw [if_neg c4] at H
      exact absurd H (by simp)
    ·rw [if_neg c3] at H
     exact absurd H (by simp)
   ·rw [if_neg c2] at H
    have c2b0 : decide (x11_1 < (l0.length : Int)) = false := decide_eq_false c2; clear c2; by_cases cg : 0 ≤ x3_1 ∧ x3_1 ≤ 1000000
    ·rw [if_pos cg] at H
     obtain ⟨n3, hn3⟩ := Int.eq_ofNat_of_zero_le cg.1; subst hn3; have HN3 := Qa.mk (show n3 ≤ 1000000 from by omega); clear cg; obtain ⟨y102, hy102⟩ : ∃ y_ : List Int, y_ = (([] : List Int)) := ⟨_, rfl⟩
     replace H : (QK.l1 k1 y102 l0 (l0.length : Int) 0) = some r := yy hy102 H; have Ny102 := Qa.mk hy102; clear hy102; have H' := Qa.mk H; clear H; go_wp2_with (first | (go_at_call 77; refine (Qak n3 HN3.out _).mono ?_; rintro e w6 ⟨v103, rfl, hw6, hb⟩; have ho7 : Kd.R (Kd.int .i64) 3 w6 _ (fun _ => True) v103 y102 := (by rw [Ny102.out]; exact Kd.R_of_own (h1 := fun _ => rfl) hw6 (fun _ _ => trivial)); clear hw6; have HO104 := rl ho7 HB; replace HB := bs HB hb; clear hb ho7))
     go_loopg [6, 27] k1 (fun kq v6 v27 w' => ∃ (x6_2 : List Int) (x27_2 : Int), v27 = .int .i64 x27_2 ∧ Qa (QK.l1 kq x6_2 l0 (l0.length : Int) x27_2 = some r) ∧ Qa (kq ≤ k1) ∧ Qa (Kd.R (Kd.int .i64) 3 w' w.heap.size (fun _ => True) v6 x6_2) ∧ Qa (Below w.heap.size w w'))
     case atStart => exact ⟨(y102), (0), eS, H', ⟨Nat.le_refl _⟩, ⟨by (with_reducible repeat (first | apply Kd.R_alloc | apply Kd.R_drewN | apply Kd.R_drew)); exact HO104.out⟩, ⟨pE HB⟩⟩
     case round =>
      clear H'; try clear c1
      try clear p1
      try clear q1
      try clear hx1
      try clear c2
      try clear c2b0
      try clear p2
      try clear c3
      try clear c3b0
      try clear c4
      try clear c4b0
      try clear c5
      try clear c5b0
      try clear p6
      try clear c7
      try clear hx101_0
      try clear p101
      try clear q101
      obtain ⟨x6_2, x27_2, rfl, HA, HK2, HO_6, HB⟩ := hrel
      cases gk with
      | zero => exact absurd HA.out (by simp [QK.l1])
      | succ k2 =>
       have H := HA.out; clear HA; simp only [QK.l1] at H; by_cases c8 : x27_2 < (l0.length : Int)
       ·rw [if_pos c8] at H
        have c8b0 : decide (x27_2 < (l0.length : Int)) = true := decide_eq_true c8; clear c8; by_cases c9 : 0 ≤ x27_2
        ·rw [if_pos c9] at H
         have c9b0 : decide (0 ≤ x27_2) = true := decide_eq_true c9; clear c9; by_cases c10 : x27_2 < (l0.length : Int)
         ·rw [if_pos c10] at H
          have c10b0 : decide (x27_2 < (l0.length : Int)) = true := decide_eq_true c10; clear c10; by_cases c11 : x6_2.length + (Jo l0 x27_2).length < 17592186044416
          ·rw [if_pos c11] at H
           have LMc11 := Qa.mk c11; clear c11; obtain ⟨y106, hy106⟩ : ∃ y_ : List Int, y_ = (x6_2 ++ (Jo l0 x27_2)) := ⟨_, rfl⟩
           replace H : (QK.l1 k2 y106 l0 (l0.length : Int) (wrap64 (x27_2 + 1))) = some r := yy hy106 H; have Ny106 := Qa.mk hy106; clear hy106; have H' := Qa.mk H; clear H; have p105 : 0 ≤ (x27_2 : Int) := dT; have q105 : x27_2 < (l0.length : Int) := dT; obtain ⟨ad105, A105_0, c105_0, e105, hx105_0, hl105_0, hi105_0⟩ := XZ HR0.out x27_2 p105 q105
           cases e105
           replace hx105_0 := cut_ HB hx105_0; have HR105_0 := Qa.mk hi105_0; have HC105_0 := Qa.mk hl105_0; clear hi105_0 hl105_0; replace p105 := eq_true p105; replace q105 := eq_true q105; go_wp2_with (first | ((with_reducible refine JA (b := .append) (xs := #[.tmp 31, .tmp 32]) rfl ?_); at_builtin; refine Kd.R_append_rows (Kd.int .i64) (w0 := w) w.heap.size rfl (.tmp 31) (.tmp 32) 24 3 (.int .i64 0) 8 rfl Try.underlying24 J5 rfl (by decide) (by omega) u6 x6_2 (Jo l0 x27_2) _ _ _ (fun _ => True) (fun _ => False) rfl rfl ?aO ?aR (fun _ _ h => h) (fun _ h => h.elim) ?aF ?aB ?aS ?aL ?_; (case aR => exact pC (Kd.C_below HR105_0.out HB.out)); (case aB => exact (pE HB)); (case aF => exact (fun _ _ => trivial)); (case aO => exact (pR HO_6.out)); (case aS => exact (Qr (pE HB))); (case aL => have := LMc11.out; omega); intro v107 w12 ho hb hg hat; rw [← Ny106.out] at ho; replace HB := Qa.mk (hb); have HO108 := Qa.mk (ho); clear HO_6; clear ho hb hg hat))
           go_roundg k2
           case measure => have := HK1.out; have := HK2.out; omega
           case rel => exact ⟨(y106), (wrap64 (x27_2 + 1)), eS, H', ⟨by have := HK1.out; have := HK2.out; omega⟩, ⟨by (with_reducible repeat (first | apply Kd.R_alloc | apply Kd.R_drewN | apply Kd.R_drew)); exact HO108.out⟩, ⟨pE HB⟩⟩
          ·rw [if_neg c11] at H
           exact absurd H (by simp)
         ·rw [if_neg c10] at H
          exact absurd H (by simp)
        ·rw [if_neg c9] at H
         exact absurd H (by simp)
       ·rw [if_neg c8] at H
        have c8b0 : decide (x27_2 < (l0.length : Int)) = false := decide_eq_false c8; clear c8; obtain rfl := Option.some.inj H; go_wp2; go_ret; exact ⟨_, eT, by (with_reducible repeat (first | apply Kd.R_alloc | apply Kd.R_drewN | apply Kd.R_drew)); exact HO_6.out, pE HB⟩
    ·rw [if_neg cg] at H
     exact absurd H (by simp)
end Go.Proofs.Ytjaapkkpmegkfaa.P
namespace Go.Proofs.Ytjaapkkpmegkfaa.P
open Go.RowKit Go.Shelf Go.Proofs.YtjaapkkpmegkfaaW.PrintWords Go.Proofs.YtjaapkkpmegkfaaW.PrintLast Go.Proofs.YtjaapkkpmegkfaaW.PrintMore Go.Proofs.Ytjaapkkpmegkfaa.R
def RvI (x : Int) (vs : Array Value) (W : World) : Prop := vs = #[.int .i64 x]
set_option maxHeartbeats 4000000 in
set_option maxRecDepth 100000 in
theorem Yo (zs : List Int) (A : Option Addr) (c n : Nat) (w : World) (B : Nat) (Ex E : Nat → Prop) (hn : 1 ≤ n)
  (hC : ∀ W', w.heap.size ≤ W'.heap.size → (∀ k, k < w.heap.size → ¬ Ex k → W'.heap[k]? = w.heap[k]?) → W'.heap[B]? = some (.cells #[.slice A zs.length c] 24 (0, 0)) ∧ Kd.C (Kd.int .i64) W' A zs.length zs) :
  X1 Fence.wide n Try.prog 80 #[.pointer (some ⟨B, 0, none⟩)] zs RvI Ex 0 E w := by
 intro l J Jx W hW hJ hJx hY h0; have hcap := hC W hW.size (fun k hk _ => hW.block k hk); have hbig : zs.length ≤ 9223372036854775807 := hcap.2.2.1; have hc0 : W.cell? ⟨B, 0, none⟩ = some (.slice A zs.length c) := (Qb hcap.1 0).trans rfl; have HC := Qa.mk hC; have HJ := Qa.mk hJ; have HY := Qa.mk hY; have HW := Qa.mk hW; clear hC hJ hJx hY hcap hW; refine callsIn_of_wp Try.func80 rfl trivial ?_ rfl; simp only [Try.ntmps80, List.size_toArray, List.length_cons, List.length_nil, Nat.reduceAdd, Nat.reduceSub, Array.replicate_succ, Array.replicate_zero, List.push_toArray, List.append_toArray, List.nil_append, List.cons_append]
 gi_wp2
 gi_loopw [7] (fun i wr => ∃ k : Nat, k ≤ zs.length ∧ i = .int .i64 k ∧ J k wr ∧ Qa (W.heap.size ≤ wr.heap.size) ∧ Qa (∀ j, j < w.heap.size → ¬ Ex j → wr.heap[j]? = W.heap[j]?))
  (fun i _ => zs.length - (intOf i).toNat)
 case atStart => exact ⟨0, Nat.zero_le _, rfl, h0, ⟨Nat.le_refl _⟩, ⟨fun _ _ _ => rfl⟩⟩
 case round =>
  obtain ⟨k, hk, rfl, hJs, HS, HK⟩ := hrel; by_cases hlt : k < zs.length
  ·have hread := (HC.out wr (Nat.le_trans HW.out.size HS.out) (fun j hj hx => (HK.out j hj hx).trans (HW.out.block j hj))).2
   obtain ⟨ad, rfl, hcell⟩ := Kd.at_int hread (k : Int) (by omega) (by omega); rw [Int.toNat_natCast] at hcell; have hrd : rd zs (k : Int) = zs[k] := by simp [rd, List.getD_eq_getElem?_getD, List.getElem?_eq_getElem hlt]
   rw [hrd] at hcell; obtain ⟨fn, tmps, assign, body, hy, hR⟩ := HY.out k zs[k] #[.int .i64 zs[k]] wr (List.getElem?_eq_getElem hlt) hJs rfl HS.out; have HR := Qa.mk hR; clear hread hrd hR hc0 hJs h0; generalize zs[k] = x at hcell hy HR
   gi_wp2
   refine HR.out.mono ?_; rintro e W3 (⟨rfl, hJ3, hk3⟩ | ⟨rfl, hJx3, hk3⟩)
   ·have H3 := Qa.mk hk3
    clear hk3
    gi_wp2
    go_roundw
    case rel =>
     exact ⟨k + 1, by omega, by simp, hJ3, ⟨Nat.le_trans HS.out H3.out.size⟩, ⟨fun j hj hx => (H3.out.same j (Nat.lt_of_lt_of_le hj (Nat.le_trans HW.out.size HS.out)) (.inl ⟨hj, hx⟩)).trans (HK.out j hj hx)⟩⟩
    case measure => simp [intOf]; omega
   ·clear hk3
    gi_wp2
    refine bodyPost_ret (results_none rfl _ _ _) rfl ?_; exact ⟨⟨_, rfl⟩, .inr ⟨_, by omega, hJx3⟩⟩
  ·obtain rfl : k = zs.length := by omega
   gi_wp2
   go_end0
   exact ⟨⟨_, rfl⟩, .inl hJs⟩
set_option maxHeartbeats 1000000 in
theorem Zj (A : Option Addr) (n c : Nat) (w : World) : Calls Try.prog 69 #[.slice A n c] w fun e w' => e = .returned (.func (.func 80) #[] #[.pointer (some ⟨w.heap.size, 0, none⟩)]) ∧ w' = w.alloc (.cells #[.slice A n c] 24) := by
 go_enter Try.func69, Try.ntmps69; go_wp2; go_ret; exact ⟨rfl, rfl⟩
theorem X8 {n0 gb B0 B : Nat} {W W1 : World} {v u : Value} {cs : Array Value} {t : TypeId} (hcs : W.heap[gb]? = some (.cells cs t (0, 0))) (hg : W.grownBy W1 v.ownBlock) (hv : ∀ k, v.ownBlock = some k → n0 ≤ k ∧ ∃ cells, W.heap[k]? = some (.cells cells 3 (0, 0))) :
  ZR n0 (fun k => k = gb) B0 B (fun _ => False) W (W1.setCell ⟨gb, 0, none⟩ u) := by
 have hsame : ∀ k, k < W.heap.size → k ≠ gb → v.ownBlock ≠ some k → (W1.setCell ⟨gb, 0, none⟩ u).heap[k]? = W.heap[k]? := fun k hk h1 h2 => (Below.heap_setCell W1 ⟨gb, 0, none⟩ u k h1).trans (hg.block k hk (fun e => h2 e.symm))
 have hsz : W.heap.size ≤ (W1.setCell ⟨gb, 0, none⟩ u).heap.size := by simpa [World.setCell] using hg.size
 have hbk : ∀ (k : Nat) (o : Obj), W.heap[k]? = some o → o.isCells = false → (W1.setCell ⟨gb, 0, none⟩ u).heap[k]? = some o := fun k o ho hc =>
  (hsame k (Array.getElem?_eq_some_iff.1 ho).1 (fun e => by subst e; rw [hcs] at ho; cases ho; cases hc) (fun e => by obtain ⟨cells, h⟩ := (hv k e).2; rw [h] at ho; cases ho; cases hc)).trans ho
 refine ⟨fun k o _ ho hc => hbk k o ho hc, hsz, fun k hk h1 => ?_, fun k o _ ho hc => hbk k o ho hc⟩
 rcases h1 with ⟨h1, h2⟩ | ⟨_, h2⟩
 ·exact hsame k hk h2 (fun e => by have := (hv k e).1; omega)
 ·exact h2.elim
set_option maxHeartbeats 16000000 in
set_option maxRecDepth 100000 in
theorem XG (zs : List Int) (A : Option Addr) (c B : Nat) (w : World) (hB : w.heap[B]? = some (.cells #[.slice A zs.length c] 24 (0, 0))) (hr : Kd.C (Kd.int .i64) w A zs.length zs) (hlen : zs.length ≤ 1000000) :
  Calls Try.prog 83 #[.slice none 0 0, .func (.func 80) #[] #[.pointer (some ⟨B, 0, none⟩)]] w fun e w' => ∃ v, e = .returned v ∧ Kd.R (Kd.int .i64) 3 w' w.heap.size (fun _ => True) v zs ∧ Below w.heap.size w w' := by
 refine (callsIn_wide (n := 5)).1 (callsIn_of_wp_marks Try.func83 rfl trivial ?_ rfl); simp only [Try.ntmps83, List.size_toArray, List.length_cons, List.length_nil, Nat.reduceAdd, Nat.reduceSub, Array.replicate_succ, Array.replicate_zero, List.push_toArray, List.append_toArray, List.nil_append, List.cons_append]; have Ab := Qa.mk hB; have Ar := Qa.mk hr; have Al := Qa.mk hlen; clear hB hr hlen
 go_wp2_with (first
  | ((with_reducible refine gd 2 ?_); refine Jl ?hg (N := 2) ?hd (cs := #[.slice none 0 0]) (t := 24) ?hr ?_; (case hd => rfl); (case hg => rfl); (case hr => first | (go_simp; done) | (go_simp; rfl)); intro gb102 hg2 w2 hx2 hb2; have HG2 := Qa.mk hg2; clear hg2)
  | (with_reducible refine JN ?_) | gi_step)
 have hs2 := hb2.size; have g2 := HG2.out; have hgl := (Array.getElem?_eq_some_iff.1 hx2).1; have hBl := (Array.getElem?_eq_some_iff.1 Ab.out).1
 have hseq := Yo zs A c 4 w2 B (fun k => k = gb102) (fun _ => False) (by omega) (by
  intro W' hsz hsame; refine ⟨(hsame _ (by omega) (by omega)).trans ((hb2.block _ (by omega)).trans Ab.out), ?_⟩; exact Kd.C_F (Kd.heap_int _) Ar.out W' (fun k hk _ => (hsame k (by omega) (by omega)).trans (hb2.block k hk)))
 refine ZW (xs := zs) (Rv := RvI) (Ex := fun k => k = gb102) (c := 0) (E := fun _ => False) (w0 := w2) rfl (fun h0 => by cases h0) (gf := 80) rfl trivial (fun args w => Zt Try.func80 (by kernel_rfl) rfl args w) hseq (Below.refl _ _) (fun x vs W h => by subst h; rfl)
  (fun i W' => ∃ v, W'.heap[gb102]? = some (.cells #[v] 24 (0, 0)) ∧ Kd.R (Kd.int .i64) 3 W' w2.heap.size (fun _ => True) v (zs.take i) ∧ Below w.heap.size w W')
  (fun _ _ _ => False) ?hI (fun _ _ _ _ h _ => h) ⟨.slice none 0 0, hx2, Kd.R_nil _ _ _ _ _, QV (Below.refl _ _) hb2⟩
  (fun i x a' W' => a' = { tmps := #[.slice none 0 0, .func (.func 80) #[] #[.pointer (some ⟨B, 0, none⟩)], .pointer (some ⟨gb102, 0, none⟩), undef, .slice none 0 0, .int .i64 x, .func (.func 80) #[] #[.pointer (some ⟨B, 0, none⟩)], .int .i64 x, undef, undef, undef, undef, undef], defers := [] } ∧ ∃ v, W'.heap[gb102]? = some (.cells #[v] 24 (0, 0)) ∧ Kd.R (Kd.int .i64) 3 W' w2.heap.size (fun _ => True) v (zs.take i) ∧ Below w.heap.size w W')
  ?hAx ?assign ?body ?done (fun _ _ _ _ _ _ h => h.elim)
 case hI =>
  rintro i X Y ⟨v, h1, h2, h3⟩ hs; exact ⟨v, hs.same _ _ h1 (by omega) (fun _ => rfl), ZK h2 hs, Ze h3 (Nat.le_refl _) hs (by omega)⟩
 case hAx =>
  rintro i x a' _ X Y ⟨ha, v, h1, h2, h3⟩ hs; exact ⟨ha, v, hs.same _ _ h1 (by omega) (fun _ => rfl), ZK h2 hs, Ze h3 (Nat.le_refl _) hs (by omega)⟩
 case assign =>
  rintro l' i x vs W' K hx hi rfl hsz hK; simp only [List.zip_toArray, List.zip_cons_cons, List.zip_nil_right, List.zip_nil_left, List.size_toArray, List.foldl_toArray', List.foldl_cons, List.foldl_nil, List.setIfInBounds_toArray, List.set_cons_zero, List.set_cons_succ, List.length_cons, List.length_nil]; clear hseq; have Hi := Qa.mk hi; clear hi hx2 g2; go_wp2_with (first | ((with_reducible refine JC ?hnd ?hlo ?_); (case hnd => kernel_rfl); (case hlo => rintro ⟨_, _, h⟩; exact h)) | gi_step); exact hK _ _ (Below.refl _ _) ⟨rfl, Hi.out⟩
 case body =>
  rintro l' i x a' W' hl' hloop hx ⟨rfl, v, h1, h2, h3⟩ hsz; obtain ⟨hlt, hxe⟩ := List.getElem?_eq_some_iff.1 hx; have hsn : zs.take i ++ [x] = zs.take (i + 1) := by rw [← hxe, List.take_succ_eq_append_getElem hlt]
  have hll : (zs.take i).length ≤ 1000000 := by have := Al.out; have := List.length_take_le i zs; omega
  obtain ⟨A2, c2, rfl⟩ := Kd.R_slice h2; have hty := Kd.R_bound h2; have hRt := Kd.R_types h2 h1 (by decide); have hne := Kd.R_ne h2 h1 (by decide); have hbase := Kd.R_base h2; have hc : W'.cell? ⟨gb102, 0, none⟩ = some (.slice A2 (zs.take i).length c2) := (Qb h1 0).trans rfl; have Hsn := Qa.mk hsn; have Hll := Qa.mk hll; have Hrt := Qa.mk hRt; have Hty := Qa.mk hty; have Hne := Qa.mk hne; have Hba := Qa.mk hbase; have H1 := Qa.mk h1; have H3 := Qa.mk h3; have Hsz := Qa.mk hsz; clear hsn hll hRt hty hne hbase h1 h2 h3 hsz hx hxe hseq hloop hlt hx2 g2 hl'; generalize zs.take i = ys at *
  go_wp2_with (first
   | ((with_reducible refine JC ?hnd ?hlo ?_); (case hnd => kernel_rfl); (case hlo => rintro ⟨_, _, h⟩; exact h))
   | ((with_reducible refine JA (b := .append) (xs := #[.tmp 8, .tmp 10]) rfl ?_); at_builtin; refine Kd.R_append (Kd.int .i64) (w0 := W') w2.heap.size rfl (.tmp 8) (.tmp 10) 24 3 (.int .i64 0) 8 rfl Try.underlying24 J5 rfl (by decide) (by omega) (.slice A2 ys.length c2) ys x [.int .i64 x] (fun k_ => True ∧ k_ ≠ gb102) (fun _ => False) rfl (by first | (go_simp; done) | (go_simp; rfl)) ?aP (fun _ hk => hk.elim) ?aF ?aO ?aB ?aS ?aL ?_; (case aP => exact rfl); (case aB => exact ⟨rfl, rfl, rfl, Nat.le_refl _, fun _ _ => rfl⟩); (case aF => exact (fun k_ hk => ⟨trivial, by have := Hsz.out; omega⟩)); (case aO => exact Hrt.out); (case aS => have := Hsz.out; omega); (case aL => have := Hll.out; omega); intro v1 w3 ho hb hg hat; have ho3 := Qa.mk ho; have hb3 := Qa.mk hb; have hg3 := Qa.mk hg; have h13 := Qa.mk (Ja H1.out hg Hne.out); have hc3 : w3.cell? ⟨gb102, 0, none⟩ = some (.slice A2 ys.length c2) := (Qb h13.out 0).trans rfl; have hf3 := Qq h13.out 0; obtain ⟨A3, c3, rfl⟩ := Kd.R_slice ho; clear ho hb hg hat hc)
   | gi_step)
  refine ⟨X8 (v := .slice A2 ys.length c2) H1.out hg3.out (fun k e => ⟨Hba.out k e, ?_⟩), _, Qg (cs := #[.slice A2 ys.length c2]) h13.out 0 _ rfl, ?_, ?_⟩
  ·obtain ⟨_, _, _, q, hq, cells, hcl⟩ := Hty.out.1 k e
   have hq3 : q = 3 := by
    rcases List.mem_cons.1 hq with h | h
    ·exact h
    ·exact absurd (show q ∈ ([] : List Nat) from h) (by simp)
   subst hq3; exact ⟨cells, hcl⟩
  ·rw [← Hsn.out]
   exact Kd.R_mono (Kd.R_far (p := ⟨gb102, 0, none⟩) (show Kd.R (Kd.int .i64) 3 w3 w2.heap.size (fun k_ => True ∧ k_ ≠ gb102) (.slice A3 (ys.length + 1) c3) (ys ++ [x]) from by have h_ := ho3.out; rw [List.length_append] at h_; exact h_) (fun k hk => hk.2) _) (fun _ _ => trivial)
  ·exact (H3.out.trans (hb3.out.mono (by omega))).setCell (p := ⟨gb102, 0, none⟩) (by show w.heap.size ≤ gb102; have := HG2.out; omega) _
 case done =>
  rintro D W' hD ⟨v, h1, h2, h3⟩ hmk; rw [List.take_length] at h2; obtain ⟨A2, c2, rfl⟩ := Kd.R_slice h2; have hc : W'.cell? ⟨gb102, 0, none⟩ = some (.slice A2 zs.length c2) := (Qb h1 0).trans rfl; have H2 := Qa.mk h2; have H3 := Qa.mk h3; have HD := Qa.mk hD; have HM := Qa.mk hmk; clear hseq h1 h2 h3 hmk hD hx2 g2; simp only [Exit.inBlock, Exit.then, Act.put, List.setIfInBounds_toArray, List.set_cons_zero, List.set_cons_succ]; go_wp2_with (first | (with_reducible refine JN ?_) | gi_step); refine JQ.leaves (lo := w2.heap.size) (Ds := [D]) (.cons (show W'.heap[D]? = _ from HM.out) HD.out (fun E hE => by cases hE) (.nil _)) fun W2 hs => ⟨.slice A2 zs.length c2, ?res, _, rfl, Kd.R_lower (ZK H2.out hs) (by omega), Ze H3.out (Nat.le_refl _) hs (by omega)⟩
  have hr : Try.f83.results = #[.tmp 4] := rfl; unfold results; rw [hr]
  simp [go_sem]
set_option maxHeartbeats 1000000 in
theorem XV (zs : List Int) (A : Option Addr) (c B : Nat) (w : World) (hB : w.heap[B]? = some (.cells #[.slice A zs.length c] 24 (0, 0))) (hr : Kd.C (Kd.int .i64) w A zs.length zs) (hlen : zs.length ≤ 1000000) :
  Calls Try.prog 78 #[.func (.func 80) #[] #[.pointer (some ⟨B, 0, none⟩)]] w fun e w' => ∃ v, e = .returned v ∧ Kd.R (Kd.int .i64) 3 w' w.heap.size (fun _ => True) v zs ∧ Below w.heap.size w w' := by
 have H := Qa.mk (XG zs A c B w hB hr hlen); clear hB hr hlen; go_enter Try.func78, Try.ntmps78; go_wp2_with (first | (go_at_call 83; refine H.out.mono ?_; rintro e w' ⟨v, rfl, h1, h2⟩; have H1 := Qa.mk h1; have H2 := Qa.mk h2; clear h1 h2)); go_ret; exact ⟨_, rfl, H1.out, H2.out⟩
end Go.Proofs.Ytjaapkkpmegkfaa.P
namespace Go.Proofs
open Go.Shelf
def Try.sortA_ren : Go.Shelf.Ren := ⟨fun | 5 => 79 | 8 => 85 | 7 => 84 | 19 => 95 | 20 => 96 | 10 => 86 | 11 => 87 | 12 => 88 | 13 => 89 | 14 => 90 | 15 => 91 | 16 => 92 | 17 => 93 | 18 => 94 | 30 => 97 | 31 => 98 | 32 => 99 | 33 => 100 | 34 => 101 | 35 => 102 | 40 => 103 | n => n, fun | 23 => 24 | 25 => 3 | 3 => 3 | 32 => 107 | 22 => 24 | 0 => 0 | 44 => 135 | 46 => 137 | 4 => 4 | 36 => 127 | 35 => 126 | 41 => 132 | 5 => 5 | 9 => 9 | 53 => 138 | 57 => 142 | 63 => 144 | 64 => 145 | n => n, fun | n => n⟩
theorem Try.sortA : Go.Proofs.SlLaysM.n5 Try.prog Try.sortA_ren := {
 mixed := by kernel_rfl
 f5 := ⟨Try.f79.name, by decide, Try.func79.trans (congrArg some (by kernel_rfl))⟩
 f7 := ⟨Try.f84.name, by decide, Try.func84.trans (congrArg some (by kernel_rfl))⟩
 f8 := Try.func85.trans (congrArg some (by kernel_rfl))
 f10 := ⟨Try.f86.name, by decide, Try.func86.trans (congrArg some (by kernel_rfl))⟩
 f11 := ⟨Try.f87.name, by decide, Try.func87.trans (congrArg some (by kernel_rfl))⟩
 f12 := ⟨Try.f88.name, by decide, Try.func88.trans (congrArg some (by kernel_rfl))⟩
 f13 := ⟨Try.f89.name, by decide, Try.func89.trans (congrArg some (by kernel_rfl))⟩
 f14 := ⟨Try.f90.name, by decide, Try.func90.trans (congrArg some (by kernel_rfl))⟩
 f15 := ⟨Try.f91.name, by decide, Try.func91.trans (congrArg some (by kernel_rfl))⟩
 f16 := ⟨Try.f92.name, by decide, Try.func92.trans (congrArg some (by kernel_rfl))⟩
 f17 := ⟨Try.f93.name, by decide, Try.func93.trans (congrArg some (by kernel_rfl))⟩
 f18 := ⟨Try.f94.name, by decide, Try.func94.trans (congrArg some (by kernel_rfl))⟩
 f19 := Try.func95.trans (congrArg some (by kernel_rfl))
 f20 := Try.func96.trans (congrArg some (by kernel_rfl))
 f30 := ⟨Try.f97.name, by decide, Try.func97.trans (congrArg some (by kernel_rfl))⟩
 f31 := Try.func98.trans (congrArg some (by kernel_rfl))
 f32 := Try.func99.trans (congrArg some (by kernel_rfl))
 f33 := ⟨Try.f100.name, by decide, Try.func100.trans (congrArg some (by kernel_rfl))⟩
 f34 := ⟨Try.f101.name, by decide, Try.func101.trans (congrArg some (by kernel_rfl))⟩
 f35 := ⟨Try.f102.name, by decide, Try.func102.trans (congrArg some (by kernel_rfl))⟩
 f40 := ⟨Try.f103.name, by decide, Try.func103.trans (congrArg some (by kernel_rfl))⟩
 t0 := Try.underlying0
 a0 := Try.isAgg0
 z0 := Try.sizeOf0
 v0 := Try.zeroValue0
 t3 := Try.underlying3
 a3 := Try.isAgg3
 z3 := Try.sizeOf3
 v3 := Try.zeroValue3
 t4 := Try.underlying4
 a4 := Try.isAgg4
 z4 := Try.sizeOf4
 v4 := Try.zeroValue4
 t5 := Try.underlying5
 a5 := Try.isAgg5
 z5 := Try.sizeOf5
 v5 := Try.zeroValue5
 t9 := Try.underlying9
 a9 := Try.isAgg9
 z9 := Try.sizeOf9
 v9 := Try.zeroValue9
 t22 := Try.underlying24
 a22 := Try.isAgg24
 z22 := Try.sizeOf24
 v22 := Try.zeroValue24
 t23 := Try.underlying24
 a23 := Try.isAgg24
 z23 := Try.sizeOf24
 v23 := Try.zeroValue24
 t25 := Try.underlying3
 a25 := Try.isAgg3
 z25 := Try.sizeOf3
 v25 := Try.zeroValue3
 t32 := Try.underlying107
 a32 := Try.isAgg107
 z32 := Try.sizeOf107
 v32 := Try.zeroValue107
 t35 := Try.underlying126
 a35 := Try.isAgg126
 z35 := Try.sizeOf126
 v35 := Try.zeroValue126
 t36 := Try.underlying127
 a36 := Try.isAgg127
 z36 := Try.sizeOf127
 v36 := Try.zeroValue127
 t41 := Try.underlying132
 a41 := Try.isAgg132
 z41 := Try.sizeOf132
 v41 := Try.zeroValue132
 t44 := Try.underlying135
 a44 := Try.isAgg135
 z44 := Try.sizeOf135
 v44 := Try.zeroValue135
 t46 := Try.underlying137
 a46 := Try.isAgg137
 z46 := Try.sizeOf137
 v46 := Try.zeroValue137
 t53 := Try.underlying138
 a53 := Try.isAgg138
 z53 := Try.sizeOf138
 v53 := Try.zeroValue138
 t57 := Try.underlying142
 a57 := Try.isAgg142
 z57 := Try.sizeOf142
 v57 := Try.zeroValue142
 t63 := Try.underlying144
 a63 := Try.isAgg144
 z63 := Try.sizeOf144
 v63 := Try.zeroValue144
 t64 := Try.underlying145
 a64 := Try.isAgg145
 z64 := Try.sizeOf145
 v64 := Try.zeroValue145 }
def Try.compactA_ren : Go.Shelf.Ren := ⟨fun | 20 => 70 | n => n, fun | 22 => 24 | 3 => 3 | 4 => 4 | 0 => 0 | n => n, fun | n => n⟩
theorem Try.compactA : Go.Proofs.Lays2.n20 Try.prog Try.compactA_ren := {
 mixed := by kernel_rfl
 f20 := Try.func70.trans (congrArg some (by kernel_rfl))
 t0 := Try.underlying0
 a0 := Try.isAgg0
 z0 := Try.sizeOf0
 v0 := Try.zeroValue0
 t3 := Try.underlying3
 a3 := Try.isAgg3
 z3 := Try.sizeOf3
 v3 := Try.zeroValue3
 t4 := Try.underlying4
 a4 := Try.isAgg4
 z4 := Try.sizeOf4
 v4 := Try.zeroValue4
 t22 := Try.underlying24
 a22 := Try.isAgg24
 z22 := Try.sizeOf24
 v22 := Try.zeroValue24
 i3 := by kernel_rfl }
end Go.Proofs
namespace Go.Proofs.Ytjaapkkpmegkfaa.P
open Go.RowKit Go.Shelf Go.Sort Go.Proofs.YtjaapkkpmegkfaaW.PrintWords Go.Proofs.YtjaapkkpmegkfaaW.PrintLast Go.Proofs.YtjaapkkpmegkfaaW.PrintMore Go.Proofs.Ytjaapkkpmegkfaa.R
def srt (l : List Int) : List Int := l.mergeSort fun x y => decide (x ≤ y)
theorem Zq (l : List Int) : (srt l).length = l.length := by simp [srt]
theorem Yw {w : World} {base : Nat} {ok : Nat → Prop} {v : Value} {xs : List Int} (h : Kd.R (Kd.int .i64) 3 w base ok v xs) :
  (v = .slice none 0 0 ∧ xs = []) ∨ ∃ g cap cur, v = .slice (some ⟨g, 0, none⟩) xs.length cap ∧ base ≤ g ∧ w.heap[g]? = some (.cells cur 3 (0, 0)) ∧ xs.length ≤ cap ∧ cap ≤ maxLen ∧ cur.size = cap * 1 ∧ cur.toList.take xs.length = xs.map encZ := by
 have ho := Kd.own_of_R h
 rcases Xg ho with ⟨h1, h2, h3⟩ | ⟨g, c, cells, h1, h2, h3, h4, h5, h6, h7⟩
 ·exact .inl ⟨h1, List.eq_nil_of_length_eq_zero h2⟩
 ·exact .inr ⟨g, c, cells, h1, h2, h3, h4, h5, h6, by have e : (encs (Value.int .i64) xs).length = xs.length := ZV _; rw [e] at h7; exact h7⟩
set_option maxHeartbeats 2000000 in
theorem YN {W : World} {base : Nat} {v : Value} {xs : List Int} (h : Kd.R (Kd.int .i64) 3 W base (fun _ => True) v xs) (hlen : xs.length ≤ 1000000) :
  Calls Try.prog 79 #[v] W fun e w' => e = .returned (.tuple #[]) ∧ Kd.R (Kd.int .i64) 3 w' base (fun _ => True) v (srt xs) ∧ W.grownBy w' v.ownBlock := by
 rcases Yw h with ⟨rfl, rfl⟩ | ⟨g, cap, cur, rfl, hb, hg, h1, h2, h3, h4⟩
 ·refine (AnyM.slices_Sort_int_none Try.sortA none 0 W).mono ?_
  rintro e w' ⟨rfl, rfl⟩; exact ⟨rfl, by simpa [srt] using h, World.grownBy.refl _ _⟩
 ·have hH : Holds encZ W g 0 xs.toArray := holds_of_block_i hg h4
  refine (AnyM.slices_Sort_int Try.sortA g 0 cap xs W hH (Array.getElem?_eq_some_iff.1 hg).1 (by omega)).mono ?_; rintro e w' ⟨rfl, n, os, rfl⟩; refine ⟨rfl, ?_, grownBy_sorted_i _⟩; have ho := ownsRow_sorted_i (n := n) (os := os) (ts := srt xs) (Zq xs) hb hg h1 h2 h3; have hl := Zq xs; refine Kd.R_of_own (h1 := fun _ => rfl) (enc := Value.int .i64) (xs := srt xs) ?_ (fun _ _ => trivial); rw [hl]; exact ho
set_option maxHeartbeats 2000000 in
theorem Zi (zs : List Int) (A : Option Addr) (c B : Nat) (w : World) (hB : w.heap[B]? = some (.cells #[.slice A zs.length c] 24 (0, 0))) (hr : Kd.C (Kd.int .i64) w A zs.length zs) (hlen : zs.length ≤ 1000000) :
  Calls Try.prog 68 #[.func (.func 80) #[] #[.pointer (some ⟨B, 0, none⟩)]] w fun e w' => ∃ v, e = .returned v ∧ Kd.R (Kd.int .i64) 3 w' w.heap.size (fun _ => True) v (srt zs) ∧ Below w.heap.size w w' := by
 have H := Qa.mk (XV zs A c B w hB hr hlen); have HL := Qa.mk hlen; clear hB hr hlen; go_enter Try.func68, Try.ntmps68
 go_wp2_with (first
  | (go_at_call 78; refine H.out.mono ?_; rintro e w1 ⟨v, rfl, h1, h2⟩; have H1 := Qa.mk h1; have H2 := Qa.mk h2; clear h1 h2)
  | (go_at_call 79; refine (YN H1.out HL.out).mono ?_; rintro e w2 ⟨rfl, h3, h4⟩; have H3 := Qa.mk h3; have H4 := Qa.mk h4; clear h3 h4))
 go_ret; exact ⟨_, rfl, H3.out, H2.out.grown H4.out H2.out.size (Kd.R_base H1.out)⟩
set_option maxHeartbeats 2000000 in
theorem Xa {W : World} {base : Nat} {ok : Nat → Prop} {v : Value} {xs : List Int} (h : Kd.R (Kd.int .i64) 3 W base ok v xs) (hlen : xs.length ≤ 1000000) :
  Calls Try.prog 70 #[v] W fun e w' => ∃ A c, e = .returned (.slice A (Lib.compact xs).length c) ∧ W.grownBy w' v.ownBlock := by
 rcases Yw h with ⟨rfl, rfl⟩ | ⟨g, cap, cur, rfl, hb, hg, h1, h2, h3, h4⟩
 ·refine (Any.slices_Compact_int_empty Try.compactA none 0 W).mono ?_
  rintro e w' ⟨rfl, rfl⟩; exact ⟨none, 0, rfl, World.grownBy.refl _ _⟩
 ·have hH : Holds (Value.int .i64) W g 0 xs.toArray := holds_of_block_i hg h4
  refine (Any.slices_Compact_int Try.compactA g 0 cap xs W hH (by omega) h1).mono ?_; rintro e w' ⟨rfl, q, rfl⟩; have hgb := grownBy_sorted_i (w := W) (g := g) (n := q) (os := #[]) (Lib.compact xs ++ List.replicate (xs.length - (Lib.compact xs).length) 0).toArray; refine ⟨_, _, rfl, ?_⟩; have e : ∀ w2 : World, grow w2 #[] = w2 := fun w2 => by cases w2; simp [grow]
  rw [e] at hgb; exact hgb
end Go.Proofs.Ytjaapkkpmegkfaa.P
