/- Part 7 of what the law's proof needs beyond its base: words, walks of functions and plain facts. -/
import Derived.Test.YtjaapkkpmegkfaaGreatL06
set_option linter.unusedVariables false
set_option linter.unusedSimpArgs false
namespace Go.Proofs.YtjaapkkpmegkfaaGreat.P
open Go.RowKit Go.Proofs.YtjaapkkpmegkfaaGreatW.PrintWords Go.Proofs.YtjaapkkpmegkfaaGreatW.PrintLast Go.Proofs.YtjaapkkpmegkfaaGreatW.PrintMore
attribute [local go_sem] JG JH JY JX Jv Ju JJ JK
mutual
def Qao.l0 : Nat → Int → List S75 → Int → Int → Option Bool
 | 0, _, _, _, _ => none
 | k + 1, x0, x1, x2, x7 => if x7 < (x1.length : Int) then (if 0 ≤ x7 then (if (((Ql x1 x7).f0).length : Int) > 20 then ((Qd.f k).bind fun t103 => (some t103)) else (if (((Ql x1 x7).f1).length : Int) > 20 then ((Qd.f k).bind fun t105 => (some t105)) else (Qao.l0 k x0 x1 x2 (wrap64 (x7 + 1))))) else (none)) else ((Qav.f k x1).bind fun t106 => ((Qs.f k x0 t106 x2).bind fun bt109 => ((QT.f k x0 t106).bind fun bt113 => (Qao.l1 k x0 x1 x2 t106 bt109.1 bt109.2 bt113.1 bt113.2 0))))
def Qao.l1 : Nat → Int → List S75 → Int → List S75 → List Int → Int → Int → Int → Int → Option Bool
 | 0, _, _, _, _, _, _, _, _, _ => none
 | k + 1, x0, x1, x2, x8, x9, x10, x11, x12, x13 => if x13 < (x1.length : Int) then (if (x8.length : Int) = (x1.length : Int) then (if 0 ≤ x13 then (if x13 < (x8.length : Int) then ((Qm.f k ((Ql x8 x13).f0) ((Ql x1 x13).f0)).bind fun t117 => (if t117 = true then ((Qm.f k ((Ql x8 x13).f1) ((Ql x1 x13).f1)).bind fun t120 => (if t120 = true then (if ((Ql x8 x13).f2) = ((Ql x1 x13).f2) then (Qao.l1 k x0 x1 x2 x8 x9 x10 x11 x12 (wrap64 (x13 + 1))) else (some false)) else (some false))) else (some false))) else (none)) else (none)) else (some false)) else ((Qau.f k x0 x1 x2).bind fun t123 => (if t123 = 0 then ((Qar.f k x0 x1 x2).bind fun t127 => (if (t127.length : Int) = 0 then (Qao.j2 k x0 x1 x9 x10 x11 x12 9 t127) else (Qao.j2 k x0 x1 x9 x10 x11 x12 t123 t127))) else (Qao.j2 k x0 x1 x9 x10 x11 x12 t123 (([] : List Int)))))
def Qao.j2 : Nat → Int → List S75 → List Int → Int → Int → Int → Int → List Int → Option Bool
 | 0, _, _, _, _, _, _, _, _ => none
 | k + 1, x0, x1, x9, x10, x11, x12, x14, x15 => if x10 = x14 then (if x14 = 0 then ((Qm.f k x9 x15).bind fun t130 => (Qao.j3 k x0 x1 x11 x12 (!t130))) else (if (x9.length : Int) = 0 then (Qao.j3 k x0 x1 x11 x12 false) else (Qao.j3 k x0 x1 x11 x12 true))) else (Qao.j3 k x0 x1 x11 x12 true)
def Qao.j3 : Nat → Int → List S75 → Int → Int → Bool → Option Bool
 | 0, _, _, _, _, _ => none
 | k + 1, x0, x1, x11, x12, x145 => if x145 = true then (some false) else ((Qau.f k x0 x1 0).bind fun t134 => (if t134 = 0 then ((Qar.f k x0 x1 0).bind fun t135 => (if (t135.length : Int) = 0 then (Qao.j4 k x0 x11 x12 9 t135) else (Qao.j4 k x0 x11 x12 t134 t135))) else (Qao.j4 k x0 x11 x12 t134 (([] : List Int)))))
def Qao.j4 : Nat → Int → Int → Int → Int → List Int → Option Bool
 | 0, _, _, _, _, _ => none
 | k + 1, x0, x11, x12, x14, x15 => if x14 = 0 then (if x12 = 0 then ((Qap.f k (x15.length : Int) (wrap64 (x0 - (x15.length : Int)))).bind fun t138 => (if x11 = t138 then ((Qd.f k).bind fun t139 => (some t139)) else (some false))) else (some false)) else (if x12 = x14 then (if x11 = 0 then ((Qd.f k).bind fun t140 => (some t140)) else (some false)) else (some false))
end
def Qao.f (k : Nat) (a0 : Int) (l1 : List S75) (a2 : Int) : Option Bool := if (l1.length : Int) > 20 then ((Qd.f k).bind fun t101 => (some t101)) else (Qao.l0 k a0 l1 a2 0)
theorem Qao.dead_j3 : ∀ k y0 y1 y2 y3 r, Qao.j3 k y0 y1 y2 y3 true = some r → r = true → False := by
 intro k y0 y1 y2 y3 r h hr
 cases k with
 | zero => simp [Qao.j3] at h
 | succ k => exact absurd ((Option.some.inj (show (some false : Option Bool) = some r from h)).trans hr) (by simp)
def Qao.T14 : Bool × List (List Nat × List Nat) := (true, [([], []), ([0], [0]), ([], []), ([2], [2]), ([1, 3], [1, 3]), ([4], [4]), ([5], [5]), ([5], [5]), ([6, 7, 5], [5, 6, 7]), ([8, 5], [5, 8]), ([9, 5], [5, 9]), ([5], [5]), ([5], [5]), ([11, 12, 5], [5, 11, 12]), ([13, 5], [5, 13]), ([14, 5], [5, 14]), ([10, 15, 5, 5], [5, 10, 15]), ([16, 5], [5, 16]), ([5, 17], [5, 17]), ([18, 16], [18]), ([19], [19]), ([19], [19]), ([20, 21, 19], [19, 20, 21]), ([22, 19], [19, 22]), ([23, 19], [19, 23]), ([19], [19]), ([19], [19]), ([25, 26, 19], [19, 25, 26]), ([27, 19], [19, 27]), ([28, 19], [19, 28]), ([24, 29, 19, 19], [19, 24, 29]), ([30, 19], [19, 30]), ([19, 31], [19, 31]), ([32, 30], [32]), ([33], [33]), ([33], [33]), ([34, 35, 33], [33, 34, 35]), ([36, 33], [33, 36]), ([37, 33], [33, 37]), ([33], [33]), ([33], [33]), ([39, 40, 33], [33, 39, 40]), ([41, 33], [33, 41]), ([42, 33], [33, 42]), ([38, 43, 33], [33, 38, 43]), ([33, 44], [33, 44])])
def Qao.B14 : List Nat := [0, 1, 0, 4, 15, 31, 63, 63, 255, 511, 1023, 63, 63, 6207, 14399, 30783, 65535, 131071, 262143, 524287, 1048575, 1048575, 4194303, 8388607, 16777215, 1048575, 1048575, 101711871, 235929599, 504365055, 1073741823, 2147483647, 4294967295, 8589934591, 17179869183, 17179869183, 68719476735, 137438953471, 274877906943, 17179869183, 17179869183, 1666447310847, 3865470566399, 8263517077503, 17592186044415, 35184372088831]
theorem Qao.tab14 : rtab .any (ZG Tryz.f8 14) = Qao.T14 := by kernel_rfl
theorem Qao.bits14 : J0 Qao.T14.2 Qao.B14 = true := by kernel_rfl
set_option maxHeartbeats 8000000 in
set_option maxRecDepth 100000 in
theorem Qao.calls_true (k : Nat) (a0 : Int) (A1 : Option Addr) (c1 : Nat) (l1 : List S75) (a2 : Int) (r : Bool) (w : World) (hr1 : Kd.C k75 w A1 l1.length l1) (hc1 : l1.length ≤ c1) (hrt : r = true) (h : Qao.f k a0 l1 a2 = some r) :
  Calls Tryz.prog 8 #[.int .i64 a0, .slice A1 l1.length c1, .int .i64 a2] w fun e w' => e = .returned (.bool r) ∧ Below w.heap.size w w' := by
 have HRT := Qa.mk hrt; clear hrt; have HR1 := Qa.mk hr1; have HC1 := Qa.mk hc1; clear hr1 hc1; have HB := Qa.mk (Below.refl w.heap.size w); have H : (if (l1.length : Int) > 20 then ((Qd.f k).bind fun t101 => (some t101)) else (Qao.l0 k a0 l1 a2 0)) = some r := h; clear h; by_cases c4 : (l1.length : Int) > 20
 ·rw [if_pos c4] at H
  have c4b0 : decide (20 < (l1.length : Int)) = true := decide_eq_true c4; have c4b1 : decide (20 < l1.length) = true := decide_eq_true (by omega); clear c4; obtain ⟨t101, A5, H⟩ := bi H; obtain rfl := Option.some.inj H; go_enter Tryz.func8, Tryz.ntmps8; go_wp2_with (first | ((with_reducible refine gc 15 rfl ?_); refine gL 19 Tryz.func15 #[] ?_; (with_reducible refine (Qd.calls k  t101 _ A5.out).mono ?_); rintro e w6 ⟨rfl, hb⟩; refine ⟨_, rfl, ?_⟩; replace HB := bs HB hb; clear hb)); go_ret; exact ⟨eT, pE HB⟩
 ·rw [if_neg c4] at H
  have c4b0 : decide (20 < (l1.length : Int)) = false := decide_eq_false c4; have c4b1 : decide (20 < l1.length) = false := decide_eq_false (by omega); clear c4; have H' := Qa.mk H; clear H; go_enter Tryz.func8, Tryz.ntmps8; go_wp2
  go_loopg [7] k (fun kq v7 w' => ∃ (x7_1 : Int), v7 = .int .i64 x7_1 ∧ Qa (Qao.l0 kq a0 l1 a2 x7_1 = some r) ∧ Qa (kq ≤ k) ∧ Qa (Below w.heap.size w w'))
  case atStart => exact ⟨(0), eS, H', ⟨Nat.le_refl _⟩, ⟨pE HB⟩⟩
  case round =>
   clear H'
   (try clear c1); (try clear c4b0); (try clear c4b1)
   obtain ⟨x7_1, rfl, HA, HK1, HB⟩ := hrel
   cases gk with
   | zero => exact absurd HA.out (by simp [Qao.l0])
   | succ k1 =>
    have H := HA.out; clear HA; simp only [Qao.l0] at H; by_cases c7 : x7_1 < (l1.length : Int)
    ·rw [if_pos c7] at H
     have c7b0 : decide (x7_1 < (l1.length : Int)) = true := decide_eq_true c7; clear c7; by_cases c8 : 0 ≤ x7_1
     ·rw [if_pos c8] at H
      have c8b0 : decide (0 ≤ x7_1) = true := decide_eq_true c8; clear c8; by_cases c9 : (((Ql l1 x7_1).f0).length : Int) > 20
      ·rw [if_pos c9] at H
       have c9b0 : decide (20 < (((Ql l1 x7_1).f0).length : Int)) = true := decide_eq_true c9; have c9b1 : decide (20 < ((Ql l1 x7_1).f0).length) = true := decide_eq_true (by omega); clear c9; obtain ⟨t103, A10, H⟩ := bi H; obtain rfl := Option.some.inj H; have p102 : 0 ≤ (x7_1 : Int) := dT; have q102 : x7_1 < (l1.length : Int) := dT; obtain ⟨ad102, A102_0, c102_0, A102_1, c102_1, e102, hx102_0, hx102_1, hx102_2, hl102_0, hi102_0, hl102_1, hi102_1⟩ := Xl HR1.out x7_1 p102 q102
       cases e102
       replace hx102_0 := cut_ HB hx102_0; replace hx102_1 := cut_ HB hx102_1; replace hx102_2 := cut_ HB hx102_2; have HR102_0 := Qa.mk hi102_0; have HC102_0 := Qa.mk hl102_0; clear hi102_0 hl102_0; have HR102_1 := Qa.mk hi102_1; have HC102_1 := Qa.mk hl102_1; clear hi102_1 hl102_1; replace p102 := eq_true p102; replace q102 := eq_true q102; go_wp2_with (first | ((with_reducible refine gc 15 rfl ?_); refine gL 42 Tryz.func15 #[] ?_; (with_reducible refine (Qd.calls k1  t103 _ A10.out).mono ?_); rintro e w11 ⟨rfl, hb⟩; refine ⟨_, rfl, ?_⟩; replace HB := bs HB hb; clear hb)); go_ret; exact ⟨eT, pE HB⟩
      ·rw [if_neg c9] at H
       have c9b0 : decide (20 < (((Ql l1 x7_1).f0).length : Int)) = false := decide_eq_false c9; have c9b1 : decide (20 < ((Ql l1 x7_1).f0).length) = false := decide_eq_false (by omega); clear c9; by_cases c12 : (((Ql l1 x7_1).f1).length : Int) > 20
       ·rw [if_pos c12] at H
        have c12b0 : decide (20 < (((Ql l1 x7_1).f1).length : Int)) = true := decide_eq_true c12; have c12b1 : decide (20 < ((Ql l1 x7_1).f1).length) = true := decide_eq_true (by omega); clear c12; obtain ⟨t105, A13, H⟩ := bi H; obtain rfl := Option.some.inj H; have p102 : 0 ≤ (x7_1 : Int) := dT; have q102 : x7_1 < (l1.length : Int) := dT; obtain ⟨ad102, A102_0, c102_0, A102_1, c102_1, e102, hx102_0, hx102_1, hx102_2, hl102_0, hi102_0, hl102_1, hi102_1⟩ := Xl HR1.out x7_1 p102 q102
        cases e102
        replace hx102_0 := cut_ HB hx102_0; replace hx102_1 := cut_ HB hx102_1; replace hx102_2 := cut_ HB hx102_2; have HR102_0 := Qa.mk hi102_0; have HC102_0 := Qa.mk hl102_0; clear hi102_0 hl102_0; have HR102_1 := Qa.mk hi102_1; have HC102_1 := Qa.mk hl102_1; clear hi102_1 hl102_1; replace p102 := eq_true p102; replace q102 := eq_true q102; have p104 : 0 ≤ (x7_1 : Int) := dT; have q104 : x7_1 < (l1.length : Int) := dT; obtain ⟨ad104, A104_0, c104_0, A104_1, c104_1, e104, hx104_0, hx104_1, hx104_2, hl104_0, hi104_0, hl104_1, hi104_1⟩ := Xl HR1.out x7_1 p104 q104; obtain rfl : ad102 = ad104 := (by injection e104); replace hx104_0 := cut_ HB hx104_0; replace hx104_1 := cut_ HB hx104_1; replace hx104_2 := cut_ HB hx104_2; have HR104_0 := Qa.mk hi104_0; have HC104_0 := Qa.mk hl104_0; clear hi104_0 hl104_0; have HR104_1 := Qa.mk hi104_1; have HC104_1 := Qa.mk hl104_1; clear hi104_1 hl104_1; replace p104 := eq_true p104; replace q104 := eq_true q104; have ea_ := Option.some.inj (hx102_0.symm.trans hx104_0)
        injection ea_ with ea_ en_ ec_
        subst ea_; subst ec_; clear en_; have ea_ := Option.some.inj (hx102_1.symm.trans hx104_1)
        injection ea_ with ea_ en_ ec_
        subst ea_; subst ec_; clear en_; go_wp2_with (first | ((with_reducible refine gc 15 rfl ?_); refine gL 42 Tryz.func15 #[] ?_; (with_reducible refine (Qd.calls k1  t105 _ A13.out).mono ?_); rintro e w14 ⟨rfl, hb⟩; refine ⟨_, rfl, ?_⟩; replace HB := bs HB hb; clear hb)); go_ret; exact ⟨eT, pE HB⟩
       ·rw [if_neg c12] at H
        have c12b0 : decide (20 < (((Ql l1 x7_1).f1).length : Int)) = false := decide_eq_false c12; have c12b1 : decide (20 < ((Ql l1 x7_1).f1).length) = false := decide_eq_false (by omega); clear c12; have H' := Qa.mk H; clear H; have p102 : 0 ≤ (x7_1 : Int) := dT; have q102 : x7_1 < (l1.length : Int) := dT; obtain ⟨ad102, A102_0, c102_0, A102_1, c102_1, e102, hx102_0, hx102_1, hx102_2, hl102_0, hi102_0, hl102_1, hi102_1⟩ := Xl HR1.out x7_1 p102 q102
        cases e102
        replace hx102_0 := cut_ HB hx102_0; replace hx102_1 := cut_ HB hx102_1; replace hx102_2 := cut_ HB hx102_2; have HR102_0 := Qa.mk hi102_0; have HC102_0 := Qa.mk hl102_0; clear hi102_0 hl102_0; have HR102_1 := Qa.mk hi102_1; have HC102_1 := Qa.mk hl102_1; clear hi102_1 hl102_1; replace p102 := eq_true p102; replace q102 := eq_true q102; have p104 : 0 ≤ (x7_1 : Int) := dT; have q104 : x7_1 < (l1.length : Int) := dT; obtain ⟨ad104, A104_0, c104_0, A104_1, c104_1, e104, hx104_0, hx104_1, hx104_2, hl104_0, hi104_0, hl104_1, hi104_1⟩ := Xl HR1.out x7_1 p104 q104; obtain rfl : ad102 = ad104 := (by injection e104); replace hx104_0 := cut_ HB hx104_0; replace hx104_1 := cut_ HB hx104_1; replace hx104_2 := cut_ HB hx104_2; have HR104_0 := Qa.mk hi104_0; have HC104_0 := Qa.mk hl104_0; clear hi104_0 hl104_0; have HR104_1 := Qa.mk hi104_1; have HC104_1 := Qa.mk hl104_1; clear hi104_1 hl104_1; replace p104 := eq_true p104; replace q104 := eq_true q104; have ea_ := Option.some.inj (hx102_0.symm.trans hx104_0)
        injection ea_ with ea_ en_ ec_
        subst ea_; subst ec_; clear en_; have ea_ := Option.some.inj (hx102_1.symm.trans hx104_1)
        injection ea_ with ea_ en_ ec_
        subst ea_; subst ec_; clear en_; go_wp2
        go_roundg k1
        case measure => have := HK1.out; omega
        case rel => exact ⟨(wrap64 (x7_1 + 1)), eS, H', ⟨by have := HK1.out; omega⟩, ⟨pE HB⟩⟩
     ·rw [if_neg c8] at H
      exact absurd H (by simp)
    ·rw [if_neg c7] at H
     have c7b0 : decide (x7_1 < (l1.length : Int)) = false := decide_eq_false c7; clear c7; obtain ⟨t106, A15, H⟩ := bi H; obtain ⟨⟨t109, t110⟩, A16, H⟩ := bi H; obtain ⟨⟨t113, t114⟩, A17, H⟩ := bi H; have H' := Qa.mk H; clear H; go_wp2_with (first | ((with_reducible refine gc 43 rfl ?_); refine gL 44 Tryz.func43 #[.slice A1 l1.length c1] ?_; (with_reducible refine (Qav.calls k1 _ _ l1 t106 _ ?side1 ?side2 A15.out).mono ?_); (case side1 => exact pC (Kd.C_below HR1.out HB.out)); (case side2 => exact HC1.out); rintro e w18 ⟨v107, rfl, ho0, hb⟩; refine ⟨_, rfl, ?_⟩; have HO108 := Qa.mk (Kd.S_lower ho0 (Qr (pE HB))); replace HB := bs HB hb; clear hb ho0; obtain ⟨Ao19, co19, eo19⟩ := Kd.S_slice HO108.out; subst eo19) | ((with_reducible refine gc 44 rfl ?_); refine gL 49 Tryz.func44 #[.int .i64 a0, .slice Ao19 t106.length co19, .int .i64 a2] ?_; (with_reducible refine (Qs.calls k1 a0 _ _ t106 a2 t109 t110 _ ?side1 ?side2 A16.out).mono ?_); (case side1 => exact pC (Kd.S_reads' HO108.out).2.2); (case side2 => exact (Kd.S_reads' HO108.out).2.1); rintro e w20 ⟨v111, rfl, ho0, hb⟩; refine ⟨_, rfl, ?_⟩; replace HO108 := Qa.mk (Kd.S_elder' (pS HO108.out) (Kd.R_base ho0) hb); have HO112 := rl ho0 HB; replace HB := bs HB hb; clear hb ho0) | ((with_reducible refine gc 45 rfl ?_); refine gL 55 Tryz.func45 #[.int .i64 a0, .slice Ao19 t106.length co19] ?_; (with_reducible refine (QT.calls k1 a0 _ _ t106 t113 t114 _ ?side1 ?side2 A17.out).mono ?_); (case side1 => exact pC (Kd.S_reads' HO108.out).2.2); (case side2 => exact (Kd.S_reads' HO108.out).2.1); rintro e w21 ⟨rfl, hb⟩; refine ⟨_, rfl, ?_⟩; replace HO108 := Qa.mk (Kd.S_below (pS HO108.out) hb); replace HO112 := rb HO112 hb; replace HB := bs HB hb; clear hb))
     go_loopg [13] k1 (fun kq v13 w' => ∃ (x13_2 : Int), v13 = .int .i64 x13_2 ∧ Qa (Qao.l1 kq a0 l1 a2 t106 t109 t110 t113 t114 x13_2 = some r) ∧ Qa (kq ≤ k1) ∧ Qa (Kd.S k75 75 w' w.heap.size (fun k_ => some k_ ≠ (v111 : Value).ownBlock) (.slice Ao19 t106.length co19) t106) ∧ Qa (Kd.R (Kd.int .i64) 3 w' w.heap.size (fun _ => True) v111 t109) ∧ Qa (Below w.heap.size w w'))
     case atStart => exact ⟨(0), eS, H', ⟨Nat.le_refl _⟩, ⟨by (with_reducible repeat (first | apply Kd.S_alloc | apply Kd.S_drewN | apply Kd.S_drew)); exact Kd.S_mono HO108.out (fun _ hk => hk.2)⟩, ⟨by (with_reducible repeat (first | apply Kd.R_alloc | apply Kd.R_drewN | apply Kd.R_drew)); exact HO112.out⟩, ⟨pE HB⟩⟩
     case round =>
      clear H'
      (try clear c1); (try clear c7b0)
      obtain ⟨x13_2, rfl, HA, HK2, HO_8, HO_9, HB⟩ := hrel
      cases gk with
      | zero => exact absurd HA.out (by simp [Qao.l1])
      | succ k2 =>
       have H := HA.out; clear HA; simp only [Qao.l1] at H; by_cases c22 : x13_2 < (l1.length : Int)
       ·rw [if_pos c22] at H
        have c22b0 : decide (x13_2 < (l1.length : Int)) = true := decide_eq_true c22; clear c22; by_cases c23 : (t106.length : Int) = (l1.length : Int)
        ·rw [if_pos c23] at H
         have c23b0 : ((t106.length : Int) == (l1.length : Int)) = true := beq_iff_eq.mpr c23; have c23b1 : ((t106.length : Int) != (l1.length : Int)) = false := bne_eq_false_iff_eq.mpr c23; have c23b2 : (t106.length == l1.length) = true := by first | simpa using c23 | (simp at c23 ⊢; omega)
         clear c23; by_cases c24 : 0 ≤ x13_2
         ·rw [if_pos c24] at H
          have c24b0 : decide (0 ≤ x13_2) = true := decide_eq_true c24; clear c24; by_cases c25 : x13_2 < (t106.length : Int)
          ·rw [if_pos c25] at H
           have c25b0 : decide (x13_2 < (t106.length : Int)) = true := decide_eq_true c25; clear c25; obtain ⟨t117, A26, H⟩ := bi H; by_cases c27 : t117 = true
           ·subst c27
            rw [if_pos rfl] at H; obtain ⟨t120, A28, H⟩ := bi H; by_cases c29 : t120 = true
            ·subst c29
             rw [if_pos rfl] at H; by_cases c30 : ((Ql t106 x13_2).f2) = ((Ql l1 x13_2).f2)
             ·rw [if_pos c30] at H
              have c30b0 : (((Ql t106 x13_2).f2) == ((Ql l1 x13_2).f2)) = true := beq_iff_eq.mpr c30; have c30b1 : (((Ql t106 x13_2).f2) != ((Ql l1 x13_2).f2)) = false := bne_eq_false_iff_eq.mpr c30; clear c30; have H' := Qa.mk H; clear H
              try go_wp2
              replace HO_8 := Qa.mk (Kd.S_drew HO_8.out); replace HO_9 := Qa.mk (Kd.R_drew HO_9.out); replace HB := Qa.mk (QM HB.out); have p115 : 0 ≤ (x13_2 : Int) := dT; have q115 : x13_2 < (t106.length : Int) := dT; obtain ⟨ad115, A115_0, c115_0, A115_1, c115_1, e115, hx115_0, hx115_1, hx115_2, hl115_0, hi115_0, hl115_1, hi115_1⟩ := Xl (Kd.S_reads' HO_8.out).2.2 x13_2 p115 q115
              cases e115
              obtain ⟨ce115, hce115, hMe115, hcc115⟩ := Kd.S_get HO_8.out z75 x13_2 p115 (by first | exact q115 | exact dT | (have e_ := (Kd.S_reads' HO_8.out).1; omega)); obtain ⟨ve115_0, ve115_1, rfl, ge115_0, ge115_1⟩ := Qa9 hMe115; have hv115_0 := hcc115 0 _ rfl; rw [Nat.add_zero] at hv115_0; replace hv115_0 := Option.some.inj (hv115_0.symm.trans hx115_0); rw [hv115_0] at ge115_0; have HL115_0 := Qa.mk (show Kd.R (Kd.int .i64) 3 _ _ _ _ ((Ql t106 x13_2).f0) from ge115_0); clear hv115_0 ge115_0; have hv115_1 := hcc115 1 _ rfl; rw [Jt _ _ 1 (by omega)] at hv115_1; replace hv115_1 := Option.some.inj (hv115_1.symm.trans hx115_1); rw [hv115_1] at ge115_1; have HL115_1 := Qa.mk (show Kd.R (Kd.int .i64) 3 _ _ _ _ ((Ql t106 x13_2).f1) from ge115_1); clear hv115_1 ge115_1 hcc115 hce115; have HR115_0 := Qa.mk hi115_0; have HC115_0 := Qa.mk hl115_0; clear hi115_0 hl115_0; have HR115_1 := Qa.mk hi115_1; have HC115_1 := Qa.mk hl115_1; clear hi115_1 hl115_1; replace p115 := eq_true p115; replace q115 := eq_true q115; have p116 : 0 ≤ (x13_2 : Int) := dT; have q116 : x13_2 < (l1.length : Int) := dT; obtain ⟨ad116, A116_0, c116_0, A116_1, c116_1, e116, hx116_0, hx116_1, hx116_2, hl116_0, hi116_0, hl116_1, hi116_1⟩ := Xl HR1.out x13_2 p116 q116; have hw116_2 := hx116_2; have hw116_1 := hx116_1; have hw116_0 := hx116_0
              cases e116
              replace hx116_0 := cut_ HB hx116_0; replace hx116_1 := cut_ HB hx116_1; replace hx116_2 := cut_ HB hx116_2; have HR116_0 := Qa.mk hi116_0; have HC116_0 := Qa.mk hl116_0; clear hi116_0 hl116_0; have HR116_1 := Qa.mk hi116_1; have HC116_1 := Qa.mk hl116_1; clear hi116_1 hl116_1; replace p116 := eq_true p116; replace q116 := eq_true q116; have p118 : 0 ≤ (x13_2 : Int) := dT; have q118 : x13_2 < (t106.length : Int) := dT; obtain ⟨ad118, A118_0, c118_0, A118_1, c118_1, e118, hx118_0, hx118_1, hx118_2, hl118_0, hi118_0, hl118_1, hi118_1⟩ := Xl (Kd.S_reads' HO_8.out).2.2 x13_2 p118 q118; obtain rfl : ad115 = ad118 := (by injection e118); obtain ⟨ce118, hce118, hMe118, hcc118⟩ := Kd.S_get HO_8.out z75 x13_2 p118 (by first | exact q118 | exact dT | (have e_ := (Kd.S_reads' HO_8.out).1; omega)); obtain ⟨ve118_0, ve118_1, rfl, ge118_0, ge118_1⟩ := Qa9 hMe118; have hv118_0 := hcc118 0 _ rfl; rw [Nat.add_zero] at hv118_0; replace hv118_0 := Option.some.inj (hv118_0.symm.trans hx118_0); rw [hv118_0] at ge118_0; have HL118_0 := Qa.mk (show Kd.R (Kd.int .i64) 3 _ _ _ _ ((Ql t106 x13_2).f0) from ge118_0); clear hv118_0 ge118_0; have hv118_1 := hcc118 1 _ rfl; rw [Jt _ _ 1 (by omega)] at hv118_1; replace hv118_1 := Option.some.inj (hv118_1.symm.trans hx118_1); rw [hv118_1] at ge118_1; have HL118_1 := Qa.mk (show Kd.R (Kd.int .i64) 3 _ _ _ _ ((Ql t106 x13_2).f1) from ge118_1); clear hv118_1 ge118_1 hcc118 hce118; have HR118_0 := Qa.mk hi118_0; have HC118_0 := Qa.mk hl118_0; clear hi118_0 hl118_0; have HR118_1 := Qa.mk hi118_1; have HC118_1 := Qa.mk hl118_1; clear hi118_1 hl118_1; replace p118 := eq_true p118; replace q118 := eq_true q118; have ea_ := Option.some.inj (hx115_0.symm.trans hx118_0)
              injection ea_ with ea_ en_ ec_
              subst ea_; subst ec_; clear en_; have ea_ := Option.some.inj (hx115_1.symm.trans hx118_1)
              injection ea_ with ea_ en_ ec_
              subst ea_; subst ec_; clear en_; have p119 : 0 ≤ (x13_2 : Int) := dT; have q119 : x13_2 < (l1.length : Int) := dT; obtain ⟨ad119, A119_0, c119_0, A119_1, c119_1, e119, hx119_0, hx119_1, hx119_2, hl119_0, hi119_0, hl119_1, hi119_1⟩ := Xl HR1.out x13_2 p119 q119; have hw119_2 := hx119_2; have hw119_1 := hx119_1; have hw119_0 := hx119_0; obtain rfl : ad116 = ad119 := (by injection e119); replace hx119_0 := cut_ HB hx119_0; replace hx119_1 := cut_ HB hx119_1; replace hx119_2 := cut_ HB hx119_2; have HR119_0 := Qa.mk hi119_0; have HC119_0 := Qa.mk hl119_0; clear hi119_0 hl119_0; have HR119_1 := Qa.mk hi119_1; have HC119_1 := Qa.mk hl119_1; clear hi119_1 hl119_1; replace p119 := eq_true p119; replace q119 := eq_true q119; have ea_ := Option.some.inj (hx116_0.symm.trans hx119_0)
              injection ea_ with ea_ en_ ec_
              subst ea_; subst ec_; clear en_; have ea_ := Option.some.inj (hx116_1.symm.trans hx119_1)
              injection ea_ with ea_ en_ ec_
              subst ea_; subst ec_; clear en_; have p121 : 0 ≤ (x13_2 : Int) := dT; have q121 : x13_2 < (t106.length : Int) := dT; obtain ⟨ad121, A121_0, c121_0, A121_1, c121_1, e121, hx121_0, hx121_1, hx121_2, hl121_0, hi121_0, hl121_1, hi121_1⟩ := Xl (Kd.S_reads' HO_8.out).2.2 x13_2 p121 q121; obtain rfl : ad115 = ad121 := (by injection e121); obtain ⟨ce121, hce121, hMe121, hcc121⟩ := Kd.S_get HO_8.out z75 x13_2 p121 (by first | exact q121 | exact dT | (have e_ := (Kd.S_reads' HO_8.out).1; omega)); obtain ⟨ve121_0, ve121_1, rfl, ge121_0, ge121_1⟩ := Qa9 hMe121; have hv121_0 := hcc121 0 _ rfl; rw [Nat.add_zero] at hv121_0; replace hv121_0 := Option.some.inj (hv121_0.symm.trans hx121_0); rw [hv121_0] at ge121_0; have HL121_0 := Qa.mk (show Kd.R (Kd.int .i64) 3 _ _ _ _ ((Ql t106 x13_2).f0) from ge121_0); clear hv121_0 ge121_0; have hv121_1 := hcc121 1 _ rfl; rw [Jt _ _ 1 (by omega)] at hv121_1; replace hv121_1 := Option.some.inj (hv121_1.symm.trans hx121_1); rw [hv121_1] at ge121_1; have HL121_1 := Qa.mk (show Kd.R (Kd.int .i64) 3 _ _ _ _ ((Ql t106 x13_2).f1) from ge121_1); clear hv121_1 ge121_1 hcc121 hce121; have HR121_0 := Qa.mk hi121_0; have HC121_0 := Qa.mk hl121_0; clear hi121_0 hl121_0; have HR121_1 := Qa.mk hi121_1; have HC121_1 := Qa.mk hl121_1; clear hi121_1 hl121_1; replace p121 := eq_true p121; replace q121 := eq_true q121; have ea_ := Option.some.inj (hx115_0.symm.trans hx121_0)
              injection ea_ with ea_ en_ ec_
              subst ea_; subst ec_; clear en_; have ea_ := Option.some.inj (hx115_1.symm.trans hx121_1)
              injection ea_ with ea_ en_ ec_
              subst ea_; subst ec_; clear en_; have p122 : 0 ≤ (x13_2 : Int) := dT; have q122 : x13_2 < (l1.length : Int) := dT; obtain ⟨ad122, A122_0, c122_0, A122_1, c122_1, e122, hx122_0, hx122_1, hx122_2, hl122_0, hi122_0, hl122_1, hi122_1⟩ := Xl HR1.out x13_2 p122 q122; have hw122_2 := hx122_2; have hw122_1 := hx122_1; have hw122_0 := hx122_0; obtain rfl : ad116 = ad122 := (by injection e122); replace hx122_0 := cut_ HB hx122_0; replace hx122_1 := cut_ HB hx122_1; replace hx122_2 := cut_ HB hx122_2; have HR122_0 := Qa.mk hi122_0; have HC122_0 := Qa.mk hl122_0; clear hi122_0 hl122_0; have HR122_1 := Qa.mk hi122_1; have HC122_1 := Qa.mk hl122_1; clear hi122_1 hl122_1; replace p122 := eq_true p122; replace q122 := eq_true q122; have ea_ := Option.some.inj (hx116_0.symm.trans hx122_0)
              injection ea_ with ea_ en_ ec_
              subst ea_; subst ec_; clear en_; have ea_ := Option.some.inj (hx116_1.symm.trans hx122_1)
              injection ea_ with ea_ en_ ec_
              subst ea_; subst ec_; clear en_; refine JS (n := 46) (S := fun w' => w'.cell? (ad115.add ((x13_2).toNat * 3)) = some (.slice A115_0 ((Ql t106 x13_2).f0).length c115_0) ∧ w'.cell? ⟨(ad115.add ((x13_2).toNat * 3)).block, (ad115.add ((x13_2).toNat * 3)).off + 1, none⟩ = some (.slice A115_1 ((Ql t106 x13_2).f1).length c115_1) ∧ w'.cell? ⟨(ad115.add ((x13_2).toNat * 3)).block, (ad115.add ((x13_2).toNat * 3)).off + 2, none⟩ = some (.int .i64 ((Ql t106 x13_2).f2)) ∧ w'.cell? (ad116.add ((x13_2).toNat * 3)) = some (.slice A116_0 ((Ql l1 x13_2).f0).length c116_0) ∧ w'.cell? ⟨(ad116.add ((x13_2).toNat * 3)).block, (ad116.add ((x13_2).toNat * 3)).off + 1, none⟩ = some (.slice A116_1 ((Ql l1 x13_2).f1).length c116_1) ∧ w'.cell? ⟨(ad116.add ((x13_2).toNat * 3)).block, (ad116.add ((x13_2).toNat * 3)).off + 2, none⟩ = some (.int .i64 ((Ql l1 x13_2).f2)) ∧ w'.cell? (ad115.add ((x13_2).toNat * 3)) = some (.slice A115_0 ((Ql t106 x13_2).f0).length c115_0) ∧ w'.cell? ⟨(ad115.add ((x13_2).toNat * 3)).block, (ad115.add ((x13_2).toNat * 3)).off + 1, none⟩ = some (.slice A115_1 ((Ql t106 x13_2).f1).length c115_1) ∧ w'.cell? ⟨(ad115.add ((x13_2).toNat * 3)).block, (ad115.add ((x13_2).toNat * 3)).off + 2, none⟩ = some (.int .i64 ((Ql t106 x13_2).f2)) ∧ w'.cell? (ad116.add ((x13_2).toNat * 3)) = some (.slice A116_0 ((Ql l1 x13_2).f0).length c116_0) ∧ w'.cell? ⟨(ad116.add ((x13_2).toNat * 3)).block, (ad116.add ((x13_2).toNat * 3)).off + 1, none⟩ = some (.slice A116_1 ((Ql l1 x13_2).f1).length c116_1) ∧ w'.cell? ⟨(ad116.add ((x13_2).toNat * 3)).block, (ad116.add ((x13_2).toNat * 3)).off + 2, none⟩ = some (.int .i64 ((Ql l1 x13_2).f2)) ∧ w'.cell? (ad115.add ((x13_2).toNat * 3)) = some (.slice A115_0 ((Ql t106 x13_2).f0).length c115_0) ∧ w'.cell? ⟨(ad115.add ((x13_2).toNat * 3)).block, (ad115.add ((x13_2).toNat * 3)).off + 1, none⟩ = some (.slice A115_1 ((Ql t106 x13_2).f1).length c115_1) ∧ w'.cell? ⟨(ad115.add ((x13_2).toNat * 3)).block, (ad115.add ((x13_2).toNat * 3)).off + 2, none⟩ = some (.int .i64 ((Ql t106 x13_2).f2)) ∧ w'.cell? (ad116.add ((x13_2).toNat * 3)) = some (.slice A116_0 ((Ql l1 x13_2).f0).length c116_0) ∧ w'.cell? ⟨(ad116.add ((x13_2).toNat * 3)).block, (ad116.add ((x13_2).toNat * 3)).off + 1, none⟩ = some (.slice A116_1 ((Ql l1 x13_2).f1).length c116_1) ∧ w'.cell? ⟨(ad116.add ((x13_2).toNat * 3)).block, (ad116.add ((x13_2).toNat * 3)).off + 2, none⟩ = some (.int .i64 ((Ql l1 x13_2).f2))) (ds := []) #[false, false, false, false, false, false, false, false, false, false, false, false, false, false, false, false, false, false, false, false, false, false, false, false, false, false, false, false, false, false, false, false, false, false, false, false, false, false, false, false, false, false, false, false, false, false] (by kernel_rfl) rfl rfl ⟨hx115_0, hx115_1, hx115_2, ((HB.out.cell (World.block_lt_of_cell? w _ hw116_0)).trans hw116_0), ((HB.out.cell (World.block_lt_of_cell? w _ hw116_1)).trans hw116_1), ((HB.out.cell (World.block_lt_of_cell? w _ hw116_2)).trans hw116_2), hx118_0, hx118_1, hx118_2, ((HB.out.cell (World.block_lt_of_cell? w _ hw119_0)).trans hw119_0), ((HB.out.cell (World.block_lt_of_cell? w _ hw119_1)).trans hw119_1), ((HB.out.cell (World.block_lt_of_cell? w _ hw119_2)).trans hw119_2), hx121_0, hx121_1, hx121_2, ((HB.out.cell (World.block_lt_of_cell? w _ hw122_0)).trans hw122_0), ((HB.out.cell (World.block_lt_of_cell? w _ hw122_1)).trans hw122_1), ((HB.out.cell (World.block_lt_of_cell? w _ hw122_2)).trans hw122_2)⟩ (fun hHeld => ?_); refine Jk Qao.tab14 Qao.bits14 (fun HT_ HW_ => ?_); generalize wr.drew = w31 at HO_8 HO_9 HB HL115_0 HL115_1 HL118_0 HL118_1 HL121_0 HL121_1 HR115_0 HR115_1 HR116_0 HR116_1 HR118_0 HR118_1 HR119_0 HR119_1 HR121_0 HR121_1 HR122_0 HR122_1 hx115_0 hx115_1 hx115_2 hx116_0 hx116_1 hx116_2 hx118_0 hx118_1 hx118_2 hx119_0 hx119_1 hx119_2 hx121_0 hx121_1 hx121_2 hx122_0 hx122_1 hx122_2 hHeld ⊢; refine pu 0 64 ?_; refine pu 1 65 ?_; refine pu 2 66 ?_; refine pu 3 67 ?_; refine pu 4 68 ?_; refine pu 5 69 ?_; refine pu 6 70 ?_; refine pu 7 71 ?_; refine pu 8 72 ?_; refine pu 9 73 ?_; refine pu 11 75 ?_; refine pu 12 76 ?_; refine pu 13 77 ?_; refine pu 14 78 ?_; refine tk 10 74 hHeld ?_; refine tk 15 79 hHeld ?_; refine on 16 (fun K hK => ?_); refine gO Tryz.func23 #[.slice A115_0 ((Ql t106 x13_2).f0).length c115_0, .slice A116_0 ((Ql l1 x13_2).f0).length c116_0] ?_
              with_reducible refine (Qm.calls k2 _ _ ((Ql t106 x13_2).f0) _ _ ((Ql l1 x13_2).f0) true _ ?side1 ?side2 ?side3 ?side4 A26.out).mono ?_
              (case side1 => exact pC HR115_0.out)
              (case side2 => exact HC115_0.out)
              (case side3 => exact pC (Kd.C_below HR116_0.out HB.out))
              (case side4 => exact HC116_0.out)
              rintro e w' ⟨rfl, ⟨nd, rfl⟩⟩; refine ⟨_, rfl, ?_⟩; refine hK.out _ _ ⟨hHeld.1, hHeld.2.1, hHeld.2.2.1, ((HB.out.cell (World.block_lt_of_cell? w _ hw116_0)).trans hw116_0), ((HB.out.cell (World.block_lt_of_cell? w _ hw116_1)).trans hw116_1), ((HB.out.cell (World.block_lt_of_cell? w _ hw116_2)).trans hw116_2), hHeld.2.2.2.2.2.2.1, hHeld.2.2.2.2.2.2.2.1, hHeld.2.2.2.2.2.2.2.2.1, ((HB.out.cell (World.block_lt_of_cell? w _ hw119_0)).trans hw119_0), ((HB.out.cell (World.block_lt_of_cell? w _ hw119_1)).trans hw119_1), ((HB.out.cell (World.block_lt_of_cell? w _ hw119_2)).trans hw119_2), hHeld.2.2.2.2.2.2.2.2.2.2.2.2.1, hHeld.2.2.2.2.2.2.2.2.2.2.2.2.2.1, hHeld.2.2.2.2.2.2.2.2.2.2.2.2.2.2.1, ((HB.out.cell (World.block_lt_of_cell? w _ hw122_0)).trans hw122_0), ((HB.out.cell (World.block_lt_of_cell? w _ hw122_1)).trans hw122_1), ((HB.out.cell (World.block_lt_of_cell? w _ hw122_2)).trans hw122_2)⟩ (fun hHeld => ?_); clear hK K; refine QY (a' := ?_) ?_ ?_
              rotate_left
              ·show Act.put _ (some 80) _ = _
               simp only [Act.put, List.setIfInBounds_toArray, List.set_cons_zero, List.set_cons_succ, QR, QU]; rfl
              refine pu 17 81 ?_; refine pu 18 82 ?_; refine pu 19 83 ?_; refine pu 20 84 ?_; refine pu 21 85 ?_; refine pu 22 86 ?_; refine pu 23 87 ?_; refine pu 25 89 ?_; refine pu 26 90 ?_; refine pu 27 91 ?_; refine pu 28 92 ?_; refine tk 24 88 hHeld ?_; refine tk 29 93 hHeld ?_; refine on 30 (fun K hK => ?_); refine gO Tryz.func23 #[.slice A115_1 ((Ql t106 x13_2).f1).length c115_1, .slice A116_1 ((Ql l1 x13_2).f1).length c116_1] ?_
              with_reducible refine (Qm.calls k2 _ _ ((Ql t106 x13_2).f1) _ _ ((Ql l1 x13_2).f1) true _ ?side1 ?side2 ?side3 ?side4 A28.out).mono ?_
              (case side1 => exact pC HR118_1.out)
              (case side2 => exact HC118_1.out)
              (case side3 => exact pC (Kd.C_below HR119_1.out (pE HB)))
              (case side4 => exact HC119_1.out)
              rintro e w' ⟨rfl, ⟨nd, rfl⟩⟩; refine ⟨_, rfl, ?_⟩; refine hK.out _ _ ⟨hHeld.1, hHeld.2.1, hHeld.2.2.1, ((HB.out.cell (World.block_lt_of_cell? w _ hw116_0)).trans hw116_0), ((HB.out.cell (World.block_lt_of_cell? w _ hw116_1)).trans hw116_1), ((HB.out.cell (World.block_lt_of_cell? w _ hw116_2)).trans hw116_2), hHeld.2.2.2.2.2.2.1, hHeld.2.2.2.2.2.2.2.1, hHeld.2.2.2.2.2.2.2.2.1, ((HB.out.cell (World.block_lt_of_cell? w _ hw119_0)).trans hw119_0), ((HB.out.cell (World.block_lt_of_cell? w _ hw119_1)).trans hw119_1), ((HB.out.cell (World.block_lt_of_cell? w _ hw119_2)).trans hw119_2), hHeld.2.2.2.2.2.2.2.2.2.2.2.2.1, hHeld.2.2.2.2.2.2.2.2.2.2.2.2.2.1, hHeld.2.2.2.2.2.2.2.2.2.2.2.2.2.2.1, ((HB.out.cell (World.block_lt_of_cell? w _ hw122_0)).trans hw122_0), ((HB.out.cell (World.block_lt_of_cell? w _ hw122_1)).trans hw122_1), ((HB.out.cell (World.block_lt_of_cell? w _ hw122_2)).trans hw122_2)⟩ (fun hHeld => ?_); clear hK K; refine QY (a' := ?_) ?_ ?_
              rotate_left
              ·show Act.put _ (some 94) _ = _
               simp only [Act.put, List.setIfInBounds_toArray, List.set_cons_zero, List.set_cons_succ, QR, QU]; rfl
              refine pu 31 95 ?_; refine pu 32 96 ?_; refine pu 33 97 ?_; refine pu 34 98 ?_; refine pu 35 99 ?_; refine pu 36 100 ?_; refine pu 37 101 ?_; refine pu 39 103 ?_; refine pu 40 104 ?_; refine pu 41 105 ?_; refine pu 42 106 ?_; refine tk 38 102 hHeld ?_; refine tk 43 107 hHeld ?_; refine pu 44 108 ?_; refine pu 45 109 ?_; refine JD (JM HT_.out (by kernel_rfl)) ?_
              try go_wp2
              go_roundg k2
              case measure => have := HK1.out; have := HK2.out; omega
              case rel => exact ⟨(wrap64 (x13_2 + 1)), eS, H', ⟨by have := HK1.out; have := HK2.out; omega⟩, ⟨by (with_reducible repeat (first | apply Kd.S_alloc | apply Kd.S_drewN | apply Kd.S_drew)); exact HO_8.out⟩, ⟨by (with_reducible repeat (first | apply Kd.R_alloc | apply Kd.R_drewN | apply Kd.R_drew)); exact HO_9.out⟩, ⟨pE HB⟩⟩
             ·rw [if_neg c30] at H
              have c30b0 : (((Ql t106 x13_2).f2) == ((Ql l1 x13_2).f2)) = false := beq_eq_false_iff_ne.mpr c30; have c30b1 : (((Ql t106 x13_2).f2) != ((Ql l1 x13_2).f2)) = true := bne_iff_ne.mpr c30; exact absurd ((Option.some.inj H).trans HRT.out) (by simp)
            ·replace c29 := Bool.eq_false_iff.mpr c29
             subst c29; rw [if_neg (show ¬ (false = true) by decide)] at H; exact absurd ((Option.some.inj H).trans HRT.out) (by simp)
           ·replace c27 := Bool.eq_false_iff.mpr c27
            subst c27; rw [if_neg (show ¬ (false = true) by decide)] at H; exact absurd ((Option.some.inj H).trans HRT.out) (by simp)
          ·rw [if_neg c25] at H
           exact absurd H (by simp)
         ·rw [if_neg c24] at H
          exact absurd H (by simp)
        ·rw [if_neg c23] at H
         have c23b0 : ((t106.length : Int) == (l1.length : Int)) = false := beq_eq_false_iff_ne.mpr c23; have c23b1 : ((t106.length : Int) != (l1.length : Int)) = true := bne_iff_ne.mpr c23; have c23b2 : (t106.length == l1.length) = false := by first | simpa using c23 | (simp at c23 ⊢; omega)
         exact absurd ((Option.some.inj H).trans HRT.out) (by simp)
       ·rw [if_neg c22] at H
        have c22b0 : decide (x13_2 < (l1.length : Int)) = false := decide_eq_false c22; clear c22; obtain ⟨t123, A32, H⟩ := bi H; obtain ⟨y124, hy124⟩ : ∃ y_ : List Int, y_ = (([] : List Int)) := ⟨_, rfl⟩
        replace H : (if t123 = 0 then ((Qar.f k2 a0 l1 a2).bind fun t127 => (if (t127.length : Int) = 0 then (Qao.j2 k2 a0 l1 t109 t110 t113 t114 9 t127) else (Qao.j2 k2 a0 l1 t109 t110 t113 t114 t123 t127))) else (Qao.j2 k2 a0 l1 t109 t110 t113 t114 t123 y124)) = some r := yy hy124 H; have Ny124 := Qa.mk hy124; clear hy124; have HC33 := Qa.mk H; clear H
        go_upto_if 116 with (first | ((with_reducible refine gc 46 rfl ?_); refine gL 113 Tryz.func46 #[.int .i64 a0, .slice A1 l1.length c1, .int .i64 a2] ?_; (with_reducible refine (Qau.calls k2 a0 _ _ l1 a2 t123 _ ?side1 ?side2 A32.out).mono ?_); (case side1 => exact pC (Kd.C_below HR1.out HB.out)); (case side2 => exact HC1.out); rintro e w34 ⟨rfl, hb⟩; refine ⟨_, rfl, ?_⟩; replace HO_8 := Qa.mk (Kd.S_below (pS HO_8.out) hb); replace HO_9 := rb HO_9 hb; replace HB := bs HB hb; clear hb) | ((with_reducible refine gd 114 ?_); (try (refine QG (by rfl) ?_; dsimp only)); refine rL (Kd.int .i64) 3 114 ([] : List Int) [] (Reps.none _ _) ?_; intro v125 w35 ho36 hb; replace ho36 := yR Ny124 ho36; replace HO_8 := Qa.mk (Kd.S_elder' (pS HO_8.out) (Kd.R_base ho36) hb); have HO126 := Qa.mk (Kd.R_lower (Kd.R_new' ho36 (Kd.R_lt (pR HO_9.out))) (Qr (pE HB))); replace HO_9 := re HO_9 ho36 hb; replace HB := bs HB hb; clear hb ho36))
        (try simp only [Act.put, List.setIfInBounds_toArray, List.set_cons_zero, List.set_cons_succ])
        go_cut [14, 15] (fun v14 v15 wc => ∃ (kq : Nat) (x14_32 : Int) (x15_32 : List Int), v14 = .int .i64 x14_32 ∧ Qa (Qao.j2 kq a0 l1 t109 t110 t113 t114 x14_32 x15_32 = some r) ∧ Qa (kq ≤ k2) ∧ Qa (Kd.R (Kd.int .i64) 3 wc w.heap.size (fun k_ => some k_ ≠ (v15 : Value).ownBlock) v111 t109) ∧ Qa (Kd.R (Kd.int .i64) 3 wc w.heap.size (fun k_ => some k_ ≠ (v111 : Value).ownBlock) v15 x15_32) ∧ Qa (Below w.heap.size w wc))
        case first =>
         have H := HC33.out; clear HC33; by_cases c37 : t123 = 0
         ·rw [if_pos c37] at H
          have c37b0 : (t123 == 0) = true := beq_iff_eq.mpr c37; have c37b1 : (t123 != 0) = false := bne_eq_false_iff_eq.mpr c37; clear c37
          (first | rw [c37b0] | (simp only [QR, QU]; rw [c37b0]) | skip)
          obtain ⟨t127, A38, H⟩ := bi H; by_cases c39 : (t127.length : Int) = 0
          ·rw [if_pos c39] at H
           have c39b0 : ((t127.length : Int) == 0) = true := beq_iff_eq.mpr c39; have c39b1 : ((t127.length : Int) != 0) = false := bne_eq_false_iff_eq.mpr c39; clear c39; have H' := Qa.mk H; clear H; go_wp2_with (first | ((with_reducible refine gc 47 rfl ?_); refine gL 120 Tryz.func47 #[.int .i64 a0, .slice A1 l1.length c1, .int .i64 a2] ?_; (with_reducible refine (Qar.calls k2 a0 _ _ l1 a2 t127 _ ?side1 ?side2 A38.out).mono ?_); (case side1 => exact pC (Kd.C_below HR1.out HB.out)); (case side2 => exact HC1.out); rintro e w40 ⟨v128, rfl, ho0, hb⟩; refine ⟨_, rfl, ?_⟩; replace HO_8 := Qa.mk (Kd.S_elder' (pS HO_8.out) (Kd.R_base ho0) hb); have HO129 := Qa.mk (Kd.R_lower (Kd.R_new' (Kd.R_new' ho0 (Kd.R_lt (pR HO_9.out))) (Kd.R_lt (pR HO126.out))) (Qr (pE HB))); replace HO_9 := re HO_9 ho0 hb; replace HO126 := re HO126 ho0 hb; replace HB := bs HB hb; clear hb ho0; obtain ⟨Ao41, co41, eo41⟩ := Kd.R_slice HO129.out; subst eo41))
           go_meet
           case rel => exact ⟨_, (9), (t127), eS, H', ⟨by have := HK1.out; have := HK2.out; first | omega | exact Nat.le_refl _⟩, ⟨by (with_reducible repeat (first | apply Kd.R_alloc | apply Kd.R_drewN | apply Kd.R_drew)); exact Kd.R_mono HO_9.out (fun _ hk => hk.2)⟩, ⟨by (with_reducible repeat (first | apply Kd.R_alloc | apply Kd.R_drewN | apply Kd.R_drew)); exact Kd.R_mono HO129.out (fun _ hk => hk.1.2)⟩, ⟨pE HB⟩⟩
          ·rw [if_neg c39] at H
           have c39b0 : ((t127.length : Int) == 0) = false := beq_eq_false_iff_ne.mpr c39; have c39b1 : ((t127.length : Int) != 0) = true := bne_iff_ne.mpr c39; have c39b2 : ¬ (t127 = []) := fun h_ => c39 (by rw [h_]; rfl)
           have H' := Qa.mk H; clear H; go_wp2_with (first | ((with_reducible refine gc 47 rfl ?_); refine gL 120 Tryz.func47 #[.int .i64 a0, .slice A1 l1.length c1, .int .i64 a2] ?_; (with_reducible refine (Qar.calls k2 a0 _ _ l1 a2 t127 _ ?side1 ?side2 A38.out).mono ?_); (case side1 => exact pC (Kd.C_below HR1.out HB.out)); (case side2 => exact HC1.out); rintro e w42 ⟨v128, rfl, ho0, hb⟩; refine ⟨_, rfl, ?_⟩; replace HO_8 := Qa.mk (Kd.S_elder' (pS HO_8.out) (Kd.R_base ho0) hb); have HO129 := Qa.mk (Kd.R_lower (Kd.R_new' (Kd.R_new' ho0 (Kd.R_lt (pR HO_9.out))) (Kd.R_lt (pR HO126.out))) (Qr (pE HB))); replace HO_9 := re HO_9 ho0 hb; replace HO126 := re HO126 ho0 hb; replace HB := bs HB hb; clear hb ho0; obtain ⟨Ao43, co43, eo43⟩ := Kd.R_slice HO129.out; subst eo43))
           go_meet
           case rel => exact ⟨_, (t123), (t127), eS, H', ⟨by have := HK1.out; have := HK2.out; first | omega | exact Nat.le_refl _⟩, ⟨by (with_reducible repeat (first | apply Kd.R_alloc | apply Kd.R_drewN | apply Kd.R_drew)); exact Kd.R_mono HO_9.out (fun _ hk => hk.2)⟩, ⟨by (with_reducible repeat (first | apply Kd.R_alloc | apply Kd.R_drewN | apply Kd.R_drew)); exact Kd.R_mono HO129.out (fun _ hk => hk.1.2)⟩, ⟨pE HB⟩⟩
         ·rw [if_neg c37] at H
          have c37b0 : (t123 == 0) = false := beq_eq_false_iff_ne.mpr c37; have c37b1 : (t123 != 0) = true := bne_iff_ne.mpr c37
          (first | rw [c37b0] | (simp only [QR, QU]; rw [c37b0]) | skip)
          have H' := Qa.mk H; clear H; go_wp2
          go_meet
          case rel => exact ⟨_, (t123), (y124), eS, H', ⟨by have := HK1.out; have := HK2.out; first | omega | exact Nat.le_refl _⟩, ⟨by (with_reducible repeat (first | apply Kd.R_alloc | apply Kd.R_drewN | apply Kd.R_drew)); exact Kd.R_mono HO_9.out (fun _ hk => hk.2)⟩, ⟨by (with_reducible repeat (first | apply Kd.R_alloc | apply Kd.R_drewN | apply Kd.R_drew)); exact Kd.R_mono HO126.out (fun _ hk => hk.2)⟩, ⟨pE HB⟩⟩
        case rest =>
         clear HC33
         (try clear c1); (try clear c22b0)
         obtain ⟨kq, x14_32, x15_32, rfl, HA, HJ32, HO_9, HO_15, HB⟩ := hcut
         cases kq with
         | zero => exact absurd HA.out (by simp [Qao.j2])
         | succ kj32 =>
          have H := HA.out; clear HA; simp only [Qao.j2] at H; have HC44 := Qa.mk H; clear H; go_upto_region 22 with (fail)
          go_cut [145] (fun v145 wc => ∃ (kq : Nat) (x145_43 : Bool), v145 = .bool x145_43 ∧ Qa (Qao.j3 kq a0 l1 t113 t114 x145_43 = some r) ∧ Qa (kq ≤ kj32) ∧ Qa (Below w.heap.size w wc))
          case first =>
           have H := HC44.out; clear HC44; by_cases c45 : t110 = x14_32
           ·rw [if_pos c45] at H
            have c45b0 : (t110 == x14_32) = true := beq_iff_eq.mpr c45; have c45b1 : (t110 != x14_32) = false := bne_eq_false_iff_eq.mpr c45; clear c45
            (first | rw [c45b0] | (simp only [QR, QU]; rw [c45b0]) | skip)
            by_cases c46 : x14_32 = 0
            ·rw [if_pos c46] at H
             have c46b0 : (x14_32 == 0) = true := beq_iff_eq.mpr c46; have c46b1 : (x14_32 != 0) = false := bne_eq_false_iff_eq.mpr c46; clear c46; obtain ⟨t130, A47, H⟩ := bi H; have H' := Qa.mk H; clear H; obtain ⟨Ao48, co48, eo48⟩ := Kd.R_slice HO_9.out; subst eo48; obtain ⟨Ao49, co49, eo49⟩ := Kd.R_slice HO_15.out; subst eo49; go_wp2_with (first | (go_at_call 23; (with_reducible refine (Qm.calls kj32 _ _ t109 _ _ x15_32 t130 _ ?side1 ?side2 ?side3 ?side4 A47.out).mono ?_); (case side1 => exact pC (Kd.R_reads' HO_9.out).2.2); (case side2 => exact (Kd.R_reads' HO_9.out).2.1); (case side3 => exact pC (Kd.R_reads' HO_15.out).2.2); (case side4 => exact (Kd.R_reads' HO_15.out).2.1); rintro e w' ⟨rfl, ⟨nd, rfl⟩⟩))
             go_meet
             case rel => exact ⟨_, (!t130), eS, H', ⟨by have := HK1.out; have := HK2.out; have := HJ32.out; first | omega | exact Nat.le_refl _⟩, ⟨pE HB⟩⟩
            ·rw [if_neg c46] at H
             have c46b0 : (x14_32 == 0) = false := beq_eq_false_iff_ne.mpr c46; have c46b1 : (x14_32 != 0) = true := bne_iff_ne.mpr c46; by_cases c50 : (t109.length : Int) = 0
             ·rw [if_pos c50] at H
              have c50b0 : ((t109.length : Int) == 0) = true := beq_iff_eq.mpr c50; have c50b1 : ((t109.length : Int) != 0) = false := bne_eq_false_iff_eq.mpr c50; clear c50; have H' := Qa.mk H; clear H; obtain ⟨Ao51, co51, eo51⟩ := Kd.R_slice HO_9.out; subst eo51; go_wp2
              go_meet
              case rel => exact ⟨_, (false), eS, H', ⟨by have := HK1.out; have := HK2.out; have := HJ32.out; first | omega | exact Nat.le_refl _⟩, ⟨pE HB⟩⟩
             ·rw [if_neg c50] at H
              have c50b0 : ((t109.length : Int) == 0) = false := beq_eq_false_iff_ne.mpr c50; have c50b1 : ((t109.length : Int) != 0) = true := bne_iff_ne.mpr c50; have c50b2 : ¬ (t109 = []) := fun h_ => c50 (by rw [h_]; rfl)
              exact (Qao.dead_j3 _ _ _ _ _ _ H HRT.out).elim
           ·rw [if_neg c45] at H
            have c45b0 : (t110 == x14_32) = false := beq_eq_false_iff_ne.mpr c45; have c45b1 : (t110 != x14_32) = true := bne_iff_ne.mpr c45
            (first | rw [c45b0] | (simp only [QR, QU]; rw [c45b0]) | skip)
            exact (Qao.dead_j3 _ _ _ _ _ _ H HRT.out).elim
          case rest =>
           clear HC44; obtain ⟨kq, x145_43, rfl, HA, HJ43, HB⟩ := hcut
           cases kq with
           | zero => exact absurd HA.out (by simp [Qao.j3])
           | succ kj43 =>
            have H := HA.out; clear HA; simp only [Qao.j3] at H; by_cases c52 : x145_43 = true
            ·subst c52
             rw [if_pos rfl] at H; exact absurd ((Option.some.inj H).trans HRT.out) (by simp)
            ·replace c52 := Bool.eq_false_iff.mpr c52
             subst c52; rw [if_neg (show ¬ (false = true) by decide)] at H; obtain ⟨y131, hy131⟩ : ∃ y_ : List Int, y_ = (([] : List Int)) := ⟨_, rfl⟩
             replace H : ((Qau.f kj43 a0 l1 0).bind fun t134 => (if t134 = 0 then ((Qar.f kj43 a0 l1 0).bind fun t135 => (if (t135.length : Int) = 0 then (Qao.j4 kj43 a0 t113 t114 9 t135) else (Qao.j4 kj43 a0 t113 t114 t134 t135))) else (Qao.j4 kj43 a0 t113 t114 t134 y131))) = some r := yy hy131 H; have Ny131 := Qa.mk hy131; clear hy131; obtain ⟨t134, A53, H⟩ := bi H; have HC54 := Qa.mk H; clear H
             go_upto_if 151 with (first | ((with_reducible refine gd 146 ?_); (try (refine QG (by rfl) ?_; dsimp only)); refine rL (Kd.int .i64) 3 146 ([] : List Int) [] (Reps.none _ _) ?_; intro v132 w55 ho56 hb; replace ho56 := yR Ny131 ho56; have HO133 := rl ho56 HB; replace HB := bs HB hb; clear hb ho56) | ((with_reducible refine gc 46 rfl ?_); refine gL 149 Tryz.func46 #[.int .i64 a0, .slice A1 l1.length c1, .int .i64 0] ?_; (with_reducible refine (Qau.calls kj43 a0 _ _ l1 0 t134 _ ?side1 ?side2 A53.out).mono ?_); (case side1 => exact pC (Kd.C_below HR1.out HB.out)); (case side2 => exact HC1.out); rintro e w57 ⟨rfl, hb⟩; refine ⟨_, rfl, ?_⟩; replace HO133 := rb HO133 hb; replace HB := bs HB hb; clear hb))
             (try simp only [Act.put, List.setIfInBounds_toArray, List.set_cons_zero, List.set_cons_succ])
             go_cut [14, 15] (fun v14 v15 wc => ∃ (kq : Nat) (x14_53 : Int) (x15_53 : List Int), v14 = .int .i64 x14_53 ∧ Qa (Qao.j4 kq a0 t113 t114 x14_53 x15_53 = some r) ∧ Qa (kq ≤ kj43) ∧ Qa (Kd.R (Kd.int .i64) 3 wc w.heap.size (fun _ => True) v15 x15_53) ∧ Qa (Below w.heap.size w wc))
             case first =>
              have H := HC54.out; clear HC54; by_cases c58 : t134 = 0
              ·rw [if_pos c58] at H
               have c58b0 : (t134 == 0) = true := beq_iff_eq.mpr c58; have c58b1 : (t134 != 0) = false := bne_eq_false_iff_eq.mpr c58; clear c58
               (first | rw [c58b0] | (simp only [QR, QU]; rw [c58b0]) | skip)
               obtain ⟨t135, A59, H⟩ := bi H; by_cases c60 : (t135.length : Int) = 0
               ·rw [if_pos c60] at H
                have c60b0 : ((t135.length : Int) == 0) = true := beq_iff_eq.mpr c60; have c60b1 : ((t135.length : Int) != 0) = false := bne_eq_false_iff_eq.mpr c60; clear c60; have H' := Qa.mk H; clear H; go_wp2_with (first | ((with_reducible refine gc 47 rfl ?_); refine gL 154 Tryz.func47 #[.int .i64 a0, .slice A1 l1.length c1, .int .i64 0] ?_; (with_reducible refine (Qar.calls kj43 a0 _ _ l1 0 t135 _ ?side1 ?side2 A59.out).mono ?_); (case side1 => exact pC (Kd.C_below HR1.out HB.out)); (case side2 => exact HC1.out); rintro e w61 ⟨v136, rfl, ho0, hb⟩; refine ⟨_, rfl, ?_⟩; have HO137 := Qa.mk (Kd.R_lower (Kd.R_new' ho0 (Kd.R_lt (pR HO133.out))) (Qr (pE HB))); replace HO133 := re HO133 ho0 hb; replace HB := bs HB hb; clear hb ho0; obtain ⟨Ao62, co62, eo62⟩ := Kd.R_slice HO137.out; subst eo62))
                go_meet
                case rel => exact ⟨_, (9), (t135), eS, H', ⟨by have := HK1.out; have := HK2.out; have := HJ32.out; have := HJ43.out; first | omega | exact Nat.le_refl _⟩, ⟨by (with_reducible repeat (first | apply Kd.R_alloc | apply Kd.R_drewN | apply Kd.R_drew)); exact Kd.R_mono HO137.out (fun _ hk => trivial)⟩, ⟨pE HB⟩⟩
               ·rw [if_neg c60] at H
                have c60b0 : ((t135.length : Int) == 0) = false := beq_eq_false_iff_ne.mpr c60; have c60b1 : ((t135.length : Int) != 0) = true := bne_iff_ne.mpr c60; have c60b2 : ¬ (t135 = []) := fun h_ => c60 (by rw [h_]; rfl)
                have H' := Qa.mk H; clear H; go_wp2_with (first | ((with_reducible refine gc 47 rfl ?_); refine gL 154 Tryz.func47 #[.int .i64 a0, .slice A1 l1.length c1, .int .i64 0] ?_; (with_reducible refine (Qar.calls kj43 a0 _ _ l1 0 t135 _ ?side1 ?side2 A59.out).mono ?_); (case side1 => exact pC (Kd.C_below HR1.out HB.out)); (case side2 => exact HC1.out); rintro e w63 ⟨v136, rfl, ho0, hb⟩; refine ⟨_, rfl, ?_⟩; have HO137 := Qa.mk (Kd.R_lower (Kd.R_new' ho0 (Kd.R_lt (pR HO133.out))) (Qr (pE HB))); replace HO133 := re HO133 ho0 hb; replace HB := bs HB hb; clear hb ho0; obtain ⟨Ao64, co64, eo64⟩ := Kd.R_slice HO137.out; subst eo64))
                go_meet
                case rel => exact ⟨_, (t134), (t135), eS, H', ⟨by have := HK1.out; have := HK2.out; have := HJ32.out; have := HJ43.out; first | omega | exact Nat.le_refl _⟩, ⟨by (with_reducible repeat (first | apply Kd.R_alloc | apply Kd.R_drewN | apply Kd.R_drew)); exact Kd.R_mono HO137.out (fun _ hk => trivial)⟩, ⟨pE HB⟩⟩
              ·rw [if_neg c58] at H
               have c58b0 : (t134 == 0) = false := beq_eq_false_iff_ne.mpr c58; have c58b1 : (t134 != 0) = true := bne_iff_ne.mpr c58
               (first | rw [c58b0] | (simp only [QR, QU]; rw [c58b0]) | skip)
               have H' := Qa.mk H; clear H; go_wp2
               go_meet
               case rel => exact ⟨_, (t134), (y131), eS, H', ⟨by have := HK1.out; have := HK2.out; have := HJ32.out; have := HJ43.out; first | omega | exact Nat.le_refl _⟩, ⟨by (with_reducible repeat (first | apply Kd.R_alloc | apply Kd.R_drewN | apply Kd.R_drew)); exact HO133.out⟩, ⟨pE HB⟩⟩
             case rest =>
              clear HC54
              (try clear c1); (try clear c52)
              obtain ⟨kq, x14_53, x15_53, rfl, HA, HJ53, HO_15, HB⟩ := hcut
              cases kq with
              | zero => exact absurd HA.out (by simp [Qao.j4])
              | succ kj53 =>
               have H := HA.out; clear HA; simp only [Qao.j4] at H; by_cases c65 : x14_53 = 0
               ·rw [if_pos c65] at H
                have c65b0 : (x14_53 == 0) = true := beq_iff_eq.mpr c65; have c65b1 : (x14_53 != 0) = false := bne_eq_false_iff_eq.mpr c65; clear c65; by_cases c66 : t114 = 0
                ·rw [if_pos c66] at H
                 have c66b0 : (t114 == 0) = true := beq_iff_eq.mpr c66; have c66b1 : (t114 != 0) = false := bne_eq_false_iff_eq.mpr c66; clear c66; obtain ⟨t138, A67, H⟩ := bi H; by_cases c68 : t113 = t138
                 ·rw [if_pos c68] at H
                  have c68b0 : (t113 == t138) = true := beq_iff_eq.mpr c68; have c68b1 : (t113 != t138) = false := bne_eq_false_iff_eq.mpr c68; clear c68; obtain ⟨t139, A69, H⟩ := bi H; obtain rfl := Option.some.inj H; obtain ⟨Ao70, co70, eo70⟩ := Kd.R_slice HO_15.out; subst eo70; go_wp2_with (first | (go_at_call 48; (with_reducible refine (Qap.calls kj53 (x15_53.length : Int) (wrap64 (a0 - (x15_53.length : Int))) t138 _ A67.out).mono ?_); rintro e w71 ⟨rfl, hb⟩; replace HO_15 := rb HO_15 hb; replace HB := bs HB hb; (try clear hb); (try clear hb2); (try clear hk); (try clear hi)) | (go_at_call 15; (with_reducible refine (Qd.calls kj53  t139 _ A69.out).mono ?_); rintro e w72 ⟨rfl, hb⟩; replace HO_15 := rb HO_15 hb; replace HB := bs HB hb; (try clear hb); (try clear hb2); (try clear hk); (try clear hi))); go_ret; exact ⟨eT, pE HB⟩
                 ·rw [if_neg c68] at H
                  have c68b0 : (t113 == t138) = false := beq_eq_false_iff_ne.mpr c68; have c68b1 : (t113 != t138) = true := bne_iff_ne.mpr c68; exact absurd ((Option.some.inj H).trans HRT.out) (by simp)
                ·rw [if_neg c66] at H
                 have c66b0 : (t114 == 0) = false := beq_eq_false_iff_ne.mpr c66; have c66b1 : (t114 != 0) = true := bne_iff_ne.mpr c66; exact absurd ((Option.some.inj H).trans HRT.out) (by simp)
               ·rw [if_neg c65] at H
                have c65b0 : (x14_53 == 0) = false := beq_eq_false_iff_ne.mpr c65; have c65b1 : (x14_53 != 0) = true := bne_iff_ne.mpr c65; by_cases c73 : t114 = x14_53
                ·rw [if_pos c73] at H
                 have c73b0 : (t114 == x14_53) = true := beq_iff_eq.mpr c73; have c73b1 : (t114 != x14_53) = false := bne_eq_false_iff_eq.mpr c73; clear c73; by_cases c74 : t113 = 0
                 ·rw [if_pos c74] at H
                  have c74b0 : (t113 == 0) = true := beq_iff_eq.mpr c74; have c74b1 : (t113 != 0) = false := bne_eq_false_iff_eq.mpr c74; clear c74; obtain ⟨t140, A75, H⟩ := bi H; obtain rfl := Option.some.inj H; go_wp2_with (first | (go_at_call 15; (with_reducible refine (Qd.calls kj53  t140 _ A75.out).mono ?_); rintro e w76 ⟨rfl, hb⟩; replace HO_15 := rb HO_15 hb; replace HB := bs HB hb; (try clear hb); (try clear hb2); (try clear hk); (try clear hi))); go_ret; exact ⟨eT, pE HB⟩
                 ·rw [if_neg c74] at H
                  have c74b0 : (t113 == 0) = false := beq_eq_false_iff_ne.mpr c74; have c74b1 : (t113 != 0) = true := bne_iff_ne.mpr c74; exact absurd ((Option.some.inj H).trans HRT.out) (by simp)
                ·rw [if_neg c73] at H
                 have c73b0 : (t114 == x14_53) = false := beq_eq_false_iff_ne.mpr c73; have c73b1 : (t114 != x14_53) = true := bne_iff_ne.mpr c73; exact absurd ((Option.some.inj H).trans HRT.out) (by simp)
end Go.Proofs.YtjaapkkpmegkfaaGreat.P
