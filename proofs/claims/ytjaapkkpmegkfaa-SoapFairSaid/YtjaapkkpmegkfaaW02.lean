/- Part 2 of what the law's proof needs beyond its base: words, walks of functions and plain facts. -/
import Derived.Test.YtjaapkkpmegkfaaW01
set_option linter.unusedVariables false
set_option linter.unusedSimpArgs false
namespace Go.Proofs.Ytjaapkkpmegkfaa.P
open Go.RowKit Go.Proofs.YtjaapkkpmegkfaaW.PrintWords Go.Proofs.YtjaapkkpmegkfaaW.PrintLast Go.Proofs.YtjaapkkpmegkfaaW.PrintMore
attribute [local go_sem] JG JH JY JX Jv Ju JJ JK
mutual
def Qao.l0 : Nat → List Int → Int → List Int → Int → Int → Option Bool
 | 0, _, _, _, _, _ => none
 | k + 1, x0, x1, x5, x6, x7 => if x7 < 6 then (if x7 = 0 then (Qao.j1 k x0 x1 x5 x6 x7 true) else (Qao.j1 k x0 x1 x5 x6 x7 (decide (x7 < (x0.length : Int))))) else (Qao.j1 k x0 x1 x5 x6 x7 false)
def Qao.j1 : Nat → List Int → Int → List Int → Int → Int → Bool → Option Bool
 | 0, _, _, _, _, _, _ => none
 | k + 1, x0, x1, x5, x6, x7, x27 => if x27 = true then (if x7 < (x0.length : Int) then (if 0 ≤ x7 then (if x5.length < 17592186044416 then (Qao.l0 k x0 x1 (x5 ++ [wrap64 (1 + (Int.tmod (wrap64 (rd x0 x7)) 100))]) (wrap64 (x6 + (wrap64 (1 + (Int.tmod (wrap64 (rd x0 x7)) 100))))) (wrap64 (x7 + 1))) else (none)) else (none)) else (if x5.length < 17592186044416 then (Qao.l0 k x0 x1 (x5 ++ [1]) (wrap64 (x6 + 1)) (wrap64 (x7 + 1))) else (none))) else ((Qaq.f x5).bind fun t111 => ((QE.f k t111 (wrap64 (x1))).bind fun bt114 => (if bt114.2 = 0 then (Qao.j2 k x5 x6 (wrap64 (x1)) bt114.1 ((bt114.1.length : Int) != (x5.length : Int))) else (Qao.j2 k x5 x6 (wrap64 (x1)) bt114.1 true))))
def Qao.j2 : Nat → List Int → Int → Int → List Int → Bool → Option Bool
 | 0, _, _, _, _, _ => none
 | k + 1, x5, x6, x9, x10, x66 => if x66 = true then (some false) else (Qao.l1 k x5 x6 x9 x10 0 0)
def Qao.l1 : Nat → List Int → Int → Int → List Int → Int → Int → Option Bool
 | 0, _, _, _, _, _, _ => none
 | k + 1, x5, x6, x9, x10, x12, x13 => if x13 < (x10.length : Int) then (if 0 ≤ x13 then (if (rd x10 x13) < 0 then (Qao.j4 k x5 x6 x9 x10 x12 x13 true) else (if (rd x10 x13) > x9 then (Qao.j4 k x5 x6 x9 x10 x12 x13 true) else (if x13 < (x5.length : Int) then (if (wrap64 ((wrap64 ((rd x10 x13) + 1)) * x6)) ≤ (wrap64 (x9 * (rd x5 x13))) then (Qao.j4 k x5 x6 x9 x10 x12 x13 true) else (Qao.j4 k x5 x6 x9 x10 x12 x13 (decide ((wrap64 ((wrap64 ((rd x10 x13) - 1)) * x6)) ≥ (wrap64 (x9 * (rd x5 x13))))))) else (none)))) else (none)) else (if x12 = x9 then ((Qd.f k).bind fun t118 => (some t118)) else (some false))
def Qao.j4 : Nat → List Int → Int → Int → List Int → Int → Int → Bool → Option Bool
 | 0, _, _, _, _, _, _, _ => none
 | k + 1, x5, x6, x9, x10, x12, x13, x117 => if x117 = true then (some false) else (if 0 ≤ x13 then (if x13 < (x10.length : Int) then (Qao.l2 k x5 x6 x9 x10 (wrap64 (x12 + (rd x10 x13))) x13 0) else (none)) else (none))
def Qao.l2 : Nat → List Int → Int → Int → List Int → Int → Int → Int → Option Bool
 | 0, _, _, _, _, _, _, _ => none
 | k + 1, x5, x6, x9, x10, x12, x13, x14 => if x14 < x13 then (if 0 ≤ x14 then (if x14 < (x5.length : Int) then (if 0 ≤ x13 then (if x13 < (x5.length : Int) then (if (rd x5 x14) > (rd x5 x13) then (if x14 < (x10.length : Int) then (if x13 < (x10.length : Int) then (if (rd x10 x14) < (rd x10 x13) then (Qao.j6 k x5 x6 x9 x10 x12 x13 x14 true) else (if (rd x5 x13) > (rd x5 x14) then (if (rd x10 x13) < (rd x10 x14) then (Qao.j6 k x5 x6 x9 x10 x12 x13 x14 true) else (if (rd x5 x13) = (rd x5 x14) then (if (rd x10 x13) > (rd x10 x14) then (Qao.j6 k x5 x6 x9 x10 x12 x13 x14 true) else (Qao.j6 k x5 x6 x9 x10 x12 x13 x14 (decide ((rd x10 x13) < (wrap64 ((rd x10 x14) - 1)))))) else (Qao.j6 k x5 x6 x9 x10 x12 x13 x14 false))) else (if (rd x5 x13) = (rd x5 x14) then (if (rd x10 x13) > (rd x10 x14) then (Qao.j6 k x5 x6 x9 x10 x12 x13 x14 true) else (Qao.j6 k x5 x6 x9 x10 x12 x13 x14 (decide ((rd x10 x13) < (wrap64 ((rd x10 x14) - 1)))))) else (Qao.j6 k x5 x6 x9 x10 x12 x13 x14 false)))) else (none)) else (none)) else (if (rd x5 x13) > (rd x5 x14) then (if x13 < (x10.length : Int) then (if x14 < (x10.length : Int) then (if (rd x10 x13) < (rd x10 x14) then (Qao.j6 k x5 x6 x9 x10 x12 x13 x14 true) else (if (rd x5 x13) = (rd x5 x14) then (if (rd x10 x13) > (rd x10 x14) then (Qao.j6 k x5 x6 x9 x10 x12 x13 x14 true) else (Qao.j6 k x5 x6 x9 x10 x12 x13 x14 (decide ((rd x10 x13) < (wrap64 ((rd x10 x14) - 1)))))) else (Qao.j6 k x5 x6 x9 x10 x12 x13 x14 false))) else (none)) else (none)) else (if (rd x5 x13) = (rd x5 x14) then (if x13 < (x10.length : Int) then (if x14 < (x10.length : Int) then (if (rd x10 x13) > (rd x10 x14) then (Qao.j6 k x5 x6 x9 x10 x12 x13 x14 true) else (Qao.j6 k x5 x6 x9 x10 x12 x13 x14 (decide ((rd x10 x13) < (wrap64 ((rd x10 x14) - 1)))))) else (none)) else (none)) else (Qao.j6 k x5 x6 x9 x10 x12 x13 x14 false)))) else (none)) else (none)) else (none)) else (none)) else (Qao.l1 k x5 x6 x9 x10 x12 (wrap64 (x13 + 1)))
def Qao.j6 : Nat → List Int → Int → Int → List Int → Int → Int → Int → Bool → Option Bool
 | 0, _, _, _, _, _, _, _, _ => none
 | k + 1, x5, x6, x9, x10, x12, x13, x14, x204 => if x204 = true then (some false) else (Qao.l2 k x5 x6 x9 x10 x12 x13 (wrap64 (x14 + 1)))
end
def Qao.f (k : Nat) (l0 : List Int) (a1 : Int) : Option Bool := Qao.l0 k l0 a1 (([] : List Int)) 0 0
theorem Qao.dead_j2 : ∀ k y0 y1 y2 y3 r, Qao.j2 k y0 y1 y2 y3 true = some r → r = true → False := by
 intro k y0 y1 y2 y3 r h hr
 cases k with
 | zero => simp [Qao.j2] at h
 | succ k => exact absurd ((Option.some.inj (show (some false : Option Bool) = some r from h)).trans hr) (by simp)
theorem Qao.dead_j4 : ∀ k y0 y1 y2 y3 y4 y5 r, Qao.j4 k y0 y1 y2 y3 y4 y5 true = some r → r = true → False := by
 intro k y0 y1 y2 y3 y4 y5 r h hr
 cases k with
 | zero => simp [Qao.j4] at h
 | succ k => exact absurd ((Option.some.inj (show (some false : Option Bool) = some r from h)).trans hr) (by simp)
theorem Qao.dead_j6 : ∀ k y0 y1 y2 y3 y4 y5 y6 r, Qao.j6 k y0 y1 y2 y3 y4 y5 y6 true = some r → r = true → False := by
 intro k y0 y1 y2 y3 y4 y5 y6 r h hr
 cases k with
 | zero => simp [Qao.j6] at h
 | succ k => exact absurd ((Option.some.inj (show (some false : Option Bool) = some r from h)).trans hr) (by simp)
set_option maxHeartbeats 8000000 in
set_option maxRecDepth 100000 in
theorem Qao.calls_true (k : Nat) (A0 : Option Addr) (c0 : Nat) (l0 : List Int) (a1 : Int) (r : Bool) (w : World) (hr0 : Kd.C (Kd.int .u8) w A0 l0.length l0) (hc0 : l0.length ≤ c0) (hrt : r = true) (h : Qao.f k l0 a1 = some r) :
  Calls Try.prog 3 #[.slice A0 l0.length c0, .int .u16 a1] w fun e w' => e = .returned (.bool r) ∧ Below w.heap.size w w' := by
 have HRT := Qa.mk hrt; clear hrt; have HR0 := Qa.mk hr0; have HC0 := Qa.mk hc0; clear hr0 hc0; have HB := Qa.mk (Below.refl w.heap.size w); have H : (Qao.l0 k l0 a1 (([] : List Int)) 0 0) = some r := h; clear h; obtain ⟨y101, hy101⟩ : ∃ y_ : List Int, y_ = (([] : List Int)) := ⟨_, rfl⟩
 replace H : (Qao.l0 k l0 a1 y101 0 0) = some r := yy hy101 H; have Ny101 := Qa.mk hy101; clear hy101; have H' := Qa.mk H; clear H; go_enter Try.func3, Try.ntmps3; go_wp2_with (first | ((with_reducible refine gd 15 ?_); (try (refine QG (by rfl) ?_; dsimp only)); refine rL (Kd.int .i64) 3 15 ([] : List Int) [] (Reps.none _ _) ?_; intro v102 w3 ho4 hb; replace ho4 := yR Ny101 ho4; have HO103 := rl ho4 HB; replace HB := bs HB hb; clear hb ho4))
 repeat (go_quiet (fail))
 go_loopg [5, 6, 7] k (fun kq v5 v6 v7 w' => ∃ (x5_1 : List Int) (x6_1 : Int) (x7_1 : Int), v6 = .int .i64 x6_1 ∧ v7 = .int .i64 x7_1 ∧ Qa (Qao.l0 kq l0 a1 x5_1 x6_1 x7_1 = some r) ∧ Qa (kq ≤ k) ∧ Qa (Kd.R (Kd.int .i64) 3 w' w.heap.size (fun _ => True) v5 x5_1) ∧ Qa (Below w.heap.size w w'))
 case atStart => exact ⟨(y101), (0), (0), eS, eS, H', ⟨Nat.le_refl _⟩, ⟨by (with_reducible repeat (first | apply Kd.R_alloc | apply Kd.R_drewN | apply Kd.R_drew)); exact HO103.out⟩, ⟨pE HB⟩⟩
 case round =>
  as_aux_lemma =>
  clear H'; obtain ⟨x5_1, x6_1, x7_1, rfl, rfl, HA, HK1, HO_5, HB⟩ := hrel
  cases gk with
  | zero => exact absurd HA.out (by simp [Qao.l0])
  | succ k1 =>
   have H := HA.out; clear HA; simp only [Qao.l0] at H; have HC5 := Qa.mk H; clear H; go_upto_region 3 with (fail)
   repeat (go_quiet (fail); go_upto_region 3 with (fail))
   go_cut [27] (fun v27 wc => ∃ (kq : Nat) (x27_4 : Bool), v27 = .bool x27_4 ∧ Qa (Qao.j1 kq l0 a1 x5_1 x6_1 x7_1 x27_4 = some r) ∧ Qa (kq ≤ k1) ∧ Qa (Kd.R (Kd.int .i64) 3 wc w.heap.size (fun _ => True) u5 x5_1) ∧ Qa (Below w.heap.size w wc))
   case first =>
    have H := HC5.out; clear HC5; by_cases c6 : x7_1 < 6
    ·rw [if_pos c6] at H
     have c6b0 : decide (x7_1 < 6) = true := decide_eq_true c6; clear c6
     (first | rw [c6b0] | (simp only [QR, QU]; rw [c6b0]) | skip)
     by_cases c7 : x7_1 = 0
     ·rw [if_pos c7] at H
      have c7b0 : (x7_1 == 0) = true := beq_iff_eq.mpr c7; have c7b1 : (x7_1 != 0) = false := bne_eq_false_iff_eq.mpr c7; clear c7; have H' := Qa.mk H; clear H; go_wp2
      repeat (go_quiet (fail); try go_wp2)
      go_meet
      case rel => exact ⟨_, (true), eS, H', ⟨by have := HK1.out; first | omega | exact Nat.le_refl _⟩, ⟨by (with_reducible repeat (first | apply Kd.R_alloc | apply Kd.R_drewN | apply Kd.R_drew)); exact HO_5.out⟩, ⟨pE HB⟩⟩
     ·rw [if_neg c7] at H
      have c7b0 : (x7_1 == 0) = false := beq_eq_false_iff_ne.mpr c7; have c7b1 : (x7_1 != 0) = true := bne_iff_ne.mpr c7; have H' := Qa.mk H; clear H; go_wp2
      repeat (go_quiet (fail); try go_wp2)
      go_meet
      case rel => exact ⟨_, (decide (x7_1 < (l0.length : Int))), eS, H', ⟨by have := HK1.out; first | omega | exact Nat.le_refl _⟩, ⟨by (with_reducible repeat (first | apply Kd.R_alloc | apply Kd.R_drewN | apply Kd.R_drew)); exact HO_5.out⟩, ⟨pE HB⟩⟩
    ·rw [if_neg c6] at H
     have c6b0 : decide (x7_1 < 6) = false := decide_eq_false c6; clear c6
     (first | rw [c6b0] | (simp only [QR, QU]; rw [c6b0]) | skip)
     have H' := Qa.mk H; clear H; go_wp2
     repeat (go_quiet (fail); try go_wp2)
     go_meet
     case rel => exact ⟨_, (false), eS, H', ⟨by have := HK1.out; first | omega | exact Nat.le_refl _⟩, ⟨by (with_reducible repeat (first | apply Kd.R_alloc | apply Kd.R_drewN | apply Kd.R_drew)); exact HO_5.out⟩, ⟨pE HB⟩⟩
   case rest =>
    as_aux_lemma =>
    clear HC5; obtain ⟨kq, x27_4, rfl, HA, HJ4, HO_5, HB⟩ := hcut
    cases kq with
    | zero => exact absurd HA.out (by simp [Qao.j1])
    | succ kj4 =>
     have H := HA.out; clear HA; simp only [Qao.j1] at H; by_cases c8 : x27_4 = true
     ·subst c8
      rw [if_pos rfl] at H; by_cases c9 : x7_1 < (l0.length : Int)
      ·rw [if_pos c9] at H
       have c9b0 : decide (x7_1 < (l0.length : Int)) = true := decide_eq_true c9; clear c9; by_cases c10 : 0 ≤ x7_1
       ·rw [if_pos c10] at H
        have c10b0 : decide (0 ≤ x7_1) = true := decide_eq_true c10; clear c10; by_cases c11 : x5_1.length < 17592186044416
        ·rw [if_pos c11] at H
         have LMc11 := Qa.mk c11; clear c11; obtain ⟨y105, hy105⟩ : ∃ y_ : List Int, y_ = (x5_1 ++ [wrap64 (1 + (Int.tmod (wrap64 (rd l0 x7_1)) 100))]) := ⟨_, rfl⟩
         replace H : (Qao.l0 kj4 l0 a1 y105 (wrap64 (x6_1 + (wrap64 (1 + (Int.tmod (wrap64 (rd l0 x7_1)) 100))))) (wrap64 (x7_1 + 1))) = some r := yy hy105 H; have Ny105 := Qa.mk hy105; clear hy105; have H' := Qa.mk H; clear H; have p104 : 0 ≤ (x7_1 : Int) := dT; have q104 : x7_1 < (l0.length : Int) := dT; obtain ⟨ad104, e104, hx104_0⟩ := Kd.at_int HR0.out x7_1 p104 q104
         cases e104
         replace hx104_0 := cut_ HB hx104_0; replace p104 := eq_true p104; replace q104 := eq_true q104; go_wp2_with (first | ((with_reducible refine JA (b := .append) (xs := #[.tmp 42, .tmp 44]) rfl ?_); (try (refine QG (by rfl) ?_; dsimp only)); at_builtin; refine Kd.R_append (Kd.int .i64) (w0 := w) w.heap.size rfl (.tmp 42) (.tmp 44) 24 3 (.int .i64 0) 8 rfl Try.underlying24 J5 rfl (by decide) (by omega) u5 x5_1 (wrap64 (1 + (Int.tmod (wrap64 (rd l0 x7_1)) 100))) [.int .i64 (wrap64 (1 + (Int.tmod (wrap64 (rd l0 x7_1)) 100)))] (fun _ => True) (fun _ => False) rfl rfl ?aP (fun _ hk => hk.elim) ?aF ?aO ?aB ?aS ?aL ?_; (case aP => exact rfl); (case aB => exact (pE HB)); (case aF => exact (fun _ _ => trivial)); (case aO => exact (pR HO_5.out)); (case aS => exact (Qr (pE HB))); (case aL => have := LMc11.out; omega); intro v106 w12 ho hb hg hat; rw [← Ny105.out] at ho; replace HB := Qa.mk (hb); have HO107 := Qa.mk (ho); clear HO_5; clear ho hb hg hat))
         go_roundg kj4
         case measure => have := HK1.out; have := HJ4.out; omega
         case rel => exact ⟨(y105), (wrap64 (x6_1 + (wrap64 (1 + (Int.tmod (wrap64 (rd l0 x7_1)) 100))))), (wrap64 (x7_1 + 1)), eS, eS, H', ⟨by have := HK1.out; have := HJ4.out; omega⟩, ⟨by (with_reducible repeat (first | apply Kd.R_alloc | apply Kd.R_drewN | apply Kd.R_drew)); exact HO107.out⟩, ⟨pE HB⟩⟩
        ·rw [if_neg c11] at H
         exact absurd H (by simp)
       ·rw [if_neg c10] at H
        exact absurd H (by simp)
      ·rw [if_neg c9] at H
       have c9b0 : decide (x7_1 < (l0.length : Int)) = false := decide_eq_false c9; clear c9; by_cases c13 : x5_1.length < 17592186044416
       ·rw [if_pos c13] at H
        have LMc13 := Qa.mk c13; clear c13; obtain ⟨y108, hy108⟩ : ∃ y_ : List Int, y_ = (x5_1 ++ [1]) := ⟨_, rfl⟩
        replace H : (Qao.l0 kj4 l0 a1 y108 (wrap64 (x6_1 + 1)) (wrap64 (x7_1 + 1))) = some r := yy hy108 H; have Ny108 := Qa.mk hy108; clear hy108; have H' := Qa.mk H; clear H; go_wp2_with (first | ((with_reducible refine JA (b := .append) (xs := #[.tmp 42, .tmp 44]) rfl ?_); (try (refine QG (by rfl) ?_; dsimp only)); at_builtin; refine Kd.R_append (Kd.int .i64) (w0 := w) w.heap.size rfl (.tmp 42) (.tmp 44) 24 3 (.int .i64 0) 8 rfl Try.underlying24 J5 rfl (by decide) (by omega) u5 x5_1 1 [.int .i64 1] (fun _ => True) (fun _ => False) rfl rfl ?aP (fun _ hk => hk.elim) ?aF ?aO ?aB ?aS ?aL ?_; (case aP => exact rfl); (case aB => exact (pE HB)); (case aF => exact (fun _ _ => trivial)); (case aO => exact (pR HO_5.out)); (case aS => exact (Qr (pE HB))); (case aL => have := LMc13.out; omega); intro v109 w14 ho hb hg hat; rw [← Ny108.out] at ho; replace HB := Qa.mk (hb); have HO110 := Qa.mk (ho); clear HO_5; clear ho hb hg hat))
        go_roundg kj4
        case measure => have := HK1.out; have := HJ4.out; omega
        case rel => exact ⟨(y108), (wrap64 (x6_1 + 1)), (wrap64 (x7_1 + 1)), eS, eS, H', ⟨by have := HK1.out; have := HJ4.out; omega⟩, ⟨by (with_reducible repeat (first | apply Kd.R_alloc | apply Kd.R_drewN | apply Kd.R_drew)); exact HO110.out⟩, ⟨pE HB⟩⟩
       ·rw [if_neg c13] at H
        exact absurd H (by simp)
     ·replace c8 := Bool.eq_false_iff.mpr c8
      subst c8; rw [if_neg (show ¬ (false = true) by decide)] at H; obtain ⟨t111, A15, H⟩ := bi H; obtain ⟨⟨t114, t115⟩, A16, H⟩ := bi H; have HC17 := Qa.mk H; clear H; obtain ⟨Ao18, co18, eo18⟩ := Kd.R_slice HO_5.out; subst eo18; go_upto_region 11 with (first | (go_at_call 5; (with_reducible refine (Qaq.calls _ _ x5_1 t111 _ ?side1 ?side2 A15.out).mono ?_); (case side1 => exact pC (Kd.R_reads' HO_5.out).2.2); (case side2 => exact (Kd.R_reads' HO_5.out).2.1); rintro e w19 ⟨v112, rfl, ho0, hb⟩; have HO113 := Qa.mk (Kd.R_lower (Kd.R_new' ho0 (Kd.R_lt (pR HO_5.out))) (Qr (pE HB))); replace HO_5 := re HO_5 ho0 hb; replace HB := bs HB hb; (try clear hb); (try clear hb2); (try clear hk); (try clear hi); (try clear ho0); obtain ⟨Ao20, co20, eo20⟩ := Kd.R_slice HO113.out; subst eo20) | (go_at_call 4; (with_reducible refine (QE.calls kj4 _ _ t111 (wrap64 (a1)) t114 t115 _ ?side1 ?side2 A16.out).mono ?_); (case side1 => exact pC (Kd.R_reads' HO113.out).2.2); (case side2 => exact (Kd.R_reads' HO113.out).2.1); rintro e w21 ⟨v116, rfl, ho0, hb⟩; have HO117 := Qa.mk (Kd.R_lower (Kd.R_new' (Kd.R_new' ho0 (Kd.R_lt (pR HO_5.out))) (Kd.R_lt (pR HO113.out))) (Qr (pE HB))); replace HO_5 := re HO_5 ho0 hb; replace HO113 := re HO113 ho0 hb; replace HB := bs HB hb; (try clear hb); (try clear hb2); (try clear hk); (try clear hi); (try clear ho0)))
      (try simp only [Act.put, List.setIfInBounds_toArray, List.set_cons_zero, List.set_cons_succ])
      go_cut [66] (fun v66 wc => ∃ (kq : Nat) (x66_16 : Bool), v66 = .bool x66_16 ∧ Qa (Qao.j2 kq x5_1 x6_1 (wrap64 (a1)) t114 x66_16 = some r) ∧ Qa (kq ≤ kj4) ∧ Qa (Kd.R (Kd.int .i64) 3 wc w.heap.size (fun k_ => some k_ ≠ (v116 : Value).ownBlock) (.slice Ao18 x5_1.length co18) x5_1) ∧ Qa (Kd.R (Kd.int .i64) 3 wc w.heap.size (fun k_ => some k_ ≠ ((.slice Ao18 x5_1.length co18) : Value).ownBlock) v116 t114) ∧ Qa (Below w.heap.size w wc))
      case first =>
       have H := HC17.out; clear HC17; by_cases c22 : t115 = 0
       ·rw [if_pos c22] at H
        have c22b0 : (t115 == 0) = true := beq_iff_eq.mpr c22; have c22b1 : (t115 != 0) = false := bne_eq_false_iff_eq.mpr c22; clear c22
        (first | rw [c22b0] | (simp only [QR, QU]; rw [c22b0]) | skip)
        have H' := Qa.mk H; clear H; obtain ⟨Ao23, co23, eo23⟩ := Kd.R_slice HO117.out; subst eo23; go_wp2
        repeat (go_quiet (fail); try go_wp2)
        go_meet
        case rel => exact ⟨_, (((t114.length : Int) != (x5_1.length : Int))), eS, H', ⟨by have := HK1.out; have := HJ4.out; first | omega | exact Nat.le_refl _⟩, ⟨by (with_reducible repeat (first | apply Kd.R_alloc | apply Kd.R_drewN | apply Kd.R_drew)); exact Kd.R_mono HO_5.out (fun _ hk => hk.2)⟩, ⟨by (with_reducible repeat (first | apply Kd.R_alloc | apply Kd.R_drewN | apply Kd.R_drew)); exact Kd.R_mono HO117.out (fun _ hk => hk.1.2)⟩, ⟨pE HB⟩⟩
       ·rw [if_neg c22] at H
        have c22b0 : (t115 == 0) = false := beq_eq_false_iff_ne.mpr c22; have c22b1 : (t115 != 0) = true := bne_iff_ne.mpr c22
        (first | rw [c22b0] | (simp only [QR, QU]; rw [c22b0]) | skip)
        exact (Qao.dead_j2 _ _ _ _ _ _ H HRT.out).elim
      case rest =>
       as_aux_lemma =>
       clear HC17; try clear c8
       obtain ⟨kq, x66_16, rfl, HA, HJ16, HO_5, HO_10, HB⟩ := hcut
       cases kq with
       | zero => exact absurd HA.out (by simp [Qao.j2])
       | succ kj16 =>
        have H := HA.out; clear HA; simp only [Qao.j2] at H; by_cases c24 : x66_16 = true
        ·subst c24
         rw [if_pos rfl] at H; exact absurd ((Option.some.inj H).trans HRT.out) (by simp)
        ·replace c24 := Bool.eq_false_iff.mpr c24
         subst c24; rw [if_neg (show ¬ (false = true) by decide)] at H; have H' := Qa.mk H; clear H; go_wp2
         repeat (go_quiet (fail); try go_wp2)
         go_loopg [12, 13] kj16 (fun kq v12 v13 w' => ∃ (x12_4 : Int) (x13_4 : Int), v12 = .int .i64 x12_4 ∧ v13 = .int .i64 x13_4 ∧ Qa (Qao.l1 kq x5_1 x6_1 (wrap64 (a1)) t114 x12_4 x13_4 = some r) ∧ Qa (kq ≤ kj16) ∧ Qa (Kd.R (Kd.int .i64) 3 w' w.heap.size (fun k_ => some k_ ≠ (v116 : Value).ownBlock) (.slice Ao18 x5_1.length co18) x5_1) ∧ Qa (Kd.R (Kd.int .i64) 3 w' w.heap.size (fun k_ => some k_ ≠ ((.slice Ao18 x5_1.length co18) : Value).ownBlock) v116 t114) ∧ Qa (Below w.heap.size w w'))
         case atStart => exact ⟨(0), (0), eS, eS, H', ⟨Nat.le_refl _⟩, ⟨by (with_reducible repeat (first | apply Kd.R_alloc | apply Kd.R_drewN | apply Kd.R_drew)); exact HO_5.out⟩, ⟨by (with_reducible repeat (first | apply Kd.R_alloc | apply Kd.R_drewN | apply Kd.R_drew)); exact HO_10.out⟩, ⟨pE HB⟩⟩
         case round =>
          as_aux_lemma =>
          clear H'; try clear c24
          obtain ⟨x12_4, x13_4, rfl, rfl, HA, HK4, HO_5, HO_10, HB⟩ := hrel
          cases gk with
          | zero => exact absurd HA.out (by simp [Qao.l1])
          | succ k4 =>
           have H := HA.out; clear HA; simp only [Qao.l1] at H; by_cases c25 : x13_4 < (t114.length : Int)
           ·rw [if_pos c25] at H
            have c25b0 : decide (x13_4 < (t114.length : Int)) = true := decide_eq_true c25; clear c25; have HC26 := Qa.mk H; clear H; obtain ⟨Ao27, co27, eo27⟩ := Kd.R_slice HO_10.out; subst eo27; go_upto_region 17 with (fail)
            repeat (go_quiet (fail); go_upto_region 17 with (fail))
            go_cut [117] (fun v117 wc => ∃ (kq : Nat) (x117_25 : Bool), v117 = .bool x117_25 ∧ Qa (Qao.j4 kq x5_1 x6_1 (wrap64 (a1)) t114 x12_4 x13_4 x117_25 = some r) ∧ Qa (kq ≤ k4) ∧ Qa (Kd.R (Kd.int .i64) 3 wc w.heap.size (fun k_ => some k_ ≠ ((.slice Ao27 t114.length co27) : Value).ownBlock) (.slice Ao18 x5_1.length co18) x5_1) ∧ Qa (Kd.R (Kd.int .i64) 3 wc w.heap.size (fun k_ => some k_ ≠ ((.slice Ao18 x5_1.length co18) : Value).ownBlock) (.slice Ao27 t114.length co27) t114) ∧ Qa (Below w.heap.size w wc))
            case first =>
             have H := HC26.out; clear HC26; by_cases c28 : 0 ≤ x13_4
             ·rw [if_pos c28] at H
              have c28b0 : decide (0 ≤ x13_4) = true := decide_eq_true c28; clear c28
              (first | rw [c28b0] | (simp only [QR, QU]; rw [c28b0]) | skip)
              by_cases c29 : (rd t114 x13_4) < 0
              ·rw [if_pos c29] at H
               have c29b0 : decide ((rd t114 x13_4) < 0) = true := decide_eq_true c29; clear c29; exact (Qao.dead_j4 _ _ _ _ _ _ _ _ H HRT.out).elim
              ·rw [if_neg c29] at H
               have c29b0 : decide ((rd t114 x13_4) < 0) = false := decide_eq_false c29; clear c29; by_cases c30 : (rd t114 x13_4) > (wrap64 (a1))
               ·rw [if_pos c30] at H
                have c30b0 : decide ((wrap64 (a1)) < (rd t114 x13_4)) = true := decide_eq_true c30; clear c30; exact (Qao.dead_j4 _ _ _ _ _ _ _ _ H HRT.out).elim
               ·rw [if_neg c30] at H
                have c30b0 : decide ((wrap64 (a1)) < (rd t114 x13_4)) = false := decide_eq_false c30; clear c30; by_cases c31 : x13_4 < (x5_1.length : Int)
                ·rw [if_pos c31] at H
                 have c31b0 : decide (x13_4 < (x5_1.length : Int)) = true := decide_eq_true c31; clear c31; by_cases c32 : (wrap64 ((wrap64 ((rd t114 x13_4) + 1)) * x6_1)) ≤ (wrap64 ((wrap64 (a1)) * (rd x5_1 x13_4)))
                 ·rw [if_pos c32] at H
                  have c32b0 : decide ((wrap64 ((wrap64 ((rd t114 x13_4) + 1)) * x6_1)) ≤ (wrap64 ((wrap64 (a1)) * (rd x5_1 x13_4)))) = true := decide_eq_true c32; clear c32; exact (Qao.dead_j4 _ _ _ _ _ _ _ _ H HRT.out).elim
                 ·rw [if_neg c32] at H
                  have c32b0 : decide ((wrap64 ((wrap64 ((rd t114 x13_4) + 1)) * x6_1)) ≤ (wrap64 ((wrap64 (a1)) * (rd x5_1 x13_4)))) = false := decide_eq_false c32; clear c32; have H' := Qa.mk H; clear H; have p119 : 0 ≤ (x13_4 : Int) := dT; have q119 : x13_4 < (t114.length : Int) := dT; obtain ⟨ad119, e119, hx119_0⟩ := Kd.at_int (Kd.R_reads' HO_10.out).2.2 x13_4 p119 q119
                  cases e119
                  replace p119 := eq_true p119; replace q119 := eq_true q119; have p120 : 0 ≤ (x13_4 : Int) := dT; have q120 : x13_4 < (t114.length : Int) := dT; obtain ⟨ad120, e120, hx120_0⟩ := Kd.at_int (Kd.R_reads' HO_10.out).2.2 x13_4 p120 q120; obtain rfl : ad119 = ad120 := (by injection e120); replace p120 := eq_true p120; replace q120 := eq_true q120; have p121 : 0 ≤ (x13_4 : Int) := dT; have q121 : x13_4 < (t114.length : Int) := dT; obtain ⟨ad121, e121, hx121_0⟩ := Kd.at_int (Kd.R_reads' HO_10.out).2.2 x13_4 p121 q121; obtain rfl : ad119 = ad121 := (by injection e121); replace p121 := eq_true p121; replace q121 := eq_true q121; have p122 : 0 ≤ (x13_4 : Int) := dT; have q122 : x13_4 < (x5_1.length : Int) := dT; obtain ⟨ad122, e122, hx122_0⟩ := Kd.at_int (Kd.R_reads' HO_5.out).2.2 x13_4 p122 q122
                  cases e122
                  replace p122 := eq_true p122; replace q122 := eq_true q122; have p123 : 0 ≤ (x13_4 : Int) := dT; have q123 : x13_4 < (t114.length : Int) := dT; obtain ⟨ad123, e123, hx123_0⟩ := Kd.at_int (Kd.R_reads' HO_10.out).2.2 x13_4 p123 q123; obtain rfl : ad119 = ad123 := (by injection e123); replace p123 := eq_true p123; replace q123 := eq_true q123; have p124 : 0 ≤ (x13_4 : Int) := dT; have q124 : x13_4 < (x5_1.length : Int) := dT; obtain ⟨ad124, e124, hx124_0⟩ := Kd.at_int (Kd.R_reads' HO_5.out).2.2 x13_4 p124 q124; obtain rfl : ad122 = ad124 := (by injection e124); replace p124 := eq_true p124; replace q124 := eq_true q124; go_wp2
                  repeat (go_quiet (fail); try go_wp2)
                  go_meet
                  case rel => exact ⟨_, (decide ((wrap64 ((wrap64 ((rd t114 x13_4) - 1)) * x6_1)) ≥ (wrap64 ((wrap64 (a1)) * (rd x5_1 x13_4))))), eS, H', ⟨by have := HK1.out; have := HJ4.out; have := HJ16.out; have := HK4.out; first | omega | exact Nat.le_refl _⟩, ⟨by (with_reducible repeat (first | apply Kd.R_alloc | apply Kd.R_drewN | apply Kd.R_drew)); exact HO_5.out⟩, ⟨by (with_reducible repeat (first | apply Kd.R_alloc | apply Kd.R_drewN | apply Kd.R_drew)); exact HO_10.out⟩, ⟨pE HB⟩⟩
                ·rw [if_neg c31] at H
                 exact absurd H (by simp)
             ·rw [if_neg c28] at H
              exact absurd H (by simp)
            case rest =>
             as_aux_lemma =>
             clear HC26; try clear c25b0
             obtain ⟨kq, x117_25, rfl, HA, HJ25, HO_5, HO_10, HB⟩ := hcut
             cases kq with
             | zero => exact absurd HA.out (by simp [Qao.j4])
             | succ kj25 =>
              have H := HA.out; clear HA; simp only [Qao.j4] at H; by_cases c33 : x117_25 = true
              ·subst c33
               rw [if_pos rfl] at H; exact absurd ((Option.some.inj H).trans HRT.out) (by simp)
              ·replace c33 := Bool.eq_false_iff.mpr c33
               subst c33; rw [if_neg (show ¬ (false = true) by decide)] at H; by_cases c34 : 0 ≤ x13_4
               ·rw [if_pos c34] at H
                have c34b0 : decide (0 ≤ x13_4) = true := decide_eq_true c34; clear c34; by_cases c35 : x13_4 < (t114.length : Int)
                ·rw [if_pos c35] at H
                 have c35b0 : decide (x13_4 < (t114.length : Int)) = true := decide_eq_true c35; clear c35; have H' := Qa.mk H; clear H; have p125 : 0 ≤ (x13_4 : Int) := dT; have q125 : x13_4 < (t114.length : Int) := dT; obtain ⟨ad125, e125, hx125_0⟩ := Kd.at_int (Kd.R_reads' HO_10.out).2.2 x13_4 p125 q125
                 cases e125
                 replace p125 := eq_true p125; replace q125 := eq_true q125; go_wp2
                 repeat (go_quiet (fail); try go_wp2)
                 go_loopg [14] kj25 (fun kq v14 w' => ∃ (x14_6 : Int), v14 = .int .i64 x14_6 ∧ Qa (Qao.l2 kq x5_1 x6_1 (wrap64 (a1)) t114 (wrap64 (x12_4 + (rd t114 x13_4))) x13_4 x14_6 = some r) ∧ Qa (kq ≤ kj25) ∧ Qa (Kd.R (Kd.int .i64) 3 w' w.heap.size (fun k_ => some k_ ≠ ((.slice (some ad125) t114.length co27) : Value).ownBlock) (.slice Ao18 x5_1.length co18) x5_1) ∧ Qa (Kd.R (Kd.int .i64) 3 w' w.heap.size (fun k_ => some k_ ≠ ((.slice Ao18 x5_1.length co18) : Value).ownBlock) (.slice (some ad125) t114.length co27) t114) ∧ Qa (Below w.heap.size w w'))
                 case atStart => exact ⟨(0), eS, H', ⟨Nat.le_refl _⟩, ⟨by (with_reducible repeat (first | apply Kd.R_alloc | apply Kd.R_drewN | apply Kd.R_drew)); exact HO_5.out⟩, ⟨by (with_reducible repeat (first | apply Kd.R_alloc | apply Kd.R_drewN | apply Kd.R_drew)); exact HO_10.out⟩, ⟨pE HB⟩⟩
                 case round =>
                  as_aux_lemma =>
                  clear H'
                  (try clear c33); (try clear c34b0); (try clear c35b0); (try clear hx125_0); (try clear p125); (try clear q125)
                  obtain ⟨x14_6, rfl, HA, HK6, HO_5, HO_10, HB⟩ := hrel
                  cases gk with
                  | zero => exact absurd HA.out (by simp [Qao.l2])
                  | succ k6 =>
                   have H := HA.out; clear HA; simp only [Qao.l2] at H; by_cases c36 : x14_6 < x13_4
                   ·rw [if_pos c36] at H
                    have c36b0 : decide (x14_6 < x13_4) = true := decide_eq_true c36; clear c36; have HC37 := Qa.mk H; clear H; go_upto_region 23 with (fail)
                    repeat (go_quiet (fail); go_upto_region 23 with (fail))
                    go_cut [204] (fun v204 wc => ∃ (kq : Nat) (x204_36 : Bool), v204 = .bool x204_36 ∧ Qa (Qao.j6 kq x5_1 x6_1 (wrap64 (a1)) t114 (wrap64 (x12_4 + (rd t114 x13_4))) x13_4 x14_6 x204_36 = some r) ∧ Qa (kq ≤ k6) ∧ Qa (Kd.R (Kd.int .i64) 3 wc w.heap.size (fun k_ => some k_ ≠ ((.slice (some ad125) t114.length co27) : Value).ownBlock) (.slice Ao18 x5_1.length co18) x5_1) ∧ Qa (Kd.R (Kd.int .i64) 3 wc w.heap.size (fun k_ => some k_ ≠ ((.slice Ao18 x5_1.length co18) : Value).ownBlock) (.slice (some ad125) t114.length co27) t114) ∧ Qa (Below w.heap.size w wc))
                    case first =>
                     have H := HC37.out; clear HC37; by_cases c38 : 0 ≤ x14_6
                     ·rw [if_pos c38] at H
                      have c38b0 : decide (0 ≤ x14_6) = true := decide_eq_true c38; clear c38
                      (first | rw [c38b0] | (simp only [QR, QU]; rw [c38b0]) | skip)
                      by_cases c39 : x14_6 < (x5_1.length : Int)
                      ·rw [if_pos c39] at H
                       have c39b0 : decide (x14_6 < (x5_1.length : Int)) = true := decide_eq_true c39; clear c39; by_cases c40 : 0 ≤ x13_4
                       ·rw [if_pos c40] at H
                        have c40b0 : decide (0 ≤ x13_4) = true := decide_eq_true c40; clear c40; by_cases c41 : x13_4 < (x5_1.length : Int)
                        ·rw [if_pos c41] at H
                         have c41b0 : decide (x13_4 < (x5_1.length : Int)) = true := decide_eq_true c41; clear c41; by_cases c42 : (rd x5_1 x14_6) > (rd x5_1 x13_4)
                         ·rw [if_pos c42] at H
                          have c42b0 : decide ((rd x5_1 x13_4) < (rd x5_1 x14_6)) = true := decide_eq_true c42; clear c42; by_cases c43 : x14_6 < (t114.length : Int)
                          ·rw [if_pos c43] at H
                           have c43b0 : decide (x14_6 < (t114.length : Int)) = true := decide_eq_true c43; clear c43; by_cases c44 : x13_4 < (t114.length : Int)
                           ·rw [if_pos c44] at H
                            have c44b0 : decide (x13_4 < (t114.length : Int)) = true := decide_eq_true c44; clear c44; by_cases c45 : (rd t114 x14_6) < (rd t114 x13_4)
                            ·rw [if_pos c45] at H
                             have c45b0 : decide ((rd t114 x14_6) < (rd t114 x13_4)) = true := decide_eq_true c45; clear c45; exact (Qao.dead_j6 _ _ _ _ _ _ _ _ _ H HRT.out).elim
                            ·rw [if_neg c45] at H
                             have c45b0 : decide ((rd t114 x14_6) < (rd t114 x13_4)) = false := decide_eq_false c45; clear c45; by_cases c46 : (rd x5_1 x13_4) > (rd x5_1 x14_6)
                             ·rw [if_pos c46] at H
                              have c46b0 : decide ((rd x5_1 x14_6) < (rd x5_1 x13_4)) = true := decide_eq_true c46; clear c46; by_cases c47 : (rd t114 x13_4) < (rd t114 x14_6)
                              ·rw [if_pos c47] at H
                               have c47b0 : decide ((rd t114 x13_4) < (rd t114 x14_6)) = true := decide_eq_true c47; clear c47; exact (Qao.dead_j6 _ _ _ _ _ _ _ _ _ H HRT.out).elim
                              ·rw [if_neg c47] at H
                               have c47b0 : decide ((rd t114 x13_4) < (rd t114 x14_6)) = false := decide_eq_false c47; clear c47; by_cases c48 : (rd x5_1 x13_4) = (rd x5_1 x14_6)
                               ·rw [if_pos c48] at H
                                have c48b0 : ((rd x5_1 x13_4) == (rd x5_1 x14_6)) = true := beq_iff_eq.mpr c48; have c48b1 : ((rd x5_1 x13_4) != (rd x5_1 x14_6)) = false := bne_eq_false_iff_eq.mpr c48; clear c48; by_cases c49 : (rd t114 x13_4) > (rd t114 x14_6)
                                ·rw [if_pos c49] at H
                                 have c49b0 : decide ((rd t114 x14_6) < (rd t114 x13_4)) = true := decide_eq_true c49; clear c49; exact (Qao.dead_j6 _ _ _ _ _ _ _ _ _ H HRT.out).elim
                                ·rw [if_neg c49] at H
                                 have c49b0 : decide ((rd t114 x14_6) < (rd t114 x13_4)) = false := decide_eq_false c49; clear c49
                                 as_aux_lemma =>
                                 have H' := Qa.mk H; clear H; have p126 : 0 ≤ (x14_6 : Int) := dT; have q126 : x14_6 < (x5_1.length : Int) := dT; obtain ⟨ad126, e126, hx126_0⟩ := Kd.at_int (Kd.R_reads' HO_5.out).2.2 x14_6 p126 q126
                                 cases e126
                                 replace p126 := eq_true p126; replace q126 := eq_true q126; have p127 : 0 ≤ (x13_4 : Int) := dT; have q127 : x13_4 < (x5_1.length : Int) := dT; obtain ⟨ad127, e127, hx127_0⟩ := Kd.at_int (Kd.R_reads' HO_5.out).2.2 x13_4 p127 q127; obtain rfl : ad126 = ad127 := (by injection e127); replace p127 := eq_true p127; replace q127 := eq_true q127; have p128 : 0 ≤ (x14_6 : Int) := dT; have q128 : x14_6 < (t114.length : Int) := dT; obtain ⟨ad128, e128, hx128_0⟩ := Kd.at_int (Kd.R_reads' HO_10.out).2.2 x14_6 p128 q128; obtain rfl : ad125 = ad128 := (by injection e128); replace p128 := eq_true p128; replace q128 := eq_true q128; have p129 : 0 ≤ (x13_4 : Int) := dT; have q129 : x13_4 < (t114.length : Int) := dT; obtain ⟨ad129, e129, hx129_0⟩ := Kd.at_int (Kd.R_reads' HO_10.out).2.2 x13_4 p129 q129; obtain rfl : ad125 = ad129 := (by injection e129); replace p129 := eq_true p129; replace q129 := eq_true q129; have p130 : 0 ≤ (x13_4 : Int) := dT; have q130 : x13_4 < (x5_1.length : Int) := dT; obtain ⟨ad130, e130, hx130_0⟩ := Kd.at_int (Kd.R_reads' HO_5.out).2.2 x13_4 p130 q130; obtain rfl : ad126 = ad130 := (by injection e130); replace p130 := eq_true p130; replace q130 := eq_true q130; have p131 : 0 ≤ (x14_6 : Int) := dT; have q131 : x14_6 < (x5_1.length : Int) := dT; obtain ⟨ad131, e131, hx131_0⟩ := Kd.at_int (Kd.R_reads' HO_5.out).2.2 x14_6 p131 q131; obtain rfl : ad126 = ad131 := (by injection e131); replace p131 := eq_true p131; replace q131 := eq_true q131; have p132 : 0 ≤ (x13_4 : Int) := dT; have q132 : x13_4 < (t114.length : Int) := dT; obtain ⟨ad132, e132, hx132_0⟩ := Kd.at_int (Kd.R_reads' HO_10.out).2.2 x13_4 p132 q132; obtain rfl : ad125 = ad132 := (by injection e132); replace p132 := eq_true p132; replace q132 := eq_true q132; have p133 : 0 ≤ (x14_6 : Int) := dT; have q133 : x14_6 < (t114.length : Int) := dT; obtain ⟨ad133, e133, hx133_0⟩ := Kd.at_int (Kd.R_reads' HO_10.out).2.2 x14_6 p133 q133; obtain rfl : ad125 = ad133 := (by injection e133); replace p133 := eq_true p133; replace q133 := eq_true q133; have p134 : 0 ≤ (x13_4 : Int) := dT; have q134 : x13_4 < (x5_1.length : Int) := dT; obtain ⟨ad134, e134, hx134_0⟩ := Kd.at_int (Kd.R_reads' HO_5.out).2.2 x13_4 p134 q134; obtain rfl : ad126 = ad134 := (by injection e134); replace p134 := eq_true p134; replace q134 := eq_true q134; have p135 : 0 ≤ (x14_6 : Int) := dT; have q135 : x14_6 < (x5_1.length : Int) := dT; obtain ⟨ad135, e135, hx135_0⟩ := Kd.at_int (Kd.R_reads' HO_5.out).2.2 x14_6 p135 q135; obtain rfl : ad126 = ad135 := (by injection e135); replace p135 := eq_true p135; replace q135 := eq_true q135; have p136 : 0 ≤ (x13_4 : Int) := dT; have q136 : x13_4 < (t114.length : Int) := dT; obtain ⟨ad136, e136, hx136_0⟩ := Kd.at_int (Kd.R_reads' HO_10.out).2.2 x13_4 p136 q136; obtain rfl : ad125 = ad136 := (by injection e136); replace p136 := eq_true p136; replace q136 := eq_true q136; have p137 : 0 ≤ (x14_6 : Int) := dT; have q137 : x14_6 < (t114.length : Int) := dT; obtain ⟨ad137, e137, hx137_0⟩ := Kd.at_int (Kd.R_reads' HO_10.out).2.2 x14_6 p137 q137; obtain rfl : ad125 = ad137 := (by injection e137); replace p137 := eq_true p137; replace q137 := eq_true q137; have p138 : 0 ≤ (x13_4 : Int) := dT; have q138 : x13_4 < (t114.length : Int) := dT; obtain ⟨ad138, e138, hx138_0⟩ := Kd.at_int (Kd.R_reads' HO_10.out).2.2 x13_4 p138 q138; obtain rfl : ad125 = ad138 := (by injection e138); replace p138 := eq_true p138; replace q138 := eq_true q138; have p139 : 0 ≤ (x14_6 : Int) := dT; have q139 : x14_6 < (t114.length : Int) := dT; obtain ⟨ad139, e139, hx139_0⟩ := Kd.at_int (Kd.R_reads' HO_10.out).2.2 x14_6 p139 q139; obtain rfl : ad125 = ad139 := (by injection e139); replace p139 := eq_true p139; replace q139 := eq_true q139; go_wp2
                                 repeat (go_quiet (fail); try go_wp2)
                                 go_meet
                                 case rel => exact ⟨_, (decide ((rd t114 x13_4) < (wrap64 ((rd t114 x14_6) - 1)))), eS, H', ⟨by have := HK1.out; have := HJ4.out; have := HJ16.out; have := HK4.out; have := HJ25.out; have := HK6.out; first | omega | exact Nat.le_refl _⟩, ⟨by (with_reducible repeat (first | apply Kd.R_alloc | apply Kd.R_drewN | apply Kd.R_drew)); exact HO_5.out⟩, ⟨by (with_reducible repeat (first | apply Kd.R_alloc | apply Kd.R_drewN | apply Kd.R_drew)); exact HO_10.out⟩, ⟨pE HB⟩⟩
                               ·rw [if_neg c48] at H
                                have c48b0 : ((rd x5_1 x13_4) == (rd x5_1 x14_6)) = false := beq_eq_false_iff_ne.mpr c48; have c48b1 : ((rd x5_1 x13_4) != (rd x5_1 x14_6)) = true := bne_iff_ne.mpr c48
                                as_aux_lemma =>
                                have H' := Qa.mk H; clear H; have p126 : 0 ≤ (x14_6 : Int) := dT; have q126 : x14_6 < (x5_1.length : Int) := dT; obtain ⟨ad126, e126, hx126_0⟩ := Kd.at_int (Kd.R_reads' HO_5.out).2.2 x14_6 p126 q126
                                cases e126
                                replace p126 := eq_true p126; replace q126 := eq_true q126; have p127 : 0 ≤ (x13_4 : Int) := dT; have q127 : x13_4 < (x5_1.length : Int) := dT; obtain ⟨ad127, e127, hx127_0⟩ := Kd.at_int (Kd.R_reads' HO_5.out).2.2 x13_4 p127 q127; obtain rfl : ad126 = ad127 := (by injection e127); replace p127 := eq_true p127; replace q127 := eq_true q127; have p128 : 0 ≤ (x14_6 : Int) := dT; have q128 : x14_6 < (t114.length : Int) := dT; obtain ⟨ad128, e128, hx128_0⟩ := Kd.at_int (Kd.R_reads' HO_10.out).2.2 x14_6 p128 q128; obtain rfl : ad125 = ad128 := (by injection e128); replace p128 := eq_true p128; replace q128 := eq_true q128; have p129 : 0 ≤ (x13_4 : Int) := dT; have q129 : x13_4 < (t114.length : Int) := dT; obtain ⟨ad129, e129, hx129_0⟩ := Kd.at_int (Kd.R_reads' HO_10.out).2.2 x13_4 p129 q129; obtain rfl : ad125 = ad129 := (by injection e129); replace p129 := eq_true p129; replace q129 := eq_true q129; have p130 : 0 ≤ (x13_4 : Int) := dT; have q130 : x13_4 < (x5_1.length : Int) := dT; obtain ⟨ad130, e130, hx130_0⟩ := Kd.at_int (Kd.R_reads' HO_5.out).2.2 x13_4 p130 q130; obtain rfl : ad126 = ad130 := (by injection e130); replace p130 := eq_true p130; replace q130 := eq_true q130; have p131 : 0 ≤ (x14_6 : Int) := dT; have q131 : x14_6 < (x5_1.length : Int) := dT; obtain ⟨ad131, e131, hx131_0⟩ := Kd.at_int (Kd.R_reads' HO_5.out).2.2 x14_6 p131 q131; obtain rfl : ad126 = ad131 := (by injection e131); replace p131 := eq_true p131; replace q131 := eq_true q131; have p132 : 0 ≤ (x13_4 : Int) := dT; have q132 : x13_4 < (t114.length : Int) := dT; obtain ⟨ad132, e132, hx132_0⟩ := Kd.at_int (Kd.R_reads' HO_10.out).2.2 x13_4 p132 q132; obtain rfl : ad125 = ad132 := (by injection e132); replace p132 := eq_true p132; replace q132 := eq_true q132; have p133 : 0 ≤ (x14_6 : Int) := dT; have q133 : x14_6 < (t114.length : Int) := dT; obtain ⟨ad133, e133, hx133_0⟩ := Kd.at_int (Kd.R_reads' HO_10.out).2.2 x14_6 p133 q133; obtain rfl : ad125 = ad133 := (by injection e133); replace p133 := eq_true p133; replace q133 := eq_true q133; have p134 : 0 ≤ (x13_4 : Int) := dT; have q134 : x13_4 < (x5_1.length : Int) := dT; obtain ⟨ad134, e134, hx134_0⟩ := Kd.at_int (Kd.R_reads' HO_5.out).2.2 x13_4 p134 q134; obtain rfl : ad126 = ad134 := (by injection e134); replace p134 := eq_true p134; replace q134 := eq_true q134; have p135 : 0 ≤ (x14_6 : Int) := dT; have q135 : x14_6 < (x5_1.length : Int) := dT; obtain ⟨ad135, e135, hx135_0⟩ := Kd.at_int (Kd.R_reads' HO_5.out).2.2 x14_6 p135 q135; obtain rfl : ad126 = ad135 := (by injection e135); replace p135 := eq_true p135; replace q135 := eq_true q135; go_wp2
                                repeat (go_quiet (fail); try go_wp2)
                                go_meet
                                case rel => exact ⟨_, (false), eS, H', ⟨by have := HK1.out; have := HJ4.out; have := HJ16.out; have := HK4.out; have := HJ25.out; have := HK6.out; first | omega | exact Nat.le_refl _⟩, ⟨by (with_reducible repeat (first | apply Kd.R_alloc | apply Kd.R_drewN | apply Kd.R_drew)); exact HO_5.out⟩, ⟨by (with_reducible repeat (first | apply Kd.R_alloc | apply Kd.R_drewN | apply Kd.R_drew)); exact HO_10.out⟩, ⟨pE HB⟩⟩
                             ·rw [if_neg c46] at H
                              have c46b0 : decide ((rd x5_1 x14_6) < (rd x5_1 x13_4)) = false := decide_eq_false c46; clear c46; by_cases c50 : (rd x5_1 x13_4) = (rd x5_1 x14_6)
                              ·rw [if_pos c50] at H
                               have c50b0 : ((rd x5_1 x13_4) == (rd x5_1 x14_6)) = true := beq_iff_eq.mpr c50; have c50b1 : ((rd x5_1 x13_4) != (rd x5_1 x14_6)) = false := bne_eq_false_iff_eq.mpr c50; clear c50; by_cases c51 : (rd t114 x13_4) > (rd t114 x14_6)
                               ·rw [if_pos c51] at H
                                have c51b0 : decide ((rd t114 x14_6) < (rd t114 x13_4)) = true := decide_eq_true c51; clear c51; exact (Qao.dead_j6 _ _ _ _ _ _ _ _ _ H HRT.out).elim
                               ·rw [if_neg c51] at H
                                have c51b0 : decide ((rd t114 x14_6) < (rd t114 x13_4)) = false := decide_eq_false c51; clear c51
                                as_aux_lemma =>
                                have H' := Qa.mk H; clear H; have p126 : 0 ≤ (x14_6 : Int) := dT; have q126 : x14_6 < (x5_1.length : Int) := dT; obtain ⟨ad126, e126, hx126_0⟩ := Kd.at_int (Kd.R_reads' HO_5.out).2.2 x14_6 p126 q126
                                cases e126
                                replace p126 := eq_true p126; replace q126 := eq_true q126; have p127 : 0 ≤ (x13_4 : Int) := dT; have q127 : x13_4 < (x5_1.length : Int) := dT; obtain ⟨ad127, e127, hx127_0⟩ := Kd.at_int (Kd.R_reads' HO_5.out).2.2 x13_4 p127 q127; obtain rfl : ad126 = ad127 := (by injection e127); replace p127 := eq_true p127; replace q127 := eq_true q127; have p128 : 0 ≤ (x14_6 : Int) := dT; have q128 : x14_6 < (t114.length : Int) := dT; obtain ⟨ad128, e128, hx128_0⟩ := Kd.at_int (Kd.R_reads' HO_10.out).2.2 x14_6 p128 q128; obtain rfl : ad125 = ad128 := (by injection e128); replace p128 := eq_true p128; replace q128 := eq_true q128; have p129 : 0 ≤ (x13_4 : Int) := dT; have q129 : x13_4 < (t114.length : Int) := dT; obtain ⟨ad129, e129, hx129_0⟩ := Kd.at_int (Kd.R_reads' HO_10.out).2.2 x13_4 p129 q129; obtain rfl : ad125 = ad129 := (by injection e129); replace p129 := eq_true p129; replace q129 := eq_true q129; have p130 : 0 ≤ (x13_4 : Int) := dT; have q130 : x13_4 < (x5_1.length : Int) := dT; obtain ⟨ad130, e130, hx130_0⟩ := Kd.at_int (Kd.R_reads' HO_5.out).2.2 x13_4 p130 q130; obtain rfl : ad126 = ad130 := (by injection e130); replace p130 := eq_true p130; replace q130 := eq_true q130; have p131 : 0 ≤ (x14_6 : Int) := dT; have q131 : x14_6 < (x5_1.length : Int) := dT; obtain ⟨ad131, e131, hx131_0⟩ := Kd.at_int (Kd.R_reads' HO_5.out).2.2 x14_6 p131 q131; obtain rfl : ad126 = ad131 := (by injection e131); replace p131 := eq_true p131; replace q131 := eq_true q131; have p140 : 0 ≤ (x13_4 : Int) := dT; have q140 : x13_4 < (x5_1.length : Int) := dT; obtain ⟨ad140, e140, hx140_0⟩ := Kd.at_int (Kd.R_reads' HO_5.out).2.2 x13_4 p140 q140; obtain rfl : ad126 = ad140 := (by injection e140); replace p140 := eq_true p140; replace q140 := eq_true q140; have p141 : 0 ≤ (x14_6 : Int) := dT; have q141 : x14_6 < (x5_1.length : Int) := dT; obtain ⟨ad141, e141, hx141_0⟩ := Kd.at_int (Kd.R_reads' HO_5.out).2.2 x14_6 p141 q141; obtain rfl : ad126 = ad141 := (by injection e141); replace p141 := eq_true p141; replace q141 := eq_true q141; have p142 : 0 ≤ (x13_4 : Int) := dT; have q142 : x13_4 < (t114.length : Int) := dT; obtain ⟨ad142, e142, hx142_0⟩ := Kd.at_int (Kd.R_reads' HO_10.out).2.2 x13_4 p142 q142; obtain rfl : ad125 = ad142 := (by injection e142); replace p142 := eq_true p142; replace q142 := eq_true q142; have p143 : 0 ≤ (x14_6 : Int) := dT; have q143 : x14_6 < (t114.length : Int) := dT; obtain ⟨ad143, e143, hx143_0⟩ := Kd.at_int (Kd.R_reads' HO_10.out).2.2 x14_6 p143 q143; obtain rfl : ad125 = ad143 := (by injection e143); replace p143 := eq_true p143; replace q143 := eq_true q143; have p144 : 0 ≤ (x13_4 : Int) := dT; have q144 : x13_4 < (t114.length : Int) := dT; obtain ⟨ad144, e144, hx144_0⟩ := Kd.at_int (Kd.R_reads' HO_10.out).2.2 x13_4 p144 q144; obtain rfl : ad125 = ad144 := (by injection e144); replace p144 := eq_true p144; replace q144 := eq_true q144; have p145 : 0 ≤ (x14_6 : Int) := dT; have q145 : x14_6 < (t114.length : Int) := dT; obtain ⟨ad145, e145, hx145_0⟩ := Kd.at_int (Kd.R_reads' HO_10.out).2.2 x14_6 p145 q145; obtain rfl : ad125 = ad145 := (by injection e145); replace p145 := eq_true p145; replace q145 := eq_true q145; go_wp2
                                repeat (go_quiet (fail); try go_wp2)
                                go_meet
                                case rel => exact ⟨_, (decide ((rd t114 x13_4) < (wrap64 ((rd t114 x14_6) - 1)))), eS, H', ⟨by have := HK1.out; have := HJ4.out; have := HJ16.out; have := HK4.out; have := HJ25.out; have := HK6.out; first | omega | exact Nat.le_refl _⟩, ⟨by (with_reducible repeat (first | apply Kd.R_alloc | apply Kd.R_drewN | apply Kd.R_drew)); exact HO_5.out⟩, ⟨by (with_reducible repeat (first | apply Kd.R_alloc | apply Kd.R_drewN | apply Kd.R_drew)); exact HO_10.out⟩, ⟨pE HB⟩⟩
                              ·rw [if_neg c50] at H
                               have c50b0 : ((rd x5_1 x13_4) == (rd x5_1 x14_6)) = false := beq_eq_false_iff_ne.mpr c50; have c50b1 : ((rd x5_1 x13_4) != (rd x5_1 x14_6)) = true := bne_iff_ne.mpr c50
                               as_aux_lemma =>
                               have H' := Qa.mk H; clear H; have p126 : 0 ≤ (x14_6 : Int) := dT; have q126 : x14_6 < (x5_1.length : Int) := dT; obtain ⟨ad126, e126, hx126_0⟩ := Kd.at_int (Kd.R_reads' HO_5.out).2.2 x14_6 p126 q126
                               cases e126
                               replace p126 := eq_true p126; replace q126 := eq_true q126; have p127 : 0 ≤ (x13_4 : Int) := dT; have q127 : x13_4 < (x5_1.length : Int) := dT; obtain ⟨ad127, e127, hx127_0⟩ := Kd.at_int (Kd.R_reads' HO_5.out).2.2 x13_4 p127 q127; obtain rfl : ad126 = ad127 := (by injection e127); replace p127 := eq_true p127; replace q127 := eq_true q127; have p128 : 0 ≤ (x14_6 : Int) := dT; have q128 : x14_6 < (t114.length : Int) := dT; obtain ⟨ad128, e128, hx128_0⟩ := Kd.at_int (Kd.R_reads' HO_10.out).2.2 x14_6 p128 q128; obtain rfl : ad125 = ad128 := (by injection e128); replace p128 := eq_true p128; replace q128 := eq_true q128; have p129 : 0 ≤ (x13_4 : Int) := dT; have q129 : x13_4 < (t114.length : Int) := dT; obtain ⟨ad129, e129, hx129_0⟩ := Kd.at_int (Kd.R_reads' HO_10.out).2.2 x13_4 p129 q129; obtain rfl : ad125 = ad129 := (by injection e129); replace p129 := eq_true p129; replace q129 := eq_true q129; have p130 : 0 ≤ (x13_4 : Int) := dT; have q130 : x13_4 < (x5_1.length : Int) := dT; obtain ⟨ad130, e130, hx130_0⟩ := Kd.at_int (Kd.R_reads' HO_5.out).2.2 x13_4 p130 q130; obtain rfl : ad126 = ad130 := (by injection e130); replace p130 := eq_true p130; replace q130 := eq_true q130; have p131 : 0 ≤ (x14_6 : Int) := dT; have q131 : x14_6 < (x5_1.length : Int) := dT; obtain ⟨ad131, e131, hx131_0⟩ := Kd.at_int (Kd.R_reads' HO_5.out).2.2 x14_6 p131 q131; obtain rfl : ad126 = ad131 := (by injection e131); replace p131 := eq_true p131; replace q131 := eq_true q131; have p140 : 0 ≤ (x13_4 : Int) := dT; have q140 : x13_4 < (x5_1.length : Int) := dT; obtain ⟨ad140, e140, hx140_0⟩ := Kd.at_int (Kd.R_reads' HO_5.out).2.2 x13_4 p140 q140; obtain rfl : ad126 = ad140 := (by injection e140); replace p140 := eq_true p140; replace q140 := eq_true q140; have p141 : 0 ≤ (x14_6 : Int) := dT; have q141 : x14_6 < (x5_1.length : Int) := dT; obtain ⟨ad141, e141, hx141_0⟩ := Kd.at_int (Kd.R_reads' HO_5.out).2.2 x14_6 p141 q141; obtain rfl : ad126 = ad141 := (by injection e141); replace p141 := eq_true p141; replace q141 := eq_true q141; go_wp2
                               repeat (go_quiet (fail); try go_wp2)
                               go_meet
                               case rel => exact ⟨_, (false), eS, H', ⟨by have := HK1.out; have := HJ4.out; have := HJ16.out; have := HK4.out; have := HJ25.out; have := HK6.out; first | omega | exact Nat.le_refl _⟩, ⟨by (with_reducible repeat (first | apply Kd.R_alloc | apply Kd.R_drewN | apply Kd.R_drew)); exact HO_5.out⟩, ⟨by (with_reducible repeat (first | apply Kd.R_alloc | apply Kd.R_drewN | apply Kd.R_drew)); exact HO_10.out⟩, ⟨pE HB⟩⟩
                           ·rw [if_neg c44] at H
                            exact absurd H (by simp)
                          ·rw [if_neg c43] at H
                           exact absurd H (by simp)
                         ·rw [if_neg c42] at H
                          have c42b0 : decide ((rd x5_1 x13_4) < (rd x5_1 x14_6)) = false := decide_eq_false c42; clear c42; by_cases c52 : (rd x5_1 x13_4) > (rd x5_1 x14_6)
                          ·rw [if_pos c52] at H
                           have c52b0 : decide ((rd x5_1 x14_6) < (rd x5_1 x13_4)) = true := decide_eq_true c52; clear c52; by_cases c53 : x13_4 < (t114.length : Int)
                           ·rw [if_pos c53] at H
                            have c53b0 : decide (x13_4 < (t114.length : Int)) = true := decide_eq_true c53; clear c53; by_cases c54 : x14_6 < (t114.length : Int)
                            ·rw [if_pos c54] at H
                             have c54b0 : decide (x14_6 < (t114.length : Int)) = true := decide_eq_true c54; clear c54; by_cases c55 : (rd t114 x13_4) < (rd t114 x14_6)
                             ·rw [if_pos c55] at H
                              have c55b0 : decide ((rd t114 x13_4) < (rd t114 x14_6)) = true := decide_eq_true c55; clear c55; exact (Qao.dead_j6 _ _ _ _ _ _ _ _ _ H HRT.out).elim
                             ·rw [if_neg c55] at H
                              have c55b0 : decide ((rd t114 x13_4) < (rd t114 x14_6)) = false := decide_eq_false c55; clear c55; by_cases c56 : (rd x5_1 x13_4) = (rd x5_1 x14_6)
                              ·rw [if_pos c56] at H
                               have c56b0 : ((rd x5_1 x13_4) == (rd x5_1 x14_6)) = true := beq_iff_eq.mpr c56; have c56b1 : ((rd x5_1 x13_4) != (rd x5_1 x14_6)) = false := bne_eq_false_iff_eq.mpr c56; clear c56; by_cases c57 : (rd t114 x13_4) > (rd t114 x14_6)
                               ·rw [if_pos c57] at H
                                have c57b0 : decide ((rd t114 x14_6) < (rd t114 x13_4)) = true := decide_eq_true c57; clear c57; exact (Qao.dead_j6 _ _ _ _ _ _ _ _ _ H HRT.out).elim
                               ·rw [if_neg c57] at H
                                have c57b0 : decide ((rd t114 x14_6) < (rd t114 x13_4)) = false := decide_eq_false c57; clear c57
                                as_aux_lemma =>
                                have H' := Qa.mk H; clear H; have p126 : 0 ≤ (x14_6 : Int) := dT; have q126 : x14_6 < (x5_1.length : Int) := dT; obtain ⟨ad126, e126, hx126_0⟩ := Kd.at_int (Kd.R_reads' HO_5.out).2.2 x14_6 p126 q126
                                cases e126
                                replace p126 := eq_true p126; replace q126 := eq_true q126; have p127 : 0 ≤ (x13_4 : Int) := dT; have q127 : x13_4 < (x5_1.length : Int) := dT; obtain ⟨ad127, e127, hx127_0⟩ := Kd.at_int (Kd.R_reads' HO_5.out).2.2 x13_4 p127 q127; obtain rfl : ad126 = ad127 := (by injection e127); replace p127 := eq_true p127; replace q127 := eq_true q127; have p146 : 0 ≤ (x13_4 : Int) := dT; have q146 : x13_4 < (x5_1.length : Int) := dT; obtain ⟨ad146, e146, hx146_0⟩ := Kd.at_int (Kd.R_reads' HO_5.out).2.2 x13_4 p146 q146; obtain rfl : ad126 = ad146 := (by injection e146); replace p146 := eq_true p146; replace q146 := eq_true q146; have p147 : 0 ≤ (x14_6 : Int) := dT; have q147 : x14_6 < (x5_1.length : Int) := dT; obtain ⟨ad147, e147, hx147_0⟩ := Kd.at_int (Kd.R_reads' HO_5.out).2.2 x14_6 p147 q147; obtain rfl : ad126 = ad147 := (by injection e147); replace p147 := eq_true p147; replace q147 := eq_true q147; have p148 : 0 ≤ (x13_4 : Int) := dT; have q148 : x13_4 < (t114.length : Int) := dT; obtain ⟨ad148, e148, hx148_0⟩ := Kd.at_int (Kd.R_reads' HO_10.out).2.2 x13_4 p148 q148; obtain rfl : ad125 = ad148 := (by injection e148); replace p148 := eq_true p148; replace q148 := eq_true q148; have p149 : 0 ≤ (x14_6 : Int) := dT; have q149 : x14_6 < (t114.length : Int) := dT; obtain ⟨ad149, e149, hx149_0⟩ := Kd.at_int (Kd.R_reads' HO_10.out).2.2 x14_6 p149 q149; obtain rfl : ad125 = ad149 := (by injection e149); replace p149 := eq_true p149; replace q149 := eq_true q149; have p150 : 0 ≤ (x13_4 : Int) := dT; have q150 : x13_4 < (x5_1.length : Int) := dT; obtain ⟨ad150, e150, hx150_0⟩ := Kd.at_int (Kd.R_reads' HO_5.out).2.2 x13_4 p150 q150; obtain rfl : ad126 = ad150 := (by injection e150); replace p150 := eq_true p150; replace q150 := eq_true q150; have p151 : 0 ≤ (x14_6 : Int) := dT; have q151 : x14_6 < (x5_1.length : Int) := dT; obtain ⟨ad151, e151, hx151_0⟩ := Kd.at_int (Kd.R_reads' HO_5.out).2.2 x14_6 p151 q151; obtain rfl : ad126 = ad151 := (by injection e151); replace p151 := eq_true p151; replace q151 := eq_true q151; have p152 : 0 ≤ (x13_4 : Int) := dT; have q152 : x13_4 < (t114.length : Int) := dT; obtain ⟨ad152, e152, hx152_0⟩ := Kd.at_int (Kd.R_reads' HO_10.out).2.2 x13_4 p152 q152; obtain rfl : ad125 = ad152 := (by injection e152); replace p152 := eq_true p152; replace q152 := eq_true q152; have p153 : 0 ≤ (x14_6 : Int) := dT; have q153 : x14_6 < (t114.length : Int) := dT; obtain ⟨ad153, e153, hx153_0⟩ := Kd.at_int (Kd.R_reads' HO_10.out).2.2 x14_6 p153 q153; obtain rfl : ad125 = ad153 := (by injection e153); replace p153 := eq_true p153; replace q153 := eq_true q153; have p154 : 0 ≤ (x13_4 : Int) := dT; have q154 : x13_4 < (t114.length : Int) := dT; obtain ⟨ad154, e154, hx154_0⟩ := Kd.at_int (Kd.R_reads' HO_10.out).2.2 x13_4 p154 q154; obtain rfl : ad125 = ad154 := (by injection e154); replace p154 := eq_true p154; replace q154 := eq_true q154; have p155 : 0 ≤ (x14_6 : Int) := dT; have q155 : x14_6 < (t114.length : Int) := dT; obtain ⟨ad155, e155, hx155_0⟩ := Kd.at_int (Kd.R_reads' HO_10.out).2.2 x14_6 p155 q155; obtain rfl : ad125 = ad155 := (by injection e155); replace p155 := eq_true p155; replace q155 := eq_true q155; go_wp2
                                repeat (go_quiet (fail); try go_wp2)
                                go_meet
                                case rel => exact ⟨_, (decide ((rd t114 x13_4) < (wrap64 ((rd t114 x14_6) - 1)))), eS, H', ⟨by have := HK1.out; have := HJ4.out; have := HJ16.out; have := HK4.out; have := HJ25.out; have := HK6.out; first | omega | exact Nat.le_refl _⟩, ⟨by (with_reducible repeat (first | apply Kd.R_alloc | apply Kd.R_drewN | apply Kd.R_drew)); exact HO_5.out⟩, ⟨by (with_reducible repeat (first | apply Kd.R_alloc | apply Kd.R_drewN | apply Kd.R_drew)); exact HO_10.out⟩, ⟨pE HB⟩⟩
                              ·rw [if_neg c56] at H
                               have c56b0 : ((rd x5_1 x13_4) == (rd x5_1 x14_6)) = false := beq_eq_false_iff_ne.mpr c56; have c56b1 : ((rd x5_1 x13_4) != (rd x5_1 x14_6)) = true := bne_iff_ne.mpr c56
                               as_aux_lemma =>
                               have H' := Qa.mk H; clear H; have p126 : 0 ≤ (x14_6 : Int) := dT; have q126 : x14_6 < (x5_1.length : Int) := dT; obtain ⟨ad126, e126, hx126_0⟩ := Kd.at_int (Kd.R_reads' HO_5.out).2.2 x14_6 p126 q126
                               cases e126
                               replace p126 := eq_true p126; replace q126 := eq_true q126; have p127 : 0 ≤ (x13_4 : Int) := dT; have q127 : x13_4 < (x5_1.length : Int) := dT; obtain ⟨ad127, e127, hx127_0⟩ := Kd.at_int (Kd.R_reads' HO_5.out).2.2 x13_4 p127 q127; obtain rfl : ad126 = ad127 := (by injection e127); replace p127 := eq_true p127; replace q127 := eq_true q127; have p146 : 0 ≤ (x13_4 : Int) := dT; have q146 : x13_4 < (x5_1.length : Int) := dT; obtain ⟨ad146, e146, hx146_0⟩ := Kd.at_int (Kd.R_reads' HO_5.out).2.2 x13_4 p146 q146; obtain rfl : ad126 = ad146 := (by injection e146); replace p146 := eq_true p146; replace q146 := eq_true q146; have p147 : 0 ≤ (x14_6 : Int) := dT; have q147 : x14_6 < (x5_1.length : Int) := dT; obtain ⟨ad147, e147, hx147_0⟩ := Kd.at_int (Kd.R_reads' HO_5.out).2.2 x14_6 p147 q147; obtain rfl : ad126 = ad147 := (by injection e147); replace p147 := eq_true p147; replace q147 := eq_true q147; have p148 : 0 ≤ (x13_4 : Int) := dT; have q148 : x13_4 < (t114.length : Int) := dT; obtain ⟨ad148, e148, hx148_0⟩ := Kd.at_int (Kd.R_reads' HO_10.out).2.2 x13_4 p148 q148; obtain rfl : ad125 = ad148 := (by injection e148); replace p148 := eq_true p148; replace q148 := eq_true q148; have p149 : 0 ≤ (x14_6 : Int) := dT; have q149 : x14_6 < (t114.length : Int) := dT; obtain ⟨ad149, e149, hx149_0⟩ := Kd.at_int (Kd.R_reads' HO_10.out).2.2 x14_6 p149 q149; obtain rfl : ad125 = ad149 := (by injection e149); replace p149 := eq_true p149; replace q149 := eq_true q149; have p150 : 0 ≤ (x13_4 : Int) := dT; have q150 : x13_4 < (x5_1.length : Int) := dT; obtain ⟨ad150, e150, hx150_0⟩ := Kd.at_int (Kd.R_reads' HO_5.out).2.2 x13_4 p150 q150; obtain rfl : ad126 = ad150 := (by injection e150); replace p150 := eq_true p150; replace q150 := eq_true q150; have p151 : 0 ≤ (x14_6 : Int) := dT; have q151 : x14_6 < (x5_1.length : Int) := dT; obtain ⟨ad151, e151, hx151_0⟩ := Kd.at_int (Kd.R_reads' HO_5.out).2.2 x14_6 p151 q151; obtain rfl : ad126 = ad151 := (by injection e151); replace p151 := eq_true p151; replace q151 := eq_true q151; go_wp2
                               repeat (go_quiet (fail); try go_wp2)
                               go_meet
                               case rel => exact ⟨_, (false), eS, H', ⟨by have := HK1.out; have := HJ4.out; have := HJ16.out; have := HK4.out; have := HJ25.out; have := HK6.out; first | omega | exact Nat.le_refl _⟩, ⟨by (with_reducible repeat (first | apply Kd.R_alloc | apply Kd.R_drewN | apply Kd.R_drew)); exact HO_5.out⟩, ⟨by (with_reducible repeat (first | apply Kd.R_alloc | apply Kd.R_drewN | apply Kd.R_drew)); exact HO_10.out⟩, ⟨pE HB⟩⟩
                            ·rw [if_neg c54] at H
                             exact absurd H (by simp)
                           ·rw [if_neg c53] at H
                            exact absurd H (by simp)
                          ·rw [if_neg c52] at H
                           have c52b0 : decide ((rd x5_1 x14_6) < (rd x5_1 x13_4)) = false := decide_eq_false c52; clear c52; by_cases c58 : (rd x5_1 x13_4) = (rd x5_1 x14_6)
                           ·rw [if_pos c58] at H
                            have c58b0 : ((rd x5_1 x13_4) == (rd x5_1 x14_6)) = true := beq_iff_eq.mpr c58; have c58b1 : ((rd x5_1 x13_4) != (rd x5_1 x14_6)) = false := bne_eq_false_iff_eq.mpr c58; clear c58; by_cases c59 : x13_4 < (t114.length : Int)
                            ·rw [if_pos c59] at H
                             have c59b0 : decide (x13_4 < (t114.length : Int)) = true := decide_eq_true c59; clear c59; by_cases c60 : x14_6 < (t114.length : Int)
                             ·rw [if_pos c60] at H
                              have c60b0 : decide (x14_6 < (t114.length : Int)) = true := decide_eq_true c60; clear c60; by_cases c61 : (rd t114 x13_4) > (rd t114 x14_6)
                              ·rw [if_pos c61] at H
                               have c61b0 : decide ((rd t114 x14_6) < (rd t114 x13_4)) = true := decide_eq_true c61; clear c61; exact (Qao.dead_j6 _ _ _ _ _ _ _ _ _ H HRT.out).elim
                              ·rw [if_neg c61] at H
                               have c61b0 : decide ((rd t114 x14_6) < (rd t114 x13_4)) = false := decide_eq_false c61; clear c61
                               as_aux_lemma =>
                               have H' := Qa.mk H; clear H; have p126 : 0 ≤ (x14_6 : Int) := dT; have q126 : x14_6 < (x5_1.length : Int) := dT; obtain ⟨ad126, e126, hx126_0⟩ := Kd.at_int (Kd.R_reads' HO_5.out).2.2 x14_6 p126 q126
                               cases e126
                               replace p126 := eq_true p126; replace q126 := eq_true q126; have p127 : 0 ≤ (x13_4 : Int) := dT; have q127 : x13_4 < (x5_1.length : Int) := dT; obtain ⟨ad127, e127, hx127_0⟩ := Kd.at_int (Kd.R_reads' HO_5.out).2.2 x13_4 p127 q127; obtain rfl : ad126 = ad127 := (by injection e127); replace p127 := eq_true p127; replace q127 := eq_true q127; have p146 : 0 ≤ (x13_4 : Int) := dT; have q146 : x13_4 < (x5_1.length : Int) := dT; obtain ⟨ad146, e146, hx146_0⟩ := Kd.at_int (Kd.R_reads' HO_5.out).2.2 x13_4 p146 q146; obtain rfl : ad126 = ad146 := (by injection e146); replace p146 := eq_true p146; replace q146 := eq_true q146; have p147 : 0 ≤ (x14_6 : Int) := dT; have q147 : x14_6 < (x5_1.length : Int) := dT; obtain ⟨ad147, e147, hx147_0⟩ := Kd.at_int (Kd.R_reads' HO_5.out).2.2 x14_6 p147 q147; obtain rfl : ad126 = ad147 := (by injection e147); replace p147 := eq_true p147; replace q147 := eq_true q147; have p156 : 0 ≤ (x13_4 : Int) := dT; have q156 : x13_4 < (x5_1.length : Int) := dT; obtain ⟨ad156, e156, hx156_0⟩ := Kd.at_int (Kd.R_reads' HO_5.out).2.2 x13_4 p156 q156; obtain rfl : ad126 = ad156 := (by injection e156); replace p156 := eq_true p156; replace q156 := eq_true q156; have p157 : 0 ≤ (x14_6 : Int) := dT; have q157 : x14_6 < (x5_1.length : Int) := dT; obtain ⟨ad157, e157, hx157_0⟩ := Kd.at_int (Kd.R_reads' HO_5.out).2.2 x14_6 p157 q157; obtain rfl : ad126 = ad157 := (by injection e157); replace p157 := eq_true p157; replace q157 := eq_true q157; have p158 : 0 ≤ (x13_4 : Int) := dT; have q158 : x13_4 < (t114.length : Int) := dT; obtain ⟨ad158, e158, hx158_0⟩ := Kd.at_int (Kd.R_reads' HO_10.out).2.2 x13_4 p158 q158; obtain rfl : ad125 = ad158 := (by injection e158); replace p158 := eq_true p158; replace q158 := eq_true q158; have p159 : 0 ≤ (x14_6 : Int) := dT; have q159 : x14_6 < (t114.length : Int) := dT; obtain ⟨ad159, e159, hx159_0⟩ := Kd.at_int (Kd.R_reads' HO_10.out).2.2 x14_6 p159 q159; obtain rfl : ad125 = ad159 := (by injection e159); replace p159 := eq_true p159; replace q159 := eq_true q159; have p160 : 0 ≤ (x13_4 : Int) := dT; have q160 : x13_4 < (t114.length : Int) := dT; obtain ⟨ad160, e160, hx160_0⟩ := Kd.at_int (Kd.R_reads' HO_10.out).2.2 x13_4 p160 q160; obtain rfl : ad125 = ad160 := (by injection e160); replace p160 := eq_true p160; replace q160 := eq_true q160; have p161 : 0 ≤ (x14_6 : Int) := dT; have q161 : x14_6 < (t114.length : Int) := dT; obtain ⟨ad161, e161, hx161_0⟩ := Kd.at_int (Kd.R_reads' HO_10.out).2.2 x14_6 p161 q161; obtain rfl : ad125 = ad161 := (by injection e161); replace p161 := eq_true p161; replace q161 := eq_true q161; go_wp2
                               repeat (go_quiet (fail); try go_wp2)
                               go_meet
                               case rel => exact ⟨_, (decide ((rd t114 x13_4) < (wrap64 ((rd t114 x14_6) - 1)))), eS, H', ⟨by have := HK1.out; have := HJ4.out; have := HJ16.out; have := HK4.out; have := HJ25.out; have := HK6.out; first | omega | exact Nat.le_refl _⟩, ⟨by (with_reducible repeat (first | apply Kd.R_alloc | apply Kd.R_drewN | apply Kd.R_drew)); exact HO_5.out⟩, ⟨by (with_reducible repeat (first | apply Kd.R_alloc | apply Kd.R_drewN | apply Kd.R_drew)); exact HO_10.out⟩, ⟨pE HB⟩⟩
                             ·rw [if_neg c60] at H
                              exact absurd H (by simp)
                            ·rw [if_neg c59] at H
                             exact absurd H (by simp)
                           ·rw [if_neg c58] at H
                            have c58b0 : ((rd x5_1 x13_4) == (rd x5_1 x14_6)) = false := beq_eq_false_iff_ne.mpr c58; have c58b1 : ((rd x5_1 x13_4) != (rd x5_1 x14_6)) = true := bne_iff_ne.mpr c58
                            as_aux_lemma =>
                            have H' := Qa.mk H; clear H; have p126 : 0 ≤ (x14_6 : Int) := dT; have q126 : x14_6 < (x5_1.length : Int) := dT; obtain ⟨ad126, e126, hx126_0⟩ := Kd.at_int (Kd.R_reads' HO_5.out).2.2 x14_6 p126 q126
                            cases e126
                            replace p126 := eq_true p126; replace q126 := eq_true q126; have p127 : 0 ≤ (x13_4 : Int) := dT; have q127 : x13_4 < (x5_1.length : Int) := dT; obtain ⟨ad127, e127, hx127_0⟩ := Kd.at_int (Kd.R_reads' HO_5.out).2.2 x13_4 p127 q127; obtain rfl : ad126 = ad127 := (by injection e127); replace p127 := eq_true p127; replace q127 := eq_true q127; have p146 : 0 ≤ (x13_4 : Int) := dT; have q146 : x13_4 < (x5_1.length : Int) := dT; obtain ⟨ad146, e146, hx146_0⟩ := Kd.at_int (Kd.R_reads' HO_5.out).2.2 x13_4 p146 q146; obtain rfl : ad126 = ad146 := (by injection e146); replace p146 := eq_true p146; replace q146 := eq_true q146; have p147 : 0 ≤ (x14_6 : Int) := dT; have q147 : x14_6 < (x5_1.length : Int) := dT; obtain ⟨ad147, e147, hx147_0⟩ := Kd.at_int (Kd.R_reads' HO_5.out).2.2 x14_6 p147 q147; obtain rfl : ad126 = ad147 := (by injection e147); replace p147 := eq_true p147; replace q147 := eq_true q147; have p156 : 0 ≤ (x13_4 : Int) := dT; have q156 : x13_4 < (x5_1.length : Int) := dT; obtain ⟨ad156, e156, hx156_0⟩ := Kd.at_int (Kd.R_reads' HO_5.out).2.2 x13_4 p156 q156; obtain rfl : ad126 = ad156 := (by injection e156); replace p156 := eq_true p156; replace q156 := eq_true q156; have p157 : 0 ≤ (x14_6 : Int) := dT; have q157 : x14_6 < (x5_1.length : Int) := dT; obtain ⟨ad157, e157, hx157_0⟩ := Kd.at_int (Kd.R_reads' HO_5.out).2.2 x14_6 p157 q157; obtain rfl : ad126 = ad157 := (by injection e157); replace p157 := eq_true p157; replace q157 := eq_true q157; go_wp2
                            repeat (go_quiet (fail); try go_wp2)
                            go_meet
                            case rel => exact ⟨_, (false), eS, H', ⟨by have := HK1.out; have := HJ4.out; have := HJ16.out; have := HK4.out; have := HJ25.out; have := HK6.out; first | omega | exact Nat.le_refl _⟩, ⟨by (with_reducible repeat (first | apply Kd.R_alloc | apply Kd.R_drewN | apply Kd.R_drew)); exact HO_5.out⟩, ⟨by (with_reducible repeat (first | apply Kd.R_alloc | apply Kd.R_drewN | apply Kd.R_drew)); exact HO_10.out⟩, ⟨pE HB⟩⟩
                        ·rw [if_neg c41] at H
                         exact absurd H (by simp)
                       ·rw [if_neg c40] at H
                        exact absurd H (by simp)
                      ·rw [if_neg c39] at H
                       exact absurd H (by simp)
                     ·rw [if_neg c38] at H
                      exact absurd H (by simp)
                    case rest =>
                     as_aux_lemma =>
                     clear HC37; obtain ⟨kq, x204_36, rfl, HA, HJ36, HO_5, HO_10, HB⟩ := hcut
                     cases kq with
                     | zero => exact absurd HA.out (by simp [Qao.j6])
                     | succ kj36 =>
                      have H := HA.out; clear HA; simp only [Qao.j6] at H; by_cases c62 : x204_36 = true
                      ·subst c62
                       rw [if_pos rfl] at H; exact absurd ((Option.some.inj H).trans HRT.out) (by simp)
                      ·replace c62 := Bool.eq_false_iff.mpr c62
                       subst c62; rw [if_neg (show ¬ (false = true) by decide)] at H; have H' := Qa.mk H; clear H; go_wp2
                       repeat (go_quiet (fail); try go_wp2)
                       go_roundg kj36
                       case measure => have := HK1.out; have := HJ4.out; have := HJ16.out; have := HK4.out; have := HJ25.out; have := HK6.out; have := HJ36.out; omega
                       case rel => exact ⟨(wrap64 (x14_6 + 1)), eS, H', ⟨by have := HK1.out; have := HJ4.out; have := HJ16.out; have := HK4.out; have := HJ25.out; have := HK6.out; have := HJ36.out; omega⟩, ⟨by (with_reducible repeat (first | apply Kd.R_alloc | apply Kd.R_drewN | apply Kd.R_drew)); exact HO_5.out⟩, ⟨by (with_reducible repeat (first | apply Kd.R_alloc | apply Kd.R_drewN | apply Kd.R_drew)); exact HO_10.out⟩, ⟨pE HB⟩⟩
                   ·rw [if_neg c36] at H
                    have c36b0 : decide (x14_6 < x13_4) = false := decide_eq_false c36; clear c36; have H' := Qa.mk H; clear H; go_wp2
                    repeat (go_quiet (fail); try go_wp2)
                    go_roundg k6
                    case measure => have := HK1.out; have := HJ4.out; have := HJ16.out; have := HK4.out; have := HJ25.out; have := HK6.out; omega
                    case rel => exact ⟨((wrap64 (x12_4 + (rd t114 x13_4)))), (wrap64 (x13_4 + 1)), eS, eS, H', ⟨by have := HK1.out; have := HJ4.out; have := HJ16.out; have := HK4.out; have := HJ25.out; have := HK6.out; omega⟩, ⟨by (with_reducible repeat (first | apply Kd.R_alloc | apply Kd.R_drewN | apply Kd.R_drew)); exact HO_5.out⟩, ⟨by (with_reducible repeat (first | apply Kd.R_alloc | apply Kd.R_drewN | apply Kd.R_drew)); exact HO_10.out⟩, ⟨pE HB⟩⟩
                ·rw [if_neg c35] at H
                 exact absurd H (by simp)
               ·rw [if_neg c34] at H
                exact absurd H (by simp)
           ·rw [if_neg c25] at H
            have c25b0 : decide (x13_4 < (t114.length : Int)) = false := decide_eq_false c25; clear c25; by_cases c63 : x12_4 = (wrap64 (a1))
            ·rw [if_pos c63] at H
             have c63b0 : (x12_4 == (wrap64 (a1))) = true := beq_iff_eq.mpr c63; have c63b1 : (x12_4 != (wrap64 (a1))) = false := bne_eq_false_iff_eq.mpr c63; clear c63; obtain ⟨t118, A64, H⟩ := bi H; obtain rfl := Option.some.inj H; obtain ⟨Ao65, co65, eo65⟩ := Kd.R_slice HO_10.out; subst eo65; go_wp2_with (first | (go_at_call 6; (with_reducible refine (Qd.calls k4  t118 _ A64.out).mono ?_); rintro e w66 ⟨rfl, hb⟩; replace HO_5 := rb HO_5 hb; replace HO_10 := rb HO_10 hb; replace HB := bs HB hb; (try clear hb); (try clear hb2); (try clear hk); (try clear hi))); go_ret; exact ⟨eT, pE HB⟩
            ·rw [if_neg c63] at H
             have c63b0 : (x12_4 == (wrap64 (a1))) = false := beq_eq_false_iff_ne.mpr c63; have c63b1 : (x12_4 != (wrap64 (a1))) = true := bne_iff_ne.mpr c63; exact absurd ((Option.some.inj H).trans HRT.out) (by simp)
end Go.Proofs.Ytjaapkkpmegkfaa.P
