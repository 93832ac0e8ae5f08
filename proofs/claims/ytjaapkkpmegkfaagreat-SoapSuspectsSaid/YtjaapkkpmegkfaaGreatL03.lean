/- Part 3 of what the law's proof needs beyond its base: words, walks of functions and plain facts. -/
import Derived.Test.YtjaapkkpmegkfaaGreatL02
set_option linter.unusedVariables false
set_option linter.unusedSimpArgs false
namespace Go.Proofs.YtjaapkkpmegkfaaGreat.P
open Go.RowKit Go.Proofs.YtjaapkkpmegkfaaGreatW.PrintWords Go.Proofs.YtjaapkkpmegkfaaGreatW.PrintLast Go.Proofs.YtjaapkkpmegkfaaGreatW.PrintMore
attribute [local go_sem] JG JH JY JX Jv Ju JJ JK
mutual
def Qap.l0 : Nat → Int → Int → List Int → Int → Option Int
 | 0, _, _, _, _ => none
 | k + 1, x0, x1, x5, x6 => if x6 ≤ x0 then (if 0 ≤ x6 then (if x6 < (x5.length : Int) then (Qap.l1 k x0 x1 (x5.set (x6 : Int).toNat x6) x6 1) else (none)) else (none)) else (if 0 ≤ x0 then (if x0 < (x5.length : Int) then (some (rd x5 x0)) else (none)) else (none))
def Qap.l1 : Nat → Int → Int → List Int → Int → Int → Option Int
 | 0, _, _, _, _, _ => none
 | k + 1, x0, x1, x5, x6, x7 => if x7 < x6 then (Qap.l2 k x0 x1 x5 x6 x7 0) else (Qap.l0 k x0 x1 x5 (wrap64 (x6 + 1)))
def Qap.l2 : Nat → Int → Int → List Int → Int → Int → Int → Option Int
 | 0, _, _, _, _, _, _ => none
 | k + 1, x0, x1, x5, x6, x7, x8 => if x8 ≤ x7 then (Qap.j3 k x0 x1 x5 x6 x7 x8 (decide ((wrap64 (x7 + x8)) ≤ x6))) else (Qap.j3 k x0 x1 x5 x6 x7 x8 false)
def Qap.j3 : Nat → Int → Int → List Int → Int → Int → Int → Bool → Option Int
 | 0, _, _, _, _, _, _, _ => none
 | k + 1, x0, x1, x5, x6, x7, x8, x35 => if x35 = true then (if (wrap64 (x7 - x8)) ≤ (wrap64 ((wrap64 (x1 + x0)) - x6)) then (if 0 ≤ x6 then (if x6 < (x5.length : Int) then (if 0 ≤ x7 then (if x7 < (x5.length : Int) then (if 0 ≤ x8 then (if x8 < (x5.length : Int) then (if 0 ≤ (wrap64 ((wrap64 (x6 - x7)) - x8)) then (if (wrap64 ((wrap64 (x6 - x7)) - x8)) < (x5.length : Int) then (Qap.l2 k x0 x1 (x5.set (x6 : Int).toNat (mn (rd x5 x6) (wrap64 (1 + (mx (rd x5 x7) (mx (rd x5 x8) (rd x5 (wrap64 ((wrap64 (x6 - x7)) - x8))))))))) x6 x7 (wrap64 (x8 + 1))) else (none)) else (none)) else (none)) else (none)) else (none)) else (none)) else (none)) else (none)) else (Qap.l2 k x0 x1 x5 x6 x7 (wrap64 (x8 + 1)))) else (Qap.l1 k x0 x1 x5 x6 (wrap64 (x7 + 1)))
end
def Qap.f (k : Nat) (a0 a1 : Int) : Option Int := if 0 ≤ (wrap64 (a0 + 1)) then (if (wrap64 (a0 + 1) : Int).toNat ≤ 35184372088832 then (Qap.l0 k a0 a1 (List.replicate (wrap64 (a0 + 1) : Int).toNat 0) 2) else (none)) else (none)
theorem Qap.mono_l : ∀ k, (∀ y0 y1 y2 y3, LeO (Qap.l0 k y0 y1 y2 y3) (Qap.l0 (k + 1) y0 y1 y2 y3)) ∧ (∀ y0 y1 y2 y3 y4, LeO (Qap.l1 k y0 y1 y2 y3 y4) (Qap.l1 (k + 1) y0 y1 y2 y3 y4)) ∧ (∀ y0 y1 y2 y3 y4 y5, LeO (Qap.l2 k y0 y1 y2 y3 y4 y5) (Qap.l2 (k + 1) y0 y1 y2 y3 y4 y5)) ∧ (∀ y0 y1 y2 y3 y4 y5 y6, LeO (Qap.j3 k y0 y1 y2 y3 y4 y5 y6) (Qap.j3 (k + 1) y0 y1 y2 y3 y4 y5 y6))
 | 0 => ⟨fun _ _ _ _ r h => by simp [Qap.l0] at h, fun _ _ _ _ _ r h => by simp [Qap.l1] at h, fun _ _ _ _ _ _ r h => by simp [Qap.l2] at h, fun _ _ _ _ _ _ _ r h => by simp [Qap.j3] at h⟩
 | k + 1 => by
  obtain ⟨ih0, ih1, ih2, ih3⟩ := Qap.mono_l k; refine ⟨?_, ?_, ?_, ?_⟩
  ·intro y0 y1 y2 y3
   unfold Qap.l0
   repeat' first
   | (with_reducible exact ih0 _ _ _ _)
   | (with_reducible exact ih1 _ _ _ _ _)
   | (with_reducible exact ih2 _ _ _ _ _ _)
   | (with_reducible exact ih3 _ _ _ _ _ _ _)
   | (with_reducible exact LeO.refl _)
   | (with_reducible exact LeO.none _)
   | (with_reducible refine LeO.ite ?_ ?_)
   | (with_reducible refine LeO.bind ?_ (fun _ => ?_))
  ·intro y0 y1 y2 y3 y4
   unfold Qap.l1
   repeat' first
   | (with_reducible exact ih0 _ _ _ _)
   | (with_reducible exact ih1 _ _ _ _ _)
   | (with_reducible exact ih2 _ _ _ _ _ _)
   | (with_reducible exact ih3 _ _ _ _ _ _ _)
   | (with_reducible exact LeO.refl _)
   | (with_reducible exact LeO.none _)
   | (with_reducible refine LeO.ite ?_ ?_)
   | (with_reducible refine LeO.bind ?_ (fun _ => ?_))
  ·intro y0 y1 y2 y3 y4 y5
   unfold Qap.l2
   repeat' first
   | (with_reducible exact ih0 _ _ _ _)
   | (with_reducible exact ih1 _ _ _ _ _)
   | (with_reducible exact ih2 _ _ _ _ _ _)
   | (with_reducible exact ih3 _ _ _ _ _ _ _)
   | (with_reducible exact LeO.refl _)
   | (with_reducible exact LeO.none _)
   | (with_reducible refine LeO.ite ?_ ?_)
   | (with_reducible refine LeO.bind ?_ (fun _ => ?_))
  ·intro y0 y1 y2 y3 y4 y5 y6
   unfold Qap.j3
   repeat' first
   | (with_reducible exact ih0 _ _ _ _)
   | (with_reducible exact ih1 _ _ _ _ _)
   | (with_reducible exact ih2 _ _ _ _ _ _)
   | (with_reducible exact ih3 _ _ _ _ _ _ _)
   | (with_reducible exact LeO.refl _)
   | (with_reducible exact LeO.none _)
   | (with_reducible refine LeO.ite ?_ ?_)
   | (with_reducible refine LeO.bind ?_ (fun _ => ?_))
theorem Qap.mono : ∀ a0 a1 k, LeO (Qap.f k a0 a1) (Qap.f (k + 1) a0 a1) := by
 intro a0 a1 k; obtain ⟨ih0, ih1, ih2, ih3⟩ := Qap.mono_l k; unfold Qap.f
 repeat' first
   | (with_reducible exact ih0 _ _ _ _)
   | (with_reducible exact ih1 _ _ _ _ _)
   | (with_reducible exact ih2 _ _ _ _ _ _)
   | (with_reducible exact ih3 _ _ _ _ _ _ _)
   | (with_reducible exact LeO.refl _)
   | (with_reducible exact LeO.none _)
   | (with_reducible refine LeO.ite ?_ ?_)
   | (with_reducible refine LeO.bind ?_ (fun _ => ?_))
def Qap.T13 : Bool × List (List Nat × List Nat) := (true, [([], []), ([], []), ([], []), ([], []), ([2, 3], [2, 3]), ([4], [4]), ([], []), ([], []), ([6, 7], [6, 7]), ([8], [8]), ([], []), ([], []), ([10, 11], [10, 11]), ([12], [12]), ([], []), ([], []), ([], []), ([15, 16], [15, 16]), ([], []), ([17, 18], [17, 18]), ([14, 19], [14, 19]), ([20], [20]), ([13, 21], [13, 21]), ([9, 22], [9, 22]), ([23], [23]), ([5, 24], [5, 24]), ([0, 1, 0, 1, 2, 3, 4, 5, 6, 7, 8, 9, 10, 11, 12, 13, 14, 15, 16, 17, 18, 19, 20, 21, 22, 23, 24, 25], [0, 1]), ([26, 25, 0, 1, 2, 3, 4, 5, 6, 7, 8, 9, 10, 11, 12, 13, 14, 15, 16, 17, 18, 19, 20, 21, 22, 23, 24, 25], [25, 26])])
def Qap.B13 : List Nat := [0, 0, 0, 0, 12, 28, 0, 0, 192, 448, 0, 0, 3072, 7168, 0, 0, 0, 98304, 0, 491520, 1032192, 2080768, 4193280, 8388544, 16777152, 33554428, 67108863, 134217727]
theorem Qap.tab13 : rtab .any (ZG Tryz.f48 13) = Qap.T13 := by kernel_rfl
theorem Qap.bits13 : J0 Qap.T13.2 Qap.B13 = true := by kernel_rfl
set_option maxHeartbeats 8000000 in
set_option maxRecDepth 100000 in
theorem Qap.calls (k : Nat) (a0 a1 r : Int) (w : World) (h : Qap.f k a0 a1 = some r) :
  Calls Tryz.prog 48 #[.int .i64 a0, .int .i64 a1] w fun e w' => e = .returned (.int .i64 r) ∧ Below w.heap.size w w' := by
 have HB := Qa.mk (Below.refl w.heap.size w); have H : (if 0 ≤ (wrap64 (a0 + 1)) then (if (wrap64 (a0 + 1) : Int).toNat ≤ 35184372088832 then (Qap.l0 k a0 a1 (List.replicate (wrap64 (a0 + 1) : Int).toNat 0) 2) else (none)) else (none)) = some r := h; clear h; obtain ⟨ji3, hji3⟩ : ∃ j_ : Int, (wrap64 (a0 + 1)) = j_ := ⟨_, rfl⟩
 replace H : (if 0 ≤ (ji3) then (if (ji3 : Int).toNat ≤ 35184372088832 then (Qap.l0 k a0 a1 (List.replicate (ji3 : Int).toNat 0) 2) else (none)) else (none)) = some r := by first | (rw [hji3] at H; exact H) | (simp only [hji3] at H ⊢; exact H)
 have hji3w : (IntKind.i64.wrap (a0 + 1)) = ji3 := (QR _).trans hji3; by_cases c4 : 0 ≤ (ji3)
 ·rw [if_pos c4] at H
  have c4b0 := eq_true c4; have c4b1 : decide (0 ≤ (ji3)) = true := decide_eq_true c4; clear c4; by_cases c5 : (ji3 : Int).toNat ≤ 35184372088832
  ·rw [if_pos c5] at H
   have c5b0 := eq_true c5; have c5b1 : decide ((ji3 : Int).toNat ≤ 35184372088832) = true := decide_eq_true c5; clear c5; obtain ⟨y101, hy101⟩ : ∃ y_ : List Int, y_ = (List.replicate (ji3 : Int).toNat 0) := ⟨_, rfl⟩
   replace H : (Qap.l0 k a0 a1 y101 2) = some r := yy hy101 H; have Ny101 := Qa.mk hy101; clear hy101; have H' := Qa.mk H; clear H; go_enter Tryz.func48, Tryz.ntmps48; go_wp2_with (first | ((with_reducible refine gd 11 ?_); refine Kd.R_make (Kd.int .i64) _ 3 rfl (N := 11) rfl 27 _ _ rfl ji3 rfl rfl Tryz.underlying27 (.int .i64 0) 8 J5 rfl (by decide) (by omega) 0 (ok := fun _ => True) (okp := fun _ => True) rfl (fun _ hk => hk) trivial (dT) (Nat.le_trans (Nat.mul_le_mul_right _ (dT : ji3.toNat ≤ 35184372088832)) (by omega)) (Below.refl _ _) (Nat.le_refl _) ?_; intro v102 w6 ho7 hb hg_ hnew_; clear hg_ hnew_; replace ho7 := yR Ny101 ho7; have HO103 := rl ho7 HB; replace HB := bs HB hb; clear hb ho7))
   go_loopg [6] k (fun kq v6 w' => ∃ (x5_1 : List Int) (x6_1 : Int), v6 = .int .i64 x6_1 ∧ Qa (Qap.l0 kq a0 a1 x5_1 x6_1 = some r) ∧ Qa (kq ≤ k) ∧ Qa (Kd.R (Kd.int .i64) 3 w' w.heap.size (fun _ => True) v102 x5_1) ∧ Qa (Below w.heap.size w w'))
   case atStart => exact ⟨(y101), (2), eS, H', ⟨Nat.le_refl _⟩, ⟨by (with_reducible repeat (first | apply Kd.R_alloc | apply Kd.R_drewN | apply Kd.R_drew)); exact HO103.out⟩, ⟨pE HB⟩⟩
   case round =>
    clear H'
    (try clear c4b0); (try clear c4b1); (try clear c5b0); (try clear c5b1)
    obtain ⟨x5_1, x6_1, rfl, HA, HK1, HO_5, HB⟩ := hrel
    cases gk with
    | zero => exact absurd HA.out (by simp [Qap.l0])
    | succ k1 =>
     have H := HA.out; clear HA; simp only [Qap.l0] at H; by_cases c8 : x6_1 ≤ a0
     ·rw [if_pos c8] at H
      have c8b0 : decide (x6_1 ≤ a0) = true := decide_eq_true c8; clear c8; by_cases c9 : 0 ≤ x6_1
      ·rw [if_pos c9] at H
       have c9b0 : decide (0 ≤ x6_1) = true := decide_eq_true c9; clear c9; by_cases c10 : x6_1 < (x5_1.length : Int)
       ·rw [if_pos c10] at H
        have c10b0 : decide (x6_1 < (x5_1.length : Int)) = true := decide_eq_true c10; clear c10; obtain ⟨y105, hy105⟩ : ∃ y_ : List Int, y_ = (x5_1.set (x6_1 : Int).toNat x6_1) := ⟨_, rfl⟩
        replace H : (Qap.l1 k1 a0 a1 y105 x6_1 1) = some r := yy hy105 H; have Ny105 := Qa.mk hy105; clear hy105; have H' := Qa.mk H; clear H; have p11 : 0 ≤ (x6_1 : Int) := dT; have q11 : (x6_1 : Int) < ((x5_1.length : Int) : Int) := dT; obtain ⟨go11, co11, eo11, gb11, gl11, cl11, HG11⟩ := Kd.R_form HO_5.out (by omega)
        (first | cases eo11 | (injection eo11 with ea_ en_ ec_; (first | subst ea_ | (injection ea_ with ea_; subst ea_)); subst ec_; clear en_))
        have GB11 := Qa.mk gb11; have GG11 := Qa.mk HG11; clear gb11 gl11 HG11; obtain ⟨hx11_0, hf11_0⟩ := Kd.R_celln 0 HO_5.out (x6_1 : Int) p11 q11; replace p11 := eq_true p11; replace q11 := eq_true q11; have HP12 := Kd.R_putg HO_5.out (x6_1 : Int) x6_1; go_wp2_with (first | ((with_reducible refine Z3 (t := 3) (p := 20) rfl ?_); refine ZX (t := 3) (p := 20) (v := ?vo_w13) (w1 := (wr.setCell ⟨go11, (x6_1 : Int).toNat, none⟩ (.int .i64 x6_1))) ?hg ?ho ?hn ?hr ?_; (case ho => rfl); (case hg => rfl); (case hn => rfl); (case hr => first | (go_simp; done) | (go_simp; rfl)); intro w13 hw; have hg : wr.grownBy w13 (some go11) := (by rw [hw]; exact HP12.2); have hp_ : Kd.R (Kd.int .i64) 3 w13 w.heap.size (fun _ => True) (.slice (some ⟨go11, 0, none⟩) x5_1.length co11) y105 := (by rw [hw, Ny105.out]; exact HP12.1); clear HP12; replace HO_5 := Qa.mk (hp_); replace HB := Qa.mk ((by rw [hw]; exact Q3 (HB.out) GB11.out : Below w.heap.size w w13)); clear hg hw hp_))
        go_loopg [7] k1 (fun kq v7 w' => ∃ (x5_2 : List Int) (x7_2 : Int), v7 = .int .i64 x7_2 ∧ Qa (Qap.l1 kq a0 a1 x5_2 x6_1 x7_2 = some r) ∧ Qa (kq ≤ k1) ∧ Qa (Kd.R (Kd.int .i64) 3 w' w.heap.size (fun _ => True) (.slice (some ⟨go11, 0, none⟩) x5_1.length co11) x5_2) ∧ Qa (Below w.heap.size w w'))
        case atStart => exact ⟨(y105), (1), eS, H', ⟨Nat.le_refl _⟩, ⟨by (with_reducible repeat (first | apply Kd.R_alloc | apply Kd.R_drewN | apply Kd.R_drew)); exact HO_5.out⟩, ⟨pE HB⟩⟩
        case round =>
         clear H'
         (try clear c8b0); (try clear c9b0); (try clear c10b0); (try clear p11); (try clear q11); (try clear hx11_0)
         obtain ⟨x5_2, x7_2, rfl, HA, HK2, HO_5, HB⟩ := hrel; have hl5_2 := (Kd.R_reads' HO_5.out).1; rw [hl5_2] at HO_5
         (try simp only [hl5_2])
         cases gk with
         | zero => exact absurd HA.out (by simp [Qap.l1])
         | succ k2 =>
          have H := HA.out; clear HA; simp only [Qap.l1] at H; by_cases c14 : x7_2 < x6_1
          ·rw [if_pos c14] at H
           have c14b0 : decide (x7_2 < x6_1) = true := decide_eq_true c14; clear c14; have H' := Qa.mk H; clear H; go_wp2
           go_loopg [8] k2 (fun kq v8 w' => ∃ (x5_3 : List Int) (x8_3 : Int), v8 = .int .i64 x8_3 ∧ Qa (Qap.l2 kq a0 a1 x5_3 x6_1 x7_2 x8_3 = some r) ∧ Qa (kq ≤ k2) ∧ Qa (Kd.R (Kd.int .i64) 3 w' w.heap.size (fun _ => True) (.slice (some ⟨go11, 0, none⟩) x5_2.length co11) x5_3) ∧ Qa (Below w.heap.size w w'))
           case atStart => exact ⟨(x5_2), (0), eS, H', ⟨Nat.le_refl _⟩, ⟨by (try simp only [hl5_2]); (with_reducible repeat (first | apply Kd.R_alloc | apply Kd.R_drewN | apply Kd.R_drew)); exact HO_5.out⟩, ⟨pE HB⟩⟩
           case round =>
            clear H'; try clear c14b0
            obtain ⟨x5_3, x8_3, rfl, HA, HK3, HO_5, HB⟩ := hrel; have hl5_3 := (Kd.R_reads' HO_5.out).1; rw [hl5_3] at HO_5
            (try simp only [hl5_3])
            cases gk with
            | zero => exact absurd HA.out (by simp [Qap.l2])
            | succ k3 =>
             have H := HA.out; clear HA; simp only [Qap.l2] at H; have HC15 := Qa.mk H; clear H; go_upto_region 10 with (fail)
             go_cut [35] (fun v35 wc => ∃ (kq : Nat) (x35_14 : Bool), v35 = .bool x35_14 ∧ Qa (Qap.j3 kq a0 a1 x5_3 x6_1 x7_2 x8_3 x35_14 = some r) ∧ Qa (kq ≤ k3) ∧ Qa (Kd.R (Kd.int .i64) 3 wc w.heap.size (fun _ => True) (.slice (some ⟨go11, 0, none⟩) x5_3.length co11) x5_3) ∧ Qa (Below w.heap.size w wc))
             case first =>
              have H := HC15.out; clear HC15; by_cases c16 : x8_3 ≤ x7_2
              ·rw [if_pos c16] at H
               have c16b0 : decide (x8_3 ≤ x7_2) = true := decide_eq_true c16; clear c16
               (first | rw [c16b0] | (simp only [QR, QU]; rw [c16b0]) | skip)
               have H' := Qa.mk H; clear H; go_wp2
               go_meet
               case rel => exact ⟨_, (decide ((wrap64 (x7_2 + x8_3)) ≤ x6_1)), eS, H', ⟨by have := HK1.out; have := HK2.out; have := HK3.out; first | omega | exact Nat.le_refl _⟩, ⟨by (try simp only [hl5_2]); (try simp only [hl5_3]); (with_reducible repeat (first | apply Kd.R_alloc | apply Kd.R_drewN | apply Kd.R_drew)); exact HO_5.out⟩, ⟨pE HB⟩⟩
              ·rw [if_neg c16] at H
               have c16b0 : decide (x8_3 ≤ x7_2) = false := decide_eq_false c16; clear c16
               (first | rw [c16b0] | (simp only [QR, QU]; rw [c16b0]) | skip)
               have H' := Qa.mk H; clear H; go_wp2
               go_meet
               case rel => exact ⟨_, (false), eS, H', ⟨by have := HK1.out; have := HK2.out; have := HK3.out; first | omega | exact Nat.le_refl _⟩, ⟨by (try simp only [hl5_2]); (try simp only [hl5_3]); (with_reducible repeat (first | apply Kd.R_alloc | apply Kd.R_drewN | apply Kd.R_drew)); exact HO_5.out⟩, ⟨pE HB⟩⟩
             case rest =>
              clear HC15; obtain ⟨kq, x35_14, rfl, HA, HJ14, HO_5, HB⟩ := hcut
              cases kq with
              | zero => exact absurd HA.out (by simp [Qap.j3])
              | succ kj14 =>
               have H := HA.out; clear HA; simp only [Qap.j3] at H; by_cases c17 : x35_14 = true
               ·subst c17
                rw [if_pos rfl] at H; by_cases c18 : (wrap64 (x7_2 - x8_3)) ≤ (wrap64 ((wrap64 (a1 + a0)) - x6_1))
                ·rw [if_pos c18] at H
                 have c18b0 : decide ((wrap64 (x7_2 - x8_3)) ≤ (wrap64 ((wrap64 (a1 + a0)) - x6_1))) = true := decide_eq_true c18; clear c18; by_cases c19 : 0 ≤ x6_1
                 ·rw [if_pos c19] at H
                  have c19b0 : decide (0 ≤ x6_1) = true := decide_eq_true c19; clear c19; by_cases c20 : x6_1 < (x5_3.length : Int)
                  ·rw [if_pos c20] at H
                   have c20b0 : decide (x6_1 < (x5_3.length : Int)) = true := decide_eq_true c20; clear c20; by_cases c21 : 0 ≤ x7_2
                   ·rw [if_pos c21] at H
                    have c21b0 : decide (0 ≤ x7_2) = true := decide_eq_true c21; clear c21; by_cases c22 : x7_2 < (x5_3.length : Int)
                    ·rw [if_pos c22] at H
                     have c22b0 : decide (x7_2 < (x5_3.length : Int)) = true := decide_eq_true c22; clear c22; by_cases c23 : 0 ≤ x8_3
                     ·rw [if_pos c23] at H
                      have c23b0 : decide (0 ≤ x8_3) = true := decide_eq_true c23; clear c23; by_cases c24 : x8_3 < (x5_3.length : Int)
                      ·rw [if_pos c24] at H
                       have c24b0 : decide (x8_3 < (x5_3.length : Int)) = true := decide_eq_true c24; clear c24; obtain ⟨ji25, hji25⟩ : ∃ j_ : Int, (wrap64 ((wrap64 (x6_1 - x7_2)) - x8_3)) = j_ := ⟨_, rfl⟩
                       replace H : (if 0 ≤ (ji25) then (if (ji25) < (x5_3.length : Int) then (Qap.l2 kj14 a0 a1 (x5_3.set (x6_1 : Int).toNat (mn (rd x5_3 x6_1) (wrap64 (1 + (mx (rd x5_3 x7_2) (mx (rd x5_3 x8_3) (rd x5_3 (ji25)))))))) x6_1 x7_2 (wrap64 (x8_3 + 1))) else (none)) else (none)) = some r := by first | (rw [hji25] at H; exact H) | (simp only [hji25] at H ⊢; exact H)
                       have hji25w : (IntKind.i64.wrap ((wrap64 (x6_1 - x7_2)) - x8_3)) = ji25 := (QR _).trans hji25; by_cases c26 : 0 ≤ (ji25)
                       ·rw [if_pos c26] at H
                        have c26b0 : decide (0 ≤ (ji25)) = true := decide_eq_true c26; clear c26; by_cases c27 : (ji25) < (x5_3.length : Int)
                        ·rw [if_pos c27] at H
                         have c27b0 : decide ((ji25) < (x5_3.length : Int)) = true := decide_eq_true c27; clear c27; obtain ⟨ji28, hji28⟩ : ∃ j_ : Int, (mx (rd x5_3 x8_3) (rd x5_3 (ji25))) = j_ := ⟨_, rfl⟩
                         replace H : (Qap.l2 kj14 a0 a1 (x5_3.set (x6_1 : Int).toNat (mn (rd x5_3 x6_1) (wrap64 (1 + (mx (rd x5_3 x7_2) (ji28)))))) x6_1 x7_2 (wrap64 (x8_3 + 1))) = some r := by first | (rw [hji28] at H; exact H) | (simp only [hji28] at H ⊢; exact H)
                         have hji28_ : (if (rd x5_3 x8_3) < (rd x5_3 (ji25)) then (rd x5_3 (ji25)) else (rd x5_3 x8_3)) = ji28 := hji28; obtain ⟨ji29, hji29⟩ : ∃ j_ : Int, (mx (rd x5_3 x7_2) (ji28)) = j_ := ⟨_, rfl⟩
                         replace H : (Qap.l2 kj14 a0 a1 (x5_3.set (x6_1 : Int).toNat (mn (rd x5_3 x6_1) (wrap64 (1 + (ji29))))) x6_1 x7_2 (wrap64 (x8_3 + 1))) = some r := by first | (rw [hji29] at H; exact H) | (simp only [hji29] at H ⊢; exact H)
                         have hji29_ : (if (rd x5_3 x7_2) < (ji28) then (ji28) else (rd x5_3 x7_2)) = ji29 := hji29; obtain ⟨ji30, hji30⟩ : ∃ j_ : Int, (mn (rd x5_3 x6_1) (wrap64 (1 + (ji29)))) = j_ := ⟨_, rfl⟩
                         replace H : (Qap.l2 kj14 a0 a1 (x5_3.set (x6_1 : Int).toNat (ji30)) x6_1 x7_2 (wrap64 (x8_3 + 1))) = some r := by first | (rw [hji30] at H; exact H) | (simp only [hji30] at H ⊢; exact H)
                         have hji30_ : (if (wrap64 (1 + (ji29))) < (rd x5_3 x6_1) then (wrap64 (1 + (ji29))) else (rd x5_3 x6_1)) = ji30 := hji30; obtain ⟨y110, hy110⟩ : ∃ y_ : List Int, y_ = (x5_3.set (x6_1 : Int).toNat (ji30)) := ⟨_, rfl⟩
                         replace H : (Qap.l2 kj14 a0 a1 y110 x6_1 x7_2 (wrap64 (x8_3 + 1))) = some r := yy hy110 H; have Ny110 := Qa.mk hy110; clear hy110; have H' := Qa.mk H; clear H
                         try go_wp2
                         replace HO_5 := Qa.mk (Kd.R_drew HO_5.out); replace HB := Qa.mk (QM HB.out); have p106 : 0 ≤ (x6_1 : Int) := dT; have q106 : x6_1 < (x5_3.length : Int) := dT; obtain ⟨ad106, e106, hx106_0⟩ := Kd.at_int (Kd.R_reads' HO_5.out).2.2 x6_1 p106 q106; obtain rfl : (⟨go11, 0, none⟩ : Addr) = ad106 := (by injection e106)
                         (first | simp only [JP] at hx106_0 | simp only [add_at] at hx106_0 | simp only [Addr.add, Nat.zero_add] at hx106_0 | skip)
                         replace p106 := eq_true p106; replace q106 := eq_true q106; have p107 : 0 ≤ (x7_2 : Int) := dT; have q107 : x7_2 < (x5_3.length : Int) := dT; obtain ⟨ad107, e107, hx107_0⟩ := Kd.at_int (Kd.R_reads' HO_5.out).2.2 x7_2 p107 q107; obtain rfl : (⟨go11, 0, none⟩ : Addr) = ad107 := (by injection e107)
                         (first | simp only [JP] at hx107_0 | simp only [add_at] at hx107_0 | simp only [Addr.add, Nat.zero_add] at hx107_0 | skip)
                         replace p107 := eq_true p107; replace q107 := eq_true q107; have p108 : 0 ≤ (x8_3 : Int) := dT; have q108 : x8_3 < (x5_3.length : Int) := dT; obtain ⟨ad108, e108, hx108_0⟩ := Kd.at_int (Kd.R_reads' HO_5.out).2.2 x8_3 p108 q108; obtain rfl : (⟨go11, 0, none⟩ : Addr) = ad108 := (by injection e108)
                         (first | simp only [JP] at hx108_0 | simp only [add_at] at hx108_0 | simp only [Addr.add, Nat.zero_add] at hx108_0 | skip)
                         replace p108 := eq_true p108; replace q108 := eq_true q108; have p109 : 0 ≤ ((ji25) : Int) := dT; have q109 : (ji25) < (x5_3.length : Int) := dT; obtain ⟨ad109, e109, hx109_0⟩ := Kd.at_int (Kd.R_reads' HO_5.out).2.2 (ji25) p109 q109; obtain rfl : (⟨go11, 0, none⟩ : Addr) = ad109 := (by injection e109)
                         (first | simp only [JP] at hx109_0 | simp only [add_at] at hx109_0 | simp only [Addr.add, Nat.zero_add] at hx109_0 | skip)
                         replace p109 := eq_true p109; replace q109 := eq_true q109; have p31 : 0 ≤ (x6_1 : Int) := dT; have q31 : (x6_1 : Int) < ((x5_3.length : Int) : Int) := dT; obtain ⟨hx31_0, hf31_0⟩ := Kd.R_celln 0 HO_5.out (x6_1 : Int) p31 q31; replace p31 := eq_true p31; replace q31 := eq_true q31; have HP33 := Kd.R_putn HO_5.out (x6_1 : Int) ji30; rw [← Ny110.out] at HP33; have HQ33 := Qa.mk HP33; clear HP33; refine JS (n := 28) (S := fun w' => w'.cell? ⟨go11, (x6_1).toNat, none⟩ = some (.int .i64 (rd x5_3 x6_1)) ∧ w'.cell? ⟨go11, (x7_2).toNat, none⟩ = some (.int .i64 (rd x5_3 x7_2)) ∧ w'.cell? ⟨go11, (x8_3).toNat, none⟩ = some (.int .i64 (rd x5_3 x8_3)) ∧ w'.cell? ⟨go11, ((ji25)).toNat, none⟩ = some (.int .i64 (rd x5_3 (ji25)))) (ds := [27]) #[false, false, false, false, false, false, false, false, false, false, false, false, false, false, false, false, false, false, false, false, false, false, false, false, false, false, false, false] (by kernel_rfl) rfl rfl ⟨hx106_0, hx107_0, hx108_0, hx109_0⟩ (fun hHeld => ?_); refine Jk Qap.tab13 Qap.bits13 (fun HT_ HW_ => ?_); generalize wc.drew = w32 at HO_5 HB HQ33 hf31_0 hx106_0 hx107_0 hx108_0 hx109_0 hx31_0 hHeld ⊢; refine pu 0 47 ?_; refine pu 1 48 ?_; refine pu 2 49 ?_; refine pu 3 50 ?_; refine pu 4 51 ?_; refine pu 6 53 ?_; refine pu 7 54 ?_; refine pu 8 55 ?_; refine pu 10 57 ?_; refine pu 11 58 ?_; refine pu 12 59 ?_; refine pu 14 61 ?_; refine pu 15 62 ?_; refine pu 16 63 ?_; refine pu 17 64 ?_; refine pu 18 65 ?_; refine pu 19 66 ?_; refine pu 20 67 ?_; refine tk 5 52 hHeld ?_; refine tk 9 56 hHeld ?_; refine tk 13 60 hHeld ?_; refine tk 21 68 hHeld ?_; refine pu 22 69 ?_; refine pu 23 70 ?_; refine pu 24 71 ?_; refine pu 25 72 ?_; refine pu 26 73 ?_; refine last_ (i := 27) (N := none) #[true, true, true, true, true, true, true, true, true, true, true, true, true, true, true, true, true, true, true, true, true, true, true, true, true, true, true, true] rfl rfl (X9 HT_.out (by kernel_rfl)) (by decide) (fun K hK => ?_); refine Z7 (w1 := ?_) (by rfl) rfl ?_ ?_
                         rotate_left
                         ·go_simp
                          rfl
                         refine hK.out _ _ ?_; clear hK K; refine JD (JM HT_.out (by kernel_rfl)) ?_
                         try go_wp2
                         (try simp only [← hl5_3])
                         go_roundg kj14
                         case measure => have := HK1.out; have := HK2.out; have := HK3.out; have := HJ14.out; omega
                         case rel => exact ⟨(y110), (wrap64 (x8_3 + 1)), eS, H', ⟨by have := HK1.out; have := HK2.out; have := HK3.out; have := HJ14.out; omega⟩, ⟨by (try simp only [hl5_2]); (try simp only [hl5_3]); (with_reducible repeat (first | apply Kd.R_alloc | apply Kd.R_drewN | apply Kd.R_drew)); exact HQ33.out⟩, ⟨pE HB⟩⟩
                        ·rw [if_neg c27] at H
                         exact absurd H (by simp)
                       ·rw [if_neg c26] at H
                        exact absurd H (by simp)
                      ·rw [if_neg c24] at H
                       exact absurd H (by simp)
                     ·rw [if_neg c23] at H
                      exact absurd H (by simp)
                    ·rw [if_neg c22] at H
                     exact absurd H (by simp)
                   ·rw [if_neg c21] at H
                    exact absurd H (by simp)
                  ·rw [if_neg c20] at H
                   exact absurd H (by simp)
                 ·rw [if_neg c19] at H
                  exact absurd H (by simp)
                ·rw [if_neg c18] at H
                 have c18b0 : decide ((wrap64 (x7_2 - x8_3)) ≤ (wrap64 ((wrap64 (a1 + a0)) - x6_1))) = false := decide_eq_false c18; clear c18; have H' := Qa.mk H; clear H; go_wp2
                 (try simp only [← hl5_3])
                 go_roundg kj14
                 case measure => have := HK1.out; have := HK2.out; have := HK3.out; have := HJ14.out; omega
                 case rel => exact ⟨(x5_3), (wrap64 (x8_3 + 1)), eS, H', ⟨by have := HK1.out; have := HK2.out; have := HK3.out; have := HJ14.out; omega⟩, ⟨by (try simp only [hl5_2]); (try simp only [hl5_3]); (with_reducible repeat (first | apply Kd.R_alloc | apply Kd.R_drewN | apply Kd.R_drew)); exact HO_5.out⟩, ⟨pE HB⟩⟩
               ·replace c17 := Bool.eq_false_iff.mpr c17
                subst c17; rw [if_neg (show ¬ (false = true) by decide)] at H; have H' := Qa.mk H; clear H; go_wp2
                (try simp only [← hl5_2, ← hl5_3])
                go_roundg kj14
                case measure => have := HK1.out; have := HK2.out; have := HK3.out; have := HJ14.out; omega
                case rel => exact ⟨(x5_3), (wrap64 (x7_2 + 1)), eS, H', ⟨by have := HK1.out; have := HK2.out; have := HK3.out; have := HJ14.out; omega⟩, ⟨by (try simp only [hl5_2]); (try simp only [hl5_3]); (with_reducible repeat (first | apply Kd.R_alloc | apply Kd.R_drewN | apply Kd.R_drew)); exact HO_5.out⟩, ⟨pE HB⟩⟩
          ·rw [if_neg c14] at H
           have c14b0 : decide (x7_2 < x6_1) = false := decide_eq_false c14; clear c14; have H' := Qa.mk H; clear H; go_wp2
           (try simp only [← hl5_2])
           go_roundg k2
           case measure => have := HK1.out; have := HK2.out; omega
           case rel => exact ⟨(x5_2), (wrap64 (x6_1 + 1)), eS, H', ⟨by have := HK1.out; have := HK2.out; omega⟩, ⟨by (try simp only [hl5_2]); (with_reducible repeat (first | apply Kd.R_alloc | apply Kd.R_drewN | apply Kd.R_drew)); exact HO_5.out⟩, ⟨pE HB⟩⟩
       ·rw [if_neg c10] at H
        exact absurd H (by simp)
      ·rw [if_neg c9] at H
       exact absurd H (by simp)
     ·rw [if_neg c8] at H
      have c8b0 : decide (x6_1 ≤ a0) = false := decide_eq_false c8; clear c8; by_cases c34 : 0 ≤ a0
      ·rw [if_pos c34] at H
       have c34b0 : decide (0 ≤ a0) = true := decide_eq_true c34; clear c34; by_cases c35 : a0 < (x5_1.length : Int)
       ·rw [if_pos c35] at H
        have c35b0 : decide (a0 < (x5_1.length : Int)) = true := decide_eq_true c35; clear c35; obtain rfl := Option.some.inj H; obtain ⟨Ao36, co36, eo36⟩ := Kd.R_slice HO_5.out; subst eo36; have p104 : 0 ≤ (a0 : Int) := dT; have q104 : a0 < (x5_1.length : Int) := dT; obtain ⟨ad104, e104, hx104_0⟩ := Kd.at_int (Kd.R_reads' HO_5.out).2.2 a0 p104 q104
        cases e104
        replace p104 := eq_true p104; replace q104 := eq_true q104; go_wp2; go_ret; exact ⟨by first | rfl | (simp [Zz, Zy] <;> rfl) | (simp only [← hji3]; first | rfl | (simp [Zz, Zy] <;> rfl)) | (simp [*, Zz, Zy] <;> rfl), pE HB⟩
       ·rw [if_neg c35] at H
        exact absurd H (by simp)
      ·rw [if_neg c34] at H
       exact absurd H (by simp)
  ·rw [if_neg c5] at H
   exact absurd H (by simp)
 ·rw [if_neg c4] at H
  exact absurd H (by simp)
end Go.Proofs.YtjaapkkpmegkfaaGreat.P
