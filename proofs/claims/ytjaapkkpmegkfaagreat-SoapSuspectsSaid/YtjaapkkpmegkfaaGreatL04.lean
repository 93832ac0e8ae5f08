/- Part 4 of what the law's proof needs beyond its base: words, walks of functions and plain facts. -/
import Derived.Test.YtjaapkkpmegkfaaGreatL03
set_option linter.unusedVariables false
set_option linter.unusedSimpArgs false
namespace Go.Proofs.YtjaapkkpmegkfaaGreat.P
open Go.RowKit Go.Proofs.YtjaapkkpmegkfaaGreatW.PrintWords Go.Proofs.YtjaapkkpmegkfaaGreatW.PrintLast Go.Proofs.YtjaapkkpmegkfaaGreatW.PrintMore
attribute [local go_sem] JG JH JY JX Jv Ju JJ JK
mutual
def Qas.j0 : Nat → Int → Bool → List Int → List Int → Int → Option Bool
 | 0, _, _, _, _, _ => none
 | k + 1, x1, x27, x102000, x102001, x102002 => if x27 = true then (some false) else (Qas.l0 k x1 0 x102000 x102001 x102002)
def Qas.l0 : Nat → Int → Int → List Int → List Int → Int → Option Bool
 | 0, _, _, _, _, _ => none
 | k + 1, x1, x5, x102000, x102001, x102002 => if x5 < 2 then (if x5 = 0 then (Qas.l1 k x1 x5 x102000 x102001 0 x102000 x102001 x102002) else (if x5 = 1 then (Qas.l101 k x1 x5 x102001 x102000 0 x102000 x102001 x102002) else (none))) else (some true)
def Qas.l1 : Nat → Int → Int → List Int → List Int → Int → List Int → List Int → Int → Option Bool
 | 0, _, _, _, _, _, _, _, _ => none
 | k + 1, x1, x5, x6, x7, x8, x102000, x102001, x102002 => if x8 < (x6.length : Int) then (if 0 ≤ x8 then ((Jp.f (rd x6 x8) 0 (wrap64 (x1 - 1))).bind fun t104 => (if t104 = true then (if x8 ≤ (x6.length : Int) then ((Qat.f k (x6.take (x8 : Int).toNat) (rd x6 x8)).bind fun t107 => (if t107 = true then (some false) else ((Qat.f k x7 (rd x6 x8)).bind fun t109 => (if t109 = true then (some false) else (Qas.l1 k x1 x5 x6 x7 (wrap64 (x8 + 1)) x102000 x102001 x102002))))) else (none)) else (some false))) else (none)) else (Qas.l0 k x1 (wrap64 (x5 + 1)) x102000 x102001 x102002)
def Qas.l101 : Nat → Int → Int → List Int → List Int → Int → List Int → List Int → Int → Option Bool
 | 0, _, _, _, _, _, _, _, _ => none
 | k + 1, x1, x5, x6, x7, x8, x102000, x102001, x102002 => if x8 < (x6.length : Int) then (if 0 ≤ x8 then ((Jp.f (rd x6 x8) 0 (wrap64 (x1 - 1))).bind fun t111 => (if t111 = true then (if x8 ≤ (x6.length : Int) then ((Qat.f k (x6.take (x8 : Int).toNat) (rd x6 x8)).bind fun t114 => (if t114 = true then (some false) else ((Qat.f k x7 (rd x6 x8)).bind fun t116 => (if t116 = true then (some false) else (Qas.l101 k x1 x5 x6 x7 (wrap64 (x8 + 1)) x102000 x102001 x102002))))) else (none)) else (some false))) else (none)) else (Qas.l0 k x1 (wrap64 (x5 + 1)) x102000 x102001 x102002)
end
def Qas.f (k : Nat) (l0_0 l0_1 : List Int) (a0_2 a1 : Int) : Option Bool := if (l0_0.length : Int) = (l0_1.length : Int) then (if (l0_0.length : Int) = 0 then (Qas.j0 k a1 true l0_0 l0_1 a0_2) else ((Jp.f a0_2 0 2).bind fun t102 => (Qas.j0 k a1 (!t102) l0_0 l0_1 a0_2))) else (Qas.j0 k a1 true l0_0 l0_1 a0_2)
set_option maxHeartbeats 8000000 in
set_option maxRecDepth 100000 in
theorem Qas.calls (k : Nat) (A0_0 : Option Addr) (c0_0 : Nat) (l0_0 : List Int) (A0_1 : Option Addr) (c0_1 : Nat) (l0_1 : List Int) (a0_2 a1 : Int) (r : Bool) (w : World) (hr0_0 : Kd.C (Kd.int .i64) w A0_0 l0_0.length l0_0) (hc0_0 : l0_0.length ≤ c0_0) (hr0_1 : Kd.C (Kd.int .i64) w A0_1 l0_1.length l0_1) (hc0_1 : l0_1.length ≤ c0_1) (h : Qas.f k l0_0 l0_1 a0_2 a1 = some r) :
  Calls Tryz.prog 97 #[.agg #[.slice A0_0 l0_0.length c0_0, .slice A0_1 l0_1.length c0_1, .int .i64 a0_2], .int .i64 a1] w fun e w' => e = .returned (.bool r) ∧ Below w.heap.size w w' := by
 have hix156_0 : ∀ (i_ : Int) (x0_ x1_ : Value) (W_ : World), (i_ == 0) = true → (Instr.index 156 (.agg #[x0_, x1_]) (.int .i64 i_)).run Tryz.prog W_ = .ok (x0_) W_ := fun i_ _ _ _ h_ => by obtain rfl := beq_iff_eq.mp h_; kernel_rfl
 have hix156_1 : ∀ (i_ : Int) (x0_ x1_ : Value) (W_ : World), (i_ == 1) = true → (Instr.index 156 (.agg #[x0_, x1_]) (.int .i64 i_)).run Tryz.prog W_ = .ok (x1_) W_ := fun i_ _ _ _ h_ => by obtain rfl := beq_iff_eq.mp h_; kernel_rfl
 have hu75 := Tryz.underlying75
 have hu156 := Tryz.underlying156
 have HR0_0 := Qa.mk hr0_0
 have HC0_0 := Qa.mk hc0_0
 clear hr0_0 hc0_0
 have HR0_1 := Qa.mk hr0_1
 have HC0_1 := Qa.mk hc0_1
 clear hr0_1 hc0_1
 have HB := Qa.mk (Below.refl w.heap.size w)
 have H : (if (l0_0.length : Int) = (l0_1.length : Int) then (if (l0_0.length : Int) = 0 then (Qas.j0 k a1 true l0_0 l0_1 a0_2) else ((Jp.f a0_2 0 2).bind fun t102 => (Qas.j0 k a1 (!t102) l0_0 l0_1 a0_2))) else (Qas.j0 k a1 true l0_0 l0_1 a0_2)) = some r := h
 clear h
 have HC3 := Qa.mk H
 clear H
 go_enter Tryz.func97, Tryz.ntmps97
 go_upto_region 1 with (first | ((with_reducible refine gd 2 ?_); (try (refine QG (by rfl) ?_; dsimp only)); refine bx 2 #[.slice A0_0 l0_0.length c0_0, .slice A0_1 l0_1.length c0_1, .int .i64 a0_2] 75 ?_; intro gb101 hg w4 BK101 hb; have GW101 := gs HB hg; replace HB := bs HB hb; clear hb hg))
 repeat (go_quiet (first | ((with_reducible refine gd 2 ?_); (try (refine QG (by rfl) ?_; dsimp only)); refine bx 2 #[.slice A0_0 l0_0.length c0_0, .slice A0_1 l0_1.length c0_1, .int .i64 a0_2] 75 ?_; intro gb101 hg w4 BK101 hb; have GW101 := gs HB hg; replace HB := bs HB hb; clear hb hg)); go_upto_region 1 with (first | ((with_reducible refine gd 2 ?_); (try (refine QG (by rfl) ?_; dsimp only)); refine bx 2 #[.slice A0_0 l0_0.length c0_0, .slice A0_1 l0_1.length c0_1, .int .i64 a0_2] 75 ?_; intro gb101 hg w4 BK101 hb; have GW101 := gs HB hg; replace HB := bs HB hb; clear hb hg)))
 (try simp only [Act.put, List.setIfInBounds_toArray, List.set_cons_zero, List.set_cons_succ])
 go_cut [27] (fun v27 wc => ∃ (kq : Nat) (x27_2 : Bool), v27 = .bool x27_2 ∧ Qa (Qas.j0 kq a1 x27_2 l0_0 l0_1 a0_2 = some r) ∧ Qa (kq ≤ k) ∧ Qa (wc.heap[gb101]? = some (.cells #[(.slice A0_0 l0_0.length c0_0), (.slice A0_1 l0_1.length c0_1), .int .i64 a0_2] 75 (0, 0))) ∧ Qa (Below w.heap.size w wc))
 case first =>
  have H := HC3.out
  clear HC3
  by_cases c5 : (l0_0.length : Int) = (l0_1.length : Int)
  ·rw [if_pos c5] at H
   have c5b0 : ((l0_0.length : Int) == (l0_1.length : Int)) = true := beq_iff_eq.mpr c5
   have c5b1 : ((l0_0.length : Int) != (l0_1.length : Int)) = false := bne_eq_false_iff_eq.mpr c5
   have c5b2 : (l0_0.length == l0_1.length) = true := by first | simpa using c5 | (simp at c5 ⊢; omega)
   clear c5
   (first | rw [c5b0] | (simp only [QR, QU]; rw [c5b0]) | skip)
   by_cases c6 : (l0_0.length : Int) = 0
   ·rw [if_pos c6] at H
    have c6b0 : ((l0_0.length : Int) == 0) = true := beq_iff_eq.mpr c6
    have c6b1 : ((l0_0.length : Int) != 0) = false := bne_eq_false_iff_eq.mpr c6
    clear c6
    have H' := Qa.mk H
    clear H
    obtain ⟨hcz7_0, hcz7_1, hcz7_2, hfz7_0, hfz7_1, hfz7_2⟩ := cf3 BK101
    go_wp2
    repeat (go_quiet (fail); try go_wp2)
    go_meet
    case rel => exact ⟨_, (true), eS, H', ⟨by first | omega | exact Nat.le_refl _⟩, ⟨pB BK101.out⟩, ⟨pE HB⟩⟩
   ·rw [if_neg c6] at H
    have c6b0 : ((l0_0.length : Int) == 0) = false := beq_eq_false_iff_ne.mpr c6
    have c6b1 : ((l0_0.length : Int) != 0) = true := bne_iff_ne.mpr c6
    have c6b2 : ¬ (l0_0 = []) := fun h_ => c6 (by rw [h_]; rfl)
    obtain ⟨t102, A8, H⟩ := bi H
    have H' := Qa.mk H
    clear H
    obtain ⟨hcz9_0, hcz9_1, hcz9_2, hfz9_0, hfz9_1, hfz9_2⟩ := cf3 BK101
    go_wp2_with (first | (go_at_call 36; (with_reducible refine (Jp.calls a0_2 0 2 t102 _ A8.out).mono ?_); rintro e w' ⟨rfl, ⟨nd, rfl⟩⟩; (try first | exact ⟨rfl, _, World.drewN_drewN _ _ _⟩ | exact ⟨rfl, _, Eq.trans (World.drewN_drewN _ _ _) (congrArg (World.drewN _) (Nat.add_assoc _ _ _))⟩)))
    repeat (go_quiet (first | (go_at_call 36; (with_reducible refine (Jp.calls a0_2 0 2 t102 _ A8.out).mono ?_); rintro e w' ⟨rfl, ⟨nd, rfl⟩⟩; (try first | exact ⟨rfl, _, World.drewN_drewN _ _ _⟩ | exact ⟨rfl, _, Eq.trans (World.drewN_drewN _ _ _) (congrArg (World.drewN _) (Nat.add_assoc _ _ _))⟩))); try go_wp2_with (first | (go_at_call 36; (with_reducible refine (Jp.calls a0_2 0 2 t102 _ A8.out).mono ?_); rintro e w' ⟨rfl, ⟨nd, rfl⟩⟩; (try first | exact ⟨rfl, _, World.drewN_drewN _ _ _⟩ | exact ⟨rfl, _, Eq.trans (World.drewN_drewN _ _ _) (congrArg (World.drewN _) (Nat.add_assoc _ _ _))⟩))))
    go_meet
    case rel => exact ⟨_, (!t102), eS, H', ⟨by first | omega | exact Nat.le_refl _⟩, ⟨pB BK101.out⟩, ⟨pE HB⟩⟩
  ·rw [if_neg c5] at H
   have c5b0 : ((l0_0.length : Int) == (l0_1.length : Int)) = false := beq_eq_false_iff_ne.mpr c5
   have c5b1 : ((l0_0.length : Int) != (l0_1.length : Int)) = true := bne_iff_ne.mpr c5
   have c5b2 : (l0_0.length == l0_1.length) = false := by first | simpa using c5 | (simp at c5 ⊢; omega)
   (first | rw [c5b0] | (simp only [QR, QU]; rw [c5b0]) | skip)
   have H' := Qa.mk H
   clear H
   obtain ⟨hcz10_0, hcz10_1, hcz10_2, hfz10_0, hfz10_1, hfz10_2⟩ := cf3 BK101
   go_wp2
   repeat (go_quiet (fail); try go_wp2)
   go_meet
   case rel => exact ⟨_, (true), eS, H', ⟨by first | omega | exact Nat.le_refl _⟩, ⟨pB BK101.out⟩, ⟨pE HB⟩⟩
 case rest =>
  clear HC3
  obtain ⟨kq, x27_2, rfl, HA, HJ2, BK101, HB⟩ := hcut
  cases kq with
  | zero => exact absurd HA.out (by simp [Qas.j0])
  | succ kj2 =>
   have H := HA.out
   clear HA
   simp only [Qas.j0] at H
   by_cases c11 : x27_2 = true
   ·subst c11
    rw [if_pos rfl] at H
    obtain rfl := Option.some.inj H
    go_wp2
    repeat (go_quiet (fail); try go_wp2)
    go_ret
    exact ⟨eT, pE HB⟩
   ·replace c11 := Bool.eq_false_iff.mpr c11
    subst c11
    rw [if_neg (show ¬ (false = true) by decide)] at H
    have H' := Qa.mk H
    clear H
    go_wp2
    repeat (go_quiet (fail); try go_wp2)
    go_loopg [5] kj2 (fun kq v5 w' => ∃ (x5_2 : Int), v5 = .int .i64 x5_2 ∧ Qa (Qas.l0 kq a1 x5_2 l0_0 l0_1 a0_2 = some r) ∧ Qa (kq ≤ kj2) ∧ Qa (w'.heap[gb101]? = some (.cells #[(.slice A0_0 l0_0.length c0_0), (.slice A0_1 l0_1.length c0_1), .int .i64 a0_2] 75 (0, 0))) ∧ Qa (Below w.heap.size w w'))
    case atStart => exact ⟨(0), eS, H', ⟨Nat.le_refl _⟩, ⟨pB BK101.out⟩, ⟨pE HB⟩⟩
    case round =>
     clear H'
     try clear c11
     obtain ⟨x5_2, rfl, HA, HK2, BK101, HB⟩ := hrel
     cases gk with
     | zero => exact absurd HA.out (by simp [Qas.l0])
     | succ k2 =>
      have H := HA.out
      clear HA
      simp only [Qas.l0] at H
      by_cases c12 : x5_2 < 2
      ·rw [if_pos c12] at H
       have c12b0 : decide (x5_2 < 2) = true := decide_eq_true c12
       clear c12
       by_cases c13 : x5_2 = 0
       ·rw [if_pos c13] at H
        have c13b0 : (x5_2 == 0) = true := beq_iff_eq.mpr c13
        have c13b1 : (x5_2 != 0) = false := bne_eq_false_iff_eq.mpr c13
        clear c13
        have H' := Qa.mk H
        clear H
        obtain ⟨hcz14_0, hcz14_1, hcz14_2, hfz14_0, hfz14_1, hfz14_2⟩ := cf3 BK101
        go_wp2
        repeat (go_quiet (fail); try go_wp2)
        go_loopg [8] k2 (fun kq v8 w' => ∃ (x8_3 : Int), v8 = .int .i64 x8_3 ∧ Qa (Qas.l1 kq a1 x5_2 l0_0 l0_1 x8_3 l0_0 l0_1 a0_2 = some r) ∧ Qa (kq ≤ k2) ∧ Qa (w'.heap[gb101]? = some (.cells #[(.slice A0_0 l0_0.length c0_0), (.slice A0_1 l0_1.length c0_1), .int .i64 a0_2] 75 (0, 0))) ∧ Qa (Below w.heap.size w w'))
        case atStart => exact ⟨(0), eS, H', ⟨Nat.le_refl _⟩, ⟨pB BK101.out⟩, ⟨pE HB⟩⟩
        case round =>
         clear H'
         (try clear c12b0); (try clear c13b0); (try clear c13b1); (try clear hcz14_0); (try clear hcz14_1); (try clear hcz14_2); (try clear hfz14_0); (try clear hfz14_1); (try clear hfz14_2)
         obtain ⟨x8_3, rfl, HA, HK3, BK101, HB⟩ := hrel
         cases gk with
         | zero => exact absurd HA.out (by simp [Qas.l1])
         | succ k3 =>
          have H := HA.out
          clear HA
          simp only [Qas.l1] at H
          by_cases c15 : x8_3 < (l0_0.length : Int)
          ·rw [if_pos c15] at H
           have c15b0 : decide (x8_3 < (l0_0.length : Int)) = true := decide_eq_true c15
           clear c15
           by_cases c16 : 0 ≤ x8_3
           ·rw [if_pos c16] at H
            have c16b0 : decide (0 ≤ x8_3) = true := decide_eq_true c16
            clear c16
            obtain ⟨t104, A17, H⟩ := bi H
            by_cases c18 : t104 = true
            ·subst c18
             rw [if_pos rfl] at H
             have c19b0 := eq_true (dT : 0 ≤ x8_3)
             by_cases c20 : x8_3 ≤ (l0_0.length : Int)
             ·rw [if_pos c20] at H
              have c20b0 := eq_true c20
              have c20b1 : decide (x8_3 ≤ (l0_0.length : Int)) = true := decide_eq_true c20
              clear c20
              obtain ⟨t107, A21, H⟩ := bi H
              by_cases c22 : t107 = true
              ·subst c22
               rw [if_pos rfl] at H
               obtain rfl := Option.some.inj H
               have p103 : 0 ≤ (x8_3 : Int) := dT
               have q103 : x8_3 < (l0_0.length : Int) := dT
               obtain ⟨ad103, e103, hx103_0⟩ := Kd.at_int HR0_0.out x8_3 p103 q103
               cases e103
               replace hx103_0 := cut_ HB hx103_0
               replace p103 := eq_true p103
               replace q103 := eq_true q103
               obtain ⟨i023, hi023, _, hsz23, _⟩ := info_parts J5
               obtain ⟨hcut23, hA23, hC23⟩ := Qa2 (P := Tryz.prog) (Value.int .i64) 0 27 3 .i64 Tryz.underlying27 hi023 hsz23 (some ad103) c0_0 l0_0 x8_3 (dT) (dT) HC0_0.out
               have HR105 := Qa.mk (Kd.C_of_reads (h1 := fun _ => rfl) (hA23 _ (Kd.YC HR0_0.out)))
               have HC105 := Qa.mk hC23
               clear hA23 hC23 hi023 hsz23
               have p106 : 0 ≤ (x8_3 : Int) := dT
               have q106 : x8_3 < (l0_0.length : Int) := dT
               obtain ⟨ad106, e106, hx106_0⟩ := Kd.at_int HR0_0.out x8_3 p106 q106
               obtain rfl : ad103 = ad106 := (by injection e106)
               replace hx106_0 := cut_ HB hx106_0
               replace p106 := eq_true p106
               replace q106 := eq_true q106
               go_wp2_with (first | (go_at_call 36; (with_reducible refine (Jp.calls (rd l0_0 x8_3) 0 (wrap64 (a1 - 1)) true _ A17.out).mono ?_); rintro e w' ⟨rfl, ⟨nd, rfl⟩⟩; (try first | exact ⟨rfl, _, World.drewN_drewN _ _ _⟩ | exact ⟨rfl, _, Eq.trans (World.drewN_drewN _ _ _) (congrArg (World.drewN _) (Nat.add_assoc _ _ _))⟩)) | (go_at_call 98; (try rw [show (x8_3 : Int).toNat = (l0_0.take (x8_3 : Int).toNat).length from (by have h9_ : x8_3 ≤ (l0_0.length : Int) := dT; rw [List.length_take]; omega)]); (with_reducible refine (Qat.calls k3 _ _ (l0_0.take (x8_3 : Int).toNat) (rd l0_0 x8_3) true _ ?side1 ?side2 A21.out).mono ?_); (case side1 => exact pC (Kd.C_below HR105.out (pE HB))); (case side2 => exact HC105.out); rintro e w' ⟨rfl, ⟨nd, rfl⟩⟩; (try first | exact ⟨rfl, _, World.drewN_drewN _ _ _⟩ | exact ⟨rfl, _, Eq.trans (World.drewN_drewN _ _ _) (congrArg (World.drewN _) (Nat.add_assoc _ _ _))⟩)))
               repeat (go_quiet (first | (go_at_call 36; (with_reducible refine (Jp.calls (rd l0_0 x8_3) 0 (wrap64 (a1 - 1)) true _ A17.out).mono ?_); rintro e w' ⟨rfl, ⟨nd, rfl⟩⟩; (try first | exact ⟨rfl, _, World.drewN_drewN _ _ _⟩ | exact ⟨rfl, _, Eq.trans (World.drewN_drewN _ _ _) (congrArg (World.drewN _) (Nat.add_assoc _ _ _))⟩)) | (go_at_call 98; (try rw [show (x8_3 : Int).toNat = (l0_0.take (x8_3 : Int).toNat).length from (by have h9_ : x8_3 ≤ (l0_0.length : Int) := dT; rw [List.length_take]; omega)]); (with_reducible refine (Qat.calls k3 _ _ (l0_0.take (x8_3 : Int).toNat) (rd l0_0 x8_3) true _ ?side1 ?side2 A21.out).mono ?_); (case side1 => exact pC (Kd.C_below HR105.out (pE HB))); (case side2 => exact HC105.out); rintro e w' ⟨rfl, ⟨nd, rfl⟩⟩; (try first | exact ⟨rfl, _, World.drewN_drewN _ _ _⟩ | exact ⟨rfl, _, Eq.trans (World.drewN_drewN _ _ _) (congrArg (World.drewN _) (Nat.add_assoc _ _ _))⟩))); try go_wp2_with (first | (go_at_call 36; (with_reducible refine (Jp.calls (rd l0_0 x8_3) 0 (wrap64 (a1 - 1)) true _ A17.out).mono ?_); rintro e w' ⟨rfl, ⟨nd, rfl⟩⟩; (try first | exact ⟨rfl, _, World.drewN_drewN _ _ _⟩ | exact ⟨rfl, _, Eq.trans (World.drewN_drewN _ _ _) (congrArg (World.drewN _) (Nat.add_assoc _ _ _))⟩)) | (go_at_call 98; (try rw [show (x8_3 : Int).toNat = (l0_0.take (x8_3 : Int).toNat).length from (by have h9_ : x8_3 ≤ (l0_0.length : Int) := dT; rw [List.length_take]; omega)]); (with_reducible refine (Qat.calls k3 _ _ (l0_0.take (x8_3 : Int).toNat) (rd l0_0 x8_3) true _ ?side1 ?side2 A21.out).mono ?_); (case side1 => exact pC (Kd.C_below HR105.out (pE HB))); (case side2 => exact HC105.out); rintro e w' ⟨rfl, ⟨nd, rfl⟩⟩; (try first | exact ⟨rfl, _, World.drewN_drewN _ _ _⟩ | exact ⟨rfl, _, Eq.trans (World.drewN_drewN _ _ _) (congrArg (World.drewN _) (Nat.add_assoc _ _ _))⟩))))
               go_ret
               exact ⟨eT, pE HB⟩
              ·replace c22 := Bool.eq_false_iff.mpr c22
               subst c22
               rw [if_neg (show ¬ (false = true) by decide)] at H
               obtain ⟨t109, A24, H⟩ := bi H
               by_cases c25 : t109 = true
               ·subst c25
                rw [if_pos rfl] at H
                obtain rfl := Option.some.inj H
                have p103 : 0 ≤ (x8_3 : Int) := dT
                have q103 : x8_3 < (l0_0.length : Int) := dT
                obtain ⟨ad103, e103, hx103_0⟩ := Kd.at_int HR0_0.out x8_3 p103 q103
                cases e103
                replace hx103_0 := cut_ HB hx103_0
                replace p103 := eq_true p103
                replace q103 := eq_true q103
                obtain ⟨i026, hi026, _, hsz26, _⟩ := info_parts J5
                obtain ⟨hcut26, hA26, hC26⟩ := Qa2 (P := Tryz.prog) (Value.int .i64) 0 27 3 .i64 Tryz.underlying27 hi026 hsz26 (some ad103) c0_0 l0_0 x8_3 (dT) (dT) HC0_0.out
                have HR105 := Qa.mk (Kd.C_of_reads (h1 := fun _ => rfl) (hA26 _ (Kd.YC HR0_0.out)))
                have HC105 := Qa.mk hC26
                clear hA26 hC26 hi026 hsz26
                have p106 : 0 ≤ (x8_3 : Int) := dT
                have q106 : x8_3 < (l0_0.length : Int) := dT
                obtain ⟨ad106, e106, hx106_0⟩ := Kd.at_int HR0_0.out x8_3 p106 q106
                obtain rfl : ad103 = ad106 := (by injection e106)
                replace hx106_0 := cut_ HB hx106_0
                replace p106 := eq_true p106
                replace q106 := eq_true q106
                have p108 : 0 ≤ (x8_3 : Int) := dT
                have q108 : x8_3 < (l0_0.length : Int) := dT
                obtain ⟨ad108, e108, hx108_0⟩ := Kd.at_int HR0_0.out x8_3 p108 q108
                obtain rfl : ad103 = ad108 := (by injection e108)
                replace hx108_0 := cut_ HB hx108_0
                replace p108 := eq_true p108
                replace q108 := eq_true q108
                go_wp2_with (first | (go_at_call 36; (with_reducible refine (Jp.calls (rd l0_0 x8_3) 0 (wrap64 (a1 - 1)) true _ A17.out).mono ?_); rintro e w' ⟨rfl, ⟨nd, rfl⟩⟩; (try first | exact ⟨rfl, _, World.drewN_drewN _ _ _⟩ | exact ⟨rfl, _, Eq.trans (World.drewN_drewN _ _ _) (congrArg (World.drewN _) (Nat.add_assoc _ _ _))⟩)) | (go_at_call 98; (try rw [show (x8_3 : Int).toNat = (l0_0.take (x8_3 : Int).toNat).length from (by have h9_ : x8_3 ≤ (l0_0.length : Int) := dT; rw [List.length_take]; omega)]); (with_reducible refine (Qat.calls k3 _ _ (l0_0.take (x8_3 : Int).toNat) (rd l0_0 x8_3) false _ ?side1 ?side2 A21.out).mono ?_); (case side1 => exact pC (Kd.C_below HR105.out (pE HB))); (case side2 => exact HC105.out); rintro e w' ⟨rfl, ⟨nd, rfl⟩⟩; (try first | exact ⟨rfl, _, World.drewN_drewN _ _ _⟩ | exact ⟨rfl, _, Eq.trans (World.drewN_drewN _ _ _) (congrArg (World.drewN _) (Nat.add_assoc _ _ _))⟩)) | (go_at_call 98; (with_reducible refine (Qat.calls k3 _ _ l0_1 (rd l0_0 x8_3) true _ ?side1 ?side2 A24.out).mono ?_); (case side1 => exact pC (Kd.C_below HR0_1.out (pE HB))); (case side2 => exact HC0_1.out); rintro e w' ⟨rfl, ⟨nd, rfl⟩⟩; (try first | exact ⟨rfl, _, World.drewN_drewN _ _ _⟩ | exact ⟨rfl, _, Eq.trans (World.drewN_drewN _ _ _) (congrArg (World.drewN _) (Nat.add_assoc _ _ _))⟩)))
                repeat (go_quiet (first | (go_at_call 36; (with_reducible refine (Jp.calls (rd l0_0 x8_3) 0 (wrap64 (a1 - 1)) true _ A17.out).mono ?_); rintro e w' ⟨rfl, ⟨nd, rfl⟩⟩; (try first | exact ⟨rfl, _, World.drewN_drewN _ _ _⟩ | exact ⟨rfl, _, Eq.trans (World.drewN_drewN _ _ _) (congrArg (World.drewN _) (Nat.add_assoc _ _ _))⟩)) | (go_at_call 98; (try rw [show (x8_3 : Int).toNat = (l0_0.take (x8_3 : Int).toNat).length from (by have h9_ : x8_3 ≤ (l0_0.length : Int) := dT; rw [List.length_take]; omega)]); (with_reducible refine (Qat.calls k3 _ _ (l0_0.take (x8_3 : Int).toNat) (rd l0_0 x8_3) false _ ?side1 ?side2 A21.out).mono ?_); (case side1 => exact pC (Kd.C_below HR105.out (pE HB))); (case side2 => exact HC105.out); rintro e w' ⟨rfl, ⟨nd, rfl⟩⟩; (try first | exact ⟨rfl, _, World.drewN_drewN _ _ _⟩ | exact ⟨rfl, _, Eq.trans (World.drewN_drewN _ _ _) (congrArg (World.drewN _) (Nat.add_assoc _ _ _))⟩)) | (go_at_call 98; (with_reducible refine (Qat.calls k3 _ _ l0_1 (rd l0_0 x8_3) true _ ?side1 ?side2 A24.out).mono ?_); (case side1 => exact pC (Kd.C_below HR0_1.out (pE HB))); (case side2 => exact HC0_1.out); rintro e w' ⟨rfl, ⟨nd, rfl⟩⟩; (try first | exact ⟨rfl, _, World.drewN_drewN _ _ _⟩ | exact ⟨rfl, _, Eq.trans (World.drewN_drewN _ _ _) (congrArg (World.drewN _) (Nat.add_assoc _ _ _))⟩))); try go_wp2_with (first | (go_at_call 36; (with_reducible refine (Jp.calls (rd l0_0 x8_3) 0 (wrap64 (a1 - 1)) true _ A17.out).mono ?_); rintro e w' ⟨rfl, ⟨nd, rfl⟩⟩; (try first | exact ⟨rfl, _, World.drewN_drewN _ _ _⟩ | exact ⟨rfl, _, Eq.trans (World.drewN_drewN _ _ _) (congrArg (World.drewN _) (Nat.add_assoc _ _ _))⟩)) | (go_at_call 98; (try rw [show (x8_3 : Int).toNat = (l0_0.take (x8_3 : Int).toNat).length from (by have h9_ : x8_3 ≤ (l0_0.length : Int) := dT; rw [List.length_take]; omega)]); (with_reducible refine (Qat.calls k3 _ _ (l0_0.take (x8_3 : Int).toNat) (rd l0_0 x8_3) false _ ?side1 ?side2 A21.out).mono ?_); (case side1 => exact pC (Kd.C_below HR105.out (pE HB))); (case side2 => exact HC105.out); rintro e w' ⟨rfl, ⟨nd, rfl⟩⟩; (try first | exact ⟨rfl, _, World.drewN_drewN _ _ _⟩ | exact ⟨rfl, _, Eq.trans (World.drewN_drewN _ _ _) (congrArg (World.drewN _) (Nat.add_assoc _ _ _))⟩)) | (go_at_call 98; (with_reducible refine (Qat.calls k3 _ _ l0_1 (rd l0_0 x8_3) true _ ?side1 ?side2 A24.out).mono ?_); (case side1 => exact pC (Kd.C_below HR0_1.out (pE HB))); (case side2 => exact HC0_1.out); rintro e w' ⟨rfl, ⟨nd, rfl⟩⟩; (try first | exact ⟨rfl, _, World.drewN_drewN _ _ _⟩ | exact ⟨rfl, _, Eq.trans (World.drewN_drewN _ _ _) (congrArg (World.drewN _) (Nat.add_assoc _ _ _))⟩))))
                go_ret
                exact ⟨eT, pE HB⟩
               ·replace c25 := Bool.eq_false_iff.mpr c25
                subst c25
                rw [if_neg (show ¬ (false = true) by decide)] at H
                have H' := Qa.mk H
                clear H
                have p103 : 0 ≤ (x8_3 : Int) := dT
                have q103 : x8_3 < (l0_0.length : Int) := dT
                obtain ⟨ad103, e103, hx103_0⟩ := Kd.at_int HR0_0.out x8_3 p103 q103
                cases e103
                replace hx103_0 := cut_ HB hx103_0
                replace p103 := eq_true p103
                replace q103 := eq_true q103
                obtain ⟨i027, hi027, _, hsz27, _⟩ := info_parts J5
                obtain ⟨hcut27, hA27, hC27⟩ := Qa2 (P := Tryz.prog) (Value.int .i64) 0 27 3 .i64 Tryz.underlying27 hi027 hsz27 (some ad103) c0_0 l0_0 x8_3 (dT) (dT) HC0_0.out
                have HR105 := Qa.mk (Kd.C_of_reads (h1 := fun _ => rfl) (hA27 _ (Kd.YC HR0_0.out)))
                have HC105 := Qa.mk hC27
                clear hA27 hC27 hi027 hsz27
                have p106 : 0 ≤ (x8_3 : Int) := dT
                have q106 : x8_3 < (l0_0.length : Int) := dT
                obtain ⟨ad106, e106, hx106_0⟩ := Kd.at_int HR0_0.out x8_3 p106 q106
                obtain rfl : ad103 = ad106 := (by injection e106)
                replace hx106_0 := cut_ HB hx106_0
                replace p106 := eq_true p106
                replace q106 := eq_true q106
                have p108 : 0 ≤ (x8_3 : Int) := dT
                have q108 : x8_3 < (l0_0.length : Int) := dT
                obtain ⟨ad108, e108, hx108_0⟩ := Kd.at_int HR0_0.out x8_3 p108 q108
                obtain rfl : ad103 = ad108 := (by injection e108)
                replace hx108_0 := cut_ HB hx108_0
                replace p108 := eq_true p108
                replace q108 := eq_true q108
                go_wp2_with (first | (go_at_call 36; (with_reducible refine (Jp.calls (rd l0_0 x8_3) 0 (wrap64 (a1 - 1)) true _ A17.out).mono ?_); rintro e w' ⟨rfl, ⟨nd, rfl⟩⟩; (try first | exact ⟨rfl, _, World.drewN_drewN _ _ _⟩ | exact ⟨rfl, _, Eq.trans (World.drewN_drewN _ _ _) (congrArg (World.drewN _) (Nat.add_assoc _ _ _))⟩)) | (go_at_call 98; (try rw [show (x8_3 : Int).toNat = (l0_0.take (x8_3 : Int).toNat).length from (by have h9_ : x8_3 ≤ (l0_0.length : Int) := dT; rw [List.length_take]; omega)]); (with_reducible refine (Qat.calls k3 _ _ (l0_0.take (x8_3 : Int).toNat) (rd l0_0 x8_3) false _ ?side1 ?side2 A21.out).mono ?_); (case side1 => exact pC (Kd.C_below HR105.out (pE HB))); (case side2 => exact HC105.out); rintro e w' ⟨rfl, ⟨nd, rfl⟩⟩; (try first | exact ⟨rfl, _, World.drewN_drewN _ _ _⟩ | exact ⟨rfl, _, Eq.trans (World.drewN_drewN _ _ _) (congrArg (World.drewN _) (Nat.add_assoc _ _ _))⟩)) | (go_at_call 98; (with_reducible refine (Qat.calls k3 _ _ l0_1 (rd l0_0 x8_3) false _ ?side1 ?side2 A24.out).mono ?_); (case side1 => exact pC (Kd.C_below HR0_1.out (pE HB))); (case side2 => exact HC0_1.out); rintro e w' ⟨rfl, ⟨nd, rfl⟩⟩; (try first | exact ⟨rfl, _, World.drewN_drewN _ _ _⟩ | exact ⟨rfl, _, Eq.trans (World.drewN_drewN _ _ _) (congrArg (World.drewN _) (Nat.add_assoc _ _ _))⟩)))
                repeat (go_quiet (first | (go_at_call 36; (with_reducible refine (Jp.calls (rd l0_0 x8_3) 0 (wrap64 (a1 - 1)) true _ A17.out).mono ?_); rintro e w' ⟨rfl, ⟨nd, rfl⟩⟩; (try first | exact ⟨rfl, _, World.drewN_drewN _ _ _⟩ | exact ⟨rfl, _, Eq.trans (World.drewN_drewN _ _ _) (congrArg (World.drewN _) (Nat.add_assoc _ _ _))⟩)) | (go_at_call 98; (try rw [show (x8_3 : Int).toNat = (l0_0.take (x8_3 : Int).toNat).length from (by have h9_ : x8_3 ≤ (l0_0.length : Int) := dT; rw [List.length_take]; omega)]); (with_reducible refine (Qat.calls k3 _ _ (l0_0.take (x8_3 : Int).toNat) (rd l0_0 x8_3) false _ ?side1 ?side2 A21.out).mono ?_); (case side1 => exact pC (Kd.C_below HR105.out (pE HB))); (case side2 => exact HC105.out); rintro e w' ⟨rfl, ⟨nd, rfl⟩⟩; (try first | exact ⟨rfl, _, World.drewN_drewN _ _ _⟩ | exact ⟨rfl, _, Eq.trans (World.drewN_drewN _ _ _) (congrArg (World.drewN _) (Nat.add_assoc _ _ _))⟩)) | (go_at_call 98; (with_reducible refine (Qat.calls k3 _ _ l0_1 (rd l0_0 x8_3) false _ ?side1 ?side2 A24.out).mono ?_); (case side1 => exact pC (Kd.C_below HR0_1.out (pE HB))); (case side2 => exact HC0_1.out); rintro e w' ⟨rfl, ⟨nd, rfl⟩⟩; (try first | exact ⟨rfl, _, World.drewN_drewN _ _ _⟩ | exact ⟨rfl, _, Eq.trans (World.drewN_drewN _ _ _) (congrArg (World.drewN _) (Nat.add_assoc _ _ _))⟩))); try go_wp2_with (first | (go_at_call 36; (with_reducible refine (Jp.calls (rd l0_0 x8_3) 0 (wrap64 (a1 - 1)) true _ A17.out).mono ?_); rintro e w' ⟨rfl, ⟨nd, rfl⟩⟩; (try first | exact ⟨rfl, _, World.drewN_drewN _ _ _⟩ | exact ⟨rfl, _, Eq.trans (World.drewN_drewN _ _ _) (congrArg (World.drewN _) (Nat.add_assoc _ _ _))⟩)) | (go_at_call 98; (try rw [show (x8_3 : Int).toNat = (l0_0.take (x8_3 : Int).toNat).length from (by have h9_ : x8_3 ≤ (l0_0.length : Int) := dT; rw [List.length_take]; omega)]); (with_reducible refine (Qat.calls k3 _ _ (l0_0.take (x8_3 : Int).toNat) (rd l0_0 x8_3) false _ ?side1 ?side2 A21.out).mono ?_); (case side1 => exact pC (Kd.C_below HR105.out (pE HB))); (case side2 => exact HC105.out); rintro e w' ⟨rfl, ⟨nd, rfl⟩⟩; (try first | exact ⟨rfl, _, World.drewN_drewN _ _ _⟩ | exact ⟨rfl, _, Eq.trans (World.drewN_drewN _ _ _) (congrArg (World.drewN _) (Nat.add_assoc _ _ _))⟩)) | (go_at_call 98; (with_reducible refine (Qat.calls k3 _ _ l0_1 (rd l0_0 x8_3) false _ ?side1 ?side2 A24.out).mono ?_); (case side1 => exact pC (Kd.C_below HR0_1.out (pE HB))); (case side2 => exact HC0_1.out); rintro e w' ⟨rfl, ⟨nd, rfl⟩⟩; (try first | exact ⟨rfl, _, World.drewN_drewN _ _ _⟩ | exact ⟨rfl, _, Eq.trans (World.drewN_drewN _ _ _) (congrArg (World.drewN _) (Nat.add_assoc _ _ _))⟩))))
                go_roundg k3
                case measure => have := HJ2.out; have := HK2.out; have := HK3.out; omega
                case rel => exact ⟨(wrap64 (x8_3 + 1)), eS, H', ⟨by have := HJ2.out; have := HK2.out; have := HK3.out; omega⟩, ⟨pB BK101.out⟩, ⟨pE HB⟩⟩
             ·rw [if_neg c20] at H
              exact absurd H (by simp)
            ·replace c18 := Bool.eq_false_iff.mpr c18
             subst c18
             rw [if_neg (show ¬ (false = true) by decide)] at H
             obtain rfl := Option.some.inj H
             have p103 : 0 ≤ (x8_3 : Int) := dT
             have q103 : x8_3 < (l0_0.length : Int) := dT
             obtain ⟨ad103, e103, hx103_0⟩ := Kd.at_int HR0_0.out x8_3 p103 q103
             cases e103
             replace hx103_0 := cut_ HB hx103_0
             replace p103 := eq_true p103
             replace q103 := eq_true q103
             go_wp2_with (first | (go_at_call 36; (with_reducible refine (Jp.calls (rd l0_0 x8_3) 0 (wrap64 (a1 - 1)) false _ A17.out).mono ?_); rintro e w' ⟨rfl, ⟨nd, rfl⟩⟩; (try first | exact ⟨rfl, _, World.drewN_drewN _ _ _⟩ | exact ⟨rfl, _, Eq.trans (World.drewN_drewN _ _ _) (congrArg (World.drewN _) (Nat.add_assoc _ _ _))⟩)))
             repeat (go_quiet (first | (go_at_call 36; (with_reducible refine (Jp.calls (rd l0_0 x8_3) 0 (wrap64 (a1 - 1)) false _ A17.out).mono ?_); rintro e w' ⟨rfl, ⟨nd, rfl⟩⟩; (try first | exact ⟨rfl, _, World.drewN_drewN _ _ _⟩ | exact ⟨rfl, _, Eq.trans (World.drewN_drewN _ _ _) (congrArg (World.drewN _) (Nat.add_assoc _ _ _))⟩))); try go_wp2_with (first | (go_at_call 36; (with_reducible refine (Jp.calls (rd l0_0 x8_3) 0 (wrap64 (a1 - 1)) false _ A17.out).mono ?_); rintro e w' ⟨rfl, ⟨nd, rfl⟩⟩; (try first | exact ⟨rfl, _, World.drewN_drewN _ _ _⟩ | exact ⟨rfl, _, Eq.trans (World.drewN_drewN _ _ _) (congrArg (World.drewN _) (Nat.add_assoc _ _ _))⟩))))
             go_ret
             exact ⟨eT, pE HB⟩
           ·rw [if_neg c16] at H
            exact absurd H (by simp)
          ·rw [if_neg c15] at H
           have c15b0 : decide (x8_3 < (l0_0.length : Int)) = false := decide_eq_false c15
           clear c15
           have H' := Qa.mk H
           clear H
           go_wp2
           repeat (go_quiet (fail); try go_wp2)
           go_roundg k3
           case measure => have := HJ2.out; have := HK2.out; have := HK3.out; omega
           case rel => exact ⟨(wrap64 (x5_2 + 1)), eS, H', ⟨by have := HJ2.out; have := HK2.out; have := HK3.out; omega⟩, ⟨pB BK101.out⟩, ⟨pE HB⟩⟩
       ·rw [if_neg c13] at H
        have c13b0 : (x5_2 == 0) = false := beq_eq_false_iff_ne.mpr c13
        have c13b1 : (x5_2 != 0) = true := bne_iff_ne.mpr c13
        by_cases c28 : x5_2 = 1
        ·rw [if_pos c28] at H
         have c28b0 : (x5_2 == 1) = true := beq_iff_eq.mpr c28
         have c28b1 : (x5_2 != 1) = false := bne_eq_false_iff_eq.mpr c28
         clear c28
         have H' := Qa.mk H
         clear H
         obtain ⟨hcz29_0, hcz29_1, hcz29_2, hfz29_0, hfz29_1, hfz29_2⟩ := cf3 BK101
         go_wp2
         repeat (go_quiet (fail); try go_wp2)
         go_loopg [8] k2 (fun kq v8 w' => ∃ (x8_3 : Int), v8 = .int .i64 x8_3 ∧ Qa (Qas.l101 kq a1 x5_2 l0_1 l0_0 x8_3 l0_0 l0_1 a0_2 = some r) ∧ Qa (kq ≤ k2) ∧ Qa (w'.heap[gb101]? = some (.cells #[(.slice A0_0 l0_0.length c0_0), (.slice A0_1 l0_1.length c0_1), .int .i64 a0_2] 75 (0, 0))) ∧ Qa (Below w.heap.size w w'))
         case atStart => exact ⟨(0), eS, H', ⟨Nat.le_refl _⟩, ⟨pB BK101.out⟩, ⟨pE HB⟩⟩
         case round =>
          clear H'
          (try clear c12b0); (try clear c13); (try clear c13b0); (try clear c13b1); (try clear c28b0); (try clear c28b1); (try clear hcz29_0); (try clear hcz29_1); (try clear hcz29_2); (try clear hfz29_0); (try clear hfz29_1); (try clear hfz29_2)
          obtain ⟨x8_3, rfl, HA, HK3, BK101, HB⟩ := hrel
          cases gk with
          | zero => exact absurd HA.out (by simp [Qas.l101])
          | succ k3 =>
           have H := HA.out
           clear HA
           simp only [Qas.l101] at H
           by_cases c30 : x8_3 < (l0_1.length : Int)
           ·rw [if_pos c30] at H
            have c30b0 : decide (x8_3 < (l0_1.length : Int)) = true := decide_eq_true c30
            clear c30
            by_cases c31 : 0 ≤ x8_3
            ·rw [if_pos c31] at H
             have c31b0 : decide (0 ≤ x8_3) = true := decide_eq_true c31
             clear c31
             obtain ⟨t111, A32, H⟩ := bi H
             by_cases c33 : t111 = true
             ·subst c33
              rw [if_pos rfl] at H
              have c34b0 := eq_true (dT : 0 ≤ x8_3)
              by_cases c35 : x8_3 ≤ (l0_1.length : Int)
              ·rw [if_pos c35] at H
               have c35b0 := eq_true c35
               have c35b1 : decide (x8_3 ≤ (l0_1.length : Int)) = true := decide_eq_true c35
               clear c35
               obtain ⟨t114, A36, H⟩ := bi H
               by_cases c37 : t114 = true
               ·subst c37
                rw [if_pos rfl] at H
                obtain rfl := Option.some.inj H
                have p110 : 0 ≤ (x8_3 : Int) := dT
                have q110 : x8_3 < (l0_1.length : Int) := dT
                obtain ⟨ad110, e110, hx110_0⟩ := Kd.at_int HR0_1.out x8_3 p110 q110
                cases e110
                replace hx110_0 := cut_ HB hx110_0
                replace p110 := eq_true p110
                replace q110 := eq_true q110
                obtain ⟨i038, hi038, _, hsz38, _⟩ := info_parts J5
                obtain ⟨hcut38, hA38, hC38⟩ := Qa2 (P := Tryz.prog) (Value.int .i64) 0 27 3 .i64 Tryz.underlying27 hi038 hsz38 (some ad110) c0_1 l0_1 x8_3 (dT) (dT) HC0_1.out
                have HR112 := Qa.mk (Kd.C_of_reads (h1 := fun _ => rfl) (hA38 _ (Kd.YC HR0_1.out)))
                have HC112 := Qa.mk hC38
                clear hA38 hC38 hi038 hsz38
                have p113 : 0 ≤ (x8_3 : Int) := dT
                have q113 : x8_3 < (l0_1.length : Int) := dT
                obtain ⟨ad113, e113, hx113_0⟩ := Kd.at_int HR0_1.out x8_3 p113 q113
                obtain rfl : ad110 = ad113 := (by injection e113)
                replace hx113_0 := cut_ HB hx113_0
                replace p113 := eq_true p113
                replace q113 := eq_true q113
                go_wp2_with (first | (go_at_call 36; (with_reducible refine (Jp.calls (rd l0_1 x8_3) 0 (wrap64 (a1 - 1)) true _ A32.out).mono ?_); rintro e w' ⟨rfl, ⟨nd, rfl⟩⟩; (try first | exact ⟨rfl, _, World.drewN_drewN _ _ _⟩ | exact ⟨rfl, _, Eq.trans (World.drewN_drewN _ _ _) (congrArg (World.drewN _) (Nat.add_assoc _ _ _))⟩)) | (go_at_call 98; (try rw [show (x8_3 : Int).toNat = (l0_1.take (x8_3 : Int).toNat).length from (by have h9_ : x8_3 ≤ (l0_1.length : Int) := dT; rw [List.length_take]; omega)]); (with_reducible refine (Qat.calls k3 _ _ (l0_1.take (x8_3 : Int).toNat) (rd l0_1 x8_3) true _ ?side1 ?side2 A36.out).mono ?_); (case side1 => exact pC (Kd.C_below HR112.out (pE HB))); (case side2 => exact HC112.out); rintro e w' ⟨rfl, ⟨nd, rfl⟩⟩; (try first | exact ⟨rfl, _, World.drewN_drewN _ _ _⟩ | exact ⟨rfl, _, Eq.trans (World.drewN_drewN _ _ _) (congrArg (World.drewN _) (Nat.add_assoc _ _ _))⟩)))
                repeat (go_quiet (first | (go_at_call 36; (with_reducible refine (Jp.calls (rd l0_1 x8_3) 0 (wrap64 (a1 - 1)) true _ A32.out).mono ?_); rintro e w' ⟨rfl, ⟨nd, rfl⟩⟩; (try first | exact ⟨rfl, _, World.drewN_drewN _ _ _⟩ | exact ⟨rfl, _, Eq.trans (World.drewN_drewN _ _ _) (congrArg (World.drewN _) (Nat.add_assoc _ _ _))⟩)) | (go_at_call 98; (try rw [show (x8_3 : Int).toNat = (l0_1.take (x8_3 : Int).toNat).length from (by have h9_ : x8_3 ≤ (l0_1.length : Int) := dT; rw [List.length_take]; omega)]); (with_reducible refine (Qat.calls k3 _ _ (l0_1.take (x8_3 : Int).toNat) (rd l0_1 x8_3) true _ ?side1 ?side2 A36.out).mono ?_); (case side1 => exact pC (Kd.C_below HR112.out (pE HB))); (case side2 => exact HC112.out); rintro e w' ⟨rfl, ⟨nd, rfl⟩⟩; (try first | exact ⟨rfl, _, World.drewN_drewN _ _ _⟩ | exact ⟨rfl, _, Eq.trans (World.drewN_drewN _ _ _) (congrArg (World.drewN _) (Nat.add_assoc _ _ _))⟩))); try go_wp2_with (first | (go_at_call 36; (with_reducible refine (Jp.calls (rd l0_1 x8_3) 0 (wrap64 (a1 - 1)) true _ A32.out).mono ?_); rintro e w' ⟨rfl, ⟨nd, rfl⟩⟩; (try first | exact ⟨rfl, _, World.drewN_drewN _ _ _⟩ | exact ⟨rfl, _, Eq.trans (World.drewN_drewN _ _ _) (congrArg (World.drewN _) (Nat.add_assoc _ _ _))⟩)) | (go_at_call 98; (try rw [show (x8_3 : Int).toNat = (l0_1.take (x8_3 : Int).toNat).length from (by have h9_ : x8_3 ≤ (l0_1.length : Int) := dT; rw [List.length_take]; omega)]); (with_reducible refine (Qat.calls k3 _ _ (l0_1.take (x8_3 : Int).toNat) (rd l0_1 x8_3) true _ ?side1 ?side2 A36.out).mono ?_); (case side1 => exact pC (Kd.C_below HR112.out (pE HB))); (case side2 => exact HC112.out); rintro e w' ⟨rfl, ⟨nd, rfl⟩⟩; (try first | exact ⟨rfl, _, World.drewN_drewN _ _ _⟩ | exact ⟨rfl, _, Eq.trans (World.drewN_drewN _ _ _) (congrArg (World.drewN _) (Nat.add_assoc _ _ _))⟩))))
                go_ret
                exact ⟨eT, pE HB⟩
               ·replace c37 := Bool.eq_false_iff.mpr c37
                subst c37
                rw [if_neg (show ¬ (false = true) by decide)] at H
                obtain ⟨t116, A39, H⟩ := bi H
                by_cases c40 : t116 = true
                ·subst c40
                 rw [if_pos rfl] at H
                 obtain rfl := Option.some.inj H
                 have p110 : 0 ≤ (x8_3 : Int) := dT
                 have q110 : x8_3 < (l0_1.length : Int) := dT
                 obtain ⟨ad110, e110, hx110_0⟩ := Kd.at_int HR0_1.out x8_3 p110 q110
                 cases e110
                 replace hx110_0 := cut_ HB hx110_0
                 replace p110 := eq_true p110
                 replace q110 := eq_true q110
                 obtain ⟨i041, hi041, _, hsz41, _⟩ := info_parts J5
                 obtain ⟨hcut41, hA41, hC41⟩ := Qa2 (P := Tryz.prog) (Value.int .i64) 0 27 3 .i64 Tryz.underlying27 hi041 hsz41 (some ad110) c0_1 l0_1 x8_3 (dT) (dT) HC0_1.out
                 have HR112 := Qa.mk (Kd.C_of_reads (h1 := fun _ => rfl) (hA41 _ (Kd.YC HR0_1.out)))
                 have HC112 := Qa.mk hC41
                 clear hA41 hC41 hi041 hsz41
                 have p113 : 0 ≤ (x8_3 : Int) := dT
                 have q113 : x8_3 < (l0_1.length : Int) := dT
                 obtain ⟨ad113, e113, hx113_0⟩ := Kd.at_int HR0_1.out x8_3 p113 q113
                 obtain rfl : ad110 = ad113 := (by injection e113)
                 replace hx113_0 := cut_ HB hx113_0
                 replace p113 := eq_true p113
                 replace q113 := eq_true q113
                 have p115 : 0 ≤ (x8_3 : Int) := dT
                 have q115 : x8_3 < (l0_1.length : Int) := dT
                 obtain ⟨ad115, e115, hx115_0⟩ := Kd.at_int HR0_1.out x8_3 p115 q115
                 obtain rfl : ad110 = ad115 := (by injection e115)
                 replace hx115_0 := cut_ HB hx115_0
                 replace p115 := eq_true p115
                 replace q115 := eq_true q115
                 go_wp2_with (first | (go_at_call 36; (with_reducible refine (Jp.calls (rd l0_1 x8_3) 0 (wrap64 (a1 - 1)) true _ A32.out).mono ?_); rintro e w' ⟨rfl, ⟨nd, rfl⟩⟩; (try first | exact ⟨rfl, _, World.drewN_drewN _ _ _⟩ | exact ⟨rfl, _, Eq.trans (World.drewN_drewN _ _ _) (congrArg (World.drewN _) (Nat.add_assoc _ _ _))⟩)) | (go_at_call 98; (try rw [show (x8_3 : Int).toNat = (l0_1.take (x8_3 : Int).toNat).length from (by have h9_ : x8_3 ≤ (l0_1.length : Int) := dT; rw [List.length_take]; omega)]); (with_reducible refine (Qat.calls k3 _ _ (l0_1.take (x8_3 : Int).toNat) (rd l0_1 x8_3) false _ ?side1 ?side2 A36.out).mono ?_); (case side1 => exact pC (Kd.C_below HR112.out (pE HB))); (case side2 => exact HC112.out); rintro e w' ⟨rfl, ⟨nd, rfl⟩⟩; (try first | exact ⟨rfl, _, World.drewN_drewN _ _ _⟩ | exact ⟨rfl, _, Eq.trans (World.drewN_drewN _ _ _) (congrArg (World.drewN _) (Nat.add_assoc _ _ _))⟩)) | (go_at_call 98; (with_reducible refine (Qat.calls k3 _ _ l0_0 (rd l0_1 x8_3) true _ ?side1 ?side2 A39.out).mono ?_); (case side1 => exact pC (Kd.C_below HR0_0.out (pE HB))); (case side2 => exact HC0_0.out); rintro e w' ⟨rfl, ⟨nd, rfl⟩⟩; (try first | exact ⟨rfl, _, World.drewN_drewN _ _ _⟩ | exact ⟨rfl, _, Eq.trans (World.drewN_drewN _ _ _) (congrArg (World.drewN _) (Nat.add_assoc _ _ _))⟩)))
                 repeat (go_quiet (first | (go_at_call 36; (with_reducible refine (Jp.calls (rd l0_1 x8_3) 0 (wrap64 (a1 - 1)) true _ A32.out).mono ?_); rintro e w' ⟨rfl, ⟨nd, rfl⟩⟩; (try first | exact ⟨rfl, _, World.drewN_drewN _ _ _⟩ | exact ⟨rfl, _, Eq.trans (World.drewN_drewN _ _ _) (congrArg (World.drewN _) (Nat.add_assoc _ _ _))⟩)) | (go_at_call 98; (try rw [show (x8_3 : Int).toNat = (l0_1.take (x8_3 : Int).toNat).length from (by have h9_ : x8_3 ≤ (l0_1.length : Int) := dT; rw [List.length_take]; omega)]); (with_reducible refine (Qat.calls k3 _ _ (l0_1.take (x8_3 : Int).toNat) (rd l0_1 x8_3) false _ ?side1 ?side2 A36.out).mono ?_); (case side1 => exact pC (Kd.C_below HR112.out (pE HB))); (case side2 => exact HC112.out); rintro e w' ⟨rfl, ⟨nd, rfl⟩⟩; (try first | exact ⟨rfl, _, World.drewN_drewN _ _ _⟩ | exact ⟨rfl, _, Eq.trans (World.drewN_drewN _ _ _) (congrArg (World.drewN _) (Nat.add_assoc _ _ _))⟩)) | (go_at_call 98; (with_reducible refine (Qat.calls k3 _ _ l0_0 (rd l0_1 x8_3) true _ ?side1 ?side2 A39.out).mono ?_); (case side1 => exact pC (Kd.C_below HR0_0.out (pE HB))); (case side2 => exact HC0_0.out); rintro e w' ⟨rfl, ⟨nd, rfl⟩⟩; (try first | exact ⟨rfl, _, World.drewN_drewN _ _ _⟩ | exact ⟨rfl, _, Eq.trans (World.drewN_drewN _ _ _) (congrArg (World.drewN _) (Nat.add_assoc _ _ _))⟩))); try go_wp2_with (first | (go_at_call 36; (with_reducible refine (Jp.calls (rd l0_1 x8_3) 0 (wrap64 (a1 - 1)) true _ A32.out).mono ?_); rintro e w' ⟨rfl, ⟨nd, rfl⟩⟩; (try first | exact ⟨rfl, _, World.drewN_drewN _ _ _⟩ | exact ⟨rfl, _, Eq.trans (World.drewN_drewN _ _ _) (congrArg (World.drewN _) (Nat.add_assoc _ _ _))⟩)) | (go_at_call 98; (try rw [show (x8_3 : Int).toNat = (l0_1.take (x8_3 : Int).toNat).length from (by have h9_ : x8_3 ≤ (l0_1.length : Int) := dT; rw [List.length_take]; omega)]); (with_reducible refine (Qat.calls k3 _ _ (l0_1.take (x8_3 : Int).toNat) (rd l0_1 x8_3) false _ ?side1 ?side2 A36.out).mono ?_); (case side1 => exact pC (Kd.C_below HR112.out (pE HB))); (case side2 => exact HC112.out); rintro e w' ⟨rfl, ⟨nd, rfl⟩⟩; (try first | exact ⟨rfl, _, World.drewN_drewN _ _ _⟩ | exact ⟨rfl, _, Eq.trans (World.drewN_drewN _ _ _) (congrArg (World.drewN _) (Nat.add_assoc _ _ _))⟩)) | (go_at_call 98; (with_reducible refine (Qat.calls k3 _ _ l0_0 (rd l0_1 x8_3) true _ ?side1 ?side2 A39.out).mono ?_); (case side1 => exact pC (Kd.C_below HR0_0.out (pE HB))); (case side2 => exact HC0_0.out); rintro e w' ⟨rfl, ⟨nd, rfl⟩⟩; (try first | exact ⟨rfl, _, World.drewN_drewN _ _ _⟩ | exact ⟨rfl, _, Eq.trans (World.drewN_drewN _ _ _) (congrArg (World.drewN _) (Nat.add_assoc _ _ _))⟩))))
                 go_ret
                 exact ⟨eT, pE HB⟩
                ·replace c40 := Bool.eq_false_iff.mpr c40
                 subst c40
                 rw [if_neg (show ¬ (false = true) by decide)] at H
                 have H' := Qa.mk H
                 clear H
                 have p110 : 0 ≤ (x8_3 : Int) := dT
                 have q110 : x8_3 < (l0_1.length : Int) := dT
                 obtain ⟨ad110, e110, hx110_0⟩ := Kd.at_int HR0_1.out x8_3 p110 q110
                 cases e110
                 replace hx110_0 := cut_ HB hx110_0
                 replace p110 := eq_true p110
                 replace q110 := eq_true q110
                 obtain ⟨i042, hi042, _, hsz42, _⟩ := info_parts J5
                 obtain ⟨hcut42, hA42, hC42⟩ := Qa2 (P := Tryz.prog) (Value.int .i64) 0 27 3 .i64 Tryz.underlying27 hi042 hsz42 (some ad110) c0_1 l0_1 x8_3 (dT) (dT) HC0_1.out
                 have HR112 := Qa.mk (Kd.C_of_reads (h1 := fun _ => rfl) (hA42 _ (Kd.YC HR0_1.out)))
                 have HC112 := Qa.mk hC42
                 clear hA42 hC42 hi042 hsz42
                 have p113 : 0 ≤ (x8_3 : Int) := dT
                 have q113 : x8_3 < (l0_1.length : Int) := dT
                 obtain ⟨ad113, e113, hx113_0⟩ := Kd.at_int HR0_1.out x8_3 p113 q113
                 obtain rfl : ad110 = ad113 := (by injection e113)
                 replace hx113_0 := cut_ HB hx113_0
                 replace p113 := eq_true p113
                 replace q113 := eq_true q113
                 have p115 : 0 ≤ (x8_3 : Int) := dT
                 have q115 : x8_3 < (l0_1.length : Int) := dT
                 obtain ⟨ad115, e115, hx115_0⟩ := Kd.at_int HR0_1.out x8_3 p115 q115
                 obtain rfl : ad110 = ad115 := (by injection e115)
                 replace hx115_0 := cut_ HB hx115_0
                 replace p115 := eq_true p115
                 replace q115 := eq_true q115
                 go_wp2_with (first | (go_at_call 36; (with_reducible refine (Jp.calls (rd l0_1 x8_3) 0 (wrap64 (a1 - 1)) true _ A32.out).mono ?_); rintro e w' ⟨rfl, ⟨nd, rfl⟩⟩; (try first | exact ⟨rfl, _, World.drewN_drewN _ _ _⟩ | exact ⟨rfl, _, Eq.trans (World.drewN_drewN _ _ _) (congrArg (World.drewN _) (Nat.add_assoc _ _ _))⟩)) | (go_at_call 98; (try rw [show (x8_3 : Int).toNat = (l0_1.take (x8_3 : Int).toNat).length from (by have h9_ : x8_3 ≤ (l0_1.length : Int) := dT; rw [List.length_take]; omega)]); (with_reducible refine (Qat.calls k3 _ _ (l0_1.take (x8_3 : Int).toNat) (rd l0_1 x8_3) false _ ?side1 ?side2 A36.out).mono ?_); (case side1 => exact pC (Kd.C_below HR112.out (pE HB))); (case side2 => exact HC112.out); rintro e w' ⟨rfl, ⟨nd, rfl⟩⟩; (try first | exact ⟨rfl, _, World.drewN_drewN _ _ _⟩ | exact ⟨rfl, _, Eq.trans (World.drewN_drewN _ _ _) (congrArg (World.drewN _) (Nat.add_assoc _ _ _))⟩)) | (go_at_call 98; (with_reducible refine (Qat.calls k3 _ _ l0_0 (rd l0_1 x8_3) false _ ?side1 ?side2 A39.out).mono ?_); (case side1 => exact pC (Kd.C_below HR0_0.out (pE HB))); (case side2 => exact HC0_0.out); rintro e w' ⟨rfl, ⟨nd, rfl⟩⟩; (try first | exact ⟨rfl, _, World.drewN_drewN _ _ _⟩ | exact ⟨rfl, _, Eq.trans (World.drewN_drewN _ _ _) (congrArg (World.drewN _) (Nat.add_assoc _ _ _))⟩)))
                 repeat (go_quiet (first | (go_at_call 36; (with_reducible refine (Jp.calls (rd l0_1 x8_3) 0 (wrap64 (a1 - 1)) true _ A32.out).mono ?_); rintro e w' ⟨rfl, ⟨nd, rfl⟩⟩; (try first | exact ⟨rfl, _, World.drewN_drewN _ _ _⟩ | exact ⟨rfl, _, Eq.trans (World.drewN_drewN _ _ _) (congrArg (World.drewN _) (Nat.add_assoc _ _ _))⟩)) | (go_at_call 98; (try rw [show (x8_3 : Int).toNat = (l0_1.take (x8_3 : Int).toNat).length from (by have h9_ : x8_3 ≤ (l0_1.length : Int) := dT; rw [List.length_take]; omega)]); (with_reducible refine (Qat.calls k3 _ _ (l0_1.take (x8_3 : Int).toNat) (rd l0_1 x8_3) false _ ?side1 ?side2 A36.out).mono ?_); (case side1 => exact pC (Kd.C_below HR112.out (pE HB))); (case side2 => exact HC112.out); rintro e w' ⟨rfl, ⟨nd, rfl⟩⟩; (try first | exact ⟨rfl, _, World.drewN_drewN _ _ _⟩ | exact ⟨rfl, _, Eq.trans (World.drewN_drewN _ _ _) (congrArg (World.drewN _) (Nat.add_assoc _ _ _))⟩)) | (go_at_call 98; (with_reducible refine (Qat.calls k3 _ _ l0_0 (rd l0_1 x8_3) false _ ?side1 ?side2 A39.out).mono ?_); (case side1 => exact pC (Kd.C_below HR0_0.out (pE HB))); (case side2 => exact HC0_0.out); rintro e w' ⟨rfl, ⟨nd, rfl⟩⟩; (try first | exact ⟨rfl, _, World.drewN_drewN _ _ _⟩ | exact ⟨rfl, _, Eq.trans (World.drewN_drewN _ _ _) (congrArg (World.drewN _) (Nat.add_assoc _ _ _))⟩))); try go_wp2_with (first | (go_at_call 36; (with_reducible refine (Jp.calls (rd l0_1 x8_3) 0 (wrap64 (a1 - 1)) true _ A32.out).mono ?_); rintro e w' ⟨rfl, ⟨nd, rfl⟩⟩; (try first | exact ⟨rfl, _, World.drewN_drewN _ _ _⟩ | exact ⟨rfl, _, Eq.trans (World.drewN_drewN _ _ _) (congrArg (World.drewN _) (Nat.add_assoc _ _ _))⟩)) | (go_at_call 98; (try rw [show (x8_3 : Int).toNat = (l0_1.take (x8_3 : Int).toNat).length from (by have h9_ : x8_3 ≤ (l0_1.length : Int) := dT; rw [List.length_take]; omega)]); (with_reducible refine (Qat.calls k3 _ _ (l0_1.take (x8_3 : Int).toNat) (rd l0_1 x8_3) false _ ?side1 ?side2 A36.out).mono ?_); (case side1 => exact pC (Kd.C_below HR112.out (pE HB))); (case side2 => exact HC112.out); rintro e w' ⟨rfl, ⟨nd, rfl⟩⟩; (try first | exact ⟨rfl, _, World.drewN_drewN _ _ _⟩ | exact ⟨rfl, _, Eq.trans (World.drewN_drewN _ _ _) (congrArg (World.drewN _) (Nat.add_assoc _ _ _))⟩)) | (go_at_call 98; (with_reducible refine (Qat.calls k3 _ _ l0_0 (rd l0_1 x8_3) false _ ?side1 ?side2 A39.out).mono ?_); (case side1 => exact pC (Kd.C_below HR0_0.out (pE HB))); (case side2 => exact HC0_0.out); rintro e w' ⟨rfl, ⟨nd, rfl⟩⟩; (try first | exact ⟨rfl, _, World.drewN_drewN _ _ _⟩ | exact ⟨rfl, _, Eq.trans (World.drewN_drewN _ _ _) (congrArg (World.drewN _) (Nat.add_assoc _ _ _))⟩))))
                 go_roundg k3
                 case measure => have := HJ2.out; have := HK2.out; have := HK3.out; omega
                 case rel => exact ⟨(wrap64 (x8_3 + 1)), eS, H', ⟨by have := HJ2.out; have := HK2.out; have := HK3.out; omega⟩, ⟨pB BK101.out⟩, ⟨pE HB⟩⟩
              ·rw [if_neg c35] at H
               exact absurd H (by simp)
             ·replace c33 := Bool.eq_false_iff.mpr c33
              subst c33
              rw [if_neg (show ¬ (false = true) by decide)] at H
              obtain rfl := Option.some.inj H
              have p110 : 0 ≤ (x8_3 : Int) := dT
              have q110 : x8_3 < (l0_1.length : Int) := dT
              obtain ⟨ad110, e110, hx110_0⟩ := Kd.at_int HR0_1.out x8_3 p110 q110
              cases e110
              replace hx110_0 := cut_ HB hx110_0
              replace p110 := eq_true p110
              replace q110 := eq_true q110
              go_wp2_with (first | (go_at_call 36; (with_reducible refine (Jp.calls (rd l0_1 x8_3) 0 (wrap64 (a1 - 1)) false _ A32.out).mono ?_); rintro e w' ⟨rfl, ⟨nd, rfl⟩⟩; (try first | exact ⟨rfl, _, World.drewN_drewN _ _ _⟩ | exact ⟨rfl, _, Eq.trans (World.drewN_drewN _ _ _) (congrArg (World.drewN _) (Nat.add_assoc _ _ _))⟩)))
              repeat (go_quiet (first | (go_at_call 36; (with_reducible refine (Jp.calls (rd l0_1 x8_3) 0 (wrap64 (a1 - 1)) false _ A32.out).mono ?_); rintro e w' ⟨rfl, ⟨nd, rfl⟩⟩; (try first | exact ⟨rfl, _, World.drewN_drewN _ _ _⟩ | exact ⟨rfl, _, Eq.trans (World.drewN_drewN _ _ _) (congrArg (World.drewN _) (Nat.add_assoc _ _ _))⟩))); try go_wp2_with (first | (go_at_call 36; (with_reducible refine (Jp.calls (rd l0_1 x8_3) 0 (wrap64 (a1 - 1)) false _ A32.out).mono ?_); rintro e w' ⟨rfl, ⟨nd, rfl⟩⟩; (try first | exact ⟨rfl, _, World.drewN_drewN _ _ _⟩ | exact ⟨rfl, _, Eq.trans (World.drewN_drewN _ _ _) (congrArg (World.drewN _) (Nat.add_assoc _ _ _))⟩))))
              go_ret
              exact ⟨eT, pE HB⟩
            ·rw [if_neg c31] at H
             exact absurd H (by simp)
           ·rw [if_neg c30] at H
            have c30b0 : decide (x8_3 < (l0_1.length : Int)) = false := decide_eq_false c30
            clear c30
            have H' := Qa.mk H
            clear H
            go_wp2
            repeat (go_quiet (fail); try go_wp2)
            go_roundg k3
            case measure => have := HJ2.out; have := HK2.out; have := HK3.out; omega
            case rel => exact ⟨(wrap64 (x5_2 + 1)), eS, H', ⟨by have := HJ2.out; have := HK2.out; have := HK3.out; omega⟩, ⟨pB BK101.out⟩, ⟨pE HB⟩⟩
        ·rw [if_neg c28] at H
         exact absurd H (by simp)
      ·rw [if_neg c12] at H
       have c12b0 : decide (x5_2 < 2) = false := decide_eq_false c12
       clear c12
       obtain rfl := Option.some.inj H
       go_wp2
       repeat (go_quiet (fail); try go_wp2)
       go_ret
       exact ⟨eT, pE HB⟩
end Go.Proofs.YtjaapkkpmegkfaaGreat.P
