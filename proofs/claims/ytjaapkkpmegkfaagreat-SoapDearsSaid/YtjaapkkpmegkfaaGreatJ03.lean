/- Part 3 of what the law's proof needs beyond its base: words, walks of functions and plain facts. -/
import Derived.Test.YtjaapkkpmegkfaaGreatJ02
set_option linter.unusedVariables false
set_option linter.unusedSimpArgs false
namespace Go.Proofs.YtjaapkkpmegkfaaGreat.P
open Go.RowKit Go.Proofs.YtjaapkkpmegkfaaGreatW.PrintWords Go.Proofs.YtjaapkkpmegkfaaGreatW.PrintLast Go.Proofs.YtjaapkkpmegkfaaGreatW.PrintMore
attribute [local go_sem] JG JH JY JX Jv Ju JJ JK
def Qar.l0 : Nat → List S100 → List Int → Int → Option (Bool × List Int)
 | 0, _, _, _ => none
 | k + 1, x0, x1, x5 => if x5 ≥ 0 then (if 0 ≤ x5 then (if x5 < (x1.length : Int) then ((some (x1.set (x5 : Int).toNat (wrap64 ((rd x1 x5) + 1)) : List Int)).bind fun y102 => (if x5 < (x0.length : Int) then (if (rd y102 x5) ≤ ((Qf x0 x5).f3) then (some (true, y102)) else (Qar.l0 k x0 (y102.set (x5 : Int).toNat 0) (wrap64 (x5 - 1)))) else (none))) else (none)) else (none)) else (some (false, x1))
def Qar.f (k : Nat) (l0 : List S100) (l1 : List Int) : Option (Bool × List Int) := Qar.l0 k l0 l1 (wrap64 ((l0.length : Int) - 1))
set_option maxHeartbeats 8000000 in
set_option maxRecDepth 100000 in
theorem Qar.calls (k : Nat) (A0 : Option Addr) (c0 : Nat) (l0 : List S100) (P1_ : Nat → Prop) (u9000_ : Value) (l1 : List Int) (r1 : Bool) (r2 : List Int) (w0 w : World) (hB : Below w0.heap.size w0 w) (hr0 : ∀ W_, Kept w W_ (fun k_ => P1_ k_) → Kd.C k100 W_ A0 l0.length l0) (hc0 : l0.length ≤ c0) (ho1 : Kd.R (Kd.int .i64) 3 w w0.heap.size P1_ u9000_ l1) (h : Qar.f k l0 l1 = some (r1, r2)) :
  Calls Tryz.prog 81 #[.slice A0 l0.length c0, u9000_] w fun e w' => e = .returned (.bool r1) ∧ Kd.R (Kd.int .i64) 3 w' w0.heap.size (fun k_ => (P1_ k_ ∨ w.heap.size ≤ k_)) u9000_ r2 ∧ Below w0.heap.size w0 w' ∧ Kept w w' (fun k_ => P1_ k_) := by
 have HR0 := Qa.mk hr0
 have HC0 := Qa.mk hc0
 clear hr0 hc0
 have HO1 := Qa.mk (show Kd.R (Kd.int .i64) 3 w w0.heap.size (fun k_ => (P1_ k_ ∨ w.heap.size ≤ k_)) u9000_ l1 from Kd.R_mono ho1 (fun k_ hk => (.inl hk)))
 have HK := Qa.mk (Kept.refl w (fun k_ => P1_ k_))
 have HW0 := Qa.mk hB.size
 have HB := Qa.mk hB
 clear hB
 have H : (Qar.l0 k l0 l1 (wrap64 ((l0.length : Int) - 1))) = some (r1, r2) := h
 clear h
 have H' := Qa.mk H
 clear H
 go_enter Tryz.func81, Tryz.ntmps81
 go_wp2
 repeat (go_quiet (fail); try go_wp2)
 go_loopg [5] k (fun kq v5 w' => ∃ (x1_1 : List Int) (x5_1 : Int), v5 = .int .i64 x5_1 ∧ Qa (Qar.l0 kq l0 x1_1 x5_1 = some (r1, r2)) ∧ Qa (kq ≤ k) ∧ Qa (Kd.R (Kd.int .i64) 3 w' w0.heap.size (fun k_ => (P1_ k_ ∨ w.heap.size ≤ k_)) u9000_ x1_1) ∧ Qa (Kept w w' (fun k_ => P1_ k_)) ∧ Qa (Below w0.heap.size w0 w'))
 case atStart => exact ⟨(l1), (wrap64 ((l0.length : Int) - 1)), eS, H', ⟨Nat.le_refl _⟩, ⟨by (with_reducible repeat (first | apply Kd.R_alloc | apply Kd.R_drewN | apply Kd.R_drew)); exact HO1.out⟩, ⟨by repeat (first | (with_reducible first | exact HK.out | apply Kept.alloc | apply Kept.drewN | apply Kept.drew) | exact HK.out)⟩, ⟨pE HB⟩⟩
 case round =>
  clear H'
  try clear p2
  obtain ⟨x1_1, x5_1, rfl, HA, HK1, HO_1, HK, HB⟩ := hrel
  cases gk with
  | zero => exact absurd HA.out (by simp [Qar.l0])
  | succ k1 =>
   have H := HA.out
   clear HA
   simp only [Qar.l0] at H
   by_cases c3 : x5_1 ≥ 0
   ·rw [if_pos c3] at H
    have c3b0 : decide (0 ≤ x5_1) = true := decide_eq_true c3
    clear c3
    by_cases c4 : 0 ≤ x5_1
    ·rw [if_pos c4] at H
     have c4b0 : decide (0 ≤ x5_1) = true := decide_eq_true c4
     clear c4
     by_cases c5 : x5_1 < (x1_1.length : Int)
     ·rw [if_pos c5] at H
      have c5b0 : decide (x5_1 < (x1_1.length : Int)) = true := decide_eq_true c5
      clear c5
      obtain ⟨y102, hy102⟩ : ∃ y_ : List Int, y_ = (x1_1.set (x5_1 : Int).toNat (wrap64 ((rd x1_1 x5_1) + 1))) := ⟨_, rfl⟩
      replace H : (if x5_1 < (l0.length : Int) then (if (rd y102 x5_1) ≤ ((Qf l0 x5_1).f3) then (some (true, y102)) else (Qar.l0 k1 l0 (y102.set (x5_1 : Int).toNat 0) (wrap64 (x5_1 - 1)))) else (none)) = some (r1, r2) := yy hy102 H
      have Ny102 := Qa.mk hy102
      clear hy102
      by_cases c7 : x5_1 < (l0.length : Int)
      ·rw [if_pos c7] at H
       have c7b0 : decide (x5_1 < (l0.length : Int)) = true := decide_eq_true c7
       clear c7
       by_cases c8 : (rd y102 x5_1) ≤ ((Qf l0 x5_1).f3)
       ·rw [if_pos c8] at H
        have c8b0 : decide ((rd y102 x5_1) ≤ ((Qf l0 x5_1).f3)) = true := decide_eq_true c8
        clear c8
        simp only [Option.some.injEq, Prod.mk.injEq] at H
        obtain ⟨rfl, rfl⟩ := H
        obtain ⟨Ao9, co9, eo9⟩ := Kd.R_slice HO_1.out
        subst eo9
        have p101 : 0 ≤ (x5_1 : Int) := dT
        have q101 : x5_1 < (x1_1.length : Int) := dT
        obtain ⟨ad101, e101, hx101_0⟩ := Kd.at_int (Kd.R_reads' HO_1.out).2.2 x5_1 p101 q101
        cases e101
        replace p101 := eq_true p101
        replace q101 := eq_true q101
        have p6 : 0 ≤ (x5_1 : Int) := dT
        have q6 : (x5_1 : Int) < ((x1_1.length : Int) : Int) := dT
        obtain ⟨go6, co6, eo6, gb6, gl6, cl6, HG6⟩ := Kd.R_form HO_1.out (by omega)
        (first | cases eo6 | (injection eo6 with ea_ en_ ec_; (first | subst ea_ | (injection ea_ with ea_; subst ea_)); subst ec_; clear en_))
        have GB6 := Qa.mk gb6
        have GG6 := Qa.mk HG6
        clear gb6 gl6 HG6
        have HMgo6 := Qa.mk (show (P1_ go6 ∨ w.heap.size ≤ go6) from (HO_1.out.1 _ rfl))
        (first | simp only [JP] at hx101_0 | skip)
        obtain ⟨hx6_0, hf6_0⟩ := Kd.R_celln 0 HO_1.out (x5_1 : Int) p6 q6
        replace p6 := eq_true p6
        replace q6 := eq_true q6
        have HP10 := Kd.R_putg HO_1.out (x5_1 : Int) (wrap64 ((rd x1_1 x5_1) + 1))
        go_wp2_with (first | ((with_reducible refine Z3 (t := 3) (p := 18) rfl ?_); (try (rw [Z2 wr]; generalize hq_ : World.drewN wr _ = wr; replace HO_1 := Qa.mk (Kd.R_at hq_ HO_1.out); replace HK := Qa.mk (Qbg hq_ HK.out); replace HB := Qa.mk (Qa7 hq_ HB.out); clear hq_; (try (have HP10 := Kd.R_putg HO_1.out (x5_1 : Int) (wrap64 ((rd x1_1 x5_1) + 1)))))); refine ZX (t := 3) (p := 18) (v := ?vo_w11) (w1 := (wr.setCell ⟨go6, (x5_1 : Int).toNat, none⟩ (.int .i64 (wrap64 ((rd x1_1 x5_1) + 1))))) ?hg ?ho ?hn ?hr ?_; (case ho => rfl); (case hg => rfl); (case hn => rfl); (case hr => first | (go_simp; done) | (go_simp; rfl)); intro w11 hw; have hg : wr.grownBy w11 (some go6) := (by rw [hw]; exact HP10.2); have hp_ : Kd.R (Kd.int .i64) 3 w11 w0.heap.size (fun k_ => (P1_ k_ ∨ w.heap.size ≤ k_)) (.slice (some ⟨go6, 0, none⟩) x1_1.length co9) y102 := (by rw [hw, Ny102.out]; exact HP10.1); clear HP10; replace HB := Qa.mk ((by rw [hw]; exact Q3 (HB.out) GB6.out : Below w0.heap.size w0 w11)); replace HK := Qa.mk (Kept.of_grown (S := (fun k_ => P1_ k_)) hg (by repeat (first | (with_reducible first | exact HK.out | apply Kept.alloc | apply Kept.drewN | apply Kept.drew) | exact HK.out)) (fun k_ e_ => (HO_1.out.1 k_ e_))); replace HO_1 := Qa.mk (hp_); clear hg hw hp_; have p103 : 0 ≤ (x5_1 : Int) := dT; have q103 : x5_1 < (y102.length : Int) := (by have h_ : (x5_1 : Int) < ((x1_1.length : Int) : Int) := dT; first | (have e_ := (Kd.R_reads' HO_1.out).1; omega) | simpa only [Ny102.out, List.length_set] using h_); have ql103 : ((x5_1 : Int) < ((x1_1.length : Int) : Int)) = True := eq_true (dT); obtain ⟨ad103, e103, hx103_0⟩ := Kd.at_int (Kd.R_reads' HO_1.out).2.2 x5_1 p103 q103; obtain rfl : (⟨go6, 0, none⟩ : Addr) = ad103 := (by injection e103); (first | simp only [JP] at hx103_0 | simp only [add_at] at hx103_0 | simp only [Addr.add, Nat.zero_add] at hx103_0 | skip); replace p103 := eq_true p103; replace q103 := eq_true q103; have p104 : 0 ≤ (x5_1 : Int) := dT; have q104 : x5_1 < (l0.length : Int) := dT; obtain ⟨ad104, e104, hx104_0, hx104_1, hx104_2, hx104_3, hx104_4⟩ := Zf (Kd.C_kept_now HR0.out HK.out) x5_1 p104 q104; cases e104; replace p104 := eq_true p104; replace q104 := eq_true q104))
        repeat (go_quiet (first | ((with_reducible refine Z3 (t := 3) (p := 18) rfl ?_); (try (rw [Z2 wr]; generalize hq_ : World.drewN wr _ = wr; replace HO_1 := Qa.mk (Kd.R_at hq_ HO_1.out); replace HK := Qa.mk (Qbg hq_ HK.out); replace HB := Qa.mk (Qa7 hq_ HB.out); clear hq_; (try (have HP10 := Kd.R_putg HO_1.out (x5_1 : Int) (wrap64 ((rd x1_1 x5_1) + 1)))))); refine ZX (t := 3) (p := 18) (v := ?vo_w11) (w1 := (wr.setCell ⟨go6, (x5_1 : Int).toNat, none⟩ (.int .i64 (wrap64 ((rd x1_1 x5_1) + 1))))) ?hg ?ho ?hn ?hr ?_; (case ho => rfl); (case hg => rfl); (case hn => rfl); (case hr => first | (go_simp; done) | (go_simp; rfl)); intro w11 hw; have hg : wr.grownBy w11 (some go6) := (by rw [hw]; exact HP10.2); have hp_ : Kd.R (Kd.int .i64) 3 w11 w0.heap.size (fun k_ => (P1_ k_ ∨ w.heap.size ≤ k_)) (.slice (some ⟨go6, 0, none⟩) x1_1.length co9) y102 := (by rw [hw, Ny102.out]; exact HP10.1); clear HP10; replace HB := Qa.mk ((by rw [hw]; exact Q3 (HB.out) GB6.out : Below w0.heap.size w0 w11)); replace HK := Qa.mk (Kept.of_grown (S := (fun k_ => P1_ k_)) hg (by repeat (first | (with_reducible first | exact HK.out | apply Kept.alloc | apply Kept.drewN | apply Kept.drew) | exact HK.out)) (fun k_ e_ => (HO_1.out.1 k_ e_))); replace HO_1 := Qa.mk (hp_); clear hg hw hp_; have p103 : 0 ≤ (x5_1 : Int) := dT; have q103 : x5_1 < (y102.length : Int) := (by have h_ : (x5_1 : Int) < ((x1_1.length : Int) : Int) := dT; first | (have e_ := (Kd.R_reads' HO_1.out).1; omega) | simpa only [Ny102.out, List.length_set] using h_); have ql103 : ((x5_1 : Int) < ((x1_1.length : Int) : Int)) = True := eq_true (dT); obtain ⟨ad103, e103, hx103_0⟩ := Kd.at_int (Kd.R_reads' HO_1.out).2.2 x5_1 p103 q103; obtain rfl : (⟨go6, 0, none⟩ : Addr) = ad103 := (by injection e103); (first | simp only [JP] at hx103_0 | simp only [add_at] at hx103_0 | simp only [Addr.add, Nat.zero_add] at hx103_0 | skip); replace p103 := eq_true p103; replace q103 := eq_true q103; have p104 : 0 ≤ (x5_1 : Int) := dT; have q104 : x5_1 < (l0.length : Int) := dT; obtain ⟨ad104, e104, hx104_0, hx104_1, hx104_2, hx104_3, hx104_4⟩ := Zf (Kd.C_kept_now HR0.out HK.out) x5_1 p104 q104; cases e104; replace p104 := eq_true p104; replace q104 := eq_true q104)); try go_wp2_with (first | ((with_reducible refine Z3 (t := 3) (p := 18) rfl ?_); (try (rw [Z2 wr]; generalize hq_ : World.drewN wr _ = wr; replace HO_1 := Qa.mk (Kd.R_at hq_ HO_1.out); replace HK := Qa.mk (Qbg hq_ HK.out); replace HB := Qa.mk (Qa7 hq_ HB.out); clear hq_; (try (have HP10 := Kd.R_putg HO_1.out (x5_1 : Int) (wrap64 ((rd x1_1 x5_1) + 1)))))); refine ZX (t := 3) (p := 18) (v := ?vo_w11) (w1 := (wr.setCell ⟨go6, (x5_1 : Int).toNat, none⟩ (.int .i64 (wrap64 ((rd x1_1 x5_1) + 1))))) ?hg ?ho ?hn ?hr ?_; (case ho => rfl); (case hg => rfl); (case hn => rfl); (case hr => first | (go_simp; done) | (go_simp; rfl)); intro w11 hw; have hg : wr.grownBy w11 (some go6) := (by rw [hw]; exact HP10.2); have hp_ : Kd.R (Kd.int .i64) 3 w11 w0.heap.size (fun k_ => (P1_ k_ ∨ w.heap.size ≤ k_)) (.slice (some ⟨go6, 0, none⟩) x1_1.length co9) y102 := (by rw [hw, Ny102.out]; exact HP10.1); clear HP10; replace HB := Qa.mk ((by rw [hw]; exact Q3 (HB.out) GB6.out : Below w0.heap.size w0 w11)); replace HK := Qa.mk (Kept.of_grown (S := (fun k_ => P1_ k_)) hg (by repeat (first | (with_reducible first | exact HK.out | apply Kept.alloc | apply Kept.drewN | apply Kept.drew) | exact HK.out)) (fun k_ e_ => (HO_1.out.1 k_ e_))); replace HO_1 := Qa.mk (hp_); clear hg hw hp_; have p103 : 0 ≤ (x5_1 : Int) := dT; have q103 : x5_1 < (y102.length : Int) := (by have h_ : (x5_1 : Int) < ((x1_1.length : Int) : Int) := dT; first | (have e_ := (Kd.R_reads' HO_1.out).1; omega) | simpa only [Ny102.out, List.length_set] using h_); have ql103 : ((x5_1 : Int) < ((x1_1.length : Int) : Int)) = True := eq_true (dT); obtain ⟨ad103, e103, hx103_0⟩ := Kd.at_int (Kd.R_reads' HO_1.out).2.2 x5_1 p103 q103; obtain rfl : (⟨go6, 0, none⟩ : Addr) = ad103 := (by injection e103); (first | simp only [JP] at hx103_0 | simp only [add_at] at hx103_0 | simp only [Addr.add, Nat.zero_add] at hx103_0 | skip); replace p103 := eq_true p103; replace q103 := eq_true q103; have p104 : 0 ≤ (x5_1 : Int) := dT; have q104 : x5_1 < (l0.length : Int) := dT; obtain ⟨ad104, e104, hx104_0, hx104_1, hx104_2, hx104_3, hx104_4⟩ := Zf (Kd.C_kept_now HR0.out HK.out) x5_1 p104 q104; cases e104; replace p104 := eq_true p104; replace q104 := eq_true q104)))
        go_ret
        exact ⟨eT, by (with_reducible repeat (first | apply Kd.R_alloc | apply Kd.R_drewN | apply Kd.R_drew)); exact HO_1.out, pE HB, by repeat (first | (with_reducible first | exact HK.out | apply Kept.alloc | apply Kept.drewN | apply Kept.drew) | exact HK.out)⟩
       ·rw [if_neg c8] at H
        have c8b0 : decide ((rd y102 x5_1) ≤ ((Qf l0 x5_1).f3)) = false := decide_eq_false c8
        clear c8
        obtain ⟨y105, hy105⟩ : ∃ y_ : List Int, y_ = (y102.set (x5_1 : Int).toNat 0) := ⟨_, rfl⟩
        replace H : (Qar.l0 k1 l0 y105 (wrap64 (x5_1 - 1))) = some (r1, r2) := yy hy105 H
        have Ny105 := Qa.mk hy105
        clear hy105
        have H' := Qa.mk H
        clear H
        obtain ⟨Ao13, co13, eo13⟩ := Kd.R_slice HO_1.out
        subst eo13
        have p101 : 0 ≤ (x5_1 : Int) := dT
        have q101 : x5_1 < (x1_1.length : Int) := dT
        obtain ⟨ad101, e101, hx101_0⟩ := Kd.at_int (Kd.R_reads' HO_1.out).2.2 x5_1 p101 q101
        cases e101
        replace p101 := eq_true p101
        replace q101 := eq_true q101
        have p6 : 0 ≤ (x5_1 : Int) := dT
        have q6 : (x5_1 : Int) < ((x1_1.length : Int) : Int) := dT
        obtain ⟨go6, co6, eo6, gb6, gl6, cl6, HG6⟩ := Kd.R_form HO_1.out (by omega)
        (first | cases eo6 | (injection eo6 with ea_ en_ ec_; (first | subst ea_ | (injection ea_ with ea_; subst ea_)); subst ec_; clear en_))
        have GB6 := Qa.mk gb6
        have GG6 := Qa.mk HG6
        clear gb6 gl6 HG6
        have HMgo6 := Qa.mk (show (P1_ go6 ∨ w.heap.size ≤ go6) from (HO_1.out.1 _ rfl))
        (first | simp only [JP] at hx101_0 | skip)
        obtain ⟨hx6_0, hf6_0⟩ := Kd.R_celln 0 HO_1.out (x5_1 : Int) p6 q6
        replace p6 := eq_true p6
        replace q6 := eq_true q6
        have HP14 := Kd.R_putg HO_1.out (x5_1 : Int) (wrap64 ((rd x1_1 x5_1) + 1))
        go_wp2_with (first | ((with_reducible refine Z3 (t := 3) (p := 18) rfl ?_); (try (rw [Z2 wr]; generalize hq_ : World.drewN wr _ = wr; replace HO_1 := Qa.mk (Kd.R_at hq_ HO_1.out); replace HK := Qa.mk (Qbg hq_ HK.out); replace HB := Qa.mk (Qa7 hq_ HB.out); clear hq_; (try (have HP14 := Kd.R_putg HO_1.out (x5_1 : Int) (wrap64 ((rd x1_1 x5_1) + 1)))))); refine ZX (t := 3) (p := 18) (v := ?vo_w15) (w1 := (wr.setCell ⟨go6, (x5_1 : Int).toNat, none⟩ (.int .i64 (wrap64 ((rd x1_1 x5_1) + 1))))) ?hg ?ho ?hn ?hr ?_; (case ho => rfl); (case hg => rfl); (case hn => rfl); (case hr => first | (go_simp; done) | (go_simp; rfl)); intro w15 hw; have hg : wr.grownBy w15 (some go6) := (by rw [hw]; exact HP14.2); have hp_ : Kd.R (Kd.int .i64) 3 w15 w0.heap.size (fun k_ => (P1_ k_ ∨ w.heap.size ≤ k_)) (.slice (some ⟨go6, 0, none⟩) x1_1.length co13) y102 := (by rw [hw, Ny102.out]; exact HP14.1); clear HP14; replace HB := Qa.mk ((by rw [hw]; exact Q3 (HB.out) GB6.out : Below w0.heap.size w0 w15)); replace HK := Qa.mk (Kept.of_grown (S := (fun k_ => P1_ k_)) hg (by repeat (first | (with_reducible first | exact HK.out | apply Kept.alloc | apply Kept.drewN | apply Kept.drew) | exact HK.out)) (fun k_ e_ => (HO_1.out.1 k_ e_))); replace HO_1 := Qa.mk (hp_); clear hg hw hp_; have p103 : 0 ≤ (x5_1 : Int) := dT; have q103 : x5_1 < (y102.length : Int) := (by have h_ : (x5_1 : Int) < ((x1_1.length : Int) : Int) := dT; first | (have e_ := (Kd.R_reads' HO_1.out).1; omega) | simpa only [Ny102.out, List.length_set] using h_); have ql103 : ((x5_1 : Int) < ((x1_1.length : Int) : Int)) = True := eq_true (dT); obtain ⟨ad103, e103, hx103_0⟩ := Kd.at_int (Kd.R_reads' HO_1.out).2.2 x5_1 p103 q103; obtain rfl : (⟨go6, 0, none⟩ : Addr) = ad103 := (by injection e103); (first | simp only [JP] at hx103_0 | simp only [add_at] at hx103_0 | simp only [Addr.add, Nat.zero_add] at hx103_0 | skip); replace p103 := eq_true p103; replace q103 := eq_true q103; have p104 : 0 ≤ (x5_1 : Int) := dT; have q104 : x5_1 < (l0.length : Int) := dT; obtain ⟨ad104, e104, hx104_0, hx104_1, hx104_2, hx104_3, hx104_4⟩ := Zf (Kd.C_kept_now HR0.out HK.out) x5_1 p104 q104; cases e104; replace p104 := eq_true p104; replace q104 := eq_true q104; have p12 : 0 ≤ (x5_1 : Int) := dT; have q12 : (x5_1 : Int) < ((x1_1.length : Int) : Int) := dT; obtain ⟨hx12_0, hf12_0⟩ := Kd.R_celln 0 HO_1.out (x5_1 : Int) p12 q12; replace p12 := eq_true p12; replace q12 := eq_true q12; obtain ⟨hy16_, hz16_⟩ := Kd.R_celln 0 HO_1.out (x5_1 : Int) (dT) (dT); have HP16 := Kd.R_putg HO_1.out (x5_1 : Int) 0) | ((with_reducible refine Z3 (t := 3) (p := 31) rfl ?_); (try (rw [Z2 w15]; generalize hq_ : World.drewN w15 _ = w15; replace HO_1 := Qa.mk (Kd.R_at hq_ HO_1.out); replace HK := Qa.mk (Qbg hq_ HK.out); replace HB := Qa.mk (Qa7 hq_ HB.out); clear hq_; (try (obtain ⟨hy16_, hz16_⟩ := Kd.R_celln 0 HO_1.out (x5_1 : Int) (dT) (dT))); (try (have HP16 := Kd.R_putg HO_1.out (x5_1 : Int) 0)))); refine ZX (t := 3) (p := 31) (v := ?vo_w17) (w1 := (w15.setCell ⟨go6, (x5_1 : Int).toNat, none⟩ (.int .i64 0))) ?hg ?ho ?hn ?hr ?_; (case ho => rfl); (case hg => rfl); (case hn => rfl); (case hr => first | (go_simp; done) | (go_simp; rfl)); intro w17 hw; have hg : w15.grownBy w17 (some go6) := (by rw [hw]; exact HP16.2); have hp_ : Kd.R (Kd.int .i64) 3 w17 w0.heap.size (fun k_ => (P1_ k_ ∨ w.heap.size ≤ k_)) (.slice (some ⟨go6, 0, none⟩) x1_1.length co13) y105 := (by rw [hw, Ny105.out]; exact HP16.1); clear HP16; replace HB := Qa.mk ((by rw [hw]; exact Q3 (HB.out) GB6.out : Below w0.heap.size w0 w17)); replace HK := Qa.mk (Kept.of_grown (S := (fun k_ => P1_ k_)) hg (by repeat (first | (with_reducible first | exact HK.out | apply Kept.alloc | apply Kept.drewN | apply Kept.drew) | exact HK.out)) (fun k_ e_ => (HO_1.out.1 k_ e_))); replace HO_1 := Qa.mk (hp_); clear hg hw hp_))
        repeat (go_quiet (first | ((with_reducible refine Z3 (t := 3) (p := 18) rfl ?_); (try (rw [Z2 wr]; generalize hq_ : World.drewN wr _ = wr; replace HO_1 := Qa.mk (Kd.R_at hq_ HO_1.out); replace HK := Qa.mk (Qbg hq_ HK.out); replace HB := Qa.mk (Qa7 hq_ HB.out); clear hq_; (try (have HP14 := Kd.R_putg HO_1.out (x5_1 : Int) (wrap64 ((rd x1_1 x5_1) + 1)))))); refine ZX (t := 3) (p := 18) (v := ?vo_w15) (w1 := (wr.setCell ⟨go6, (x5_1 : Int).toNat, none⟩ (.int .i64 (wrap64 ((rd x1_1 x5_1) + 1))))) ?hg ?ho ?hn ?hr ?_; (case ho => rfl); (case hg => rfl); (case hn => rfl); (case hr => first | (go_simp; done) | (go_simp; rfl)); intro w15 hw; have hg : wr.grownBy w15 (some go6) := (by rw [hw]; exact HP14.2); have hp_ : Kd.R (Kd.int .i64) 3 w15 w0.heap.size (fun k_ => (P1_ k_ ∨ w.heap.size ≤ k_)) (.slice (some ⟨go6, 0, none⟩) x1_1.length co13) y102 := (by rw [hw, Ny102.out]; exact HP14.1); clear HP14; replace HB := Qa.mk ((by rw [hw]; exact Q3 (HB.out) GB6.out : Below w0.heap.size w0 w15)); replace HK := Qa.mk (Kept.of_grown (S := (fun k_ => P1_ k_)) hg (by repeat (first | (with_reducible first | exact HK.out | apply Kept.alloc | apply Kept.drewN | apply Kept.drew) | exact HK.out)) (fun k_ e_ => (HO_1.out.1 k_ e_))); replace HO_1 := Qa.mk (hp_); clear hg hw hp_; have p103 : 0 ≤ (x5_1 : Int) := dT; have q103 : x5_1 < (y102.length : Int) := (by have h_ : (x5_1 : Int) < ((x1_1.length : Int) : Int) := dT; first | (have e_ := (Kd.R_reads' HO_1.out).1; omega) | simpa only [Ny102.out, List.length_set] using h_); have ql103 : ((x5_1 : Int) < ((x1_1.length : Int) : Int)) = True := eq_true (dT); obtain ⟨ad103, e103, hx103_0⟩ := Kd.at_int (Kd.R_reads' HO_1.out).2.2 x5_1 p103 q103; obtain rfl : (⟨go6, 0, none⟩ : Addr) = ad103 := (by injection e103); (first | simp only [JP] at hx103_0 | simp only [add_at] at hx103_0 | simp only [Addr.add, Nat.zero_add] at hx103_0 | skip); replace p103 := eq_true p103; replace q103 := eq_true q103; have p104 : 0 ≤ (x5_1 : Int) := dT; have q104 : x5_1 < (l0.length : Int) := dT; obtain ⟨ad104, e104, hx104_0, hx104_1, hx104_2, hx104_3, hx104_4⟩ := Zf (Kd.C_kept_now HR0.out HK.out) x5_1 p104 q104; cases e104; replace p104 := eq_true p104; replace q104 := eq_true q104; have p12 : 0 ≤ (x5_1 : Int) := dT; have q12 : (x5_1 : Int) < ((x1_1.length : Int) : Int) := dT; obtain ⟨hx12_0, hf12_0⟩ := Kd.R_celln 0 HO_1.out (x5_1 : Int) p12 q12; replace p12 := eq_true p12; replace q12 := eq_true q12; obtain ⟨hy16_, hz16_⟩ := Kd.R_celln 0 HO_1.out (x5_1 : Int) (dT) (dT); have HP16 := Kd.R_putg HO_1.out (x5_1 : Int) 0) | ((with_reducible refine Z3 (t := 3) (p := 31) rfl ?_); (try (rw [Z2 w15]; generalize hq_ : World.drewN w15 _ = w15; replace HO_1 := Qa.mk (Kd.R_at hq_ HO_1.out); replace HK := Qa.mk (Qbg hq_ HK.out); replace HB := Qa.mk (Qa7 hq_ HB.out); clear hq_; (try (obtain ⟨hy16_, hz16_⟩ := Kd.R_celln 0 HO_1.out (x5_1 : Int) (dT) (dT))); (try (have HP16 := Kd.R_putg HO_1.out (x5_1 : Int) 0)))); refine ZX (t := 3) (p := 31) (v := ?vo_w17) (w1 := (w15.setCell ⟨go6, (x5_1 : Int).toNat, none⟩ (.int .i64 0))) ?hg ?ho ?hn ?hr ?_; (case ho => rfl); (case hg => rfl); (case hn => rfl); (case hr => first | (go_simp; done) | (go_simp; rfl)); intro w17 hw; have hg : w15.grownBy w17 (some go6) := (by rw [hw]; exact HP16.2); have hp_ : Kd.R (Kd.int .i64) 3 w17 w0.heap.size (fun k_ => (P1_ k_ ∨ w.heap.size ≤ k_)) (.slice (some ⟨go6, 0, none⟩) x1_1.length co13) y105 := (by rw [hw, Ny105.out]; exact HP16.1); clear HP16; replace HB := Qa.mk ((by rw [hw]; exact Q3 (HB.out) GB6.out : Below w0.heap.size w0 w17)); replace HK := Qa.mk (Kept.of_grown (S := (fun k_ => P1_ k_)) hg (by repeat (first | (with_reducible first | exact HK.out | apply Kept.alloc | apply Kept.drewN | apply Kept.drew) | exact HK.out)) (fun k_ e_ => (HO_1.out.1 k_ e_))); replace HO_1 := Qa.mk (hp_); clear hg hw hp_)); try go_wp2_with (first | ((with_reducible refine Z3 (t := 3) (p := 18) rfl ?_); (try (rw [Z2 wr]; generalize hq_ : World.drewN wr _ = wr; replace HO_1 := Qa.mk (Kd.R_at hq_ HO_1.out); replace HK := Qa.mk (Qbg hq_ HK.out); replace HB := Qa.mk (Qa7 hq_ HB.out); clear hq_; (try (have HP14 := Kd.R_putg HO_1.out (x5_1 : Int) (wrap64 ((rd x1_1 x5_1) + 1)))))); refine ZX (t := 3) (p := 18) (v := ?vo_w15) (w1 := (wr.setCell ⟨go6, (x5_1 : Int).toNat, none⟩ (.int .i64 (wrap64 ((rd x1_1 x5_1) + 1))))) ?hg ?ho ?hn ?hr ?_; (case ho => rfl); (case hg => rfl); (case hn => rfl); (case hr => first | (go_simp; done) | (go_simp; rfl)); intro w15 hw; have hg : wr.grownBy w15 (some go6) := (by rw [hw]; exact HP14.2); have hp_ : Kd.R (Kd.int .i64) 3 w15 w0.heap.size (fun k_ => (P1_ k_ ∨ w.heap.size ≤ k_)) (.slice (some ⟨go6, 0, none⟩) x1_1.length co13) y102 := (by rw [hw, Ny102.out]; exact HP14.1); clear HP14; replace HB := Qa.mk ((by rw [hw]; exact Q3 (HB.out) GB6.out : Below w0.heap.size w0 w15)); replace HK := Qa.mk (Kept.of_grown (S := (fun k_ => P1_ k_)) hg (by repeat (first | (with_reducible first | exact HK.out | apply Kept.alloc | apply Kept.drewN | apply Kept.drew) | exact HK.out)) (fun k_ e_ => (HO_1.out.1 k_ e_))); replace HO_1 := Qa.mk (hp_); clear hg hw hp_; have p103 : 0 ≤ (x5_1 : Int) := dT; have q103 : x5_1 < (y102.length : Int) := (by have h_ : (x5_1 : Int) < ((x1_1.length : Int) : Int) := dT; first | (have e_ := (Kd.R_reads' HO_1.out).1; omega) | simpa only [Ny102.out, List.length_set] using h_); have ql103 : ((x5_1 : Int) < ((x1_1.length : Int) : Int)) = True := eq_true (dT); obtain ⟨ad103, e103, hx103_0⟩ := Kd.at_int (Kd.R_reads' HO_1.out).2.2 x5_1 p103 q103; obtain rfl : (⟨go6, 0, none⟩ : Addr) = ad103 := (by injection e103); (first | simp only [JP] at hx103_0 | simp only [add_at] at hx103_0 | simp only [Addr.add, Nat.zero_add] at hx103_0 | skip); replace p103 := eq_true p103; replace q103 := eq_true q103; have p104 : 0 ≤ (x5_1 : Int) := dT; have q104 : x5_1 < (l0.length : Int) := dT; obtain ⟨ad104, e104, hx104_0, hx104_1, hx104_2, hx104_3, hx104_4⟩ := Zf (Kd.C_kept_now HR0.out HK.out) x5_1 p104 q104; cases e104; replace p104 := eq_true p104; replace q104 := eq_true q104; have p12 : 0 ≤ (x5_1 : Int) := dT; have q12 : (x5_1 : Int) < ((x1_1.length : Int) : Int) := dT; obtain ⟨hx12_0, hf12_0⟩ := Kd.R_celln 0 HO_1.out (x5_1 : Int) p12 q12; replace p12 := eq_true p12; replace q12 := eq_true q12; obtain ⟨hy16_, hz16_⟩ := Kd.R_celln 0 HO_1.out (x5_1 : Int) (dT) (dT); have HP16 := Kd.R_putg HO_1.out (x5_1 : Int) 0) | ((with_reducible refine Z3 (t := 3) (p := 31) rfl ?_); (try (rw [Z2 w15]; generalize hq_ : World.drewN w15 _ = w15; replace HO_1 := Qa.mk (Kd.R_at hq_ HO_1.out); replace HK := Qa.mk (Qbg hq_ HK.out); replace HB := Qa.mk (Qa7 hq_ HB.out); clear hq_; (try (obtain ⟨hy16_, hz16_⟩ := Kd.R_celln 0 HO_1.out (x5_1 : Int) (dT) (dT))); (try (have HP16 := Kd.R_putg HO_1.out (x5_1 : Int) 0)))); refine ZX (t := 3) (p := 31) (v := ?vo_w17) (w1 := (w15.setCell ⟨go6, (x5_1 : Int).toNat, none⟩ (.int .i64 0))) ?hg ?ho ?hn ?hr ?_; (case ho => rfl); (case hg => rfl); (case hn => rfl); (case hr => first | (go_simp; done) | (go_simp; rfl)); intro w17 hw; have hg : w15.grownBy w17 (some go6) := (by rw [hw]; exact HP16.2); have hp_ : Kd.R (Kd.int .i64) 3 w17 w0.heap.size (fun k_ => (P1_ k_ ∨ w.heap.size ≤ k_)) (.slice (some ⟨go6, 0, none⟩) x1_1.length co13) y105 := (by rw [hw, Ny105.out]; exact HP16.1); clear HP16; replace HB := Qa.mk ((by rw [hw]; exact Q3 (HB.out) GB6.out : Below w0.heap.size w0 w17)); replace HK := Qa.mk (Kept.of_grown (S := (fun k_ => P1_ k_)) hg (by repeat (first | (with_reducible first | exact HK.out | apply Kept.alloc | apply Kept.drewN | apply Kept.drew) | exact HK.out)) (fun k_ e_ => (HO_1.out.1 k_ e_))); replace HO_1 := Qa.mk (hp_); clear hg hw hp_)))
        go_roundg k1
        case measure => have := HK1.out; omega
        case rel => exact ⟨(y105), (wrap64 (x5_1 - 1)), eS, H', ⟨by have := HK1.out; omega⟩, ⟨by (with_reducible repeat (first | apply Kd.R_alloc | apply Kd.R_drewN | apply Kd.R_drew)); exact HO_1.out⟩, ⟨by repeat (first | (with_reducible first | exact HK.out | apply Kept.alloc | apply Kept.drewN | apply Kept.drew) | exact HK.out)⟩, ⟨pE HB⟩⟩
      ·rw [if_neg c7] at H
       exact absurd H (by simp)
     ·rw [if_neg c5] at H
      exact absurd H (by simp)
    ·rw [if_neg c4] at H
     exact absurd H (by simp)
   ·rw [if_neg c3] at H
    have c3b0 : decide (0 ≤ x5_1) = false := decide_eq_false c3
    clear c3
    simp only [Option.some.injEq, Prod.mk.injEq] at H
    obtain ⟨rfl, rfl⟩ := H
    go_wp2
    repeat (go_quiet (fail); try go_wp2)
    go_ret
    exact ⟨eT, by (with_reducible repeat (first | apply Kd.R_alloc | apply Kd.R_drewN | apply Kd.R_drew)); exact HO_1.out, pE HB, by repeat (first | (with_reducible first | exact HK.out | apply Kept.alloc | apply Kept.drewN | apply Kept.drew) | exact HK.out)⟩
mutual
def Qat.j0 : Nat → List S100 → Bool → Option Bool
 | 0, _, _ => none
 | k + 1, x0, x11 => if x11 = true then (some true) else (Qat.l0 k x0 0)
def Qat.l0 : Nat → List S100 → Int → Option Bool
 | 0, _, _ => none
 | k + 1, x0, x3 => if x3 < (x0.length : Int) then (if 0 ≤ x3 then (if ((Qf x0 x3).f3) > 4 then (some false) else (Qat.l0 k x0 (wrap64 (x3 + 1)))) else (none)) else (some true)
end
def Qat.f (k : Nat) (l0 : List S100) : Option Bool := if (l0.length : Int) < 3 then (Qat.j0 k l0 true) else ((Qau.f k l0).bind fun t101 => (Qat.j0 k l0 (t101 != 0)))
set_option maxHeartbeats 8000000 in
set_option maxRecDepth 100000 in
theorem Qat.calls (k : Nat) (A0 : Option Addr) (c0 : Nat) (l0 : List S100) (r : Bool) (w : World) (hr0 : Kd.C k100 w A0 l0.length l0) (hc0 : l0.length ≤ c0) (h : Qat.f k l0 = some r) :
  Calls Tryz.prog 31 #[.slice A0 l0.length c0] w fun e w' => e = .returned (.bool r) ∧ Below w.heap.size w w' := by
 have HR0 := Qa.mk hr0; have HC0 := Qa.mk hc0; clear hr0 hc0; have HB := Qa.mk (Below.refl w.heap.size w); have H : (if (l0.length : Int) < 3 then (Qat.j0 k l0 true) else ((Qau.f k l0).bind fun t101 => (Qat.j0 k l0 (t101 != 0)))) = some r := h; clear h; have HC2 := Qa.mk H; clear H; go_enter Tryz.func31, Tryz.ntmps31; go_upto_region 1 with (fail)
 go_cut [11] (fun v11 wc => ∃ (kq : Nat) (x11_1 : Bool), v11 = .bool x11_1 ∧ Qa (Qat.j0 kq l0 x11_1 = some r) ∧ Qa (kq ≤ k) ∧ Qa (Below w.heap.size w wc))
 case first =>
  have H := HC2.out; clear HC2; by_cases c3 : (l0.length : Int) < 3
  ·rw [if_pos c3] at H
   have c3b0 : decide ((l0.length : Int) < 3) = true := decide_eq_true c3; have c3b1 : decide (l0.length < 3) = true := decide_eq_true (by omega); clear c3
   (first | rw [c3b0] | (simp only [QR, QU]; rw [c3b0]) | skip)
   have H' := Qa.mk H; clear H; go_wp2
   go_meet
   case rel => exact ⟨_, (true), eS, H', ⟨by first | omega | exact Nat.le_refl _⟩, ⟨pE HB⟩⟩
  ·rw [if_neg c3] at H
   have c3b0 : decide ((l0.length : Int) < 3) = false := decide_eq_false c3; have c3b1 : decide (l0.length < 3) = false := decide_eq_false (by omega); clear c3
   (first | rw [c3b0] | (simp only [QR, QU]; rw [c3b0]) | skip)
   obtain ⟨t101, A4, H⟩ := bi H; have H' := Qa.mk H; clear H; go_wp2_with (first | (go_at_call 24; (with_reducible refine (Qau.calls k _ _ l0 t101 _ ?side1 ?side2 A4.out).mono ?_); (case side1 => exact pC (Kd.C_below HR0.out HB.out)); (case side2 => exact HC0.out); rintro e w5 ⟨rfl, hb⟩; replace HB := bs HB hb; (try clear hb); (try clear hb2); (try clear hk); (try clear hi)))
   go_meet
   case rel => exact ⟨_, ((t101 != 0)), eS, H', ⟨by first | omega | exact Nat.le_refl _⟩, ⟨pE HB⟩⟩
 case rest =>
  clear HC2; obtain ⟨kq, x11_1, rfl, HA, HJ1, HB⟩ := hcut
  cases kq with
  | zero => exact absurd HA.out (by simp [Qat.j0])
  | succ kj1 =>
   have H := HA.out; clear HA; simp only [Qat.j0] at H; by_cases c6 : x11_1 = true
   ·subst c6
    rw [if_pos rfl] at H; obtain rfl := Option.some.inj H; go_wp2; go_ret; exact ⟨eT, pE HB⟩
   ·replace c6 := Bool.eq_false_iff.mpr c6
    subst c6; rw [if_neg (show ¬ (false = true) by decide)] at H; have H' := Qa.mk H; clear H; go_wp2
    go_loopg [3] kj1 (fun kq v3 w' => ∃ (x3_2 : Int), v3 = .int .i64 x3_2 ∧ Qa (Qat.l0 kq l0 x3_2 = some r) ∧ Qa (kq ≤ kj1) ∧ Qa (Below w.heap.size w w'))
    case atStart => exact ⟨(0), eS, H', ⟨Nat.le_refl _⟩, ⟨pE HB⟩⟩
    case round =>
     clear H'; try clear c6
     obtain ⟨x3_2, rfl, HA, HK2, HB⟩ := hrel
     cases gk with
     | zero => exact absurd HA.out (by simp [Qat.l0])
     | succ k2 =>
      have H := HA.out; clear HA; simp only [Qat.l0] at H; by_cases c7 : x3_2 < (l0.length : Int)
      ·rw [if_pos c7] at H
       have c7b0 : decide (x3_2 < (l0.length : Int)) = true := decide_eq_true c7; clear c7; by_cases c8 : 0 ≤ x3_2
       ·rw [if_pos c8] at H
        have c8b0 : decide (0 ≤ x3_2) = true := decide_eq_true c8; clear c8; by_cases c9 : ((Qf l0 x3_2).f3) > 4
        ·rw [if_pos c9] at H
         have c9b0 : decide (4 < ((Qf l0 x3_2).f3)) = true := decide_eq_true c9; clear c9; obtain rfl := Option.some.inj H; have p102 : 0 ≤ (x3_2 : Int) := dT; have q102 : x3_2 < (l0.length : Int) := dT; obtain ⟨ad102, e102, hx102_0, hx102_1, hx102_2, hx102_3, hx102_4⟩ := Zf HR0.out x3_2 p102 q102
         cases e102
         replace hx102_0 := cut_ HB hx102_0; replace hx102_1 := cut_ HB hx102_1; replace hx102_2 := cut_ HB hx102_2; replace hx102_3 := cut_ HB hx102_3; replace hx102_4 := cut_ HB hx102_4; replace p102 := eq_true p102; replace q102 := eq_true q102; go_wp2; go_ret; exact ⟨eT, pE HB⟩
        ·rw [if_neg c9] at H
         have c9b0 : decide (4 < ((Qf l0 x3_2).f3)) = false := decide_eq_false c9; clear c9; have H' := Qa.mk H; clear H; have p102 : 0 ≤ (x3_2 : Int) := dT; have q102 : x3_2 < (l0.length : Int) := dT; obtain ⟨ad102, e102, hx102_0, hx102_1, hx102_2, hx102_3, hx102_4⟩ := Zf HR0.out x3_2 p102 q102
         cases e102
         replace hx102_0 := cut_ HB hx102_0; replace hx102_1 := cut_ HB hx102_1; replace hx102_2 := cut_ HB hx102_2; replace hx102_3 := cut_ HB hx102_3; replace hx102_4 := cut_ HB hx102_4; replace p102 := eq_true p102; replace q102 := eq_true q102; go_wp2
         go_roundg k2
         case measure => have := HJ1.out; have := HK2.out; omega
         case rel => exact ⟨(wrap64 (x3_2 + 1)), eS, H', ⟨by have := HJ1.out; have := HK2.out; omega⟩, ⟨pE HB⟩⟩
       ·rw [if_neg c8] at H
        exact absurd H (by simp)
      ·rw [if_neg c7] at H
       have c7b0 : decide (x3_2 < (l0.length : Int)) = false := decide_eq_false c7; clear c7; obtain rfl := Option.some.inj H; go_wp2; go_ret; exact ⟨eT, pE HB⟩
end Go.Proofs.YtjaapkkpmegkfaaGreat.P
