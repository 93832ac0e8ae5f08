/- Part 10 of what the law's proof needs: words, walks of functions and plain facts. -/
import Derived.Test.YtjaapkkpmegkfaaR02
import Derived.Test.YtjaapkkpmegkfaaR09
set_option linter.unusedVariables false
set_option linter.unusedSimpArgs false
namespace Go.Proofs.Ytjaapkkpmegkfaa.P
open Go.RowKit Go.Proofs.YtjaapkkpmegkfaaW.PrintWords Go.Proofs.YtjaapkkpmegkfaaW.PrintLast Go.Proofs.YtjaapkkpmegkfaaW.PrintMore
attribute [local go_sem] JG JH JY JX Jv Ju JJ JK
mutual
def Qc.l0 : Nat → List Int → Int → Int → Int → Int → List Int → Int → Option (List Int)
 | 0, _, _, _, _, _, _, _ => none
 | k + 1, x0, x1, x2, x8, x69000, x70000, x71000 => if x8 < x2 then (Qc.l1 k x0 x1 x2 x8 x8 x69000 x70000 x71000) else (some x0)
def Qc.l1 : Nat → List Int → Int → Int → Int → Int → Int → List Int → Int → Option (List Int)
 | 0, _, _, _, _, _, _, _, _ => none
 | k + 1, x0, x1, x2, x8, x9, x69000, x70000, x71000 => if x9 > x1 then (if 0 ≤ x9 then (if x9 < (x0.length : Int) then (if 0 ≤ (wrap64 (x9 - 1)) then (if (wrap64 (x9 - 1)) < (x0.length : Int) then ((J9.f (rd x0 x9) (rd x0 (wrap64 (x9 - 1))) x69000 x70000 x71000).bind fun t103 => (if t103 < 0 then (Qc.l1 k ((x0.set (x9 : Int).toNat (rd x0 (wrap64 (x9 - 1)))).set ((wrap64 (x9 - 1)) : Int).toNat (rd x0 x9)) x1 x2 x8 (wrap64 (x9 - 1)) x69000 x70000 x71000) else (Qc.l0 k x0 x1 x2 (wrap64 (x8 + 1)) x69000 x70000 x71000))) else (none)) else (none)) else (none)) else (none)) else (Qc.l0 k x0 x1 x2 (wrap64 (x8 + 1)) x69000 x70000 x71000)
end
def Qc.f (k : Nat) (l0 : List Int) (a1 a2 a68_0 : Int) (l69_0 : List Int) (a70_0 : Int) : Option (List Int) := Qc.l0 k l0 a1 a2 (wrap64 (a1 + 1)) a68_0 l69_0 a70_0
theorem Qc.mono_l : ∀ k, (∀ y0 y1 y2 y3 y4 y5 y6, LeO (Qc.l0 k y0 y1 y2 y3 y4 y5 y6) (Qc.l0 (k + 1) y0 y1 y2 y3 y4 y5 y6)) ∧ (∀ y0 y1 y2 y3 y4 y5 y6 y7, LeO (Qc.l1 k y0 y1 y2 y3 y4 y5 y6 y7) (Qc.l1 (k + 1) y0 y1 y2 y3 y4 y5 y6 y7))
 | 0 => ⟨fun _ _ _ _ _ _ _ r h => by simp [Qc.l0] at h, fun _ _ _ _ _ _ _ _ r h => by simp [Qc.l1] at h⟩
 | k + 1 => by
  obtain ⟨ih0, ih1⟩ := Qc.mono_l k; refine ⟨?_, ?_⟩
  ·intro y0 y1 y2 y3 y4 y5 y6
   unfold Qc.l0
   repeat' first
   | (with_reducible exact ih0 _ _ _ _ _ _ _)
   | (with_reducible exact ih1 _ _ _ _ _ _ _ _)
   | (with_reducible exact LeO.refl _)
   | (with_reducible exact LeO.none _)
   | (with_reducible refine LeO.ite ?_ ?_)
   | (with_reducible refine LeO.bind ?_ (fun _ => ?_))
  ·intro y0 y1 y2 y3 y4 y5 y6 y7
   unfold Qc.l1
   repeat' first
   | (with_reducible exact ih0 _ _ _ _ _ _ _)
   | (with_reducible exact ih1 _ _ _ _ _ _ _ _)
   | (with_reducible exact LeO.refl _)
   | (with_reducible exact LeO.none _)
   | (with_reducible refine LeO.ite ?_ ?_)
   | (with_reducible refine LeO.bind ?_ (fun _ => ?_))
theorem Qc.mono : ∀ a0 a1 a2 a3 a4 a5 k, LeO (Qc.f k a0 a1 a2 a3 a4 a5) (Qc.f (k + 1) a0 a1 a2 a3 a4 a5) := by
 intro a0 a1 a2 a3 a4 a5 k; obtain ⟨ih0, ih1⟩ := Qc.mono_l k; unfold Qc.f
 repeat' first
   | (with_reducible exact ih0 _ _ _ _ _ _ _)
   | (with_reducible exact ih1 _ _ _ _ _ _ _ _)
   | (with_reducible exact LeO.refl _)
   | (with_reducible exact LeO.none _)
   | (with_reducible refine LeO.ite ?_ ?_)
   | (with_reducible refine LeO.bind ?_ (fun _ => ?_))
def Qc.T4 : Bool × List (List Nat × List Nat) := (true, [([], []), ([], []), ([0, 1], [0, 1]), ([2], [2]), ([3], [3]), ([3], [3]), ([3], [3]), ([5, 6, 3], [3, 5, 6]), ([7, 3], [3, 7]), ([3], [3]), ([3], [3]), ([10, 3], [3, 10]), ([9, 11, 3], [3, 9, 11]), ([12, 3], [3, 12]), ([4, 8, 13, 3, 3], [3, 4, 8, 13]), ([14, 3], [3, 14]), ([3, 15], [3, 15])])
def Qc.B4 : List Nat := [0, 0, 3, 7, 15, 15, 15, 111, 239, 15, 15, 1039, 3599, 7695, 16383, 32767, 65535]
theorem Qc.tab4 : rtab .any (ZG Try.f57 4) = Qc.T4 := by kernel_rfl
theorem Qc.bits4 : J0 Qc.T4.2 Qc.B4 = true := by kernel_rfl
def Qc.T6 : Bool × List (List Nat × List Nat) := (true, [([], []), ([], []), ([], []), ([], []), ([3], [3]), ([], []), ([], []), ([6], [6]), ([5, 7], [5, 7]), ([8], [8]), ([], []), ([], []), ([10, 11], [10, 11]), ([12], [12]), ([0, 1, 0, 1, 5, 6, 7, 8, 9, 13], [0, 1]), ([14, 9, 0, 1, 5, 6, 7, 8, 9, 13], [9, 14]), ([2, 4, 0, 1, 2, 3, 4, 5, 6, 7, 8, 9, 10, 11, 12, 13, 14, 15], [2, 4]), ([16, 13, 15, 0, 1, 2, 3, 4, 5, 6, 7, 8, 9, 10, 11, 12, 13, 14, 15], [13, 16])])
def Qc.B6 : List Nat := [0, 0, 0, 0, 8, 0, 0, 64, 224, 480, 0, 0, 3072, 7168, 16355, 32739, 65535, 131071]
theorem Qc.tab6 : rtab .any (ZG Try.f57 6) = Qc.T6 := by kernel_rfl
theorem Qc.bits6 : J0 Qc.T6.2 Qc.B6 = true := by kernel_rfl
set_option maxHeartbeats 8000000 in
set_option maxRecDepth 100000 in
theorem Qc.calls (k : Nat) (P0_ : Nat → Prop) (u9000_ : Value) (l0 : List Int) (a1 a2 : Int) (B68 : Nat) (a68_0 : Int) (B69 : Nat) (A69_0 : Option Addr) (c69_0 : Nat) (l69_0 : List Int) (B70 : Nat) (a70_0 : Int) (r : List Int) (w0 w : World) (hB : Below w0.heap.size w0 w) (ho0 : Kd.R (Kd.int .i64) 3 w w0.heap.size P0_ u9000_ l0) (hb68 : w.heap[B68]? = some (.cells #[.int .i64 a68_0] 3 (0, 0))) (hb69 : w.heap[B69]? = some (.cells #[.slice A69_0 l69_0.length c69_0] 24 (0, 0))) (nb68_69 : B68 ≠ B69) (hr69_0 : ∀ W_, Kept w W_ (fun k_ => P0_ k_) → Kd.C (Kd.int .i64) W_ A69_0 l69_0.length l69_0) (hc69_0 : l69_0.length ≤ c69_0) (hb70 : w.heap[B70]? = some (.cells #[.int .i64 a70_0] 3 (0, 0))) (nb68_70 : B68 ≠ B70) (nb69_70 : B69 ≠ B70) (np0_68 : ¬ P0_ B68) (np0_69 : ¬ P0_ B69) (np0_70 : ¬ P0_ B70) (h : Qc.f k l0 a1 a2 a68_0 l69_0 a70_0 = some r) :
  Calls Try.prog 57 #[u9000_, .int .i64 a1, .int .i64 a2, .func (.func 10) #[] #[.pointer (some ⟨B68, 0, none⟩), .pointer (some ⟨B69, 0, none⟩), .pointer (some ⟨B70, 0, none⟩)]] w fun e w' => e = .returned (.tuple #[]) ∧ Kd.R (Kd.int .i64) 3 w' w0.heap.size (fun k_ => (P0_ k_ ∨ w.heap.size ≤ k_)) u9000_ r ∧ Below w0.heap.size w0 w' ∧ Kept w w' (fun k_ => P0_ k_) := by
 have HO0 := Qa.mk (show Kd.R (Kd.int .i64) 3 w w0.heap.size (fun k_ => (P0_ k_ ∨ w.heap.size ≤ k_)) u9000_ l0 from Kd.R_mono ho0 (fun k_ hk => (.inl hk))); have HR69_0 := Qa.mk hr69_0; have HC69_0 := Qa.mk hc69_0; clear hr69_0 hc69_0; have GL68 := Qa.mk (Jh hb68); have NP68 := Qa.mk np0_68; clear np0_68; have GL69 := Qa.mk (Jh hb69); have NP69 := Qa.mk np0_69; clear np0_69; have GL70 := Qa.mk (Jh hb70); have NP70 := Qa.mk np0_70; clear np0_70; have BK68 := Qa.mk hb68; clear hb68; have BK69 := Qa.mk hb69; clear hb69; have NB68_69 := Qa.mk nb68_69; have NB69_68 := Qa.mk nb68_69.symm; clear nb68_69; have BK70 := Qa.mk hb70; clear hb70; have NB68_70 := Qa.mk nb68_70; have NB70_68 := Qa.mk nb68_70.symm; clear nb68_70; have NB69_70 := Qa.mk nb69_70; have NB70_69 := Qa.mk nb69_70.symm; clear nb69_70; have HK := Qa.mk (Kept.refl w (fun k_ => P0_ k_)); have HW0 := Qa.mk hB.size; have HB := Qa.mk hB; clear hB; have H : (Qc.l0 k l0 a1 a2 (wrap64 (a1 + 1)) a68_0 l69_0 a70_0) = some r := h; clear h; have H' := Qa.mk H; clear H; go_enter Try.func57, Try.ntmps57; go_wp2
 (try simp only [Act.put, List.setIfInBounds_toArray, List.set_cons_zero, List.set_cons_succ])
 go_loopg [8] k (fun kq v8 w' => ∃ (x0_1 : List Int) (x8_1 : Int), v8 = .int .i64 x8_1 ∧ Qa (Qc.l0 kq x0_1 a1 a2 x8_1 a68_0 l69_0 a70_0 = some r) ∧ Qa (kq ≤ k) ∧ Qa (Kd.R (Kd.int .i64) 3 w' w0.heap.size (fun k_ => (P0_ k_ ∨ w.heap.size ≤ k_) ∧ k_ ≠ B68 ∧ k_ ≠ B70) u9000_ x0_1) ∧ Qa (w'.heap[B68]? = some (.cells #[.int .i64 a68_0] 3 (0, 0))) ∧ Qa (w'.heap[B69]? = some (.cells #[(.slice A69_0 l69_0.length c69_0)] 24 (0, 0))) ∧ Qa (w'.heap[B70]? = some (.cells #[.int .i64 a70_0] 3 (0, 0))) ∧ Qa (Kept w w' (fun k_ => P0_ k_)) ∧ Qa (Below w0.heap.size w0 w'))
 case atStart => exact ⟨(l0), (wrap64 (a1 + 1)), eS, H', ⟨Nat.le_refl _⟩, ⟨by (with_reducible repeat (first | apply Kd.R_alloc | apply Kd.R_drewN | apply Kd.R_drew)); exact Kd.R_mono HO0.out (fun _ hk => ⟨hk, ⟨(by have h9_ := hk; intro e9_; rw [e9_] at h9_; exact h9_.elim NP68.out (Nat.not_le.2 GL68.out)), (by have h9_ := hk; intro e9_; rw [e9_] at h9_; exact h9_.elim NP70.out (Nat.not_le.2 GL70.out))⟩⟩)⟩, ⟨pB BK68.out⟩, ⟨pB BK69.out⟩, ⟨pB BK70.out⟩, ⟨by repeat (first | (with_reducible first | exact HK.out | apply Kept.alloc | apply Kept.drewN | apply Kept.drew | refine Kept.setCell ?_ (.inr GW68.out) _ | refine Kept.setCell ?_ (.inr GW69.out) _ | refine Kept.setCell ?_ (.inr GW70.out) _) | exact HK.out)⟩, ⟨pE HB⟩⟩
 case round =>
  clear H'; try clear p2
  obtain ⟨x0_1, x8_1, rfl, HA, HK1, HO_0, BK68, BK69, BK70, HK, HB⟩ := hrel
  cases gk with
  | zero => exact absurd HA.out (by simp [Qc.l0])
  | succ k1 =>
   have H := HA.out; clear HA; simp only [Qc.l0] at H; by_cases c5 : x8_1 < a2
   ·rw [if_pos c5] at H
    have c5b0 : decide (x8_1 < a2) = true := decide_eq_true c5; clear c5; have H' := Qa.mk H; clear H; go_wp2
    (try simp only [Act.put, List.setIfInBounds_toArray, List.set_cons_zero, List.set_cons_succ])
    go_loopg [9] k1 (fun kq v9 w' => ∃ (x0_2 : List Int) (x9_2 : Int), v9 = .int .i64 x9_2 ∧ Qa (Qc.l1 kq x0_2 a1 a2 x8_1 x9_2 a68_0 l69_0 a70_0 = some r) ∧ Qa (kq ≤ k1) ∧ Qa (Kd.R (Kd.int .i64) 3 w' w0.heap.size (fun k_ => (P0_ k_ ∨ w.heap.size ≤ k_) ∧ k_ ≠ B68 ∧ k_ ≠ B70) u9000_ x0_2) ∧ Qa (w'.heap[B68]? = some (.cells #[.int .i64 a68_0] 3 (0, 0))) ∧ Qa (w'.heap[B69]? = some (.cells #[(.slice A69_0 l69_0.length c69_0)] 24 (0, 0))) ∧ Qa (w'.heap[B70]? = some (.cells #[.int .i64 a70_0] 3 (0, 0))) ∧ Qa (Kept w w' (fun k_ => P0_ k_)) ∧ Qa (Below w0.heap.size w0 w'))
    case atStart => exact ⟨(x0_1), (x8_1), eS, H', ⟨Nat.le_refl _⟩, ⟨by (with_reducible repeat (first | apply Kd.R_alloc | apply Kd.R_drewN | apply Kd.R_drew)); exact HO_0.out⟩, ⟨pB BK68.out⟩, ⟨pB BK69.out⟩, ⟨pB BK70.out⟩, ⟨by repeat (first | (with_reducible first | exact HK.out | apply Kept.alloc | apply Kept.drewN | apply Kept.drew | refine Kept.setCell ?_ (.inr GW68.out) _ | refine Kept.setCell ?_ (.inr GW69.out) _ | refine Kept.setCell ?_ (.inr GW70.out) _) | exact HK.out)⟩, ⟨pE HB⟩⟩
    case round =>
     clear H'; try clear p2
     try clear c5
     try clear c5b0
     try clear p2
     obtain ⟨x0_2, x9_2, rfl, HA, HK2, HO_0, BK68, BK69, BK70, HK, HB⟩ := hrel
     cases gk with
     | zero => exact absurd HA.out (by simp [Qc.l1])
     | succ k2 =>
      have H := HA.out; clear HA; simp only [Qc.l1] at H; by_cases c6 : x9_2 > a1
      ·rw [if_pos c6] at H
       have c6b0 : decide (a1 < x9_2) = true := decide_eq_true c6; clear c6; by_cases c7 : 0 ≤ x9_2
       ·rw [if_pos c7] at H
        have c7b0 : decide (0 ≤ x9_2) = true := decide_eq_true c7; clear c7; by_cases c8 : x9_2 < (x0_2.length : Int)
        ·rw [if_pos c8] at H
         have c8b0 : decide (x9_2 < (x0_2.length : Int)) = true := decide_eq_true c8; clear c8; obtain ⟨ji9, hji9⟩ : ∃ j_ : Int, (wrap64 (x9_2 - 1)) = j_ := ⟨_, rfl⟩
         replace H : (if 0 ≤ (ji9) then (if (ji9) < (x0_2.length : Int) then ((J9.f (rd x0_2 x9_2) (rd x0_2 (ji9)) a68_0 l69_0 a70_0).bind fun t103 => (if t103 < 0 then (Qc.l1 k2 ((x0_2.set (x9_2 : Int).toNat (rd x0_2 (ji9))).set ((ji9) : Int).toNat (rd x0_2 x9_2)) a1 a2 x8_1 ji9 a68_0 l69_0 a70_0) else (Qc.l0 k2 x0_2 a1 a2 (wrap64 (x8_1 + 1)) a68_0 l69_0 a70_0))) else (none)) else (none)) = some r := by first | (rw [hji9] at H; exact H) | (simp only [hji9] at H ⊢; exact H)
         have hji9w : (IntKind.i64.wrap (x9_2 - 1)) = ji9 := (QR _).trans hji9; by_cases c10 : 0 ≤ (ji9)
         ·rw [if_pos c10] at H
          have c10b0 : decide (0 ≤ (ji9)) = true := decide_eq_true c10; clear c10; by_cases c11 : (ji9) < (x0_2.length : Int)
          ·rw [if_pos c11] at H
           have c11b0 : decide ((ji9) < (x0_2.length : Int)) = true := decide_eq_true c11; clear c11; obtain ⟨t103, A12, H⟩ := bi H; by_cases c13 : t103 < 0
           ·rw [if_pos c13] at H
            have c13b0 : decide (t103 < 0) = true := decide_eq_true c13; clear c13; obtain ⟨y106, hy106⟩ : ∃ y_ : List Int, y_ = (x0_2.set (x9_2 : Int).toNat (rd x0_2 (ji9))) := ⟨_, rfl⟩
            replace H : (Qc.l1 k2 (y106.set ((ji9) : Int).toNat (rd x0_2 x9_2)) a1 a2 x8_1 ji9 a68_0 l69_0 a70_0) = some r := yy hy106 H; have Ny106 := Qa.mk hy106; clear hy106; obtain ⟨y107, hy107⟩ : ∃ y_ : List Int, y_ = (y106.set ((ji9) : Int).toNat (rd x0_2 x9_2)) := ⟨_, rfl⟩
            replace H : (Qc.l1 k2 y107 a1 a2 x8_1 ji9 a68_0 l69_0 a70_0) = some r := yy hy107 H; have Ny107 := Qa.mk hy107; clear hy107; have H' := Qa.mk H; clear H
            try go_wp2
            replace HO_0 := Qa.mk (Kd.R_drew HO_0.out); replace BK68 := Qa.mk (Qh BK68.out); replace BK69 := Qa.mk (Qh BK69.out); replace BK70 := Qa.mk (Qh BK70.out); replace HK := Qa.mk (Kept.drew HK.out); replace HB := Qa.mk (QM HB.out); obtain ⟨Ao17, co17, eo17⟩ := Kd.R_slice HO_0.out
            (first | subst eo17 | (injection eo17 with f1_ f2_ f3_; have f4_ := f1_.symm; have f5_ := f3_.symm; clear f1_ f2_ f3_; subst f4_; subst f5_))
            have p101 : 0 ≤ (x9_2 : Int) := dT; have q101 : x9_2 < (x0_2.length : Int) := dT; obtain ⟨ad101, e101, hx101_0⟩ := Kd.at_int (Kd.R_reads' HO_0.out).2.2 x9_2 p101 q101
            cases e101
            replace p101 := eq_true p101; replace q101 := eq_true q101; have p102 : 0 ≤ ((ji9) : Int) := dT; have q102 : (ji9) < (x0_2.length : Int) := dT; obtain ⟨ad102, e102, hx102_0⟩ := Kd.at_int (Kd.R_reads' HO_0.out).2.2 (ji9) p102 q102; obtain rfl : ad101 = ad102 := (by injection e102); replace p102 := eq_true p102; replace q102 := eq_true q102; refine JS (n := 17) (S := fun w' => w'.cell? (ad101.add (x9_2).toNat) = some (.int .i64 (rd x0_2 x9_2)) ∧ w'.cell? (ad101.add ((ji9)).toNat) = some (.int .i64 (rd x0_2 (ji9)))) (ds := []) #[false, false, false, false, false, false, false, false, false, false, false, false, false, false, false, false, false] (by kernel_rfl) rfl rfl ⟨hx101_0, hx102_0⟩ (fun hHeld => ?_); refine Jk Qc.tab4 Qc.bits4 (fun HT_ HW_ => ?_); generalize wr.drew = w16 at HO_0 BK68 BK69 BK70 HK HB hx101_0 hx102_0 hHeld ⊢; refine pu 0 18 ?_; refine pu 1 19 ?_; refine pu 2 20 ?_; refine pu 3 21 ?_; refine pu 4 22 ?_; refine pu 5 23 ?_; refine pu 6 24 ?_; refine pu 7 25 ?_; refine pu 9 27 ?_; refine pu 10 28 ?_; refine pu 11 29 ?_; refine pu 12 30 ?_; refine tk 8 26 hHeld ?_; refine tk 13 31 hHeld ?_; refine on 14 (fun K hK => ?_); refine Y9 Try.func10 (by kernel_rfl) rfl #[.int .i64 (rd x0_2 x9_2), .int .i64 (rd x0_2 (ji9)), .pointer (some ⟨B68, 0, none⟩), .pointer (some ⟨B69, 0, none⟩), .pointer (some ⟨B70, 0, none⟩)] (by rfl) rfl rfl rfl (by (try simp only [List.map_toArray, List.map_cons, List.map_nil]); first | done | (simp only [hji9]; rfl) | rfl | (simp only [List.length_drop, List.length_take]; rfl)) ?_
            with_reducible refine (J9.calls (rd x0_2 x9_2) (rd x0_2 (ji9)) B68 a68_0 B69 A69_0 c69_0 l69_0 B70 a70_0 t103 _ ?side1 ?side2 ?side3 ?side4 ?side5 ?side6 ?side7 ?side8 A12.out).mono ?_
            (case side1 => exact pB BK68.out)
            (case side2 => exact pB BK69.out)
            (case side3 => exact NB68_69.out)
            (case side4 => exact Kd.C_kept_now HR69_0.out (by repeat (first | (with_reducible first | exact HK.out | apply Kept.alloc | apply Kept.drewN | apply Kept.drew | refine Kept.setCell ?_ (.inr GW68.out) _ | refine Kept.setCell ?_ (.inr GW69.out) _ | refine Kept.setCell ?_ (.inr GW70.out) _) | exact HK.out)))
            (case side5 => exact HC69_0.out)
            (case side6 => exact pB BK70.out)
            (case side7 => exact NB68_70.out)
            (case side8 => exact NB69_70.out)
            rintro e w' ⟨rfl, ⟨nd, rfl⟩⟩; refine ⟨_, rfl, ?_⟩; refine hK.out _ _ ⟨hHeld.1, hHeld.2⟩ (fun hHeld => ?_); clear hK K; refine QY (a' := ?_) ?_ ?_
            rotate_left
            ·show Act.put _ (some 32) _ = _
             simp only [Act.put, List.setIfInBounds_toArray, List.set_cons_zero, List.set_cons_succ, QR, QU]; rfl
            refine pu 15 33 ?_; refine pu 16 34 ?_; refine JD (JM HT_.out (by kernel_rfl)) ?_
            try go_wp2
            (try (rw [Z2 w16]; generalize hq_ : World.drewN w16 _ = w16; have n0_ : Qa (Kd.R (Kd.int .i64) 3 w16 w0.heap.size (fun k_ => (P0_ k_ ∨ w.heap.size ≤ k_) ∧ k_ ≠ B68 ∧ k_ ≠ B70) (.slice (some ad101) x0_2.length co17) x0_2) := ⟨by rw [← hq_]; exact (pR HO_0.out)⟩; have n1_ : Qa (w16.heap[B68]? = some (.cells #[.int .i64 a68_0] 3 (0, 0))) := ⟨by rw [← hq_]; exact (pB BK68.out)⟩; have n2_ : Qa (w16.heap[B69]? = some (.cells #[.slice A69_0 l69_0.length c69_0] 24 (0, 0))) := ⟨by rw [← hq_]; exact (pB BK69.out)⟩; have n3_ : Qa (w16.heap[B70]? = some (.cells #[.int .i64 a70_0] 3 (0, 0))) := ⟨by rw [← hq_]; exact (pB BK70.out)⟩; have n4_ : Qa (Kept w w16 (fun k_ => P0_ k_)) := ⟨by rw [← hq_]; exact (by repeat (first | (with_reducible first | exact HK.out | apply Kept.alloc | apply Kept.drewN | apply Kept.drew | refine Kept.setCell ?_ (.inr GW68.out) _ | refine Kept.setCell ?_ (.inr GW69.out) _ | refine Kept.setCell ?_ (.inr GW70.out) _) | exact HK.out))⟩; have n5_ : Qa (Below w0.heap.size w0 w16) := ⟨by rw [← hq_]; exact (pE HB)⟩; clear HO_0 BK68 BK69 BK70 HK HB hq_; have HO_0 := n0_; have BK68 := n1_; have BK69 := n2_; have BK70 := n3_; have HK := n4_; have HB := n5_; clear n0_ n1_ n2_ n3_ n4_ n5_))
            replace HO_0 := Qa.mk (Kd.R_drew HO_0.out); replace BK68 := Qa.mk (Qh BK68.out); replace BK69 := Qa.mk (Qh BK69.out); replace BK70 := Qa.mk (Qh BK70.out); replace HK := Qa.mk (Kept.drew HK.out); replace HB := Qa.mk (QM HB.out); have p104 : 0 ≤ ((ji9) : Int) := dT; have q104 : (ji9) < (x0_2.length : Int) := dT; obtain ⟨ad104, e104, hx104_0⟩ := Kd.at_int (Kd.R_reads' HO_0.out).2.2 (ji9) p104 q104; obtain rfl : ad101 = ad104 := (by injection e104); replace p104 := eq_true p104; replace q104 := eq_true q104; have p105 : 0 ≤ (x9_2 : Int) := dT; have q105 : x9_2 < (x0_2.length : Int) := dT; obtain ⟨ad105, e105, hx105_0⟩ := Kd.at_int (Kd.R_reads' HO_0.out).2.2 x9_2 p105 q105; obtain rfl : ad101 = ad105 := (by injection e105); replace p105 := eq_true p105; replace q105 := eq_true q105; have p14 : 0 ≤ (x9_2 : Int) := dT; have q14 : (x9_2 : Int) < ((x0_2.length : Int) : Int) := dT; obtain ⟨go14, co14, eo14, gb14, gl14, cl14, HG14⟩ := Kd.R_form HO_0.out (by omega)
            (first | cases eo14 | (injection eo14 with ea_ en_ ec_; (first | subst ea_ | (injection ea_ with ea_; subst ea_)); subst ec_; clear en_))
            have GB14 := Qa.mk gb14; have GG14 := Qa.mk HG14; clear gb14 gl14 HG14; have HMgo14 := Qa.mk (show (P0_ go14 ∨ w.heap.size ≤ go14) from (HO_0.out.1 _ rfl).1)
            (first | simp only [JP] at hx101_0 | skip)
            (first | simp only [JP] at hx102_0 | skip)
            (first | simp only [JP] at hx104_0 | skip)
            (first | simp only [JP] at hx105_0 | skip)
            obtain ⟨hx14_0, hf14_0⟩ := Kd.R_celln 0 HO_0.out (x9_2 : Int) p14 q14; replace p14 := eq_true p14; replace q14 := eq_true q14; have HP19 := Kd.R_putn HO_0.out (x9_2 : Int) (rd x0_2 (ji9)); rw [← Ny106.out] at HP19; have HQ19 := Qa.mk HP19; clear HP19; have p15 : 0 ≤ ((ji9) : Int) := dT; have q15 : ((ji9) : Int) < ((x0_2.length : Int) : Int) := dT; obtain ⟨hx15_0, hf15_0⟩ := Kd.R_celln 0 HQ19.out ((ji9) : Int) p15 q15; replace p15 := eq_true p15; replace q15 := eq_true q15; have HP20 := Kd.R_putn HQ19.out ((ji9) : Int) (rd x0_2 x9_2); rw [← Ny107.out] at HP20; have HQ20 := Qa.mk HP20; clear HP20; refine JS (n := 18) (S := fun w' => w'.cell? ⟨go14, ((ji9)).toNat, none⟩ = some (.int .i64 (rd x0_2 (ji9))) ∧ w'.cell? ⟨go14, (x9_2).toNat, none⟩ = some (.int .i64 (rd x0_2 x9_2))) (ds := [15, 17]) #[false, false, false, false, false, false, false, false, false, false, false, false, false, false, false, false, false, false] (by kernel_rfl) rfl rfl ⟨hx104_0, hx105_0⟩ (fun hHeld => ?_); refine Jk Qc.tab6 Qc.bits6 (fun HT_ HW_ => ?_); generalize w16.drew = w18 at HO_0 BK68 BK69 BK70 HK HB GG14 HQ19 HQ20 hf14_0 hf15_0 hx101_0 hx102_0 hx104_0 hx105_0 hx14_0 hx15_0 hHeld ⊢; refine pu 0 37 ?_; refine pu 1 38 ?_; refine pu 2 39 ?_; refine pu 3 40 ?_; refine pu 4 41 ?_; refine pu 5 42 ?_; refine pu 6 43 ?_; refine pu 7 44 ?_; refine pu 8 45 ?_; refine pu 10 47 ?_; refine pu 11 48 ?_; refine pu 12 49 ?_; refine tk 9 46 hHeld ?_; refine tk 13 50 hHeld ?_; refine pu 14 51 ?_; refine last_ (i := 15) (N := none) #[true, true, true, true, true, true, true, true, true, true, true, true, true, true, true, true, false, false] rfl rfl (X9 HT_.out (by kernel_rfl)) (by decide) (fun K hK => ?_); refine Z7 (w1 := ?_) (by rfl) rfl ?_ ?_
            rotate_left
            ·go_simp
             rfl
            refine hK.out _ _ ?_; clear hK K; refine pu 16 52 ?_; refine last_ (i := 17) (N := none) #[true, true, true, true, true, true, true, true, true, true, true, true, true, true, true, true, true, true] rfl rfl (X9 HT_.out (by kernel_rfl)) (by decide) (fun K hK => ?_); refine Z7 (w1 := ?_) (by rfl) rfl ?_ ?_
            rotate_left
            ·go_simp
             rfl
            refine hK.out _ _ ?_; clear hK K; refine JD (JM HT_.out (by kernel_rfl)) ?_
            try go_wp2
            go_roundg k2
            case measure => have := HK1.out; have := HK2.out; omega
            case rel => exact ⟨(y107), (ji9), (by first | rfl | (simp; done) | (simp only [← hji9] <;> (first | rfl | simp)) | (simp [*]; done)), H', ⟨by have := HK1.out; have := HK2.out; omega⟩, ⟨by (with_reducible repeat (first | apply Kd.R_alloc | apply Kd.R_drewN | apply Kd.R_drew)); exact HQ20.out⟩, ⟨by refine pB ?_; refine Qx ?_ (by have h_ := Kd.R_away HO_0.out (fun _ hk => hk.2.1); intro e_; exact h_ (by rw [e_]; rfl)) _; refine pB ?_; refine Qx ?_ (by have h_ := Kd.R_away HO_0.out (fun _ hk => hk.2.1); intro e_; exact h_ (by rw [e_]; rfl)) _; (with_reducible repeat (first | refine Qt ?_ _ | refine Qh ?_ | refine blk_alloc ?_ _)); exact BK68.out⟩, ⟨by refine pB ?_; refine Qx ?_ (by have h_ := Kd.R_ne HO_0.out BK69.out (by decide); intro e_; exact h_ (by rw [e_]; rfl)) _; refine pB ?_; refine Qx ?_ (by have h_ := Kd.R_ne HO_0.out BK69.out (by decide); intro e_; exact h_ (by rw [e_]; rfl)) _; (with_reducible repeat (first | refine Qt ?_ _ | refine Qh ?_ | refine blk_alloc ?_ _)); exact BK69.out⟩, ⟨by refine pB ?_; refine Qx ?_ (by have h_ := Kd.R_away HO_0.out (fun _ hk => hk.2.2); intro e_; exact h_ (by rw [e_]; rfl)) _; refine pB ?_; refine Qx ?_ (by have h_ := Kd.R_away HO_0.out (fun _ hk => hk.2.2); intro e_; exact h_ (by rw [e_]; rfl)) _; (with_reducible repeat (first | refine Qt ?_ _ | refine Qh ?_ | refine blk_alloc ?_ _)); exact BK70.out⟩, ⟨by repeat (first | (with_reducible first | exact HK.out | apply Kept.alloc | apply Kept.drewN | apply Kept.drew | refine Kept.setCell ?_ HMgo14.out _ | refine Kept.setCell ?_ HMgo14.out _ | refine Kept.setCell ?_ (.inr GW68.out) _ | refine Kept.setCell ?_ (.inr GW69.out) _ | refine Kept.setCell ?_ (.inr GW70.out) _) | exact HK.out)⟩, ⟨pE HB⟩⟩
           ·rw [if_neg c13] at H
            have c13b0 : decide (t103 < 0) = false := decide_eq_false c13; clear c13; have H' := Qa.mk H; clear H
            try go_wp2
            replace HO_0 := Qa.mk (Kd.R_drew HO_0.out); replace BK68 := Qa.mk (Qh BK68.out); replace BK69 := Qa.mk (Qh BK69.out); replace BK70 := Qa.mk (Qh BK70.out); replace HK := Qa.mk (Kept.drew HK.out); replace HB := Qa.mk (QM HB.out); obtain ⟨Ao22, co22, eo22⟩ := Kd.R_slice HO_0.out
            (first | subst eo22 | (injection eo22 with f1_ f2_ f3_; have f4_ := f1_.symm; have f5_ := f3_.symm; clear f1_ f2_ f3_; subst f4_; subst f5_))
            have p101 : 0 ≤ (x9_2 : Int) := dT; have q101 : x9_2 < (x0_2.length : Int) := dT; obtain ⟨ad101, e101, hx101_0⟩ := Kd.at_int (Kd.R_reads' HO_0.out).2.2 x9_2 p101 q101
            cases e101
            replace p101 := eq_true p101; replace q101 := eq_true q101; have p102 : 0 ≤ ((ji9) : Int) := dT; have q102 : (ji9) < (x0_2.length : Int) := dT; obtain ⟨ad102, e102, hx102_0⟩ := Kd.at_int (Kd.R_reads' HO_0.out).2.2 (ji9) p102 q102; obtain rfl : ad101 = ad102 := (by injection e102); replace p102 := eq_true p102; replace q102 := eq_true q102; refine JS (n := 17) (S := fun w' => w'.cell? (ad101.add (x9_2).toNat) = some (.int .i64 (rd x0_2 x9_2)) ∧ w'.cell? (ad101.add ((ji9)).toNat) = some (.int .i64 (rd x0_2 (ji9)))) (ds := []) #[false, false, false, false, false, false, false, false, false, false, false, false, false, false, false, false, false] (by kernel_rfl) rfl rfl ⟨hx101_0, hx102_0⟩ (fun hHeld => ?_); refine Jk Qc.tab4 Qc.bits4 (fun HT_ HW_ => ?_); generalize wr.drew = w21 at HO_0 BK68 BK69 BK70 HK HB hx101_0 hx102_0 hHeld ⊢; refine pu 0 18 ?_; refine pu 1 19 ?_; refine pu 2 20 ?_; refine pu 3 21 ?_; refine pu 4 22 ?_; refine pu 5 23 ?_; refine pu 6 24 ?_; refine pu 7 25 ?_; refine pu 9 27 ?_; refine pu 10 28 ?_; refine pu 11 29 ?_; refine pu 12 30 ?_; refine tk 8 26 hHeld ?_; refine tk 13 31 hHeld ?_; refine on 14 (fun K hK => ?_); refine Y9 Try.func10 (by kernel_rfl) rfl #[.int .i64 (rd x0_2 x9_2), .int .i64 (rd x0_2 (ji9)), .pointer (some ⟨B68, 0, none⟩), .pointer (some ⟨B69, 0, none⟩), .pointer (some ⟨B70, 0, none⟩)] (by rfl) rfl rfl rfl (by (try simp only [List.map_toArray, List.map_cons, List.map_nil]); first | done | (simp only [hji9]; rfl) | rfl | (simp only [List.length_drop, List.length_take]; rfl)) ?_
            with_reducible refine (J9.calls (rd x0_2 x9_2) (rd x0_2 (ji9)) B68 a68_0 B69 A69_0 c69_0 l69_0 B70 a70_0 t103 _ ?side1 ?side2 ?side3 ?side4 ?side5 ?side6 ?side7 ?side8 A12.out).mono ?_
            (case side1 => exact pB BK68.out)
            (case side2 => exact pB BK69.out)
            (case side3 => exact NB68_69.out)
            (case side4 => exact Kd.C_kept_now HR69_0.out (by repeat (first | (with_reducible first | exact HK.out | apply Kept.alloc | apply Kept.drewN | apply Kept.drew | refine Kept.setCell ?_ (.inr GW68.out) _ | refine Kept.setCell ?_ (.inr GW69.out) _ | refine Kept.setCell ?_ (.inr GW70.out) _) | exact HK.out)))
            (case side5 => exact HC69_0.out)
            (case side6 => exact pB BK70.out)
            (case side7 => exact NB68_70.out)
            (case side8 => exact NB69_70.out)
            rintro e w' ⟨rfl, ⟨nd, rfl⟩⟩; refine ⟨_, rfl, ?_⟩; refine hK.out _ _ ⟨hHeld.1, hHeld.2⟩ (fun hHeld => ?_); clear hK K; refine QY (a' := ?_) ?_ ?_
            rotate_left
            ·show Act.put _ (some 32) _ = _
             simp only [Act.put, List.setIfInBounds_toArray, List.set_cons_zero, List.set_cons_succ, QR, QU]; rfl
            refine pu 15 33 ?_; refine pu 16 34 ?_; refine JD (JM HT_.out (by kernel_rfl)) ?_
            try go_wp2
            go_roundg k2
            case measure => have := HK1.out; have := HK2.out; omega
            case rel => exact ⟨(x0_2), (wrap64 (x8_1 + 1)), eS, H', ⟨by have := HK1.out; have := HK2.out; omega⟩, ⟨by (with_reducible repeat (first | apply Kd.R_alloc | apply Kd.R_drewN | apply Kd.R_drew)); exact HO_0.out⟩, ⟨pB BK68.out⟩, ⟨pB BK69.out⟩, ⟨pB BK70.out⟩, ⟨by repeat (first | (with_reducible first | exact HK.out | apply Kept.alloc | apply Kept.drewN | apply Kept.drew | refine Kept.setCell ?_ (.inr GW68.out) _ | refine Kept.setCell ?_ (.inr GW69.out) _ | refine Kept.setCell ?_ (.inr GW70.out) _) | exact HK.out)⟩, ⟨pE HB⟩⟩
          ·rw [if_neg c11] at H
           exact absurd H (by simp)
         ·rw [if_neg c10] at H
          exact absurd H (by simp)
        ·rw [if_neg c8] at H
         exact absurd H (by simp)
       ·rw [if_neg c7] at H
        exact absurd H (by simp)
      ·rw [if_neg c6] at H
       have c6b0 : decide (a1 < x9_2) = false := decide_eq_false c6; clear c6; have H' := Qa.mk H; clear H
       try go_wp2
       replace HO_0 := Qa.mk (Kd.R_drew HO_0.out); replace BK68 := Qa.mk (Qh BK68.out); replace BK69 := Qa.mk (Qh BK69.out); replace BK70 := Qa.mk (Qh BK70.out); replace HK := Qa.mk (Kept.drew HK.out); replace HB := Qa.mk (QM HB.out); refine JS (n := 17) (S := fun w' => True) (ds := []) #[false, false, false, false, false, false, false, false, false, false, false, false, false, false, false, false, false] (by kernel_rfl) rfl rfl trivial (fun hHeld => ?_); refine Jk Qc.tab4 Qc.bits4 (fun HT_ HW_ => ?_); generalize wr.drew = w23 at HO_0 BK68 BK69 BK70 HK HB hHeld ⊢; refine pu 0 18 ?_; refine pu 1 19 ?_; refine pu 2 20 ?_; refine pu 3 21 ?_; refine pd 4 22 ?_; refine pd 5 23 ?_; refine pd 6 24 ?_; refine pd 7 25 ?_; refine pd 8 26 ?_; refine pd 9 27 ?_; refine pd 10 28 ?_; refine pd 11 29 ?_; refine pd 12 30 ?_; refine pd 13 31 ?_; refine pd 14 32 ?_; refine pd 15 33 ?_; refine pu 16 34 ?_; refine JD (JM HT_.out (by kernel_rfl)) ?_
       try go_wp2
       go_roundg k2
       case measure => have := HK1.out; have := HK2.out; omega
       case rel => exact ⟨(x0_2), (wrap64 (x8_1 + 1)), eS, H', ⟨by have := HK1.out; have := HK2.out; omega⟩, ⟨by (with_reducible repeat (first | apply Kd.R_alloc | apply Kd.R_drewN | apply Kd.R_drew)); exact HO_0.out⟩, ⟨pB BK68.out⟩, ⟨pB BK69.out⟩, ⟨pB BK70.out⟩, ⟨by repeat (first | (with_reducible first | exact HK.out | apply Kept.alloc | apply Kept.drewN | apply Kept.drew | refine Kept.setCell ?_ (.inr GW68.out) _ | refine Kept.setCell ?_ (.inr GW69.out) _ | refine Kept.setCell ?_ (.inr GW70.out) _) | exact HK.out)⟩, ⟨pE HB⟩⟩
   ·rw [if_neg c5] at H
    have c5b0 : decide (x8_1 < a2) = false := decide_eq_false c5; clear c5; obtain rfl := Option.some.inj H; go_wp2
    first | go_end0 | ((try simp only [Exit.inBlock, Exit.then]); refine bodyPost_ret (results_none rfl _ _ _) rfl ?_)
    exact ⟨eT, by (with_reducible repeat (first | apply Kd.R_alloc | apply Kd.R_drewN | apply Kd.R_drew)); exact Kd.R_mono HO_0.out (fun _ hk => hk.1), pE HB, by repeat (first | (with_reducible first | exact HK.out | apply Kept.alloc | apply Kept.drewN | apply Kept.drew | refine Kept.setCell ?_ (.inr GW68.out) _ | refine Kept.setCell ?_ (.inr GW69.out) _ | refine Kept.setCell ?_ (.inr GW70.out) _) | exact HK.out)⟩
mutual
def Qe.l0 : Nat → List Int → Int → Int → Int → Int → Int → List Int → Int → Option (List Int)
 | 0, _, _, _, _, _, _, _, _ => none
 | k + 1, x0, x1, x6, x7, x8, x63000, x64000, x65000 => if x8 ≤ x1 then ((Qc.f k x0 x7 x8 x63000 x64000 x65000).bind fun t101 => (Qe.l0 k t101 x1 x6 x8 (wrap64 (x8 + x6)) x63000 x64000 x65000)) else ((Qc.f k x0 x7 x1 x63000 x64000 x65000).bind fun t102 => (Qe.l1 k t102 x1 x6))
def Qe.l1 : Nat → List Int → Int → Int → Option (List Int)
 | 0, _, _, _ => none
 | k + 1, x0, x1, x6 => if x6 < x1 then (Qe.l2 k x0 x1 x6 0 (wrap64 (2 * x6))) else (some x0)
def Qe.l2 : Nat → List Int → Int → Int → Int → Int → Option (List Int)
 | 0, _, _, _, _, _ => none
 | k + 1, x0, x1, x6, x7, x8 => if x8 ≤ x1 then (none) else (if (wrap64 (x7 + x6)) < x1 then (none) else (Qe.l1 k x0 x1 (wrap64 (x6 * 2))))
end
def Qe.f (k : Nat) (l0 : List Int) (a1 a62_0 : Int) (l63_0 : List Int) (a64_0 : Int) : Option (List Int) := Qe.l0 k l0 a1 20 0 20 a62_0 l63_0 a64_0
theorem Qe.mono_l : ∀ k, (∀ y0 y1 y2 y3 y4 y5 y6 y7, LeO (Qe.l0 k y0 y1 y2 y3 y4 y5 y6 y7) (Qe.l0 (k + 1) y0 y1 y2 y3 y4 y5 y6 y7)) ∧ (∀ y0 y1 y2, LeO (Qe.l1 k y0 y1 y2) (Qe.l1 (k + 1) y0 y1 y2)) ∧ (∀ y0 y1 y2 y3 y4, LeO (Qe.l2 k y0 y1 y2 y3 y4) (Qe.l2 (k + 1) y0 y1 y2 y3 y4))
 | 0 => ⟨fun _ _ _ _ _ _ _ _ r h => by simp [Qe.l0] at h, fun _ _ _ r h => by simp [Qe.l1] at h, fun _ _ _ _ _ r h => by simp [Qe.l2] at h⟩
 | k + 1 => by
  obtain ⟨ih0, ih1, ih2⟩ := Qe.mono_l k; refine ⟨?_, ?_, ?_⟩
  ·intro y0 y1 y2 y3 y4 y5 y6 y7
   unfold Qe.l0
   repeat' first
   | (with_reducible exact ih0 _ _ _ _ _ _ _ _)
   | (with_reducible exact ih1 _ _ _)
   | (with_reducible exact ih2 _ _ _ _ _)
   | (with_reducible exact Qc.mono _ _ _ _ _ _ _)
   | (with_reducible exact LeO.refl _)
   | (with_reducible exact LeO.none _)
   | (with_reducible refine LeO.ite ?_ ?_)
   | (with_reducible refine LeO.bind ?_ (fun _ => ?_))
  ·intro y0 y1 y2
   unfold Qe.l1
   repeat' first
   | (with_reducible exact ih0 _ _ _ _ _ _ _ _)
   | (with_reducible exact ih1 _ _ _)
   | (with_reducible exact ih2 _ _ _ _ _)
   | (with_reducible exact Qc.mono _ _ _ _ _ _ _)
   | (with_reducible exact LeO.refl _)
   | (with_reducible exact LeO.none _)
   | (with_reducible refine LeO.ite ?_ ?_)
   | (with_reducible refine LeO.bind ?_ (fun _ => ?_))
  ·intro y0 y1 y2 y3 y4
   unfold Qe.l2
   repeat' first
   | (with_reducible exact ih0 _ _ _ _ _ _ _ _)
   | (with_reducible exact ih1 _ _ _)
   | (with_reducible exact ih2 _ _ _ _ _)
   | (with_reducible exact Qc.mono _ _ _ _ _ _ _)
   | (with_reducible exact LeO.refl _)
   | (with_reducible exact LeO.none _)
   | (with_reducible refine LeO.ite ?_ ?_)
   | (with_reducible refine LeO.bind ?_ (fun _ => ?_))
theorem Qe.mono : ∀ a0 a1 a2 a3 a4 k, LeO (Qe.f k a0 a1 a2 a3 a4) (Qe.f (k + 1) a0 a1 a2 a3 a4) := by
 intro a0 a1 a2 a3 a4 k; obtain ⟨ih0, ih1, ih2⟩ := Qe.mono_l k; unfold Qe.f
 repeat' first
   | (with_reducible exact ih0 _ _ _ _ _ _ _ _)
   | (with_reducible exact ih1 _ _ _)
   | (with_reducible exact ih2 _ _ _ _ _)
   | (with_reducible exact Qc.mono _ _ _ _ _ _ _)
   | (with_reducible exact LeO.refl _)
   | (with_reducible exact LeO.none _)
   | (with_reducible refine LeO.ite ?_ ?_)
   | (with_reducible refine LeO.bind ?_ (fun _ => ?_))
set_option maxHeartbeats 8000000 in
set_option maxRecDepth 100000 in
theorem Qe.calls (k : Nat) (P0_ : Nat → Prop) (u9000_ : Value) (l0 : List Int) (a1 : Int) (B62 : Nat) (a62_0 : Int) (B63 : Nat) (A63_0 : Option Addr) (c63_0 : Nat) (l63_0 : List Int) (B64 : Nat) (a64_0 : Int) (r : List Int) (w0 w : World) (hB : Below w0.heap.size w0 w) (ho0 : Kd.R (Kd.int .i64) 3 w w0.heap.size P0_ u9000_ l0) (hb62 : w.heap[B62]? = some (.cells #[.int .i64 a62_0] 3 (0, 0))) (hb63 : w.heap[B63]? = some (.cells #[.slice A63_0 l63_0.length c63_0] 24 (0, 0))) (nb62_63 : B62 ≠ B63) (hr63_0 : ∀ W_, Kept w W_ (fun k_ => P0_ k_) → Kd.C (Kd.int .i64) W_ A63_0 l63_0.length l63_0) (hc63_0 : l63_0.length ≤ c63_0) (hb64 : w.heap[B64]? = some (.cells #[.int .i64 a64_0] 3 (0, 0))) (nb62_64 : B62 ≠ B64) (nb63_64 : B63 ≠ B64) (np0_62 : ¬ P0_ B62) (np0_63 : ¬ P0_ B63) (np0_64 : ¬ P0_ B64) (h : Qe.f k l0 a1 a62_0 l63_0 a64_0 = some r) :
  Calls Try.prog 28 #[u9000_, .int .i64 a1, .func (.func 10) #[] #[.pointer (some ⟨B62, 0, none⟩), .pointer (some ⟨B63, 0, none⟩), .pointer (some ⟨B64, 0, none⟩)]] w fun e w' => e = .returned (.tuple #[]) ∧ Kd.R (Kd.int .i64) 3 w' w0.heap.size (fun k_ => (P0_ k_ ∨ w.heap.size ≤ k_)) u9000_ r ∧ Below w0.heap.size w0 w' ∧ Kept w w' (fun k_ => P0_ k_) := by
 have HO0 := Qa.mk (show Kd.R (Kd.int .i64) 3 w w0.heap.size (fun k_ => (P0_ k_ ∨ w.heap.size ≤ k_)) u9000_ l0 from Kd.R_mono ho0 (fun k_ hk => (.inl hk))); have HR63_0 := Qa.mk hr63_0; have HC63_0 := Qa.mk hc63_0; clear hr63_0 hc63_0; have GL62 := Qa.mk (Jh hb62); have NP62 := Qa.mk np0_62; clear np0_62; have GL63 := Qa.mk (Jh hb63); have NP63 := Qa.mk np0_63; clear np0_63; have GL64 := Qa.mk (Jh hb64); have NP64 := Qa.mk np0_64; clear np0_64; have BK62 := Qa.mk hb62; clear hb62; have BK63 := Qa.mk hb63; clear hb63; have NB62_63 := Qa.mk nb62_63; have NB63_62 := Qa.mk nb62_63.symm; clear nb62_63; have BK64 := Qa.mk hb64; clear hb64; have NB62_64 := Qa.mk nb62_64; have NB64_62 := Qa.mk nb62_64.symm; clear nb62_64; have NB63_64 := Qa.mk nb63_64; have NB64_63 := Qa.mk nb63_64.symm; clear nb63_64; have HK := Qa.mk (Kept.refl w (fun k_ => P0_ k_)); have HW0 := Qa.mk hB.size; have HB := Qa.mk hB; clear hB; have H : (Qe.l0 k l0 a1 20 0 20 a62_0 l63_0 a64_0) = some r := h; clear h; have H' := Qa.mk H; clear H; go_enter Try.func28, Try.ntmps28; go_wp2
 (try simp only [Act.put, List.setIfInBounds_toArray, List.set_cons_zero, List.set_cons_succ])
 go_loopg [7, 8] k (fun kq v7 v8 w' => ∃ (x0_1 : List Int) (x7_1 : Int) (x8_1 : Int), v7 = .int .i64 x7_1 ∧ v8 = .int .i64 x8_1 ∧ Qa (Qe.l0 kq x0_1 a1 20 x7_1 x8_1 a62_0 l63_0 a64_0 = some r) ∧ Qa (kq ≤ k) ∧ Qa (Kd.R (Kd.int .i64) 3 w' w0.heap.size (fun k_ => (P0_ k_ ∨ w.heap.size ≤ k_) ∧ k_ ≠ B62 ∧ k_ ≠ B64) u9000_ x0_1) ∧ Qa (w'.heap[B62]? = some (.cells #[.int .i64 a62_0] 3 (0, 0))) ∧ Qa (w'.heap[B63]? = some (.cells #[(.slice A63_0 l63_0.length c63_0)] 24 (0, 0))) ∧ Qa (w'.heap[B64]? = some (.cells #[.int .i64 a64_0] 3 (0, 0))) ∧ Qa (Kept w w' (fun k_ => P0_ k_)) ∧ Qa (Below w0.heap.size w0 w'))
 case atStart => exact ⟨(l0), (0), (20), eS, eS, H', ⟨Nat.le_refl _⟩, ⟨by (with_reducible repeat (first | apply Kd.R_alloc | apply Kd.R_drewN | apply Kd.R_drew)); exact Kd.R_mono HO0.out (fun _ hk => ⟨hk, ⟨(by have h9_ := hk; intro e9_; rw [e9_] at h9_; exact h9_.elim NP62.out (Nat.not_le.2 GL62.out)), (by have h9_ := hk; intro e9_; rw [e9_] at h9_; exact h9_.elim NP64.out (Nat.not_le.2 GL64.out))⟩⟩)⟩, ⟨pB BK62.out⟩, ⟨pB BK63.out⟩, ⟨pB BK64.out⟩, ⟨by repeat (first | (with_reducible first | exact HK.out | apply Kept.alloc | apply Kept.drewN | apply Kept.drew | refine Kept.setCell ?_ (.inr GW62.out) _ | refine Kept.setCell ?_ (.inr GW63.out) _ | refine Kept.setCell ?_ (.inr GW64.out) _) | exact HK.out)⟩, ⟨pE HB⟩⟩
 case round =>
  clear H'; try clear p2
  obtain ⟨x0_1, x7_1, x8_1, rfl, rfl, HA, HK1, HO_0, BK62, BK63, BK64, HK, HB⟩ := hrel
  cases gk with
  | zero => exact absurd HA.out (by simp [Qe.l0])
  | succ k1 =>
   have H := HA.out; clear HA; simp only [Qe.l0] at H; by_cases c4 : x8_1 ≤ a1
   ·rw [if_pos c4] at H
    have c4b0 : decide (x8_1 ≤ a1) = true := decide_eq_true c4; clear c4; obtain ⟨t101, A5, H⟩ := bi H; have H' := Qa.mk H; clear H; obtain ⟨Ao6, co6, eo6⟩ := Kd.R_slice HO_0.out; subst eo6; go_wp2_with (first | ((with_reducible refine gc 57 rfl ?_); refine gL 18 Try.func57 #[.slice Ao6 x0_1.length co6, .int .i64 x7_1, .int .i64 x8_1, .func (.func 10) #[] #[.pointer (some ⟨B62, 0, none⟩), .pointer (some ⟨B63, 0, none⟩), .pointer (some ⟨B64, 0, none⟩)]] ?_; (with_reducible refine (Qc.calls k1 (fun k_ => some k_ = (.slice Ao6 x0_1.length co6 : Value).ownBlock) (.slice Ao6 x0_1.length co6) x0_1 x7_1 x8_1 B62 a62_0 B63 A63_0 c63_0 l63_0 B64 a64_0 t101 w0 _ ?side1 ?side2 ?side3 ?side4 ?side5 ?side6 ?side7 ?side8 ?side9 ?side10 ?side11 ?side12 ?side13 A5.out).mono ?_); (case side1 => repeat (first | (with_reducible first | exact HB.out | apply QO | apply Ji | apply QM | refine Q3 ?_ GE62.out | refine Q3 ?_ GE63.out | refine Q3 ?_ GE64.out) | exact HB.out)); (case side2 => exact Kd.R_tight rfl HO_0.out); (case side3 => exact pB BK62.out); (case side4 => exact pB BK63.out); (case side5 => exact NB62_63.out); (case side6 => exact Kd.C_kept_call HR63_0.out (by repeat (first | (with_reducible first | exact HK.out | apply Kept.alloc | apply Kept.drewN | apply Kept.drew | refine Kept.setCell ?_ (.inr GW62.out) _ | refine Kept.setCell ?_ (.inr GW63.out) _ | refine Kept.setCell ?_ (.inr GW64.out) _) | exact HK.out)) (fun k_ hs_ => (fun e_ => (HO_0.out.1 k_ e_.symm).1) hs_)); (case side7 => exact HC63_0.out); (case side8 => exact pB BK64.out); (case side9 => exact NB62_64.out); (case side10 => exact NB63_64.out); (case side11 => exact Kd.R_away HO_0.out (fun _ hk => hk.2.1)); (case side12 => exact Kd.R_ne HO_0.out BK63.out (by decide)); (case side13 => exact Kd.R_away HO_0.out (fun _ hk => hk.2.2)); rintro e w7 ⟨rfl, hy0, hb, hkp⟩; refine ⟨_, rfl, ?_⟩; replace BK62 := Qa.mk (Jn (pB BK62.out) hkp (fun hs_ => (fun e_ => (Kd.R_away HO_0.out (fun _ hk => hk.2.1)) e_) hs_)); replace BK63 := Qa.mk (Jn (pB BK63.out) hkp (fun hs_ => (fun e_ => (Kd.R_ne HO_0.out BK63.out (by decide)) e_) hs_)); replace BK64 := Qa.mk (Jn (pB BK64.out) hkp (fun hs_ => (fun e_ => (Kd.R_away HO_0.out (fun _ hk => hk.2.2)) e_) hs_)); replace HK := Qa.mk (Kept.then_ (S := (fun k_ => P0_ k_)) (by repeat (first | (with_reducible first | exact HK.out | apply Kept.alloc | apply Kept.drewN | apply Kept.drew | refine Kept.setCell ?_ (.inr GW62.out) _ | refine Kept.setCell ?_ (.inr GW63.out) _ | refine Kept.setCell ?_ (.inr GW64.out) _) | exact HK.out)) hkp (fun k_ hs_ => (fun e_ => (HO_0.out.1 k_ e_.symm).1) hs_)); replace HO_0 := Qa.mk (Kd.R_reok rfl hy0 (fun k_ e_ => HO_0.out.1 k_ e_)); replace HB := Qa.mk (hb); clear hb hkp hy0))
    go_roundg k1
    case measure => have := HK1.out; omega
    case rel => exact ⟨(t101), (x8_1), (wrap64 (x8_1 + 20)), eS, eS, H', ⟨by have := HK1.out; omega⟩, ⟨by (with_reducible repeat (first | apply Kd.R_alloc | apply Kd.R_drewN | apply Kd.R_drew)); exact HO_0.out⟩, ⟨pB BK62.out⟩, ⟨pB BK63.out⟩, ⟨pB BK64.out⟩, ⟨by repeat (first | (with_reducible first | exact HK.out | apply Kept.alloc | apply Kept.drewN | apply Kept.drew | refine Kept.setCell ?_ (.inr GW62.out) _ | refine Kept.setCell ?_ (.inr GW63.out) _ | refine Kept.setCell ?_ (.inr GW64.out) _) | exact HK.out)⟩, ⟨pE HB⟩⟩
   ·rw [if_neg c4] at H
    have c4b0 : decide (x8_1 ≤ a1) = false := decide_eq_false c4; clear c4; obtain ⟨t102, A8, H⟩ := bi H; have H' := Qa.mk H; clear H; obtain ⟨Ao9, co9, eo9⟩ := Kd.R_slice HO_0.out; subst eo9; go_wp2_with (first | ((with_reducible refine gc 57 rfl ?_); refine gL 27 Try.func57 #[.slice Ao9 x0_1.length co9, .int .i64 x7_1, .int .i64 a1, .func (.func 10) #[] #[.pointer (some ⟨B62, 0, none⟩), .pointer (some ⟨B63, 0, none⟩), .pointer (some ⟨B64, 0, none⟩)]] ?_; (with_reducible refine (Qc.calls k1 (fun k_ => some k_ = (.slice Ao9 x0_1.length co9 : Value).ownBlock) (.slice Ao9 x0_1.length co9) x0_1 x7_1 a1 B62 a62_0 B63 A63_0 c63_0 l63_0 B64 a64_0 t102 w0 _ ?side1 ?side2 ?side3 ?side4 ?side5 ?side6 ?side7 ?side8 ?side9 ?side10 ?side11 ?side12 ?side13 A8.out).mono ?_); (case side1 => repeat (first | (with_reducible first | exact HB.out | apply QO | apply Ji | apply QM | refine Q3 ?_ GE62.out | refine Q3 ?_ GE63.out | refine Q3 ?_ GE64.out) | exact HB.out)); (case side2 => exact Kd.R_tight rfl HO_0.out); (case side3 => exact pB BK62.out); (case side4 => exact pB BK63.out); (case side5 => exact NB62_63.out); (case side6 => exact Kd.C_kept_call HR63_0.out (by repeat (first | (with_reducible first | exact HK.out | apply Kept.alloc | apply Kept.drewN | apply Kept.drew | refine Kept.setCell ?_ (.inr GW62.out) _ | refine Kept.setCell ?_ (.inr GW63.out) _ | refine Kept.setCell ?_ (.inr GW64.out) _) | exact HK.out)) (fun k_ hs_ => (fun e_ => (HO_0.out.1 k_ e_.symm).1) hs_)); (case side7 => exact HC63_0.out); (case side8 => exact pB BK64.out); (case side9 => exact NB62_64.out); (case side10 => exact NB63_64.out); (case side11 => exact Kd.R_away HO_0.out (fun _ hk => hk.2.1)); (case side12 => exact Kd.R_ne HO_0.out BK63.out (by decide)); (case side13 => exact Kd.R_away HO_0.out (fun _ hk => hk.2.2)); rintro e w10 ⟨rfl, hy0, hb, hkp⟩; refine ⟨_, rfl, ?_⟩; replace BK62 := Qa.mk (Jn (pB BK62.out) hkp (fun hs_ => (fun e_ => (Kd.R_away HO_0.out (fun _ hk => hk.2.1)) e_) hs_)); replace BK63 := Qa.mk (Jn (pB BK63.out) hkp (fun hs_ => (fun e_ => (Kd.R_ne HO_0.out BK63.out (by decide)) e_) hs_)); replace BK64 := Qa.mk (Jn (pB BK64.out) hkp (fun hs_ => (fun e_ => (Kd.R_away HO_0.out (fun _ hk => hk.2.2)) e_) hs_)); replace HK := Qa.mk (Kept.then_ (S := (fun k_ => P0_ k_)) (by repeat (first | (with_reducible first | exact HK.out | apply Kept.alloc | apply Kept.drewN | apply Kept.drew | refine Kept.setCell ?_ (.inr GW62.out) _ | refine Kept.setCell ?_ (.inr GW63.out) _ | refine Kept.setCell ?_ (.inr GW64.out) _) | exact HK.out)) hkp (fun k_ hs_ => (fun e_ => (HO_0.out.1 k_ e_.symm).1) hs_)); replace HO_0 := Qa.mk (Kd.R_reok rfl hy0 (fun k_ e_ => HO_0.out.1 k_ e_)); replace HB := Qa.mk (hb); clear hb hkp hy0))
    (try simp only [Act.put, List.setIfInBounds_toArray, List.set_cons_zero, List.set_cons_succ])
    go_loopg [6] k1 (fun kq v6 w' => ∃ (x6_2 : Int), v6 = .int .i64 x6_2 ∧ Qa (Qe.l1 kq t102 a1 x6_2 = some r) ∧ Qa (kq ≤ k1) ∧ Qa (Kd.R (Kd.int .i64) 3 w' w0.heap.size (fun k_ => (P0_ k_ ∨ w.heap.size ≤ k_) ∧ k_ ≠ B62 ∧ k_ ≠ B64) (.slice Ao9 x0_1.length co9) t102) ∧ Qa (w'.heap[B62]? = some (.cells #[.int .i64 a62_0] 3 (0, 0))) ∧ Qa (w'.heap[B63]? = some (.cells #[(.slice A63_0 l63_0.length c63_0)] 24 (0, 0))) ∧ Qa (w'.heap[B64]? = some (.cells #[.int .i64 a64_0] 3 (0, 0))) ∧ Qa (Kept w w' (fun k_ => P0_ k_)) ∧ Qa (Below w0.heap.size w0 w'))
    case atStart => exact ⟨(20), eS, H', ⟨Nat.le_refl _⟩, ⟨by (with_reducible repeat (first | apply Kd.R_alloc | apply Kd.R_drewN | apply Kd.R_drew)); exact HO_0.out⟩, ⟨pB BK62.out⟩, ⟨pB BK63.out⟩, ⟨pB BK64.out⟩, ⟨by repeat (first | (with_reducible first | exact HK.out | apply Kept.alloc | apply Kept.drewN | apply Kept.drew | refine Kept.setCell ?_ (.inr GW62.out) _ | refine Kept.setCell ?_ (.inr GW63.out) _ | refine Kept.setCell ?_ (.inr GW64.out) _) | exact HK.out)⟩, ⟨pE HB⟩⟩
    case round =>
     clear H'; try clear p2
     try clear c4
     try clear c4b0
     try clear c6
     try clear p6
     try clear c7
     try clear p2
     obtain ⟨x6_2, rfl, HA, HK2, HO_0, BK62, BK63, BK64, HK, HB⟩ := hrel; have hl0_2 := (Kd.R_reads' HO_0.out).1; rw [hl0_2] at HO_0
     (try simp only [hl0_2])
     (try simp only [hl0_2] at BK62)
     (try simp only [hl0_2] at BK63)
     (try simp only [hl0_2] at BK64)
     cases gk with
     | zero => exact absurd HA.out (by simp [Qe.l1])
     | succ k2 =>
      have H := HA.out; clear HA; simp only [Qe.l1] at H; by_cases c11 : x6_2 < a1
      ·rw [if_pos c11] at H
       have c11b0 : decide (x6_2 < a1) = true := decide_eq_true c11; clear c11; have H' := Qa.mk H; clear H; go_wp2
       (try simp only [Act.put, List.setIfInBounds_toArray, List.set_cons_zero, List.set_cons_succ])
       go_loopg [7, 8] k2 (fun kq v7 v8 w' => ∃ (x7_3 : Int) (x8_3 : Int), v7 = .int .i64 x7_3 ∧ v8 = .int .i64 x8_3 ∧ Qa (Qe.l2 kq t102 a1 x6_2 x7_3 x8_3 = some r) ∧ Qa (kq ≤ k2) ∧ Qa (Kd.R (Kd.int .i64) 3 w' w0.heap.size (fun k_ => (P0_ k_ ∨ w.heap.size ≤ k_) ∧ k_ ≠ B62 ∧ k_ ≠ B64) (.slice Ao9 t102.length co9) t102) ∧ Qa (w'.heap[B62]? = some (.cells #[.int .i64 a62_0] 3 (0, 0))) ∧ Qa (w'.heap[B63]? = some (.cells #[(.slice A63_0 l63_0.length c63_0)] 24 (0, 0))) ∧ Qa (w'.heap[B64]? = some (.cells #[.int .i64 a64_0] 3 (0, 0))) ∧ Qa (Kept w w' (fun k_ => P0_ k_)) ∧ Qa (Below w0.heap.size w0 w'))
       case atStart => exact ⟨(0), (wrap64 (2 * x6_2)), eS, eS, H', ⟨Nat.le_refl _⟩, ⟨by (try simp only [hl0_2]); (with_reducible repeat (first | apply Kd.R_alloc | apply Kd.R_drewN | apply Kd.R_drew)); exact HO_0.out⟩, ⟨by (try simp only [hl0_2]); (with_reducible repeat (first | refine Qt ?_ _ | refine Qh ?_ | refine blk_alloc ?_ _)); exact BK62.out⟩, ⟨by (try simp only [hl0_2]); (with_reducible repeat (first | refine Qt ?_ _ | refine Qh ?_ | refine blk_alloc ?_ _)); exact BK63.out⟩, ⟨by (try simp only [hl0_2]); (with_reducible repeat (first | refine Qt ?_ _ | refine Qh ?_ | refine blk_alloc ?_ _)); exact BK64.out⟩, ⟨by repeat (first | (with_reducible first | exact HK.out | apply Kept.alloc | apply Kept.drewN | apply Kept.drew | refine Kept.setCell ?_ (.inr GW62.out) _ | refine Kept.setCell ?_ (.inr GW63.out) _ | refine Kept.setCell ?_ (.inr GW64.out) _) | exact HK.out)⟩, ⟨pE HB⟩⟩
       case round =>
        clear H'; try clear c1
        try clear p2
        try clear c4
        try clear c4b0
        try clear c6
        try clear p6
        try clear c7
        try clear c11
        try clear c11b0
        try clear p2
        try clear p6
        obtain ⟨x7_3, x8_3, rfl, rfl, HA, HK3, HO_0, BK62, BK63, BK64, HK, HB⟩ := hrel
        cases gk with
        | zero => exact absurd HA.out (by simp [Qe.l2])
        | succ k3 =>
         have H := HA.out; clear HA; simp only [Qe.l2] at H; by_cases c12 : x8_3 ≤ a1
         ·rw [if_pos c12] at H
          exact absurd H (by simp)
         ·rw [if_neg c12] at H
          have c12b0 : decide (x8_3 ≤ a1) = false := decide_eq_false c12; clear c12; by_cases c13 : (wrap64 (x7_3 + x6_2)) < a1
          ·rw [if_pos c13] at H
           exact absurd H (by simp)
          ·rw [if_neg c13] at H
           have c13b0 : decide ((wrap64 (x7_3 + x6_2)) < a1) = false := decide_eq_false c13; clear c13; have H' := Qa.mk H; clear H; go_wp2
           (try simp only [← hl0_2])
           go_roundg k3
           case measure => have := HK1.out; have := HK2.out; have := HK3.out; omega
           case rel => exact ⟨(wrap64 (x6_2 * 2)), eS, H', ⟨by have := HK1.out; have := HK2.out; have := HK3.out; omega⟩, ⟨by (try simp only [hl0_2]); (with_reducible repeat (first | apply Kd.R_alloc | apply Kd.R_drewN | apply Kd.R_drew)); exact HO_0.out⟩, ⟨by (try simp only [hl0_2]); (with_reducible repeat (first | refine Qt ?_ _ | refine Qh ?_ | refine blk_alloc ?_ _)); exact BK62.out⟩, ⟨by (try simp only [hl0_2]); (with_reducible repeat (first | refine Qt ?_ _ | refine Qh ?_ | refine blk_alloc ?_ _)); exact BK63.out⟩, ⟨by (try simp only [hl0_2]); (with_reducible repeat (first | refine Qt ?_ _ | refine Qh ?_ | refine blk_alloc ?_ _)); exact BK64.out⟩, ⟨by repeat (first | (with_reducible first | exact HK.out | apply Kept.alloc | apply Kept.drewN | apply Kept.drew | refine Kept.setCell ?_ (.inr GW62.out) _ | refine Kept.setCell ?_ (.inr GW63.out) _ | refine Kept.setCell ?_ (.inr GW64.out) _) | exact HK.out)⟩, ⟨pE HB⟩⟩
      ·rw [if_neg c11] at H
       have c11b0 : decide (x6_2 < a1) = false := decide_eq_false c11; clear c11; obtain rfl := Option.some.inj H; go_wp2
       first | go_end0 | ((try simp only [Exit.inBlock, Exit.then]); refine bodyPost_ret (results_none rfl _ _ _) rfl ?_)
       exact ⟨eT, (by first | exact (by refine pR ?_; exact Kd.R_mono HO_0.out (fun _ hk => hk.1)) | (simp only [hl0_2]; exact (by refine pR ?_; exact Kd.R_mono HO_0.out (fun _ hk => hk.1)))), pE HB, by repeat (first | (with_reducible first | exact HK.out | apply Kept.alloc | apply Kept.drewN | apply Kept.drew | refine Kept.setCell ?_ (.inr GW62.out) _ | refine Kept.setCell ?_ (.inr GW63.out) _ | refine Kept.setCell ?_ (.inr GW64.out) _) | exact HK.out)⟩
def Qz.f (k : Nat) (l0 : List Int) (a56_0 : Int) (l57_0 : List Int) (a58_0 : Int) : Option (List Int) := (Qe.f k l0 (l0.length : Int) a56_0 l57_0 a58_0).bind fun t101 => (some t101)
theorem Qz.mono : ∀ a0 a1 a2 a3 k, LeO (Qz.f k a0 a1 a2 a3) (Qz.f (k + 1) a0 a1 a2 a3) := by
 intro a0 a1 a2 a3 k; unfold Qz.f
 repeat' first
   | (with_reducible exact Qe.mono _ _ _ _ _ _)
   | (with_reducible exact LeO.refl _)
   | (with_reducible exact LeO.none _)
   | (with_reducible refine LeO.ite ?_ ?_)
   | (with_reducible refine LeO.bind ?_ (fun _ => ?_))
set_option maxHeartbeats 8000000 in
set_option maxRecDepth 100000 in
theorem Qz.calls (k : Nat) (P0_ : Nat → Prop) (u9000_ : Value) (l0 : List Int) (B56 : Nat) (a56_0 : Int) (B57 : Nat) (A57_0 : Option Addr) (c57_0 : Nat) (l57_0 : List Int) (B58 : Nat) (a58_0 : Int) (r : List Int) (w0 w : World) (hB : Below w0.heap.size w0 w) (ho0 : Kd.R (Kd.int .i64) 3 w w0.heap.size P0_ u9000_ l0) (hb56 : w.heap[B56]? = some (.cells #[.int .i64 a56_0] 3 (0, 0))) (hb57 : w.heap[B57]? = some (.cells #[.slice A57_0 l57_0.length c57_0] 24 (0, 0))) (nb56_57 : B56 ≠ B57) (hr57_0 : ∀ W_, Kept w W_ (fun k_ => P0_ k_) → Kd.C (Kd.int .i64) W_ A57_0 l57_0.length l57_0) (hc57_0 : l57_0.length ≤ c57_0) (hb58 : w.heap[B58]? = some (.cells #[.int .i64 a58_0] 3 (0, 0))) (nb56_58 : B56 ≠ B58) (nb57_58 : B57 ≠ B58) (np0_56 : ¬ P0_ B56) (np0_57 : ¬ P0_ B57) (np0_58 : ¬ P0_ B58) (h : Qz.f k l0 a56_0 l57_0 a58_0 = some r) :
  Calls Try.prog 9 #[u9000_, .func (.func 10) #[] #[.pointer (some ⟨B56, 0, none⟩), .pointer (some ⟨B57, 0, none⟩), .pointer (some ⟨B58, 0, none⟩)]] w fun e w' => e = .returned (.tuple #[]) ∧ Kd.R (Kd.int .i64) 3 w' w0.heap.size (fun k_ => (P0_ k_ ∨ w.heap.size ≤ k_)) u9000_ r ∧ Below w0.heap.size w0 w' ∧ Kept w w' (fun k_ => P0_ k_) := by
 have HO0 := Qa.mk (show Kd.R (Kd.int .i64) 3 w w0.heap.size (fun k_ => (P0_ k_ ∨ w.heap.size ≤ k_)) u9000_ l0 from Kd.R_mono ho0 (fun k_ hk => (.inl hk))); have HR57_0 := Qa.mk hr57_0; have HC57_0 := Qa.mk hc57_0; clear hr57_0 hc57_0; have GL56 := Qa.mk (Jh hb56); have NP56 := Qa.mk np0_56; clear np0_56; have GL57 := Qa.mk (Jh hb57); have NP57 := Qa.mk np0_57; clear np0_57; have GL58 := Qa.mk (Jh hb58); have NP58 := Qa.mk np0_58; clear np0_58; have BK56 := Qa.mk hb56; clear hb56; have BK57 := Qa.mk hb57; clear hb57; have NB56_57 := Qa.mk nb56_57; have NB57_56 := Qa.mk nb56_57.symm; clear nb56_57; have BK58 := Qa.mk hb58; clear hb58; have NB56_58 := Qa.mk nb56_58; have NB58_56 := Qa.mk nb56_58.symm; clear nb56_58; have NB57_58 := Qa.mk nb57_58; have NB58_57 := Qa.mk nb57_58.symm; clear nb57_58; have HK := Qa.mk (Kept.refl w (fun k_ => P0_ k_)); have HW0 := Qa.mk hB.size; have HB := Qa.mk hB; clear hB; have H : ((Qe.f k l0 (l0.length : Int) a56_0 l57_0 a58_0).bind fun t101 => (some t101)) = some r := h; clear h; obtain ⟨t101, A3, H⟩ := bi H; obtain rfl := Option.some.inj H; obtain ⟨Ao4, co4, eo4⟩ := Kd.R_slice HO0.out; subst eo4; go_enter Try.func9, Try.ntmps9; go_wp2_with (first | ((with_reducible refine gc 28 rfl ?_); refine gL 8 Try.func28 #[.slice Ao4 l0.length co4, .int .i64 (l0.length : Int), .func (.func 10) #[] #[.pointer (some ⟨B56, 0, none⟩), .pointer (some ⟨B57, 0, none⟩), .pointer (some ⟨B58, 0, none⟩)]] ?_; (with_reducible refine (Qe.calls k (fun k_ => some k_ = (.slice Ao4 l0.length co4 : Value).ownBlock) (.slice Ao4 l0.length co4) l0 (l0.length : Int) B56 a56_0 B57 A57_0 c57_0 l57_0 B58 a58_0 t101 w0 _ ?side1 ?side2 ?side3 ?side4 ?side5 ?side6 ?side7 ?side8 ?side9 ?side10 ?side11 ?side12 ?side13 A3.out).mono ?_); (case side1 => repeat (first | (with_reducible first | exact HB.out | apply QO | apply Ji | apply QM | refine Q3 ?_ GE56.out | refine Q3 ?_ GE57.out | refine Q3 ?_ GE58.out) | exact HB.out)); (case side2 => exact Kd.R_tight rfl HO0.out); (case side3 => exact pB BK56.out); (case side4 => exact pB BK57.out); (case side5 => exact NB56_57.out); (case side6 => exact Kd.C_kept_call HR57_0.out (by repeat (first | (with_reducible first | exact HK.out | apply Kept.alloc | apply Kept.drewN | apply Kept.drew | refine Kept.setCell ?_ (.inr GW56.out) _ | refine Kept.setCell ?_ (.inr GW57.out) _ | refine Kept.setCell ?_ (.inr GW58.out) _) | exact HK.out)) (fun k_ hs_ => (fun e_ => (HO0.out.1 k_ e_.symm)) hs_)); (case side7 => exact HC57_0.out); (case side8 => exact pB BK58.out); (case side9 => exact NB56_58.out); (case side10 => exact NB57_58.out); (case side11 => exact Kd.R_away HO0.out (fun _ hk => (by have h9_ := hk; intro e9_; rw [e9_] at h9_; exact h9_.elim NP56.out (Nat.not_le.2 GL56.out)))); (case side12 => exact Kd.R_ne HO0.out BK57.out (by decide)); (case side13 => exact Kd.R_away HO0.out (fun _ hk => (by have h9_ := hk; intro e9_; rw [e9_] at h9_; exact h9_.elim NP58.out (Nat.not_le.2 GL58.out)))); rintro e w5 ⟨rfl, hy0, hb, hkp⟩; refine ⟨_, rfl, ?_⟩; replace BK56 := Qa.mk (Jn (pB BK56.out) hkp (fun hs_ => (fun e_ => (Kd.R_away HO0.out (fun _ hk => (by have h9_ := hk; intro e9_; rw [e9_] at h9_; exact h9_.elim NP56.out (Nat.not_le.2 GL56.out)))) e_) hs_)); replace BK57 := Qa.mk (Jn (pB BK57.out) hkp (fun hs_ => (fun e_ => (Kd.R_ne HO0.out BK57.out (by decide)) e_) hs_)); replace BK58 := Qa.mk (Jn (pB BK58.out) hkp (fun hs_ => (fun e_ => (Kd.R_away HO0.out (fun _ hk => (by have h9_ := hk; intro e9_; rw [e9_] at h9_; exact h9_.elim NP58.out (Nat.not_le.2 GL58.out)))) e_) hs_)); replace HK := Qa.mk (Kept.then_ (S := (fun k_ => P0_ k_)) (by repeat (first | (with_reducible first | exact HK.out | apply Kept.alloc | apply Kept.drewN | apply Kept.drew | refine Kept.setCell ?_ (.inr GW56.out) _ | refine Kept.setCell ?_ (.inr GW57.out) _ | refine Kept.setCell ?_ (.inr GW58.out) _) | exact HK.out)) hkp (fun k_ hs_ => (fun e_ => (HO0.out.1 k_ e_.symm)) hs_)); replace HO0 := Qa.mk (Kd.R_reok rfl hy0 (fun k_ e_ => HO0.out.1 k_ e_)); replace HB := Qa.mk (hb); (try clear hb); (try clear hkp); (try clear hy0)))
 first | go_end0 | ((try simp only [Exit.inBlock, Exit.then]); refine bodyPost_ret (results_none rfl _ _ _) rfl ?_)
 exact ⟨eT, by (with_reducible repeat (first | apply Kd.R_alloc | apply Kd.R_drewN | apply Kd.R_drew)); exact HO0.out, pE HB, by repeat (first | (with_reducible first | exact HK.out | apply Kept.alloc | apply Kept.drewN | apply Kept.drew | refine Kept.setCell ?_ (.inr GW56.out) _ | refine Kept.setCell ?_ (.inr GW57.out) _ | refine Kept.setCell ?_ (.inr GW58.out) _) | exact HK.out)⟩
def QH.l0 : Nat → Int → List Int → Int → Int → Option Int
 | 0, _, _, _, _ => none
 | k + 1, x2, x5, x6, x7 => if x7 < x6 then (if 0 ≤ x7 then (if x7 < (x5.length : Int) then (QH.l0 k (wrap64 (x2 + (rd x5 x7))) x5 x6 (wrap64 (x7 + 1))) else (none)) else (none)) else (some x2)
def QH.f (k : Nat) (l0 : List Int) : Option Int := QH.l0 k 0 l0 (l0.length : Int) 0
theorem QH.mono_l : ∀ k, (∀ y0 y1 y2 y3, LeO (QH.l0 k y0 y1 y2 y3) (QH.l0 (k + 1) y0 y1 y2 y3))
 | 0 => fun _ _ _ _ r h => by simp [QH.l0] at h
 | k + 1 => by
  have ih0 := QH.mono_l k
  ·intro y0 y1 y2 y3
   unfold QH.l0
   repeat' first
   | (with_reducible exact ih0 _ _ _ _)
   | (with_reducible exact LeO.refl _)
   | (with_reducible exact LeO.none _)
   | (with_reducible refine LeO.ite ?_ ?_)
   | (with_reducible refine LeO.bind ?_ (fun _ => ?_))
theorem QH.mono : ∀ a0 k, LeO (QH.f k a0) (QH.f (k + 1) a0) := by
 intro a0 k; have ih0 := QH.mono_l k; unfold QH.f
 repeat' first
   | (with_reducible exact ih0 _ _ _ _)
   | (with_reducible exact LeO.refl _)
   | (with_reducible exact LeO.none _)
   | (with_reducible refine LeO.ite ?_ ?_)
   | (with_reducible refine LeO.bind ?_ (fun _ => ?_))
set_option maxHeartbeats 8000000 in
set_option maxRecDepth 100000 in
theorem QH.calls (k : Nat) (A0 : Option Addr) (c0 : Nat) (l0 : List Int) (r : Int) (w : World) (hr0 : Kd.C (Kd.int .i64) w A0 l0.length l0) (hc0 : l0.length ≤ c0) (h : QH.f k l0 = some r) :
  Calls Try.prog 8 #[.slice A0 l0.length c0] w fun e w' => e = .returned (.int .i64 r) ∧ JB w w' := by
 have HR0 := Qa.mk hr0; have HC0 := Qa.mk hc0; clear hr0 hc0; have H : (QH.l0 k 0 l0 (l0.length : Int) 0) = some r := h; clear h; have H' := Qa.mk H; clear H; go_enter Try.func8, Try.ntmps8; go_wp2
 go_loopg [2, 7] k (fun kq v2 v7 w' => ∃ (x2_1 : Int) (x7_1 : Int), v2 = .int .i64 x2_1 ∧ v7 = .int .i64 x7_1 ∧ Qa (QH.l0 kq x2_1 l0 (l0.length : Int) x7_1 = some r) ∧ Qa (kq ≤ k) ∧ JB w w')
 case atStart => exact ⟨(0), (0), eS, eS, H', ⟨Nat.le_refl _⟩, dS⟩
 case round =>
  clear H'; obtain ⟨x2_1, x7_1, rfl, rfl, HA, HK1, ⟨m1, rfl⟩⟩ := hrel
  cases gk with
  | zero => exact absurd HA.out (by simp [QH.l0])
  | succ k1 =>
   have H := HA.out; clear HA; simp only [QH.l0] at H; by_cases c2 : x7_1 < (l0.length : Int)
   ·rw [if_pos c2] at H
    have c2b0 : decide (x7_1 < (l0.length : Int)) = true := decide_eq_true c2; clear c2; by_cases c3 : 0 ≤ x7_1
    ·rw [if_pos c3] at H
     have c3b0 : decide (0 ≤ x7_1) = true := decide_eq_true c3; clear c3; by_cases c4 : x7_1 < (l0.length : Int)
     ·rw [if_pos c4] at H
      have c4b0 : decide (x7_1 < (l0.length : Int)) = true := decide_eq_true c4; clear c4; have H' := Qa.mk H; clear H; have p101 : 0 ≤ (x7_1 : Int) := dT; have q101 : x7_1 < (l0.length : Int) := dT; obtain ⟨ad101, e101, hx101_0⟩ := Kd.at_int HR0.out x7_1 p101 q101
      cases e101
      replace p101 := eq_true p101; replace q101 := eq_true q101; go_wp2
      go_roundg k1
      case measure => have := HK1.out; omega
      case rel => exact ⟨(wrap64 (x2_1 + (rd l0 x7_1))), (wrap64 (x7_1 + 1)), eS, eS, H', ⟨by have := HK1.out; omega⟩, dS⟩
     ·rw [if_neg c4] at H
      exact absurd H (by simp)
    ·rw [if_neg c3] at H
     exact absurd H (by simp)
   ·rw [if_neg c2] at H
    have c2b0 : decide (x7_1 < (l0.length : Int)) = false := decide_eq_false c2; clear c2; obtain rfl := Option.some.inj H; go_wp2; go_ret; exact ⟨eS, dS⟩
end Go.Proofs.Ytjaapkkpmegkfaa.P
