/- Part 2 of what the law's proof needs beyond its base: words, walks of functions and plain facts. -/
import Derived.Test.YtjaapkkpmegkfaaGreatJ01
set_option linter.unusedVariables false
set_option linter.unusedSimpArgs false
namespace Go.Proofs.YtjaapkkpmegkfaaGreat.P
open Go.RowKit Go.Proofs.YtjaapkkpmegkfaaGreatW.PrintWords Go.Proofs.YtjaapkkpmegkfaaGreatW.PrintLast Go.Proofs.YtjaapkkpmegkfaaGreatW.PrintMore
attribute [local go_sem] JG JH JY JX Jv Ju JJ JK
def Qa4.f (a0_0 a0_1 a0_2 a0_3 a0_4 : Int) : Option Bool := (J4.f a0_0 a0_1 1 2000).bind fun t102 => (if t102 = true then ((J4.f a0_2 a0_3 0 300).bind fun t103 => (if t103 = true then ((Jp.f a0_4 0 500).bind fun t104 => (some t104)) else (some false))) else (some false))
set_option maxHeartbeats 8000000 in
set_option maxRecDepth 100000 in
theorem Qa4.calls (a0_0 a0_1 a0_2 a0_3 a0_4 : Int) (r : Bool) (w : World) (h : Qa4.f a0_0 a0_1 a0_2 a0_3 a0_4 = some r) :
  Calls Tryz.prog 25 #[.agg #[.int .i64 a0_0, .int .i64 a0_1, .int .i64 a0_2, .int .i64 a0_3, .int .i64 a0_4]] w fun e w' => e = .returned (.bool r) ∧ Below w.heap.size w w' := by
 have hu26 := Tryz.underlying26; have hu24 := Tryz.underlying24; have HB := Qa.mk (Below.refl w.heap.size w); have H : ((J4.f a0_0 a0_1 1 2000).bind fun t102 => (if t102 = true then ((J4.f a0_2 a0_3 0 300).bind fun t103 => (if t103 = true then ((Jp.f a0_4 0 500).bind fun t104 => (some t104)) else (some false))) else (some false))) = some r := h; clear h; obtain ⟨t102, A2, H⟩ := bi H; by_cases c3 : t102 = true
 ·subst c3
  rw [if_pos rfl] at H; obtain ⟨t103, A4, H⟩ := bi H; by_cases c5 : t103 = true
  ·subst c5
   rw [if_pos rfl] at H; obtain ⟨t104, A6, H⟩ := bi H; obtain rfl := Option.some.inj H; go_enter Tryz.func25, Tryz.ntmps25; go_wp2_with (first | (refine bx 1 #[.int .i64 a0_0, .int .i64 a0_1, .int .i64 a0_2, .int .i64 a0_3, .int .i64 a0_4] 26 ?_; intro gb101 hg w7 BK101 hb; have GW101 := gs HB hg; replace HB := bs HB hb; clear hb hg; obtain ⟨_, _, _, _, _, _, _, _, _, _⟩ := cf5 BK101) | ((with_reducible refine gc 76 rfl ?_); refine gL 5 Tryz.func76 #[.agg #[.int .i64 a0_0, .int .i64 a0_1], .int .i64 1, .int .i64 2000] ?_; (with_reducible refine (J4.calls a0_0 a0_1 1 2000 true _ A2.out).mono ?_); rintro e w9 ⟨rfl, hb⟩; refine ⟨_, rfl, ?_⟩; replace BK101 := bb BK101 hb; replace HB := bs HB hb; clear hb; obtain ⟨_, _, _, _, _, _, _, _, _, _⟩ := cf5 BK101) | (go_at_call 76; (with_reducible refine (J4.calls a0_2 a0_3 0 300 true _ A4.out).mono ?_); rintro e w11 ⟨rfl, hb⟩; replace BK101 := bb BK101 hb; replace HB := bs HB hb; (try clear hb); (try clear hb2); (try clear hk); (try clear hi); obtain ⟨_, _, _, _, _, _, _, _, _, _⟩ := cf5 BK101) | (go_at_call 36; (with_reducible refine (Jp.calls a0_4 0 500 t104 _ A6.out).mono ?_); rintro e w' ⟨rfl, ⟨nd, rfl⟩⟩)); go_ret; exact ⟨eT, pE HB⟩
  ·replace c5 := Bool.eq_false_iff.mpr c5
   subst c5; rw [if_neg (show ¬ (false = true) by decide)] at H; obtain rfl := Option.some.inj H; go_enter Tryz.func25, Tryz.ntmps25; go_wp2_with (first | (refine bx 1 #[.int .i64 a0_0, .int .i64 a0_1, .int .i64 a0_2, .int .i64 a0_3, .int .i64 a0_4] 26 ?_; intro gb101 hg w13 BK101 hb; have GW101 := gs HB hg; replace HB := bs HB hb; clear hb hg; obtain ⟨_, _, _, _, _, _, _, _, _, _⟩ := cf5 BK101) | ((with_reducible refine gc 76 rfl ?_); refine gL 5 Tryz.func76 #[.agg #[.int .i64 a0_0, .int .i64 a0_1], .int .i64 1, .int .i64 2000] ?_; (with_reducible refine (J4.calls a0_0 a0_1 1 2000 true _ A2.out).mono ?_); rintro e w15 ⟨rfl, hb⟩; refine ⟨_, rfl, ?_⟩; replace BK101 := bb BK101 hb; replace HB := bs HB hb; clear hb; obtain ⟨_, _, _, _, _, _, _, _, _, _⟩ := cf5 BK101) | (go_at_call 76; (with_reducible refine (J4.calls a0_2 a0_3 0 300 false _ A4.out).mono ?_); rintro e w17 ⟨rfl, hb⟩; replace BK101 := bb BK101 hb; replace HB := bs HB hb; (try clear hb); (try clear hb2); (try clear hk); (try clear hi))); go_ret; exact ⟨eT, pE HB⟩
 ·replace c3 := Bool.eq_false_iff.mpr c3
  subst c3; rw [if_neg (show ¬ (false = true) by decide)] at H; obtain rfl := Option.some.inj H; go_enter Tryz.func25, Tryz.ntmps25; go_wp2_with (first | (refine bx 1 #[.int .i64 a0_0, .int .i64 a0_1, .int .i64 a0_2, .int .i64 a0_3, .int .i64 a0_4] 26 ?_; intro gb101 hg w18 BK101 hb; have GW101 := gs HB hg; replace HB := bs HB hb; clear hb hg; obtain ⟨_, _, _, _, _, _, _, _, _, _⟩ := cf5 BK101) | ((with_reducible refine gc 76 rfl ?_); refine gL 5 Tryz.func76 #[.agg #[.int .i64 a0_0, .int .i64 a0_1], .int .i64 1, .int .i64 2000] ?_; (with_reducible refine (J4.calls a0_0 a0_1 1 2000 false _ A2.out).mono ?_); rintro e w20 ⟨rfl, hb⟩; refine ⟨_, rfl, ?_⟩; replace BK101 := bb BK101 hb; replace HB := bs HB hb; clear hb)); go_ret; exact ⟨eT, pE HB⟩
def Qa0.f (a0 a1 : Int) : Option Int := if (wrap64 ((wrap64 (Int.tdiv (wrap64 (a0 * a1)) 1000)) * 1000)) < (wrap64 (a0 * a1)) then (some (wrap64 ((wrap64 (Int.tdiv (wrap64 (a0 * a1)) 1000)) + 1))) else (some (wrap64 (Int.tdiv (wrap64 (a0 * a1)) 1000)))
set_option maxHeartbeats 8000000 in
set_option maxRecDepth 100000 in
theorem Qa0.calls (a0 a1 r : Int) (w : World) (h : Qa0.f a0 a1 = some r) :
  Calls Tryz.prog 77 #[.int .i64 a0, .int .i64 a1] w fun e w' => e = .returned (.int .i64 r) ∧ JB w w' := by
 have H : (if (wrap64 ((wrap64 (Int.tdiv (wrap64 (a0 * a1)) 1000)) * 1000)) < (wrap64 (a0 * a1)) then (some (wrap64 ((wrap64 (Int.tdiv (wrap64 (a0 * a1)) 1000)) + 1))) else (some (wrap64 (Int.tdiv (wrap64 (a0 * a1)) 1000)))) = some r := h; clear h; by_cases c3 : (wrap64 ((wrap64 (Int.tdiv (wrap64 (a0 * a1)) 1000)) * 1000)) < (wrap64 (a0 * a1))
 ·rw [if_pos c3] at H
  have c3b0 : decide ((wrap64 ((wrap64 (Int.tdiv (wrap64 (a0 * a1)) 1000)) * 1000)) < (wrap64 (a0 * a1))) = true := decide_eq_true c3; clear c3; obtain rfl := Option.some.inj H; go_enter Tryz.func77, Tryz.ntmps77; go_wp2; go_ret; exact ⟨eS, dS⟩
 ·rw [if_neg c3] at H
  have c3b0 : decide ((wrap64 ((wrap64 (Int.tdiv (wrap64 (a0 * a1)) 1000)) * 1000)) < (wrap64 (a0 * a1))) = false := decide_eq_false c3; clear c3; obtain rfl := Option.some.inj H; go_enter Tryz.func77, Tryz.ntmps77; go_wp2; go_ret; exact ⟨eS, dS⟩
def Qay.f (a0_0 a0_1 a0_2 a0_3 a0_4 : Int) : Option (Int × Int) := (Qa0.f a0_0 a0_2).bind fun t103 => ((Qa0.f a0_1 a0_3).bind fun t104 => (some (t103, t104)))
def Qay.T1 : Bool × List (List Nat × List Nat) := (true, [([], []), ([0], [0]), ([1], [1]), ([], []), ([3], [3]), ([4], [4]), ([2, 5], [2, 5]), ([], []), ([7], [7]), ([8], [8]), ([], []), ([10], [10]), ([11], [11]), ([9, 12, 6], [9, 12]), ([6, 13], [6, 13]), ([14, 13, 0, 1, 2, 3, 4, 5, 6, 7, 8, 9, 10, 11, 12, 13, 14], [14])])
def Qay.B1 : List Nat := [0, 1, 3, 0, 8, 24, 63, 0, 128, 384, 0, 1024, 3072, 8191, 16383, 32767]
theorem Qay.tab1 : rtab .any (ZG Tryz.f26 1) = Qay.T1 := by kernel_rfl
theorem Qay.bits1 : J0 Qay.T1.2 Qay.B1 = true := by kernel_rfl
set_option maxHeartbeats 8000000 in
set_option maxRecDepth 100000 in
theorem Qay.calls (a0_0 a0_1 a0_2 a0_3 a0_4 r1 r2 : Int) (w : World) (h : Qay.f a0_0 a0_1 a0_2 a0_3 a0_4 = some (r1, r2)) :
  Calls Tryz.prog 26 #[.agg #[.int .i64 a0_0, .int .i64 a0_1, .int .i64 a0_2, .int .i64 a0_3, .int .i64 a0_4]] w fun e w' => e = .returned (.agg #[.int .i64 r1, .int .i64 r2]) ∧ Below w.heap.size w w' := by
 have hu26 := Tryz.underlying26; have hu24 := Tryz.underlying24; have HB := Qa.mk (Below.refl w.heap.size w); have H : ((Qa0.f a0_0 a0_2).bind fun t103 => ((Qa0.f a0_1 a0_3).bind fun t104 => (some (t103, t104)))) = some (r1, r2) := h; clear h; obtain ⟨t103, A2, H⟩ := bi H; obtain ⟨t104, A3, H⟩ := bi H; simp only [Option.some.injEq, Prod.mk.injEq] at H; obtain ⟨rfl, rfl⟩ := H; go_enter Tryz.func26, Tryz.ntmps26
 try go_wp2_with (first | (refine bx 1 #[.int .i64 a0_0, .int .i64 a0_1, .int .i64 a0_2, .int .i64 a0_3, .int .i64 a0_4] 26 ?_; intro gb101 hg w4 BK101 hb; have GW101 := gs HB hg; replace HB := bs HB hb; clear hb hg) | (refine bx 2 #[.int .i64 0, .int .i64 0] 24 ?_; intro gb102 hg w5 BK102 hb; have GW102 := gs HB hg; replace HB := bs HB hb; have NB101_102 := nl BK101 hg; have NB102_101 := nr BK101 hg; replace BK101 := bb BK101 hb; clear hb hg))
 replace BK101 := Qa.mk (Qh BK101.out); replace BK102 := Qa.mk (Qh BK102.out); replace HB := Qa.mk (QM HB.out); refine JS (n := 16) (S := fun w' => w'.cell? ⟨gb101, 0, none⟩ = some (.int .i64 a0_0) ∧ w'.cell? ⟨gb101, 1, none⟩ = some (.int .i64 a0_1) ∧ w'.cell? ⟨gb101, 2, none⟩ = some (.int .i64 a0_2) ∧ w'.cell? ⟨gb101, 3, none⟩ = some (.int .i64 a0_3) ∧ w'.cell? ⟨gb101, 4, none⟩ = some (.int .i64 a0_4)) (ds := []) #[false, false, false, false, false, false, false, false, false, false, false, false, false, false, false, false] (by kernel_rfl) rfl rfl ⟨cz0 BK101, cz1 BK101, cz2 BK101, cz3 BK101, cz4 BK101⟩ (fun hHeld => ?_); refine Jk Qay.tab1 Qay.bits1 (fun HT_ HW_ => ?_); generalize w5.drew = w6 at BK101 BK102 HB hHeld ⊢; refine pu 0 3 ?_; refine pu 1 4 ?_; refine pu 3 6 ?_; refine pu 4 7 ?_; refine pu 7 10 ?_; refine pu 8 11 ?_; refine pu 10 13 ?_; refine pu 11 14 ?_; refine tk 2 5 hHeld ?_; refine tk 5 8 hHeld ?_; refine tk 9 12 hHeld ?_; refine tk 12 15 hHeld ?_; refine on 6 (fun K hK => ?_); refine gO Tryz.func77 #[.int .i64 a0_0, .int .i64 a0_2] ?_
 with_reducible refine (Qa0.calls a0_0 a0_2 t103 _ A2.out).mono ?_
 rintro e w' ⟨rfl, ⟨nd, rfl⟩⟩; refine ⟨_, rfl, ?_⟩; refine hK.out _ _ ⟨cz0 BK101, cz1 BK101, cz2 BK101, cz3 BK101, cz4 BK101⟩ (fun hHeld => ?_); clear hK K; refine QY (a' := ?_) ?_ ?_
 rotate_left
 ·show Act.put _ (some 9) _ = _
  simp only [Act.put, List.setIfInBounds_toArray, List.set_cons_zero, List.set_cons_succ, QR, QU]; rfl
 refine on 13 (fun K hK => ?_); refine gO Tryz.func77 #[.int .i64 a0_1, .int .i64 a0_3] ?_
 with_reducible refine (Qa0.calls a0_1 a0_3 t104 _ A3.out).mono ?_
 rintro e w' ⟨rfl, ⟨nd, rfl⟩⟩; refine ⟨_, rfl, ?_⟩; refine hK.out _ _ ⟨cz0 BK101, cz1 BK101, cz2 BK101, cz3 BK101, cz4 BK101⟩ (fun hHeld => ?_); clear hK K; refine QY (a' := ?_) ?_ ?_
 rotate_left
 ·show Act.put _ (some 16) _ = _
  simp only [Act.put, List.setIfInBounds_toArray, List.set_cons_zero, List.set_cons_succ, QR, QU]; rfl
 refine pu 14 17 ?_; refine on 15 (fun K hK => ?_); have hs7 : w6.cell? ⟨gb102, 0, none⟩ = some (.int .i64 0) := (Qb BK102.out 0).trans rfl; have hfs7 := Qq BK102.out 0; have hns7_0 := NB101_102.out; have hms7_0 := NB102_101.out; have hs8 : w6.cell? ⟨gb102, 1, none⟩ = some (.int .i64 0) := (Qb BK102.out 1).trans rfl; have hfs8 := Qq BK102.out 1; have hns8_0 := NB101_102.out; have hms8_0 := NB102_101.out; refine Z7 (w1 := ?_) (by rfl) rfl ?_ ?_
 rotate_left
 ·go_simp
  rfl
 refine hK.out _ _ ⟨((QW (p := ⟨gb102, _, none⟩) NB101_102.out _).trans (((QW (p := ⟨gb102, _, none⟩) NB101_102.out _).trans (hHeld.1)))), ((QW (p := ⟨gb102, _, none⟩) NB101_102.out _).trans (((QW (p := ⟨gb102, _, none⟩) NB101_102.out _).trans (hHeld.2.1)))), ((QW (p := ⟨gb102, _, none⟩) NB101_102.out _).trans (((QW (p := ⟨gb102, _, none⟩) NB101_102.out _).trans (hHeld.2.2.1)))), ((QW (p := ⟨gb102, _, none⟩) NB101_102.out _).trans (((QW (p := ⟨gb102, _, none⟩) NB101_102.out _).trans (hHeld.2.2.2.1)))), ((QW (p := ⟨gb102, _, none⟩) NB101_102.out _).trans (((QW (p := ⟨gb102, _, none⟩) NB101_102.out _).trans (hHeld.2.2.2.2))))⟩ (fun hHeld => ?_); clear hK K; refine JD (JM HT_.out (by kernel_rfl)) ?_
 try go_wp2
 refine bodyPost_ret (results_cell_row rfl _ _ gb102 24 #[.int .i64 t103, .int .i64 t104] (0, 0) _ rfl (by refine pB ?_; refine Qg (cs := #[.int .i64 t103, .int .i64 0]) ?_ 1 _ rfl; refine pB ?_; refine Qg (cs := #[.int .i64 0, .int .i64 0]) ?_ 0 _ rfl; (with_reducible repeat (first | refine Qt ?_ _ | refine Qh ?_ | refine Qap ?_ _)); exact BK102.out) Tryz.underlying24 rfl (by kernel_rfl)) rfl ?_; exact ⟨eT, pE HB⟩
def Qba.f (k : Nat) (l0 : List S100) (a1_0 a1_1 a1_2 a1_3 a1_4 : Int) : Option Int := (Qau.f k l0).bind fun t102 => (if t102 = 0 then ((Qa4.f a1_0 a1_1 a1_2 a1_3 a1_4).bind fun t103 => (if t103 = true then (some 0) else (some 3))) else (some t102))
set_option maxHeartbeats 8000000 in
set_option maxRecDepth 100000 in
theorem Qba.calls (k : Nat) (A0 : Option Addr) (c0 : Nat) (l0 : List S100) (a1_0 a1_1 a1_2 a1_3 a1_4 r : Int) (w : World) (hr0 : Kd.C k100 w A0 l0.length l0) (hc0 : l0.length ≤ c0) (h : Qba.f k l0 a1_0 a1_1 a1_2 a1_3 a1_4 = some r) :
  Calls Tryz.prog 27 #[.slice A0 l0.length c0, .agg #[.int .i64 a1_0, .int .i64 a1_1, .int .i64 a1_2, .int .i64 a1_3, .int .i64 a1_4]] w fun e w' => e = .returned (.int .i64 r) ∧ Below w.heap.size w w' := by
 have hu26 := Tryz.underlying26; have HR0 := Qa.mk hr0; have HC0 := Qa.mk hc0; clear hr0 hc0; have HB := Qa.mk (Below.refl w.heap.size w); have H : ((Qau.f k l0).bind fun t102 => (if t102 = 0 then ((Qa4.f a1_0 a1_1 a1_2 a1_3 a1_4).bind fun t103 => (if t103 = true then (some 0) else (some 3))) else (some t102))) = some r := h; clear h; obtain ⟨t102, A3, H⟩ := bi H; by_cases c4 : t102 = 0
 ·rw [if_pos c4] at H
  have c4b0 : (t102 == 0) = true := beq_iff_eq.mpr c4; have c4b1 : (t102 != 0) = false := bne_eq_false_iff_eq.mpr c4; clear c4; obtain ⟨t103, A5, H⟩ := bi H; by_cases c6 : t103 = true
  ·subst c6
   rw [if_pos rfl] at H; obtain rfl := Option.some.inj H; go_enter Tryz.func27, Tryz.ntmps27; go_wp2_with (first | (refine bx 3 #[.int .i64 a1_0, .int .i64 a1_1, .int .i64 a1_2, .int .i64 a1_3, .int .i64 a1_4] 26 ?_; intro gb101 hg w7 BK101 hb; have GW101 := gs HB hg; replace HB := bs HB hb; clear hb hg) | ((with_reducible refine gc 24 rfl ?_); refine gL 7 Tryz.func24 #[.slice A0 l0.length c0] ?_; (with_reducible refine (Qau.calls k _ _ l0 t102 _ ?side1 ?side2 A3.out).mono ?_); (case side1 => exact pC (Kd.C_below HR0.out HB.out)); (case side2 => exact HC0.out); rintro e w8 ⟨rfl, hb⟩; refine ⟨_, rfl, ?_⟩; replace BK101 := bb BK101 hb; replace HB := bs HB hb; clear hb; obtain ⟨_, _, _, _, _, _, _, _, _, _⟩ := cf5 BK101) | ((with_reducible refine gc 25 rfl ?_); refine gL 12 Tryz.func25 #[.agg #[.int .i64 a1_0, .int .i64 a1_1, .int .i64 a1_2, .int .i64 a1_3, .int .i64 a1_4]] ?_; (with_reducible refine (Qa4.calls a1_0 a1_1 a1_2 a1_3 a1_4 true _ A5.out).mono ?_); rintro e w10 ⟨rfl, hb⟩; refine ⟨_, rfl, ?_⟩; replace BK101 := bb BK101 hb; replace HB := bs HB hb; clear hb)); go_ret; exact ⟨eT, pE HB⟩
  ·replace c6 := Bool.eq_false_iff.mpr c6
   subst c6; rw [if_neg (show ¬ (false = true) by decide)] at H; obtain rfl := Option.some.inj H; go_enter Tryz.func27, Tryz.ntmps27; go_wp2_with (first | (refine bx 3 #[.int .i64 a1_0, .int .i64 a1_1, .int .i64 a1_2, .int .i64 a1_3, .int .i64 a1_4] 26 ?_; intro gb101 hg w11 BK101 hb; have GW101 := gs HB hg; replace HB := bs HB hb; clear hb hg) | ((with_reducible refine gc 24 rfl ?_); refine gL 7 Tryz.func24 #[.slice A0 l0.length c0] ?_; (with_reducible refine (Qau.calls k _ _ l0 t102 _ ?side1 ?side2 A3.out).mono ?_); (case side1 => exact pC (Kd.C_below HR0.out HB.out)); (case side2 => exact HC0.out); rintro e w12 ⟨rfl, hb⟩; refine ⟨_, rfl, ?_⟩; replace BK101 := bb BK101 hb; replace HB := bs HB hb; clear hb; obtain ⟨_, _, _, _, _, _, _, _, _, _⟩ := cf5 BK101) | ((with_reducible refine gc 25 rfl ?_); refine gL 12 Tryz.func25 #[.agg #[.int .i64 a1_0, .int .i64 a1_1, .int .i64 a1_2, .int .i64 a1_3, .int .i64 a1_4]] ?_; (with_reducible refine (Qa4.calls a1_0 a1_1 a1_2 a1_3 a1_4 false _ A5.out).mono ?_); rintro e w14 ⟨rfl, hb⟩; refine ⟨_, rfl, ?_⟩; replace BK101 := bb BK101 hb; replace HB := bs HB hb; clear hb)); go_ret; exact ⟨eT, pE HB⟩
 ·rw [if_neg c4] at H
  have c4b0 : (t102 == 0) = false := beq_eq_false_iff_ne.mpr c4; have c4b1 : (t102 != 0) = true := bne_iff_ne.mpr c4; obtain rfl := Option.some.inj H; go_enter Tryz.func27, Tryz.ntmps27; go_wp2_with (first | (refine bx 3 #[.int .i64 a1_0, .int .i64 a1_1, .int .i64 a1_2, .int .i64 a1_3, .int .i64 a1_4] 26 ?_; intro gb101 hg w15 BK101 hb; have GW101 := gs HB hg; replace HB := bs HB hb; clear hb hg) | ((with_reducible refine gc 24 rfl ?_); refine gL 7 Tryz.func24 #[.slice A0 l0.length c0] ?_; (with_reducible refine (Qau.calls k _ _ l0 t102 _ ?side1 ?side2 A3.out).mono ?_); (case side1 => exact pC (Kd.C_below HR0.out HB.out)); (case side2 => exact HC0.out); rintro e w16 ⟨rfl, hb⟩; refine ⟨_, rfl, ?_⟩; replace BK101 := bb BK101 hb; replace HB := bs HB hb; clear hb)); go_ret; exact ⟨eT, pE HB⟩
def Qas.l0 : Nat → List S100 → List Int → Int → Int → Int → Option (Int × Int)
 | 0, _, _, _, _, _ => none
 | k + 1, x0, x2, x9, x107000, x107001 => if x9 < (x0.length : Int) then (if 0 ≤ x9 then (if x9 < (x2.length : Int) then (Qas.l0 k x0 x2 (wrap64 (x9 + 1)) (wrap64 (x107000 + (wrap64 ((rd x2 x9) * ((Qf x0 x9).f0.f0))))) (wrap64 (x107001 + (wrap64 ((rd x2 x9) * ((Qf x0 x9).f0.f1)))))) else (none)) else (none)) else (some (x107000, x107001))
def Qas.f (k : Nat) (l0 : List S100) (a1_0 a1_1 a1_2 a1_3 a1_4 : Int) (l2 : List Int) : Option (Int × Int) := (Qay.f a1_0 a1_1 a1_2 a1_3 a1_4).bind fun bt103 => (Qas.l0 k l0 l2 0 (wrap64 (-bt103.2)) (wrap64 (-bt103.1)))
def Qas.T6 : Bool × List (List Nat × List Nat) := (true, [([], []), ([0], [0]), ([], []), ([], []), ([2, 3], [2, 3]), ([4], [4]), ([], []), ([], []), ([6, 7], [6, 7]), ([8], [8]), ([9], [9]), ([10], [10]), ([5, 11], [5, 11]), ([1, 12], [1, 12]), ([], []), ([14], [14]), ([], []), ([], []), ([16, 17], [16, 17]), ([18], [18]), ([], []), ([], []), ([20, 21], [20, 21]), ([22], [22]), ([23], [23]), ([24], [24]), ([19, 25], [19, 25]), ([15, 26], [15, 26]), ([13, 27], [13, 27]), ([28, 0, 1, 2, 3, 4, 5, 6, 7, 8, 9, 10, 11, 12, 13, 14, 15, 16, 17, 18, 19, 20, 21, 22, 23, 24, 25, 26, 27, 28], [28])])
def Qas.B6 : List Nat := [0, 1, 0, 0, 12, 28, 0, 0, 192, 448, 960, 1984, 4092, 8191, 0, 16384, 0, 0, 196608, 458752, 0, 0, 3145728, 7340032, 15728640, 32505856, 67043328, 134201344, 268435455, 536870911]
theorem Qas.tab6 : rtab .any (ZG Tryz.f29 6) = Qas.T6 := by kernel_rfl
theorem Qas.bits6 : J0 Qas.T6.2 Qas.B6 = true := by kernel_rfl
set_option maxHeartbeats 8000000 in
set_option maxRecDepth 100000 in
theorem Qas.calls (k : Nat) (A0 : Option Addr) (c0 : Nat) (l0 : List S100) (a1_0 a1_1 a1_2 a1_3 a1_4 : Int) (A2 : Option Addr) (c2 : Nat) (l2 : List Int) (r1 r2 : Int) (w : World) (hr0 : Kd.C k100 w A0 l0.length l0) (hc0 : l0.length ≤ c0) (hr2 : Kd.C (Kd.int .i64) w A2 l2.length l2) (hc2 : l2.length ≤ c2) (h : Qas.f k l0 a1_0 a1_1 a1_2 a1_3 a1_4 l2 = some (r1, r2)) :
  Calls Tryz.prog 29 #[.slice A0 l0.length c0, .agg #[.int .i64 a1_0, .int .i64 a1_1, .int .i64 a1_2, .int .i64 a1_3, .int .i64 a1_4], .slice A2 l2.length c2] w fun e w' => e = .returned (.agg #[.int .i64 r1, .int .i64 r2]) ∧ Below w.heap.size w w' := by
 have hu26 := Tryz.underlying26; have hu24 := Tryz.underlying24; have HR0 := Qa.mk hr0; have HC0 := Qa.mk hc0; clear hr0 hc0; have HR2 := Qa.mk hr2; have HC2 := Qa.mk hc2; clear hr2 hc2; have HB := Qa.mk (Below.refl w.heap.size w); have H : ((Qay.f a1_0 a1_1 a1_2 a1_3 a1_4).bind fun bt103 => (Qas.l0 k l0 l2 0 (wrap64 (-bt103.2)) (wrap64 (-bt103.1)))) = some (r1, r2) := h; clear h; obtain ⟨⟨t103, t104⟩, A4, H⟩ := bi H; have H' := Qa.mk H; clear H; go_enter Tryz.func29, Tryz.ntmps29; go_wp2_with (first | (refine bx 4 #[.int .i64 a1_0, .int .i64 a1_1, .int .i64 a1_2, .int .i64 a1_3, .int .i64 a1_4] 26 ?_; intro gb101 hg w5 BK101 hb; have GW101 := gs HB hg; replace HB := bs HB hb; clear hb hg) | (refine bx 6 #[.int .i64 0, .int .i64 0] 24 ?_; intro gb102 hg w6 BK102 hb; have GW102 := gs HB hg; replace HB := bs HB hb; have NB101_102 := nl BK101 hg; have NB102_101 := nr BK101 hg; replace BK101 := bb BK101 hb; clear hb hg; have hnb7 := NB101_102.out; have hnc7 := NB102_101.out; obtain ⟨hcz8_0, hcz8_1, hcz8_2, hcz8_3, hcz8_4, hfz8_0, hfz8_1, hfz8_2, hfz8_3, hfz8_4⟩ := cf5 BK101) | ((with_reducible refine gc 26 rfl ?_); refine gL 11 Tryz.func26 #[.agg #[.int .i64 a1_0, .int .i64 a1_1, .int .i64 a1_2, .int .i64 a1_3, .int .i64 a1_4]] ?_; (with_reducible refine (Qay.calls a1_0 a1_1 a1_2 a1_3 a1_4 t103 t104 _ A4.out).mono ?_); rintro e w9 ⟨rfl, hb⟩; refine ⟨_, rfl, ?_⟩; replace BK101 := bb BK101 hb; replace BK102 := bb BK102 hb; replace HB := bs HB hb; clear hb) | (refine bx 7 #[.int .i64 0, .int .i64 0] 24 ?_; intro gb105 hg w10 BK105 hb; have GW105 := gs HB hg; replace HB := bs HB hb; have NB101_105 := nl BK101 hg; have NB105_101 := nr BK101 hg; replace BK101 := bb BK101 hb; have NB102_105 := nl BK102 hg; have NB105_102 := nr BK102 hg; replace BK102 := bb BK102 hb; clear hb hg; have hnb11 := NB105_101.out; have hnc11 := NB101_105.out; have hnb12 := NB105_102.out; have hnc12 := NB102_105.out; obtain ⟨hcz13_0, hcz13_1, hfz13_0, hfz13_1⟩ := cf2 BK105) | (refine bx 8 #[.int .i64 0, .int .i64 0] 24 ?_; intro gb106 hg w14 BK106 hb; have GW106 := gs HB hg; replace HB := bs HB hb; have NB101_106 := Qa.mk ((by rw [hg]; exact Nat.ne_of_lt (Jh (g := gb101) (o := .cells #[.int .i64 a1_0, .int .i64 a1_1, .int .i64 a1_2, .int .i64 a1_3, .int .i64 a1_4] 26 (0, 0)) (pF BK101)) : gb101 ≠ gb106)); have NB106_101 := Qa.mk ((by rw [hg]; exact Nat.ne_of_gt (Jh (g := gb101) (o := .cells #[.int .i64 a1_0, .int .i64 a1_1, .int .i64 a1_2, .int .i64 a1_3, .int .i64 a1_4] 26 (0, 0)) (pF BK101)) : gb106 ≠ gb101)); replace BK101 := bf BK101 hb; have NB102_106 := Qa.mk ((by rw [hg]; exact Nat.ne_of_lt (Jh (g := gb102) (o := .cells #[.int .i64 0, .int .i64 0] 24 (0, 0)) (pF BK102)) : gb102 ≠ gb106)); have NB106_102 := Qa.mk ((by rw [hg]; exact Nat.ne_of_gt (Jh (g := gb102) (o := .cells #[.int .i64 0, .int .i64 0] 24 (0, 0)) (pF BK102)) : gb106 ≠ gb102)); replace BK102 := bf BK102 hb; have NB105_106 := Qa.mk ((by rw [hg]; exact Nat.ne_of_lt (Jh (g := gb105) (o := .cells #[.int .i64 t103, .int .i64 t104] 24 (0, 0)) (by refine pB ?_; refine Qg (cs := #[.int .i64 t103, .int .i64 0]) ?_ 1 _ rfl; refine pB ?_; refine Qg (cs := #[.int .i64 0, .int .i64 0]) ?_ 0 _ rfl; (with_reducible repeat (first | refine Qt ?_ _ | refine Qh ?_ | refine Qap ?_ _)); exact BK105.out)) : gb105 ≠ gb106)); have NB106_105 := Qa.mk ((by rw [hg]; exact Nat.ne_of_gt (Jh (g := gb105) (o := .cells #[.int .i64 t103, .int .i64 t104] 24 (0, 0)) (by refine pB ?_; refine Qg (cs := #[.int .i64 t103, .int .i64 0]) ?_ 1 _ rfl; refine pB ?_; refine Qg (cs := #[.int .i64 0, .int .i64 0]) ?_ 0 _ rfl; (with_reducible repeat (first | refine Qt ?_ _ | refine Qh ?_ | refine Qap ?_ _)); exact BK105.out)) : gb106 ≠ gb105)); replace BK105 := Qa.mk (QX (g := gb105) (o := .cells #[.int .i64 t103, .int .i64 t104] 24 (0, 0)) (by refine pB ?_; refine Qg (cs := #[.int .i64 t103, .int .i64 0]) ?_ 1 _ rfl; refine pB ?_; refine Qg (cs := #[.int .i64 0, .int .i64 0]) ?_ 0 _ rfl; (with_reducible repeat (first | refine Qt ?_ _ | refine Qh ?_ | refine Qap ?_ _)); exact BK105.out) hb); clear hb hg; have hnb15 := NB106_101.out; have hnc15 := NB101_106.out; have hnb16 := NB106_102.out; have hnc16 := NB102_106.out; have hnb17 := NB106_105.out; have hnc17 := NB105_106.out; obtain ⟨hcz18_0, hcz18_1, hfz18_0, hfz18_1⟩ := cf2 BK106))
 go_loopg [9] k (fun kq v9 w' => ∃ (x9_1 : Int) (x107000_1 : Int) (x107001_1 : Int), v9 = .int .i64 x9_1 ∧ Qa (Qas.l0 kq l0 l2 x9_1 x107000_1 x107001_1 = some (r1, r2)) ∧ Qa (kq ≤ k) ∧ Qa (w'.heap[gb101]? = some (.cells #[.int .i64 a1_0, .int .i64 a1_1, .int .i64 a1_2, .int .i64 a1_3, .int .i64 a1_4] 26 (0, 0))) ∧ Qa (w'.heap[gb102]? = some (.cells #[.int .i64 0, .int .i64 0] 24 (0, 0))) ∧ Qa (w'.heap[gb105]? = some (.cells #[.int .i64 t103, .int .i64 t104] 24 (0, 0))) ∧ Qa (w'.heap[gb106]? = some (.cells #[.int .i64 x107000_1, .int .i64 x107001_1] 24 (0, 0))) ∧ Qa (Below w.heap.size w w'))
 case atStart => exact ⟨(0), (wrap64 (-t104)), (wrap64 (-t103)), eS, H', ⟨Nat.le_refl _⟩, ⟨pF BK101⟩, ⟨pF BK102⟩, ⟨pF BK105⟩, ⟨by refine pB ?_; refine Qg (cs := #[.int .i64 (wrap64 (-t104)), .int .i64 0]) ?_ 1 _ rfl; refine pB ?_; refine Qg (cs := #[.int .i64 0, .int .i64 0]) ?_ 0 _ rfl; (with_reducible repeat (first | refine Qt ?_ _ | refine Qh ?_ | refine Qap ?_ _)); exact BK106.out⟩, ⟨pE HB⟩⟩
 case round =>
  clear H'
  (try clear c2); (try clear hcz13_0); (try clear hcz13_1); (try clear hcz18_0); (try clear hcz18_1); (try clear hcz8_0); (try clear hcz8_1); (try clear hcz8_2); (try clear hcz8_3); (try clear hcz8_4); (try clear hfz13_0); (try clear hfz13_1); (try clear hfz18_0); (try clear hfz18_1); (try clear hfz8_0); (try clear hfz8_1); (try clear hfz8_2); (try clear hfz8_3); (try clear hfz8_4)
  obtain ⟨x9_1, x107000_1, x107001_1, rfl, HA, HK1, BK101, BK102, BK105, BK106, HB⟩ := hrel
  cases gk with
  | zero => exact absurd HA.out (by simp [Qas.l0])
  | succ k1 =>
   have H := HA.out; clear HA; simp only [Qas.l0] at H; by_cases c19 : x9_1 < (l0.length : Int)
   ·rw [if_pos c19] at H
    have c19b0 : decide (x9_1 < (l0.length : Int)) = true := decide_eq_true c19; clear c19; by_cases c20 : 0 ≤ x9_1
    ·rw [if_pos c20] at H
     have c20b0 : decide (0 ≤ x9_1) = true := decide_eq_true c20; clear c20; by_cases c21 : x9_1 < (l2.length : Int)
     ·rw [if_pos c21] at H
      have c21b0 : decide (x9_1 < (l2.length : Int)) = true := decide_eq_true c21; clear c21; have H' := Qa.mk H; clear H
      try go_wp2
      replace BK101 := Qa.mk (Qh BK101.out); replace BK102 := Qa.mk (Qh BK102.out); replace BK105 := Qa.mk (Qh BK105.out); replace BK106 := Qa.mk (Qh BK106.out); replace HB := Qa.mk (QM HB.out); have p107 : 0 ≤ (x9_1 : Int) := dT; have q107 : x9_1 < (l2.length : Int) := dT; obtain ⟨ad107, e107, hx107_0⟩ := Kd.at_int HR2.out x9_1 p107 q107; have hw107_0 := hx107_0
      cases e107
      replace hx107_0 := cut_ HB hx107_0; replace p107 := eq_true p107; replace q107 := eq_true q107; have p108 : 0 ≤ (x9_1 : Int) := dT; have q108 : x9_1 < (l0.length : Int) := dT; obtain ⟨ad108, e108, hx108_0, hx108_1, hx108_2, hx108_3, hx108_4⟩ := Zf HR0.out x9_1 p108 q108; have hw108_4 := hx108_4; have hw108_3 := hx108_3; have hw108_2 := hx108_2; have hw108_1 := hx108_1; have hw108_0 := hx108_0
      cases e108
      replace hx108_0 := cut_ HB hx108_0; replace hx108_1 := cut_ HB hx108_1; replace hx108_2 := cut_ HB hx108_2; replace hx108_3 := cut_ HB hx108_3; replace hx108_4 := cut_ HB hx108_4; replace p108 := eq_true p108; replace q108 := eq_true q108; have p109 : 0 ≤ (x9_1 : Int) := dT; have q109 : x9_1 < (l2.length : Int) := dT; obtain ⟨ad109, e109, hx109_0⟩ := Kd.at_int HR2.out x9_1 p109 q109; have hw109_0 := hx109_0; obtain rfl : ad107 = ad109 := (by injection e109); replace hx109_0 := cut_ HB hx109_0; replace p109 := eq_true p109; replace q109 := eq_true q109; have p110 : 0 ≤ (x9_1 : Int) := dT; have q110 : x9_1 < (l0.length : Int) := dT; obtain ⟨ad110, e110, hx110_0, hx110_1, hx110_2, hx110_3, hx110_4⟩ := Zf HR0.out x9_1 p110 q110; have hw110_4 := hx110_4; have hw110_3 := hx110_3; have hw110_2 := hx110_2; have hw110_1 := hx110_1; have hw110_0 := hx110_0; obtain rfl : ad108 = ad110 := (by injection e110); replace hx110_0 := cut_ HB hx110_0; replace hx110_1 := cut_ HB hx110_1; replace hx110_2 := cut_ HB hx110_2; replace hx110_3 := cut_ HB hx110_3; replace hx110_4 := cut_ HB hx110_4; replace p110 := eq_true p110; replace q110 := eq_true q110; refine JS (n := 30) (S := fun w' => w'.cell? ⟨gb106, 0, none⟩ = some (.int .i64 x107000_1) ∧ w'.cell? ⟨gb106, 1, none⟩ = some (.int .i64 x107001_1) ∧ w'.cell? (ad107.add (x9_1).toNat) = some (.int .i64 (rd l2 x9_1)) ∧ w'.cell? (ad108.add ((x9_1).toNat * 5)) = some (.int .i64 ((Qf l0 x9_1).f0.f0)) ∧ w'.cell? ⟨(ad108.add ((x9_1).toNat * 5)).block, (ad108.add ((x9_1).toNat * 5)).off + 1, none⟩ = some (.int .i64 ((Qf l0 x9_1).f0.f1)) ∧ w'.cell? ⟨(ad108.add ((x9_1).toNat * 5)).block, (ad108.add ((x9_1).toNat * 5)).off + 2, none⟩ = some (.int .i64 ((Qf l0 x9_1).f1)) ∧ w'.cell? ⟨(ad108.add ((x9_1).toNat * 5)).block, (ad108.add ((x9_1).toNat * 5)).off + 3, none⟩ = some (.int .i64 ((Qf l0 x9_1).f2)) ∧ w'.cell? ⟨(ad108.add ((x9_1).toNat * 5)).block, (ad108.add ((x9_1).toNat * 5)).off + 4, none⟩ = some (.int .i64 ((Qf l0 x9_1).f3)) ∧ w'.cell? (ad107.add (x9_1).toNat) = some (.int .i64 (rd l2 x9_1)) ∧ w'.cell? (ad108.add ((x9_1).toNat * 5)) = some (.int .i64 ((Qf l0 x9_1).f0.f0)) ∧ w'.cell? ⟨(ad108.add ((x9_1).toNat * 5)).block, (ad108.add ((x9_1).toNat * 5)).off + 1, none⟩ = some (.int .i64 ((Qf l0 x9_1).f0.f1)) ∧ w'.cell? ⟨(ad108.add ((x9_1).toNat * 5)).block, (ad108.add ((x9_1).toNat * 5)).off + 2, none⟩ = some (.int .i64 ((Qf l0 x9_1).f1)) ∧ w'.cell? ⟨(ad108.add ((x9_1).toNat * 5)).block, (ad108.add ((x9_1).toNat * 5)).off + 3, none⟩ = some (.int .i64 ((Qf l0 x9_1).f2)) ∧ w'.cell? ⟨(ad108.add ((x9_1).toNat * 5)).block, (ad108.add ((x9_1).toNat * 5)).off + 4, none⟩ = some (.int .i64 ((Qf l0 x9_1).f3))) (ds := [29]) #[false, false, false, false, false, false, false, false, false, false, false, false, false, false, false, false, false, false, false, false, false, false, false, false, false, false, false, false, false, false] (by kernel_rfl) rfl rfl ⟨cz0 BK106, cz1 BK106, ((HB.out.cell (World.block_lt_of_cell? w _ hw107_0)).trans hw107_0), ((HB.out.cell (World.block_lt_of_cell? w _ hw108_0)).trans hw108_0), ((HB.out.cell (World.block_lt_of_cell? w _ hw108_1)).trans hw108_1), ((HB.out.cell (World.block_lt_of_cell? w _ hw108_2)).trans hw108_2), ((HB.out.cell (World.block_lt_of_cell? w _ hw108_3)).trans hw108_3), ((HB.out.cell (World.block_lt_of_cell? w _ hw108_4)).trans hw108_4), ((HB.out.cell (World.block_lt_of_cell? w _ hw109_0)).trans hw109_0), ((HB.out.cell (World.block_lt_of_cell? w _ hw110_0)).trans hw110_0), ((HB.out.cell (World.block_lt_of_cell? w _ hw110_1)).trans hw110_1), ((HB.out.cell (World.block_lt_of_cell? w _ hw110_2)).trans hw110_2), ((HB.out.cell (World.block_lt_of_cell? w _ hw110_3)).trans hw110_3), ((HB.out.cell (World.block_lt_of_cell? w _ hw110_4)).trans hw110_4)⟩ (fun hHeld => ?_); refine Jk Qas.tab6 Qas.bits6 (fun HT_ HW_ => ?_); generalize wr.drew = w22 at BK101 BK102 BK105 BK106 HB hx107_0 hx108_0 hx108_1 hx108_2 hx108_3 hx108_4 hx109_0 hx110_0 hx110_1 hx110_2 hx110_3 hx110_4 hHeld ⊢; refine pu 0 25 ?_; refine pu 2 27 ?_; refine pu 3 28 ?_; refine pu 4 29 ?_; refine pu 6 31 ?_; refine pu 7 32 ?_; refine pu 8 33 ?_; refine pu 9 34 ?_; refine pu 10 35 ?_; refine pu 14 39 ?_; refine pu 16 41 ?_; refine pu 17 42 ?_; refine pu 18 43 ?_; refine pu 20 45 ?_; refine pu 21 46 ?_; refine pu 22 47 ?_; refine pu 23 48 ?_; refine pu 24 49 ?_; refine tk 1 26 hHeld ?_; refine tk 5 30 hHeld ?_; refine tk 11 36 hHeld ?_; refine pu 12 37 ?_; refine pu 13 38 ?_; refine tk 15 40 hHeld ?_; refine tk 19 44 hHeld ?_; refine tk 25 50 hHeld ?_; refine pu 26 51 ?_; refine pu 27 52 ?_; refine pu 28 53 ?_; refine last_ (i := 29) (N := none) #[true, true, true, true, true, true, true, true, true, true, true, true, true, true, true, true, true, true, true, true, true, true, true, true, true, true, true, true, true, true] rfl rfl (X9 HT_.out (by kernel_rfl)) (by decide) (fun K hK => ?_); have hs23 : w22.cell? ⟨gb106, 0, none⟩ = some (.int .i64 x107000_1) := (Qb BK106.out 0).trans rfl; have hfs23 := Qq BK106.out 0; have hns23_0 := NB101_106.out; have hns23_1 := NB102_106.out; have hns23_2 := NB105_106.out; have hms23_0 := NB106_101.out; have hms23_1 := NB106_102.out; have hms23_2 := NB106_105.out; have hs24 : w22.cell? ⟨gb106, 1, none⟩ = some (.int .i64 x107001_1) := (Qb BK106.out 1).trans rfl; have hfs24 := Qq BK106.out 1; have hns24_0 := NB101_106.out; have hns24_1 := NB102_106.out; have hns24_2 := NB105_106.out; have hms24_0 := NB106_101.out; have hms24_1 := NB106_102.out; have hms24_2 := NB106_105.out; refine Z7 (w1 := ?_) (by rfl) rfl ?_ ?_
      rotate_left
      ·go_simp
       rfl
      refine hK.out _ _ ?_; clear hK K; refine JD (JM HT_.out (by kernel_rfl)) ?_
      try go_wp2
      go_roundg k1
      case measure => have := HK1.out; omega
      case rel => exact ⟨(wrap64 (x9_1 + 1)), (wrap64 (x107000_1 + (wrap64 ((rd l2 x9_1) * ((Qf l0 x9_1).f0.f0))))), (wrap64 (x107001_1 + (wrap64 ((rd l2 x9_1) * ((Qf l0 x9_1).f0.f1))))), eS, H', ⟨by have := HK1.out; omega⟩, ⟨pF BK101⟩, ⟨pF BK102⟩, ⟨pF BK105⟩, ⟨by refine pB ?_; refine Qg (cs := #[.int .i64 (wrap64 (x107000_1 + (wrap64 ((rd l2 x9_1) * ((Qf l0 x9_1).f0.f0))))), .int .i64 x107001_1]) ?_ 1 _ rfl; refine pB ?_; refine Qg (cs := #[.int .i64 x107000_1, .int .i64 x107001_1]) ?_ 0 _ rfl; (with_reducible repeat (first | refine Qt ?_ _ | refine Qh ?_ | refine Qap ?_ _)); exact BK106.out⟩, ⟨pE HB⟩⟩
     ·rw [if_neg c21] at H
      exact absurd H (by simp)
    ·rw [if_neg c20] at H
     exact absurd H (by simp)
   ·rw [if_neg c19] at H
    have c19b0 : decide (x9_1 < (l0.length : Int)) = false := decide_eq_false c19; clear c19; simp only [Option.some.injEq, Prod.mk.injEq] at H; obtain ⟨rfl, rfl⟩ := H; have hnb25 := NB106_101.out; have hnc25 := NB101_106.out; have hnb26 := NB106_102.out; have hnc26 := NB102_106.out; have hnb27 := NB106_105.out; have hnc27 := NB105_106.out; obtain ⟨_, _, _, _⟩ := cf2 BK106; have hnb29 := NB102_101.out; have hnc29 := NB101_102.out; have hnb30 := NB102_105.out; have hnc30 := NB105_102.out; obtain ⟨_, _, _, _⟩ := cf2 BK102; go_wp2; refine bodyPost_ret (results_cell_row rfl _ _ gb102 24 #[.int .i64 x107000_1, .int .i64 x107001_1] (0, 0) _ rfl (by refine pB ?_; refine Qg (cs := #[.int .i64 x107000_1, .int .i64 0]) ?_ 1 _ rfl; refine pB ?_; refine Qg (cs := #[.int .i64 0, .int .i64 0]) ?_ 0 _ rfl; (with_reducible repeat (first | refine Qt ?_ _ | refine Qh ?_ | refine Qap ?_ _)); exact BK102.out) Tryz.underlying24 rfl (by kernel_rfl)) rfl ?_; exact ⟨eT, pE HB⟩
def Qaw.l0 : Nat → List S100 → List Int → Int → Int → Option Int
 | 0, _, _, _, _ => none
 | k + 1, x0, x1, x5, x6 => if x6 < (x0.length : Int) then (if 0 ≤ x6 then (if x6 < (x1.length : Int) then (Qaw.l0 k x0 x1 (wrap64 (x5 + (wrap64 ((rd x1 x6) * ((Qf x0 x6).f2))))) (wrap64 (x6 + 1))) else (none)) else (none)) else (some x5)
def Qaw.f (k : Nat) (l0 : List S100) (l1 : List Int) : Option Int := Qaw.l0 k l0 l1 0 0
set_option maxHeartbeats 8000000 in
set_option maxRecDepth 100000 in
theorem Qaw.calls (k : Nat) (A0 : Option Addr) (c0 : Nat) (l0 : List S100) (A1 : Option Addr) (c1 : Nat) (l1 : List Int) (r : Int) (w : World) (hr0 : Kd.C k100 w A0 l0.length l0) (hc0 : l0.length ≤ c0) (hr1 : Kd.C (Kd.int .i64) w A1 l1.length l1) (hc1 : l1.length ≤ c1) (h : Qaw.f k l0 l1 = some r) :
  Calls Tryz.prog 30 #[.slice A0 l0.length c0, .slice A1 l1.length c1] w fun e w' => e = .returned (.int .i64 r) ∧ JB w w' := by
 have HR0 := Qa.mk hr0; have HC0 := Qa.mk hc0; clear hr0 hc0; have HR1 := Qa.mk hr1; have HC1 := Qa.mk hc1; clear hr1 hc1; have H : (Qaw.l0 k l0 l1 0 0) = some r := h; clear h; have H' := Qa.mk H; clear H; go_enter Tryz.func30, Tryz.ntmps30; go_wp2
 repeat (go_quiet (fail); try go_wp2)
 go_loopg [5, 6] k (fun kq v5 v6 w' => ∃ (x5_1 : Int) (x6_1 : Int), v5 = .int .i64 x5_1 ∧ v6 = .int .i64 x6_1 ∧ Qa (Qaw.l0 kq l0 l1 x5_1 x6_1 = some r) ∧ Qa (kq ≤ k) ∧ JB w w')
 case atStart => exact ⟨(0), (0), eS, eS, H', ⟨Nat.le_refl _⟩, dS⟩
 case round =>
  clear H'
  (try clear c1); (try clear p2)
  obtain ⟨x5_1, x6_1, rfl, rfl, HA, HK1, ⟨m1, rfl⟩⟩ := hrel
  cases gk with
  | zero => exact absurd HA.out (by simp [Qaw.l0])
  | succ k1 =>
   have H := HA.out; clear HA; simp only [Qaw.l0] at H; by_cases c3 : x6_1 < (l0.length : Int)
   ·rw [if_pos c3] at H
    have c3b0 : decide (x6_1 < (l0.length : Int)) = true := decide_eq_true c3; clear c3; by_cases c4 : 0 ≤ x6_1
    ·rw [if_pos c4] at H
     have c4b0 : decide (0 ≤ x6_1) = true := decide_eq_true c4; clear c4; by_cases c5 : x6_1 < (l1.length : Int)
     ·rw [if_pos c5] at H
      have c5b0 : decide (x6_1 < (l1.length : Int)) = true := decide_eq_true c5; clear c5; have H' := Qa.mk H; clear H; have p101 : 0 ≤ (x6_1 : Int) := dT; have q101 : x6_1 < (l1.length : Int) := dT; obtain ⟨ad101, e101, hx101_0⟩ := Kd.at_int HR1.out x6_1 p101 q101
      cases e101
      replace p101 := eq_true p101; replace q101 := eq_true q101; have p102 : 0 ≤ (x6_1 : Int) := dT; have q102 : x6_1 < (l0.length : Int) := dT; obtain ⟨ad102, e102, hx102_0, hx102_1, hx102_2, hx102_3, hx102_4⟩ := Zf HR0.out x6_1 p102 q102
      cases e102
      replace p102 := eq_true p102; replace q102 := eq_true q102; go_wp2
      repeat (go_quiet (fail); try go_wp2)
      go_roundg k1
      case measure => have := HK1.out; omega
      case rel => exact ⟨(wrap64 (x5_1 + (wrap64 ((rd l1 x6_1) * ((Qf l0 x6_1).f2))))), (wrap64 (x6_1 + 1)), eS, eS, H', ⟨by have := HK1.out; omega⟩, dS⟩
     ·rw [if_neg c5] at H
      exact absurd H (by simp)
    ·rw [if_neg c4] at H
     exact absurd H (by simp)
   ·rw [if_neg c3] at H
    have c3b0 : decide (x6_1 < (l0.length : Int)) = false := decide_eq_false c3; clear c3; obtain rfl := Option.some.inj H; go_wp2
    repeat (go_quiet (fail); try go_wp2)
    go_ret; exact ⟨eS, dS⟩
def Qax.l0 : Nat → List S100 → List Int → Int → Int → Option Int
 | 0, _, _, _, _ => none
 | k + 1, x0, x1, x5, x6 => if x6 < (x0.length : Int) then (if 0 ≤ x6 then (if x6 < (x1.length : Int) then (Qax.l0 k x0 x1 (wrap64 (x5 + (wrap64 ((rd x1 x6) * ((Qf x0 x6).f1))))) (wrap64 (x6 + 1))) else (none)) else (none)) else (some x5)
def Qax.f (k : Nat) (l0 : List S100) (l1 : List Int) : Option Int := Qax.l0 k l0 l1 0 0
set_option maxHeartbeats 8000000 in
set_option maxRecDepth 100000 in
theorem Qax.calls (k : Nat) (A0 : Option Addr) (c0 : Nat) (l0 : List S100) (A1 : Option Addr) (c1 : Nat) (l1 : List Int) (r : Int) (w : World) (hr0 : Kd.C k100 w A0 l0.length l0) (hc0 : l0.length ≤ c0) (hr1 : Kd.C (Kd.int .i64) w A1 l1.length l1) (hc1 : l1.length ≤ c1) (h : Qax.f k l0 l1 = some r) :
  Calls Tryz.prog 34 #[.slice A0 l0.length c0, .slice A1 l1.length c1] w fun e w' => e = .returned (.int .i64 r) ∧ JB w w' := by
 have HR0 := Qa.mk hr0; have HC0 := Qa.mk hc0; clear hr0 hc0; have HR1 := Qa.mk hr1; have HC1 := Qa.mk hc1; clear hr1 hc1; have H : (Qax.l0 k l0 l1 0 0) = some r := h; clear h; have H' := Qa.mk H; clear H; go_enter Tryz.func34, Tryz.ntmps34; go_wp2
 repeat (go_quiet (fail); try go_wp2)
 go_loopg [5, 6] k (fun kq v5 v6 w' => ∃ (x5_1 : Int) (x6_1 : Int), v5 = .int .i64 x5_1 ∧ v6 = .int .i64 x6_1 ∧ Qa (Qax.l0 kq l0 l1 x5_1 x6_1 = some r) ∧ Qa (kq ≤ k) ∧ JB w w')
 case atStart => exact ⟨(0), (0), eS, eS, H', ⟨Nat.le_refl _⟩, dS⟩
 case round =>
  clear H'
  (try clear c1); (try clear p2)
  obtain ⟨x5_1, x6_1, rfl, rfl, HA, HK1, ⟨m1, rfl⟩⟩ := hrel
  cases gk with
  | zero => exact absurd HA.out (by simp [Qax.l0])
  | succ k1 =>
   have H := HA.out; clear HA; simp only [Qax.l0] at H; by_cases c3 : x6_1 < (l0.length : Int)
   ·rw [if_pos c3] at H
    have c3b0 : decide (x6_1 < (l0.length : Int)) = true := decide_eq_true c3; clear c3; by_cases c4 : 0 ≤ x6_1
    ·rw [if_pos c4] at H
     have c4b0 : decide (0 ≤ x6_1) = true := decide_eq_true c4; clear c4; by_cases c5 : x6_1 < (l1.length : Int)
     ·rw [if_pos c5] at H
      have c5b0 : decide (x6_1 < (l1.length : Int)) = true := decide_eq_true c5; clear c5; have H' := Qa.mk H; clear H; have p101 : 0 ≤ (x6_1 : Int) := dT; have q101 : x6_1 < (l1.length : Int) := dT; obtain ⟨ad101, e101, hx101_0⟩ := Kd.at_int HR1.out x6_1 p101 q101
      cases e101
      replace p101 := eq_true p101; replace q101 := eq_true q101; have p102 : 0 ≤ (x6_1 : Int) := dT; have q102 : x6_1 < (l0.length : Int) := dT; obtain ⟨ad102, e102, hx102_0, hx102_1, hx102_2, hx102_3, hx102_4⟩ := Zf HR0.out x6_1 p102 q102
      cases e102
      replace p102 := eq_true p102; replace q102 := eq_true q102; go_wp2
      repeat (go_quiet (fail); try go_wp2)
      go_roundg k1
      case measure => have := HK1.out; omega
      case rel => exact ⟨(wrap64 (x5_1 + (wrap64 ((rd l1 x6_1) * ((Qf l0 x6_1).f1))))), (wrap64 (x6_1 + 1)), eS, eS, H', ⟨by have := HK1.out; omega⟩, dS⟩
     ·rw [if_neg c5] at H
      exact absurd H (by simp)
    ·rw [if_neg c4] at H
     exact absurd H (by simp)
   ·rw [if_neg c3] at H
    have c3b0 : decide (x6_1 < (l0.length : Int)) = false := decide_eq_false c3; clear c3; obtain rfl := Option.some.inj H; go_wp2
    repeat (go_quiet (fail); try go_wp2)
    go_ret; exact ⟨eS, dS⟩
end Go.Proofs.YtjaapkkpmegkfaaGreat.P
