/- Part 5 of what the law's proof needs beyond its base: words, walks of functions and plain facts. -/
import Derived.Test.YtjaapkkpmegkfaaGreatL04
set_option linter.unusedVariables false
set_option linter.unusedSimpArgs false
namespace Go.Proofs.YtjaapkkpmegkfaaGreat.P
open Go.RowKit Go.Proofs.YtjaapkkpmegkfaaGreatW.PrintWords Go.Proofs.YtjaapkkpmegkfaaGreatW.PrintLast Go.Proofs.YtjaapkkpmegkfaaGreatW.PrintMore
attribute [local go_sem] JG JH JY JX Jv Ju JJ JK
mutual
def Qau.j0 : Nat → Int → List S75 → Bool → Option Int
 | 0, _, _, _ => none
 | k + 1, x0, x1, x15 => if x15 = true then (some 3) else (if (x1.length : Int) > 8 then (some 5) else (Qau.l0 k x0 x1 0))
def Qau.l0 : Nat → Int → List S75 → Int → Option Int
 | 0, _, _, _ => none
 | k + 1, x0, x1, x7 => if x7 < (x1.length : Int) then (if 0 ≤ x7 then ((Qas.f k ((Ql x1 x7).f0) ((Ql x1 x7).f1) ((Ql x1 x7).f2) x0).bind fun t104 => (if t104 = true then (Qau.l0 k x0 x1 (wrap64 (x7 + 1))) else (some 2))) else (none)) else (some 0)
end
def Qau.f (k : Nat) (a0 : Int) (l1 : List S75) (a2 : Int) : Option Int := (Jp.f a0 2 12).bind fun t101 => (if t101 = true then ((Jp.f a2 0 8).bind fun t102 => (Qau.j0 k a0 l1 (!t102))) else (Qau.j0 k a0 l1 true))
set_option maxHeartbeats 8000000 in
set_option maxRecDepth 100000 in
theorem Qau.calls (k : Nat) (a0 : Int) (A1 : Option Addr) (c1 : Nat) (l1 : List S75) (a2 r : Int) (w : World) (hr1 : Kd.C k75 w A1 l1.length l1) (hc1 : l1.length ≤ c1) (h : Qau.f k a0 l1 a2 = some r) :
  Calls Tryz.prog 46 #[.int .i64 a0, .slice A1 l1.length c1, .int .i64 a2] w fun e w' => e = .returned (.int .i64 r) ∧ Below w.heap.size w w' := by
 have hu75 := Tryz.underlying75; have HR1 := Qa.mk hr1; have HC1 := Qa.mk hc1; clear hr1 hc1; have HB := Qa.mk (Below.refl w.heap.size w); have H : ((Jp.f a0 2 12).bind fun t101 => (if t101 = true then ((Jp.f a2 0 8).bind fun t102 => (Qau.j0 k a0 l1 (!t102))) else (Qau.j0 k a0 l1 true))) = some r := h; clear h; have HC4 := Qa.mk H; clear H; go_enter Tryz.func46, Tryz.ntmps46; go_upto_region 1 with (fail)
 go_cut [15] (fun v15 wc => ∃ (kq : Nat) (x15_3 : Bool), v15 = .bool x15_3 ∧ Qa (Qau.j0 kq a0 l1 x15_3 = some r) ∧ Qa (kq ≤ k) ∧ Qa (Below w.heap.size w wc))
 case first =>
  have H := HC4.out; clear HC4; obtain ⟨t101, A5, H⟩ := bi H; by_cases c6 : t101 = true
  ·subst c6
   rw [if_pos rfl] at H; obtain ⟨t102, A7, H⟩ := bi H; have H' := Qa.mk H; clear H; go_wp2_with (first | ((with_reducible refine gc 36 rfl ?_); refine gL 9 Tryz.func36 #[.int .i64 a0, .int .i64 2, .int .i64 12] ?_; (with_reducible refine (Jp.calls a0 2 12 true _ A5.out).mono ?_); rintro e w' ⟨rfl, ⟨nd, rfl⟩⟩; refine ⟨_, rfl, ?_⟩) | (go_at_call 36; (with_reducible refine (Jp.calls a2 0 8 t102 _ A7.out).mono ?_); rintro e w' ⟨rfl, ⟨nd, rfl⟩⟩))
   go_meet
   case rel => exact ⟨_, (!t102), eS, H', ⟨by first | omega | exact Nat.le_refl _⟩, ⟨pE HB⟩⟩
  ·replace c6 := Bool.eq_false_iff.mpr c6
   subst c6; rw [if_neg (show ¬ (false = true) by decide)] at H; have H' := Qa.mk H; clear H; go_wp2_with (first | ((with_reducible refine gc 36 rfl ?_); refine gL 9 Tryz.func36 #[.int .i64 a0, .int .i64 2, .int .i64 12] ?_; (with_reducible refine (Jp.calls a0 2 12 false _ A5.out).mono ?_); rintro e w' ⟨rfl, ⟨nd, rfl⟩⟩; refine ⟨_, rfl, ?_⟩))
   go_meet
   case rel => exact ⟨_, (true), eS, H', ⟨by first | omega | exact Nat.le_refl _⟩, ⟨pE HB⟩⟩
 case rest =>
  clear HC4; try clear c1
  obtain ⟨kq, x15_3, rfl, HA, HJ3, HB⟩ := hcut
  cases kq with
  | zero => exact absurd HA.out (by simp [Qau.j0])
  | succ kj3 =>
   have H := HA.out; clear HA; simp only [Qau.j0] at H; by_cases c8 : x15_3 = true
   ·subst c8
    rw [if_pos rfl] at H; obtain rfl := Option.some.inj H; go_wp2; go_ret; exact ⟨eT, pE HB⟩
   ·replace c8 := Bool.eq_false_iff.mpr c8
    subst c8; rw [if_neg (show ¬ (false = true) by decide)] at H; by_cases c9 : (l1.length : Int) > 8
    ·rw [if_pos c9] at H
     have c9b0 : decide (8 < (l1.length : Int)) = true := decide_eq_true c9; have c9b1 : decide (8 < l1.length) = true := decide_eq_true (by omega); clear c9; obtain rfl := Option.some.inj H; go_wp2; go_ret; exact ⟨eT, pE HB⟩
    ·rw [if_neg c9] at H
     have c9b0 : decide (8 < (l1.length : Int)) = false := decide_eq_false c9; have c9b1 : decide (8 < l1.length) = false := decide_eq_false (by omega); clear c9; have H' := Qa.mk H; clear H; go_wp2
     go_loopg [7] kj3 (fun kq v7 w' => ∃ (x7_2 : Int), v7 = .int .i64 x7_2 ∧ Qa (Qau.l0 kq a0 l1 x7_2 = some r) ∧ Qa (kq ≤ kj3) ∧ Qa (Below w.heap.size w w'))
     case atStart => exact ⟨(0), eS, H', ⟨Nat.le_refl _⟩, ⟨pE HB⟩⟩
     case round =>
      clear H'
      (try clear c8); (try clear c9b0); (try clear c9b1)
      obtain ⟨x7_2, rfl, HA, HK2, HB⟩ := hrel
      cases gk with
      | zero => exact absurd HA.out (by simp [Qau.l0])
      | succ k2 =>
       have H := HA.out; clear HA; simp only [Qau.l0] at H; by_cases c10 : x7_2 < (l1.length : Int)
       ·rw [if_pos c10] at H
        have c10b0 : decide (x7_2 < (l1.length : Int)) = true := decide_eq_true c10; clear c10; by_cases c11 : 0 ≤ x7_2
        ·rw [if_pos c11] at H
         have c11b0 : decide (0 ≤ x7_2) = true := decide_eq_true c11; clear c11; obtain ⟨t104, A12, H⟩ := bi H; by_cases c13 : t104 = true
         ·subst c13
          rw [if_pos rfl] at H; have H' := Qa.mk H; clear H; have p103 : 0 ≤ (x7_2 : Int) := dT; have q103 : x7_2 < (l1.length : Int) := dT; obtain ⟨ad103, A103_0, c103_0, A103_1, c103_1, e103, hx103_0, hx103_1, hx103_2, hl103_0, hi103_0, hl103_1, hi103_1⟩ := Xl HR1.out x7_2 p103 q103
          cases e103
          replace hx103_0 := cut_ HB hx103_0; replace hx103_1 := cut_ HB hx103_1; replace hx103_2 := cut_ HB hx103_2; have HR103_0 := Qa.mk hi103_0; have HC103_0 := Qa.mk hl103_0; clear hi103_0 hl103_0; have HR103_1 := Qa.mk hi103_1; have HC103_1 := Qa.mk hl103_1; clear hi103_1 hl103_1; replace p103 := eq_true p103; replace q103 := eq_true q103; go_wp2_with (first | ((with_reducible refine gc 97 rfl ?_); refine gL 30 Tryz.func97 #[.agg #[.slice A103_0 ((Ql l1 x7_2).f0).length c103_0, .slice A103_1 ((Ql l1 x7_2).f1).length c103_1, .int .i64 ((Ql l1 x7_2).f2)], .int .i64 a0] ?_; (with_reducible refine (Qas.calls k2 _ _ ((Ql l1 x7_2).f0) _ _ ((Ql l1 x7_2).f1) ((Ql l1 x7_2).f2) a0 true _ ?side1 ?side2 ?side3 ?side4 A12.out).mono ?_); (case side1 => exact pC (Kd.C_below HR103_0.out HB.out)); (case side2 => exact HC103_0.out); (case side3 => exact pC (Kd.C_below HR103_1.out HB.out)); (case side4 => exact HC103_1.out); rintro e w14 ⟨rfl, hb⟩; refine ⟨_, rfl, ?_⟩; replace HB := bs HB hb; clear hb))
          go_roundg k2
          case measure => have := HJ3.out; have := HK2.out; omega
          case rel => exact ⟨(wrap64 (x7_2 + 1)), eS, H', ⟨by have := HJ3.out; have := HK2.out; omega⟩, ⟨pE HB⟩⟩
         ·replace c13 := Bool.eq_false_iff.mpr c13
          subst c13; rw [if_neg (show ¬ (false = true) by decide)] at H; obtain rfl := Option.some.inj H; have p103 : 0 ≤ (x7_2 : Int) := dT; have q103 : x7_2 < (l1.length : Int) := dT; obtain ⟨ad103, A103_0, c103_0, A103_1, c103_1, e103, hx103_0, hx103_1, hx103_2, hl103_0, hi103_0, hl103_1, hi103_1⟩ := Xl HR1.out x7_2 p103 q103
          cases e103
          replace hx103_0 := cut_ HB hx103_0; replace hx103_1 := cut_ HB hx103_1; replace hx103_2 := cut_ HB hx103_2; have HR103_0 := Qa.mk hi103_0; have HC103_0 := Qa.mk hl103_0; clear hi103_0 hl103_0; have HR103_1 := Qa.mk hi103_1; have HC103_1 := Qa.mk hl103_1; clear hi103_1 hl103_1; replace p103 := eq_true p103; replace q103 := eq_true q103; go_wp2_with (first | ((with_reducible refine gc 97 rfl ?_); refine gL 30 Tryz.func97 #[.agg #[.slice A103_0 ((Ql l1 x7_2).f0).length c103_0, .slice A103_1 ((Ql l1 x7_2).f1).length c103_1, .int .i64 ((Ql l1 x7_2).f2)], .int .i64 a0] ?_; (with_reducible refine (Qas.calls k2 _ _ ((Ql l1 x7_2).f0) _ _ ((Ql l1 x7_2).f1) ((Ql l1 x7_2).f2) a0 false _ ?side1 ?side2 ?side3 ?side4 A12.out).mono ?_); (case side1 => exact pC (Kd.C_below HR103_0.out HB.out)); (case side2 => exact HC103_0.out); (case side3 => exact pC (Kd.C_below HR103_1.out HB.out)); (case side4 => exact HC103_1.out); rintro e w15 ⟨rfl, hb⟩; refine ⟨_, rfl, ?_⟩; replace HB := bs HB hb; clear hb)); go_ret; exact ⟨eT, pE HB⟩
        ·rw [if_neg c11] at H
         exact absurd H (by simp)
       ·rw [if_neg c10] at H
        have c10b0 : decide (x7_2 < (l1.length : Int)) = false := decide_eq_false c10; clear c10; obtain rfl := Option.some.inj H; go_wp2; go_ret; exact ⟨eT, pE HB⟩
end Go.Proofs.YtjaapkkpmegkfaaGreat.P
namespace Go.Proofs.YtjaapkkpmegkfaaGreat.P
open Go.RowKit Go.Shelf Go.Proofs.YtjaapkkpmegkfaaGreatW.PrintWords Go.Proofs.YtjaapkkpmegkfaaGreatW.PrintLast Go.Proofs.YtjaapkkpmegkfaaGreatW.PrintMore
theorem Qbx (l : List Int) (h : l.length ≤ 100) : Qaw.f l = some l := by
 unfold Qaw.f; simp only [Option.bind_some, List.length_nil, List.nil_append]; rw [if_pos (by omega)]
def okT (n : Int) (t : S75) : Bool := decide (t.f0.length = t.f1.length ∧ 0 < t.f1.length ∧ (∀ x ∈ t.f0 ++ t.f1, 0 ≤ x ∧ x ≤ n - 1) ∧ (t.f0 ++ t.f1).Nodup ∧ 0 ≤ t.f2 ∧ t.f2 ≤ 2)
theorem Qby (n : Int) (t : S75) (hn : 2 ≤ n ∧ n ≤ 12) (h : t.f0.length ≤ 20 ∧ t.f1.length ≤ 20) : J8.f t.f0 t.f1 t.f2 n = some (okT n t) := by
 unfold J8.f okT; rw [if_pos (by omega), w64 (x := n - 1) (by omega)]; by_cases h1 : t.f0.length = t.f1.length ∧ 0 < t.f1.length
 ·rw [if_pos h1, Y1]
  simp only [Option.bind_some]; by_cases h2 : ∀ x ∈ t.f0 ++ t.f1, 0 ≤ x ∧ x ≤ n - 1
  ·rw [if_pos (by rw [List.all_eq_true]; exact fun x hx => decide_eq_true (h2 x hx))]
   by_cases h3 : (t.f0 ++ t.f1).Nodup
   ·rw [if_pos h3, Y1]
    congr 1
    simp only [List.all_cons, List.all_nil, Bool.and_true]; exact decide_eq_decide.2 ⟨fun g => ⟨h1.1, h1.2, h2, h3, g⟩, fun g => g.2.2.2.2⟩
   ·rw [if_neg h3]
    congr 1; symm; rw [decide_eq_false_iff_not]
    exact fun g => h3 g.2.2.2.1
  ·rw [if_neg (by
    rw [List.all_eq_true]; exact fun g => h2 fun x hx => of_decide_eq_true (g x hx))]
   congr 1; symm; rw [decide_eq_false_iff_not]
   exact fun g => h2 g.2.2.1
 ·rw [if_neg h1]
  congr 1; symm; rw [decide_eq_false_iff_not]
  exact fun g => h1 ⟨g.1, g.2.1⟩
theorem has_at (l : List Int) (a : Int) (h : l.length ≤ 1000) : ∀ (q k i : Nat), i + q = l.length → q < k → Qat.l0 k l a (i : Int) = some (decide (a ∈ l.drop i)) := by
 intro q
 induction q with
 | zero =>
  intro k i hi hk; obtain ⟨k, rfl⟩ : ∃ z, k = z + 1 := ⟨k - 1, by omega⟩
  simp only [Qat.l0]; rw [if_neg (by omega), List.drop_of_length_le (by omega)]
  simp
 | succ q ih =>
  intro k i hi hk; obtain ⟨k, rfl⟩ : ∃ z, k = z + 1 := ⟨k - 1, by omega⟩
  have hlt : i < l.length := by omega
  simp only [Qat.l0]; rw [if_pos (by omega), if_pos (by omega), YT hlt, List.drop_eq_getElem_cons hlt]; by_cases e : l[i] = a
  ·rw [if_pos e]; simp [e]
  ·rw [if_neg e, w64 (by omega), show ((i : Int) + 1) = ((i + 1 : Nat) : Int) by omega, ih k (i + 1) (by omega) (by omega)]
   congr 1
   refine decide_eq_decide.2 ?_; rw [List.mem_cons]; exact ⟨.inr, fun g => g.resolve_left (fun e' => e e'.symm)⟩
theorem Qa7 (l : List Int) (a : Int) (h : l.length ≤ 1000) {k : Nat} (hk : l.length < k) : Qat.f k l a = some (decide (a ∈ l)) := by
 unfold Qat.f; have := has_at l a h l.length k 0 (Nat.zero_add _) hk
 simpa using this
theorem idx_at (l : List Int) (a : Int) (h : l.length ≤ 1000) : ∀ (q k i : Nat), i + q = l.length → q < k → ∃ r, QB.l0 k l a (l.length : Int) (i : Int) = some r ∧ (r ≥ 0 ↔ a ∈ l.drop i) := by
 intro q
 induction q with
 | zero =>
  intro k i hi hk; obtain ⟨k, rfl⟩ : ∃ z, k = z + 1 := ⟨k - 1, by omega⟩
  simp only [QB.l0]; rw [if_neg (by omega), List.drop_of_length_le (by omega)]; exact ⟨-1, rfl, by simp⟩
 | succ q ih =>
  intro k i hi hk; obtain ⟨k, rfl⟩ : ∃ z, k = z + 1 := ⟨k - 1, by omega⟩
  have hlt : i < l.length := by omega
  simp only [QB.l0]; rw [if_pos (by omega), if_pos (by omega), if_pos (by omega), YT hlt, List.drop_eq_getElem_cons hlt]; by_cases e : a = l[i]
  ·rw [if_pos e]
   refine ⟨i, rfl, fun _ => ?_, fun _ => by omega⟩; rw [e]; exact List.mem_cons_self
  ·rw [if_neg e, w64 (by omega), show ((i : Int) + 1) = ((i + 1 : Nat) : Int) by omega]
   obtain ⟨r, r1, r2⟩ := ih k (i + 1) (by omega) (by omega); refine ⟨r, r1, r2.trans ?_⟩; rw [List.mem_cons]; exact ⟨.inr, fun g => g.resolve_left e⟩
theorem Qbc (l : List Int) (a : Int) (h : l.length ≤ 1000) {k : Nat} (hk : l.length < k) : QI.f k l a = some (decide (a ∈ l)) := by
 unfold QI.f QB.f; obtain ⟨r, r1, r2⟩ := idx_at l a h l.length k 0 (Nat.zero_add _) hk; rw [show ((0 : Nat) : Int) = 0 from rfl] at r1; rw [r1]; simp only [Option.bind_some]
 congr 1
 exact decide_eq_decide.2 (by simpa using r2)
def Qa4 (t : S75) (b : Int) : Int := if b ∈ t.f0 then 1 else if b ∈ t.f1 then 2 else 0
theorem Qca (t : S75) (b : Int) (h : t.f0.length ≤ 20 ∧ t.f1.length ≤ 20) {k : Nat} (hk : 30 < k) : Je.f k t.f0 t.f1 t.f2 b = some (Qa4 t b) := by
 unfold Je.f Qa4; rw [Qbc _ _ (by omega) (by omega), Qbc _ _ (by omega) (by omega)]; simp only [Option.bind_some, decide_eq_true_iff]
 split
 ·rfl
 split <;> rfl
theorem Qa3 {l : List S75} {i : Nat} (h : i < l.length) : Ql l (i : Int) = l[i] := by simp [Ql, List.getD_eq_getElem?_getD, List.getElem?_eq_getElem h]
theorem Qba (n a b : Int) : Jp.f n a b = some (decide (a ≤ n ∧ n ≤ b)) := by
 unfold Jp.f; by_cases h : n ≥ a
 ·rw [if_pos h]
  congr 1
  exact decide_eq_decide.2 (by omega)
 ·rw [if_neg h]
  congr 1
  symm
  rw [decide_eq_false_iff_not]; omega
def Qa5 (n : Int) (l o : List Int) (i : Nat) : Prop := ∀ j (h : j < l.length), i ≤ j → (0 ≤ l[j] ∧ l[j] ≤ n - 1) ∧ l[j] ∉ l.take j ∧ l[j] ∉ o
theorem Qbp {n : Int} {l o : List Int} {i : Nat} (h : l.length ≤ i) : Qa5 n l o i := fun j hj hij => by omega
theorem Qbm {n : Int} {l o : List Int} {i : Nat} (hlt : i < l.length) : Qa5 n l o i ↔ ((0 ≤ l[i] ∧ l[i] ≤ n - 1) ∧ l[i] ∉ l.take i ∧ l[i] ∉ o) ∧ Qa5 n l o (i + 1) :=
 ⟨fun g => ⟨g i hlt (Nat.le_refl _), fun j hj hij => g j hj (by omega)⟩, fun g j hj hij => by
  by_cases e : i = j
  ·subst e; exact g.1
  ·exact g.2 j hj (by omega)⟩
theorem Qb4 (n : Int) (hn : 2 ≤ n ∧ n ≤ 12) (l o a b : List Int) (x5 c : Int) (h : l.length ≤ 20 ∧ o.length ≤ 20) (hx : x5 = 0) : ∀ (q k i : Nat), i + q = l.length → q + 100 < k →
  (Qa5 n l o i ∧ ∃ k', k ≤ k' + q + 1 ∧ Qas.l1 k n x5 l o (i : Int) a b c = Qas.l0 k' n 1 a b c) ∨ (¬ Qa5 n l o i ∧ Qas.l1 k n x5 l o (i : Int) a b c = some false) := by
 intro q
 induction q with
 | zero =>
  intro k i hi hk; obtain ⟨k, rfl⟩ : ∃ z, k = z + 1 := ⟨k - 1, by omega⟩
  refine .inl ⟨Qbp (by omega), k, by omega, ?_⟩; simp only [Qas.l1]; rw [if_neg (by omega), hx, w64 (by omega)]; rfl
 | succ q ih =>
  intro k i hi hk; obtain ⟨k, rfl⟩ : ∃ z, k = z + 1 := ⟨k - 1, by omega⟩
  have hlt : i < l.length := by omega
  rw [Qbm hlt]; simp only [Qas.l1]; rw [if_pos (by omega), if_pos (by omega), w64 (x := n - 1) (by omega), Qba, YT hlt, Int.toNat_natCast, Qa7 _ _ (by rw [List.length_take]; omega) (by rw [List.length_take]; omega), Qa7 _ _ (by omega) (by omega), w64 (x := (i : Int) + 1) (by omega)]; simp only [Option.bind_some, decide_eq_true_iff]; by_cases c1 : 0 ≤ l[i] ∧ l[i] ≤ n - 1
  ·rw [if_pos c1, if_pos (by omega)]
   by_cases c2 : l[i] ∈ l.take i
   ·rw [if_pos c2]
    exact .inr ⟨fun g => g.1.2.1 c2, rfl⟩
   ·rw [if_neg c2]
    by_cases c3 : l[i] ∈ o
    ·rw [if_pos c3]
     exact .inr ⟨fun g => g.1.2.2 c3, rfl⟩
    ·rw [if_neg c3]
     rcases ih k (i + 1) (by omega) (by omega) with ⟨g1, k', g2, g3⟩ | ⟨g1, g2⟩
     ·exact .inl ⟨⟨⟨c1, c2, c3⟩, g1⟩, k', by omega, g3⟩
     ·exact .inr ⟨fun g => g1 g.2, g2⟩
  ·rw [if_neg c1]
   exact .inr ⟨fun g => c1 g.1.1, rfl⟩
theorem Qbv (n : Int) (hn : 2 ≤ n ∧ n ≤ 12) (l o a b : List Int) (x5 c : Int) (h : l.length ≤ 20 ∧ o.length ≤ 20) (hx : x5 = 1) : ∀ (q k i : Nat), i + q = l.length → q + 100 < k →
  (Qa5 n l o i ∧ ∃ k', k ≤ k' + q + 1 ∧ Qas.l101 k n x5 l o (i : Int) a b c = Qas.l0 k' n 2 a b c) ∨ (¬ Qa5 n l o i ∧ Qas.l101 k n x5 l o (i : Int) a b c = some false) := by
 intro q
 induction q with
 | zero =>
  intro k i hi hk; obtain ⟨k, rfl⟩ : ∃ z, k = z + 1 := ⟨k - 1, by omega⟩
  refine .inl ⟨Qbp (by omega), k, by omega, ?_⟩; simp only [Qas.l101]; rw [if_neg (by omega), hx, w64 (by omega)]; rfl
 | succ q ih =>
  intro k i hi hk; obtain ⟨k, rfl⟩ : ∃ z, k = z + 1 := ⟨k - 1, by omega⟩
  have hlt : i < l.length := by omega
  rw [Qbm hlt]; simp only [Qas.l101]; rw [if_pos (by omega), if_pos (by omega), w64 (x := n - 1) (by omega), Qba, YT hlt, Int.toNat_natCast, Qa7 _ _ (by rw [List.length_take]; omega) (by rw [List.length_take]; omega), Qa7 _ _ (by omega) (by omega), w64 (x := (i : Int) + 1) (by omega)]; simp only [Option.bind_some, decide_eq_true_iff]; by_cases c1 : 0 ≤ l[i] ∧ l[i] ≤ n - 1
  ·rw [if_pos c1, if_pos (by omega)]
   by_cases c2 : l[i] ∈ l.take i
   ·rw [if_pos c2]
    exact .inr ⟨fun g => g.1.2.1 c2, rfl⟩
   ·rw [if_neg c2]
    by_cases c3 : l[i] ∈ o
    ·rw [if_pos c3]
     exact .inr ⟨fun g => g.1.2.2 c3, rfl⟩
    ·rw [if_neg c3]
     rcases ih k (i + 1) (by omega) (by omega) with ⟨g1, k', g2, g3⟩ | ⟨g1, g2⟩
     ·exact .inl ⟨⟨⟨c1, c2, c3⟩, g1⟩, k', by omega, g3⟩
     ·exact .inr ⟨fun g => g1 g.2, g2⟩
  ·rw [if_neg c1]
   exact .inr ⟨fun g => c1 g.1.1, rfl⟩
theorem Qbk {l : List Int} : l.Nodup ↔ ∀ j (h : j < l.length), l[j] ∉ l.take j := by
 unfold List.Nodup; rw [List.pairwise_iff_getElem]
 constructor
 ·intro g j hj hm
  obtain ⟨i, hi, e⟩ := List.mem_iff_getElem.1 hm; rw [List.length_take] at hi; rw [List.getElem_take] at e; exact g i j (by omega) hj (by omega) e
 ·intro g i j hi hj hij e
  refine g j hj (List.mem_iff_getElem.2 ⟨i, by rw [List.length_take]; omega, ?_⟩); rw [List.getElem_take]; exact e
theorem rows_ok {n : Int} {l r : List Int} : (Qa5 n l r 0 ∧ Qa5 n r l 0) ↔ ((∀ x ∈ l ++ r, 0 ≤ x ∧ x ≤ n - 1) ∧ (l ++ r).Nodup) := by
 rw [List.nodup_append, Qbk, Qbk]
 constructor
 ·rintro ⟨g1, g2⟩
  refine ⟨fun x hx => ?_, fun j hj => (g1 j hj (by omega)).2.1, fun j hj => (g2 j hj (by omega)).2.1, fun x hx y hy e => ?_⟩
  ·rcases List.mem_append.1 hx with hx | hx
   ·obtain ⟨i, hi, e⟩ := List.mem_iff_getElem.1 hx
    rw [← e]; exact (g1 i hi (by omega)).1
   ·obtain ⟨i, hi, e⟩ := List.mem_iff_getElem.1 hx
    rw [← e]; exact (g2 i hi (by omega)).1
  ·obtain ⟨i, hi, e1⟩ := List.mem_iff_getElem.1 hx
   exact (g1 i hi (by omega)).2.2 (by rw [e1, e]; exact hy)
 ·rintro ⟨g1, g2, g3, g4⟩
  refine ⟨fun j hj _ => ⟨g1 _ (List.mem_append_left _ (List.getElem_mem hj)), g2 j hj, fun hm => g4 _ (List.getElem_mem hj) _ hm rfl⟩, fun j hj _ => ⟨g1 _ (List.mem_append_right _ (List.getElem_mem hj)), g3 j hj, fun hm => g4 _ hm _ (List.getElem_mem hj) rfl⟩⟩
theorem Qb2 (n : Int) (t : S75) (hn : 2 ≤ n ∧ n ≤ 12) (h : t.f0.length ≤ 20 ∧ t.f1.length ≤ 20) {k : Nat} (hk : 300 < k) : Qas.f k t.f0 t.f1 t.f2 n = some (okT n t) := by
 obtain ⟨k, rfl⟩ : ∃ z, k = z + 1 + 1 := ⟨k - 2, by omega⟩
 have hbad : Qas.j0 (k + 1 + 1) n true t.f0 t.f1 t.f2 = some false := by
  simp only [Qas.j0]; rw [if_pos trivial]
 have hno : ∀ {P : Prop} [Decidable P], ¬ P → (some false : Option Bool) = some (decide P) := fun hp => by rw [decide_eq_false hp]
 unfold Qas.f okT; by_cases h1 : t.f0.length = t.f1.length
 ·rw [if_pos (by omega)]
  by_cases h2 : t.f0.length = 0
  ·rw [if_pos (by omega), hbad]
   exact hno fun g => by omega
  ·rw [if_neg (by omega), Qba]
   simp only [Option.bind_some]; by_cases h3 : 0 ≤ t.f2 ∧ t.f2 ≤ 2
   ·rw [decide_eq_true h3]
    simp only [Qas.j0, Bool.not_true]; rw [if_neg (by simp)]; simp only [Qas.l0]; rw [if_pos (by omega), if_pos trivial]; have hrow := rows_ok (n := n) (l := t.f0) (r := t.f1)
    rcases Qb4 n hn t.f0 t.f1 t.f0 t.f1 0 t.f2 h rfl t.f0.length k 0 (Nat.zero_add _) (by omega) with ⟨g1, k', g2, g3⟩ | ⟨g1, g2⟩
    ·refine g3.trans ?_
     obtain ⟨k', rfl⟩ : ∃ z, k' = z + 1 := ⟨k' - 1, by omega⟩
     simp only [Qas.l0]; rw [if_pos (by omega), if_neg (by omega), if_pos trivial]
     rcases Qbv n hn t.f1 t.f0 t.f0 t.f1 1 t.f2 ⟨h.2, h.1⟩ rfl t.f1.length k' 0 (Nat.zero_add _) (by omega) with ⟨f1, k2, f2, f3⟩ | ⟨f1, f2⟩
     ·refine f3.trans ?_
      obtain ⟨k2, rfl⟩ : ∃ z, k2 = z + 1 := ⟨k2 - 1, by omega⟩
      simp only [Qas.l0]; rw [if_neg (by omega)]; have := hrow.1 ⟨g1, f1⟩; rw [decide_eq_true ⟨h1, by omega, this.1, this.2, h3⟩]
     ·refine f2.trans (hno fun g => f1 (hrow.2 ⟨g.2.2.1, g.2.2.2.1⟩).2)
    ·refine g2.trans (hno fun g => g1 (hrow.2 ⟨g.2.2.1, g.2.2.2.1⟩).1)
   ·rw [decide_eq_false h3]
    refine hbad.trans (hno fun g => h3 g.2.2.2.2)
 ·rw [if_neg (by omega), hbad]
  exact hno fun g => h1 g.1
def wgh (n : Int) (ts : List S75) (w : Int) : Int := if 2 ≤ n ∧ n ≤ 12 ∧ 0 ≤ w ∧ w ≤ 8 then (if ts.length ≤ 8 then (if ts.all (okT n) = true then 0 else 2) else 5) else 3
def mis (ts : List S75) (b : Int) : Nat := (ts.filter fun t => decide (Qa4 t b ≠ t.f2)).length
def susp (n : Int) (ts : List S75) (w : Int) : List Int := ((List.range n.toNat).map fun i : Nat => (i : Int)).filter fun b => decide ((mis ts b : Int) ≤ w)
theorem Qbf (ts : List S75) (w : Int) (i : Nat) : ((List.range (i + 1)).map fun i : Nat => (i : Int)).filter (fun b => decide ((mis ts b : Int) ≤ w)) = ((List.range i).map fun i : Nat => (i : Int)).filter (fun b => decide ((mis ts b : Int) ≤ w)) ++ (if (mis ts (i : Int) : Int) ≤ w then [(i : Int)] else []) := by
 rw [List.range_succ, List.map_append, List.filter_append]
 congr 1
 by_cases h : (mis ts (i : Int) : Int) ≤ w
 ·rw [if_pos h]; simp [h]
 ·rw [if_neg h]; simp [h]
theorem Qbu {ts : List S75} {i : Nat} (h : i < ts.length) (b : Int) : mis (ts.drop i) b = (if Qa4 ts[i] b = ts[i].f2 then 0 else 1) + mis (ts.drop (i + 1)) b := by
 unfold mis; rw [List.drop_eq_getElem_cons h, List.filter_cons]; by_cases e : Qa4 ts[i] b = ts[i].f2
 ·rw [if_pos e, if_neg (by simp [e])]; omega
 ·rw [if_neg e, if_pos (by simp [e])]; simp; omega
def Qa1 (ts : List S75) : Prop := ts.length ≤ 20 ∧ ∀ t ∈ ts, t.f0.length ≤ 20 ∧ t.f1.length ≤ 20
theorem susp_l1 (ts : List S75) (hts : Qa1 ts) (w : Int) (hw : 0 ≤ w ∧ w ≤ 8) (acc : List Int) (ha : acc.length ≤ 100) (b x29 : Int) (hb : 0 ≤ b ∧ b ≤ 100) : ∀ (q k i m : Nat), i + q = ts.length → q + 100 < k → m ≤ i → (m : Int) ≤ w →
  ∃ k', k ≤ k' + q + 1 ∧ Qs.l1 k ts w acc b (m : Int) x29 b ts (ts.length : Int) (i : Int) = Qs.l0 k' ts w (if (m : Int) + mis (ts.drop i) b ≤ w then acc ++ [b] else acc) x29 (b + 1) := by
 have h20 := hts.1; intro q
 induction q with
 | zero =>
  intro k i m hi hk hm hmw; obtain ⟨k, rfl⟩ : ∃ z, k = z + 1 := ⟨k - 1, by omega⟩
  refine ⟨k, by omega, ?_⟩; simp only [Qs.l1]; rw [if_neg (by omega), if_pos (by omega), List.drop_of_length_le (by omega), if_pos (by simp [mis]; omega), w64 (by omega)]
 | succ q ih =>
  intro k i m hi hk hm hmw; obtain ⟨k, rfl⟩ : ∃ z, k = z + 1 := ⟨k - 1, by omega⟩
  have hlt : i < ts.length := by omega
  have hd := Qbu hlt b; simp only [Qs.l1]; rw [if_pos (by omega), if_pos (by omega), if_pos (by omega), Qa3 hlt, Qca _ _ (hts.2 _ (List.getElem_mem hlt)) (by omega), w64 (x := (m : Int) + 1) (by omega), w64 (x := b + 1) (by omega), w64 (x := (i : Int) + 1) (by omega)]; simp only [Option.bind_some]; by_cases e : Qa4 ts[i] b = ts[i].f2
  ·rw [if_pos e, if_neg (by omega)]
   rw [if_pos e, Nat.zero_add] at hd; obtain ⟨k', g1, g2⟩ := ih k (i + 1) m (by omega) (by omega) (by omega) hmw; rw [hd]; exact ⟨k', by omega, g2⟩
  ·rw [if_neg e]
   rw [if_neg e] at hd; by_cases c : (m : Int) + 1 > w
   ·rw [if_pos c, if_neg (by omega)]
    exact ⟨k, by omega, rfl⟩
   ·rw [if_neg c]
    obtain ⟨k', g1, g2⟩ := ih k (i + 1) (m + 1) (by omega) (by omega) (by omega) (by omega); refine ⟨k', by omega, ?_⟩; rw [show (m : Int) + (mis (ts.drop i) b : Nat) = ((m + 1 : Nat) : Int) + (mis (ts.drop (i + 1)) b : Nat) by omega]; exact g2
theorem susp_l0 (ts : List S75) (hts : Qa1 ts) (w : Int) (hw : 0 ≤ w ∧ w ≤ 8) (n : Nat) (hn : n ≤ 12) : ∀ (q k i : Nat), i + q = n → 30 * q + 200 < k →
  Qs.l0 k ts w (((List.range i).map fun i : Nat => (i : Int)).filter fun b => decide ((mis ts b : Int) ≤ w)) (n : Int) (i : Int) = some (if (susp n ts w).length = 0 then ([], 9) else (susp n ts w, 0)) := by
 have h20 := hts.1; intro q
 induction q with
 | zero =>
  intro k i hi hk; obtain ⟨k, rfl⟩ : ∃ z, k = z + 1 := ⟨k - 1, by omega⟩
  have e : ((List.range i).map fun i : Nat => (i : Int)).filter (fun b => decide ((mis ts b : Int) ≤ w)) = susp n ts w := by
   unfold susp; rw [Int.toNat_natCast, show i = n by omega]
  rw [e]; simp only [Qs.l0]; rw [if_neg (by omega)]; by_cases h : (susp n ts w).length = 0
  ·rw [if_pos h, if_pos (by omega)]
  ·rw [if_neg h, if_neg (by omega)]
 | succ q ih =>
  intro k i hi hk; obtain ⟨k, rfl⟩ : ∃ z, k = z + 1 := ⟨k - 1, by omega⟩
  have hlen : (((List.range i).map fun i : Nat => (i : Int)).filter (fun b => decide ((mis ts b : Int) ≤ w))).length ≤ 100 := by
   refine Nat.le_trans (List.length_filter_le _ _) ?_
   simp; omega
  simp only [Qs.l0]; rw [if_pos (by omega)]; obtain ⟨k', g1, g2⟩ := susp_l1 ts hts w hw _ hlen (i : Int) (n : Int) (by omega) ts.length k 0 0 (Nat.zero_add _) (by omega) (Nat.le_refl _) (by omega); refine g2.trans ?_; have e1 : (((0 : Nat) : Int) + (mis (ts.drop 0) (i : Int) : Nat)) = (mis ts (i : Int) : Nat) := by simp
  rw [e1]; have := ih k' (i + 1) (by omega) (by omega); rw [Qbf] at this; rw [show ((i + 1 : Nat) : Int) = (i : Int) + 1 by omega] at this; refine Eq.trans ?_ this
  congr 1
  split <;> simp
theorem Qb3 (n : Int) (hn : 2 ≤ n ∧ n ≤ 12) (ts : List S75) (h : ∀ t ∈ ts, t.f0.length ≤ 20 ∧ t.f1.length ≤ 20) : Jz.f ts n = some (ts.any fun t => !okT n t) := by
 unfold Jz.f; refine YA (p := fun t => !okT n t) fun t ht => ?_
 unfold J3.f; rw [Qby n t hn (h t ht)]; rfl
theorem Qbg (n : Int) (ts : List S75) (w : Int) (hts : Qa1 ts) {k : Nat} (hk : 1000 < k) : Qs.f k n ts w = some (if wgh n ts w = 0 then (if (susp n ts w).length = 0 then ([], 9) else (susp n ts w, 0)) else ([], wgh n ts w)) := by
 obtain ⟨k, rfl⟩ : ∃ z, k = z + 1 := ⟨k - 1, by omega⟩
 have h20 := hts.1; unfold Qs.f wgh; rw [Y1, Y1]; simp only [Option.bind_some, List.all_cons, List.all_nil, Bool.and_true]; by_cases h1 : 2 ≤ n ∧ n ≤ 12
 ·rw [if_pos (decide_eq_true h1)]
  by_cases h2 : 0 ≤ w ∧ w ≤ 8
  ·rw [if_pos (show 2 ≤ n ∧ n ≤ 12 ∧ 0 ≤ w ∧ w ≤ 8 by omega), decide_eq_true h2]
   simp only [Qs.j0, Bool.not_true]; rw [if_neg (by simp)]; by_cases h3 : ts.length ≤ 8
   ·rw [if_pos h3, if_neg (by omega), Qb3 n h1 ts hts.2]
    simp only [Option.bind_some]; by_cases h4 : ts.all (okT n) = true
    ·rw [if_pos h4, if_pos rfl, if_neg (by
      rw [List.all_eq_true] at h4; rw [List.any_eq_true]; rintro ⟨t, g1, g2⟩; rw [h4 t g1] at g2; simp at g2)]
     obtain ⟨m, rfl⟩ := Int.eq_ofNat_of_zero_le (show 0 ≤ n by omega); exact susp_l0 ts hts w h2 m (by omega) m k 0 (Nat.zero_add _) (by omega)
    ·rw [if_neg h4, if_pos (by
      rw [List.all_eq_true] at h4; rw [List.any_eq_true]; refine Classical.byContradiction fun g => h4 fun t ht => ?_
      refine Classical.byContradiction fun g2 => g ⟨t, ht, ?_⟩
      simpa using g2), if_neg (by decide)]
   ·rw [if_neg h3, if_pos (by omega), if_neg (by decide)]
  ·rw [if_neg (show ¬ (2 ≤ n ∧ n ≤ 12 ∧ 0 ≤ w ∧ w ≤ 8) from fun g => h2 ⟨g.2.2.1, g.2.2.2⟩), decide_eq_false h2]
   simp only [Qs.j0, Bool.not_false]; rw [if_pos trivial, if_neg (by decide)]
 ·rw [if_neg (by simpa using h1), if_neg (show ¬ (2 ≤ n ∧ n ≤ 12 ∧ 0 ≤ w ∧ w ≤ 8) from fun g => h1 ⟨g.1, g.2.1⟩), decide_eq_false h1]
  simp only [Qs.j0, Bool.not_false]; rw [if_pos trivial, if_neg (by decide)]
theorem Qbz (n : Int) (hn : 2 ≤ n ∧ n ≤ 12) (ts : List S75) (hts : Qa1 ts) : ∀ (q k i : Nat), i + q = ts.length → q + 500 < k → Qau.l0 k n ts (i : Int) = some (if (ts.drop i).all (okT n) = true then 0 else 2) := by
 have h20 := hts.1; intro q
 induction q with
 | zero =>
  intro k i hi hk; obtain ⟨k, rfl⟩ : ∃ z, k = z + 1 := ⟨k - 1, by omega⟩
  simp only [Qau.l0]; rw [if_neg (by omega), List.drop_of_length_le (by omega)]; rfl
 | succ q ih =>
  intro k i hi hk; obtain ⟨k, rfl⟩ : ∃ z, k = z + 1 := ⟨k - 1, by omega⟩
  have hlt : i < ts.length := by omega
  simp only [Qau.l0]; rw [if_pos (by omega), if_pos (by omega), Qa3 hlt, Qb2 n _ hn (hts.2 _ (List.getElem_mem hlt)) (by omega), w64 (x := (i : Int) + 1) (by omega), List.drop_eq_getElem_cons hlt, List.all_cons]; simp only [Option.bind_some]; by_cases h : okT n ts[i] = true
  ·rw [if_pos h, h, Bool.true_and]
   exact ih k (i + 1) (by omega) (by omega)
  ·rw [if_neg h]
   have : okT n ts[i] = false := by simpa using h
   rw [this, Bool.false_and, if_neg (by simp)]
theorem Qbj (n : Int) (ts : List S75) (w : Int) (hts : Qa1 ts) {k : Nat} (hk : 1000 < k) : Qau.f k n ts w = some (wgh n ts w) := by
 obtain ⟨k, rfl⟩ : ∃ z, k = z + 1 := ⟨k - 1, by omega⟩
 have h20 := hts.1; unfold Qau.f wgh; rw [Qba, Qba]; simp only [Option.bind_some]; by_cases h1 : 2 ≤ n ∧ n ≤ 12
 ·rw [if_pos (decide_eq_true h1)]
  by_cases h2 : 0 ≤ w ∧ w ≤ 8
  ·rw [if_pos (show 2 ≤ n ∧ n ≤ 12 ∧ 0 ≤ w ∧ w ≤ 8 by omega), decide_eq_true h2]
   simp only [Qau.j0, Bool.not_true]; rw [if_neg (by simp)]; by_cases h3 : ts.length ≤ 8
   ·rw [if_pos h3, if_neg (by omega)]
    exact Qbz n h1 ts hts ts.length k 0 (Nat.zero_add _) (by omega)
   ·rw [if_neg h3, if_pos (by omega)]
  ·rw [if_neg (show ¬ (2 ≤ n ∧ n ≤ 12 ∧ 0 ≤ w ∧ w ≤ 8) from fun g => h2 ⟨g.2.2.1, g.2.2.2⟩), decide_eq_false h2]
   simp only [Qau.j0, Bool.not_false]; rw [if_pos trivial]
 ·rw [if_neg (by simpa using h1), if_neg (show ¬ (2 ≤ n ∧ n ≤ 12 ∧ 0 ≤ w ∧ w ≤ 8) from fun g => h1 ⟨g.1, g.2.1⟩)]
  simp only [Qau.j0]; rw [if_pos trivial]
def Qa6 (n : Int) : Int := if n ≤ 1 then 0 else if n ≤ 3 then 1 else if n ≤ 9 then 2 else 3
theorem Qb9 : ∀ (a : Fin 13), QT.l0 20 0 (a.val : Int) = some (Qa6 a.val, 0) := by decide +kernel
theorem Qbs : ∀ (q : Nat) (x n : Int), LeO (QT.l0 q x n) (QT.l0 (q + 1) x n)
 | 0, x, n => fun r h => by simp [QT.l0] at h
 | q + 1, x, n => fun r h => by
  simp only [QT.l0] at h ⊢; by_cases c : n > 1
  ·rw [if_pos c] at h ⊢
   have := Qbs q _ _ r h; simp only [QT.l0] at this; exact this
  ·rw [if_neg c] at h ⊢
   exact h
theorem Qbo {n : Int} {r : Int × Int} : ∀ (d : Nat), QT.l0 20 0 n = some r → QT.l0 (20 + d) 0 n = some r
 | 0, h => h
 | d + 1, h => Qbs (20 + d) _ _ _ (Qbo d h)
theorem Qb8 {k : Nat} (hk : 20 ≤ k) {n : Int} (hn : 0 ≤ n ∧ n ≤ 12) : QT.l0 k 0 n = some (Qa6 n, 0) := by
 obtain ⟨m, rfl⟩ := Int.eq_ofNat_of_zero_le hn.1; have h := Qb9 ⟨m, by omega⟩; obtain ⟨d, rfl⟩ : ∃ d, k = 20 + d := ⟨k - 20, by omega⟩
 exact Qbo d h
theorem Qbi (n : Int) (ts : List S75) (w : Int) (hn : 2 ≤ n ∧ n ≤ 12) : (susp n ts w).length ≤ n.toNat := by
 unfold susp; refine Nat.le_trans (List.length_filter_le _ _) ?_
 simp
theorem Qb5 (n : Int) (ts : List S75) (hts : Qa1 ts) {k : Nat} (hk : 1000 < k) : QT.f k n ts = some (if wgh n ts 0 = 0 then (if (susp n ts 0).length = 0 then (0, 9) else (Qa6 (susp n ts 0).length, 0)) else (0, wgh n ts 0)) := by
 unfold QT.f; rw [Qbg n ts 0 hts hk]; simp only [Option.bind_some]; by_cases h : wgh n ts 0 = 0
 ·have hn : 2 ≤ n ∧ n ≤ 12 := by
   unfold wgh at h
   split at h
   ·rename_i g; omega
   ·cases h
  rw [if_pos h, if_pos h]; by_cases h0 : (susp n ts 0).length = 0
  ·rw [if_pos h0, if_pos h0]; rfl
  ·rw [if_neg h0, if_neg h0]
   have := Qbi n ts 0 hn; rw [if_pos rfl]; exact Qb8 (by omega) ⟨by omega, by show ((susp n ts 0).length : Int) ≤ 12; omega⟩
 ·rw [if_neg h, if_neg h, if_neg h]
theorem Qb1 : ∀ (a b : Fin 13), 1 ≤ a.val → a.val + b.val ≤ 12 → Qap.f 1500 (a.val : Int) (b.val : Int) = some (Qa6 a.val) := by decide +kernel
theorem ors_l1 (ts : List S75) (hts : Qa1 ts) (hok : ∀ t ∈ ts, ∀ b, b ∈ t.f0 → b ∉ t.f1) (n w : Int) (hn : 0 ≤ n ∧ n ≤ 12) (acc : List Int) (ha : acc.length ≤ 100) (b : Int) (hb : 0 ≤ b ∧ b ≤ 100) : ∀ (q k i m : Nat), i + q = ts.length → 2 * q + 100 < k → m ≤ i →
  ∃ k', k ≤ k' + 2 * q + 1 ∧ Qar.l1 k n ts w acc b (m : Int) (i : Int) = Qar.l0 k' n ts w (if (m : Int) + mis (ts.drop i) b ≤ w then acc ++ [b] else acc) (b + 1) := by
 have h20 := hts.1; intro q
 induction q with
 | zero =>
  intro k i m hi hk hm; obtain ⟨k, rfl⟩ : ∃ z, k = z + 1 := ⟨k - 1, by omega⟩
  refine ⟨k, by omega, ?_⟩; simp only [Qar.l1]; rw [if_neg (by omega), List.drop_of_length_le (by omega), w64 (by omega)]; by_cases c : (m : Int) ≤ w
  ·rw [if_pos c, if_pos (by omega), if_pos (by simp [mis]; omega)]
  ·rw [if_neg c, if_neg (by simp [mis]; omega)]
 | succ q ih =>
  intro k i m hi hk hm; obtain ⟨k, rfl⟩ : ∃ z, k = z + 1 + 1 := ⟨k - 2, by omega⟩
  have hlt : i < ts.length := by omega
  have hd := Qbu hlt b; have hs := hts.2 _ (List.getElem_mem hlt); have hno := hok _ (List.getElem_mem hlt) b
  have hstep : ∀ x : Bool, x = decide (Qa4 ts[i] b = ts[i].f2) → ∃ k', k + 1 + 1 ≤ k' + 2 * (q + 1) + 1 ∧ (if x = true then Qar.l1 k n ts w acc b (m : Int) ((i : Int) + 1) else Qar.l1 k n ts w acc b ((m : Int) + 1) ((i : Int) + 1)) = Qar.l0 k' n ts w (if (m : Int) + mis (ts.drop i) b ≤ w then acc ++ [b] else acc) (b + 1) := by
   intro x hx; by_cases e : Qa4 ts[i] b = ts[i].f2
   ·rw [decide_eq_true e] at hx
    rw [if_pos e, Nat.zero_add] at hd; obtain ⟨k', g1, g2⟩ := ih k (i + 1) m (by omega) (by omega) (by omega); rw [if_pos hx, hd]; exact ⟨k', by omega, g2⟩
   ·rw [decide_eq_false e] at hx
    rw [if_neg e] at hd; obtain ⟨k', g1, g2⟩ := ih k (i + 1) (m + 1) (by omega) (by omega) (by omega); rw [if_neg (by rw [hx]; simp)]; refine ⟨k', by omega, ?_⟩; rw [show (m : Int) + (mis (ts.drop i) b : Nat) = ((m + 1 : Nat) : Int) + (mis (ts.drop (i + 1)) b : Nat) by omega]; exact g2
  have hj : ∀ x : Int, Qar.j2 (k + 1) n ts w acc b (m : Int) (i : Int) x = if b ∈ ts[i].f1 then (if ts[i].f2 = 2 then Qar.l1 k n ts w acc b (m : Int) ((i : Int) + 1) else Qar.l1 k n ts w acc b ((m : Int) + 1) ((i : Int) + 1)) else (if ts[i].f2 = x then Qar.l1 k n ts w acc b (m : Int) ((i : Int) + 1) else Qar.l1 k n ts w acc b ((m : Int) + 1) ((i : Int) + 1)) := by
   intro x; simp only [Qar.j2]; rw [if_pos (show (0 : Int) ≤ (i : Int) by omega), if_pos (show (i : Int) < (ts.length : Int) by omega), Qa3 hlt, Qa7 _ _ (by omega) (by omega), w64 (x := (m : Int) + 1) (by omega), w64 (x := (i : Int) + 1) (by omega)]; simp only [Option.bind_some, decide_eq_true_iff]
  simp only [Qar.l1]; rw [if_pos (by omega), if_pos (by omega), Qa3 hlt, Qa7 _ _ (by omega) (by omega)]; simp only [Option.bind_some, decide_eq_true_iff, hj]; unfold Qa4 at hstep; by_cases c1 : b ∈ ts[i].f0
  ·have c2 := hno c1
   rw [if_pos c1] at hstep ⊢; rw [if_neg c2]; obtain ⟨k', g1, g2⟩ := hstep _ rfl; refine ⟨k', g1, Eq.trans ?_ g2⟩; by_cases e : ts[i].f2 = 1
   ·rw [if_pos e, if_pos (decide_eq_true e.symm)]
   ·rw [if_neg e, if_neg (by simp; omega)]
  ·rw [if_neg c1] at hstep ⊢
   by_cases c2 : b ∈ ts[i].f1
   ·rw [if_pos c2] at hstep ⊢
    obtain ⟨k', g1, g2⟩ := hstep _ rfl; refine ⟨k', g1, Eq.trans ?_ g2⟩; by_cases e : ts[i].f2 = 2
    ·rw [if_pos e, if_pos (decide_eq_true e.symm)]
    ·rw [if_neg e, if_neg (by simp; omega)]
   ·rw [if_neg c2] at hstep ⊢
    obtain ⟨k', g1, g2⟩ := hstep _ rfl; refine ⟨k', g1, Eq.trans ?_ g2⟩; by_cases e : ts[i].f2 = 0
    ·rw [if_pos e, if_pos (decide_eq_true e.symm)]
    ·rw [if_neg e, if_neg (by simp; omega)]
theorem Qb7 (ts : List S75) (hts : Qa1 ts) (hok : ∀ t ∈ ts, ∀ b, b ∈ t.f0 → b ∉ t.f1) (w : Int) (n : Nat) (hn : n ≤ 12) : ∀ (q k i : Nat), i + q = n → 60 * q + 300 < k →
  Qar.l0 k (n : Int) ts w (((List.range i).map fun i : Nat => (i : Int)).filter fun b => decide ((mis ts b : Int) ≤ w)) (i : Int) = some (susp n ts w) := by
 have h20 := hts.1; intro q
 induction q with
 | zero =>
  intro k i hi hk; obtain ⟨k, rfl⟩ : ∃ z, k = z + 1 := ⟨k - 1, by omega⟩
  have e : ((List.range i).map fun i : Nat => (i : Int)).filter (fun b => decide ((mis ts b : Int) ≤ w)) = susp n ts w := by
   unfold susp; rw [Int.toNat_natCast, show i = n by omega]
  rw [e]; simp only [Qar.l0]; rw [if_neg (by omega)]
 | succ q ih =>
  intro k i hi hk; obtain ⟨k, rfl⟩ : ∃ z, k = z + 1 := ⟨k - 1, by omega⟩
  have hlen : (((List.range i).map fun i : Nat => (i : Int)).filter (fun b => decide ((mis ts b : Int) ≤ w))).length ≤ 100 := by
   refine Nat.le_trans (List.length_filter_le _ _) ?_
   simp; omega
  simp only [Qar.l0]; rw [if_pos (by omega)]; obtain ⟨k', g1, g2⟩ := ors_l1 ts hts hok (n : Int) w (by omega) _ hlen (i : Int) (by omega) ts.length k 0 0 (Nat.zero_add _) (by omega) (Nat.le_refl _); refine g2.trans ?_; have e1 : (((0 : Nat) : Int) + (mis (ts.drop 0) (i : Int) : Nat)) = (mis ts (i : Int) : Nat) := by simp
  rw [e1]; have := ih k' (i + 1) (by omega) (by omega); rw [Qbf] at this; rw [show ((i + 1 : Nat) : Int) = (i : Int) + 1 by omega] at this; refine Eq.trans ?_ this
  congr 1
  split <;> simp
end Go.Proofs.YtjaapkkpmegkfaaGreat.P
namespace Go.Proofs.YtjaapkkpmegkfaaGreat.P
open Go.RowKit Go.ChangeShapes Go.WideShapes Go.Deep Go.Proofs.YtjaapkkpmegkfaaGreatW.PrintWords Go.Proofs.YtjaapkkpmegkfaaGreatW.PrintLast Go.Proofs.YtjaapkkpmegkfaaGreatW.PrintMore
structure Qa0 {α : Type} (P : Program) (d : Kd α) (t : TypeId) (B : α → Prop) : Prop where
 sz : P.cellsOf t = d.sz
 op : ∀ (H : Type) (enc : TypeId × Value → H) (w : World) (base : Nat) (spare : Nat → Bool) (held : Bool) (n : Nat) (cs : List Value) (x : DataW H × List MemPlace), DataW.trod enc P w base spare held n t cs = some x → ∃ p, d.K w p cs ∧ B p
theorem Qa0.int {P : Program} {t : TypeId} {k : IntKind} (ht : P.underlying t = some (.int k)) (hc : P.cellsOf t = 1) : Qa0 P (Kd.int k) t (fun n => (Lit.int k n).wf = true) :=
 ⟨hc, fun H enc w base spare held n cs x h => by
  obtain ⟨m, rfl, _, hw⟩ := DataW.trod_int ht h; exact ⟨m, rfl, hw⟩⟩
theorem Qbd {α : Type} {Q : Nat → α → Prop} : ∀ (n : Nat), (∀ i, i < n → ∃ p, Q i p) → ∃ l : List α, l.length = n ∧ ∀ i p, l[i]? = some p → Q i p
 | 0, _ => ⟨[], rfl, fun i p h => by simp at h⟩
 | n + 1, h => by
  obtain ⟨l, hl, hq⟩ := Qbd n (fun i hi => h i (by omega)); obtain ⟨p, hp⟩ := h n (by omega); refine ⟨l ++ [p], by simp [hl], fun i q hi => ?_⟩
  rcases Nat.lt_or_ge i l.length with h1 | h1
  ·rw [List.getElem?_append_left h1] at hi
   exact hq i q hi
  ·have : i = n := by
    have := (List.getElem?_eq_some_iff.1 hi).1
    simp at this
    omega
   subst this; rw [List.getElem?_append_right h1, hl, Nat.sub_self] at hi; obtain rfl : p = q := by simpa using hi
   exact hp
theorem Qa0.slice {α : Type} {P : Program} {d : Kd α} {t e : TypeId} {B : α → Prop} (h : Qa0 P d e B) (ht : P.underlying t = some (.slice e)) (hc : P.cellsOf t = 1) : Qa0 P (Kd.slice e d) t (fun l => ∀ x ∈ l, B x) :=
 ⟨hc, fun H enc w base spare held n cs x hx => by
  rcases open_slice ht hx with ⟨rfl, _⟩ | ⟨a, len, cap, m, n', D, Pl, rfl, hb, hl, hm, hmm, _, hi⟩
  ·exact ⟨[], ⟨none, 0, rfl, Nat.le_refl _, Kd.C_nil _ _⟩, fun x hx => by cases hx⟩
  ·obtain ⟨l, hll, hq⟩ := Qbd (Q := fun i p => (∃ cs', d.K w p cs' ∧ ∀ j, j < d.sz → w.cell? (a.add (i * d.sz + j)) = cs'[j]?) ∧ B p) len (fun i hi' => by
    obtain ⟨cs', hcs, htr⟩ := hi i (by rw [hmm]; split <;> omega); obtain ⟨p, hk, hp⟩ := h.op H enc w base spare held n' cs' _ htr; obtain ⟨_, hcl, hat⟩ := World.cells?_some hcs; rw [h.sz] at hat
    exact ⟨p, ⟨cs', hk, fun j hj => by
     have := hat j hj; rw [Go.Deep.add_add] at this; exact this⟩, hp⟩)
   refine ⟨l, ⟨some a, cap, by rw [hll], by rw [hll]; exact hl, ⟨rfl, by rw [hll]; simp only [maxLen] at hm; omega, fun h0 => ⟨a, rfl, fun j p hj => ?_⟩⟩⟩, fun x hx => ?_⟩
   ·obtain ⟨⟨cs', hk, hat⟩, _⟩ := hq j p hj
    refine ⟨cs', d.K_len hk, hk, fun i u hu => ?_⟩; have hi' : i < d.sz := by have := (List.getElem?_eq_some_iff.1 hu).1; rw [d.K_len hk] at this; exact this
    rw [hat i hi', hu]
   ·obtain ⟨i, hi'⟩ := List.getElem?_of_mem hx
    exact (hq i x hi').2⟩
def Qaz {α : Type} (P : Program) (fs : Array Field) (j off : Nat) (d : Kd α) (B : α → Prop) : Prop :=
 ∀ (H : Type) (enc : TypeId × Value → H) (w : World) (base : Nat) (spare : Nat → Bool) (held : Bool) (n : Nat) (cs : List Value) (xs : List (DataW H × List MemPlace)), xs.length = fs.size →
  (∀ (i : Nat) (f : Field), fs[i]? = some f → DataW.trod enc P w base spare held n f.type ((cs.drop f.offset).take (P.cellsOf f.type)) = xs[i]?) → ∃ p, d.K w p ((cs.drop off).take d.sz) ∧ B p
theorem Qaz.one {α : Type} {P : Program} {fs : Array Field} {j off : Nat} {d : Kd α} {B : α → Prop} (f : Field) (hf : fs[j]? = some f) (ho : f.offset = off) (h : Qa0 P d f.type B) : Qaz P fs j off d B := by
 intro H enc w base spare held n cs xs hl hx; have h1 := hx j f hf; have hj : j < xs.length := by rw [hl]; exact (Array.getElem?_eq_some_iff.1 hf).1
 rw [List.getElem?_eq_getElem hj, ho, h.sz] at h1; exact h.op H enc w base spare held n _ _ h1
theorem Qaz.cons {α β : Type} {P : Program} {fs : Array Field} {j off : Nat} {d : Kd α} {d' : Kd β} {B : α → Prop} {B' : β → Prop} (h : Qaz P fs j off d B) (h' : Qaz P fs (j + 1) (off + d.sz) d' B') : Qaz P fs j off (Kd.pair d d') (fun p => B p.1 ∧ B' p.2) := by
 intro H enc w base spare held n cs xs hl hx; obtain ⟨p, h1, h2⟩ := h H enc w base spare held n cs xs hl hx; obtain ⟨q, h3, h4⟩ := h' H enc w base spare held n cs xs hl hx; refine ⟨(p, q), ⟨_, _, ?_, h1, h3⟩, h2, h4⟩; show (cs.drop off).take (d.sz + d'.sz) = _; rw [List.take_add, List.drop_drop]
theorem Qaz.iso {α β : Type} {P : Program} {fs : Array Field} {j off : Nat} {d : Kd α} {B : α → Prop} (h : Qaz P fs j off d B) (f : β → α) (g : α → β) (hg : ∀ a, f (g a) = a) : Qaz P fs j off (Kd.iso d f) (fun y => B (f y)) := by
 intro H enc w base spare held n cs xs hl hx; obtain ⟨p, h1, h2⟩ := h H enc w base spare held n cs xs hl hx; exact ⟨g p, by show d.K w (f (g p)) _; rw [hg]; exact h1, by show B (f (g p)); rw [hg]; exact h2⟩
theorem Qa0.struct {α : Type} {P : Program} {fs : Array Field} {d : Kd α} {t : TypeId} {B : α → Prop} (h : Qaz P fs 0 0 d B) (ht : P.underlying t = some (.struct fs)) (hc : P.cellsOf t = d.sz) : Qa0 P d t B :=
 ⟨hc, fun H enc w base spare held n cs x hx => by
  obtain ⟨xs, n', _, _, hcl, hl, hf⟩ := DataW.trod_struct ht hx; obtain ⟨p, h1, h2⟩ := h H enc w base spare held n' cs xs hl hf; refine ⟨p, ?_, h2⟩; rw [List.drop_zero, List.take_of_length_le (by rw [hcl, hc]; exact Nat.le_refl _)] at h1; exact h1⟩
theorem Qa0.arg_slice {α : Type} {P : Program} {d : Kd α} {t e : TypeId} {B : List α → Prop} (h : Qa0 P (Kd.slice e d) t B) {H : Type} {enc : TypeId × Value → H} {w : World} {base : Nat} {spare : Nat → Bool} {held : Bool} {v : Value} {x : DataW H} {ps : List MemPlace} {a : Option Addr} {len cap : Nat} (hv : v = .slice a len cap) (hx : DataW.Trod enc P w base spare held t v x ps) :
  ∃ l : List α, len = l.length ∧ l.length ≤ cap ∧ Kd.C d w a l.length l ∧ B l := by
 obtain ⟨n, hn⟩ := hx; subst hv; obtain ⟨l, ⟨A, c, he, hl, hr⟩, hb⟩ := h.op H enc w base spare held n _ _ hn; have he' : Value.slice a len cap = .slice A l.length c := by simpa [Value.cells] using he
 cases he'
 exact ⟨l, rfl, hl, hr, hb⟩
end Go.Proofs.YtjaapkkpmegkfaaGreat.P
