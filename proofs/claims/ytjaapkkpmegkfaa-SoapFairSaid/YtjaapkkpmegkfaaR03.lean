/- Part 3 of what the law's proof needs: words, walks of functions and plain facts. -/
import Derived.Shelf.SlicesQ.Load
import Derived.Shelf.Abstract
import Derived.Lib.Hide
import Derived.Lib.BufferMore
import Derived.Lib.LazyBuf
import Derived.Test.YtjaapkkpmegkfaaR02
set_option linter.unusedVariables false
set_option linter.unusedSimpArgs false
namespace Go.Proofs.Ytjaapkkpmegkfaa.P
open Go.RowKit Go.Proofs.YtjaapkkpmegkfaaW.PrintWords Go.Proofs.YtjaapkkpmegkfaaW.PrintLast Go.Proofs.YtjaapkkpmegkfaaW.PrintMore
theorem w64 {x : Int} (h : -9223372036854775808 ≤ x ∧ x ≤ 9223372036854775807) : wrap64 x = x := by unfold wrap64; omega
theorem YT {l : List Int} {i : Nat} (h : i < l.length) : rd l (i : Int) = l[i] := by simp [rd, List.getD_eq_getElem?_getD, List.getElem?_eq_getElem h]
theorem like_at (a b : List Int) (hl : a.length = b.length) (hm : a.length ≤ 9223372036854775806) (d : Nat) : ∀ (k i : Nat), i + d = a.length → d < k → Qm.l0 k a b (i : Int) = some (decide (a.drop i = b.drop i)) := by
 induction d with
 | zero =>
  intro k i hi hk; obtain ⟨k, rfl⟩ : ∃ m, k = m + 1 := ⟨k - 1, by omega⟩
  simp only [Qm.l0]; rw [if_neg (by omega)]; rw [List.drop_of_length_le (by omega), List.drop_of_length_le (by omega)]
  simp
 | succ d ih =>
  intro k i hi hk; obtain ⟨k, rfl⟩ : ∃ m, k = m + 1 := ⟨k - 1, by omega⟩
  have hw : wrap64 ((i : Int) + 1) = ((i + 1 : Nat) : Int) := by rw [w64 (by omega)]; omega
  simp only [Qm.l0]; rw [if_pos (by omega), if_pos (by omega), if_pos (by omega), YT (by omega), YT (by omega), hw]; rw [List.drop_eq_getElem_cons (show i < a.length by omega), List.drop_eq_getElem_cons (show i < b.length by omega)]; by_cases h : a[i] = b[i]
  ·rw [if_pos h, ih k (i + 1) (by omega) (by omega)]
   congr 1
   exact decide_eq_decide.2 ⟨fun e => by rw [e, h], fun e => (List.cons.inj e).2⟩
  ·rw [if_neg h]
   congr 1
   symm
   rw [decide_eq_false_iff_not]; exact fun e => h (List.cons.inj e).1
theorem like_eq (a b : List Int) (hm : a.length ≤ 9223372036854775806) {k : Nat} (hk : a.length < k) : Qm.f k a b = some (decide (a = b)) := by
 unfold Qm.f; by_cases h : a.length = b.length
 ·rw [if_pos (by omega)]
  have := like_at a b h hm a.length k 0 (by omega) hk
  simpa using this
 ·rw [if_neg (by omega)]
  congr 1
  symm
  rw [decide_eq_false_iff_not]; intro e; exact h (by rw [e])
theorem Y1 (a b : Int) (l : List Int) : Qk.f a b l = some (l.all fun x => decide (a ≤ x ∧ x ≤ b)) := by
 unfold Qk.f Jr.f
 rw [YA (p := fun x => !decide (a ≤ x ∧ x ≤ b)) (fun x _ => by
  unfold J2.f; by_cases h : x < a
  ·rw [if_pos h]
   congr 1
   symm
   simp
   omega
  ·rw [if_neg h]
   congr 1
   rw [Bool.eq_iff_iff]
   simp
   omega)]
 simp only [Option.bind_some]
 congr 1
 induction l with
 | nil => rfl
 | cons x l ih =>
  rw [List.any_cons, List.all_cons, Bool.not_or, ih]
  simp
theorem isSpan_eq (lo hi a b : Int) : Q1.f lo hi a b = some (decide (a ≤ lo ∧ lo ≤ hi ∧ hi ≤ b)) := by
 unfold Q1.f; rw [Y1]; simp only [Option.bind_some]; by_cases h : a ≤ lo ∧ lo ≤ b ∧ a ≤ hi ∧ hi ≤ b
 ·rw [if_pos (by simp; omega)]
  congr 1
  rw [Bool.eq_iff_iff]
  simp
  omega
 ·rw [if_neg (by simp; omega)]
  congr 1
  symm
  simp
  omega
theorem In_eq (n a b : Int) : Jp.f n a b = some (decide (a ≤ n ∧ n ≤ b)) := by
 unfold Jp.f; by_cases h : n ≥ a
 ·rw [if_pos h]
  congr 1
  rw [Bool.eq_iff_iff]
  simp
  omega
 ·rw [if_neg h]
  congr 1
  symm
  simp
  omega
theorem Span_eq (lo hi a b : Int) : J4.f lo hi a b = some (decide (a ≤ lo ∧ lo ≤ hi ∧ hi ≤ b)) := by
 unfold J4.f; rw [In_eq]; simp only [Option.bind_some]; by_cases h : a ≤ lo ∧ lo ≤ hi
 ·rw [if_pos (by simpa using h)]
  congr 1
  rw [Bool.eq_iff_iff]
  simp
  omega
 ·rw [if_neg (by simpa using h)]
  congr 1
  symm
  simp
  omega
end Go.Proofs.Ytjaapkkpmegkfaa.P
namespace Go.Proofs.Ytjaapkkpmegkfaa.P
open Go.RowKit Go.Proofs.YtjaapkkpmegkfaaW.PrintWords Go.Proofs.YtjaapkkpmegkfaaW.PrintLast Go.Proofs.YtjaapkkpmegkfaaW.PrintMore
attribute [local go_sem] JG JH JY JX Jv Ju JJ JK
def Zh.f (a0_0 a0_1 a0_2 a0_3 a0_4 : Int) : Option Bool := (Qk.f 1 400 (([a0_0] : List Int))).bind fun t105 => (if t105 = true then ((Qk.f 0 10000 (([a0_1] : List Int))).bind fun t109 => (if t109 = true then ((Qk.f 0 50 (([a0_2] : List Int))).bind fun t113 => (if t113 = true then ((Q1.f a0_3 a0_4 0 2000).bind fun t114 => (some (!t114))) else (some true))) else (some true))) else (some true))
set_option maxHeartbeats 8000000 in
set_option maxRecDepth 100000 in
theorem Zh.calls (a0_0 a0_1 a0_2 a0_3 a0_4 : Int) (r : Bool) (w : World) (h : Zh.f a0_0 a0_1 a0_2 a0_3 a0_4 = some r) :
  Calls Try.prog 47 #[.agg #[.int .i64 a0_0, .int .i64 a0_1, .int .i64 a0_2, .int .i64 a0_3, .int .i64 a0_4]] w fun e w' => e = .returned (.bool r) ∧ Below w.heap.size w w' := by
 have hu59 := Try.underlying59; have hu36 := Try.underlying36; have HB := Qa.mk (Below.refl w.heap.size w); have H : ((Qk.f 1 400 (([a0_0] : List Int))).bind fun t105 => (if t105 = true then ((Qk.f 0 10000 (([a0_1] : List Int))).bind fun t109 => (if t109 = true then ((Qk.f 0 50 (([a0_2] : List Int))).bind fun t113 => (if t113 = true then ((Q1.f a0_3 a0_4 0 2000).bind fun t114 => (some (!t114))) else (some true))) else (some true))) else (some true))) = some r := h; clear h; obtain ⟨y102, hy102⟩ : ∃ y_ : List Int, y_ = (([a0_0] : List Int)) := ⟨_, rfl⟩
 replace H : Option.bind (Qk.f 1 400 y102) _ = some r := yy hy102 H; have Ny102 := Qa.mk hy102; clear hy102; obtain ⟨t105, A2, H⟩ := bi H; by_cases c3 : t105 = true
 ·subst c3
  rw [if_pos rfl] at H; obtain ⟨y106, hy106⟩ : ∃ y_ : List Int, y_ = (([a0_1] : List Int)) := ⟨_, rfl⟩
  replace H : Option.bind (Qk.f 0 10000 y106) _ = some r := yy hy106 H; have Ny106 := Qa.mk hy106; clear hy106; obtain ⟨t109, A4, H⟩ := bi H; by_cases c5 : t109 = true
  ·subst c5
   rw [if_pos rfl] at H; obtain ⟨y110, hy110⟩ : ∃ y_ : List Int, y_ = (([a0_2] : List Int)) := ⟨_, rfl⟩
   replace H : Option.bind (Qk.f 0 50 y110) _ = some r := yy hy110 H; have Ny110 := Qa.mk hy110; clear hy110; obtain ⟨t113, A6, H⟩ := bi H; by_cases c7 : t113 = true
   ·subst c7
    rw [if_pos rfl] at H; obtain ⟨t114, A8, H⟩ := bi H; obtain rfl := Option.some.inj H; go_enter Try.func47, Try.ntmps47; go_wp2_with (first | ((with_reducible refine gd 1 ?_); (try (refine QG (by rfl) ?_; dsimp only)); refine bx 1 #[.int .i64 a0_0, .int .i64 a0_1, .int .i64 a0_2, .int .i64 a0_3, .int .i64 a0_4] 59 ?_; intro gb101 hg w9 BK101 hb; have GW101 := gs HB hg; replace HB := bs HB hb; clear hb hg; obtain ⟨_, _, _, _, _, _, _, _, _, _⟩ := cf5 BK101) | ((with_reducible refine gd 5 ?_); (try (refine QG (by rfl) ?_; dsimp only)); refine rL (Kd.int .i64) 3 5 ([a0_0] : List Int) [.int .i64 a0_0] (Reps.one (show Kd.M (Kd.int .i64) _ _ _ a0_0 [.int .i64 a0_0] from rfl) (Reps.none _ _)) ?_; intro v103 w11 ho12 hb; replace ho12 := yR Ny102 ho12; have HO104 := rl ho12 HB; replace BK101 := bb BK101 hb; replace HB := bs HB hb; clear hb ho12; obtain ⟨Ao13, co13, eo13⟩ := Kd.R_slice HO104.out; subst eo13) | ((with_reducible refine gc 7 rfl ?_); refine gL 6 Try.func7 #[.int .i64 1, .int .i64 400, .slice Ao13 y102.length co13] ?_; (with_reducible refine (Qk.calls 1 400 _ _ y102 true _ ?side1 ?side2 A2.out).mono ?_); (case side1 => exact pC (Kd.R_reads' HO104.out).2.2); (case side2 => exact (Kd.R_reads' HO104.out).2.1); rintro e w14 ⟨rfl, hb⟩; refine ⟨_, rfl, ?_⟩; replace HO104 := rb HO104 hb; replace BK101 := bb BK101 hb; replace HB := bs HB hb; clear hb; obtain ⟨_, _, _, _, _, _, _, _, _, _⟩ := cf5 BK101) | ((with_reducible refine gd 11 ?_); (try (refine QG (by rfl) ?_; dsimp only)); refine rL (Kd.int .i64) 3 11 ([a0_1] : List Int) [.int .i64 a0_1] (Reps.one (show Kd.M (Kd.int .i64) _ _ _ a0_1 [.int .i64 a0_1] from rfl) (Reps.none _ _)) ?_; intro v107 w16 ho17 hb; replace ho17 := yR Ny106 ho17; have HO108 := Qa.mk (Kd.R_lower (Kd.R_new' ho17 (Kd.R_lt (pR HO104.out))) (Qr (pE HB))); replace HO104 := re HO104 ho17 hb; replace BK101 := bb BK101 hb; replace HB := bs HB hb; clear hb ho17; obtain ⟨Ao18, co18, eo18⟩ := Kd.R_slice HO108.out; subst eo18) | (go_at_call 7; (with_reducible refine (Qk.calls 0 10000 _ _ y106 true _ ?side1 ?side2 A4.out).mono ?_); (case side1 => exact pC (Kd.R_reads' HO108.out).2.2); (case side2 => exact (Kd.R_reads' HO108.out).2.1); rintro e w19 ⟨rfl, hb⟩; replace HO104 := rb HO104 hb; replace HO108 := rb HO108 hb; replace BK101 := bb BK101 hb; replace HB := bs HB hb; (try clear hb); (try clear hb2); (try clear hk); (try clear hi); obtain ⟨_, _, _, _, _, _, _, _, _, _⟩ := cf5 BK101) | ((with_reducible refine gd 18 ?_); (try (refine QG (by rfl) ?_; dsimp only)); refine rL (Kd.int .i64) 3 18 ([a0_2] : List Int) [.int .i64 a0_2] (Reps.one (show Kd.M (Kd.int .i64) _ _ _ a0_2 [.int .i64 a0_2] from rfl) (Reps.none _ _)) ?_; intro v111 w21 ho22 hb; replace ho22 := yR Ny110 ho22; have HO112 := Qa.mk (Kd.R_lower (Kd.R_new' (Kd.R_new' ho22 (Kd.R_lt (pR HO104.out))) (Kd.R_lt (pR HO108.out))) (Qr (pE HB))); replace HO104 := re HO104 ho22 hb; replace HO108 := re HO108 ho22 hb; replace BK101 := bb BK101 hb; replace HB := bs HB hb; clear hb ho22; obtain ⟨Ao23, co23, eo23⟩ := Kd.R_slice HO112.out; subst eo23) | (go_at_call 7; (with_reducible refine (Qk.calls 0 50 _ _ y110 true _ ?side1 ?side2 A6.out).mono ?_); (case side1 => exact pC (Kd.R_reads' HO112.out).2.2); (case side2 => exact (Kd.R_reads' HO112.out).2.1); rintro e w24 ⟨rfl, hb⟩; replace HO104 := rb HO104 hb; replace HO108 := rb HO108 hb; replace HO112 := rb HO112 hb; replace BK101 := bb BK101 hb; replace HB := bs HB hb; (try clear hb); (try clear hb2); (try clear hk); (try clear hi); obtain ⟨_, _, _, _, _, _, _, _, _, _⟩ := cf5 BK101) | (go_at_call 48; (with_reducible refine (Q1.calls a0_3 a0_4 0 2000 t114 _ A8.out).mono ?_); rintro e w26 ⟨rfl, hb⟩; replace HO104 := rb HO104 hb; replace HO108 := rb HO108 hb; replace HO112 := rb HO112 hb; replace BK101 := bb BK101 hb; replace HB := bs HB hb; (try clear hb); (try clear hb2); (try clear hk); (try clear hi))); go_ret; exact ⟨eT, pE HB⟩
   ·replace c7 := Bool.eq_false_iff.mpr c7
    subst c7; rw [if_neg (show ¬ (false = true) by decide)] at H; obtain rfl := Option.some.inj H; go_enter Try.func47, Try.ntmps47; go_wp2_with (first | ((with_reducible refine gd 1 ?_); (try (refine QG (by rfl) ?_; dsimp only)); refine bx 1 #[.int .i64 a0_0, .int .i64 a0_1, .int .i64 a0_2, .int .i64 a0_3, .int .i64 a0_4] 59 ?_; intro gb101 hg w27 BK101 hb; have GW101 := gs HB hg; replace HB := bs HB hb; clear hb hg; obtain ⟨_, _, _, _, _, _, _, _, _, _⟩ := cf5 BK101) | ((with_reducible refine gd 5 ?_); (try (refine QG (by rfl) ?_; dsimp only)); refine rL (Kd.int .i64) 3 5 ([a0_0] : List Int) [.int .i64 a0_0] (Reps.one (show Kd.M (Kd.int .i64) _ _ _ a0_0 [.int .i64 a0_0] from rfl) (Reps.none _ _)) ?_; intro v103 w29 ho30 hb; replace ho30 := yR Ny102 ho30; have HO104 := rl ho30 HB; replace BK101 := bb BK101 hb; replace HB := bs HB hb; clear hb ho30; obtain ⟨Ao31, co31, eo31⟩ := Kd.R_slice HO104.out; subst eo31) | ((with_reducible refine gc 7 rfl ?_); refine gL 6 Try.func7 #[.int .i64 1, .int .i64 400, .slice Ao31 y102.length co31] ?_; (with_reducible refine (Qk.calls 1 400 _ _ y102 true _ ?side1 ?side2 A2.out).mono ?_); (case side1 => exact pC (Kd.R_reads' HO104.out).2.2); (case side2 => exact (Kd.R_reads' HO104.out).2.1); rintro e w32 ⟨rfl, hb⟩; refine ⟨_, rfl, ?_⟩; replace HO104 := rb HO104 hb; replace BK101 := bb BK101 hb; replace HB := bs HB hb; clear hb; obtain ⟨_, _, _, _, _, _, _, _, _, _⟩ := cf5 BK101) | ((with_reducible refine gd 11 ?_); (try (refine QG (by rfl) ?_; dsimp only)); refine rL (Kd.int .i64) 3 11 ([a0_1] : List Int) [.int .i64 a0_1] (Reps.one (show Kd.M (Kd.int .i64) _ _ _ a0_1 [.int .i64 a0_1] from rfl) (Reps.none _ _)) ?_; intro v107 w34 ho35 hb; replace ho35 := yR Ny106 ho35; have HO108 := Qa.mk (Kd.R_lower (Kd.R_new' ho35 (Kd.R_lt (pR HO104.out))) (Qr (pE HB))); replace HO104 := re HO104 ho35 hb; replace BK101 := bb BK101 hb; replace HB := bs HB hb; clear hb ho35; obtain ⟨Ao36, co36, eo36⟩ := Kd.R_slice HO108.out; subst eo36) | (go_at_call 7; (with_reducible refine (Qk.calls 0 10000 _ _ y106 true _ ?side1 ?side2 A4.out).mono ?_); (case side1 => exact pC (Kd.R_reads' HO108.out).2.2); (case side2 => exact (Kd.R_reads' HO108.out).2.1); rintro e w37 ⟨rfl, hb⟩; replace HO104 := rb HO104 hb; replace HO108 := rb HO108 hb; replace BK101 := bb BK101 hb; replace HB := bs HB hb; (try clear hb); (try clear hb2); (try clear hk); (try clear hi); obtain ⟨_, _, _, _, _, _, _, _, _, _⟩ := cf5 BK101) | ((with_reducible refine gd 18 ?_); (try (refine QG (by rfl) ?_; dsimp only)); refine rL (Kd.int .i64) 3 18 ([a0_2] : List Int) [.int .i64 a0_2] (Reps.one (show Kd.M (Kd.int .i64) _ _ _ a0_2 [.int .i64 a0_2] from rfl) (Reps.none _ _)) ?_; intro v111 w39 ho40 hb; replace ho40 := yR Ny110 ho40; have HO112 := Qa.mk (Kd.R_lower (Kd.R_new' (Kd.R_new' ho40 (Kd.R_lt (pR HO104.out))) (Kd.R_lt (pR HO108.out))) (Qr (pE HB))); replace HO104 := re HO104 ho40 hb; replace HO108 := re HO108 ho40 hb; replace BK101 := bb BK101 hb; replace HB := bs HB hb; clear hb ho40; obtain ⟨Ao41, co41, eo41⟩ := Kd.R_slice HO112.out; subst eo41) | (go_at_call 7; (with_reducible refine (Qk.calls 0 50 _ _ y110 false _ ?side1 ?side2 A6.out).mono ?_); (case side1 => exact pC (Kd.R_reads' HO112.out).2.2); (case side2 => exact (Kd.R_reads' HO112.out).2.1); rintro e w42 ⟨rfl, hb⟩; replace HO104 := rb HO104 hb; replace HO108 := rb HO108 hb; replace HO112 := rb HO112 hb; replace BK101 := bb BK101 hb; replace HB := bs HB hb; (try clear hb); (try clear hb2); (try clear hk); (try clear hi))); go_ret; exact ⟨eT, pE HB⟩
  ·replace c5 := Bool.eq_false_iff.mpr c5
   subst c5; rw [if_neg (show ¬ (false = true) by decide)] at H; obtain rfl := Option.some.inj H; go_enter Try.func47, Try.ntmps47; go_wp2_with (first | ((with_reducible refine gd 1 ?_); (try (refine QG (by rfl) ?_; dsimp only)); refine bx 1 #[.int .i64 a0_0, .int .i64 a0_1, .int .i64 a0_2, .int .i64 a0_3, .int .i64 a0_4] 59 ?_; intro gb101 hg w43 BK101 hb; have GW101 := gs HB hg; replace HB := bs HB hb; clear hb hg; obtain ⟨_, _, _, _, _, _, _, _, _, _⟩ := cf5 BK101) | ((with_reducible refine gd 5 ?_); (try (refine QG (by rfl) ?_; dsimp only)); refine rL (Kd.int .i64) 3 5 ([a0_0] : List Int) [.int .i64 a0_0] (Reps.one (show Kd.M (Kd.int .i64) _ _ _ a0_0 [.int .i64 a0_0] from rfl) (Reps.none _ _)) ?_; intro v103 w45 ho46 hb; replace ho46 := yR Ny102 ho46; have HO104 := rl ho46 HB; replace BK101 := bb BK101 hb; replace HB := bs HB hb; clear hb ho46; obtain ⟨Ao47, co47, eo47⟩ := Kd.R_slice HO104.out; subst eo47) | ((with_reducible refine gc 7 rfl ?_); refine gL 6 Try.func7 #[.int .i64 1, .int .i64 400, .slice Ao47 y102.length co47] ?_; (with_reducible refine (Qk.calls 1 400 _ _ y102 true _ ?side1 ?side2 A2.out).mono ?_); (case side1 => exact pC (Kd.R_reads' HO104.out).2.2); (case side2 => exact (Kd.R_reads' HO104.out).2.1); rintro e w48 ⟨rfl, hb⟩; refine ⟨_, rfl, ?_⟩; replace HO104 := rb HO104 hb; replace BK101 := bb BK101 hb; replace HB := bs HB hb; clear hb; obtain ⟨_, _, _, _, _, _, _, _, _, _⟩ := cf5 BK101) | ((with_reducible refine gd 11 ?_); (try (refine QG (by rfl) ?_; dsimp only)); refine rL (Kd.int .i64) 3 11 ([a0_1] : List Int) [.int .i64 a0_1] (Reps.one (show Kd.M (Kd.int .i64) _ _ _ a0_1 [.int .i64 a0_1] from rfl) (Reps.none _ _)) ?_; intro v107 w50 ho51 hb; replace ho51 := yR Ny106 ho51; have HO108 := Qa.mk (Kd.R_lower (Kd.R_new' ho51 (Kd.R_lt (pR HO104.out))) (Qr (pE HB))); replace HO104 := re HO104 ho51 hb; replace BK101 := bb BK101 hb; replace HB := bs HB hb; clear hb ho51; obtain ⟨Ao52, co52, eo52⟩ := Kd.R_slice HO108.out; subst eo52) | (go_at_call 7; (with_reducible refine (Qk.calls 0 10000 _ _ y106 false _ ?side1 ?side2 A4.out).mono ?_); (case side1 => exact pC (Kd.R_reads' HO108.out).2.2); (case side2 => exact (Kd.R_reads' HO108.out).2.1); rintro e w53 ⟨rfl, hb⟩; replace HO104 := rb HO104 hb; replace HO108 := rb HO108 hb; replace BK101 := bb BK101 hb; replace HB := bs HB hb; (try clear hb); (try clear hb2); (try clear hk); (try clear hi))); go_ret; exact ⟨eT, pE HB⟩
 ·replace c3 := Bool.eq_false_iff.mpr c3
  subst c3; rw [if_neg (show ¬ (false = true) by decide)] at H; obtain rfl := Option.some.inj H; go_enter Try.func47, Try.ntmps47; go_wp2_with (first | ((with_reducible refine gd 1 ?_); (try (refine QG (by rfl) ?_; dsimp only)); refine bx 1 #[.int .i64 a0_0, .int .i64 a0_1, .int .i64 a0_2, .int .i64 a0_3, .int .i64 a0_4] 59 ?_; intro gb101 hg w54 BK101 hb; have GW101 := gs HB hg; replace HB := bs HB hb; clear hb hg; obtain ⟨_, _, _, _, _, _, _, _, _, _⟩ := cf5 BK101) | ((with_reducible refine gd 5 ?_); (try (refine QG (by rfl) ?_; dsimp only)); refine rL (Kd.int .i64) 3 5 ([a0_0] : List Int) [.int .i64 a0_0] (Reps.one (show Kd.M (Kd.int .i64) _ _ _ a0_0 [.int .i64 a0_0] from rfl) (Reps.none _ _)) ?_; intro v103 w56 ho57 hb; replace ho57 := yR Ny102 ho57; have HO104 := rl ho57 HB; replace BK101 := bb BK101 hb; replace HB := bs HB hb; clear hb ho57; obtain ⟨Ao58, co58, eo58⟩ := Kd.R_slice HO104.out; subst eo58) | ((with_reducible refine gc 7 rfl ?_); refine gL 6 Try.func7 #[.int .i64 1, .int .i64 400, .slice Ao58 y102.length co58] ?_; (with_reducible refine (Qk.calls 1 400 _ _ y102 false _ ?side1 ?side2 A2.out).mono ?_); (case side1 => exact pC (Kd.R_reads' HO104.out).2.2); (case side2 => exact (Kd.R_reads' HO104.out).2.1); rintro e w59 ⟨rfl, hb⟩; refine ⟨_, rfl, ?_⟩; replace HO104 := rb HO104 hb; replace BK101 := bb BK101 hb; replace HB := bs HB hb; clear hb)); go_ret; exact ⟨eT, pE HB⟩
set_option maxHeartbeats 4000000 in
set_option maxRecDepth 100000 in
theorem hof65.callsO (q : S59 → Option Bool) (g : Nat) (lb : Array Value) (eg : ∀ args w, (callFunc g args).run Try.prog w = .ok (.enter g args) w) (Ad : Option Addr) (c : Nat) (l : List S59) (r : Int) (w : World) (hr : Kd.C k59 w Ad l.length l)
  (hp : ∀ x ∈ l, ∀ b, q x = some b → ∀ (W : World), Below w.heap.size w W → Calls Try.prog g (#[.agg #[.int .i64 x.f0, .int .i64 x.f1, .int .i64 x.f2, .int .i64 x.f3.f0, .int .i64 x.f3.f1]] ++ lb) W fun e w' => e = .returned (.bool b) ∧ Below W.heap.size W w') (h : idxO q l 0 = some r) :
  Calls Try.prog 65 #[.slice Ad l.length c, .func (.func g) #[] lb] w fun e w' => e = .returned (.int .i64 r) ∧ Below w.heap.size w w' := by
 have hbig : l.length ≤ 9223372036854775807 := hr.2.1; have e0 := Lib.hid (Zx q l); have hr' := Lib.hid hr; have hp' := Lib.hid hp; have H0 : Hid (idxO q (l.drop 0) 0 = some r) := Lib.hid (by rw [List.drop_zero]; exact h); clear hr hp h; go_enter Try.func65, Try.ntmps65; go_wp2
 go_loopg [5, 8] l.length (fun gg _ s8 wr => ∃ kk : Nat, kk ≤ l.length ∧ l.length - kk ≤ gg ∧ s8 = .int .i64 kk ∧ Aside (Below w.heap.size w wr) ∧ Aside (idxO q (l.drop kk) kk = some r))
 case atStart => exact ⟨0, Nat.zero_le _, by omega, rfl, Below.refl _ w, H0.out⟩
 case round =>
  obtain ⟨kk, hkk, hg, rfl, BW, HE⟩ := hrel; by_cases hlt : kk < l.length
  ·have hltz : (kk : Int) < (l.length : Int) := by omega
   obtain ⟨ad, rfl, h0_, h1_, h2_, h3_, h4_⟩ := Xz (Kd.C_below hr'.out BW.out) (kk : Int) (by omega) (by omega); simp only [Int.toNat_natCast] at h0_ h1_ h2_ h3_ h4_; have hrd : Qu l (kk : Int) = l[kk] := by simp [Qu, List.getD_eq_getElem?_getD, List.getElem?_eq_getElem hlt]
   rw [hrd] at h0_ h1_ h2_ h3_ h4_; clear hrd; have H1 := HE.out; rw [e0.out kk hlt] at H1; obtain ⟨b, hb, H2⟩ := Option.bind_eq_some_iff.mp H1; have hcall := hp'.out l[kk] (List.getElem_mem hlt) b hb wr BW.out; generalize hy : l[kk] = y at h0_ h1_ h2_ h3_ h4_ hcall; have H2' := Lib.hid H2; clear hy H2 H1 hb
   cases b with
   | true =>
    go_wp2_with (go_at_fn g; refine hcall.mono ?_; rintro e w' ⟨rfl, hb'⟩); go_ret; refine ⟨?_, Below.trans BW.out (hb'.mono BW.out.size)⟩; have H3 := H2'.out; simp only [if_true] at H3; rw [← Option.some.inj H3]; rfl
   | false =>
    go_wp2_with (go_at_fn g; refine hcall.mono ?_; rintro e w' ⟨rfl, hb'⟩)
    go_roundg (l.length - (kk + 1))
    case measure => omega
    case rel =>
     refine ⟨kk + 1, by omega, by omega, by go_num, Below.trans BW.out (hb'.mono BW.out.size), (show Aside _ from ?_)⟩; have H3 := H2'.out; have H4 : idxO q (l.drop (kk + 1)) (kk + 1) = some r := by simpa using H3
     exact H4
  ·have hltz : ¬ (kk : Int) < (l.length : Int) := by omega
   have HK := Lib.hid (show l.length ≤ kk by omega); go_wp2; go_ret; refine ⟨?_, BW.out⟩; have H3 := HE.out; rw [List.drop_eq_nil_of_le HK.out] at H3; have H4 : some (-1 : Int) = some r := H3; rw [← Option.some.inj H4]; rfl
set_option maxHeartbeats 4000000 in
theorem hof49.callsO (q : S59 → Option Bool) (g : Nat) (lb : Array Value) (eg : ∀ args w, (callFunc g args).run Try.prog w = .ok (.enter g args) w) (Ad : Option Addr) (c : Nat) (l : List S59) (r : Bool) (w : World) (hr : Kd.C k59 w Ad l.length l)
  (hp : ∀ x ∈ l, ∀ b, q x = some b → ∀ (W : World), Below w.heap.size w W → Calls Try.prog g (#[.agg #[.int .i64 x.f0, .int .i64 x.f1, .int .i64 x.f2, .int .i64 x.f3.f0, .int .i64 x.f3.f1]] ++ lb) W fun e w' => e = .returned (.bool b) ∧ Below W.heap.size W w') (h : anyO q l = some r) :
  Calls Try.prog 49 #[.slice Ad l.length c, .func (.func g) #[] lb] w fun e w' => e = .returned (.bool r) ∧ Below w.heap.size w w' := by
 obtain ⟨j, h1, rfl⟩ := Zs q l 0 r h; have hcon := Lib.hid (hof65.callsO q g lb eg Ad c l j w hr hp h1); clear hr hp h1 h; go_enter Try.func49, Try.ntmps49; go_wp2_with (go_at_call 65; refine hcon.out.mono ?_; rintro e w' ⟨rfl, hb'⟩); go_ret; exact ⟨rfl, hb'⟩
def Jy.f (l : List S59) : Option Bool := anyO (fun x => Zh.f x.f0 x.f1 x.f2 x.f3.f0 x.f3.f1) l
theorem Jy.calls (Ad : Option Addr) (c : Nat) (l : List S59) (r : Bool) (w : World) (hr : Kd.C k59 w Ad l.length l) (hc : l.length ≤ c) (h : Jy.f l = some r) :
  Calls Try.prog 49 #[.slice Ad l.length c, .func (.func 47) #[] #[]] w fun e w' => e = .returned (.bool r) ∧ Below w.heap.size w w' :=
 hof49.callsO (fun x => Zh.f x.f0 x.f1 x.f2 x.f3.f0 x.f3.f1) 47 _ (enters_of Try.func47 (by kernel_rfl) rfl) Ad c l r w hr (fun x hx b hq W hbW => by
  have hcl := Zh.calls x.f0 x.f1 x.f2 x.f3.f0 x.f3.f1 b W hq; exact hcl) h
def QN.l0 : Nat → List Int → List Int → List S59 → Int → Int → Option (List Int × List Int × Int)
 | 0, _, _, _, _, _ => none
 | k + 1, x2, x3, x17, x18, x19 => if x19 < x18 then (if 0 ≤ x19 then (if x19 < (x17.length : Int) then (if (wrap64 ((wrap64 (((Qu x17 x19).f1) - ((Qu x17 x19).f2))) - ((Qu x17 x19).f3.f1))) < (wrap64 (((Qu x17 x19).f0) * 16)) then (if x3.length < 17592186044416 then ((some (x3 ++ [x19] : List Int)).bind fun y104 => (if (wrap64 ((wrap64 (((Qu x17 x19).f1) + ((Qu x17 x19).f2))) - ((Qu x17 x19).f3.f0))) < (wrap64 (((Qu x17 x19).f0) * 16)) then (if x2.length < 17592186044416 then (QN.l0 k (x2 ++ [x19]) y104 x17 x18 (wrap64 (x19 + 1))) else (none)) else (QN.l0 k x2 y104 x17 x18 (wrap64 (x19 + 1))))) else (none)) else (QN.l0 k x2 x3 x17 x18 (wrap64 (x19 + 1)))) else (none)) else (none)) else (some (x2, x3, 0))
def QN.f (k : Nat) (l0 : List S59) : Option (List Int × List Int × Int) := if (l0.length : Int) > 12 then (some (([] : List Int), ([] : List Int), 5)) else ((Jy.f l0).bind fun t101 => (if t101 = true then (some (([] : List Int), ([] : List Int), 2)) else (QN.l0 k ([] : List Int) ([] : List Int) l0 (l0.length : Int) 0)))
theorem QN.mono_l : ∀ k, (∀ y0 y1 y2 y3 y4, LeO (QN.l0 k y0 y1 y2 y3 y4) (QN.l0 (k + 1) y0 y1 y2 y3 y4))
 | 0 => fun _ _ _ _ _ r h => by simp [QN.l0] at h
 | k + 1 => by
  have ih0 := QN.mono_l k
  ·intro y0 y1 y2 y3 y4
   unfold QN.l0
   repeat' first
   | (with_reducible exact ih0 _ _ _ _ _)
   | (with_reducible exact LeO.refl _)
   | (with_reducible exact LeO.none _)
   | (with_reducible refine LeO.ite ?_ ?_)
   | (with_reducible refine LeO.bind ?_ (fun _ => ?_))
theorem QN.mono : ∀ a0 k, LeO (QN.f k a0) (QN.f (k + 1) a0) := by
 intro a0 k; have ih0 := QN.mono_l k; unfold QN.f
 repeat' first
   | (with_reducible exact ih0 _ _ _ _ _)
   | (with_reducible exact LeO.refl _)
   | (with_reducible exact LeO.none _)
   | (with_reducible refine LeO.ite ?_ ?_)
   | (with_reducible refine LeO.bind ?_ (fun _ => ?_))
set_option maxHeartbeats 8000000 in
set_option maxRecDepth 100000 in
theorem QN.calls (k : Nat) (A0 : Option Addr) (c0 : Nat) (l0 : List S59) (r1 r2 : List Int) (r3 : Int) (w : World) (hr0 : Kd.C k59 w A0 l0.length l0) (hc0 : l0.length ≤ c0) (h : QN.f k l0 = some (r1, r2, r3)) :
  Calls Try.prog 19 #[.slice A0 l0.length c0] w fun e w' => ∃ v0_ v1_ : Value, e = .returned (.tuple #[v0_, v1_, .int .i64 r3]) ∧ Kd.R (Kd.int .i64) 3 w' w.heap.size (fun k_ => some k_ ≠ (v1_ : Value).ownBlock) v0_ r1 ∧ Kd.R (Kd.int .i64) 3 w' w.heap.size (fun k_ => some k_ ≠ (v0_ : Value).ownBlock) v1_ r2 ∧ Below w.heap.size w w' := by
 have hu59 := Try.underlying59; have HR0 := Qa.mk hr0; have HC0 := Qa.mk hc0; clear hr0 hc0; have HB := Qa.mk (Below.refl w.heap.size w); have H : (if (l0.length : Int) > 12 then (some (([] : List Int), ([] : List Int), 5)) else ((Jy.f l0).bind fun t101 => (if t101 = true then (some (([] : List Int), ([] : List Int), 2)) else (QN.l0 k ([] : List Int) ([] : List Int) l0 (l0.length : Int) 0)))) = some (r1, r2, r3) := h; clear h; by_cases c2 : (l0.length : Int) > 12
 ·rw [if_pos c2] at H
  have c2b0 : decide (12 < (l0.length : Int)) = true := decide_eq_true c2; have c2b1 : decide (12 < l0.length) = true := decide_eq_true (by omega); clear c2; simp only [Option.some.injEq, Prod.mk.injEq] at H; obtain ⟨rfl, rfl, rfl⟩ := H; go_enter Try.func19, Try.ntmps19; go_wp2; go_ret3; exact ⟨_, _, eT, nn_, nn_, pE HB⟩
 ·rw [if_neg c2] at H
  have c2b0 : decide (12 < (l0.length : Int)) = false := decide_eq_false c2; have c2b1 : decide (12 < l0.length) = false := decide_eq_false (by omega); clear c2; obtain ⟨t101, A3, H⟩ := bi H; by_cases c4 : t101 = true
  ·subst c4
   rw [if_pos rfl] at H; simp only [Option.some.injEq, Prod.mk.injEq] at H; obtain ⟨rfl, rfl, rfl⟩ := H; go_enter Try.func19, Try.ntmps19; go_wp2_with (first | ((with_reducible refine gc 49 rfl ?_); refine gL 16 Try.func49 #[.slice A0 l0.length c0, .func (.func 47) #[] #[]] ?_; (with_reducible refine (Jy.calls _ _ l0  true _ ?side1 ?side2 A3.out).mono ?_); (case side1 => exact pC HR0.out); (case side2 => exact HC0.out); rintro e w5 ⟨rfl, hb⟩; refine ⟨_, rfl, ?_⟩; replace HB := bs HB hb; clear hb)); go_ret3; exact ⟨_, _, eT, nn_, nn_, pE HB⟩
  ·replace c4 := Bool.eq_false_iff.mpr c4
   subst c4; rw [if_neg (show ¬ (false = true) by decide)] at H; have H' := Qa.mk H; clear H; go_enter Try.func19, Try.ntmps19; go_wp2_with (first | ((with_reducible refine gc 49 rfl ?_); refine gL 16 Try.func49 #[.slice A0 l0.length c0, .func (.func 47) #[] #[]] ?_; (with_reducible refine (Jy.calls _ _ l0  false _ ?side1 ?side2 A3.out).mono ?_); (case side1 => exact pC HR0.out); (case side2 => exact HC0.out); rintro e w6 ⟨rfl, hb⟩; refine ⟨_, rfl, ?_⟩; replace HB := bs HB hb; clear hb))
   go_loopg [2, 3, 19] k (fun kq v2 v3 v19 w' => ∃ (x2_1 : List Int) (x3_1 : List Int) (x19_1 : Int), v19 = .int .i64 x19_1 ∧ Qa (QN.l0 kq x2_1 x3_1 l0 (l0.length : Int) x19_1 = some (r1, r2, r3)) ∧ Qa (kq ≤ k) ∧ Qa (Kd.R (Kd.int .i64) 3 w' w.heap.size (fun k_ => some k_ ≠ (v3 : Value).ownBlock) v2 x2_1) ∧ Qa (Kd.R (Kd.int .i64) 3 w' w.heap.size (fun k_ => some k_ ≠ (v2 : Value).ownBlock) v3 x3_1) ∧ Qa (Below w.heap.size w w'))
   case atStart => exact ⟨(([] : List Int)), (([] : List Int)), (0), eS, H', ⟨Nat.le_refl _⟩, ⟨nn_⟩, ⟨nn_⟩, ⟨pE HB⟩⟩
   case round =>
    clear H'; try clear c2
    try clear c2b0
    try clear c2b1
    try clear p2
    try clear c4
    obtain ⟨x2_1, x3_1, x19_1, rfl, HA, HK1, HO_2, HO_3, HB⟩ := hrel
    cases gk with
    | zero => exact absurd HA.out (by simp [QN.l0])
    | succ k1 =>
     have H := HA.out; clear HA; simp only [QN.l0] at H; by_cases c7 : x19_1 < (l0.length : Int)
     ·rw [if_pos c7] at H
      have c7b0 : decide (x19_1 < (l0.length : Int)) = true := decide_eq_true c7; clear c7; by_cases c8 : 0 ≤ x19_1
      ·rw [if_pos c8] at H
       have c8b0 : decide (0 ≤ x19_1) = true := decide_eq_true c8; clear c8; by_cases c9 : x19_1 < (l0.length : Int)
       ·rw [if_pos c9] at H
        have c9b0 : decide (x19_1 < (l0.length : Int)) = true := decide_eq_true c9; clear c9; by_cases c10 : (wrap64 ((wrap64 (((Qu l0 x19_1).f1) - ((Qu l0 x19_1).f2))) - ((Qu l0 x19_1).f3.f1))) < (wrap64 (((Qu l0 x19_1).f0) * 16))
        ·rw [if_pos c10] at H
         have c10b0 : decide ((wrap64 ((wrap64 (((Qu l0 x19_1).f1) - ((Qu l0 x19_1).f2))) - ((Qu l0 x19_1).f3.f1))) < (wrap64 (((Qu l0 x19_1).f0) * 16))) = true := decide_eq_true c10; clear c10; by_cases c11 : x3_1.length < 17592186044416
         ·rw [if_pos c11] at H
          have LMc11 := Qa.mk c11; clear c11; obtain ⟨y104, hy104⟩ : ∃ y_ : List Int, y_ = (x3_1 ++ [x19_1]) := ⟨_, rfl⟩
          replace H : (if (wrap64 ((wrap64 (((Qu l0 x19_1).f1) + ((Qu l0 x19_1).f2))) - ((Qu l0 x19_1).f3.f0))) < (wrap64 (((Qu l0 x19_1).f0) * 16)) then (if x2_1.length < 17592186044416 then (QN.l0 k1 (x2_1 ++ [x19_1]) y104 l0 (l0.length : Int) (wrap64 (x19_1 + 1))) else (none)) else (QN.l0 k1 x2_1 y104 l0 (l0.length : Int) (wrap64 (x19_1 + 1)))) = some (r1, r2, r3) := yy hy104 H; have Ny104 := Qa.mk hy104; clear hy104; by_cases c12 : (wrap64 ((wrap64 (((Qu l0 x19_1).f1) + ((Qu l0 x19_1).f2))) - ((Qu l0 x19_1).f3.f0))) < (wrap64 (((Qu l0 x19_1).f0) * 16))
          ·rw [if_pos c12] at H
           have c12b0 : decide ((wrap64 ((wrap64 (((Qu l0 x19_1).f1) + ((Qu l0 x19_1).f2))) - ((Qu l0 x19_1).f3.f0))) < (wrap64 (((Qu l0 x19_1).f0) * 16))) = true := decide_eq_true c12; clear c12; by_cases c13 : x2_1.length < 17592186044416
           ·rw [if_pos c13] at H
            have LMc13 := Qa.mk c13; clear c13; obtain ⟨y107, hy107⟩ : ∃ y_ : List Int, y_ = (x2_1 ++ [x19_1]) := ⟨_, rfl⟩
            replace H : (QN.l0 k1 y107 y104 l0 (l0.length : Int) (wrap64 (x19_1 + 1))) = some (r1, r2, r3) := yy hy107 H; have Ny107 := Qa.mk hy107; clear hy107; have H' := Qa.mk H; clear H; have p102 : 0 ≤ (x19_1 : Int) := dT; have q102 : x19_1 < (l0.length : Int) := dT; obtain ⟨ad102, e102, hx102_0, hx102_1, hx102_2, hx102_3, hx102_4⟩ := Xz HR0.out x19_1 p102 q102
            cases e102
            replace hx102_0 := cut_ HB hx102_0; replace hx102_1 := cut_ HB hx102_1; replace hx102_2 := cut_ HB hx102_2; replace hx102_3 := cut_ HB hx102_3; replace hx102_4 := cut_ HB hx102_4; replace p102 := eq_true p102; replace q102 := eq_true q102; go_wp2_with (first | (refine bx 7 #[.int .i64 0, .int .i64 0, .int .i64 0, .int .i64 0, .int .i64 0] 59 ?_; intro gb103 hg w14 hbox hb; replace HO_2 := rb HO_2 hb; replace HO_3 := rb HO_3 hb; have BK103 := hbox; have GW103 := gs HB hg; replace HB := bs HB hb; clear hb hg; obtain ⟨_, _, _, _, _, _, _, _, _, _⟩ := cf5 BK103) | ((with_reducible refine JA (b := .append) (xs := #[.tmp 38, .tmp 40]) rfl ?_); at_builtin; refine Kd.R_append (Kd.int .i64) (w0 := w) w.heap.size rfl (.tmp 38) (.tmp 40) 24 3 (.int .i64 0) 8 rfl Try.underlying24 J5 rfl (by decide) (by omega) u3 x3_1 x19_1 [.int .i64 x19_1] (fun k_ => some k_ ≠ (u2 : Value).ownBlock) (fun _ => False) rfl (by first | (go_simp; done) | (go_simp; rfl)) ?aP (fun _ hk => hk.elim) ?aF ?aO ?aB ?aS ?aL ?_; (case aP => exact rfl); (case aB => exact (pE HB)); (case aF => exact (fun k_ hk => Kd.fresh' (Kd.R_lt (by refine pR ?_; exact (Rt5 (g := gb103) HO_2 BK103))) k_ hk)); (case aO => exact (by refine pR ?_; exact Kd.R_mono (Rf5 (g := gb103) (Kd.R_types HO_3.out BK103.out (by decide))) (fun _ hk => hk.1))); (case aS => exact (Qr (pE HB))); (case aL => have := LMc11.out; omega); intro v105 w16 ho hb hg hat; rw [← Ny104.out] at ho; replace HO_2 := Qa.mk (Kd.R_after (ok := (fun _ => True)) (by refine pR ?_; exact Kd.R_mono (Rf5 (g := gb103) (Kd.R_types HO_2.out BK103.out (by decide))) (fun _ hk => ⟨trivial, hk.1⟩)) hg hat); replace BK103 := Qa.mk (Ja (g := gb103) (o := .cells #[.int .i64 ((Qu l0 x19_1).f0), .int .i64 ((Qu l0 x19_1).f1), .int .i64 ((Qu l0 x19_1).f2), .int .i64 ((Qu l0 x19_1).f3.f0), .int .i64 ((Qu l0 x19_1).f3.f1)] 59 (0, 0)) (by refine pB ?_; refine Qg (cs := #[.int .i64 ((Qu l0 x19_1).f0), .int .i64 ((Qu l0 x19_1).f1), .int .i64 ((Qu l0 x19_1).f2), .int .i64 ((Qu l0 x19_1).f3.f0), .int .i64 0]) ?_ 4 _ rfl; refine pB ?_; refine Qg (cs := #[.int .i64 ((Qu l0 x19_1).f0), .int .i64 ((Qu l0 x19_1).f1), .int .i64 ((Qu l0 x19_1).f2), .int .i64 0, .int .i64 0]) ?_ 3 _ rfl; refine pB ?_; refine Qg (cs := #[.int .i64 ((Qu l0 x19_1).f0), .int .i64 ((Qu l0 x19_1).f1), .int .i64 0, .int .i64 0, .int .i64 0]) ?_ 2 _ rfl; refine pB ?_; refine Qg (cs := #[.int .i64 ((Qu l0 x19_1).f0), .int .i64 0, .int .i64 0, .int .i64 0, .int .i64 0]) ?_ 1 _ rfl; refine pB ?_; refine Qg (cs := #[.int .i64 0, .int .i64 0, .int .i64 0, .int .i64 0, .int .i64 0]) ?_ 0 _ rfl; (with_reducible repeat (first | refine Qt ?_ _ | refine Qh ?_ | refine blk_alloc ?_ _)); exact BK103.out) hg (Kd.R_ne HO_3.out BK103.out (by decide))); replace HB := Qa.mk (hb); have HO106 := Qa.mk (ho); clear HO_3; clear ho hb hg hat; obtain ⟨_, _, _, _, _, _, _, _, _, _⟩ := cf5 BK103) | ((with_reducible refine JA (b := .append) (xs := #[.tmp 53, .tmp 55]) rfl ?_); at_builtin; refine Kd.R_append (Kd.int .i64) (w0 := w) w.heap.size rfl (.tmp 53) (.tmp 55) 24 3 (.int .i64 0) 8 rfl Try.underlying24 J5 rfl (by decide) (by omega) u2 x2_1 x19_1 [.int .i64 x19_1] (fun k_ => some k_ ≠ (v105 : Value).ownBlock) (fun _ => False) rfl rfl ?aP (fun _ hk => hk.elim) ?aF ?aO ?aB ?aS ?aL ?_; (case aP => exact rfl); (case aB => exact (pE HB)); (case aF => exact (fun k_ hk => Kd.fresh' (Kd.R_lt (pR HO106.out)) k_ hk)); (case aO => exact (by refine pR ?_; exact Kd.R_mono HO_2.out (fun _ hk => hk.2))); (case aS => exact (Qr (pE HB))); (case aL => have := LMc13.out; omega); intro v108 w18 ho hb hg hat; rw [← Ny107.out] at ho; replace BK103 := Qa.mk (Ja (g := gb103) (o := .cells #[.int .i64 ((Qu l0 x19_1).f0), .int .i64 ((Qu l0 x19_1).f1), .int .i64 ((Qu l0 x19_1).f2), .int .i64 ((Qu l0 x19_1).f3.f0), .int .i64 ((Qu l0 x19_1).f3.f1)] 59 (0, 0)) (pB BK103.out) hg (Kd.R_ne HO_2.out BK103.out (by decide))); replace HO106 := Qa.mk (Kd.R_after (ok := (fun _ => True)) (by refine pR ?_; exact Kd.R_mono HO106.out (fun _ hk => ⟨trivial, hk⟩)) hg hat); replace HB := Qa.mk (hb); have HO109 := Qa.mk (ho); clear HO_2; clear ho hb hg hat))
            go_roundg k1
            case measure => have := HK1.out; omega
            case rel => exact ⟨(y107), (y104), (wrap64 (x19_1 + 1)), eS, H', ⟨by have := HK1.out; omega⟩, ⟨by (with_reducible repeat (first | apply Kd.R_alloc | apply Kd.R_drewN | apply Kd.R_drew)); exact HO109.out⟩, ⟨by (with_reducible repeat (first | apply Kd.R_alloc | apply Kd.R_drewN | apply Kd.R_drew)); exact Kd.R_mono HO106.out (fun _ hk => hk.2)⟩, ⟨pE HB⟩⟩
           ·rw [if_neg c13] at H
            exact absurd H (by simp)
          ·rw [if_neg c12] at H
           have c12b0 : decide ((wrap64 ((wrap64 (((Qu l0 x19_1).f1) + ((Qu l0 x19_1).f2))) - ((Qu l0 x19_1).f3.f0))) < (wrap64 (((Qu l0 x19_1).f0) * 16))) = false := decide_eq_false c12; clear c12; have H' := Qa.mk H; clear H; have p102 : 0 ≤ (x19_1 : Int) := dT; have q102 : x19_1 < (l0.length : Int) := dT; obtain ⟨ad102, e102, hx102_0, hx102_1, hx102_2, hx102_3, hx102_4⟩ := Xz HR0.out x19_1 p102 q102
           cases e102
           replace hx102_0 := cut_ HB hx102_0; replace hx102_1 := cut_ HB hx102_1; replace hx102_2 := cut_ HB hx102_2; replace hx102_3 := cut_ HB hx102_3; replace hx102_4 := cut_ HB hx102_4; replace p102 := eq_true p102; replace q102 := eq_true q102; go_wp2_with (first | (refine bx 7 #[.int .i64 0, .int .i64 0, .int .i64 0, .int .i64 0, .int .i64 0] 59 ?_; intro gb103 hg w19 hbox hb; replace HO_2 := rb HO_2 hb; replace HO_3 := rb HO_3 hb; have BK103 := hbox; have GW103 := gs HB hg; replace HB := bs HB hb; clear hb hg; obtain ⟨_, _, _, _, _, _, _, _, _, _⟩ := cf5 BK103) | ((with_reducible refine JA (b := .append) (xs := #[.tmp 38, .tmp 40]) rfl ?_); at_builtin; refine Kd.R_append (Kd.int .i64) (w0 := w) w.heap.size rfl (.tmp 38) (.tmp 40) 24 3 (.int .i64 0) 8 rfl Try.underlying24 J5 rfl (by decide) (by omega) u3 x3_1 x19_1 [.int .i64 x19_1] (fun k_ => some k_ ≠ (u2 : Value).ownBlock) (fun _ => False) rfl (by first | (go_simp; done) | (go_simp; rfl)) ?aP (fun _ hk => hk.elim) ?aF ?aO ?aB ?aS ?aL ?_; (case aP => exact rfl); (case aB => exact (pE HB)); (case aF => exact (fun k_ hk => Kd.fresh' (Kd.R_lt (by refine pR ?_; exact (Rt5 (g := gb103) HO_2 BK103))) k_ hk)); (case aO => exact (by refine pR ?_; exact Kd.R_mono (Rf5 (g := gb103) (Kd.R_types HO_3.out BK103.out (by decide))) (fun _ hk => hk.1))); (case aS => exact (Qr (pE HB))); (case aL => have := LMc11.out; omega); intro v105 w21 ho hb hg hat; rw [← Ny104.out] at ho; replace HO_2 := Qa.mk (Kd.R_after (ok := (fun _ => True)) (by refine pR ?_; exact Kd.R_mono (Rf5 (g := gb103) (Kd.R_types HO_2.out BK103.out (by decide))) (fun _ hk => ⟨trivial, hk.1⟩)) hg hat); replace BK103 := Qa.mk (Ja (g := gb103) (o := .cells #[.int .i64 ((Qu l0 x19_1).f0), .int .i64 ((Qu l0 x19_1).f1), .int .i64 ((Qu l0 x19_1).f2), .int .i64 ((Qu l0 x19_1).f3.f0), .int .i64 ((Qu l0 x19_1).f3.f1)] 59 (0, 0)) (by refine pB ?_; refine Qg (cs := #[.int .i64 ((Qu l0 x19_1).f0), .int .i64 ((Qu l0 x19_1).f1), .int .i64 ((Qu l0 x19_1).f2), .int .i64 ((Qu l0 x19_1).f3.f0), .int .i64 0]) ?_ 4 _ rfl; refine pB ?_; refine Qg (cs := #[.int .i64 ((Qu l0 x19_1).f0), .int .i64 ((Qu l0 x19_1).f1), .int .i64 ((Qu l0 x19_1).f2), .int .i64 0, .int .i64 0]) ?_ 3 _ rfl; refine pB ?_; refine Qg (cs := #[.int .i64 ((Qu l0 x19_1).f0), .int .i64 ((Qu l0 x19_1).f1), .int .i64 0, .int .i64 0, .int .i64 0]) ?_ 2 _ rfl; refine pB ?_; refine Qg (cs := #[.int .i64 ((Qu l0 x19_1).f0), .int .i64 0, .int .i64 0, .int .i64 0, .int .i64 0]) ?_ 1 _ rfl; refine pB ?_; refine Qg (cs := #[.int .i64 0, .int .i64 0, .int .i64 0, .int .i64 0, .int .i64 0]) ?_ 0 _ rfl; (with_reducible repeat (first | refine Qt ?_ _ | refine Qh ?_ | refine blk_alloc ?_ _)); exact BK103.out) hg (Kd.R_ne HO_3.out BK103.out (by decide))); replace HB := Qa.mk (hb); have HO106 := Qa.mk (ho); clear HO_3; clear ho hb hg hat; obtain ⟨_, _, _, _, _, _, _, _, _, _⟩ := cf5 BK103))
           go_roundg k1
           case measure => have := HK1.out; omega
           case rel => exact ⟨(x2_1), (y104), (wrap64 (x19_1 + 1)), eS, H', ⟨by have := HK1.out; omega⟩, ⟨by (with_reducible repeat (first | apply Kd.R_alloc | apply Kd.R_drewN | apply Kd.R_drew)); exact Kd.R_mono HO_2.out (fun _ hk => hk.2)⟩, ⟨by (with_reducible repeat (first | apply Kd.R_alloc | apply Kd.R_drewN | apply Kd.R_drew)); exact HO106.out⟩, ⟨pE HB⟩⟩
         ·rw [if_neg c11] at H
          exact absurd H (by simp)
        ·rw [if_neg c10] at H
         have c10b0 : decide ((wrap64 ((wrap64 (((Qu l0 x19_1).f1) - ((Qu l0 x19_1).f2))) - ((Qu l0 x19_1).f3.f1))) < (wrap64 (((Qu l0 x19_1).f0) * 16))) = false := decide_eq_false c10; clear c10; have H' := Qa.mk H; clear H; have p102 : 0 ≤ (x19_1 : Int) := dT; have q102 : x19_1 < (l0.length : Int) := dT; obtain ⟨ad102, e102, hx102_0, hx102_1, hx102_2, hx102_3, hx102_4⟩ := Xz HR0.out x19_1 p102 q102
         cases e102
         replace hx102_0 := cut_ HB hx102_0; replace hx102_1 := cut_ HB hx102_1; replace hx102_2 := cut_ HB hx102_2; replace hx102_3 := cut_ HB hx102_3; replace hx102_4 := cut_ HB hx102_4; replace p102 := eq_true p102; replace q102 := eq_true q102; go_wp2_with (first | (refine bx 7 #[.int .i64 0, .int .i64 0, .int .i64 0, .int .i64 0, .int .i64 0] 59 ?_; intro gb103 hg w23 hbox hb; replace HO_2 := rb HO_2 hb; replace HO_3 := rb HO_3 hb; have BK103 := hbox; have GW103 := gs HB hg; replace HB := bs HB hb; clear hb hg; obtain ⟨_, _, _, _, _, _, _, _, _, _⟩ := cf5 BK103))
         go_roundg k1
         case measure => have := HK1.out; omega
         case rel => exact ⟨(x2_1), (x3_1), (wrap64 (x19_1 + 1)), eS, H', ⟨by have := HK1.out; omega⟩, ⟨by (with_reducible repeat (first | apply Kd.R_alloc | apply Kd.R_drewN | apply Kd.R_drew)); exact Kd.R_mono (Rf5 (g := gb103) (Kd.R_types HO_2.out BK103.out (by decide))) (fun _ hk => hk.1)⟩, ⟨by (with_reducible repeat (first | apply Kd.R_alloc | apply Kd.R_drewN | apply Kd.R_drew)); exact Kd.R_mono (Rf5 (g := gb103) (Kd.R_types HO_3.out BK103.out (by decide))) (fun _ hk => hk.1)⟩, ⟨pE HB⟩⟩
       ·rw [if_neg c9] at H
        exact absurd H (by simp)
      ·rw [if_neg c8] at H
       exact absurd H (by simp)
     ·rw [if_neg c7] at H
      have c7b0 : decide (x19_1 < (l0.length : Int)) = false := decide_eq_false c7; clear c7; simp only [Option.some.injEq, Prod.mk.injEq] at H; obtain ⟨rfl, rfl, rfl⟩ := H; go_wp2; go_ret3; exact ⟨_, _, eT, by (with_reducible repeat (first | apply Kd.R_alloc | apply Kd.R_drewN | apply Kd.R_drew)); exact HO_2.out, by (with_reducible repeat (first | apply Kd.R_alloc | apply Kd.R_drewN | apply Kd.R_drew)); exact HO_3.out, pE HB⟩
end Go.Proofs.Ytjaapkkpmegkfaa.P
