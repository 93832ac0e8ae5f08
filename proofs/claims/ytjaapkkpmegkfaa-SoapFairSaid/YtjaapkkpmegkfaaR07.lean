/- Part 7 of what the law's proof needs: words, walks of functions and plain facts. -/
import Derived.Shelf.SlicesQ.Load
import Derived.Shelf.Abstract
import Derived.Lib.Hide
import Derived.Lib.BufferMore
import Derived.Lib.LazyBuf
import Derived.Test.YtjaapkkpmegkfaaR02
import Derived.Test.YtjaapkkpmegkfaaR04
import Derived.Test.YtjaapkkpmegkfaaR05
import Derived.Test.YtjaapkkpmegkfaaR06
set_option linter.unusedVariables false
set_option linter.unusedSimpArgs false
namespace Go.Proofs.Ytjaapkkpmegkfaa.P
open Go.RowKit Go.Shelf Go.Proofs.YtjaapkkpmegkfaaW.PrintWords Go.Proofs.YtjaapkkpmegkfaaW.PrintLast Go.Proofs.YtjaapkkpmegkfaaW.PrintMore Go.Proofs.Ytjaapkkpmegkfaa.R
def Q8.l (k : Nat) (a0 a1 a2 a3 a4 : Int) (l0 : List S83) : Nat → List Int → Option (List (List Int))
 | 0, m => if m.length + 1 = l0.length ∧ l0.length ≤ 4 then (Jm.f k 0 a0 a1 a2 a3 a4 l0 m).bind fun r => some (if r.2 then [m ++ [r.1]] else []) else none
 | d + 1, m => if m.length + d + 2 = l0.length ∧ l0.length ≤ 4 ∧ 0 ≤ (Qf l0 m.length).f3 ∧ (Qf l0 m.length).f3 ≤ 1000 then
   catO (fun p => Q8.l k a0 a1 a2 a3 a4 l0 d (m ++ [(p : Int)])) ((Qf l0 m.length).f3 + 1).toNat
   else none
theorem XQ {β : Type} {f g : Nat → Option (List β)} (h : ∀ p, LeO (f p) (g p)) : ∀ n, LeO (catO f n) (catO g n)
 | 0 => LeO.refl _
 | n + 1 => LeO.bind (XQ h n) fun _ => LeO.bind (h n) fun _ => LeO.refl _
theorem Q8.mono_l (k : Nat) (a0 a1 a2 a3 a4 : Int) (l0 : List S83) : ∀ d m, LeO (Q8.l k a0 a1 a2 a3 a4 l0 d m) (Q8.l (k + 1) a0 a1 a2 a3 a4 l0 d m)
 | 0, m => by
  unfold Q8.l; exact LeO.ite (LeO.bind (Jm.mono _ _ _ _ _ _ _ _ _) fun _ => LeO.refl _) (LeO.none _)
 | d + 1, m => by
  unfold Q8.l; exact LeO.ite (XQ (fun p => Q8.mono_l k a0 a1 a2 a3 a4 l0 d _) _) (LeO.none _)
theorem own_C {w : World} {base n : Nat} {A : Option Addr} {c : Nat} {xs : List Int} (h : w.ownsRow base 3 1 (.slice A n c) n (nums .i64 xs)) : Kd.C (Kd.int .i64) w A n xs := by
 obtain ⟨A', c', e, hr⟩ := Yc (enc := Value.int .i64) (d := (0 : Int)) h
 cases e
 exact Kd.C_of_reads hr
theorem Xy (k : Nat) (a0 a1 a2 a3 a4 : Int) (A0 : Option Addr) (c0 : Nat) (l0 : List S83) (hc0 : l0.length ≤ c0) : ∀ (d : Nat) (m : List Int) (xs : List (List Int)) (n : Nat) (w : World) (B1 B2 : Nat) (A1 : Option Addr) (c1 : Nat) (Ex : Nat → Prop),
  Q8.l k a0 a1 a2 a3 a4 l0 d m = some xs → B1 ≠ B2 → m.length ≤ c1 →
  (∀ W', w.heap.size ≤ W'.heap.size → (∀ k, k < w.heap.size → ¬ Ex k → W'.heap[k]? = w.heap[k]?) → Cap B1 B2 a0 a1 a2 a3 a4 A0 c0 l0 A1 c1 m W') →
  X1 Fence.wide n Try.prog 74 #[.pointer (some ⟨B1, 0, none⟩), .pointer (some ⟨B2, 0, none⟩)] xs RvM Ex 0 (fun _ => True) w
 | 0, m, xs, n, w, B1, B2, A1, c1, Ex, h, hne, hc1, hC => by
  intro l J Jx W hW hJ hJx hY h0; unfold Q8.l at h
  split at h
  case isFalse => cases h
  rename_i hcond
  obtain ⟨⟨r1, r2⟩, hf, h⟩ := Option.bind_eq_some_iff.1 h; obtain rfl := Option.some.inj h; have hcap := hC W hW.size (fun k hk _ => hW.block k hk); have hlen : ((if r2 = true then [m ++ [r1]] else []) : List (List Int)).length = if r2 then 1 else 0 := by cases r2 <;> rfl
  refine (YH k l n 0 B1 a0 a1 a2 a3 a4 A0 c0 l0 B2 A1 c1 m r1 r2 W hcap.b1 hcap.b2 hne hcap.r0 hc0 (own_C hcap.own) hc1 hcap.own hcond.1 hcond.2 hf _ hlen J Jx hJ h0 ?_).mono ?_
  ·rintro rfl v W1 hj ho hsz
   refine (hY 0 (m ++ [r1]) #[v] W1 rfl hj ⟨v, rfl, by rw [List.length_append]; exact ho⟩ (by omega)).mono ?_; rintro e W2 (⟨rfl, hj2, _⟩ | ⟨rfl, hj2, _⟩)
   ·exact .inl ⟨rfl, hj2⟩
   ·exact .inr ⟨rfl, hj2⟩
  ·rintro e W2 ⟨hv, h2 | ⟨h2, rfl⟩⟩
   ·exact ⟨hv, .inl h2⟩
   ·exact ⟨hv, .inr ⟨1, Nat.le_refl _, h2⟩⟩
 | d + 1, m, xs, n, w, B1, B2, A1, c1, Ex, h, hne, hc1, hC => by
  intro l J Jx W hW hJ hJx hY h0; unfold Q8.l at h
  split at h
  case isFalse => cases h
  rename_i hcond
  obtain ⟨g1, g2, g3, g4⟩ := hcond
  exact YJ l n B1 a0 a1 a2 a3 a4 A0 c0 l0 B2 A1 c1 m W w.heap.size Ex hW.size
   (fun W' hsz hs => hC W' (Nat.le_trans hW.size hsz) (fun k hk hx => (hs k hk hx).trans (hW.block k hk))) hc0 hc1 (by omega) g2 g3 g4 _ xs h
   (fun p xs' n' W' B1' B2' A1' c1' Ex' hf hne' hc' hC' => Xy k a0 a1 a2 a3 a4 A0 c0 l0 hc0 d _ xs' n' W' B1' B2' A1' c1' Ex' hf hne' hc' hC') J Jx hJ hJx h0
   (fun i x vs W1 hx hj hr hsz => hY i x vs W1 hx hj hr (by omega))
end Go.Proofs.Ytjaapkkpmegkfaa.P
namespace Go.Proofs.Ytjaapkkpmegkfaa.P
open Go.RowKit Go.Proofs.YtjaapkkpmegkfaaW.PrintWords Go.Proofs.YtjaapkkpmegkfaaW.PrintLast Go.Proofs.YtjaapkkpmegkfaaW.PrintMore
attribute [local go_sem] JG JH JY JX Jv Ju JJ JK
def Q5.f (l0 : List Int) : Option (List Int) := (some (([] : List Int) : List Int)).bind fun y101 => (if y101.length + l0.length < 17592186044416 then (some (y101 ++ l0)) else (none))
set_option maxHeartbeats 8000000 in
set_option maxRecDepth 100000 in
theorem Q5.calls (A0 : Option Addr) (c0 : Nat) (l0 r : List Int) (w : World) (hr0 : Kd.C (Kd.int .i64) w A0 l0.length l0) (hc0 : l0.length ≤ c0) (h : Q5.f l0 = some r) :
  Calls Try.prog 63 #[.slice A0 l0.length c0] w fun e w' => ∃ v0_ : Value, e = .returned (v0_) ∧ Kd.R (Kd.int .i64) 3 w' w.heap.size (fun _ => True) v0_ r ∧ Below w.heap.size w w' := by
 cases A0 with
 | none =>
  have hl : l0 = [] := by
   cases l0 with
   | nil => rfl
   | cons x t => obtain ⟨ad, e, _⟩ := hr0.2.2 (by simp); cases e
  subst hl; obtain rfl : [] = r := by simpa [Q5.f] using h
  have hnl := fun (w_ : World) => Lib.run_eql_slice_nil_nil (P := Try.prog) w_ (t := 24) 0 c0 Try.underlying24
  clear h hr0 hc0; go_enter Try.func63, Try.ntmps63; go_wp2; go_ret; exact ⟨_, rfl, Kd.R_nil _ _ _ _ _, Below.refl _ _⟩
 | some ad0 =>
  have hnl := fun (w_ : World) (n_ c_ : Nat) => Lib.run_eql_slice_nil (P := Try.prog) w_ 24 3 (some ad0) n_ c_ 0 0 Try.underlying24
  have HR0 := Qa.mk hr0; have HC0 := Qa.mk hc0; clear hr0 hc0; have HB := Qa.mk (Below.refl w.heap.size w); have H : ((some (([] : List Int) : List Int)).bind fun y101 => (if y101.length + l0.length < 17592186044416 then (some (y101 ++ l0)) else (none))) = some r := h; clear h; obtain ⟨y101, hy101⟩ : ∃ y_ : List Int, y_ = (([] : List Int)) := ⟨_, rfl⟩
  replace H : (if y101.length + l0.length < 17592186044416 then (some (y101 ++ l0)) else (none)) = some r := yy hy101 H; have Ny101 := Qa.mk hy101; clear hy101; by_cases c2 : y101.length + l0.length < 17592186044416
  ·rw [if_pos c2] at H
   have LMc2 := Qa.mk c2; clear c2; obtain ⟨y104, hy104⟩ : ∃ y_ : List Int, y_ = (y101 ++ l0) := ⟨_, rfl⟩
   replace H : (some y104) = some r := yy hy104 H; have Ny104 := Qa.mk hy104; clear hy104; obtain rfl := Option.some.inj H; go_enter Try.func63, Try.ntmps63; go_wp2_with (first | ((with_reducible refine gd 5 ?_); refine rL (Kd.int .i64) 3 5 ([] : List Int) [] (Reps.none _ _) ?_; intro v102 w3 ho4 hb; replace ho4 := yR Ny101 ho4; have HO103 := rl ho4 HB; replace HB := bs HB hb; clear hb ho4) | ((with_reducible refine JA (b := .append) (xs := #[.tmp 5, .tmp 6]) rfl ?_); at_builtin; refine Kd.R_append_rows (Kd.int .i64) (w0 := w) w.heap.size rfl (.tmp 5) (.tmp 6) 24 3 (.int .i64 0) 8 rfl Try.underlying24 J5 rfl (by decide) (by omega) v102 y101 l0 _ _ _ (fun _ => True) (fun _ => False) rfl rfl ?aO ?aR (fun _ _ h => h) (fun _ h => h.elim) ?aF ?aB ?aS ?aL ?_; (case aR => exact pC (Kd.C_below HR0.out HB.out)); (case aB => exact (pE HB)); (case aF => exact (fun _ _ => trivial)); (case aO => exact (pR HO103.out)); (case aS => exact (Qr (pE HB))); (case aL => have := LMc2.out; omega); intro v105 w5 ho hb hg hat; rw [← Ny104.out] at ho; replace HB := Qa.mk (hb); have HO106 := Qa.mk (ho); clear HO103; clear ho hb hg hat)); go_ret; exact ⟨_, eT, by (with_reducible repeat (first | apply Kd.R_alloc | apply Kd.R_drewN | apply Kd.R_drew)); exact HO106.out, pE HB⟩
  ·rw [if_neg c2] at H
   exact absurd H (by simp)
end Go.Proofs.Ytjaapkkpmegkfaa.P
namespace Go.Proofs.Ytjaapkkpmegkfaa.P
open Go.RowKit Go.Shelf Go.Proofs.YtjaapkkpmegkfaaW.PrintWords Go.Proofs.YtjaapkkpmegkfaaW.PrintLast Go.Proofs.YtjaapkkpmegkfaaW.PrintMore Go.Proofs.Ytjaapkkpmegkfaa.R
def Q4.f (k : Nat) (a0_0 a0_1 a0_2 a0_3 a0_4 : Int) (l0_5 : List S83) (l1 l2 : List Int) (a3 : Bool) : Option (List Int × Bool) := (Qj.f k a0_0 a0_1 a0_2 a0_3 a0_4 l0_5 l1).bind fun t104 => (if t104 ≤ a0_4 then (if a3 = true then ((Qi.f k a0_0 a0_1 a0_2 a0_3 a0_4 l0_5 l1).bind fun t105 => ((Qi.f k a0_0 a0_1 a0_2 a0_3 a0_4 l0_5 l2).bind fun t106 => (if t105 < t106 then ((Q5.f l1).bind fun t107 => (some (t107, true))) else (some (l2, a3))))) else ((Q5.f l1).bind fun t110 => (some (t110, true)))) else (some (l2, a3)))
theorem Q4.mono : ∀ a0 a1 a2 a3 a4 a5 a6 a7 a8 k, LeO (Q4.f k a0 a1 a2 a3 a4 a5 a6 a7 a8) (Q4.f (k + 1) a0 a1 a2 a3 a4 a5 a6 a7 a8) := by
 intro a0 a1 a2 a3 a4 a5 a6 a7 a8 k; unfold Q4.f
 repeat' first
   | (with_reducible exact Qi.mono _ _ _ _ _ _ _ _)
   | (with_reducible exact Qj.mono _ _ _ _ _ _ _ _)
   | (with_reducible exact LeO.refl _)
   | (with_reducible exact LeO.none _)
   | (with_reducible refine LeO.ite ?_ ?_)
   | (with_reducible refine LeO.bind ?_ (fun _ => ?_))
def Q4.T3 : Bool × List (List Nat × List Nat) := (true, [([], []), ([], []), ([0, 1], [0, 1]), ([], []), ([3], [3]), ([4], [4]), ([2, 5], [2, 5]), ([6, 2], [6]), ([7], [7]), ([8, 7], [7, 8]), ([9, 7, 7], [7, 9]), ([10], [10]), ([10], [10]), ([11, 12, 10, 10], [10, 11, 12]), ([10], [10]), ([10], [10]), ([14, 15, 13, 10], [10, 14, 15]), ([13, 16, 10], [10, 13, 16]), ([10, 17, 7], [7, 10, 17]), ([7, 18], [7, 18])])
def Q4.B3 : List Nat := [0, 0, 3, 0, 8, 24, 63, 127, 255, 511, 1023, 2047, 2047, 8191, 2047, 2047, 65535, 131071, 262143, 524287]
theorem Q4.tab3 : rtab .any (ZG Try.f36 3) = Q4.T3 := by kernel_rfl
theorem Q4.bits3 : J0 Q4.T3.2 Q4.B3 = true := by kernel_rfl
def Za : Code → Option Code
 | .rangeFunc _ _ _ b => some b
 | .seq a b => match Za a with | some x => some x | none => Za b
 | .block _ c => Za c
 | .loop c => Za c
 | .cond _ a b => match Za a with | some x => some x | none => Za b
 | _ => none
structure YR (g2 g3 : Nat) (v0 : Value) (l2 r1 : List Int) (r2 : Bool) (w w' : World) : Prop where
 below : ∃ w1, Below w.heap.size w w1 ∧ w'.os = w1.os ∧ w'.tape = w1.tape ∧ w'.output = w1.output ∧ w'.heap.size = w1.heap.size ∧ ∀ k, k ≠ g2 → k ≠ g3 → w'.heap[k]? = w1.heap[k]?
 best : ∃ v, w'.heap[g2]? = some (.cells #[v] 24 (0, 0)) ∧ (v = v0 ∧ r1 = l2 ∨ Kd.R (Kd.int .i64) 3 w' w.heap.size (fun _ => True) v r1)
 ok : w'.heap[g3]? = some (.cells #[.bool r2] 4 (0, 0))
set_option maxHeartbeats 16000000 in
set_option maxRecDepth 100000 in
theorem Yr (k n r : Nat) (a0_0 a0_1 a0_2 a0_3 a0_4 : Int) (A0_5 : Option Addr) (c0_5 : Nat) (l0_5 : List S83) (A1 : Option Addr) (c1 : Nat) (l1 : List Int) (P2_ : Nat → Prop) (A2 : Option Addr) (c2 : Nat) (l2 : List Int) (a3 : Bool) (r1 : List Int) (r2 : Bool) (w : World)
  (gb101 gb102 gb103 : Nat) (hb1 : w.heap[gb101]? = some (.cells #[.int .i64 a0_0, .int .i64 a0_1, .int .i64 a0_2, .int .i64 a0_3, .int .i64 a0_4, .slice A0_5 l0_5.length c0_5] 75 (0, 0))) (hb2 : w.heap[gb102]? = some (.cells #[.slice A2 l2.length c2] 24 (0, 0))) (hb3 : w.heap[gb103]? = some (.cells #[.bool a3] 4 (0, 0)))
  (n12 : gb101 ≠ gb102) (n13 : gb101 ≠ gb103) (n23 : gb102 ≠ gb103)
  (hr0_5 : Kd.C k83 w A0_5 l0_5.length l0_5) (hc0_5 : l0_5.length ≤ c0_5) (hr1 : Kd.C (Kd.int .i64) w A1 l1.length l1) (hc1 : l1.length ≤ c1) (hs2 : Kd.V (Kd.int .i64) 3 w w.heap.size (fun k_ => (((P2_ k_ ∨ w.heap.size ≤ k_) ∧ k_ ≠ gb101) ∧ k_ ≠ gb102) ∧ k_ ≠ gb103) (.slice A2 l2.length c2) l2)
  (h : Q4.f k a0_0 a0_1 a0_2 a0_3 a0_4 l0_5 l1 l2 a3 = some (r1, r2)) (x0 x5 x6 x7 : Value) (Kn : Act → World → Prop) (hQ : ∀ a' w', YR gb102 gb103 (.slice A2 l2.length c2) l2 r1 r2 w w' → Kn a' w') (c : Code) (hc : Try.f36.body.bind Za = some c) :
  c.wpIn (RF r) n Try.prog (Exit.then Kn (fun _ _ _ => False)) { tmps := #[x0, .pointer (some ⟨gb101, 0, none⟩), .pointer (some ⟨gb102, 0, none⟩), .pointer (some ⟨gb103, 0, none⟩), .slice A1 l1.length c1, x5, x6, x7, undef, undef, undef, undef, undef, undef, undef, undef, undef, undef, undef, undef, undef, undef, undef, undef, undef, undef, undef, undef, undef, undef, undef, undef], defers := [] } w := by
 simp only [Try.f36, Option.bind_some, Za] at hc; obtain rfl := Option.some.inj hc; clear hc; have BK101 := Qa.mk hb1; have BK102 := Qa.mk hb2; have BK103 := Qa.mk hb3; have NB101_102 := Qa.mk n12; have NB102_101 := Qa.mk n12.symm; have NB101_103 := Qa.mk n13; have NB103_101 := Qa.mk n13.symm; have NB102_103 := Qa.mk n23; have NB103_102 := Qa.mk n23.symm; clear hb1 hb2 hb3 n12 n13 n23; have HQ := Qa.mk hQ; clear hQ; have hu75 := Try.underlying75; have HR0_5 := Qa.mk hr0_5; have HC0_5 := Qa.mk hc0_5; clear hr0_5 hc0_5; have HR1 := Qa.mk hr1; have HC1 := Qa.mk hc1; clear hr1 hc1; have HO2 := Qa.mk hs2; clear hs2; have HB := Qa.mk (Below.refl w.heap.size w); have H : ((Qj.f k a0_0 a0_1 a0_2 a0_3 a0_4 l0_5 l1).bind fun t104 => (if t104 ≤ a0_4 then (if a3 = true then ((Qi.f k a0_0 a0_1 a0_2 a0_3 a0_4 l0_5 l1).bind fun t105 => ((Qi.f k a0_0 a0_1 a0_2 a0_3 a0_4 l0_5 l2).bind fun t106 => (if t105 < t106 then ((Q5.f l1).bind fun t107 => (some (t107, true))) else (some (l2, a3))))) else ((Q5.f l1).bind fun t110 => (some (t110, true)))) else (some (l2, a3)))) = some (r1, r2) := h; clear h; obtain ⟨t104, A5, H⟩ := bi H; by_cases c6 : t104 ≤ a0_4
 ·rw [if_pos c6] at H
  have c6b0 : decide (t104 ≤ a0_4) = true := decide_eq_true c6; clear c6; by_cases c7 : a3 = true
  ·subst c7
   rw [if_pos rfl] at H; obtain ⟨t105, A8, H⟩ := bi H; obtain ⟨t106, A9, H⟩ := bi H; by_cases c10 : t105 < t106
   ·rw [if_pos c10] at H
    have c10b0 : decide (t105 < t106) = true := decide_eq_true c10; clear c10; obtain ⟨t107, A11, H⟩ := bi H; simp only [Option.some.injEq, Prod.mk.injEq] at H; obtain ⟨rfl, rfl⟩ := H; go_wp2_with (first | ((with_reducible refine JC ?hnd ?hlo ?_); (case hnd => kernel_rfl); (case hlo => rintro ⟨_, _, h⟩; exact h)) | gi_step); replace HO2 := Qa.mk (Kd.V_drew HO2.out); replace BK101 := Qa.mk (Qh BK101.out); replace BK102 := Qa.mk (Qh BK102.out); replace BK103 := Qa.mk (Qh BK103.out); replace HB := Qa.mk (QM HB.out); refine ZS (n := 20) (S := fun w' => w'.cell? ⟨gb101, 0, none⟩ = some (.int .i64 a0_0) ∧ w'.cell? ⟨gb101, 1, none⟩ = some (.int .i64 a0_1) ∧ w'.cell? ⟨gb101, 2, none⟩ = some (.int .i64 a0_2) ∧ w'.cell? ⟨gb101, 3, none⟩ = some (.int .i64 a0_3) ∧ w'.cell? ⟨gb101, 4, none⟩ = some (.int .i64 a0_4) ∧ w'.cell? ⟨gb101, 5, none⟩ = some (.slice A0_5 l0_5.length c0_5) ∧ w'.cell? ⟨gb103, 0, none⟩ = some (.bool true) ∧ w'.cell? ⟨gb102, 0, none⟩ = some (.slice A2 l2.length c2)) (ds := []) rfl (by rintro ⟨_, _, h⟩; exact h) #[false, false, false, false, false, false, false, false, false, false, false, false, false, false, false, false, false, false, false, false] (by kernel_rfl) rfl rfl ⟨cz0 BK101, cz1 BK101, cz2 BK101, cz3 BK101, cz4 BK101, cz5 BK101, cz0 BK103, cz0 BK102⟩ (fun hHeld => ?_); refine Jk Q4.tab3 Q4.bits3 (fun HT_ HW_ => ?_); generalize w.drew = w15 at HO2 BK101 BK102 BK103 HB hHeld ⊢; refine pu 1 9 ?_; refine pu 3 11 ?_; refine pu 4 12 ?_; refine tk 0 8 hHeld ?_; refine tk 5 13 hHeld ?_; refine on 2 (fun K hK => ?_); refine gO Try.func33 #[.agg #[.int .i64 a0_0, .int .i64 a0_1, .int .i64 a0_2, .int .i64 a0_3, .int .i64 a0_4, .slice A0_5 l0_5.length c0_5], .slice A1 l1.length c1, .func (.func 34) #[] #[]] ?_
    with_reducible refine (Qj.calls k a0_0 a0_1 a0_2 a0_3 a0_4 _ _ l0_5 _ _ l1  t104 _ ?side1 ?side2 ?side3 ?side4 A5.out).mono ?_
    (case side1 => exact pC (Kd.C_below HR0_5.out HB.out))
    (case side2 => exact HC0_5.out)
    (case side3 => exact pC (Kd.C_below HR1.out HB.out))
    (case side4 => exact HC1.out)
    rintro e w16 ⟨rfl, hb⟩; refine ⟨_, rfl, ?_⟩; replace HO2 := vb HO2 hb; replace BK101 := bb BK101 hb; replace BK102 := bb BK102 hb; replace BK103 := bb BK103 hb; replace HB := bs HB hb
    (try clear hb)
    (try clear hb2)
    (try clear hk)
    (try clear hi)
    refine hK.out _ _ ⟨cz0 BK101, cz1 BK101, cz2 BK101, cz3 BK101, cz4 BK101, cz5 BK101, cz0 BK103, cz0 BK102⟩ (fun hHeld => ?_); clear hK K; refine QY (a' := ?_) ?_ ?_
    rotate_left
    ·show Act.put _ (some 10) _ = _
     simp only [Act.put, List.setIfInBounds_toArray, List.set_cons_zero, List.set_cons_succ, QR, QU]; rfl
    refine pu 6 14 ?_; refine pu 7 15 ?_; refine tk 8 16 hHeld ?_; refine pu 9 17 ?_; refine pu 10 18 ?_; refine pu 12 20 ?_; refine tk 11 19 hHeld ?_; refine tk 14 22 hHeld ?_; refine tk 15 23 hHeld ?_; refine on 13 (fun K hK => ?_); refine gO Try.func33 #[.agg #[.int .i64 a0_0, .int .i64 a0_1, .int .i64 a0_2, .int .i64 a0_3, .int .i64 a0_4, .slice A0_5 l0_5.length c0_5], .slice A1 l1.length c1, .func (.func 37) #[] #[]] ?_
    with_reducible refine (Qi.calls k a0_0 a0_1 a0_2 a0_3 a0_4 _ _ l0_5 _ _ l1  t105 _ ?side1 ?side2 ?side3 ?side4 A8.out).mono ?_
    (case side1 => exact pC (Kd.C_below HR0_5.out HB.out))
    (case side2 => exact HC0_5.out)
    (case side3 => exact pC (Kd.C_below HR1.out HB.out))
    (case side4 => exact HC1.out)
    rintro e w17 ⟨rfl, hb⟩; refine ⟨_, rfl, ?_⟩; replace HO2 := vb HO2 hb; replace BK101 := bb BK101 hb; replace BK102 := bb BK102 hb; replace BK103 := bb BK103 hb; replace HB := bs HB hb
    (try clear hb)
    (try clear hb2)
    (try clear hk)
    (try clear hi)
    refine hK.out _ _ ⟨cz0 BK101, cz1 BK101, cz2 BK101, cz3 BK101, cz4 BK101, cz5 BK101, cz0 BK103, cz0 BK102⟩ (fun hHeld => ?_); clear hK K; refine QY (a' := ?_) ?_ ?_
    rotate_left
    ·show Act.put _ (some 21) _ = _
     simp only [Act.put, List.setIfInBounds_toArray, List.set_cons_zero, List.set_cons_succ, QR, QU]; rfl
    refine on 16 (fun K hK => ?_); refine gO Try.func33 #[.agg #[.int .i64 a0_0, .int .i64 a0_1, .int .i64 a0_2, .int .i64 a0_3, .int .i64 a0_4, .slice A0_5 l0_5.length c0_5], .slice A2 l2.length c2, .func (.func 37) #[] #[]] ?_
    with_reducible refine (Qi.calls k a0_0 a0_1 a0_2 a0_3 a0_4 _ _ l0_5 _ _ l2  t106 _ ?side1 ?side2 ?side3 ?side4 A9.out).mono ?_
    (case side1 => exact pC (Kd.C_below HR0_5.out HB.out))
    (case side2 => exact HC0_5.out)
    (case side3 => exact pC (Kd.V_reads' HO2.out).2.2)
    (case side4 => exact (Kd.V_reads' HO2.out).2.1)
    rintro e w18 ⟨rfl, hb⟩; refine ⟨_, rfl, ?_⟩; replace HO2 := vb HO2 hb; replace BK101 := bb BK101 hb; replace BK102 := bb BK102 hb; replace BK103 := bb BK103 hb; replace HB := bs HB hb
    (try clear hb)
    (try clear hb2)
    (try clear hk)
    (try clear hi)
    refine hK.out _ _ ⟨cz0 BK101, cz1 BK101, cz2 BK101, cz3 BK101, cz4 BK101, cz5 BK101, cz0 BK103, cz0 BK102⟩ (fun hHeld => ?_); clear hK K; refine QY (a' := ?_) ?_ ?_
    rotate_left
    ·show Act.put _ (some 24) _ = _
     simp only [Act.put, List.setIfInBounds_toArray, List.set_cons_zero, List.set_cons_succ, QR, QU]; rfl
    refine pu 17 25 ?_; refine pu 18 26 ?_; refine pu 19 27 ?_; refine JD (JM HT_.out (by kernel_rfl)) ?_; go_wp2_with (first | ((with_reducible refine gc 63 rfl ?_); refine gL 29 Try.func63 #[.slice A1 l1.length c1] ?_; (with_reducible refine (Q5.calls _ _ l1 t107 _ ?side1 ?side2 A11.out).mono ?_); (case side1 => exact pC (Kd.C_below HR1.out HB.out)); (case side2 => exact HC1.out); rintro e w19 ⟨v108, rfl, ho0, hb⟩; refine ⟨_, rfl, ?_⟩; replace HO2 := Qa.mk (Kd.V_elder' (pV HO2.out) (Kd.R_base ho0) hb); have HO109 := Qa.mk (Kd.R_lower (Kd.R_newM (M := fun k_ => (w.heap.size ≤ k_)) ho0 (Qr (pE HB)) (fun k_ h_ => h_)) (Qr (pE HB))); replace BK101 := bb BK101 hb; replace BK102 := bb BK102 hb; replace BK103 := bb BK103 hb; replace HB := bs HB hb; clear hb ho0; obtain ⟨Ao20, co20, eo20⟩ := Kd.R_slice HO109.out; subst eo20; have hnb21 := NB102_101.out; have hnc21 := NB101_102.out; have hnb22 := NB102_103.out; have hnc22 := NB103_102.out; obtain ⟨_, _⟩ := cf1 BK102; have hnb24 := NB103_101.out; have hnc24 := NB101_103.out; obtain ⟨_, _⟩ := cf1 BK103) | ((with_reducible refine JC ?hnd ?hlo ?_); (case hnd => kernel_rfl); (case hlo => rintro ⟨_, _, h⟩; exact h)) | gi_step)
    try simp only [Exit.inBlock, Exit.then]
    refine HQ.out _ _ ⟨⟨w19, HB.out, rfl, rfl, rfl, by simp [World.setCell], fun k h2 h3 => (Below.heap_setCell _ _ _ k h3).trans (Below.heap_setCell _ _ _ k h2)⟩, ⟨.slice Ao20 t107.length co20, ?hb, .inr ?hR⟩, ?hk⟩
    case hb =>
     refine Qx ?_ NB102_103.out _; refine Qg (cs := #[.slice A2 l2.length c2]) ?_ 0 _ rfl; exact BK102.out
    case hk =>
     first
      | exact Qg (cs := #[.bool true]) (Qx BK103.out NB103_102.out _) 0 _ rfl
      | exact Qg (cs := #[.bool false]) (Qx BK103.out NB103_102.out _) 0 _ rfl
    case hR => exact Kd.R_mono (Rf1 (g := gb103) (Kd.R_far (p := ⟨gb102, 0, none⟩) (Kd.R_types (Kd.R_types HO109.out BK102.out (by decide)) BK103.out (by decide)) (fun _ hk => hk.1.2) (.slice Ao20 _ co20))) (fun _ _ => trivial)
   ·rw [if_neg c10] at H
    have c10b0 : decide (t105 < t106) = false := decide_eq_false c10; clear c10; simp only [Option.some.injEq, Prod.mk.injEq] at H; obtain ⟨rfl, rfl⟩ := H; go_wp2_with (first | ((with_reducible refine JC ?hnd ?hlo ?_); (case hnd => kernel_rfl); (case hlo => rintro ⟨_, _, h⟩; exact h)) | gi_step); replace HO2 := Qa.mk (Kd.V_drew HO2.out); replace BK101 := Qa.mk (Qh BK101.out); replace BK102 := Qa.mk (Qh BK102.out); replace BK103 := Qa.mk (Qh BK103.out); replace HB := Qa.mk (QM HB.out); refine ZS (n := 20) (S := fun w' => w'.cell? ⟨gb101, 0, none⟩ = some (.int .i64 a0_0) ∧ w'.cell? ⟨gb101, 1, none⟩ = some (.int .i64 a0_1) ∧ w'.cell? ⟨gb101, 2, none⟩ = some (.int .i64 a0_2) ∧ w'.cell? ⟨gb101, 3, none⟩ = some (.int .i64 a0_3) ∧ w'.cell? ⟨gb101, 4, none⟩ = some (.int .i64 a0_4) ∧ w'.cell? ⟨gb101, 5, none⟩ = some (.slice A0_5 l0_5.length c0_5) ∧ w'.cell? ⟨gb103, 0, none⟩ = some (.bool true) ∧ w'.cell? ⟨gb102, 0, none⟩ = some (.slice A2 l2.length c2)) (ds := []) rfl (by rintro ⟨_, _, h⟩; exact h) #[false, false, false, false, false, false, false, false, false, false, false, false, false, false, false, false, false, false, false, false] (by kernel_rfl) rfl rfl ⟨cz0 BK101, cz1 BK101, cz2 BK101, cz3 BK101, cz4 BK101, cz5 BK101, cz0 BK103, cz0 BK102⟩ (fun hHeld => ?_); refine Jk Q4.tab3 Q4.bits3 (fun HT_ HW_ => ?_); generalize w.drew = w29 at HO2 BK101 BK102 BK103 HB hHeld ⊢; refine pu 1 9 ?_; refine pu 3 11 ?_; refine pu 4 12 ?_; refine tk 0 8 hHeld ?_; refine tk 5 13 hHeld ?_; refine on 2 (fun K hK => ?_); refine gO Try.func33 #[.agg #[.int .i64 a0_0, .int .i64 a0_1, .int .i64 a0_2, .int .i64 a0_3, .int .i64 a0_4, .slice A0_5 l0_5.length c0_5], .slice A1 l1.length c1, .func (.func 34) #[] #[]] ?_
    with_reducible refine (Qj.calls k a0_0 a0_1 a0_2 a0_3 a0_4 _ _ l0_5 _ _ l1  t104 _ ?side1 ?side2 ?side3 ?side4 A5.out).mono ?_
    (case side1 => exact pC (Kd.C_below HR0_5.out HB.out))
    (case side2 => exact HC0_5.out)
    (case side3 => exact pC (Kd.C_below HR1.out HB.out))
    (case side4 => exact HC1.out)
    rintro e w30 ⟨rfl, hb⟩; refine ⟨_, rfl, ?_⟩; replace HO2 := vb HO2 hb; replace BK101 := bb BK101 hb; replace BK102 := bb BK102 hb; replace BK103 := bb BK103 hb; replace HB := bs HB hb
    (try clear hb)
    (try clear hb2)
    (try clear hk)
    (try clear hi)
    refine hK.out _ _ ⟨cz0 BK101, cz1 BK101, cz2 BK101, cz3 BK101, cz4 BK101, cz5 BK101, cz0 BK103, cz0 BK102⟩ (fun hHeld => ?_); clear hK K; refine QY (a' := ?_) ?_ ?_
    rotate_left
    ·show Act.put _ (some 10) _ = _
     simp only [Act.put, List.setIfInBounds_toArray, List.set_cons_zero, List.set_cons_succ, QR, QU]; rfl
    refine pu 6 14 ?_; refine pu 7 15 ?_; refine tk 8 16 hHeld ?_; refine pu 9 17 ?_; refine pu 10 18 ?_; refine pu 12 20 ?_; refine tk 11 19 hHeld ?_; refine tk 14 22 hHeld ?_; refine tk 15 23 hHeld ?_; refine on 13 (fun K hK => ?_); refine gO Try.func33 #[.agg #[.int .i64 a0_0, .int .i64 a0_1, .int .i64 a0_2, .int .i64 a0_3, .int .i64 a0_4, .slice A0_5 l0_5.length c0_5], .slice A1 l1.length c1, .func (.func 37) #[] #[]] ?_
    with_reducible refine (Qi.calls k a0_0 a0_1 a0_2 a0_3 a0_4 _ _ l0_5 _ _ l1  t105 _ ?side1 ?side2 ?side3 ?side4 A8.out).mono ?_
    (case side1 => exact pC (Kd.C_below HR0_5.out HB.out))
    (case side2 => exact HC0_5.out)
    (case side3 => exact pC (Kd.C_below HR1.out HB.out))
    (case side4 => exact HC1.out)
    rintro e w31 ⟨rfl, hb⟩; refine ⟨_, rfl, ?_⟩; replace HO2 := vb HO2 hb; replace BK101 := bb BK101 hb; replace BK102 := bb BK102 hb; replace BK103 := bb BK103 hb; replace HB := bs HB hb
    (try clear hb)
    (try clear hb2)
    (try clear hk)
    (try clear hi)
    refine hK.out _ _ ⟨cz0 BK101, cz1 BK101, cz2 BK101, cz3 BK101, cz4 BK101, cz5 BK101, cz0 BK103, cz0 BK102⟩ (fun hHeld => ?_); clear hK K; refine QY (a' := ?_) ?_ ?_
    rotate_left
    ·show Act.put _ (some 21) _ = _
     simp only [Act.put, List.setIfInBounds_toArray, List.set_cons_zero, List.set_cons_succ, QR, QU]; rfl
    refine on 16 (fun K hK => ?_); refine gO Try.func33 #[.agg #[.int .i64 a0_0, .int .i64 a0_1, .int .i64 a0_2, .int .i64 a0_3, .int .i64 a0_4, .slice A0_5 l0_5.length c0_5], .slice A2 l2.length c2, .func (.func 37) #[] #[]] ?_
    with_reducible refine (Qi.calls k a0_0 a0_1 a0_2 a0_3 a0_4 _ _ l0_5 _ _ l2  t106 _ ?side1 ?side2 ?side3 ?side4 A9.out).mono ?_
    (case side1 => exact pC (Kd.C_below HR0_5.out HB.out))
    (case side2 => exact HC0_5.out)
    (case side3 => exact pC (Kd.V_reads' HO2.out).2.2)
    (case side4 => exact (Kd.V_reads' HO2.out).2.1)
    rintro e w32 ⟨rfl, hb⟩; refine ⟨_, rfl, ?_⟩; replace HO2 := vb HO2 hb; replace BK101 := bb BK101 hb; replace BK102 := bb BK102 hb; replace BK103 := bb BK103 hb; replace HB := bs HB hb
    (try clear hb)
    (try clear hb2)
    (try clear hk)
    (try clear hi)
    refine hK.out _ _ ⟨cz0 BK101, cz1 BK101, cz2 BK101, cz3 BK101, cz4 BK101, cz5 BK101, cz0 BK103, cz0 BK102⟩ (fun hHeld => ?_); clear hK K; refine QY (a' := ?_) ?_ ?_
    rotate_left
    ·show Act.put _ (some 24) _ = _
     simp only [Act.put, List.setIfInBounds_toArray, List.set_cons_zero, List.set_cons_succ, QR, QU]; rfl
    refine pu 17 25 ?_; refine pu 18 26 ?_; refine pu 19 27 ?_; refine JD (JM HT_.out (by kernel_rfl)) ?_
    try go_wp2
    go_wp2_with (first | ((with_reducible refine JC ?hnd ?hlo ?_); (case hnd => kernel_rfl); (case hlo => rintro ⟨_, _, h⟩; exact h)) | gi_step)
    try simp only [Exit.inBlock, Exit.then]
    refine HQ.out _ _ ⟨⟨_, HB.out, rfl, rfl, rfl, rfl, fun _ _ _ => rfl⟩, ⟨_, BK102.out, .inl ⟨rfl, rfl⟩⟩, BK103.out⟩
  ·replace c7 := Bool.eq_false_iff.mpr c7
   subst c7; rw [if_neg (show ¬ (false = true) by decide)] at H; obtain ⟨t110, A33, H⟩ := bi H; simp only [Option.some.injEq, Prod.mk.injEq] at H; obtain ⟨rfl, rfl⟩ := H; go_wp2_with (first | ((with_reducible refine JC ?hnd ?hlo ?_); (case hnd => kernel_rfl); (case hlo => rintro ⟨_, _, h⟩; exact h)) | gi_step); replace HO2 := Qa.mk (Kd.V_drew HO2.out); replace BK101 := Qa.mk (Qh BK101.out); replace BK102 := Qa.mk (Qh BK102.out); replace BK103 := Qa.mk (Qh BK103.out); replace HB := Qa.mk (QM HB.out); refine ZS (n := 20) (S := fun w' => w'.cell? ⟨gb101, 0, none⟩ = some (.int .i64 a0_0) ∧ w'.cell? ⟨gb101, 1, none⟩ = some (.int .i64 a0_1) ∧ w'.cell? ⟨gb101, 2, none⟩ = some (.int .i64 a0_2) ∧ w'.cell? ⟨gb101, 3, none⟩ = some (.int .i64 a0_3) ∧ w'.cell? ⟨gb101, 4, none⟩ = some (.int .i64 a0_4) ∧ w'.cell? ⟨gb101, 5, none⟩ = some (.slice A0_5 l0_5.length c0_5) ∧ w'.cell? ⟨gb103, 0, none⟩ = some (.bool false)) (ds := []) rfl (by rintro ⟨_, _, h⟩; exact h) #[false, false, false, false, false, false, false, false, false, false, false, false, false, false, false, false, false, false, false, false] (by kernel_rfl) rfl rfl ⟨cz0 BK101, cz1 BK101, cz2 BK101, cz3 BK101, cz4 BK101, cz5 BK101, cz0 BK103⟩ (fun hHeld => ?_); refine Jk Q4.tab3 Q4.bits3 (fun HT_ HW_ => ?_); generalize w.drew = w37 at HO2 BK101 BK102 BK103 HB hHeld ⊢; refine pu 1 9 ?_; refine pu 3 11 ?_; refine pu 4 12 ?_; refine tk 0 8 hHeld ?_; refine tk 5 13 hHeld ?_; refine on 2 (fun K hK => ?_); refine gO Try.func33 #[.agg #[.int .i64 a0_0, .int .i64 a0_1, .int .i64 a0_2, .int .i64 a0_3, .int .i64 a0_4, .slice A0_5 l0_5.length c0_5], .slice A1 l1.length c1, .func (.func 34) #[] #[]] ?_
   with_reducible refine (Qj.calls k a0_0 a0_1 a0_2 a0_3 a0_4 _ _ l0_5 _ _ l1  t104 _ ?side1 ?side2 ?side3 ?side4 A5.out).mono ?_
   (case side1 => exact pC (Kd.C_below HR0_5.out HB.out))
   (case side2 => exact HC0_5.out)
   (case side3 => exact pC (Kd.C_below HR1.out HB.out))
   (case side4 => exact HC1.out)
   rintro e w38 ⟨rfl, hb⟩; refine ⟨_, rfl, ?_⟩; replace HO2 := vb HO2 hb; replace BK101 := bb BK101 hb; replace BK102 := bb BK102 hb; replace BK103 := bb BK103 hb; replace HB := bs HB hb
   (try clear hb)
   (try clear hb2)
   (try clear hk)
   (try clear hi)
   refine hK.out _ _ ⟨cz0 BK101, cz1 BK101, cz2 BK101, cz3 BK101, cz4 BK101, cz5 BK101, cz0 BK103⟩ (fun hHeld => ?_); clear hK K; refine QY (a' := ?_) ?_ ?_
   rotate_left
   ·show Act.put _ (some 10) _ = _
    simp only [Act.put, List.setIfInBounds_toArray, List.set_cons_zero, List.set_cons_succ, QR, QU]; rfl
   refine pu 6 14 ?_; refine pu 7 15 ?_; refine tk 8 16 hHeld ?_; refine pu 9 17 ?_; refine pu 10 18 ?_; refine pd 11 19 ?_; refine pd 12 20 ?_; refine pd 13 21 ?_; refine pd 14 22 ?_; refine pd 15 23 ?_; refine pd 16 24 ?_; refine pd 17 25 ?_; refine pu 18 26 ?_; refine pu 19 27 ?_; refine JD (JM HT_.out (by kernel_rfl)) ?_; go_wp2_with (first | ((with_reducible refine gc 63 rfl ?_); refine gL 29 Try.func63 #[.slice A1 l1.length c1] ?_; (with_reducible refine (Q5.calls _ _ l1 t110 _ ?side1 ?side2 A33.out).mono ?_); (case side1 => exact pC (Kd.C_below HR1.out HB.out)); (case side2 => exact HC1.out); rintro e w39 ⟨v111, rfl, ho0, hb⟩; refine ⟨_, rfl, ?_⟩; replace HO2 := Qa.mk (Kd.V_elder' (pV HO2.out) (Kd.R_base ho0) hb); have HO112 := Qa.mk (Kd.R_lower (Kd.R_newM (M := fun k_ => (w.heap.size ≤ k_)) ho0 (Qr (pE HB)) (fun k_ h_ => h_)) (Qr (pE HB))); replace BK101 := bb BK101 hb; replace BK102 := bb BK102 hb; replace BK103 := bb BK103 hb; replace HB := bs HB hb; clear hb ho0; obtain ⟨Ao40, co40, eo40⟩ := Kd.R_slice HO112.out; subst eo40; have hnb41 := NB102_101.out; have hnc41 := NB101_102.out; have hnb42 := NB102_103.out; have hnc42 := NB103_102.out; obtain ⟨_, _⟩ := cf1 BK102; have hnb44 := NB103_101.out; have hnc44 := NB101_103.out; obtain ⟨_, _⟩ := cf1 BK103) | ((with_reducible refine JC ?hnd ?hlo ?_); (case hnd => kernel_rfl); (case hlo => rintro ⟨_, _, h⟩; exact h)) | gi_step)
   try simp only [Exit.inBlock, Exit.then]
   refine HQ.out _ _ ⟨⟨w39, HB.out, rfl, rfl, rfl, by simp [World.setCell], fun k h2 h3 => (Below.heap_setCell _ _ _ k h3).trans (Below.heap_setCell _ _ _ k h2)⟩, ⟨.slice Ao40 t110.length co40, ?hb, .inr ?hR⟩, ?hk⟩
   case hb =>
    refine Qx ?_ NB102_103.out _; refine Qg (cs := #[.slice A2 l2.length c2]) ?_ 0 _ rfl; exact BK102.out
   case hk =>
    first
     | exact Qg (cs := #[.bool true]) (Qx BK103.out NB103_102.out _) 0 _ rfl
     | exact Qg (cs := #[.bool false]) (Qx BK103.out NB103_102.out _) 0 _ rfl
   case hR => exact Kd.R_mono (Rf1 (g := gb103) (Kd.R_far (p := ⟨gb102, 0, none⟩) (Kd.R_types (Kd.R_types HO112.out BK102.out (by decide)) BK103.out (by decide)) (fun _ hk => hk.1.2) (.slice Ao40 _ co40))) (fun _ _ => trivial)
 ·rw [if_neg c6] at H
  have c6b0 : decide (t104 ≤ a0_4) = false := decide_eq_false c6; clear c6; simp only [Option.some.injEq, Prod.mk.injEq] at H; obtain ⟨rfl, rfl⟩ := H; go_wp2_with (first | ((with_reducible refine JC ?hnd ?hlo ?_); (case hnd => kernel_rfl); (case hlo => rintro ⟨_, _, h⟩; exact h)) | gi_step); replace HO2 := Qa.mk (Kd.V_drew HO2.out); replace BK101 := Qa.mk (Qh BK101.out); replace BK102 := Qa.mk (Qh BK102.out); replace BK103 := Qa.mk (Qh BK103.out); replace HB := Qa.mk (QM HB.out); refine ZS (n := 20) (S := fun w' => w'.cell? ⟨gb101, 0, none⟩ = some (.int .i64 a0_0) ∧ w'.cell? ⟨gb101, 1, none⟩ = some (.int .i64 a0_1) ∧ w'.cell? ⟨gb101, 2, none⟩ = some (.int .i64 a0_2) ∧ w'.cell? ⟨gb101, 3, none⟩ = some (.int .i64 a0_3) ∧ w'.cell? ⟨gb101, 4, none⟩ = some (.int .i64 a0_4) ∧ w'.cell? ⟨gb101, 5, none⟩ = some (.slice A0_5 l0_5.length c0_5)) (ds := []) rfl (by rintro ⟨_, _, h⟩; exact h) #[false, false, false, false, false, false, false, false, false, false, false, false, false, false, false, false, false, false, false, false] (by kernel_rfl) rfl rfl ⟨cz0 BK101, cz1 BK101, cz2 BK101, cz3 BK101, cz4 BK101, cz5 BK101⟩ (fun hHeld => ?_); refine Jk Q4.tab3 Q4.bits3 (fun HT_ HW_ => ?_); generalize w.drew = w49 at HO2 BK101 BK102 BK103 HB hHeld ⊢; refine pu 1 9 ?_; refine pu 3 11 ?_; refine pu 4 12 ?_; refine tk 0 8 hHeld ?_; refine tk 5 13 hHeld ?_; refine on 2 (fun K hK => ?_); refine gO Try.func33 #[.agg #[.int .i64 a0_0, .int .i64 a0_1, .int .i64 a0_2, .int .i64 a0_3, .int .i64 a0_4, .slice A0_5 l0_5.length c0_5], .slice A1 l1.length c1, .func (.func 34) #[] #[]] ?_
  with_reducible refine (Qj.calls k a0_0 a0_1 a0_2 a0_3 a0_4 _ _ l0_5 _ _ l1  t104 _ ?side1 ?side2 ?side3 ?side4 A5.out).mono ?_
  (case side1 => exact pC (Kd.C_below HR0_5.out HB.out))
  (case side2 => exact HC0_5.out)
  (case side3 => exact pC (Kd.C_below HR1.out HB.out))
  (case side4 => exact HC1.out)
  rintro e w50 ⟨rfl, hb⟩; refine ⟨_, rfl, ?_⟩; replace HO2 := vb HO2 hb; replace BK101 := bb BK101 hb; replace BK102 := bb BK102 hb; replace BK103 := bb BK103 hb; replace HB := bs HB hb
  (try clear hb)
  (try clear hb2)
  (try clear hk)
  (try clear hi)
  refine hK.out _ _ ⟨cz0 BK101, cz1 BK101, cz2 BK101, cz3 BK101, cz4 BK101, cz5 BK101⟩ (fun hHeld => ?_); clear hK K; refine QY (a' := ?_) ?_ ?_
  rotate_left
  ·show Act.put _ (some 10) _ = _
   simp only [Act.put, List.setIfInBounds_toArray, List.set_cons_zero, List.set_cons_succ, QR, QU]; rfl
  refine pu 6 14 ?_; refine pu 7 15 ?_; refine pd 8 16 ?_; refine pd 9 17 ?_; refine pd 10 18 ?_; refine pd 11 19 ?_; refine pd 12 20 ?_; refine pd 13 21 ?_; refine pd 14 22 ?_; refine pd 15 23 ?_; refine pd 16 24 ?_; refine pd 17 25 ?_; refine pd 18 26 ?_; refine pu 19 27 ?_; refine JD (JM HT_.out (by kernel_rfl)) ?_
  try go_wp2
  go_wp2_with (first | ((with_reducible refine JC ?hnd ?hlo ?_); (case hnd => kernel_rfl); (case hlo => rintro ⟨_, _, h⟩; exact h)) | gi_step)
  try simp only [Exit.inBlock, Exit.then]
  refine HQ.out _ _ ⟨⟨_, HB.out, rfl, rfl, rfl, rfl, fun _ _ _ => rfl⟩, ⟨_, BK102.out, .inl ⟨rfl, rfl⟩⟩, BK103.out⟩
def Qv.l (k : Nat) (a0 a1 a2 a3 a4 : Int) (l0 : List S83) : List (List Int) → List Int → Bool → Option (List Int × Bool)
 | [], best, ok => some (best, ok)
 | m :: ms, best, ok => (Q4.f k a0 a1 a2 a3 a4 l0 m best ok).bind fun r => Qv.l k a0 a1 a2 a3 a4 l0 ms r.1 r.2
def Qv.f (k : Nat) (a0 a1 a2 a3 a4 : Int) (l0 : List S83) : Option (List Int × Bool) :=
 if l0.length = 0 then none else (Q8.l k a0 a1 a2 a3 a4 l0 (l0.length - 1) []).bind fun ms => Qv.l k a0 a1 a2 a3 a4 l0 ms [] false
theorem Qv.mono_l (k : Nat) (a0 a1 a2 a3 a4 : Int) (l0 : List S83) : ∀ ms best ok, LeO (Qv.l k a0 a1 a2 a3 a4 l0 ms best ok) (Qv.l (k + 1) a0 a1 a2 a3 a4 l0 ms best ok)
 | [], _, _ => LeO.refl _
 | m :: ms, best, ok => LeO.bind (Q4.mono _ _ _ _ _ _ _ _ _ _) fun r => Qv.mono_l k a0 a1 a2 a3 a4 l0 ms r.1 r.2
theorem Qv.mono : ∀ a0 a1 a2 a3 a4 a5 k, LeO (Qv.f k a0 a1 a2 a3 a4 a5) (Qv.f (k + 1) a0 a1 a2 a3 a4 a5) := by
 intro a0 a1 a2 a3 a4 a5 k; unfold Qv.f; exact LeO.ite (LeO.none _) (LeO.bind (Q8.mono_l _ _ _ _ _ _ _ _ _) fun ms => Qv.mono_l _ _ _ _ _ _ _ _ _ _)
theorem Xi {W : World} {g : Nat} {v : Value} {t : TypeId} {fr : Nat × Nat} (h : W.heap[g]? = some (.cells #[v] t fr)) : W.setCell ⟨g, 0, none⟩ v = W := by
 have e : W.heap.modify g (fun o => match o with | .cells c t' fr' => .cells (c.setIfInBounds 0 v) t' fr' | o => o) = W.heap := by
  apply Array.ext
  ·simp
  ·intro i h1 h2
   rw [Array.getElem_modify]
   split
   ·rename_i hi
    subst hi; rw [Array.getElem?_eq_getElem h2] at h; rw [Option.some.inj h]; rfl
   ·rfl
 show { W with heap := _ } = W; exact (congrArg (fun hp => { W with heap := hp }) e)
theorem ZK {W W' : World} {b lo base : Nat} {v : Value} {xs : List Int} (h : Kd.R (Kd.int .i64) 3 W base (fun _ => True) v xs) (k : Jg b lo 0 W W') : Kd.R (Kd.int .i64) 3 W' base (fun _ => True) v xs := by
 refine Kd.R_mono (Kd.R_move (Kd.R_tight rfl h) fun g hg => ?_) (fun _ _ => trivial); obtain ⟨_, inner, ho, _⟩ := h; obtain ⟨cells, hc⟩ := Zp ho g hg.symm; rw [hc]; exact k.same g _ hc (fun h3 => by omega) (fun _ => rfl)
theorem Ze {n : Nat} {w W W' : World} {b lo : Nat} (h : Below n w W) (hw : n ≤ w.heap.size) (k : Jg b lo 0 W W') (hb : n ≤ b) : Below n w W' := by
 refine h.trans ⟨k.os, k.tape, k.output, k.size, fun j hj => ?_⟩; have hjW : j < W.heap.size := Nat.lt_of_lt_of_le (Nat.lt_of_lt_of_le hj hw) h.size; rw [k.same j _ (Array.getElem?_eq_getElem hjW) (fun h3 => by omega) (fun h3 => by omega), Array.getElem?_eq_getElem hjW]
set_option maxHeartbeats 16000000 in
set_option maxRecDepth 100000 in
theorem Qv.calls (k : Nat) (a0_0 a0_1 a0_2 a0_3 a0_4 : Int) (A0_5 : Option Addr) (c0_5 : Nat) (l0_5 : List S83) (r1 : List Int) (r2 : Bool) (w : World) (hr0_5 : Kd.C k83 w A0_5 l0_5.length l0_5) (hc0_5 : l0_5.length ≤ c0_5) (h : Qv.f k a0_0 a0_1 a0_2 a0_3 a0_4 l0_5 = some (r1, r2)) :
    Calls Try.prog 36 #[.agg #[.int .i64 a0_0, .int .i64 a0_1, .int .i64 a0_2, .int .i64 a0_3, .int .i64 a0_4, .slice A0_5 l0_5.length c0_5]] w fun e w' => ∃ v0_ : Value, e = .returned (.tuple #[v0_, .bool r2]) ∧ Kd.R (Kd.int .i64) 3 w' w.heap.size (fun _ => True) v0_ r1 ∧ Below w.heap.size w w' := by
  unfold Qv.f at h
  split at h
  · cases h
  rename_i hl0
  obtain ⟨ms, hms, h⟩ := Option.bind_eq_some_iff.1 h; refine (callsIn_wide (n := 5)).1 (callsIn_of_wp_marks Try.func36 rfl trivial ?_ rfl); simp only [Try.ntmps36, List.size_toArray, List.length_cons, List.length_nil, Nat.reduceAdd, Nat.reduceSub, Array.replicate_succ, Array.replicate_zero, List.push_toArray, List.append_toArray, List.nil_append, List.cons_append]; have Ah := Qa.mk h; have Am := Qa.mk hms; have Al := Qa.mk hl0; have Ar := Qa.mk hr0_5; have Ac := Qa.mk hc0_5; clear h hms hl0 hr0_5 hc0_5
  go_wp2_with (first
    | ((with_reducible refine gd 1 ?_); refine Jl ?hg (N := 1) ?hd (cs := #[.int .i64 a0_0, .int .i64 a0_1, .int .i64 a0_2, .int .i64 a0_3, .int .i64 a0_4, .slice A0_5 l0_5.length c0_5]) (t := 75) ?hr ?_; (case hd => rfl); (case hg => rfl); (case hr => first | (go_simp; done) | (go_simp; rfl)); intro gb101 hg1 w1 hx1 hb1; have hlt1 := (Array.getElem?_eq_some_iff.1 hx1).1; have HG1 := Qa.mk hg1; clear hg1)
    | ((with_reducible refine gd 2 ?_); refine Jl ?hg (N := 2) ?hd (cs := #[.slice none 0 0]) (t := 24) ?hr ?_; (case hd => rfl); (case hg => rfl); (case hr => first | (go_simp; done) | (go_simp; rfl)); intro gb102 hg2 w2 hx2 hb2; have hlt2 := (Array.getElem?_eq_some_iff.1 hx2).1; have HG2 := Qa.mk hg2; clear hg2)
    | ((with_reducible refine gd 3 ?_); refine Jl ?hg (N := 3) ?hd (cs := #[.bool false]) (t := 4) ?hr ?_; (case hd => rfl); (case hg => rfl); (case hr => first | (go_simp; done) | (go_simp; rfl)); intro gb103 hg3 w3 hx3 hb3; have hlt3 := (Array.getElem?_eq_some_iff.1 hx3).1; have HG3 := Qa.mk hg3; clear hg3
       replace hx1 := (hb3.block _ (Array.getElem?_eq_some_iff.1 ((hb2.block _ (Array.getElem?_eq_some_iff.1 hx1).1).trans hx1)).1).trans ((hb2.block _ (Array.getElem?_eq_some_iff.1 hx1).1).trans hx1); replace hx2 := (hb3.block _ (Array.getElem?_eq_some_iff.1 hx2).1).trans hx2; have hz0 : w3.cell? ⟨gb101, 0, none⟩ = some (.int .i64 a0_0) := (Qb hx1 0).trans rfl; have hz1 : w3.cell? ⟨gb101, 1, none⟩ = some (.int .i64 a0_1) := (Qb hx1 1).trans rfl; have hz2 : w3.cell? ⟨gb101, 2, none⟩ = some (.int .i64 a0_2) := (Qb hx1 2).trans rfl; have hz3 : w3.cell? ⟨gb101, 3, none⟩ = some (.int .i64 a0_3) := (Qb hx1 3).trans rfl; have hz4 : w3.cell? ⟨gb101, 4, none⟩ = some (.int .i64 a0_4) := (Qb hx1 4).trans rfl; have hz5 : w3.cell? ⟨gb101, 5, none⟩ = some (.slice A0_5 l0_5.length c0_5) := (Qb hx1 5).trans rfl)
    | ((with_reducible refine gc 62 rfl ?_); refine XE (some 6) rfl rfl Try.func62 (by kernel_rfl) rfl #[.agg #[.int .i64 a0_0, .int .i64 a0_1, .int .i64 a0_2, .int .i64 a0_3, .int .i64 a0_4, .slice A0_5 l0_5.length c0_5], .slice none 0 0] rfl (by (try simp only [List.map_toArray, List.map_cons, List.map_nil]); first | done | rfl) ?_; refine (Xt _ _ _ _ _ _ _ _ _ _ _ _).mono ?_; rintro e w5 ⟨rfl, hw5⟩; refine ⟨_, rfl, ?_⟩)
    | (with_reducible refine JN ?_) | gi_step)
  clear hz0 hz1 hz2 hz3 hz4 hz5; have hB3 := QV (QV (QV (Below.refl w.heap.size w) hb1) hb2) hb3; have g1 := HG1.out; have g2 := HG2.out; have g3 := HG3.out; have hs1 := hb1.size; have hs2 := hb2.size; have hs3 := hb3.size; have hz5 : w5.heap.size = w3.heap.size + 2 := by rw [hw5]; simp
  have hb5 : Below w3.heap.size w3 w5 := by rw [hw5]; exact ((Below.refl _ w3).alloc (Nat.le_refl _) _).alloc (by simp) _
  have hB17 : w5.heap[w3.heap.size]? = some (.cells #[.int .i64 a0_0, .int .i64 a0_1, .int .i64 a0_2, .int .i64 a0_3, .int .i64 a0_4, .slice A0_5 l0_5.length c0_5] 75 (0, 0)) := by rw [hw5]; exact (Below.heap_alloc _ _ _ (by simp)).trans (World.alloc_heap_new _ _)
  have hB27 : w5.heap[w3.heap.size + 1]? = some (.cells #[.slice none 0 0] 24 (0, 0)) := by
    rw [hw5]; have := World.alloc_heap_new (w3.alloc (.cells #[.int .i64 a0_0, .int .i64 a0_1, .int .i64 a0_2, .int .i64 a0_3, .int .i64 a0_4, .slice A0_5 l0_5.length c0_5] 75)) (.cells #[.slice none 0 0] 24); rwa [World.size_alloc] at this
  clear hw5; replace hx1 := (hb5.block _ (by omega)).trans hx1; replace hx2 := (hb5.block _ (by omega)).trans hx2; replace hx3 := (hb5.block _ (by omega)).trans hx3; have hB5 := QV hB3 hb5
  have hseq := Xy k a0_0 a0_1 a0_2 a0_3 a0_4 A0_5 c0_5 l0_5 Ac.out (l0_5.length - 1) [] ms 4 w5 w3.heap.size (w3.heap.size + 1) none 0 (fun k => k = gb102 ∨ k = gb103) Am.out (by omega) (Nat.le_refl _) (by
    intro W' hsz hsame; refine ⟨(hsame _ (by omega) (by omega)).trans hB17, (hsame _ (by omega) (by omega)).trans hB27, ?_, XJ W' 0 3 1⟩; exact Kd.C_F JT Ar.out W' (fun k hk _ => (hsame k (by omega) (by omega)).trans (hB5.block k hk)))
  refine ZW (xs := ms) (Rv := RvM) (Ex := fun k => k = gb102 ∨ k = gb103) (c := 0) (E := fun _ => True) (w0 := w5) rfl (fun h0 => by cases h0) (gf := 74) rfl trivial (fun args w => Zt Try.func74 (by kernel_rfl) rfl args w) hseq (Below.refl _ _) (fun x vs W h => by obtain ⟨v, rfl, _⟩ := h; rfl)
    (fun i W' => ∃ v best ok, Qv.l k a0_0 a0_1 a0_2 a0_3 a0_4 l0_5 (ms.drop i) best ok = some (r1, r2) ∧ W'.heap[gb101]? = some (.cells #[.int .i64 a0_0, .int .i64 a0_1, .int .i64 a0_2, .int .i64 a0_3, .int .i64 a0_4, .slice A0_5 l0_5.length c0_5] 75 (0, 0)) ∧ W'.heap[gb102]? = some (.cells #[v] 24 (0, 0)) ∧ W'.heap[gb103]? = some (.cells #[.bool ok] 4 (0, 0)) ∧ Kd.R (Kd.int .i64) 3 W' w.heap.size (fun _ => True) v best ∧ Below w.heap.size w W')
    (fun _ _ _ => False) ?hI (fun _ _ _ _ h _ => h) ⟨.slice none 0 0, [], false, by rw [List.drop_zero]; exact Ah.out, hx1, hx2, hx3, Kd.R_nil _ _ _ _ _, hB5⟩
    (fun i x a' W' => ∃ v, a' = { tmps := #[.agg #[.int .i64 a0_0, .int .i64 a0_1, .int .i64 a0_2, .int .i64 a0_3, .int .i64 a0_4, .slice A0_5 l0_5.length c0_5], .pointer (some ⟨gb101, 0, none⟩), .pointer (some ⟨gb102, 0, none⟩), .pointer (some ⟨gb103, 0, none⟩), v, .agg #[.int .i64 a0_0, .int .i64 a0_1, .int .i64 a0_2, .int .i64 a0_3, .int .i64 a0_4, .slice A0_5 l0_5.length c0_5], .func (.func 74) #[] #[.pointer (some ⟨w3.heap.size, 0, none⟩), .pointer (some ⟨w3.heap.size + 1, 0, none⟩)], v, undef, undef, undef, undef, undef, undef, undef, undef, undef, undef, undef, undef, undef, undef, undef, undef, undef, undef, undef, undef, undef, undef, undef, undef], defers := [] } ∧ RvM x #[v] W' ∧ ∃ u best ok, Qv.l k a0_0 a0_1 a0_2 a0_3 a0_4 l0_5 (ms.drop i) best ok = some (r1, r2) ∧ W'.heap[gb101]? = some (.cells #[.int .i64 a0_0, .int .i64 a0_1, .int .i64 a0_2, .int .i64 a0_3, .int .i64 a0_4, .slice A0_5 l0_5.length c0_5] 75 (0, 0)) ∧ W'.heap[gb102]? = some (.cells #[u] 24 (0, 0)) ∧ W'.heap[gb103]? = some (.cells #[.bool ok] 4 (0, 0)) ∧ Kd.R (Kd.int .i64) 3 W' w.heap.size (fun _ => True) u best ∧ Below w.heap.size w W')
    ?hAx ?assign ?body ?done (fun _ _ _ _ _ _ h => h.elim)
  case hI =>
    rintro i X Y ⟨v, best, ok, hl, h1, h2, h3, h4, h5⟩ hs; exact ⟨v, best, ok, hl, hs.same _ _ h1 (by omega) (fun _ => rfl), hs.same _ _ h2 (by omega) (fun _ => rfl), hs.same _ _ h3 (by omega) (fun _ => rfl), ZK h4 hs, Ze h5 (Nat.le_refl _) hs (by omega)⟩
  case hAx =>
    rintro i x a' _ X Y ⟨v, ha, hr, u, best, ok, hl, h1, h2, h3, h4, h5⟩ hs; exact ⟨v, ha, hr.istep hs, u, best, ok, hl, hs.same _ _ h1 (by omega) (fun _ => rfl), hs.same _ _ h2 (by omega) (fun _ => rfl), hs.same _ _ h3 (by omega) (fun _ => rfl), ZK h4 hs, Ze h5 (Nat.le_refl _) hs (by omega)⟩
  case assign =>
    rintro l' i x vs W' K hx hi ⟨v, rfl, hv⟩ hsz hK; simp only [List.zip_toArray, List.zip_cons_cons, List.zip_nil_right, List.zip_nil_left, List.size_toArray, List.foldl_toArray', List.foldl_cons, List.foldl_nil, List.setIfInBounds_toArray, List.set_cons_zero, List.set_cons_succ, List.length_cons, List.length_nil]; clear hseq; have Hi := Qa.mk hi; clear hi hx1 hx2 hx3 hB17 hB27 g1 g2 g3; go_wp2_with (first | ((with_reducible refine JC ?hnd ?hlo ?_); (case hnd => kernel_rfl); (case hlo => rintro ⟨_, _, h⟩; exact h)) | gi_step); exact hK _ _ (Below.refl _ _) ⟨v, rfl, ⟨v, rfl, hv⟩, Hi.out⟩
  case body =>
    rintro l' i x a' W' hl' hloop hx ⟨v, rfl, ⟨v', hv', ho⟩, u, best, ok, hl, h1, h2, h3, h4, h5⟩ hsz; obtain rfl : v = v' := by simpa using hv'
    obtain ⟨A1, c1, rfl⟩ := XT ho; obtain ⟨A2, c2, rfl⟩ := Kd.R_slice h4
    have hd : ms.drop i = x :: ms.drop (i + 1) := by
      obtain ⟨hlt, e⟩ := List.getElem?_eq_some_iff.1 hx; rw [List.drop_eq_getElem_cons hlt, e]
    rw [hd] at hl; obtain ⟨⟨b', ok'⟩, hf, hl⟩ := Option.bind_eq_some_iff.1 hl; have hRt := Kd.R_types (Kd.R_types (Kd.R_types h4 h1 (by decide)) h2 (by decide)) h3 (by decide)
    have hV : Kd.V (Kd.int .i64) 3 W' W'.heap.size (fun k_ => ((((fun _ => True) k_ ∨ W'.heap.size ≤ k_) ∧ k_ ≠ gb101) ∧ k_ ≠ gb102) ∧ k_ ≠ gb103) (.slice A2 best.length c2) best :=
      Kd.V_mono (Kd.R_V hRt) (fun k hk => ⟨⟨⟨.inl trivial, hk.1.1.2⟩, hk.1.2⟩, hk.2⟩)
    refine wpIn_mono (Yr k _ l' a0_0 a0_1 a0_2 a0_3 a0_4 A0_5 c0_5 l0_5 A1 c1 x (fun _ => True) A2 c2 best ok b' ok' W' gb101 gb102 gb103 h1 h2 h3 (by omega) (by omega) (by omega) (Kd.C_below Ar.out h5) Ac.out (own_C ho) (X7 ho) hV hf _ _ _ _
      (fun _ W2 => ZR w5.heap.size (fun k => k = gb102 ∨ k = gb103) w5.heap.size (w5.heap.size + 2) (fun _ => True) W' W2 ∧ ∃ v best ok, Qv.l k a0_0 a0_1 a0_2 a0_3 a0_4 l0_5 (ms.drop (i + 1)) best ok = some (r1, r2) ∧ W2.heap[gb101]? = some (.cells #[.int .i64 a0_0, .int .i64 a0_1, .int .i64 a0_2, .int .i64 a0_3, .int .i64 a0_4, .slice A0_5 l0_5.length c0_5] 75 (0, 0)) ∧ W2.heap[gb102]? = some (.cells #[v] 24 (0, 0)) ∧ W2.heap[gb103]? = some (.cells #[.bool ok] 4 (0, 0)) ∧ Kd.R (Kd.int .i64) 3 W2 w.heap.size (fun _ => True) v best ∧ Below w.heap.size w W2)
      ?hQ _ rfl) ?_
    case hQ =>
      rintro a2 W2 ⟨⟨w1', hb', ho', ht', hp', hsz', hsame⟩, ⟨v, hv2, hor⟩, hok⟩; have hkeep : ∀ k, k < W'.heap.size → k ≠ gb102 → k ≠ gb103 → W2.heap[k]? = W'.heap[k]? := fun k hk hn2 hn3 => (hsame k hn2 hn3).trans (hb'.block k hk)
      have hs2 : W'.heap.size ≤ W2.heap.size := by rw [hsz']; exact hb'.size
      refine ⟨⟨fun k o hB ho2 hc => (hkeep k (Array.getElem?_eq_some_iff.1 ho2).1 (by omega) (by omega)).trans ho2, hs2, fun k hk hh => hkeep k hk (by omega) (by omega), fun k o hB ho2 hc => (hkeep k (Array.getElem?_eq_some_iff.1 ho2).1 (by omega) (by omega)).trans ho2⟩,
        v, b', ok', hl, (hkeep _ (Array.getElem?_eq_some_iff.1 h1).1 (by omega) (by omega)).trans h1, hv2, hok, ?_, ?_⟩
      · rcases hor with ⟨rfl, rfl⟩ | hR
        · exact Kd.R_mono (Kd.R_step hRt fun k hk hlt => hkeep k hlt hk.1.2 hk.2) (fun _ _ => trivial)
        · exact Kd.R_lower hR h5.size
      · exact h5.trans ⟨ho'.trans hb'.os, ht'.trans hb'.tape, hp'.trans hb'.output, hs2, fun k hk => hkeep k (Nat.lt_of_lt_of_le hk h5.size) (by omega) (by omega)⟩
    · intro e a2 W2 hq
      cases e with
      | normal => exact hq
      | _ => exact hq.elim
  case done =>
    rintro D W' hD ⟨v, best, ok, hl, h1, h2, h3, h4, h5⟩ hmk; rw [List.drop_length] at hl; obtain ⟨rfl, rfl⟩ : best = r1 ∧ ok = r2 := by simpa [Qv.l] using hl
    clear hseq; have H4 := Qa.mk h4; have H5 := Qa.mk h5; have HD := Qa.mk hD; have HM := Qa.mk hmk; have H1 := Qa.mk h2; have H3 := Qa.mk h3; obtain ⟨A, c, rfl⟩ := Kd.R_slice h4; clear h4 h5 hmk h1 hx1 hx2 hx3 hB17 hB27 g1 g2 g3; simp only [Exit.inBlock, Exit.then, Act.put, List.setIfInBounds_toArray, List.set_cons_zero, List.set_cons_succ]; go_wp2_with gi_step; refine wpIn_mono (Q := Exit.then (fun a' w' => a' = { tmps := #[.agg #[.int .i64 a0_0, .int .i64 a0_1, .int .i64 a0_2, .int .i64 a0_3, .int .i64 a0_4, .slice A0_5 l0_5.length c0_5], .pointer (some ⟨gb101, 0, none⟩), .pointer (some ⟨gb102, 0, none⟩), .pointer (some ⟨gb103, 0, none⟩), undef, .agg #[.int .i64 a0_0, .int .i64 a0_1, .int .i64 a0_2, .int .i64 a0_3, .int .i64 a0_4, .slice A0_5 l0_5.length c0_5], .func (.func 74) #[] #[.pointer (some ⟨w3.heap.size, 0, none⟩), .pointer (some ⟨w3.heap.size + 1, 0, none⟩)], undef, undef, undef, undef, undef, undef, undef, undef, undef, undef, undef, undef, undef, undef, undef, undef, undef, undef, undef, undef, undef, undef, undef, .slice A best.length c, .bool ok], defers := [mk D] } ∧ w' = W'.drew) (fun _ _ _ => False)) ?reg ?rest
    case rest =>
      intro e a' w' hq
      cases e with
      | normal =>
        obtain ⟨rfl, rfl⟩ := hq; simp only [Exit.then]; go_wp2_with gi_step; refine JQ.leaves (lo := w5.heap.size) (Ds := [D]) (.cons (show W'.drew.heap[D]? = _ from HM.out) HD.out (fun E hE => by cases hE) (.nil _)) fun W2 hs => ⟨.tuple #[.slice A best.length c, .bool ok], ?res, _, rfl, ZK (Kd.R_drew H4.out) hs, Ze (QM H5.out) (Nat.le_refl _) hs (by omega)⟩
        have q2 := hs.same _ _ (Qh H1.out) (by omega) (fun _ => rfl); have q3 := hs.same _ _ (Qh H3.out) (by omega) (fun _ => rfl); have q2c : W2.cell? ⟨gb102, 0, none⟩ = some (.slice A best.length c) := (Qb q2 0).trans rfl; have q3c : W2.cell? ⟨gb103, 0, none⟩ = some (.bool ok) := (Qb q3 0).trans rfl; have u27 := Try.underlying24; have u4 := Try.underlying4; have hr : Try.f36.results = #[.cell 2 24, .cell 3 4] := rfl; unfold results; rw [hr]
        simp [loadVar, go_sem, q2c, q3c, u27, u4]
      | _ => exact hq.elim
    refine wpIn_wide.2 (JS (n := 4) (S := fun w' => w' = W'.drew) (ds := []) #[false, false, false, false] (by kernel_rfl) rfl rfl rfl (fun hHeld => ?_)); have c2 : W'.drew.cell? ⟨gb102, 0, none⟩ = some (.slice A best.length c) := (Qb (Qh H1.out) 0).trans rfl; have c3 : W'.drew.cell? ⟨gb103, 0, none⟩ = some (.bool ok) := (Qb (Qh H3.out) 0).trans rfl; have f2 := Qq (Qh H1.out) 0; have f3 := Qq (Qh H3.out) 0; have s2 := Xi (Qh H1.out); have s3 := Xi (Qh H3.out); clear hHeld h2 h3; generalize hW0 : W'.drew = W0 at c2 c3 f2 f3 s2 s3 ⊢; have hHeld : W0 = W0 := rfl; refine X3 (i := 0) (N := some 30) (v := ?_) (a' := ?_) #[true, false, false, false] rfl rfl (by kernel_rfl) (fun _ _ _ h => h) (Or.inl ⟨by rfl, ?_⟩) hHeld ?_ ?_
    rotate_left
    · rintro w' rfl
      go_simp
      with_reducible rfl
    rotate_left
    · simp only [Act.put, List.setIfInBounds_toArray, List.set_cons_zero, List.set_cons_succ, QR, QU]
      rfl
    refine X3 (i := 1) (N := some 31) (v := ?_) (a' := ?_) #[true, true, false, false] rfl rfl (by kernel_rfl) (fun _ _ _ h => h) (Or.inl ⟨by rfl, ?_⟩) hHeld ?_ ?_
    rotate_left
    · rintro w' rfl
      go_simp
      with_reducible rfl
    rotate_left
    · simp only [Act.put, List.setIfInBounds_toArray, List.set_cons_zero, List.set_cons_succ, QR, QU]
      rfl
    refine on 2 (fun K hK => ?_); refine Z7 (w1 := W0) (by rfl) rfl ?_ ?_
    · first | (go_simp; done) | (go_simp; rw [s2])
    refine hK.out _ _ rfl (fun _ => ?_); clear hK K; refine on 3 (fun K hK => ?_); refine Z7 (w1 := W0) (by rfl) rfl ?_ ?_
    · first | (go_simp; done) | (go_simp; rw [s3])
    refine hK.out _ _ rfl (fun _ => ?_); clear hK K; refine JD (by kernel_rfl) ?_; exact ⟨rfl, rfl⟩
end Go.Proofs.Ytjaapkkpmegkfaa.P
namespace Go.Proofs.Ytjaapkkpmegkfaa.P
open Go.RowKit Go.Proofs.YtjaapkkpmegkfaaW.PrintWords Go.Proofs.YtjaapkkpmegkfaaW.PrintLast Go.Proofs.YtjaapkkpmegkfaaW.PrintMore
attribute [local go_sem] JG JH JY JX Jv Ju JJ JK
def Jb.f (k : Nat) (l0 : List S83) (a1_0 a1_1 a1_2 a1_3 a1_4 : Int) : Option (List Int × Int × Int) := (Jd.f l0 a1_0 a1_1 a1_2 a1_3 a1_4).bind fun bt102 => (if bt102.2.2.2.2.2.2 = 0 then ((Qv.f k bt102.1 bt102.2.1 bt102.2.2.1 bt102.2.2.2.1 bt102.2.2.2.2.1 bt102.2.2.2.2.2.1).bind fun bt112 => (if bt112.2 = true then ((Qi.f k bt102.1 bt102.2.1 bt102.2.2.1 bt102.2.2.2.1 bt102.2.2.2.2.1 bt102.2.2.2.2.2.1 bt112.1).bind fun t116 => (some (bt112.1, t116, 0))) else (some (([] : List Int), 0, 9)))) else (some (([] : List Int), 0, bt102.2.2.2.2.2.2)))
theorem Jb.mono : ∀ a0 a1 a2 a3 a4 a5 k, LeO (Jb.f k a0 a1 a2 a3 a4 a5) (Jb.f (k + 1) a0 a1 a2 a3 a4 a5) := by
 intro a0 a1 a2 a3 a4 a5 k; unfold Jb.f
 repeat' first
   | (with_reducible exact Qv.mono _ _ _ _ _ _ _)
   | (with_reducible exact Qi.mono _ _ _ _ _ _ _ _)
   | (with_reducible exact LeO.refl _)
   | (with_reducible exact LeO.none _)
   | (with_reducible refine LeO.ite ?_ ?_)
   | (with_reducible refine LeO.bind ?_ (fun _ => ?_))
set_option maxHeartbeats 8000000 in
set_option maxRecDepth 100000 in
theorem Jb.calls (k : Nat) (A0 : Option Addr) (c0 : Nat) (l0 : List S83) (a1_0 a1_1 a1_2 a1_3 a1_4 : Int) (r1 : List Int) (r2 r3 : Int) (w : World) (hr0 : Kd.C k83 w A0 l0.length l0) (hc0 : l0.length ≤ c0) (h : Jb.f k l0 a1_0 a1_1 a1_2 a1_3 a1_4 = some (r1, r2, r3)) :
  Calls Try.prog 16 #[.slice A0 l0.length c0, .agg #[.int .i64 a1_0, .int .i64 a1_1, .int .i64 a1_2, .int .i64 a1_3, .int .i64 a1_4]] w fun e w' => ∃ v0_ : Value, e = .returned (.tuple #[v0_, .int .i64 r2, .int .i64 r3]) ∧ Kd.R (Kd.int .i64) 3 w' w.heap.size (fun _ => True) v0_ r1 ∧ Below w.heap.size w w' := by
 have hu40 := Try.underlying40; have hu75 := Try.underlying75; have HR0 := Qa.mk hr0; have HC0 := Qa.mk hc0; clear hr0 hc0; have HB := Qa.mk (Below.refl w.heap.size w); have H : ((Jd.f l0 a1_0 a1_1 a1_2 a1_3 a1_4).bind fun bt102 => (if bt102.2.2.2.2.2.2 = 0 then ((Qv.f k bt102.1 bt102.2.1 bt102.2.2.1 bt102.2.2.2.1 bt102.2.2.2.2.1 bt102.2.2.2.2.2.1).bind fun bt112 => (if bt112.2 = true then ((Qi.f k bt102.1 bt102.2.1 bt102.2.2.1 bt102.2.2.2.1 bt102.2.2.2.2.1 bt102.2.2.2.2.2.1 bt112.1).bind fun t116 => (some (bt112.1, t116, 0))) else (some (([] : List Int), 0, 9)))) else (some (([] : List Int), 0, bt102.2.2.2.2.2.2)))) = some (r1, r2, r3) := h; clear h; obtain ⟨⟨t102, t103, t104, t105, t106, t107, t110⟩, A3, H⟩ := bi H; by_cases c4 : t110 = 0
 ·rw [if_pos c4] at H
  have c4b0 : (t110 == 0) = true := beq_iff_eq.mpr c4; have c4b1 : (t110 != 0) = false := bne_eq_false_iff_eq.mpr c4; clear c4; obtain ⟨⟨t112, t115⟩, A5, H⟩ := bi H; by_cases c6 : t115 = true
  ·subst c6
   rw [if_pos rfl] at H; obtain ⟨t116, A7, H⟩ := bi H; simp only [Option.some.injEq, Prod.mk.injEq] at H; obtain ⟨rfl, rfl, rfl⟩ := H; go_enter Try.func16, Try.ntmps16; go_wp2_with (first | (refine bx 3 #[.int .i64 a1_0, .int .i64 a1_1, .int .i64 a1_2, .int .i64 a1_3, .int .i64 a1_4] 40 ?_; intro gb101 hg w8 BK101 hb; have GW101 := gs HB hg; replace HB := bs HB hb; clear hb hg; obtain ⟨_, _, _, _, _, _, _, _, _, _⟩ := cf5 BK101) | ((with_reducible refine gc 35 rfl ?_); refine gL 14 Try.func35 #[.slice A0 l0.length c0, .agg #[.int .i64 a1_0, .int .i64 a1_1, .int .i64 a1_2, .int .i64 a1_3, .int .i64 a1_4]] ?_; (with_reducible refine (Jd.calls (fun k_ => k_ < w.heap.size) _ _ l0 a1_0 a1_1 a1_2 a1_3 a1_4 t102 t103 t104 t105 t106 t107 t110 _ ?side1 A3.out).mono ?_); (case side1 => exact Kd.V_mk HC0.out (Kd.F_below (Kd.C_F JT HR0.out) (pE HB))); rintro e w10 ⟨v108, rfl, ho0, hb⟩; refine ⟨_, rfl, ?_⟩; have HO109 := Qa.mk (Kd.V_lower (Kd.V_mono (ok' := fun k_ => k_ ≠ gb101) ho0 (fun k_ hk_ => Or.elim hk_ (fun hs_ => fun e_ => Nat.not_le.2 hs_ (by rw [e_]; exact GW101.out)) (fun hn_ => (Kd.freshB (g := gb101) (o := .cells #[.int .i64 a1_0, .int .i64 a1_1, .int .i64 a1_2, .int .i64 a1_3, .int .i64 a1_4] 40 (0, 0)) (pB BK101.out) k_ hn_)))) (Qr (pE HB))); replace BK101 := bb BK101 hb; replace HB := bs HB hb; clear hb ho0) | (refine bx 7 #[.int .i64 0, .int .i64 0, .int .i64 0, .int .i64 0, .int .i64 0, .slice none 0 0] 75 ?_; intro gb111 hg w11 hbox hb; replace HO109 := ve HO109 hg hb; have BK111 := hbox; have GW111 := gs HB hg; replace HB := bs HB hb; have NB101_111 := nl BK101 hg; have NB111_101 := nr BK101 hg; replace BK101 := bb BK101 hb; clear hb hg; have hnb12 := NB111_101.out; have hnc12 := NB101_111.out; obtain ⟨_, _, _, _, _, _, _, _, _, _, _, _⟩ := cf6 BK111; obtain ⟨Ao14, co14, eo14⟩ := Kd.V_slice HO109.out; subst eo14) | ((with_reducible refine gc 36 rfl ?_); refine gL 22 Try.func36 #[.agg #[.int .i64 t102, .int .i64 t103, .int .i64 t104, .int .i64 t105, .int .i64 t106, .slice Ao14 t107.length co14]] ?_; (with_reducible refine (Qv.calls k t102 t103 t104 t105 t106 _ _ t107 t112 true _ ?side1 ?side2 A5.out).mono ?_); (case side1 => refine (Kd.V_reads' (e := 83) (base := w.heap.size) (ok := fun k_ => (k_ ≠ gb101 ∧ k_ ≠ gb111)) (n := t107.length) (c := co14) ?_).2.2; exact (by refine pV ?_; exact (Kd.V_mono (Vf6 (g := gb111) (Kd.V_mono HO109.out (fun k_ hk => (⟨hk, hk.2⟩ : _ ∧ k_ ≠ gb111)))) (fun _ h_ => h_.1)))); (case side2 => exact (Kd.V_reads' HO109.out).2.1); rintro e w15 ⟨v113, rfl, ho0, hb⟩; refine ⟨_, rfl, ?_⟩; replace HO109 := Qa.mk (Kd.V_elder' (by refine pV ?_; exact (Kd.V_mono (Vf6 (g := gb111) (Kd.V_mono HO109.out (fun k_ hk => (⟨hk, hk.2⟩ : _ ∧ k_ ≠ gb111)))) (fun _ h_ => h_.1))) (Kd.R_base ho0) hb); have HO114 := rl ho0 HB; replace BK101 := bf BK101 hb; replace BK111 := Qa.mk (QX (g := gb111) (o := .cells #[.int .i64 t102, .int .i64 t103, .int .i64 t104, .int .i64 t105, .int .i64 t106, .slice Ao14 t107.length co14] 75 (0, 0)) (by refine pB ?_; refine Qg (cs := #[.int .i64 t102, .int .i64 t103, .int .i64 t104, .int .i64 t105, .int .i64 t106, .slice none 0 0]) ?_ 5 _ rfl; refine pB ?_; refine Qg (cs := #[.int .i64 t102, .int .i64 t103, .int .i64 t104, .int .i64 t105, .int .i64 0, .slice none 0 0]) ?_ 4 _ rfl; refine pB ?_; refine Qg (cs := #[.int .i64 t102, .int .i64 t103, .int .i64 t104, .int .i64 0, .int .i64 0, .slice none 0 0]) ?_ 3 _ rfl; refine pB ?_; refine Qg (cs := #[.int .i64 t102, .int .i64 t103, .int .i64 0, .int .i64 0, .int .i64 0, .slice none 0 0]) ?_ 2 _ rfl; refine pB ?_; refine Qg (cs := #[.int .i64 t102, .int .i64 0, .int .i64 0, .int .i64 0, .int .i64 0, .slice none 0 0]) ?_ 1 _ rfl; refine pB ?_; refine Qg (cs := #[.int .i64 0, .int .i64 0, .int .i64 0, .int .i64 0, .int .i64 0, .slice none 0 0]) ?_ 0 _ rfl; (with_reducible repeat (first | refine Qt ?_ _ | refine Qh ?_ | refine blk_alloc ?_ _)); exact BK111.out) hb); replace HB := bs HB hb; clear hb ho0; obtain ⟨_, _, _, _, _, _, _, _, _, _, _, _⟩ := cf6 BK111; obtain ⟨Ao17, co17, eo17⟩ := Kd.R_slice HO114.out; subst eo17) | ((with_reducible refine gc 33 rfl ?_); refine gL 30 Try.func33 #[.agg #[.int .i64 t102, .int .i64 t103, .int .i64 t104, .int .i64 t105, .int .i64 t106, .slice Ao14 t107.length co14], .slice Ao17 t112.length co17, .func (.func 37) #[] #[]] ?_; (with_reducible refine (Qi.calls k t102 t103 t104 t105 t106 _ _ t107 _ _ t112  t116 _ ?side1 ?side2 ?side3 ?side4 A7.out).mono ?_); (case side1 => exact pC (Kd.V_reads' HO109.out).2.2); (case side2 => exact (Kd.V_reads' HO109.out).2.1); (case side3 => exact pC (Kd.R_reads' HO114.out).2.2); (case side4 => exact (Kd.R_reads' HO114.out).2.1); rintro e w18 ⟨rfl, hb⟩; refine ⟨_, rfl, ?_⟩; replace HO109 := vb HO109 hb; replace HO114 := rb HO114 hb; replace BK101 := bb BK101 hb; replace BK111 := bb BK111 hb; replace HB := bs HB hb; clear hb)); go_ret3; exact ⟨_, eT, by (with_reducible repeat (first | apply Kd.R_alloc | apply Kd.R_drewN | apply Kd.R_drew)); exact HO114.out, pE HB⟩
  ·replace c6 := Bool.eq_false_iff.mpr c6
   subst c6; rw [if_neg (show ¬ (false = true) by decide)] at H; simp only [Option.some.injEq, Prod.mk.injEq] at H; obtain ⟨rfl, rfl, rfl⟩ := H; go_enter Try.func16, Try.ntmps16; go_wp2_with (first | (refine bx 3 #[.int .i64 a1_0, .int .i64 a1_1, .int .i64 a1_2, .int .i64 a1_3, .int .i64 a1_4] 40 ?_; intro gb101 hg w19 BK101 hb; have GW101 := gs HB hg; replace HB := bs HB hb; clear hb hg; obtain ⟨_, _, _, _, _, _, _, _, _, _⟩ := cf5 BK101) | ((with_reducible refine gc 35 rfl ?_); refine gL 14 Try.func35 #[.slice A0 l0.length c0, .agg #[.int .i64 a1_0, .int .i64 a1_1, .int .i64 a1_2, .int .i64 a1_3, .int .i64 a1_4]] ?_; (with_reducible refine (Jd.calls (fun k_ => k_ < w.heap.size) _ _ l0 a1_0 a1_1 a1_2 a1_3 a1_4 t102 t103 t104 t105 t106 t107 t110 _ ?side1 A3.out).mono ?_); (case side1 => exact Kd.V_mk HC0.out (Kd.F_below (Kd.C_F JT HR0.out) (pE HB))); rintro e w21 ⟨v108, rfl, ho0, hb⟩; refine ⟨_, rfl, ?_⟩; have HO109 := Qa.mk (Kd.V_lower (Kd.V_mono (ok' := fun k_ => k_ ≠ gb101) ho0 (fun k_ hk_ => Or.elim hk_ (fun hs_ => fun e_ => Nat.not_le.2 hs_ (by rw [e_]; exact GW101.out)) (fun hn_ => (Kd.freshB (g := gb101) (o := .cells #[.int .i64 a1_0, .int .i64 a1_1, .int .i64 a1_2, .int .i64 a1_3, .int .i64 a1_4] 40 (0, 0)) (pB BK101.out) k_ hn_)))) (Qr (pE HB))); replace BK101 := bb BK101 hb; replace HB := bs HB hb; clear hb ho0) | (refine bx 7 #[.int .i64 0, .int .i64 0, .int .i64 0, .int .i64 0, .int .i64 0, .slice none 0 0] 75 ?_; intro gb111 hg w22 hbox hb; replace HO109 := ve HO109 hg hb; have BK111 := hbox; have GW111 := gs HB hg; replace HB := bs HB hb; have NB101_111 := nl BK101 hg; have NB111_101 := nr BK101 hg; replace BK101 := bb BK101 hb; clear hb hg; have hnb23 := NB111_101.out; have hnc23 := NB101_111.out; obtain ⟨_, _, _, _, _, _, _, _, _, _, _, _⟩ := cf6 BK111; obtain ⟨Ao25, co25, eo25⟩ := Kd.V_slice HO109.out; subst eo25) | ((with_reducible refine gc 36 rfl ?_); refine gL 22 Try.func36 #[.agg #[.int .i64 t102, .int .i64 t103, .int .i64 t104, .int .i64 t105, .int .i64 t106, .slice Ao25 t107.length co25]] ?_; (with_reducible refine (Qv.calls k t102 t103 t104 t105 t106 _ _ t107 t112 false _ ?side1 ?side2 A5.out).mono ?_); (case side1 => refine (Kd.V_reads' (e := 83) (base := w.heap.size) (ok := fun k_ => (k_ ≠ gb101 ∧ k_ ≠ gb111)) (n := t107.length) (c := co25) ?_).2.2; exact (by refine pV ?_; exact (Kd.V_mono (Vf6 (g := gb111) (Kd.V_mono HO109.out (fun k_ hk => (⟨hk, hk.2⟩ : _ ∧ k_ ≠ gb111)))) (fun _ h_ => h_.1)))); (case side2 => exact (Kd.V_reads' HO109.out).2.1); rintro e w26 ⟨v113, rfl, ho0, hb⟩; refine ⟨_, rfl, ?_⟩; replace HO109 := Qa.mk (Kd.V_elder' (by refine pV ?_; exact (Kd.V_mono (Vf6 (g := gb111) (Kd.V_mono HO109.out (fun k_ hk => (⟨hk, hk.2⟩ : _ ∧ k_ ≠ gb111)))) (fun _ h_ => h_.1))) (Kd.R_base ho0) hb); have HO114 := rl ho0 HB; replace BK101 := bf BK101 hb; replace BK111 := Qa.mk (QX (g := gb111) (o := .cells #[.int .i64 t102, .int .i64 t103, .int .i64 t104, .int .i64 t105, .int .i64 t106, .slice Ao25 t107.length co25] 75 (0, 0)) (by refine pB ?_; refine Qg (cs := #[.int .i64 t102, .int .i64 t103, .int .i64 t104, .int .i64 t105, .int .i64 t106, .slice none 0 0]) ?_ 5 _ rfl; refine pB ?_; refine Qg (cs := #[.int .i64 t102, .int .i64 t103, .int .i64 t104, .int .i64 t105, .int .i64 0, .slice none 0 0]) ?_ 4 _ rfl; refine pB ?_; refine Qg (cs := #[.int .i64 t102, .int .i64 t103, .int .i64 t104, .int .i64 0, .int .i64 0, .slice none 0 0]) ?_ 3 _ rfl; refine pB ?_; refine Qg (cs := #[.int .i64 t102, .int .i64 t103, .int .i64 0, .int .i64 0, .int .i64 0, .slice none 0 0]) ?_ 2 _ rfl; refine pB ?_; refine Qg (cs := #[.int .i64 t102, .int .i64 0, .int .i64 0, .int .i64 0, .int .i64 0, .slice none 0 0]) ?_ 1 _ rfl; refine pB ?_; refine Qg (cs := #[.int .i64 0, .int .i64 0, .int .i64 0, .int .i64 0, .int .i64 0, .slice none 0 0]) ?_ 0 _ rfl; (with_reducible repeat (first | refine Qt ?_ _ | refine Qh ?_ | refine blk_alloc ?_ _)); exact BK111.out) hb); replace HB := bs HB hb; clear hb ho0)); go_ret3; exact ⟨_, eT, nn_, pE HB⟩
 ·rw [if_neg c4] at H
  have c4b0 : (t110 == 0) = false := beq_eq_false_iff_ne.mpr c4; have c4b1 : (t110 != 0) = true := bne_iff_ne.mpr c4; simp only [Option.some.injEq, Prod.mk.injEq] at H; obtain ⟨rfl, rfl, rfl⟩ := H; go_enter Try.func16, Try.ntmps16; go_wp2_with (first | (refine bx 3 #[.int .i64 a1_0, .int .i64 a1_1, .int .i64 a1_2, .int .i64 a1_3, .int .i64 a1_4] 40 ?_; intro gb101 hg w27 BK101 hb; have GW101 := gs HB hg; replace HB := bs HB hb; clear hb hg; obtain ⟨_, _, _, _, _, _, _, _, _, _⟩ := cf5 BK101) | ((with_reducible refine gc 35 rfl ?_); refine gL 14 Try.func35 #[.slice A0 l0.length c0, .agg #[.int .i64 a1_0, .int .i64 a1_1, .int .i64 a1_2, .int .i64 a1_3, .int .i64 a1_4]] ?_; (with_reducible refine (Jd.calls (fun k_ => k_ < w.heap.size) _ _ l0 a1_0 a1_1 a1_2 a1_3 a1_4 t102 t103 t104 t105 t106 t107 t110 _ ?side1 A3.out).mono ?_); (case side1 => exact Kd.V_mk HC0.out (Kd.F_below (Kd.C_F JT HR0.out) (pE HB))); rintro e w29 ⟨v108, rfl, ho0, hb⟩; refine ⟨_, rfl, ?_⟩; have HO109 := Qa.mk (Kd.V_lower (Kd.V_mono (ok' := fun k_ => k_ ≠ gb101) ho0 (fun k_ hk_ => Or.elim hk_ (fun hs_ => fun e_ => Nat.not_le.2 hs_ (by rw [e_]; exact GW101.out)) (fun hn_ => (Kd.freshB (g := gb101) (o := .cells #[.int .i64 a1_0, .int .i64 a1_1, .int .i64 a1_2, .int .i64 a1_3, .int .i64 a1_4] 40 (0, 0)) (pB BK101.out) k_ hn_)))) (Qr (pE HB))); replace BK101 := bb BK101 hb; replace HB := bs HB hb; clear hb ho0) | (refine bx 7 #[.int .i64 0, .int .i64 0, .int .i64 0, .int .i64 0, .int .i64 0, .slice none 0 0] 75 ?_; intro gb111 hg w30 hbox hb; replace HO109 := ve HO109 hg hb; have BK111 := hbox; have GW111 := gs HB hg; replace HB := bs HB hb; have NB101_111 := nl BK101 hg; have NB111_101 := nr BK101 hg; replace BK101 := bb BK101 hb; clear hb hg; have hnb31 := NB111_101.out; have hnc31 := NB101_111.out; obtain ⟨_, _, _, _, _, _, _, _, _, _, _, _⟩ := cf6 BK111; obtain ⟨Ao33, co33, eo33⟩ := Kd.V_slice HO109.out; subst eo33)); go_ret3; exact ⟨_, eT, nn_, pE HB⟩
def Q6.f (l0 : List S83) : Option ((List S83)) := (some (([] : List S83) : List S83)).bind fun y101 => (if y101.length + l0.length < 3518437208883 then (some (y101 ++ l0)) else (none))
set_option maxHeartbeats 8000000 in
set_option maxRecDepth 100000 in
theorem Q6.calls (A0 : Option Addr) (c0 : Nat) (l0 r : List S83) (w : World) (hr0 : Kd.C k83 w A0 l0.length l0) (hc0 : l0.length ≤ c0) (h : Q6.f l0 = some r) :
  Calls Try.prog 46 #[.slice A0 l0.length c0] w fun e w' => ∃ v0_ : Value, e = .returned (v0_) ∧ Kd.R k83 83 w' w.heap.size (fun _ => True) v0_ r ∧ Below w.heap.size w w' := by
 cases A0 with
 | none =>
  have hl : l0 = [] := by
   cases l0 with
   | nil => rfl
   | cons x t => obtain ⟨ad, e, _⟩ := hr0.2.2 (by simp); cases e
  subst hl; obtain rfl : [] = r := by simpa [Q6.f] using h
  have hnl := fun (w_ : World) => Lib.run_eql_slice_nil_nil (P := Try.prog) w_ (t := 44) 0 c0 Try.underlying44
  clear h hr0 hc0; go_enter Try.func46, Try.ntmps46; go_wp2; go_ret; exact ⟨_, rfl, Kd.R_nil _ _ _ _ _, Below.refl _ _⟩
 | some ad0 =>
  have hnl := fun (w_ : World) (n_ c_ : Nat) => Lib.run_eql_slice_nil (P := Try.prog) w_ 44 83 (some ad0) n_ c_ 0 0 Try.underlying44
  have HR0 := Qa.mk hr0; have HC0 := Qa.mk hc0; clear hr0 hc0; have HB := Qa.mk (Below.refl w.heap.size w); have H : ((some (([] : List S83) : List S83)).bind fun y101 => (if y101.length + l0.length < 3518437208883 then (some (y101 ++ l0)) else (none))) = some r := h; clear h; obtain ⟨y101, hy101⟩ : ∃ y_ : List S83, y_ = (([] : List S83)) := ⟨_, rfl⟩
  replace H : (if y101.length + l0.length < 3518437208883 then (some (y101 ++ l0)) else (none)) = some r := yy hy101 H; have Ny101 := Qa.mk hy101; clear hy101; by_cases c2 : y101.length + l0.length < 3518437208883
  ·rw [if_pos c2] at H
   have LMc2 := Qa.mk c2; clear c2; obtain ⟨y104, hy104⟩ : ∃ y_ : List S83, y_ = (y101 ++ l0) := ⟨_, rfl⟩
   replace H : (some y104) = some r := yy hy104 H; have Ny104 := Qa.mk hy104; clear hy104; obtain rfl := Option.some.inj H; go_enter Try.func46, Try.ntmps46; go_wp2_with (first | ((with_reducible refine gd 5 ?_); refine rL k83 83 5 ([] : List S83) [] (Reps.none _ _) ?_; intro v102 w3 ho4 hb; replace ho4 := yR Ny101 ho4; have HO103 := rl ho4 HB; replace HB := bs HB hb; clear hb ho4) | ((with_reducible refine JA (b := .append) (xs := #[.tmp 5, .tmp 6]) rfl ?_); at_builtin; refine Kd.R_append_rows k83 (w0 := w) w.heap.size rfl (.tmp 5) (.tmp 6) 44 83 (.agg #[(.int .i64 0), (.int .i64 0), (.int .i64 0), (.int .i64 0), (.int .i64 0)]) 40 rfl Try.underlying44 info83 rfl (by decide) (by omega) v102 y101 l0 _ _ _ (fun _ => True) (fun _ => False) rfl rfl ?aO ?aR (fun _ _ h => h) (fun _ h => h.elim) ?aF ?aB ?aS ?aL ?_; (case aR => exact pC (Kd.C_below HR0.out HB.out)); (case aB => exact (pE HB)); (case aF => exact (fun _ _ => trivial)); (case aO => exact (pR HO103.out)); (case aS => exact (Qr (pE HB))); (case aL => have := LMc2.out; omega); intro v105 w5 ho hb hg hat; rw [← Ny104.out] at ho; replace HB := Qa.mk (hb); have HO106 := Qa.mk (ho); clear HO103; clear ho hb hg hat)); go_ret; exact ⟨_, eT, by (with_reducible repeat (first | apply Kd.R_alloc | apply Kd.R_drewN | apply Kd.R_drew)); exact HO106.out, pE HB⟩
  ·rw [if_neg c2] at H
   exact absurd H (by simp)
def Zd.f (a0_0 a0_1 a0_2 a0_3 a0_4 : Int) : Option Bool := (Jc.f a0_0 a0_1 a0_2 a0_3 a0_4).bind fun t102 => (some (!t102))
set_option maxHeartbeats 8000000 in
set_option maxRecDepth 100000 in
theorem Zd.calls (a0_0 a0_1 a0_2 a0_3 a0_4 : Int) (r : Bool) (w : World) (h : Zd.f a0_0 a0_1 a0_2 a0_3 a0_4 = some r) :
  Calls Try.prog 45 #[.agg #[.int .i64 a0_0, .int .i64 a0_1, .int .i64 a0_2, .int .i64 a0_3, .int .i64 a0_4]] w fun e w' => e = .returned (.bool r) ∧ Below w.heap.size w w' := by
 have hu40 := Try.underlying40; have HB := Qa.mk (Below.refl w.heap.size w); have H : ((Jc.f a0_0 a0_1 a0_2 a0_3 a0_4).bind fun t102 => (some (!t102))) = some r := h; clear h; obtain ⟨t102, A2, H⟩ := bi H; obtain rfl := Option.some.inj H; go_enter Try.func45, Try.ntmps45; go_wp2_with (first | (refine bx 1 #[.int .i64 a0_0, .int .i64 a0_1, .int .i64 a0_2, .int .i64 a0_3, .int .i64 a0_4] 40 ?_; intro gb101 hg w3 BK101 hb; have GW101 := gs HB hg; replace HB := bs HB hb; clear hb hg; obtain ⟨_, _, _, _, _, _, _, _, _, _⟩ := cf5 BK101) | ((with_reducible refine gc 29 rfl ?_); refine gL 4 Try.func29 #[.agg #[.int .i64 a0_0, .int .i64 a0_1, .int .i64 a0_2, .int .i64 a0_3, .int .i64 a0_4]] ?_; (with_reducible refine (Jc.calls a0_0 a0_1 a0_2 a0_3 a0_4 t102 _ A2.out).mono ?_); rintro e w5 ⟨rfl, hb⟩; refine ⟨_, rfl, ?_⟩; replace BK101 := bb BK101 hb; replace HB := bs HB hb; clear hb)); go_ret; exact ⟨eT, pE HB⟩
set_option maxHeartbeats 4000000 in
set_option maxRecDepth 100000 in
theorem hof64.callsO (q : S40 → Option Bool) (g : Nat) (lb : Array Value) (eg : ∀ args w, (callFunc g args).run Try.prog w = .ok (.enter g args) w) (Ad : Option Addr) (c : Nat) (l : List S40) (r : Int) (w : World) (hr : Kd.C k40 w Ad l.length l)
  (hp : ∀ x ∈ l, ∀ b, q x = some b → ∀ (W : World), Below w.heap.size w W → Calls Try.prog g (#[.agg #[.int .i64 x.f0.f0, .int .i64 x.f0.f1, .int .i64 x.f1.f0, .int .i64 x.f1.f1, .int .i64 x.f2]] ++ lb) W fun e w' => e = .returned (.bool b) ∧ Below W.heap.size W w') (h : idxO q l 0 = some r) :
  Calls Try.prog 64 #[.slice Ad l.length c, .func (.func g) #[] lb] w fun e w' => e = .returned (.int .i64 r) ∧ Below w.heap.size w w' := by
 have hbig : l.length ≤ 9223372036854775807 := hr.2.1; have e0 := Lib.hid (Zx q l); have hr' := Lib.hid hr; have hp' := Lib.hid hp; have H0 : Hid (idxO q (l.drop 0) 0 = some r) := Lib.hid (by rw [List.drop_zero]; exact h); clear hr hp h; go_enter Try.func64, Try.ntmps64; go_wp2
 go_loopg [5, 8] l.length (fun gg _ s8 wr => ∃ kk : Nat, kk ≤ l.length ∧ l.length - kk ≤ gg ∧ s8 = .int .i64 kk ∧ Aside (Below w.heap.size w wr) ∧ Aside (idxO q (l.drop kk) kk = some r))
 case atStart => exact ⟨0, Nat.zero_le _, by omega, rfl, Below.refl _ w, H0.out⟩
 case round =>
  obtain ⟨kk, hkk, hg, rfl, BW, HE⟩ := hrel; by_cases hlt : kk < l.length
  ·have hltz : (kk : Int) < (l.length : Int) := by omega
   obtain ⟨ad, rfl, h0_, h1_, h2_, h3_, h4_⟩ := Yb (Kd.C_below hr'.out BW.out) (kk : Int) (by omega) (by omega); simp only [Int.toNat_natCast] at h0_ h1_ h2_ h3_ h4_; have hrd : Qy l (kk : Int) = l[kk] := by simp [Qy, List.getD_eq_getElem?_getD, List.getElem?_eq_getElem hlt]
   rw [hrd] at h0_ h1_ h2_ h3_ h4_; clear hrd; have H1 := HE.out; rw [e0.out kk hlt] at H1; obtain ⟨b, hb, H2⟩ := Option.bind_eq_some_iff.mp H1; have hcall := hp'.out l[kk] (List.getElem_mem hlt) b hb wr BW.out; generalize hy : l[kk] = y at h0_ h1_ h2_ h3_ h4_ hcall; have H2' := Lib.hid H2; clear hy H2 H1 hb
   cases b with
   | true =>
    go_wp2_with (go_at_fn g; refine hcall.mono ?_; rintro e w' ⟨rfl, hb'⟩); go_ret; refine ⟨?_, Below.trans BW.out (hb'.mono BW.out.size)⟩; have H3 := H2'.out; simp only [if_true] at H3; rw [← Option.some.inj H3]; rfl
   | false =>
    go_wp2_with (go_at_fn g; refine hcall.mono ?_; rintro e w' ⟨rfl, hb'⟩)
    go_roundg (l.length - (kk + 1))
    case measure => omega
    case rel =>
     refine ⟨kk + 1, by omega, by omega, by go_num, Below.trans BW.out (hb'.mono BW.out.size), (show Aside _ from ?_)⟩; have H3 := H2'.out; have H4 : idxO q (l.drop (kk + 1)) (kk + 1) = some r := by simpa using H3
     exact H4
  ·have hltz : ¬ (kk : Int) < (l.length : Int) := by omega
   have HK := Lib.hid (show l.length ≤ kk by omega); go_wp2; go_ret; refine ⟨?_, BW.out⟩; have H3 := HE.out; rw [List.drop_eq_nil_of_le HK.out] at H3; have H4 : some (-1 : Int) = some r := H3; rw [← Option.some.inj H4]; rfl
set_option maxHeartbeats 4000000 in
theorem hof44.callsO (q : S40 → Option Bool) (g : Nat) (lb : Array Value) (eg : ∀ args w, (callFunc g args).run Try.prog w = .ok (.enter g args) w) (Ad : Option Addr) (c : Nat) (l : List S40) (r : Bool) (w : World) (hr : Kd.C k40 w Ad l.length l)
  (hp : ∀ x ∈ l, ∀ b, q x = some b → ∀ (W : World), Below w.heap.size w W → Calls Try.prog g (#[.agg #[.int .i64 x.f0.f0, .int .i64 x.f0.f1, .int .i64 x.f1.f0, .int .i64 x.f1.f1, .int .i64 x.f2]] ++ lb) W fun e w' => e = .returned (.bool b) ∧ Below W.heap.size W w') (h : anyO q l = some r) :
  Calls Try.prog 44 #[.slice Ad l.length c, .func (.func g) #[] lb] w fun e w' => e = .returned (.bool r) ∧ Below w.heap.size w w' := by
 obtain ⟨j, h1, rfl⟩ := Zs q l 0 r h; have hcon := Lib.hid (hof64.callsO q g lb eg Ad c l j w hr hp h1); clear hr hp h1 h; go_enter Try.func44, Try.ntmps44; go_wp2_with (go_at_call 64; refine hcon.out.mono ?_; rintro e w' ⟨rfl, hb'⟩); go_ret; exact ⟨rfl, hb'⟩
def Js.f (l : List S40) : Option Bool := anyO (fun x => Zd.f x.f0.f0 x.f0.f1 x.f1.f0 x.f1.f1 x.f2) l
theorem Js.calls (Ad : Option Addr) (c : Nat) (l : List S40) (r : Bool) (w : World) (hr : Kd.C k40 w Ad l.length l) (hc : l.length ≤ c) (h : Js.f l = some r) :
  Calls Try.prog 44 #[.slice Ad l.length c, .func (.func 45) #[] #[]] w fun e w' => e = .returned (.bool r) ∧ Below w.heap.size w w' :=
 hof44.callsO (fun x => Zd.f x.f0.f0 x.f0.f1 x.f1.f0 x.f1.f1 x.f2) 45 _ (enters_of Try.func45 (by kernel_rfl) rfl) Ad c l r w hr (fun x hx b hq W hbW => by
  have hcl := Zd.calls x.f0.f0 x.f0.f1 x.f1.f0 x.f1.f1 x.f2 b W hq; exact hcl) h
end Go.Proofs.Ytjaapkkpmegkfaa.P
