/- Part 3 of what the law's proof needs beyond its base: words, walks of functions and plain facts. -/
import Derived.Below
import Derived.Deep.Draws
import Derived.Deep.AppendLies
import Derived.Maps.AppendAt
import Derived.OwnWalk
import Derived.Laws.BytesArg
import Derived.Laws.MakeOwn
import Derived.Laws.OwnMore
import Derived.Deep.OwnRows
import Derived.Tactics
import Derived.Lib.ConvBytes
import Derived.Laws.Slices
import Derived.WalkKit
import Derived.KernelRfl
import Derived.RowKit3
import Derived.Deep.LoopGhost
import Derived.Deep.QuietTactic
import Derived.BigQuiet
import Derived.WideLaws
import Derived.Deep.DeepCutAuto
import Derived.Deep.CutBlock
import Derived.Deep.RegionHeld3
import Derived.Laws.Rows
import Derived.Lib.AppendStr
import Derived.ArgAppend
import Derived.Laws.IdiomCopy
import Derived.RowKit
import Derived.Deep.Slices
import Derived.OpenShut
import Derived.ChangeArms
import Derived.Test.YtjaapkkpmegkfaaGreatM01
import Derived.Test.YtjaapkkpmegkfaaGreatM02
import Derived.Test.YtjaapkkpmegkfaaGreatM03
import Derived.Test.YtjaapkkpmegkfaaGreatM04
import Derived.Test.YtjaapkkpmegkfaaGreatM05
import Derived.Test.YtjaapkkpmegkfaaGreatM06
import Derived.Test.YtjaapkkpmegkfaaGreatM07
import Derived.Test.YtjaapkkpmegkfaaGreatM08
import Derived.Test.YtjaapkkpmegkfaaGreatM09
import Derived.Test.YtjaapkkpmegkfaaGreatM10
import Derived.Test.YtjaapkkpmegkfaaGreatM11
import Derived.Test.YtjaapkkpmegkfaaGreatM12
import Derived.Test.YtjaapkkpmegkfaaGreatM13
import Derived.Test.YtjaapkkpmegkfaaGreatA01
import Derived.Test.YtjaapkkpmegkfaaGreatA02
set_option linter.unusedVariables false
set_option linter.unusedSimpArgs false
namespace Go.Proofs.YtjaapkkpmegkfaaGreat.P
open Go.RowKit Go.Proofs.YtjaapkkpmegkfaaGreatW.PrintWords Go.Proofs.YtjaapkkpmegkfaaGreatW.PrintLast Go.Proofs.YtjaapkkpmegkfaaGreatW.PrintMore
attribute [local go_sem] JG JH JY JX Jv Ju JJ JK
def Qat.l0 : Nat → List S100 → List Int → Int → Int → Option Int
 | 0, _, _, _, _ => none
 | k + 1, x0, x1, x5, x6 => if x6 < (x0.length : Int) then (if 0 ≤ x6 then (if x6 < (x1.length : Int) then (Qat.l0 k x0 x1 (wrap64 (x5 + (wrap64 ((rd x1 x6) * ((Qf x0 x6).f2))))) (wrap64 (x6 + 1))) else (none)) else (none)) else (some x5)
def Qat.f (k : Nat) (l0 : List S100) (l1 : List Int) : Option Int := Qat.l0 k l0 l1 0 0
set_option maxHeartbeats 8000000 in
set_option maxRecDepth 100000 in
theorem Qat.calls (k : Nat) (A0 : Option Addr) (c0 : Nat) (l0 : List S100) (A1 : Option Addr) (c1 : Nat) (l1 : List Int) (r : Int) (w : World) (hr0 : Kd.C k100 w A0 l0.length l0) (hc0 : l0.length ≤ c0) (hr1 : Kd.C (Kd.int .i64) w A1 l1.length l1) (hc1 : l1.length ≤ c1) (h : Qat.f k l0 l1 = some r) :
  Calls Tryz.prog 30 #[.slice A0 l0.length c0, .slice A1 l1.length c1] w fun e w' => e = .returned (.int .i64 r) ∧ JB w w' := by
 have HR0 := Qa.mk hr0
 have HC0 := Qa.mk hc0
 clear hr0 hc0
 have HR1 := Qa.mk hr1
 have HC1 := Qa.mk hc1
 clear hr1 hc1
 have H : (Qat.l0 k l0 l1 0 0) = some r := h
 clear h
 have H' := Qa.mk H
 clear H
 go_enter Tryz.func30, Tryz.ntmps30
 go_wp2
 repeat (go_quiet (fail); try go_wp2)
 go_loopg [5, 6] k (fun kq v5 v6 w' => ∃ (x5_1 : Int) (x6_1 : Int), v5 = .int .i64 x5_1 ∧ v6 = .int .i64 x6_1 ∧ Qa (Qat.l0 kq l0 l1 x5_1 x6_1 = some r) ∧ Qa (kq ≤ k) ∧ JB w w')
 case atStart => exact ⟨(0), (0), eS, eS, H', ⟨Nat.le_refl _⟩, dS⟩
 case round =>
  clear H'
  try clear c1
  try clear p2
  obtain ⟨x5_1, x6_1, rfl, rfl, HA, HK1, ⟨m1, rfl⟩⟩ := hrel
  cases gk with
  | zero => exact absurd HA.out (by simp [Qat.l0])
  | succ k1 =>
   have H := HA.out
   clear HA
   simp only [Qat.l0] at H
   by_cases c3 : x6_1 < (l0.length : Int)
   ·rw [if_pos c3] at H
    have c3b0 : decide (x6_1 < (l0.length : Int)) = true := decide_eq_true c3
    clear c3
    by_cases c4 : 0 ≤ x6_1
    ·rw [if_pos c4] at H
     have c4b0 : decide (0 ≤ x6_1) = true := decide_eq_true c4
     clear c4
     by_cases c5 : x6_1 < (l1.length : Int)
     ·rw [if_pos c5] at H
      have c5b0 : decide (x6_1 < (l1.length : Int)) = true := decide_eq_true c5
      clear c5
      have H' := Qa.mk H
      clear H
      have p101 : 0 ≤ (x6_1 : Int) := dT
      have q101 : x6_1 < (l1.length : Int) := dT
      obtain ⟨ad101, e101, hx101_0⟩ := Kd.at_int HR1.out x6_1 p101 q101
      cases e101
      replace p101 := eq_true p101
      replace q101 := eq_true q101
      have p102 : 0 ≤ (x6_1 : Int) := dT
      have q102 : x6_1 < (l0.length : Int) := dT
      obtain ⟨ad102, e102, hx102_0, hx102_1, hx102_2, hx102_3, hx102_4⟩ := Zf HR0.out x6_1 p102 q102
      cases e102
      replace p102 := eq_true p102
      replace q102 := eq_true q102
      go_wp2
      repeat (go_quiet (fail); try go_wp2)
      go_roundg k1
      case measure => have := HK1.out; omega
      case rel => exact ⟨(wrap64 (x5_1 + (wrap64 ((rd l1 x6_1) * ((Qf l0 x6_1).f2))))), (wrap64 (x6_1 + 1)), eS, eS, H', ⟨by have := HK1.out; omega⟩, dS⟩
     ·rw [if_neg c5] at H
      exact absurd H (by simp)
    ·rw [if_neg c4] at H
     exact absurd H (by simp)
   ·rw [if_neg c3] at H
    have c3b0 : decide (x6_1 < (l0.length : Int)) = false := decide_eq_false c3
    clear c3
    obtain rfl := Option.some.inj H
    go_wp2
    repeat (go_quiet (fail); try go_wp2)
    go_ret
    exact ⟨eS, dS⟩
end Go.Proofs.YtjaapkkpmegkfaaGreat.P
namespace Go.Proofs.YtjaapkkpmegkfaaGreat.P
open Go.RowKit Go.Shelf Go.Proofs.YtjaapkkpmegkfaaGreatW.PrintWords Go.Proofs.YtjaapkkpmegkfaaGreatW.PrintLast Go.Proofs.YtjaapkkpmegkfaaGreatW.PrintMore
def okS (s : S100) : Bool := decide (0 ≤ s.f0.f0 ∧ s.f0.f0 ≤ s.f0.f1 ∧ s.f0.f1 ≤ 200 ∧ 0 ≤ s.f1 ∧ s.f1 ≤ 500 ∧ 0 ≤ s.f2 ∧ s.f2 ≤ 50 ∧ 0 ≤ s.f3 ∧ s.f3 ≤ 12)
def okC (a b c d e : Int) : Bool := decide (1 ≤ a ∧ a ≤ b ∧ b ≤ 2000 ∧ 0 ≤ c ∧ c ≤ d ∧ d ≤ 300 ∧ 0 ≤ e ∧ e ≤ 500)
def chk (l : List S100) : Int := if (l.length : Int) > 4 then 5 else if (l.length : Int) = 0 then 7 else if l.all okS = true then 0 else 2
theorem chk0 {l : List S100} (h : chk l = 0) : 1 ≤ l.length ∧ l.length ≤ 4 ∧ ∀ s ∈ l, okS s = true := by
 unfold chk at h
 split at h
 ·cases h
 split at h
 ·cases h
 split at h
 ·rename_i h1 h2 h3
  exact ⟨by omega, by omega, by simpa using h3⟩
 ·cases h
theorem Qb0 (s : S100) : Zk.f s.f0.f0 s.f0.f1 s.f1 s.f2 s.f3 = some (!okS s) := by
 unfold Zk.f okS
 simp only [Y1, isSpan_eq, Option.bind_some, List.all_cons, List.all_nil, Bool.and_true]
 by_cases h1 : 0 ≤ s.f0.f0 ∧ s.f0.f0 ≤ s.f0.f1 ∧ s.f0.f1 ≤ 200
 ·rw [if_pos (by simpa using h1)]
  by_cases h2 : 0 ≤ s.f1 ∧ s.f1 ≤ 500
  ·rw [if_pos (by simpa using h2)]
   by_cases h3 : 0 ≤ s.f2 ∧ s.f2 ≤ 50
   ·rw [if_pos (by simpa using h3)]
    congr 2
    exact decide_eq_decide.2 (by omega)
   ·rw [if_neg (by simpa using h3)]
    congr 1; symm; rw [Bool.not_eq_true', decide_eq_false_iff_not]; omega
  ·rw [if_neg (by simpa using h2)]
   congr 1; symm; rw [Bool.not_eq_true', decide_eq_false_iff_not]; omega
 ·rw [if_neg (by simpa using h1)]
  congr 1; symm; rw [Bool.not_eq_true', decide_eq_false_iff_not]; omega
theorem Qbu (l : List S100) : Jf.f l = some (chk l) := by
 unfold Jf.f chk
 by_cases h1 : (l.length : Int) > 4
 ·rw [if_pos h1, if_pos h1]
 ·rw [if_neg h1, if_neg h1]
  by_cases h2 : (l.length : Int) = 0
  ·rw [if_pos h2, if_pos h2]
  ·rw [if_neg h2, if_neg h2]
   unfold Jw.f
   rw [YA (p := fun s => !okS s) fun s _ => Qb0 s]
   simp only [Option.bind_some]
   by_cases h3 : l.all okS = true
   ·rw [if_pos h3, if_neg (by simpa using h3)]
   ·rw [if_neg h3, if_pos (by simpa using h3)]
theorem Qbk (a b c d e : Int) : Jc.f a b c d e = some (okC a b c d e) := by
 unfold Jc.f okC
 simp only [Y1, isSpan_eq, Option.bind_some, List.all_cons, List.all_nil, Bool.and_true]
 by_cases h1 : 1 ≤ a ∧ a ≤ b ∧ b ≤ 2000
 ·rw [if_pos (by simpa using h1)]
  by_cases h2 : 0 ≤ c ∧ c ≤ d ∧ d ≤ 300
  ·rw [if_pos (by simpa using h2)]
   congr 1
   exact decide_eq_decide.2 (by omega)
  ·rw [if_neg (by simpa using h2)]
   congr 1; symm; rw [decide_eq_false_iff_not]; omega
 ·rw [if_neg (by simpa using h1)]
  congr 1; symm; rw [decide_eq_false_iff_not]; omega
def upN (a c : Int) : Int := (a * c + 999) / 1000
theorem Qa5 {a c A C : Int} (h0 : 0 ≤ a) (h1 : a ≤ A) (h2 : 0 ≤ c) (h3 : c ≤ C) : 0 ≤ a * c ∧ a * c ≤ A * C :=
 ⟨Int.mul_nonneg h0 h2, Int.mul_le_mul h1 h3 h2 (by omega)⟩
theorem up_eq {a c : Int} (h0 : 0 ≤ a) (h1 : a ≤ 2000) (h2 : 0 ≤ c) (h3 : c ≤ 300) : Zn.f a c = some (upN a c) := by
 have h := Qa5 h0 h1 h2 h3
 unfold Zn.f upN
 rw [w64 (x := a * c) (by omega), w64 (x := a * c + 999) (by omega), Int.tdiv_eq_ediv_of_nonneg (by omega), w64 (by omega)]
theorem Qbh {a c : Int} (h0 : 0 ≤ a) (h1 : a ≤ 2000) (h2 : 0 ≤ c) (h3 : c ≤ 300) : 0 ≤ upN a c ∧ upN a c ≤ 600 := by
 have h := Qa5 h0 h1 h2 h3
 unfold upN
 omega
theorem Qbj {a b c d e : Int} (h : okC a b c d e = true) : (0 ≤ a ∧ a ≤ 2000 ∧ 0 ≤ b ∧ b ≤ 2000) ∧ (0 ≤ c ∧ c ≤ 300 ∧ 0 ≤ d ∧ d ≤ 300) ∧ 0 ≤ e ∧ e ≤ 500 := by
 unfold okC at h
 rw [decide_eq_true_iff] at h
 omega
theorem Qbg {a b c d e : Int} (h : okC a b c d e = true) (l : List S100) : QP.f a b c d e l = some (upN a c, upN b d) := by
 obtain ⟨h1, h2, h3⟩ := Qbj h
 unfold QP.f
 rw [up_eq h1.1 h1.2.1 h2.1 h2.2.1, up_eq h1.2.2.1 h1.2.2.2 h2.2.2.1 h2.2.2.2]
 rfl
theorem Qbz (a b c d e : Int) : Zl.f a b c d e = some (if okC a b c d e = true then (upN a c, upN b d, 0) else (0, 0, 3)) := by
 unfold Zl.f
 rw [Qbk]
 simp only [Option.bind_some]
 by_cases h : okC a b c d e = true
 ·rw [if_pos h, if_pos h, Qbg h]; rfl
 ·rw [if_neg h, if_neg h]
def opn (l : List S100) (a b c d e : Int) : Int := if chk l = 0 then if okC a b c d e = true then 0 else 3 else chk l
theorem open_eq (l : List S100) (a b c d e : Int) : Jd.f l a b c d e = some (a, b, c, d, e, l, opn l a b c d e) := by
 unfold Jd.f opn
 rw [Qbu]
 simp only [Option.bind_some]
 by_cases h : chk l = 0
 ·rw [if_pos h, Qbk]
  simp only [Option.bind_some]
  by_cases h2 : okC a b c d e = true
  ·rw [if_pos h2, if_pos h, if_pos h2, h]
  ·rw [if_neg h2, if_pos h, if_neg h2]
 ·rw [if_neg h, if_neg h]
theorem Qa7 {l : List S100} {i : Nat} (h : i < l.length) : Qf l (i : Int) = l[i] := by simp [Qf, List.getD_eq_getElem?_getD, List.getElem?_eq_getElem h]
def fit (l : List S100) (m : List Int) : Bool := decide (m.length = l.length) && (l.zip m).all fun x => decide (0 ≤ x.2 ∧ x.2 ≤ x.1.f3)
theorem Qbx (l : List S100) (m : List Int) (hl : m.length = l.length) (h4 : l.length ≤ 1000) (a b c d e : Int) (l' : List S100) : ∀ (q k i : Nat), i + q = m.length → q < k →
  QJ.l0 k l m (m.length : Int) (i : Int) a b c d e l' = some (a, b, c, d, e, l', cond (((l.zip m).drop i).all fun x => decide (0 ≤ x.2 ∧ x.2 ≤ x.1.f3)) 0 4) := by
 intro q
 induction q with
 | zero =>
  intro k i hi hk
  obtain ⟨k, rfl⟩ : ∃ z, k = z + 1 := ⟨k - 1, by omega⟩
  simp only [QJ.l0]
  rw [if_neg (by omega), List.drop_of_length_le (by simp; omega)]
  simp
 | succ q ih =>
  intro k i hi hk
  obtain ⟨k, rfl⟩ : ∃ z, k = z + 1 := ⟨k - 1, by omega⟩
  have h1 : i < m.length := by omega
  have h2 : i < l.length := by omega
  have hz : i < (l.zip m).length := by simp; omega
  simp only [QJ.l0]
  rw [if_pos (by omega), if_pos (by omega), if_pos (by omega), if_pos (by omega), Qa7 h2, YT h1, Y1, w64 (by omega), show ((i : Int) + 1) = ((i + 1 : Nat) : Int) by omega, ih k (i + 1) (by omega) (by omega), List.drop_eq_getElem_cons hz, List.all_cons, List.getElem_zip]
  simp only [Option.bind_some, List.all_cons, List.all_nil, Bool.and_true]
  by_cases h : 0 ≤ m[i] ∧ m[i] ≤ l[i].f3
  ·rw [if_pos (by simpa using h)]
   rw [decide_eq_true h, Bool.true_and]
  ·rw [if_neg (by simpa using h), decide_eq_false h, Bool.false_and]; rfl
def opnM (l : List S100) (a b c d e : Int) (m : List Int) : Int := if opn l a b c d e = 0 then cond (fit l m) 0 4 else opn l a b c d e
theorem opn0 {l : List S100} {a b c d e : Int} (h : opn l a b c d e = 0) : chk l = 0 ∧ okC a b c d e = true := by
 unfold opn at h
 split at h
 ·split at h
  ·exact ⟨by assumption, by assumption⟩
  ·cases h
 ·rename_i h1; exact absurd h h1
theorem Qbf (l : List S100) (a b c d e : Int) (m : List Int) {k : Nat} (hk : m.length < k) : QJ.f k l a b c d e m = some (a, b, c, d, e, l, opnM l a b c d e m) := by
 unfold QJ.f opnM fit
 rw [open_eq]
 simp only [Option.bind_some]
 by_cases h : opn l a b c d e = 0
 ·rw [if_pos h, if_pos h]
  have h4 := chk0 (opn0 h).1
  by_cases h2 : m.length = l.length
  ·rw [if_pos (by omega), decide_eq_true h2, Bool.true_and]
   have := Qbx l m h2 (by omega) a b c d e l m.length k 0 (by omega) hk
   exact this
  ·rw [if_neg (by omega), decide_eq_false h2, Bool.false_and]; rfl
 ·rw [if_neg h, if_neg h]
def tot (f : S100 → Int) (l : List S100) (m : List Int) : Int := ((l.zip m).map fun x => x.2 * f x.1).sum
theorem Qb4 (f : S100 → Int) (B : Int) (l : List S100) (m : List Int) (hl : ∀ s ∈ l, 0 ≤ f s ∧ f s ≤ B) (hm : ∀ x ∈ m, 0 ≤ x ∧ x ≤ 12) : 0 ≤ tot f l m ∧ tot f l m ≤ 12 * B * l.length := by
 unfold tot
 induction l generalizing m with
 | nil => simp
 | cons s l ih =>
  cases m with
  | nil =>
   have := hl s (by simp)
   simp only [List.zip_nil_right, List.map_nil, List.sum_nil]
   exact ⟨Int.le_refl _, Int.mul_nonneg (by omega) (by omega)⟩
  | cons x m =>
   have := ih m (fun s hs => hl s (by simp [hs])) fun x hx => hm x (by simp [hx])
   have h1 := hl s (by simp)
   have h2 := hm x (by simp)
   have h3 := Qa5 h2.1 h2.2 h1.1 h1.2
   simp only [List.zip_cons_cons, List.map_cons, List.sum_cons, List.length_cons]
   have h4 : 12 * B * ((l.length + 1 : Nat) : Int) = 12 * B * l.length + 12 * B := by rw [Int.natCast_add, Int.mul_add]; omega
   omega
theorem Qa9 {f : S100 → Int} {l : List S100} {m : List Int} {i : Nat} (h1 : i < l.length) (h2 : i < m.length) : tot f (l.drop i) (m.drop i) = m[i] * f l[i] + tot f (l.drop (i + 1)) (m.drop (i + 1)) := by
 unfold tot
 rw [List.drop_eq_getElem_cons h1, List.drop_eq_getElem_cons h2, List.zip_cons_cons, List.map_cons, List.sum_cons]
structure Mx (l : List S100) (m : List Int) : Prop where
 ok : ∀ s ∈ l, okS s = true
 len : m.length ≤ l.length
 l4 : l.length ≤ 4
 m12 : ∀ x ∈ m, 0 ≤ x ∧ x ≤ 12
theorem fit_Mx {l : List S100} {m : List Int} (hl : l.length ≤ 4) (ok : ∀ s ∈ l, okS s = true) (h : fit l m = true) : Mx l m := by
 unfold fit at h
 rw [Bool.and_eq_true, decide_eq_true_iff] at h
 obtain ⟨h1, h2⟩ := h
 refine ⟨ok, by omega, hl, fun x hx => ?_⟩
 obtain ⟨i, hi, rfl⟩ := List.getElem_of_mem hx
 have hz : i < (l.zip m).length := by simp; omega
 have h3 := List.all_eq_true.1 h2 _ (List.getElem_mem hz)
 rw [List.getElem_zip, decide_eq_true_iff] at h3
 have h4 := ok l[i] (List.getElem_mem (by omega))
 unfold okS at h4
 rw [decide_eq_true_iff] at h4
 simp only at h3
 omega
def Qa3 (s : S100) : Int := s.f0.f0
def Qa4 (s : S100) : Int := s.f0.f1
def Qaz (s : S100) : Int := s.f2
theorem Qbe {s : S100} (h : okS s = true) : 0 ≤ Qa3 s ∧ Qa3 s ≤ 200 := by
 unfold okS at h; rw [decide_eq_true_iff] at h; unfold Qa3; omega
theorem Qcb (l : List S100) (m : List Int) (h : Mx l m) (a b c d e : Int) : ∀ (q k i : Nat) (s : Int), i + q = m.length → q < k → 0 ≤ s → s ≤ 12 * 200 * (i : Int) →
  Qp.l0 k s m (m.length : Int) (i : Int) a b c d e l = some (s + tot Qa3 (l.drop i) (m.drop i)) := by
 have hl := h.len
 have h4 := h.l4
 intro q
 induction q with
 | zero =>
  intro k i s hi hk _ _
  obtain ⟨k, rfl⟩ : ∃ z, k = z + 1 := ⟨k - 1, by omega⟩
  simp only [Qp.l0]
  rw [if_neg (by omega), List.drop_of_length_le (l := m) (by omega)]
  simp [tot]
 | succ q ih =>
  intro k i s hi hk hs0 hs1
  obtain ⟨k, rfl⟩ : ∃ z, k = z + 1 := ⟨k - 1, by omega⟩
  have h1 : i < m.length := by omega
  have h2 : i < l.length := by omega
  have hf := Qbe (h.ok l[i] (List.getElem_mem h2))
  have hx := h.m12 m[i] (List.getElem_mem h1)
  have hp := Qa5 hx.1 hx.2 hf.1 hf.2
  simp only [Qp.l0, ZF.f]
  rw [if_pos (by omega), if_pos (by omega), if_pos (by omega), if_pos (by omega), Qa7 h2, YT h1, Qa9 h2 h1]
  simp only [Option.bind_some]
  have e : l[i].f0.f0 = Qa3 l[i] := rfl
  rw [e, w64 (x := m[i] * Qa3 l[i]) (by omega), w64 (x := s + m[i] * Qa3 l[i]) (by omega), w64 (by omega), show ((i : Int) + 1) = ((i + 1 : Nat) : Int) by omega, ih k (i + 1) _ (by omega) (by omega) (by omega) (by omega), Int.add_assoc]
theorem Qca {l : List S100} {m : List Int} (h : Mx l m) (a b c d e : Int) {k : Nat} (hk : m.length < k) : Qp.f k a b c d e l m = some (tot Qa3 l m) := by
 unfold Qp.f
 have := Qcb l m h a b c d e m.length k 0 0 (by omega) hk (by omega) (by omega)
 simpa using this
theorem Qcc {l : List S100} {m : List Int} (h : Mx l m) : 0 ≤ tot Qa3 l m ∧ tot Qa3 l m ≤ 100000 := by
 have := Qb4 Qa3 200 l m (fun s hs => Qbe (h.ok s hs)) h.m12
 have := h.l4
 omega
theorem Qbl {s : S100} (h : okS s = true) : 0 ≤ Qa4 s ∧ Qa4 s ≤ 200 := by
 unfold okS at h; rw [decide_eq_true_iff] at h; unfold Qa4; omega
theorem most_at (l : List S100) (m : List Int) (h : Mx l m) (a b c d e : Int) : ∀ (q k i : Nat) (s : Int), i + q = m.length → q < k → 0 ≤ s → s ≤ 12 * 200 * (i : Int) →
  Qw.l0 k s m (m.length : Int) (i : Int) a b c d e l = some (s + tot Qa4 (l.drop i) (m.drop i)) := by
 have hl := h.len
 have h4 := h.l4
 intro q
 induction q with
 | zero =>
  intro k i s hi hk _ _
  obtain ⟨k, rfl⟩ : ∃ z, k = z + 1 := ⟨k - 1, by omega⟩
  simp only [Qw.l0]
  rw [if_neg (by omega), List.drop_of_length_le (l := m) (by omega)]
  simp [tot]
 | succ q ih =>
  intro k i s hi hk hs0 hs1
  obtain ⟨k, rfl⟩ : ∃ z, k = z + 1 := ⟨k - 1, by omega⟩
  have h1 : i < m.length := by omega
  have h2 : i < l.length := by omega
  have hf := Qbl (h.ok l[i] (List.getElem_mem h2))
  have hx := h.m12 m[i] (List.getElem_mem h1)
  have hp := Qa5 hx.1 hx.2 hf.1 hf.2
  simp only [Qw.l0, ZU.f]
  rw [if_pos (by omega), if_pos (by omega), if_pos (by omega), if_pos (by omega), Qa7 h2, YT h1, Qa9 h2 h1]
  simp only [Option.bind_some]
  have e : l[i].f0.f1 = Qa4 l[i] := rfl
  rw [e, w64 (x := m[i] * Qa4 l[i]) (by omega), w64 (x := s + m[i] * Qa4 l[i]) (by omega), w64 (by omega), show ((i : Int) + 1) = ((i + 1 : Nat) : Int) by omega, ih k (i + 1) _ (by omega) (by omega) (by omega) (by omega), Int.add_assoc]
theorem most_eq {l : List S100} {m : List Int} (h : Mx l m) (a b c d e : Int) {k : Nat} (hk : m.length < k) : Qw.f k a b c d e l m = some (tot Qa4 l m) := by
 unfold Qw.f
 have := most_at l m h a b c d e m.length k 0 0 (by omega) hk (by omega) (by omega)
 simpa using this
theorem most_le {l : List S100} {m : List Int} (h : Mx l m) : 0 ≤ tot Qa4 l m ∧ tot Qa4 l m ≤ 100000 := by
 have := Qb4 Qa4 200 l m (fun s hs => Qbl (h.ok s hs)) h.m12
 have := h.l4
 omega
theorem Qbn {s : S100} (h : okS s = true) : 0 ≤ Qaz s ∧ Qaz s ≤ 50 := by
 unfold okS at h; rw [decide_eq_true_iff] at h; unfold Qaz; omega
theorem Qb1 (l : List S100) (m : List Int) (h : Mx l m) (a b c d e : Int) : ∀ (q k i : Nat) (s : Int), i + q = m.length → q < k → 0 ≤ s → s ≤ 12 * 50 * (i : Int) →
  Qj.l0 k s m (m.length : Int) (i : Int) a b c d e l = some (s + tot Qaz (l.drop i) (m.drop i)) := by
 have hl := h.len
 have h4 := h.l4
 intro q
 induction q with
 | zero =>
  intro k i s hi hk _ _
  obtain ⟨k, rfl⟩ : ∃ z, k = z + 1 := ⟨k - 1, by omega⟩
  simp only [Qj.l0]
  rw [if_neg (by omega), List.drop_of_length_le (l := m) (by omega)]
  simp [tot]
 | succ q ih =>
  intro k i s hi hk hs0 hs1
  obtain ⟨k, rfl⟩ : ∃ z, k = z + 1 := ⟨k - 1, by omega⟩
  have h1 : i < m.length := by omega
  have h2 : i < l.length := by omega
  have hf := Qbn (h.ok l[i] (List.getElem_mem h2))
  have hx := h.m12 m[i] (List.getElem_mem h1)
  have hp := Qa5 hx.1 hx.2 hf.1 hf.2
  simp only [Qj.l0, Zw.f]
  rw [if_pos (by omega), if_pos (by omega), if_pos (by omega), if_pos (by omega), Qa7 h2, YT h1, Qa9 h2 h1]
  simp only [Option.bind_some]
  have e : l[i].f2 = Qaz l[i] := rfl
  rw [e, w64 (x := m[i] * Qaz l[i]) (by omega), w64 (x := s + m[i] * Qaz l[i]) (by omega), w64 (by omega), show ((i : Int) + 1) = ((i + 1 : Nat) : Int) by omega, ih k (i + 1) _ (by omega) (by omega) (by omega) (by omega), Int.add_assoc]
theorem Qb3 {l : List S100} {m : List Int} (h : Mx l m) (a b c d e : Int) {k : Nat} (hk : m.length < k) : Qj.f k a b c d e l m = some (tot Qaz l m) := by
 unfold Qj.f
 have := Qb1 l m h a b c d e m.length k 0 0 (by omega) hk (by omega) (by omega)
 simpa using this
def lo (l : List S100) (b d : Int) (m : List Int) : Int := tot Qa3 l m - upN b d
def hi (l : List S100) (a c : Int) (m : List Int) : Int := tot Qa4 l m - upN a c
theorem opnM0 {l : List S100} {a b c d e : Int} {m : List Int} (h : opnM l a b c d e m = 0) : opn l a b c d e = 0 ∧ fit l m = true := by
 unfold opnM at h
 split at h
 ·rename_i h1
  refine ⟨h1, ?_⟩
  cases hf : fit l m with
  | true => rfl
  | false => rw [hf] at h; cases h
 ·rename_i h1; exact absurd h h1
theorem Qbs {l : List S100} {m : List Int} (hm : Mx l m) {a b c d e : Int} (hc : okC a b c d e = true) {k : Nat} (hk : m.length < k) : QS.f k a b c d e l m = some (lo l b d m, hi l a c m) := by
 obtain ⟨h1, h2, h3⟩ := Qbj hc
 have g1 := Qbh h1.1 h1.2.1 h2.1 h2.2.1
 have g2 := Qbh h1.2.2.1 h1.2.2.2 h2.2.2.1 h2.2.2.2
 have g3 := Qcc hm
 have g4 := most_le hm
 unfold QS.f
 rw [Qbg hc, Qca hm _ _ _ _ _ hk, most_eq hm _ _ _ _ _ hk]
 simp only [Option.bind_some]
 rw [w64 (by omega), w64 (by omega)]; rfl
theorem Qbt {l : List S100} {a b c d e : Int} {m : List Int} (h : opnM l a b c d e m = 0) : Mx l m ∧ okC a b c d e = true := by
 obtain ⟨h1, h2⟩ := opnM0 h
 obtain ⟨h3, h4⟩ := opn0 h1
 obtain ⟨h5, h6, h7⟩ := chk0 h3
 exact ⟨fit_Mx h6 h7 h2, h4⟩
theorem over_eq (l : List S100) (a b c d e : Int) (m : List Int) {k : Nat} (hk : m.length < k) : JE.f k l a b c d e m = some (if opnM l a b c d e m = 0 then (lo l b d m, hi l a c m, 0) else (0, 0, opnM l a b c d e m)) := by
 unfold JE.f
 rw [Qbf _ _ _ _ _ _ _ hk]
 simp only [Option.bind_some]
 by_cases h : opnM l a b c d e m = 0
 ·obtain ⟨h1, h2⟩ := Qbt h
  rw [if_pos h, if_pos h, Qbs h1 h2 hk]; rfl
 ·rw [if_neg h, if_neg h]
theorem Qb2 (l : List S100) (a b c d e : Int) (m : List Int) {k : Nat} (hk : m.length < k) : Q0.f k l a b c d e m = some (if opnM l a b c d e m = 0 then (decide (lo l b d m ≥ 0), decide (hi l a c m ≥ 0), decide (tot Qaz l m > e), 0) else (false, false, false, opnM l a b c d e m)) := by
 unfold Q0.f
 rw [Qbf _ _ _ _ _ _ _ hk]
 simp only [Option.bind_some]
 by_cases h : opnM l a b c d e m = 0
 ·obtain ⟨h1, h2⟩ := Qbt h
  rw [if_pos h, if_pos h, Qbs h1 h2 hk, Qb3 h1 _ _ _ _ _ hk]; rfl
 ·rw [if_neg h, if_neg h]
theorem Qb7 (l : List S100) (h : l.length ≤ 100) : Qay.f l = some l := by
 unfold Qay.f
 simp only [Option.bind_some, List.length_nil, List.nil_append]
 rw [if_pos (by omega)]
theorem same_at (l : List S100) (h : l.length ≤ 100) : ∀ (q k i : Nat), i + q = l.length → q < k → Qau.l0 k l l (i : Int) = some true := by
 intro q
 induction q with
 | zero =>
  intro k i hi hk
  obtain ⟨k, rfl⟩ : ∃ z, k = z + 1 := ⟨k - 1, by omega⟩
  simp only [Qau.l0]
  rw [if_neg (by omega)]
 | succ q ih =>
  intro k i hi hk
  obtain ⟨k, rfl⟩ : ∃ z, k = z + 1 := ⟨k - 1, by omega⟩
  simp only [Qau.l0]
  rw [if_pos (by omega), if_pos (by omega), if_pos (by omega), if_neg (by simp), w64 (by omega)]
  exact ih k (i + 1) (by omega) (by omega)
theorem same_eq (l : List S100) (h : l.length ≤ 100) {k : Nat} (hk : l.length < k) : Qau.f k l l = some true := by
 unfold Qau.f
 rw [if_pos rfl]
 exact same_at l h l.length k 0 (Nat.zero_add _) hk
theorem Qb5 (l : List S100) (hm : l.length ≤ 100) : ∀ (q k i : Nat), i + q = l.length → q < k → Qaq.l0 k l (i : Int) = some (if (l.drop i).all okS = true then 0 else 2) := by
 intro q
 induction q with
 | zero =>
  intro k i hi hk
  obtain ⟨k, rfl⟩ : ∃ m, k = m + 1 := ⟨k - 1, by omega⟩
  simp only [Qaq.l0]
  rw [if_neg (by omega), List.drop_of_length_le (by omega)]
  simp
 | succ q ih =>
  intro k i hi hk
  obtain ⟨k, rfl⟩ : ∃ m, k = m + 1 := ⟨k - 1, by omega⟩
  have hlt : i < l.length := by omega
  simp only [Qaq.l0]
  rw [if_pos (by omega), if_pos (by omega), w64 (by omega), show ((i : Int) + 1) = ((i + 1 : Nat) : Int) by omega, ih k (i + 1) (by omega) (by omega), Qa7 hlt, List.drop_eq_getElem_cons hlt, List.all_cons]
  simp only [In_eq, Span_eq, Option.bind_some]
  generalize l[i] = b
  have hno : ∀ (h : okS b = false), (if (okS b && (l.drop (i + 1)).all okS) = true then (0 : Int) else 2) = 2 := fun h => by rw [h]; rfl
  by_cases h1 : 0 ≤ b.f0.f0 ∧ b.f0.f0 ≤ b.f0.f1 ∧ b.f0.f1 ≤ 200
  ·rw [if_pos (by simpa using h1)]
   by_cases h2 : 0 ≤ b.f1 ∧ b.f1 ≤ 500
   ·rw [if_pos (by simpa using h2)]
    by_cases h3 : 0 ≤ b.f2 ∧ b.f2 ≤ 50
    ·rw [if_pos (by simpa using h3)]
     by_cases h4 : 0 ≤ b.f3 ∧ b.f3 ≤ 12
     ·rw [if_pos (by simpa using h4)]
      have : okS b = true := by unfold okS; rw [decide_eq_true_iff]; omega
      rw [this, Bool.true_and]
     ·rw [if_neg (by simpa using h4), hno (by unfold okS; rw [decide_eq_false_iff_not]; omega)]
    ·rw [if_neg (by simpa using h3), hno (by unfold okS; rw [decide_eq_false_iff_not]; omega)]
   ·rw [if_neg (by simpa using h2), hno (by unfold okS; rw [decide_eq_false_iff_not]; omega)]
  ·rw [if_neg (by simpa using h1), hno (by unfold okS; rw [decide_eq_false_iff_not]; omega)]
theorem Qbq (l : List S100) {k : Nat} (hk : 10 < k) : Qaq.f k l = some (chk l) := by
 unfold Qaq.f chk
 by_cases h1 : (l.length : Int) > 4
 ·rw [if_pos h1, if_pos h1]
 ·rw [if_neg h1, if_neg h1]
  by_cases h2 : (l.length : Int) = 0
  ·rw [if_pos h2, if_pos h2]
  ·rw [if_neg h2, if_neg h2]
   exact Qb5 l (by omega) l.length k 0 (Nat.zero_add _) (by omega)
theorem Qbp (a b c d e : Int) : Qas.f a b c d e = some (okC a b c d e) := by
 unfold Qas.f okC
 simp only [In_eq, Span_eq, Option.bind_some]
 by_cases h1 : 1 ≤ a ∧ a ≤ b ∧ b ≤ 2000
 ·rw [if_pos (by simpa using h1)]
  by_cases h2 : 0 ≤ c ∧ c ≤ d ∧ d ≤ 300
  ·rw [if_pos (by simpa using h2)]
   congr 1
   exact decide_eq_decide.2 (by omega)
  ·rw [if_neg (by simpa using h2)]
   congr 1; symm; rw [decide_eq_false_iff_not]; omega
 ·rw [if_neg (by simpa using h1)]
  congr 1; symm; rw [decide_eq_false_iff_not]; omega
theorem Qbr {a c : Int} (h0 : 0 ≤ a) (h1 : a ≤ 2000) (h2 : 0 ≤ c) (h3 : c ≤ 300) : Qaw.f a c = some (upN a c) := by
 have h := Qa5 h0 h1 h2 h3
 unfold Qaw.f upN
 generalize a * c = p at *
 rw [w64 (x := p) (by omega), Int.tdiv_eq_ediv_of_nonneg (by omega), w64 (x := p / 1000) (by omega), w64 (x := p / 1000 * 1000) (by omega), w64 (x := p / 1000 + 1) (by omega)]
 by_cases hc : p / 1000 * 1000 < p
 ·rw [if_pos hc]; congr 1; omega
 ·rw [if_neg hc]; congr 1; omega
theorem Qbi {a b c d e : Int} (h : okC a b c d e = true) : Qar.f a b c d e = some (upN a c, upN b d) := by
 obtain ⟨h1, h2, h3⟩ := Qbj h
 unfold Qar.f
 rw [Qbr h1.1 h1.2.1 h2.1 h2.2.1, Qbr h1.2.2.1 h1.2.2.2 h2.2.2.1 h2.2.2.2]
 rfl
theorem Qb6 (l : List S100) (a b c d e : Int) {k : Nat} (hk : 10 < k) : Qa1.f k l a b c d e = some (opn l a b c d e) := by
 unfold Qa1.f opn
 rw [Qbq l hk]
 simp only [Option.bind_some]
 by_cases h : chk l = 0
 ·rw [if_pos h, Qbp]
  simp only [Option.bind_some]
  by_cases h2 : okC a b c d e = true
  ·rw [if_pos h2, if_pos h, if_pos h2]
  ·rw [if_neg h2, if_pos h, if_neg h2]
 ·rw [if_neg h, if_neg h]
theorem Qb8 (l : List S100) (m : List Int) (h : Mx l m) (hl : m.length = l.length) : ∀ (q k i : Nat) (s t : Int), i + q = m.length → q < k → -600 ≤ s → s ≤ 2400 * (i : Int) → -600 ≤ t → t ≤ 2400 * (i : Int) →
  Qap.l0 k l m (i : Int) s t = some (s + tot Qa3 (l.drop i) (m.drop i), t + tot Qa4 (l.drop i) (m.drop i)) := by
 have h4 := h.l4
 intro q
 induction q with
 | zero =>
  intro k i s t hi hk _ _ _ _
  obtain ⟨k, rfl⟩ : ∃ z, k = z + 1 := ⟨k - 1, by omega⟩
  simp only [Qap.l0]
  rw [if_neg (by omega), List.drop_of_length_le (l := m) (by omega)]
  simp [tot]
 | succ q ih =>
  intro k i s t hi hk hs0 hs1 ht0 ht1
  obtain ⟨k, rfl⟩ : ∃ z, k = z + 1 := ⟨k - 1, by omega⟩
  have h1 : i < m.length := by omega
  have h2 : i < l.length := by omega
  have hf := Qbe (h.ok l[i] (List.getElem_mem h2))
  have hg := Qbl (h.ok l[i] (List.getElem_mem h2))
  have hx := h.m12 m[i] (List.getElem_mem h1)
  have hp := Qa5 hx.1 hx.2 hf.1 hf.2
  have hq := Qa5 hx.1 hx.2 hg.1 hg.2
  simp only [Qap.l0]
  rw [if_pos (by omega), if_pos (by omega), if_pos (by omega), Qa7 h2, YT h1, Qa9 h2 h1, Qa9 h2 h1]
  have e : l[i].f0.f0 = Qa3 l[i] := rfl
  have e' : l[i].f0.f1 = Qa4 l[i] := rfl
  rw [e, e', w64 (x := m[i] * Qa3 l[i]) (by omega), w64 (x := s + m[i] * Qa3 l[i]) (by omega), w64 (x := m[i] * Qa4 l[i]) (by omega), w64 (x := t + m[i] * Qa4 l[i]) (by omega), w64 (by omega), show ((i : Int) + 1) = ((i + 1 : Nat) : Int) by omega, ih k (i + 1) _ _ (by omega) (by omega) (by omega) (by omega) (by omega) (by omega), Int.add_assoc, Int.add_assoc]
theorem Qb9 {l : List S100} {m : List Int} (h : Mx l m) (hl : m.length = l.length) {a b c d e : Int} (hc : okC a b c d e = true) {k : Nat} (hk : m.length < k) : Qap.f k l a b c d e m = some (lo l b d m, hi l a c m) := by
 obtain ⟨h1, h2, h3⟩ := Qbj hc
 have g1 := Qbh h1.1 h1.2.1 h2.1 h2.2.1
 have g2 := Qbh h1.2.2.1 h1.2.2.2 h2.2.2.1 h2.2.2.2
 unfold Qap.f
 rw [Qbi hc]
 simp only [Option.bind_some]
 rw [w64 (x := -upN b d) (by omega), w64 (x := -upN a c) (by omega)]
 have := Qb8 l m h hl m.length k 0 (-upN b d) (-upN a c) (Nat.zero_add _) hk (by omega) (by omega) (by omega) (by omega)
 have e0 : ((0 : Nat) : Int) = 0 := rfl
 rw [e0] at this
 rw [this]
 unfold lo hi
 simp only [List.drop_zero]
 congr 2 <;> omega
theorem Qbw (l : List S100) (m : List Int) (h : Mx l m) (hl : m.length = l.length) : ∀ (q k i : Nat) (s : Int), i + q = m.length → q < k → 0 ≤ s → s ≤ 12 * 50 * (i : Int) →
  Qat.l0 k l m s (i : Int) = some (s + tot Qaz (l.drop i) (m.drop i)) := by
 have h4 := h.l4
 intro q
 induction q with
 | zero =>
  intro k i s hi hk _ _
  obtain ⟨k, rfl⟩ : ∃ z, k = z + 1 := ⟨k - 1, by omega⟩
  simp only [Qat.l0]
  rw [if_neg (by omega), List.drop_of_length_le (l := m) (by omega)]
  simp [tot]
 | succ q ih =>
  intro k i s hi hk hs0 hs1
  obtain ⟨k, rfl⟩ : ∃ z, k = z + 1 := ⟨k - 1, by omega⟩
  have h1 : i < m.length := by omega
  have h2 : i < l.length := by omega
  have hf := Qbn (h.ok l[i] (List.getElem_mem h2))
  have hx := h.m12 m[i] (List.getElem_mem h1)
  have hp := Qa5 hx.1 hx.2 hf.1 hf.2
  simp only [Qat.l0]
  rw [if_pos (by omega), if_pos (by omega), if_pos (by omega), Qa7 h2, YT h1, Qa9 h2 h1]
  have e : l[i].f2 = Qaz l[i] := rfl
  rw [e, w64 (x := m[i] * Qaz l[i]) (by omega), w64 (x := s + m[i] * Qaz l[i]) (by omega), w64 (by omega), show ((i : Int) + 1) = ((i + 1 : Nat) : Int) by omega, ih k (i + 1) _ (by omega) (by omega) (by omega) (by omega), Int.add_assoc]
theorem Qbv {l : List S100} {m : List Int} (h : Mx l m) (hl : m.length = l.length) {k : Nat} (hk : m.length < k) : Qat.f k l m = some (tot Qaz l m) := by
 unfold Qat.f
 have := Qbw l m h hl m.length k 0 0 (Nat.zero_add _) hk (by omega) (by omega)
 simpa using this
end Go.Proofs.YtjaapkkpmegkfaaGreat.P
namespace Go.Proofs.YtjaapkkpmegkfaaGreat.P
open Go.RowKit Go.Proofs.YtjaapkkpmegkfaaGreatW.PrintWords Go.Proofs.YtjaapkkpmegkfaaGreatW.PrintLast Go.Proofs.YtjaapkkpmegkfaaGreatW.PrintMore
set_option maxRecDepth 100000 in
theorem Qd.eval : Qd.f 60 = some true := by kernel_rfl
theorem Qd.at {k : Nat} (hk : 60 ≤ k) : Qd.f k = some true := Qbb (g := Qd.f) Qd.mono hk Qd.eval
theorem Qd.yes {k : Nat} {r : Bool} (h : Qd.f k = some r) : r = true := by
 have h1 := Qbb (g := Qd.f) Qd.mono (Nat.le_max_left k 60) h
 have h2 := Qbb (g := Qd.f) Qd.mono (Nat.le_max_right k 60) Qd.eval
 exact Option.some.inj (h1.symm.trans h2)
theorem Qd.calls (k : Nat) (r : Bool) (w : World) (h : Qd.f k = some r) : Calls Tryz.prog 15 #[] w fun e w' => e = .returned (.bool r) ∧ Below w.heap.size w w' :=
 Qd.calls_true k r w (Qd.yes h) h
end Go.Proofs.YtjaapkkpmegkfaaGreat.P
