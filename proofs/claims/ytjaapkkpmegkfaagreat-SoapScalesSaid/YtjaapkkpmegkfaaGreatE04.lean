/- Part 4 of what the law's proof needs beyond its base: words, walks of functions and plain facts. -/
import Derived.Below
import Derived.Deep.Draws
import Derived.Deep.AppendLies
import Derived.Maps.AppendAt
import Derived.OwnWalk
import Derived.Laws.BytesArg
import Derived.Laws.MakeOwn
import Derived.Laws.OwnMore
import Derived.Deep.OwnRows
import Derived.Tactics
import Derived.Lib.ConvBytes
import Derived.Laws.Slices
import Derived.WalkKit
import Derived.KernelRfl
import Derived.RowKit3
import Derived.Deep.LoopGhost
import Derived.Deep.QuietTactic
import Derived.BigQuiet
import Derived.WideLaws
import Derived.Deep.DeepCutAuto
import Derived.Deep.CutBlock
import Derived.Deep.RegionHeld3
import Derived.Laws.Rows
import Derived.Lib.AppendStr
import Derived.ArgAppend
import Derived.Laws.IdiomCopy
import Derived.RowKit
import Derived.OrdersHeld
import Derived.Laws.BitsLemmas
import Derived.Deep.Slices
import Derived.OpenShut
import Derived.ChangeArms
import Derived.Test.YtjaapkkpmegkfaaGreatR01
import Derived.Test.YtjaapkkpmegkfaaGreatR02
import Derived.Test.YtjaapkkpmegkfaaGreatR03
import Derived.Test.YtjaapkkpmegkfaaGreatR04
import Derived.Test.YtjaapkkpmegkfaaGreatR05
import Derived.Test.YtjaapkkpmegkfaaGreatR06
import Derived.Test.YtjaapkkpmegkfaaGreatR07
import Derived.Test.YtjaapkkpmegkfaaGreatR08
import Derived.Test.YtjaapkkpmegkfaaGreatR09
import Derived.Test.YtjaapkkpmegkfaaGreatR10
import Derived.Test.YtjaapkkpmegkfaaGreatR11
import Derived.Test.YtjaapkkpmegkfaaGreatR12
import Derived.Test.YtjaapkkpmegkfaaGreatR13
import Derived.Test.YtjaapkkpmegkfaaGreatE01
import Derived.Test.YtjaapkkpmegkfaaGreatE02
import Derived.Test.YtjaapkkpmegkfaaGreatE03
set_option linter.unusedVariables false
set_option linter.unusedSimpArgs false
namespace Go.Proofs.YtjaapkkpmegkfaaGreat.P
open Go.RowKit Go.Shelf Go.Proofs.YtjaapkkpmegkfaaGreatW.PrintWords Go.Proofs.YtjaapkkpmegkfaaGreatW.PrintLast Go.Proofs.YtjaapkkpmegkfaaGreatW.PrintMore
theorem has_at (l : List Int) (h : l.length ≤ 1000) (n : Int) : ∀ (q k i : Nat), i + q = l.length → q < k → Qas.l0 k l n (i : Int) = some (decide (n ∈ l.drop i)) := by
 intro q
 induction q with
 | zero =>
  intro k i hi hk; obtain ⟨k, rfl⟩ : ∃ z, k = z + 1 := ⟨k - 1, by omega⟩
  simp only [Qas.l0]; rw [if_neg (by omega), List.drop_of_length_le (by omega)]; simp
 | succ q ih =>
  intro k i hi hk; obtain ⟨k, rfl⟩ : ∃ z, k = z + 1 := ⟨k - 1, by omega⟩
  have hlt : i < l.length := by omega
  simp only [Qas.l0]; rw [if_pos (by omega), if_pos (by omega), YT hlt, w64 (by omega), show ((i : Int) + 1) = ((i + 1 : Nat) : Int) by omega, ih k (i + 1) (by omega) (by omega), List.drop_eq_getElem_cons hlt]; by_cases hc : l[i] = n
  ·rw [if_pos hc, decide_eq_true (by rw [hc]; exact List.mem_cons_self ..)]
  ·rw [if_neg hc]
   congr 1
   exact decide_eq_decide.2 ⟨fun h => List.mem_cons_of_mem _ h, fun h => by
    rcases List.mem_cons.1 h with h | h
    ·exact absurd h.symm hc
    ·exact h⟩
theorem Qbn (l : List Int) (h : l.length ≤ 1000) (n : Int) {k : Nat} (hk : l.length < k) : Qas.f k l n = some (decide (n ∈ l)) := by
 unfold Qas.f; have := has_at l h n l.length k 0 (Nat.zero_add _) hk
 simpa using this
theorem Qbt (a b : List Int) (ha : a.length ≤ 1000) (hb : b.length ≤ 1000) (h : ∀ x ∈ a, x ∈ b) : ∀ (q k i : Nat), i + q = a.length → q + 1001 < k → Qar.l0 k a b (i : Int) = some true := by
 intro q
 induction q with
 | zero =>
  intro k i hi hk; obtain ⟨k, rfl⟩ : ∃ z, k = z + 1 := ⟨k - 1, by omega⟩
  simp only [Qar.l0]; rw [if_neg (by omega)]
 | succ q ih =>
  intro k i hi hk; obtain ⟨k, rfl⟩ : ∃ z, k = z + 1 := ⟨k - 1, by omega⟩
  have hlt : i < a.length := by omega
  simp only [Qar.l0]; rw [if_pos (by omega), if_pos (by omega), YT hlt, Qbn b hb _ (by omega), decide_eq_true (h _ (List.getElem_mem hlt))]; simp only [Option.bind_some, if_true]; rw [w64 (by omega)]; exact ih k (i + 1) (by omega) (by omega)
theorem Qa5 {a b : List Int} (ha : a.length ≤ 1000) (hb : b.length ≤ 1000) (h : ∀ x ∈ a, x ∈ b) {k : Nat} (hk : 3000 < k) : Qar.f k a b = some true := by
 unfold Qar.f; exact Qbt a b ha hb h a.length k 0 (Nat.zero_add _) (by omega)
theorem Qa3 (p : S68 → Bool) : ∀ (l : List S68) (i : Nat) (x : Int), x ∈ pick p i l ↔ ∃ j, ∃ h : j < l.length, p l[j] = true ∧ x = ((i + j : Nat) : Int)
 | [], i, x => by simp [pick]
 | b :: l, i, x => by
  have ih := Qa3 p l (i + 1) x; have hr : (∃ j, ∃ h : j < l.length, p l[j] = true ∧ x = ((i + 1 + j : Nat) : Int)) → ∃ j, ∃ h : j < (b :: l).length, p (b :: l)[j] = true ∧ x = ((i + j : Nat) : Int) := fun ⟨j, h, g1, g2⟩ => ⟨j + 1, by simp; omega, by simpa using g1, by rw [g2]; congr 1; omega⟩
  unfold pick
  constructor
  ·intro h
   by_cases hb : p b = true
   ·rw [if_pos hb] at h
    rcases List.mem_cons.1 h with h | h
    ·exact ⟨0, by simp, by simpa using hb, by simpa using h⟩
    ·exact hr (ih.1 h)
   ·rw [if_neg hb] at h
    exact hr (ih.1 h)
  ·rintro ⟨j, h, g1, g2⟩
   cases j with
   | zero =>
    have hb : p b = true := by simpa using g1
    rw [if_pos hb, g2]; simp
   | succ j =>
    have hm := ih.2 ⟨j, by simpa using h, by simpa using g1, by rw [g2]; congr 1; omega⟩
    split
    ·exact List.mem_cons_of_mem _ hm
    ·exact hm
theorem Qbe (p : S68 → Bool) : ∀ (l : List S68) (i : Nat), (pick p i l).Pairwise (· < ·)
 | [], _ => List.Pairwise.nil
 | b :: l, i => by
  have ih := Qbe p l (i + 1); unfold pick
  split
  ·refine List.pairwise_cons.2 ⟨fun x hx => ?_, ih⟩
   obtain ⟨j, _, _, e⟩ := (Qa3 p l (i + 1) x).1 hx; omega
  ·exact ih
theorem Qb2 {p q : S68 → Bool} {l m : List S68} (hl : l.length = m.length) (h : ∀ j (h1 : j < l.length) (h2 : j < m.length), p l[j] = true → q m[j] = true) : ∀ x ∈ pick p 0 l, x ∈ pick q 0 m := by
 intro x hx; obtain ⟨j, h1, g1, g2⟩ := (Qa3 p l 0 x).1 hx; exact (Qa3 q m 0 x).2 ⟨j, by omega, h j h1 (by omega) g1, g2⟩
section
variable (vs : List S89) (t : List Int)
def Qaw (i : Nat) : Int := 1 + (Qap vs (i : Int)).f0 % 60
def offN (i : Nat) : Int := (Qap vs (i : Int)).f2 % 20
def tlN (i : Nat) : Int := (Qap vs (i : Int)).f3
def thN (i : Nat) : Int := (Qap vs (i : Int)).f3 + (Qap vs (i : Int)).f4 % 30
def Qaz (i : Nat) : Int := mx 0 (16 * Qaw vs i + tlN vs i + (Qap vs (i : Int)).f1 % 64 - 32)
def Qa4 (i : Nat) : Int := insN (tlN vs i) (thN vs i) (byN t (2 * i))
def errN (i : Nat) : Int := insN (-offN vs i) (offN vs i) (byN t (2 * i + 1))
def netN (i : Nat) : Int := Qaz vs i + errN vs t i - Qa4 vs t i
def barN (i : Nat) : S68 := ⟨Qaw vs i, Qaz vs i, offN vs i, ⟨tlN vs i, thN vs i⟩⟩
def narN (i : Nat) : S68 := ⟨Qaw vs i, Qaz vs i, offN vs i, ⟨Qa4 vs t i, Qa4 vs t i⟩⟩
end
structure Qbg (vs : List S89) (t : List Int) (i : Nat) : Prop where
 says : 1 ≤ Qaw vs i ∧ Qaw vs i ≤ 60
 off : 0 ≤ offN vs i ∧ offN vs i < 20
 tare : 0 ≤ tlN vs i ∧ tlN vs i ≤ thN vs i ∧ thN vs i ≤ 285 ∧ tlN vs i ≤ 255
 gross : 0 ≤ Qaz vs i ∧ Qaz vs i ≤ 1300
 wood : tlN vs i ≤ Qa4 vs t i ∧ Qa4 vs t i ≤ thN vs i
 err : -offN vs i ≤ errN vs t i ∧ errN vs t i ≤ offN vs i
theorem barOk {vs : List S89} {t : List Int} (hv : ∀ v ∈ vs, Qbh v) (ht : ∀ x ∈ t, byte x) {i : Nat} (hi : i < vs.length) : Qbg vs t i := by
 obtain ⟨b0, b1, b2, b3, b4⟩ := hv _ (List.getElem_mem hi); unfold byte at b0 b1 b2 b3 b4; have e := Qbs hi; have h1 : 1 ≤ Qaw vs i ∧ Qaw vs i ≤ 60 := by unfold Qaw; rw [e]; omega
 have h2 : 0 ≤ offN vs i ∧ offN vs i < 20 := by unfold offN; rw [e]; omega
 have h3 : 0 ≤ tlN vs i ∧ tlN vs i ≤ thN vs i ∧ thN vs i ≤ 285 ∧ tlN vs i ≤ 255 := by unfold tlN thN; rw [e]; omega
 have h4 : 0 ≤ Qaz vs i ∧ Qaz vs i ≤ 1300 := by
  unfold Qaz mx; rw [e]; split <;> omega
 have g1 := Qa7 ht (2 * i); have g2 := Qa7 ht (2 * i + 1); exact ⟨h1, h2, h3, h4, Qbp h3.2.1 g1.1 g1.2, Qbp (by omega) g2.1 g2.2⟩
theorem Qby (l : List S68) (xs : List Int) (hx : xs.length ≤ 1000) (hl : l.length ≤ 1000) (hin : ∀ x ∈ xs, 0 ≤ x ∧ x < (l.length : Int)) (hs : xs.Pairwise (· < ·)) : ∀ (q k i : Nat), i + q = xs.length → q + 100 < k → Qao.l2 k l xs (i : Int) = some true := by
 intro q
 induction q with
 | zero =>
  intro k i hi hk; obtain ⟨k, rfl⟩ : ∃ z, k = z + 1 := ⟨k - 1, by omega⟩
  simp only [Qao.l2]; rw [if_neg (by omega), Qd.at (by omega)]; rfl
 | succ q ih =>
  intro k i hi hk; obtain ⟨k, rfl⟩ : ∃ z, k = z + 1 := ⟨k - 1, by omega⟩
  have hlt : i < xs.length := by omega
  have hb := hin _ (List.getElem_mem hlt); simp only [Qao.l2]; rw [if_pos (by omega), if_pos (by omega), YT hlt, if_neg (by omega), if_neg (by omega), w64 (x := (i : Int) + 1) (by omega)]; by_cases h0 : (i : Int) > 0
  ·have hp := (List.pairwise_iff_getElem.1 hs) (i - 1) i (by omega) hlt (by omega)
   rw [if_pos h0, w64 (x := (i : Int) - 1) (by omega), if_pos (by omega), if_pos (by omega), show ((i : Int) - 1) = ((i - 1 : Nat) : Int) by omega, YT (by omega), if_neg (by omega)]; exact ih k (i + 1) (by omega) (by omega)
  ·rw [if_neg h0]
   exact ih k (i + 1) (by omega) (by omega)
theorem rdT_map {n i : Nat} (f : Nat → S68) (h : i < n) : Qu ((List.range n).map f) (i : Int) = f i := by rw [Qbq (by simp; exact h)]; simp
theorem rd_map {n i : Nat} (f : Nat → Int) (h : i < n) : rd ((List.range n).map f) (i : Int) = f i := by rw [YT (by simp; exact h)]; simp
theorem Qbk {p : S68 → Bool} {n : Nat} {f : Nat → S68} {i : Nat} (h : i < n) : ((i : Int) ∈ pick p 0 ((List.range n).map f)) ↔ p (f i) = true := by
 rw [Qa3]
 constructor
 ·rintro ⟨j, h1, g1, g2⟩
  have : i = j := by omega
  subst this
  simpa using g1
 ·intro g
  exact ⟨i, by simp; exact h, by simpa using g, by omega⟩
theorem Qbz {vs : List S89} {t : List Int} {n : Nat} (h12 : n ≤ 12) (hok : ∀ i < n, Qbg vs t i) : ∀ (q k i : Nat), i + q = n → q + 1000 < k →
  Qao.l1 k ((List.range n).map (barN vs)) ((List.range n).map (netN vs t)) (pick Qax 0 ((List.range n).map (barN vs))) (pick Qay 0 ((List.range n).map (barN vs))) (i : Int) = some true := by
 have hl1 := Qa1 Qax ((List.range n).map (barN vs)) 0; have hl2 := Qa1 Qay ((List.range n).map (barN vs)) 0; simp only [List.length_map, List.length_range] at hl1 hl2; intro q
 induction q with
 | zero =>
  intro k i hi hk; obtain ⟨k, rfl⟩ : ∃ z, k = z + 1 := ⟨k - 1, by omega⟩
  simp only [Qao.l1]; rw [if_neg (by simp; omega)]; refine Qby _ _ (by omega) (by simp; omega) (fun x hx => ?_) (Qbe _ _ _) _ k 0 (Nat.zero_add _) (by omega); obtain ⟨j, h1, _, e⟩ := (Qa3 _ _ _ _).1 hx; omega
 | succ q ih =>
  intro k i hi hk; obtain ⟨k, rfl⟩ : ∃ z, k = z + 1 := ⟨k - 1, by omega⟩
  have hlt : i < n := by omega
  have hb := hok i hlt; have b1 := hb.says; have b2 := hb.off; have b3 := hb.tare; have b4 := hb.gross; have b5 := hb.wood; have b6 := hb.err
  have hsure : (((i : Int) ∈ pick Qax 0 ((List.range n).map (barN vs)))) ↔ Qaz vs i + offN vs i - tlN vs i < 16 * Qaw vs i := by
   rw [Qbk hlt]; unfold Qax barN; simp
  have hposs : (((i : Int) ∈ pick Qay 0 ((List.range n).map (barN vs)))) ↔ Qaz vs i - offN vs i - thN vs i < 16 * Qaw vs i := by
   rw [Qbk hlt]; unfold Qay barN; simp
  have hnet : netN vs t i = Qaz vs i + errN vs t i - Qa4 vs t i := rfl; have hf0 : (barN vs i).f0 = Qaw vs i := rfl; simp only [Qao.l1]; rw [if_pos (by simp; omega), if_pos (by omega), if_pos (by simp; omega), Qbn _ (by omega) _ (by omega), Qbn _ (by omega) _ (by omega), rd_map _ hlt, rdT_map _ hlt, hf0, hnet, w64 (x := 16 * Qaw vs i) (by omega), w64 (x := (i : Int) + 1) (by omega)]; simp only [Option.bind_some, decide_eq_true_iff]; have hnext := ih k (i + 1) (by omega) (by omega); by_cases hS : Qaz vs i + errN vs t i - Qa4 vs t i < 16 * Qaw vs i
  ·have hP := hposs.2 (by omega)
   simp only [if_pos hS, if_pos hP]
   split <;> exact hnext
  ·have hN : ¬ ((i : Int) ∈ pick Qax 0 ((List.range n).map (barN vs))) := fun h => by
    have := hsure.1 h; omega
   simp only [if_neg hS, if_neg hN]; exact hnext
theorem Qbr {vs : List S89} {t : List Int} {i : Nat} (hb : Qbg vs t i) : okB (barN vs i) = true := by
 have b1 := hb.says; have b2 := hb.off; have b3 := hb.tare; have b4 := hb.gross; unfold okB barN; rw [decide_eq_true_iff]; simp only; omega
theorem Qbo {vs : List S89} {t : List Int} {i : Nat} (hb : Qbg vs t i) : okB (narN vs t i) = true := by
 have b1 := hb.says; have b2 := hb.off; have b3 := hb.tare; have b4 := hb.gross; have b5 := hb.wood; unfold okB narN; rw [decide_eq_true_iff]; simp only; omega
theorem Qbl {n : Nat} (h12 : n ≤ 12) {f : Nat → S68} (h : ∀ i < n, okB (f i) = true) {k : Nat} (hk : 100 < k) : QN.f k ((List.range n).map f) = some (pick Qax 0 ((List.range n).map f), pick Qay 0 ((List.range n).map f), 0) := by
 rw [Qb0 _ (by simp; omega) (by simp; omega), if_neg (by simp; omega), if_pos]; rw [List.all_eq_true]; intro s hs; obtain ⟨i, hi, rfl⟩ := List.mem_map.1 hs; exact h i (List.mem_range.1 hi)
theorem Qbu {vs : List S89} {t : List Int} {n : Nat} (h12 : n ≤ 12) (hok : ∀ i < n, Qbg vs t i) (i : Int) {k : Nat} (hk : 5000 < k) :
  Qao.j1 (k + 1 + 1) vs t ((List.range n).map (barN vs)) ((List.range n).map (narN vs t)) ((List.range n).map (netN vs t)) i false = some true := by
 have e1 := Qbl h12 (f := barN vs) (fun i hi => Qbr (hok i hi)) (k := k + 1) (by omega); have e2 := Qbl h12 (f := narN vs t) (fun i hi => Qbo (hok i hi)) (k := k + 1) (by omega); have l1 := Qa1 Qax ((List.range n).map (barN vs)) 0; have l2 := Qa1 Qay ((List.range n).map (barN vs)) 0; have l3 := Qa1 Qax ((List.range n).map (narN vs t)) 0; have l4 := Qa1 Qay ((List.range n).map (narN vs t)) 0; simp only [List.length_map, List.length_range] at l1 l2 l3 l4; have sub : ∀ (p q : S68 → Bool) (f g : Nat → S68), (∀ i < n, p (f i) = true → q (g i) = true) → ∀ x ∈ pick p 0 ((List.range n).map f), x ∈ pick q 0 ((List.range n).map g) := fun p q f g h => Qb2 (by simp) (fun j h1 h2 hp => by simp only [List.length_map, List.length_range] at h1; simpa using h j h1 (by simpa using hp))
 simp only [Qao.j1]; rw [if_neg (by simp)]; simp only [Option.bind_some, List.length_nil, List.nil_append]; rw [if_pos (by simp; omega), e1]; simp only [Option.bind_some]; rw [if_pos (by simp; omega), e2]; simp only [Option.bind_some, if_true]; rw [Qa5 (by omega) (by omega) (sub Qax Qay (barN vs) (barN vs) fun i hi hp => Qba (Qbr (hok i hi)) hp) (by omega)]; simp only [Option.bind_some, if_true]
 rw [Qa5 (by omega) (by omega) (sub Qax Qax (barN vs) (narN vs t) fun i hi hp => by
  have := (hok i hi).wood; unfold Qax barN at hp; unfold Qax narN; rw [decide_eq_true_iff] at hp ⊢; simp only at hp ⊢; omega) (by omega)]
 simp only [Option.bind_some, if_true]; rw [Qa5 (by omega) (by omega) (sub Qax Qay (narN vs t) (narN vs t) fun i hi hp => Qba (Qbo (hok i hi)) hp) (by omega)]; simp only [Option.bind_some, if_true]
 rw [Qa5 (by omega) (by omega) (sub Qay Qay (narN vs t) (barN vs) fun i hi hp => by
  have := (hok i hi).wood; unfold Qay narN at hp; unfold Qay barN; rw [decide_eq_true_iff] at hp ⊢; simp only at hp ⊢; omega) (by omega)]
 simp only [Option.bind_some, Bool.not_true, Qao.j2]; rw [if_neg (by simp)]; exact Qbz h12 hok n k 0 (Nat.zero_add _) (by omega)
theorem Qbx {vs : List S89} {t : List Int} (hv : ∀ v ∈ vs, Qbh v) (ht : ∀ x ∈ t, byte x) : ∀ (q k i : Nat), i + q = min 12 vs.length → 6000 + 10 * q < k →
  Qao.l0 k vs t ((List.range i).map (barN vs)) ((List.range i).map (narN vs t)) ((List.range i).map (netN vs t)) (i : Int) = some true := by
 intro q
 induction q with
 | zero =>
  intro k i hi hk; obtain ⟨k, rfl⟩ : ∃ z, k = z + 1 + 1 + 1 := ⟨k - 3, by omega⟩
  have hend := Qbu (vs := vs) (t := t) (n := i) (by omega) (fun j hj => barOk hv ht (by omega)) (i : Int) (k := k) (by omega); simp only [Qao.l0]; by_cases h1 : (i : Int) < (vs.length : Int)
  ·rw [if_pos h1, decide_eq_false (by omega)]; exact hend
  ·rw [if_neg h1]; exact hend
 | succ q ih =>
  intro k i hi hk; obtain ⟨k, rfl⟩ : ∃ z, k = z + 1 + 1 := ⟨k - 2, by omega⟩
  have hlt : i < vs.length := by omega
  obtain ⟨b0, b1, b2, b3, b4⟩ := hv _ (List.getElem_mem hlt); unfold byte at b0 b1 b2 b3 b4; have hb := barOk hv ht hlt; have c1 := hb.says; have c2 := hb.off; have c3 := hb.tare; have c4 := hb.gross; have c5 := hb.wood; have c6 := hb.err; have g1 := Qa7 ht (2 * i); have g2 := Qa7 ht (2 * i + 1); have e := Qbs hlt; have d0 : 1 + (Qap vs (i : Int)).f0 % 60 = Qaw vs i := rfl; have d1 : (Qap vs (i : Int)).f2 % 20 = offN vs i := rfl; have d2 : (Qap vs (i : Int)).f3 = tlN vs i := rfl; have d3 : tlN vs i + (Qap vs (i : Int)).f4 % 30 = thN vs i := rfl; rw [← e] at b0 b1 b2 b3 b4; have w1 : wrap64 (2 * (i : Int)) = ((2 * i : Nat) : Int) := by rw [w64 (by omega)]; omega
  have w2 : wrap64 (((2 * i : Nat) : Int) + 1) = ((2 * i + 1 : Nat) : Int) := by rw [w64 (by omega)]; omega
  simp only [Qao.l0]; rw [if_pos (by omega), decide_eq_true (by omega)]; simp only [Qao.j1, QC.f]; rw [if_pos trivial, if_pos (by omega), if_pos (by omega)]; simp only [Option.bind_some]; rw [w64 (x := (Qap vs (i : Int)).f0) (by omega), w64 (x := (Qap vs (i : Int)).f1) (by omega), w64 (x := (Qap vs (i : Int)).f2) (by omega), w64 (x := (Qap vs (i : Int)).f3) (by omega), w64 (x := (Qap vs (i : Int)).f4) (by omega), Qbb b0.1, Qbb b1.1, Qbb b2.1, Qbb b4.1, d1, d2]; have x1 : wrap64 (1 + (Qap vs (i : Int)).f0 % 60) = Qaw vs i := by rw [w64 (by omega)]; exact d0
  have x2 : wrap64 (tlN vs i + (Qap vs (i : Int)).f4 % 30) = thN vs i := by rw [w64 (by omega)]; exact d3
  rw [x1, x2, w1, w2, by_eq ht (2 * i), by_eq ht (2 * i + 1), w64 (x := -offN vs i) (by omega)]; simp only [Option.bind_some]; rw [Qbj c3.2.1 (by omega) (by omega) g1.1 g1.2, Qbj (lo := -offN vs i) (hi := offN vs i) (by omega) (by omega) (by omega) g2.1 g2.2]; simp only [Option.bind_some]; have hl : ∀ {α : Type} (f : Nat → α), ((List.range i).map f).length = i := fun f => by simp
  rw [hl, hl, hl, if_pos (by omega), if_pos (by omega), if_pos (by omega)]; have y1 : wrap64 (16 * Qaw vs i) = 16 * Qaw vs i := w64 (by omega); have y2 : wrap64 (16 * Qaw vs i + tlN vs i) = 16 * Qaw vs i + tlN vs i := w64 (by omega); have y3 : wrap64 (16 * Qaw vs i + tlN vs i + (Qap vs (i : Int)).f1 % 64) = 16 * Qaw vs i + tlN vs i + (Qap vs (i : Int)).f1 % 64 := w64 (by omega); have y4 : wrap64 (16 * Qaw vs i + tlN vs i + (Qap vs (i : Int)).f1 % 64 - 32) = 16 * Qaw vs i + tlN vs i + (Qap vs (i : Int)).f1 % 64 - 32 := w64 (by omega); have y5 : mx 0 (16 * Qaw vs i + tlN vs i + (Qap vs (i : Int)).f1 % 64 - 32) = Qaz vs i := rfl; have y6 : insN (tlN vs i) (thN vs i) (byN t (2 * i)) = Qa4 vs t i := rfl; have y7 : insN (-offN vs i) (offN vs i) (byN t (2 * i + 1)) = errN vs t i := rfl; have y8 : wrap64 (Qaz vs i + errN vs t i) = Qaz vs i + errN vs t i := w64 (by omega); have y9 : wrap64 (Qaz vs i + errN vs t i - Qa4 vs t i) = netN vs t i := w64 (by omega); rw [y1, y2, y3, y4, y5, y6, y7, y8, y9, w64 (x := (i : Int) + 1) (by omega)]; have r1 : (List.range (i + 1)).map (barN vs) = (List.range i).map (barN vs) ++ [barN vs i] := by rw [List.range_succ, List.map_append]; rfl
  have r2 : (List.range (i + 1)).map (narN vs t) = (List.range i).map (narN vs t) ++ [narN vs t i] := by rw [List.range_succ, List.map_append]; rfl
  have r3 : (List.range (i + 1)).map (netN vs t) = (List.range i).map (netN vs t) ++ [netN vs t i] := by rw [List.range_succ, List.map_append]; rfl
  have := ih k (i + 1) (by omega) (by omega); rw [r1, r2, r3] at this; exact this
theorem Qbi (vs : List S89) (hv : ∀ v ∈ vs, Qbh v) (t : List Int) (ht : ∀ x ∈ t, byte x) : ∃ k, Qao.f k vs t = some true := by
 obtain ⟨k, hk⟩ : ∃ k, 6500 < k := ⟨7000, by omega⟩
 refine ⟨k, ?_⟩; unfold Qao.f; exact Qbx hv ht _ k 0 (Nat.zero_add _) (by omega)
end Go.Proofs.YtjaapkkpmegkfaaGreat.P
