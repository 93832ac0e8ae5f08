/- Part 6 of what the law's proof needs beyond its base: words, walks of functions and plain facts. -/
import Derived.Below
import Derived.Deep.Draws
import Derived.Deep.AppendLies
import Derived.Maps.AppendAt
import Derived.OwnWalk
import Derived.Laws.BytesArg
import Derived.Laws.MakeOwn
import Derived.Laws.OwnMore
import Derived.Deep.OwnRows
import Derived.Tactics
import Derived.Lib.ConvBytes
import Derived.Laws.Slices
import Derived.WalkKit
import Derived.KernelRfl
import Derived.RowKit3
import Derived.Deep.LoopGhost
import Derived.Deep.QuietTactic
import Derived.BigQuiet
import Derived.WideLaws
import Derived.Deep.DeepCutAuto
import Derived.Deep.CutBlock
import Derived.Deep.RegionHeld3
import Derived.Laws.Rows
import Derived.Lib.AppendStr
import Derived.ArgAppend
import Derived.Laws.IdiomCopy
import Derived.RowKit
import Derived.OrdersHeld
import Derived.Laws.BitsLemmas
import Derived.Deep.Slices
import Derived.OpenShut
import Derived.ChangeArms
import Derived.Test.YtjaapkkpmegkfaaGreatR01
import Derived.Test.YtjaapkkpmegkfaaGreatR02
import Derived.Test.YtjaapkkpmegkfaaGreatR03
import Derived.Test.YtjaapkkpmegkfaaGreatR04
import Derived.Test.YtjaapkkpmegkfaaGreatR05
import Derived.Test.YtjaapkkpmegkfaaGreatR06
import Derived.Test.YtjaapkkpmegkfaaGreatR07
import Derived.Test.YtjaapkkpmegkfaaGreatR08
import Derived.Test.YtjaapkkpmegkfaaGreatR09
import Derived.Test.YtjaapkkpmegkfaaGreatR10
import Derived.Test.YtjaapkkpmegkfaaGreatR11
import Derived.Test.YtjaapkkpmegkfaaGreatR12
import Derived.Test.YtjaapkkpmegkfaaGreatR13
import Derived.Test.YtjaapkkpmegkfaaGreatC01
import Derived.Test.YtjaapkkpmegkfaaGreatC02
import Derived.Test.YtjaapkkpmegkfaaGreatC03
import Derived.Test.YtjaapkkpmegkfaaGreatC04
import Derived.Test.YtjaapkkpmegkfaaGreatC05
set_option linter.unusedVariables false
set_option linter.unusedSimpArgs false
namespace Go.Proofs.YtjaapkkpmegkfaaGreat.P
open Go.RowKit Go.Shelf Go.Proofs.YtjaapkkpmegkfaaGreatW.PrintWords Go.Proofs.YtjaapkkpmegkfaaGreatW.PrintLast Go.Proofs.YtjaapkkpmegkfaaGreatW.PrintMore
theorem Qdh (l : List S100) (h : l.length ≤ 100) : Qa3.f l = some l := by
 unfold Qa3.f; simp only [Option.bind_some, List.length_nil, List.nil_append]; rw [if_pos (by omega)]
theorem same_at (l : List S100) (h : l.length ≤ 100) : ∀ (q k i : Nat), i + q = l.length → q < k → Qay.l0 k l l (i : Int) = some true := by
 intro q
 induction q with
 | zero =>
  intro k i hi hk; obtain ⟨k, rfl⟩ : ∃ z, k = z + 1 := ⟨k - 1, by omega⟩
  simp only [Qay.l0]; rw [if_neg (by omega)]
 | succ q ih =>
  intro k i hi hk; obtain ⟨k, rfl⟩ : ∃ z, k = z + 1 := ⟨k - 1, by omega⟩
  simp only [Qay.l0]; rw [if_pos (by omega), if_pos (by omega), if_pos (by omega), if_neg (by simp), w64 (by omega)]; exact ih k (i + 1) (by omega) (by omega)
theorem same_eq (l : List S100) (h : l.length ≤ 100) {k : Nat} (hk : l.length < k) : Qay.f k l l = some true := by
 unfold Qay.f; rw [if_pos rfl]; exact same_at l h l.length k 0 (Nat.zero_add _) hk
theorem Qdd (l : List S100) (hm : l.length ≤ 100) : ∀ (q k i : Nat), i + q = l.length → q < k → Qav.l0 k l (i : Int) = some (if (l.drop i).all okS = true then 0 else 2) := by
 intro q
 induction q with
 | zero =>
  intro k i hi hk; obtain ⟨k, rfl⟩ : ∃ m, k = m + 1 := ⟨k - 1, by omega⟩
  simp only [Qav.l0]; rw [if_neg (by omega), List.drop_of_length_le (by omega)]
  simp
 | succ q ih =>
  intro k i hi hk; obtain ⟨k, rfl⟩ : ∃ m, k = m + 1 := ⟨k - 1, by omega⟩
  have hlt : i < l.length := by omega
  simp only [Qav.l0]; rw [if_pos (by omega), if_pos (by omega), w64 (by omega), show ((i : Int) + 1) = ((i + 1 : Nat) : Int) by omega, ih k (i + 1) (by omega) (by omega), Qa5 hlt, List.drop_eq_getElem_cons hlt, List.all_cons]; simp only [In_eq, Span_eq, Option.bind_some]; generalize l[i] = b; have hno : ∀ (h : okS b = false), (if (okS b && (l.drop (i + 1)).all okS) = true then (0 : Int) else 2) = 2 := fun h => by rw [h]; rfl
  by_cases h1 : 0 ≤ b.f0.f0 ∧ b.f0.f0 ≤ b.f0.f1 ∧ b.f0.f1 ≤ 200
  ·rw [if_pos (by simpa using h1)]
   by_cases h2 : 0 ≤ b.f1 ∧ b.f1 ≤ 500
   ·rw [if_pos (by simpa using h2)]
    by_cases h3 : 0 ≤ b.f2 ∧ b.f2 ≤ 50
    ·rw [if_pos (by simpa using h3)]
     by_cases h4 : 0 ≤ b.f3 ∧ b.f3 ≤ 12
     ·rw [if_pos (by simpa using h4)]
      have : okS b = true := by unfold okS; rw [decide_eq_true_iff]; omega
      rw [this, Bool.true_and]
     ·rw [if_neg (by simpa using h4), hno (by unfold okS; rw [decide_eq_false_iff_not]; omega)]
    ·rw [if_neg (by simpa using h3), hno (by unfold okS; rw [decide_eq_false_iff_not]; omega)]
   ·rw [if_neg (by simpa using h2), hno (by unfold okS; rw [decide_eq_false_iff_not]; omega)]
  ·rw [if_neg (by simpa using h1), hno (by unfold okS; rw [decide_eq_false_iff_not]; omega)]
theorem Qb6 (l : List S100) {k : Nat} (hk : 10 < k) : Qav.f k l = some (chk l) := by
 unfold Qav.f chk; by_cases h1 : (l.length : Int) > 4
 ·rw [if_pos h1, if_pos h1]
 ·rw [if_neg h1, if_neg h1]
  by_cases h2 : (l.length : Int) = 0
  ·rw [if_pos h2, if_pos h2]
  ·rw [if_neg h2, if_neg h2]
   exact Qdd l (by omega) l.length k 0 (Nat.zero_add _) (by omega)
theorem Qb8 (a b c d e : Int) : Qa0.f a b c d e = some (okC a b c d e) := by
 unfold Qa0.f okC; simp only [In_eq, Span_eq, Option.bind_some]; by_cases h1 : 1 ≤ a ∧ a ≤ b ∧ b ≤ 2000
 ·rw [if_pos (by simpa using h1)]
  by_cases h2 : 0 ≤ c ∧ c ≤ d ∧ d ≤ 300
  ·rw [if_pos (by simpa using h2)]
   congr 1
   exact decide_eq_decide.2 (by omega)
  ·rw [if_neg (by simpa using h2)]
   congr 1; symm; rw [decide_eq_false_iff_not]; omega
 ·rw [if_neg (by simpa using h1)]
  congr 1; symm; rw [decide_eq_false_iff_not]; omega
theorem Qb4 {a c : Int} (h0 : 0 ≤ a) (h1 : a ≤ 2000) (h2 : 0 ≤ c) (h3 : c ≤ 300) : Qa1.f a c = some (upN a c) := by
 have h := Qbb h0 h1 h2 h3; unfold Qa1.f upN; generalize a * c = p at *; rw [w64 (x := p) (by omega), Int.tdiv_eq_ediv_of_nonneg (by omega), w64 (x := p / 1000) (by omega), w64 (x := p / 1000 * 1000) (by omega), w64 (x := p / 1000 + 1) (by omega)]; by_cases hc : p / 1000 * 1000 < p
 ·rw [if_pos hc]; congr 1; omega
 ·rw [if_neg hc]; congr 1; omega
theorem Qct {a b c d e : Int} (h : okC a b c d e = true) : Qaz.f a b c d e = some (upN a c, upN b d) := by
 obtain ⟨h1, h2, h3⟩ := Qb1 h; unfold Qaz.f; rw [Qb4 h1.1 h1.2.1 h2.1 h2.2.1, Qb4 h1.2.2.1 h1.2.2.2 h2.2.2.1 h2.2.2.2]; rfl
theorem Qdo (l : List S100) (m : List Int) (h : Mx l m) (hl : m.length = l.length) : ∀ (q k i : Nat) (s t : Int), i + q = m.length → q < k → -600 ≤ s → s ≤ 2400 * (i : Int) → -600 ≤ t → t ≤ 2400 * (i : Int) →
  Qau.l0 k l m (i : Int) s t = some (s + tot Qa7 (l.drop i) (m.drop i), t + tot Qbi (l.drop i) (m.drop i)) := by
 have h4 := h.l4; intro q
 induction q with
 | zero =>
  intro k i s t hi hk _ _ _ _; obtain ⟨k, rfl⟩ : ∃ z, k = z + 1 := ⟨k - 1, by omega⟩
  simp only [Qau.l0]; rw [if_neg (by omega), List.drop_of_length_le (l := m) (by omega)]
  simp [tot]
 | succ q ih =>
  intro k i s t hi hk hs0 hs1 ht0 ht1; obtain ⟨k, rfl⟩ : ∃ z, k = z + 1 := ⟨k - 1, by omega⟩
  have h1 : i < m.length := by omega
  have h2 : i < l.length := by omega
  have hf := Qbv (h.ok l[i] (List.getElem_mem h2)); have hg := most_ok (h.ok l[i] (List.getElem_mem h2)); have hx := h.m12 m[i] (List.getElem_mem h1); have hp := Qbb hx.1 hx.2 hf.1 hf.2; have hq := Qbb hx.1 hx.2 hg.1 hg.2; simp only [Qau.l0]; rw [if_pos (by omega), if_pos (by omega), if_pos (by omega), Qa5 h2, YT h1, Qbf h2 h1, Qbf h2 h1]; have e : l[i].f0.f0 = Qa7 l[i] := rfl; have e' : l[i].f0.f1 = Qbi l[i] := rfl; rw [e, e', w64 (x := m[i] * Qa7 l[i]) (by omega), w64 (x := s + m[i] * Qa7 l[i]) (by omega), w64 (x := m[i] * Qbi l[i]) (by omega), w64 (x := t + m[i] * Qbi l[i]) (by omega), w64 (by omega), show ((i : Int) + 1) = ((i + 1 : Nat) : Int) by omega, ih k (i + 1) _ _ (by omega) (by omega) (by omega) (by omega) (by omega) (by omega), Int.add_assoc, Int.add_assoc]
theorem Qdp {l : List S100} {m : List Int} (h : Mx l m) (hl : m.length = l.length) {a b c d e : Int} (hc : okC a b c d e = true) {k : Nat} (hk : m.length < k) : Qau.f k l a b c d e m = some (lo l b d m, hi l a c m) := by
 obtain ⟨h1, h2, h3⟩ := Qb1 hc; have g1 := Qci h1.1 h1.2.1 h2.1 h2.2.1; have g2 := Qci h1.2.2.1 h1.2.2.2 h2.2.2.1 h2.2.2.2; unfold Qau.f; rw [Qct hc]; simp only [Option.bind_some]; rw [w64 (x := -upN b d) (by omega), w64 (x := -upN a c) (by omega)]; have := Qdo l m h hl m.length k 0 (-upN b d) (-upN a c) (Nat.zero_add _) hk (by omega) (by omega) (by omega) (by omega); have e0 : ((0 : Nat) : Int) = 0 := rfl; rw [e0] at this; rw [this]; unfold lo hi; simp only [List.drop_zero]
 congr 2 <;> omega
theorem Qcn (l : List S100) (m : List Int) (h : Mx l m) (hl : m.length = l.length) : ∀ (q k i : Nat) (s : Int), i + q = m.length → q < k → 0 ≤ s → s ≤ 12 * 50 * (i : Int) →
  Qaw.l0 k l m s (i : Int) = some (s + tot Qa6 (l.drop i) (m.drop i)) := by
 have h4 := h.l4; intro q
 induction q with
 | zero =>
  intro k i s hi hk _ _; obtain ⟨k, rfl⟩ : ∃ z, k = z + 1 := ⟨k - 1, by omega⟩
  simp only [Qaw.l0]; rw [if_neg (by omega), List.drop_of_length_le (l := m) (by omega)]
  simp [tot]
 | succ q ih =>
  intro k i s hi hk hs0 hs1; obtain ⟨k, rfl⟩ : ∃ z, k = z + 1 := ⟨k - 1, by omega⟩
  have h1 : i < m.length := by omega
  have h2 : i < l.length := by omega
  have hf := Qb5 (h.ok l[i] (List.getElem_mem h2)); have hx := h.m12 m[i] (List.getElem_mem h1); have hp := Qbb hx.1 hx.2 hf.1 hf.2; simp only [Qaw.l0]; rw [if_pos (by omega), if_pos (by omega), if_pos (by omega), Qa5 h2, YT h1, Qbf h2 h1]; have e : l[i].f2 = Qa6 l[i] := rfl; rw [e, w64 (x := m[i] * Qa6 l[i]) (by omega), w64 (x := s + m[i] * Qa6 l[i]) (by omega), w64 (by omega), show ((i : Int) + 1) = ((i + 1 : Nat) : Int) by omega, ih k (i + 1) _ (by omega) (by omega) (by omega) (by omega), Int.add_assoc]
theorem Qcr {l : List S100} {m : List Int} (h : Mx l m) (hl : m.length = l.length) {k : Nat} (hk : m.length < k) : Qaw.f k l m = some (tot Qa6 l m) := by
 unfold Qaw.f; have := Qcn l m h hl m.length k 0 0 (Nat.zero_add _) hk (by omega) (by omega)
 simpa using this
theorem Qcy (low t q s h need : Int) (hl : 0 ≤ low ∧ low ≤ 200) : ∀ (z k : Nat) (x y : Int), 0 ≤ x → x ≤ y → y ≤ 1000 → (y - x).toNat ≤ z → z < k →
  ∃ r, Qo.l0 k x y low t q s h need = some r ∧ x ≤ r ∧ r ≤ y ∧ (∀ n, x ≤ n → n < r → ¬ n * low ≥ need) ∧ (r < y → r * low ≥ need) := by
 intro z
 induction z with
 | zero =>
  intro k x y h0 h1 h2 h3 h4; obtain ⟨k, rfl⟩ : ∃ z, k = z + 1 := ⟨k - 1, by omega⟩
  refine ⟨x, ?_, by omega, by omega, fun n _ _ => by omega, fun _ => by omega⟩; simp only [Qo.l0]; rw [if_neg (by omega)]
 | succ z ih =>
  intro k x y h0 h1 h2 h3 h4; obtain ⟨k, rfl⟩ : ∃ z, k = z + 1 := ⟨k - 1, by omega⟩
  simp only [Qo.l0]; by_cases hxy : x < y
  ·rw [if_pos hxy, w64 (x := x + y) (by omega)]
   have e : IntKind.u64.wrap (x + y) = x + y := by show (x + y) % 18446744073709551616 = _; omega
   rw [e, w64 (x := (x + y) / 2) (by omega), w64 (x := (x + y) / 2 + 1) (by omega)]; generalize hm : (x + y) / 2 = m; have hm1 : x ≤ m ∧ m < y := by omega
   have hp := Qbb (a := m) (A := 1000) (by omega) (by omega) hl.1 hl.2; unfold JU.f; simp only [Option.bind_some]; rw [w64 (x := m * low) (by omega)]; by_cases hc : m * low ≥ need
   ·rw [if_pos (by simpa using hc)]
    obtain ⟨r, g1, g2, g3, g4, g5⟩ := ih k x m h0 (by omega) (by omega) (by omega) (by omega); refine ⟨r, g1, g2, by omega, g4, fun _ => ?_⟩; by_cases hr : r < m
    ·exact g5 hr
    ·rw [show r = m by omega]; exact hc
   ·rw [if_neg (by simpa using hc)]
    obtain ⟨r, g1, g2, g3, g4, g5⟩ := ih k (m + 1) y (by omega) (by omega) (by omega) (by omega) (by omega); refine ⟨r, g1, by omega, g3, fun n h5 h6 => ?_, g5⟩; by_cases hn : n ≤ m
    ·intro hge
     have : n * low ≤ m * low := Int.mul_le_mul_of_nonneg_right hn hl.1; omega
    ·exact g4 n (by omega) h6
  ·rw [if_neg hxy]
   exact ⟨x, rfl, by omega, by omega, fun n _ _ => by omega, fun _ => by omega⟩
def catL {β : Type} (g : Nat → List β) : Nat → List β
 | 0 => []
 | n + 1 => catL g n ++ g n
theorem Qcj {β : Type} {f : Nat → Option (List β)} {g : Nat → List β} : ∀ {n : Nat}, (∀ p < n, f p = some (g p)) → catO f n = some (catL g n)
 | 0, _ => rfl
 | n + 1, h => by
  unfold catO catL; rw [Qcj (fun p hp => h p (by omega)), h n (by omega)]; rfl
theorem Qb7 {α β : Type} (u v : α → β → α) (f g : Nat → List β) : ∀ (n : Nat) (a : α), (∀ p < n, ∀ a, (f p).foldl u a = (g p).foldl v a) → (catL f n).foldl u a = (catL g n).foldl v a
 | 0, _, _ => rfl
 | n + 1, a, h => by
  unfold catL; rw [List.foldl_append, List.foldl_append, Qb7 u v f g n a (fun p hp => h p (by omega)), h n (by omega)]
def allA (l : List S100) : Nat → List Int → List (List Int)
 | 0, m => catL (fun p => [m ++ [(p : Int)]]) ((Qf l m.length).f3 + 1).toNat
 | d + 1, m => catL (fun p => allA l d (m ++ [(p : Int)])) ((Qf l m.length).f3 + 1).toNat
def upd (l : List S100) (b d e : Int) (x : List Int × Bool) (m : List Int) : List Int × Bool :=
 if lo l b d m ≥ 0 ∧ tot Qa6 l m ≤ e ∧ (x.2 = false ∨ tot Qa4 l m < tot Qa4 l x.1) then (m, true) else x
def updS (l : List S100) (e : Int) (x : List Int × Bool) (m : List Int) : List Int × Bool :=
 if tot Qa6 l m ≤ e ∧ (x.2 = false ∨ tot Qa4 l m < tot Qa4 l x.1) then (m, true) else x
theorem Qbu (f : S100 → Int) (l : List S100) (m : List Int) (p : Int) (h : m.length < l.length) : tot f l (m ++ [p]) = tot f l m + p * f (Qf l m.length) := by
 rw [Qa5 h]; unfold tot
 induction m generalizing l with
 | nil =>
  cases l with
  | nil => simp at h
  | cons s l => simp
 | cons x m ih =>
  cases l with
  | nil => simp at h
  | cons s l =>
   simp only [List.length_cons] at h; have := ih l (by omega); simp only [List.cons_append, List.zip_cons_cons, List.map_cons, List.sum_cons, List.length_cons, List.getElem_cons_succ]; rw [this, Int.add_assoc]
theorem block (l : List S100) (b d e : Int) (m : List Int) (hm : m.length < l.length) (hs : okS (Qf l m.length) = true) (r : Int) (hr0 : 0 ≤ r)
  (hlt : ∀ n, 0 ≤ n → n < r → ¬ n * (Qf l m.length).f0.f0 ≥ upN b d - tot Qa7 l m) (hge : r ≤ (Qf l m.length).f3 → r * (Qf l m.length).f0.f0 ≥ upN b d - tot Qa7 l m) (n : Nat) (hn : (n : Int) ≤ (Qf l m.length).f3 + 1) (x : List Int × Bool) :
  (catL (fun p => [m ++ [(p : Int)]]) n).foldl (upd l b d e) x = if r < n then updS l e x (m ++ [r]) else x := by
 generalize hsd : Qf l m.length = s at *; have hs' := hs; unfold okS at hs'; rw [decide_eq_true_iff] at hs'
 have hlo : ∀ p : Int, lo l b d (m ++ [p]) = p * s.f0.f0 - (upN b d - tot Qa7 l m) := fun p => by
  unfold lo; rw [Qbu _ _ _ _ hm, hsd]; unfold Qa7; omega
 have hst : ∀ p : Int, tot Qa6 l (m ++ [p]) = tot Qa6 l m + p * s.f2 := fun p => by rw [Qbu _ _ _ _ hm, hsd]; rfl
 have hpr : ∀ p : Int, tot Qa4 l (m ++ [p]) = tot Qa4 l m + p * s.f1 := fun p => by rw [Qbu _ _ _ _ hm, hsd]; rfl
 induction n with
 | zero => rw [if_neg (by omega)]; rfl
 | succ n ih =>
  unfold catL; rw [List.foldl_append, ih (by omega)]; simp only [List.foldl_cons, List.foldl_nil]; by_cases h1 : r < (n : Int)
  ·rw [if_pos h1, if_pos (by omega)]
   have hst' : r * s.f2 ≤ n * s.f2 := Int.mul_le_mul_of_nonneg_right (by omega) (by omega); have hpr' : r * s.f1 ≤ n * s.f1 := Int.mul_le_mul_of_nonneg_right (by omega) (by omega); unfold upd; rw [if_neg]; rintro ⟨_, h3, h4⟩; unfold updS at h4; rw [hst] at h3
   split at h4
   ·simp only at h4
    rcases h4 with h4 | h4
    ·cases h4
    ·rw [hpr, hpr] at h4; omega
   ·rename_i h5
    apply h5
    refine ⟨by rw [hst]; omega, ?_⟩
    rcases h4 with h4 | h4
    ·exact .inl h4
    ·right; rw [hpr] at h4 ⊢; omega
  ·rw [if_neg h1]
   by_cases h2 : r = (n : Int)
   ·rw [if_pos (by omega)]
    unfold upd updS; have := hge (by omega); subst h2; by_cases h3 : tot Qa6 l (m ++ [(n : Int)]) ≤ e ∧ (x.2 = false ∨ tot Qa4 l (m ++ [(n : Int)]) < tot Qa4 l x.1)
    ·rw [if_pos ⟨by rw [hlo]; omega, h3⟩, if_pos h3]
    ·rw [if_neg (fun h => h3 h.2), if_neg h3]
   ·rw [if_neg (by omega)]
    unfold upd; rw [if_neg]; rintro ⟨h3, _⟩; have := hlt n (by omega) (by omega); rw [hlo] at h3; omega
theorem Mx.snoc {l : List S100} {m : List Int} (h : Mx l m) (hm : m.length < l.length) {p : Int} (h0 : 0 ≤ p) (h1 : p ≤ 12) : Mx l (m ++ [p]) :=
 ⟨h.ok, by simp; omega, h.l4, fun x hx => by
  rcases List.mem_append.1 hx with hx | hx
  ·exact h.m12 x hx
  ·rw [List.mem_singleton.1 hx]; exact ⟨h0, h1⟩⟩
theorem Qbj {s : S100} (h : okS s = true) : 0 ≤ s.f3 ∧ s.f3 ≤ 12 := by unfold okS at h; rw [decide_eq_true_iff] at h; omega
theorem Qdq (l : List S100) (a b c d e : Int) (hc : okC a b c d e = true) : ∀ (q k : Nat) (m : List Int), m.length + q + 1 = l.length → 2000 < k → Mx l m →
  ∃ ms, Q8.l k a b c d e l q m = some ms ∧ (∀ x, ms.foldl (updS l e) x = (allA l q m).foldl (upd l b d e) x) ∧ ∀ z ∈ ms, Mx l z ∧ z.length = l.length := by
 obtain ⟨hu1, hu2, hu3⟩ := Qb1 hc; intro q
 induction q with
 | zero =>
  intro k m hl hk hm; have h4 := hm.l4; have hlt : m.length < l.length := by omega
  have hs := hm.ok l[m.length] (List.getElem_mem hlt); have hs3 := Qbj hs; have hsr : Qf l (m.length : Int) = l[m.length] := Qa5 hlt; have hs' := hs; unfold okS at hs'; rw [decide_eq_true_iff] at hs'; have g1 := Qci hu1.2.2.1 hu1.2.2.2 hu2.2.2.1 hu2.2.2.2; have g2 := Qdm hm; obtain ⟨r, s1, s2, s3, s4, s5⟩ := Qcy l[m.length].f0.f0 l[m.length].f0.f1 l[m.length].f1 l[m.length].f2 l[m.length].f3 (upN b d - tot Qa7 l m) ⟨by omega, by omega⟩ 1000 k 0 (l[m.length].f3 + 1) (by omega) (by omega) (by omega) (by omega) (by omega)
  have hsyn : Jm.f k 0 a b c d e l m = some (r, decide (r ≤ l[m.length].f3)) := by
   unfold Jm.f Qo.f; rw [if_pos (by omega), if_pos (by omega), Qcx hc, Qdk hm _ _ _ _ _ (by omega)]; simp only [Option.bind_some]; rw [hsr, w64 (x := l[m.length].f3 + 1) (by omega), w64 (x := upN b d - tot Qa7 l m) (by omega), s1]; rfl
  have hb := fun x => block l b d e m hlt (by rw [hsr]; exact hs) r s2 (by rw [hsr]; exact s4) (by rw [hsr]; exact fun h => s5 (by omega)) (l[m.length].f3 + 1).toNat (by rw [hsr]; omega) x
  unfold Q8.l; rw [if_pos (by omega), hsyn]; refine ⟨if r ≤ l[m.length].f3 then [m ++ [r]] else [], ?_, fun x => ?_, fun z hz => ?_⟩
  ·simp only [Option.bind_some, decide_eq_true_iff]
  ·unfold allA
   rw [hsr, hb x]; by_cases h : r ≤ l[m.length].f3
   ·rw [if_pos h, if_pos (by omega)]; rfl
   ·rw [if_neg h, if_neg (by omega)]; rfl
  ·by_cases h : r ≤ l[m.length].f3
   ·rw [if_pos h] at hz
    rw [List.mem_singleton.1 hz]; exact ⟨hm.snoc hlt s2 (by omega), by simp; omega⟩
   ·rw [if_neg h] at hz; cases hz
 | succ q ih =>
  intro k m hl hk hm; have h4 := hm.l4; have hlt : m.length < l.length := by omega
  have hs := hm.ok l[m.length] (List.getElem_mem hlt); have hs3 := Qbj hs; have hsr : Qf l (m.length : Int) = l[m.length] := Qa5 hlt
  have hall : ∀ p : Nat, ∃ ms, p < (l[m.length].f3 + 1).toNat → Q8.l k a b c d e l q (m ++ [(p : Int)]) = some ms ∧ (∀ x, ms.foldl (updS l e) x = (allA l q (m ++ [(p : Int)])).foldl (upd l b d e) x) ∧ ∀ z ∈ ms, Mx l z ∧ z.length = l.length := fun p => by
   by_cases hp : p < (l[m.length].f3 + 1).toNat
   ·obtain ⟨ms, h⟩ := ih k (m ++ [(p : Int)]) (by simp; omega) hk (hm.snoc hlt (by omega) (by omega))
    exact ⟨ms, fun _ => h⟩
   ·exact ⟨[], fun h => absurd h hp⟩
  obtain ⟨g, hg⟩ := Classical.axiomOfChoice hall; unfold Q8.l; rw [hsr, if_pos ⟨by omega, by omega, by omega, by omega⟩, Qcj (g := g) fun p hp => (hg p hp).1]; refine ⟨_, rfl, fun x => ?_, ?_⟩
  ·unfold allA
   rw [hsr]; exact Qb7 _ _ g _ _ x fun p hp y => (hg p hp).2.1 y
  ·have : ∀ n, n ≤ (l[m.length].f3 + 1).toNat → ∀ z ∈ catL g n, Mx l z ∧ z.length = l.length := by
    intro n
    induction n with
    | zero => intro _ z hz; cases hz
    | succ n ihn =>
     intro hn z hz; unfold catL at hz
     rcases List.mem_append.1 hz with hz | hz
     ·exact ihn (by omega) z hz
     ·exact (hg n (by omega)).2.2 z hz
   exact this _ (Nat.le_refl _)
theorem Qcq {l : List S100} {m best : List Int} {ok : Bool} (hm : Mx l m) (hb : ok = true → Mx l best) (a b c d e : Int) {k : Nat} (hk : 10 < k) : Q4.f k a b c d e l m best ok = some (updS l e (best, ok) m) := by
 have h4 := hm.l4; have hl := hm.len
 have hcl : Q5.f m = some m := by
  unfold Q5.f; simp only [Option.bind_some, List.length_nil, List.nil_append]; rw [if_pos (by omega)]
 unfold Q4.f updS; rw [Qc7 hm _ _ _ _ _ (by omega)]; simp only [Option.bind_some]; by_cases h1 : tot Qa6 l m ≤ e
 ·rw [if_pos h1]
  cases ok with
  | true =>
   have hbm := hb rfl; have hbl := hbm.len; rw [if_pos rfl, Qcf hm _ _ _ _ _ (by omega), Qcf hbm _ _ _ _ _ (by omega)]; simp only [Option.bind_some]; by_cases h2 : tot Qa4 l m < tot Qa4 l best
   ·rw [if_pos h2, hcl, if_pos ⟨h1, .inr h2⟩]; rfl
   ·rw [if_neg h2, if_neg]
    rintro ⟨_, h | h⟩
    ·cases h
    ·exact h2 h
  | false =>
   rw [if_neg (by simp), hcl, if_pos ⟨h1, .inl rfl⟩]; rfl
 ·rw [if_neg h1, if_neg (fun h => h1 h.1)]
theorem updS_Mx {l : List S100} {m : List Int} {x : List Int × Bool} {e : Int} (hm : Mx l m ∧ m.length = l.length) (hx : x.2 = true → Mx l x.1 ∧ x.1.length = l.length) : (updS l e x m).2 = true → Mx l (updS l e x m).1 ∧ (updS l e x m).1.length = l.length := by
 unfold updS
 split
 ·exact fun _ => hm
 ·exact hx
theorem Qby (l : List S100) (a b c d e : Int) {k : Nat} (hk : 10 < k) : ∀ (ms : List (List Int)) (best : List Int) (ok : Bool), (∀ z ∈ ms, Mx l z ∧ z.length = l.length) → (ok = true → Mx l best ∧ best.length = l.length) →
  Qv.l k a b c d e l ms best ok = some (ms.foldl (updS l e) (best, ok)) ∧ ((ms.foldl (updS l e) (best, ok)).2 = true → Mx l (ms.foldl (updS l e) (best, ok)).1 ∧ (ms.foldl (updS l e) (best, ok)).1.length = l.length)
 | [], best, ok, _, hb => ⟨rfl, hb⟩
 | m :: ms, best, ok, hm, hb => by
  have h1 := Qcq (hm m (by simp)).1 (fun h => (hb h).1) a b c d e hk; have h2 := updS_Mx (e := e) (x := (best, ok)) (hm m (by simp)) hb; unfold Qv.l; rw [h1]; simp only [Option.bind_some, List.foldl_cons]; exact Qby l a b c d e hk ms _ _ (fun z hz => hm z (by simp [hz])) h2
def best (l : List S100) (b d e : Int) : List Int × Bool := (allA l (l.length - 1) []).foldl (upd l b d e) ([], false)
theorem Qc1 {l : List S100} {a b c d e : Int} (hl : chk l = 0) (hc : okC a b c d e = true) {k : Nat} (hk : 2000 < k) : Qv.f k a b c d e l = some (best l b d e) ∧ ((best l b d e).2 = true → Mx l (best l b d e).1 ∧ (best l b d e).1.length = l.length) := by
 obtain ⟨h1, h2, h3⟩ := chk0 hl; obtain ⟨ms, g1, g2, g3⟩ := Qdq l a b c d e hc (l.length - 1) k [] (by simp; omega) hk ⟨h3, by simp, h2, by simp⟩; have g4 := Qby l a b c d e (k := k) (by omega) ms [] false g3 (by simp); rw [g2] at g4; unfold Qv.f; rw [if_neg (by omega), g1]; exact g4
theorem Qc2 (l : List S100) (m : List Int) (h : Mx l m) (hl : m.length = l.length) : ∀ (q k i : Nat) (s : Int), i + q = m.length → q < k → 0 ≤ s → s ≤ 12 * 500 * (i : Int) →
  Qax.l0 k l m s (i : Int) = some (s + tot Qa4 (l.drop i) (m.drop i)) := by
 have h4 := h.l4; intro q
 induction q with
 | zero =>
  intro k i s hi hk _ _; obtain ⟨k, rfl⟩ : ∃ z, k = z + 1 := ⟨k - 1, by omega⟩
  simp only [Qax.l0]; rw [if_neg (by omega), List.drop_of_length_le (l := m) (by omega)]
  simp [tot]
 | succ q ih =>
  intro k i s hi hk hs0 hs1; obtain ⟨k, rfl⟩ : ∃ z, k = z + 1 := ⟨k - 1, by omega⟩
  have h1 : i < m.length := by omega
  have h2 : i < l.length := by omega
  have hf := Qch (h.ok l[i] (List.getElem_mem h2)); have hx := h.m12 m[i] (List.getElem_mem h1); have hp := Qbb hx.1 hx.2 hf.1 hf.2; simp only [Qax.l0]; rw [if_pos (by omega), if_pos (by omega), if_pos (by omega), Qa5 h2, YT h1, Qbf h2 h1]; have e : l[i].f1 = Qa4 l[i] := rfl; rw [e, w64 (x := m[i] * Qa4 l[i]) (by omega), w64 (x := s + m[i] * Qa4 l[i]) (by omega), w64 (by omega), show ((i : Int) + 1) = ((i + 1 : Nat) : Int) by omega, ih k (i + 1) _ (by omega) (by omega) (by omega) (by omega), Int.add_assoc]
theorem Qb9 {l : List S100} {m : List Int} (h : Mx l m) (hl : m.length = l.length) {k : Nat} (hk : m.length < k) : Qax.f k l m = some (tot Qa4 l m) := by
 unfold Qax.f; have := Qc2 l m h hl m.length k 0 0 (Nat.zero_add _) hk (by omega) (by omega)
 simpa using this
abbrev mxs (l : List S100) (n : Nat) : List Int := (l.drop n).map fun s => s.f3
theorem Qce {l : List S100} {n : Nat} (h : n < l.length) : mxs l n = l[n].f3 :: mxs l (n + 1) := by
 unfold mxs; rw [List.drop_eq_getElem_cons h, List.map_cons]
theorem Qc8 (Q R : List Int) (x : Int) : rd (Q ++ x :: R) (Q.length : Int) = x := by
 rw [YT (by simp)]; simp
theorem Qcl (Q R : List Int) (x y : Int) : (Q ++ x :: R).set ((Q.length : Nat) : Int).toNat y = Q ++ y :: R := by
 rw [Int.toNat_natCast, List.set_append_right _ _ (Nat.le_refl _), Nat.sub_self, List.set_cons_zero]
theorem Qb3 (l : List S100) (hl : l.length ≤ 4) (ok : ∀ s ∈ l, okS s = true) (Q R : List Int) (x : Int) (h : (Q ++ x :: R).length = l.length) (hx : 0 ≤ x ∧ x ≤ 12) (k : Nat) :
  Qas.l0 (k + 1) l (Q ++ x :: R) (Q.length : Int) = if x + 1 ≤ (Qf l (Q.length : Int)).f3 then some (true, Q ++ (x + 1) :: R) else Qas.l0 k l (Q ++ 0 :: R) ((Q.length : Int) - 1) := by
 have hq : Q.length < l.length := by rw [← h]; simp
 simp only [Qas.l0]; rw [if_pos (by omega), if_pos (by omega), if_pos (by rw [h]; omega), Qc8, w64 (x := x + 1) (by omega), Qcl]; simp only [Option.bind_some]; rw [if_pos (by omega), Qc8]; by_cases hc : x + 1 ≤ (Qf l (Q.length : Int)).f3
 ·rw [if_pos hc, if_pos hc]
 ·rw [if_neg hc, if_neg hc, Qcl, w64 (by omega)]
theorem Qcc (l : List S100) (hl : l.length ≤ 4) (ok : ∀ s ∈ l, okS s = true) : ∀ (r : Nat) (Q : List Int) (k : Nat), Q.length + r = l.length →
  Qas.l0 (k + r) l (Q ++ mxs l Q.length) ((l.length : Int) - 1) = Qas.l0 k l (Q ++ List.replicate r 0) ((Q.length : Int) - 1) := by
 intro r
 induction r with
 | zero =>
  intro Q k h; rw [show mxs l Q.length = [] by unfold mxs; rw [List.drop_of_length_le (by omega)]; rfl, show (l.length : Int) = (Q.length : Int) by omega]; rfl
 | succ r ih =>
  intro Q k h; have hq : Q.length < l.length := by omega
  have hs := Qbj (ok l[Q.length] (List.getElem_mem hq)); rw [Qce hq]; have h1 := ih (Q ++ [l[Q.length].f3]) (k + 1) (by simp; omega); have e : (Q ++ [l[Q.length].f3]).length = Q.length + 1 := by simp
  rw [e, List.append_assoc, List.append_assoc] at h1; have h2 := Qb3 l hl ok Q (List.replicate r 0) l[Q.length].f3 (by simp; omega) (by omega) k; rw [Qa5 hq, if_neg (by omega)] at h2; rw [show k + (r + 1) = k + 1 + r by omega]; have e2 : (((Q.length + 1 : Nat) : Int) - 1) = (Q.length : Int) := by omega
  rw [e2] at h1; exact h1.trans h2
theorem next_eq (l : List S100) (hl : l.length ≤ 4) (ok : ∀ s ∈ l, okS s = true) (r : Nat) (Q : List Int) (x : Int) (h : Q.length + r + 1 = l.length) (hx : 0 ≤ x) (hx2 : x + 1 ≤ (Qf l (Q.length : Int)).f3) {k : Nat} (hk : 10 < k) :
  Qas.f k l (Q ++ x :: mxs l (Q.length + 1)) = some (true, Q ++ (x + 1) :: List.replicate r 0) := by
 have hq : Q.length < l.length := by omega
 have hs := Qbj (ok l[Q.length] (List.getElem_mem hq)); rw [Qa5 hq] at hx2; obtain ⟨k, rfl⟩ : ∃ z, k = z + 1 + r := ⟨k - 1 - r, by omega⟩
 unfold Qas.f; have h1 := Qcc l hl ok r (Q ++ [x]) (k + 1) (by simp; omega); have e : (Q ++ [x]).length = Q.length + 1 := by simp
 rw [e, List.append_assoc, List.append_assoc, show (((Q.length + 1 : Nat) : Int) - 1) = (Q.length : Int) by omega] at h1; have h2 := Qb3 l hl ok Q (List.replicate r 0) x (by simp; omega) (by omega) k; rw [Qa5 hq, if_pos hx2] at h2; rw [w64 (by omega)]; exact h1.trans h2
theorem Qdn (l : List S100) (hl : l.length ≤ 4) (ok : ∀ s ∈ l, okS s = true) {k : Nat} (hk : 10 < k) : Qas.f k l (mxs l 0) = some (false, List.replicate l.length 0) := by
 obtain ⟨k, rfl⟩ : ∃ z, k = z + 1 + l.length := ⟨k - 1 - l.length, by omega⟩
 unfold Qas.f; rw [w64 (by omega)]; have h1 := Qcc l hl ok l.length [] (k + 1) (by simp); refine h1.trans ?_; simp only [Qas.l0]; rw [if_neg (by simp)]; rfl
def goOn (k : Nat) (l : List S100) (a b c d e : Int) (x : List Int × Bool) (m : List Int) : Option (List Int × Bool) :=
 (Qas.f k l m).bind fun bt => Qaq.l0 k l x.1 x.2 bt.2 bt.1 a b c d e
theorem rc_step {l : List S100} {m : List Int} (hm : Mx l m) (hml : m.length = l.length) {a b c d e : Int} (hc : okC a b c d e = true) (x : List Int × Bool) (hx : x.2 = true → Mx l x.1 ∧ x.1.length = l.length) {k : Nat} (hk : 10 < k) :
  Qaq.l0 (k + 1) l x.1 x.2 m true a b c d e = goOn k l a b c d e (upd l b d e x m) m := by
 have h4 := hm.l4; obtain ⟨p, q⟩ := x; simp only [Qaq.l0]; rw [if_pos trivial, Qdp hm hml hc (by omega)]; simp only [Option.bind_some]; unfold goOn upd; by_cases h1 : lo l b d m ≥ 0
 ·rw [if_pos h1, Qcr hm hml (by omega)]
  simp only [Option.bind_some]; by_cases h2 : tot Qa6 l m ≤ e
  ·rw [if_pos h2]
   cases q with
   | true =>
    have hpl : p.length = l.length := (hx rfl).2; rw [if_pos rfl, Qb9 hm hml (by omega), Qb9 (hx rfl).1 (hx rfl).2 (by show p.length < k; omega)]; simp only [Option.bind_some]; by_cases h3 : tot Qa4 l m < tot Qa4 l p
    ·rw [if_pos h3, if_pos (by simp; omega), if_pos ⟨h1, h2, .inr h3⟩]; rfl
    ·rw [if_neg h3, if_neg (by
      rintro ⟨_, _, h | h⟩
      ·cases h
      ·exact h3 h)]
   | false =>
    rw [if_neg (by simp), if_pos (by simp; omega), if_pos ⟨h1, h2, .inl rfl⟩]; rfl
  ·rw [if_neg h2, if_neg (fun h => h2 h.2.1)]
 ·rw [if_neg h1, if_neg (fun h => h1 h.1)]
theorem upd_Mx {l : List S100} {m : List Int} {x : List Int × Bool} {b d e : Int} (hm : Mx l m ∧ m.length = l.length) (hx : x.2 = true → Mx l x.1 ∧ x.1.length = l.length) : (upd l b d e x m).2 = true → Mx l (upd l b d e x m).1 ∧ (upd l b d e x m).1.length = l.length := by
 unfold upd
 split
 ·exact fun _ => hm
 ·exact hx
theorem Qbn {β : Type} (g : Nat → List β) (n : Nat) : catL g (n + 1) = catL g n ++ g n := rfl
def allB (l : List S100) : Nat → List Int → List (List Int)
 | 0, m => [m]
 | r + 1, m => catL (fun p => allB l r (m ++ [(p : Int)])) ((Qf l m.length).f3 + 1).toNat
theorem Qc4 (l : List S100) (r : Nat) (m : List Int) : allB l (r + 1) m = catL (fun p => allB l r (m ++ [(p : Int)])) ((Qf l m.length).f3 + 1).toNat := rfl
theorem Qc0 (l : List S100) : ∀ (q : Nat) (m : List Int), allA l q m = allB l (q + 1) m
 | 0, m => rfl
 | q + 1, m => by
  unfold allA allB
  congr 1
  funext p
  exact Qc0 l q _
theorem Qde {l : List S100} (hl : l.length ≤ 4) (ok : ∀ s ∈ l, okS s = true) {a b c d e : Int} (hc : okC a b c d e = true) : ∀ (r : Nat) (P : List Int) (x : List Int × Bool) (k : Nat), P.length + r = l.length → Mx l P → (x.2 = true → Mx l x.1 ∧ x.1.length = l.length) → 13 ^ r + 20 < k →
  ∃ k', k ≤ k' + 13 ^ r ∧ Qaq.l0 k l x.1 x.2 (P ++ List.replicate r 0) true a b c d e = goOn k' l a b c d e ((allB l r P).foldl (upd l b d e) x) (P ++ mxs l P.length) ∧
   (((allB l r P).foldl (upd l b d e) x).2 = true → Mx l ((allB l r P).foldl (upd l b d e) x).1 ∧ ((allB l r P).foldl (upd l b d e) x).1.length = l.length) := by
 intro r
 induction r with
 | zero =>
  intro P x k h hP hx hk; obtain ⟨k, rfl⟩ : ∃ z, k = z + 1 := ⟨k - 1, by omega⟩
  have e : mxs l P.length = [] := by unfold mxs; rw [List.drop_of_length_le (by omega)]; rfl
  refine ⟨k, by simp, ?_, ?_⟩
  ·rw [e, List.replicate_zero, List.append_nil]
   exact rc_step hP (by omega) hc x hx (by omega)
  ·exact upd_Mx ⟨hP, by omega⟩ hx
 | succ r ih =>
  intro P x k h hP hx hk; have hq : P.length < l.length := by omega
  have hs := Qbj (ok l[P.length] (List.getElem_mem hq)); have e13 : 13 ^ (r + 1) = 13 * 13 ^ r := by rw [Nat.pow_succ]; omega
  rw [e13] at hk ⊢; generalize hcc : 13 ^ r = cc at *
  have fwd : ∀ j : Nat, (j : Int) ≤ l[P.length].f3 → ∃ kj, k ≤ kj + j * cc ∧ Qaq.l0 k l x.1 x.2 (P ++ List.replicate (r + 1) 0) true a b c d e = Qaq.l0 kj l ((catL (fun p => allB l r (P ++ [(p : Int)])) j).foldl (upd l b d e) x).1 ((catL (fun p => allB l r (P ++ [(p : Int)])) j).foldl (upd l b d e) x).2 (P ++ (j : Int) :: List.replicate r 0) true a b c d e ∧
    (((catL (fun p => allB l r (P ++ [(p : Int)])) j).foldl (upd l b d e) x).2 = true → Mx l ((catL (fun p => allB l r (P ++ [(p : Int)])) j).foldl (upd l b d e) x).1 ∧ ((catL (fun p => allB l r (P ++ [(p : Int)])) j).foldl (upd l b d e) x).1.length = l.length) := by
   intro j
   induction j with
   | zero => exact fun _ => ⟨k, by omega, rfl, hx⟩
   | succ j ihj =>
    intro hj; obtain ⟨kj, g1, g2, g3⟩ := ihj (by omega); have hj12 : j * cc ≤ 11 * cc := Nat.mul_le_mul_right _ (by omega); obtain ⟨k', f1, f2, f3⟩ := ih (P ++ [(j : Int)]) _ kj (by simp; omega) (hP.snoc hq (by omega) (by omega)) g3 (by omega); refine ⟨k', ?_, ?_, ?_⟩
    ·rw [Nat.add_mul]; omega
    ·rw [List.append_assoc] at f2
     have f2' := f2; rw [show [(j : Int)] ++ List.replicate r 0 = (j : Int) :: List.replicate r 0 from rfl] at f2'; rw [g2, f2']; unfold goOn; have e1 : (P ++ [(j : Int)]).length = P.length + 1 := by simp
     rw [e1, List.append_assoc]; have := next_eq l hl ok r P (j : Int) (by omega) (by omega) (by rw [Qa5 hq]; omega) (k := k') (by omega); rw [show [(j : Int)] ++ mxs l (P.length + 1) = (j : Int) :: mxs l (P.length + 1) from rfl, this]; simp only [Option.bind_some]; rw [Qbn, List.foldl_append]; rfl
    ·rw [Qbn, List.foldl_append]
     exact f3
  obtain ⟨f, hf⟩ : ∃ f : Nat, l[P.length].f3 = (f : Int) := ⟨l[P.length].f3.toNat, by omega⟩
  obtain ⟨kj, g1, g2, g3⟩ := fwd f (by omega); have hj12 : f * cc ≤ 12 * cc := Nat.mul_le_mul_right _ (by omega); obtain ⟨k', f1, f2, f3⟩ := ih (P ++ [(f : Int)]) _ kj (by simp; omega) (hP.snoc hq (by omega) (by omega)) g3 (by omega)
  have e2 : (allB l (r + 1) P).foldl (upd l b d e) x = (allB l r (P ++ [(f : Int)])).foldl (upd l b d e) ((catL (fun p => allB l r (P ++ [(p : Int)])) f).foldl (upd l b d e) x) := by
   rw [Qc4, Qa5 hq, hf, show ((f : Int) + 1).toNat = f + 1 by omega, Qbn, List.foldl_append]
  refine ⟨k', by omega, ?_, ?_⟩
  ·rw [g2, e2, Qce hq, hf]
   rw [List.append_assoc, show (P ++ [(f : Int)]).length = P.length + 1 by simp, List.append_assoc] at f2; exact f2
  ·rw [e2]; exact f3
theorem Qcz {l : List S100} (hl : chk l = 0) {a b c d e : Int} (hc : okC a b c d e = true) {k : Nat} (hk : 30000 < k) : Qaq.f k l a b c d e = some (best l b d e) := by
 obtain ⟨h1, h2, h3⟩ := chk0 hl; have hp : 13 ^ l.length ≤ 13 ^ 4 := Nat.pow_le_pow_right (by omega) h2; have e4 : 13 ^ 4 = 28561 := by decide
 obtain ⟨k', g1, g2, g3⟩ := Qde h2 h3 hc l.length [] ([], false) k (by simp) ⟨h3, by simp, h2, by simp⟩ (by simp) (by omega); unfold Qaq.f; rw [if_pos (by omega), if_pos (by omega), Int.toNat_natCast]; refine g2.trans ?_; unfold goOn; rw [show [] ++ mxs l ([] : List Int).length = mxs l 0 from rfl, Qdn l h2 h3 (by omega)]; simp only [Option.bind_some]; obtain ⟨k', rfl⟩ : ∃ z, k' = z + 1 := ⟨k' - 1, by omega⟩
 simp only [Qaq.l0]; rw [if_neg (by simp)]; have e5 : allA l (l.length - 1) [] = allB l l.length [] := by rw [Qc0, show l.length - 1 + 1 = l.length by omega]
 unfold best; rw [e5]
theorem Qdj (l : List S100) (h : l.length ≤ 100) : ∀ (q k i : Nat), i + q = l.length → q < k → ∃ b, Qat.l0 k l (i : Int) = some b := by
 intro q
 induction q with
 | zero =>
  intro k i hi hk; obtain ⟨k, rfl⟩ : ∃ z, k = z + 1 := ⟨k - 1, by omega⟩
  refine ⟨true, ?_⟩; simp only [Qat.l0]; rw [if_neg (by omega)]
 | succ q ih =>
  intro k i hi hk; obtain ⟨k, rfl⟩ : ∃ z, k = z + 1 := ⟨k - 1, by omega⟩
  simp only [Qat.l0]; rw [if_pos (by omega), if_pos (by omega)]; by_cases hc : (Qf l (i : Int)).f3 > 4
  ·exact ⟨false, by rw [if_pos hc]⟩
  ·rw [if_neg hc, w64 (by omega)]
   exact ih k (i + 1) (by omega) (by omega)
theorem Qcm (l : List S100) (h : l.length ≤ 100) {k : Nat} (hk : 200 < k) : ∃ b, Qat.f k l = some b := by
 obtain ⟨k, rfl⟩ : ∃ z, k = z + 1 := ⟨k - 1, by omega⟩
 unfold Qat.f; by_cases h3 : (l.length : Int) < 3
 ·refine ⟨true, ?_⟩
  rw [if_pos h3]; simp only [Qat.j0]; rw [if_pos trivial]
 ·rw [if_neg h3, Qb6 l (by omega)]
  simp only [Option.bind_some, Qat.j0]; by_cases hc : (chk l != 0) = true
  ·exact ⟨true, by rw [if_pos hc]⟩
  ·rw [if_neg hc]
   exact Qdj l h l.length k 0 (Nat.zero_add _) (by omega)
end Go.Proofs.YtjaapkkpmegkfaaGreat.P
