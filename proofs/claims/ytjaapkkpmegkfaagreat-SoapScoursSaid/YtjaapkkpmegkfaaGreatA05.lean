/- Part 5 of what the law's proof needs beyond its base: words, walks of functions and plain facts. -/
import Derived.Below
import Derived.Deep.Draws
import Derived.Deep.AppendLies
import Derived.Maps.AppendAt
import Derived.OwnWalk
import Derived.Laws.BytesArg
import Derived.Laws.MakeOwn
import Derived.Laws.OwnMore
import Derived.Deep.OwnRows
import Derived.Tactics
import Derived.Lib.ConvBytes
import Derived.Laws.Slices
import Derived.WalkKit
import Derived.KernelRfl
import Derived.RowKit3
import Derived.Deep.LoopGhost
import Derived.Deep.QuietTactic
import Derived.BigQuiet
import Derived.WideLaws
import Derived.Deep.DeepCutAuto
import Derived.Deep.CutBlock
import Derived.Deep.RegionHeld3
import Derived.Laws.Rows
import Derived.Lib.AppendStr
import Derived.ArgAppend
import Derived.Laws.IdiomCopy
import Derived.RowKit
import Derived.Deep.Slices
import Derived.OpenShut
import Derived.ChangeArms
import Derived.Test.YtjaapkkpmegkfaaGreatM01
import Derived.Test.YtjaapkkpmegkfaaGreatM02
import Derived.Test.YtjaapkkpmegkfaaGreatM03
import Derived.Test.YtjaapkkpmegkfaaGreatM04
import Derived.Test.YtjaapkkpmegkfaaGreatM05
import Derived.Test.YtjaapkkpmegkfaaGreatM06
import Derived.Test.YtjaapkkpmegkfaaGreatM07
import Derived.Test.YtjaapkkpmegkfaaGreatM08
import Derived.Test.YtjaapkkpmegkfaaGreatM09
import Derived.Test.YtjaapkkpmegkfaaGreatM10
import Derived.Test.YtjaapkkpmegkfaaGreatM11
import Derived.Test.YtjaapkkpmegkfaaGreatM12
import Derived.Test.YtjaapkkpmegkfaaGreatM13
import Derived.Test.YtjaapkkpmegkfaaGreatA01
import Derived.Test.YtjaapkkpmegkfaaGreatA02
import Derived.Test.YtjaapkkpmegkfaaGreatA03
import Derived.Test.YtjaapkkpmegkfaaGreatA04
set_option linter.unusedVariables false
set_option linter.unusedSimpArgs false
namespace Go.Proofs.YtjaapkkpmegkfaaGreat.P
open Go.RowKit Go.Shelf Go.Proofs.YtjaapkkpmegkfaaGreatW.PrintWords Go.Proofs.YtjaapkkpmegkfaaGreatW.PrintLast Go.Proofs.YtjaapkkpmegkfaaGreatW.PrintMore
theorem rmix_at (l : List S100) (m : List Int) (hl : m.length = l.length) (h4 : l.length ≤ 100) : ∀ (q k i : Nat), i + q = m.length → q < k →
  Qav.l0 k l m (i : Int) = some (((l.zip m).drop i).all fun x => decide (0 ≤ x.2 ∧ x.2 ≤ x.1.f3)) := by
 intro q
 induction q with
 | zero =>
  intro k i hi hk
  obtain ⟨k, rfl⟩ : ∃ z, k = z + 1 := ⟨k - 1, by omega⟩
  simp only [Qav.l0]
  rw [if_neg (by omega), List.drop_of_length_le (by simp; omega)]
  simp
 | succ q ih =>
  intro k i hi hk
  obtain ⟨k, rfl⟩ : ∃ z, k = z + 1 := ⟨k - 1, by omega⟩
  have h1 : i < m.length := by omega
  have h2 : i < l.length := by omega
  have hz : i < (l.zip m).length := by simp; omega
  simp only [Qav.l0]
  rw [if_pos (by omega), if_pos (by omega), if_pos (by omega), Qa7 h2, YT h1, In_eq, w64 (by omega), show ((i : Int) + 1) = ((i + 1 : Nat) : Int) by omega, ih k (i + 1) (by omega) (by omega), List.drop_eq_getElem_cons hz, List.all_cons, List.getElem_zip]
  simp only [Option.bind_some]
  by_cases h : 0 ≤ m[i] ∧ m[i] ≤ l[i].f3
  ·rw [if_pos (by simpa using h), decide_eq_true h, Bool.true_and]
  ·rw [if_neg (by simpa using h), decide_eq_false h, Bool.false_and]
theorem rmix_eq {l : List S100} (h4 : l.length ≤ 100) (m : List Int) {k : Nat} (hk : l.length < k) : Qav.f k l m = some (fit l m) := by
 unfold Qav.f fit
 by_cases h : m.length = l.length
 ·rw [if_pos (by omega), decide_eq_true h, Bool.true_and]
  exact rmix_at l m h h4 m.length k 0 (Nat.zero_add _) (by omega)
 ·rw [if_neg (by omega), decide_eq_false h, Bool.false_and]
theorem ints_eq (l : List Int) (h : l.length ≤ 100) : Qa2.f l = some l := by
 unfold Qa2.f
 simp only [Option.bind_some, List.length_nil, List.nil_append]
 rw [if_pos (by omega)]
theorem Qbo (l : List S100) (a b c d e : Int) (m : List Int) (hm : m.length ≤ 20) {k : Nat} (hk : 100 < k) : Qan.j4 (k + 1) l m (if opnM l a b c d e m = 0 then (decide (lo l b d m ≥ 0), decide (hi l a c m ≥ 0), decide (tot Qaz l m > e), (0 : Int)) else (false, false, false, opnM l a b c d e m)).1 (if opnM l a b c d e m = 0 then (decide (lo l b d m ≥ 0), decide (hi l a c m ≥ 0), decide (tot Qaz l m > e), (0 : Int)) else (false, false, false, opnM l a b c d e m)).2.1 (if opnM l a b c d e m = 0 then (decide (lo l b d m ≥ 0), decide (hi l a c m ≥ 0), decide (tot Qaz l m > e), (0 : Int)) else (false, false, false, opnM l a b c d e m)).2.2.1 (if opnM l a b c d e m = 0 then (decide (lo l b d m ≥ 0), decide (hi l a c m ≥ 0), decide (tot Qaz l m > e), (0 : Int)) else (false, false, false, opnM l a b c d e m)).2.2.2 (if opnM l a b c d e m = 0 then (lo l b d m, hi l a c m, (0 : Int)) else (0, 0, opnM l a b c d e m)).2.2 (opnM l a b c d e m) a b c d e (if opnM l a b c d e m = 0 then (lo l b d m, hi l a c m, (0 : Int)) else (0, 0, opnM l a b c d e m)).1 (if opnM l a b c d e m = 0 then (lo l b d m, hi l a c m, (0 : Int)) else (0, 0, opnM l a b c d e m)).2.1 = some true := by
 simp only [Qan.j4]
 by_cases h : opnM l a b c d e m = 0
 ·obtain ⟨h1, h2⟩ := Qbt h
  have hf := (opnM0 h).2
  unfold fit at hf
  rw [Bool.and_eq_true, decide_eq_true_iff] at hf
  simp only [if_pos h]
  rw [Qb9 h1 hf.1 h2 (by omega)]
  simp only [Option.bind_some]
  rw [if_pos trivial, if_pos trivial, if_pos (by simp), if_pos (by simp), if_pos (by simp), Qbv h1 hf.1 (by omega)]
  simp only [Option.bind_some]
  rw [if_pos (by simp), Qd.at (by omega)]; rfl
 ·simp only [if_neg h]
  rw [if_pos trivial, if_pos trivial, if_neg (by simp), if_neg (by simp), if_neg (by simp), if_pos (by rfl), Qd.at (by omega)]; rfl
theorem Qbm (l : List S100) (a b c d e : Int) (m : List Int) : ∃ k, Qan.f k l a b c d e m = some true := by
 refine ⟨900 + 1 + 1 + 1 + 1 + 1, ?_⟩
 have hk0 : Qan.j0 (900 + 1 + 1 + 1 + 1 + 1) l m true a b c d e = some true := by
  simp only [Qan.j0]
  rw [if_pos trivial, Qd.at (by omega)]; rfl
 unfold Qan.f
 by_cases h1 : (l.length : Int) > 20
 ·rw [if_pos h1, hk0]
 rw [if_neg h1]
 by_cases h2 : (m.length : Int) > 20
 ·rw [decide_eq_true h2, hk0]
 rw [decide_eq_false h2]
 have hj2 : ∀ (u v w : Bool) (x y p q : Int), Qan.j2 (900 + 1 + 1 + 1) l m u v w x y false a b c d e p q = Qan.j4 (900 + 1) l m u v w x y (opnM l a b c d e m) a b c d e p q := by
  intro u v w x y p q
  simp only [Qan.j2]
  rw [if_neg (by simp), Qb6 _ _ _ _ _ _ (by omega)]
  simp only [Option.bind_some]
  by_cases h : opn l a b c d e = 0
  ·rw [if_pos h, rmix_eq (by omega) m (by omega)]
   simp only [Option.bind_some]
   simp only [Qan.j3]
   unfold opnM
   rw [if_pos h, h]
   cases fit l m <;> rfl
  ·rw [if_neg h]
   simp only [Qan.j3]
   unfold opnM
   rw [if_neg (by simp), if_neg h]
 simp only [Qan.j0]
 rw [if_neg (by simp), Qb7 l (by omega), ints_eq m (by omega)]
 simp only [Option.bind_some]
 rw [Qbu, Qbz, Qb2 _ _ _ _ _ _ _ (by omega), over_eq _ _ _ _ _ _ _ (by omega), same_eq l (by omega) (by omega), like_eq m m (by omega) (by omega)]
 simp only [Option.bind_some, decide_true, if_true]
 rw [Qbq l (by omega)]
 simp only [Option.bind_some]
 simp only [Qan.j1]
 rw [if_neg (by simp), Qbp]
 simp only [Option.bind_some]
 by_cases hc : okC a b c d e = true
 ·simp only [if_pos hc]
  rw [if_pos trivial, Qbi hc]
  simp only [Option.bind_some]
  rw [if_neg (by simp), hj2]
  exact Qbo l a b c d e m (by omega) (by omega)
 ·simp only [if_neg hc]
  rw [if_pos trivial, show (!((0 : Int) == 0) || !((0 : Int) == 0)) = false from rfl, hj2]
  exact Qbo l a b c d e m (by omega) (by omega)
end Go.Proofs.YtjaapkkpmegkfaaGreat.P
namespace Go.Proofs.YtjaapkkpmegkfaaGreat.P
open Go.RowKit Go.ChangeShapes Go.WideShapes Go.Deep Go.Proofs.YtjaapkkpmegkfaaGreatW.PrintWords Go.Proofs.YtjaapkkpmegkfaaGreatW.PrintLast Go.Proofs.YtjaapkkpmegkfaaGreatW.PrintMore
structure Qa0 {α : Type} (P : Program) (d : Kd α) (t : TypeId) (B : α → Prop) : Prop where
 sz : P.cellsOf t = d.sz
 op : ∀ (H : Type) (enc : TypeId × Value → H) (w : World) (base : Nat) (spare : Nat → Bool) (held : Bool) (n : Nat) (cs : List Value) (x : DataW H × List MemPlace), DataW.trod enc P w base spare held n t cs = some x → ∃ p, d.K w p cs ∧ B p
theorem Qa0.int {P : Program} {t : TypeId} {k : IntKind} (ht : P.underlying t = some (.int k)) (hc : P.cellsOf t = 1) : Qa0 P (Kd.int k) t (fun n => (Lit.int k n).wf = true) :=
 ⟨hc, fun H enc w base spare held n cs x h => by
  obtain ⟨m, rfl, _, hw⟩ := DataW.trod_int ht h
  exact ⟨m, rfl, hw⟩⟩
theorem Qbc {α : Type} {Q : Nat → α → Prop} : ∀ (n : Nat), (∀ i, i < n → ∃ p, Q i p) → ∃ l : List α, l.length = n ∧ ∀ i p, l[i]? = some p → Q i p
 | 0, _ => ⟨[], rfl, fun i p h => by simp at h⟩
 | n + 1, h => by
  obtain ⟨l, hl, hq⟩ := Qbc n (fun i hi => h i (by omega))
  obtain ⟨p, hp⟩ := h n (by omega)
  refine ⟨l ++ [p], by simp [hl], fun i q hi => ?_⟩
  rcases Nat.lt_or_ge i l.length with h1 | h1
  ·rw [List.getElem?_append_left h1] at hi
   exact hq i q hi
  ·have : i = n := by
    have := (List.getElem?_eq_some_iff.1 hi).1
    simp at this
    omega
   subst this
   rw [List.getElem?_append_right h1, hl, Nat.sub_self] at hi
   obtain rfl : p = q := by simpa using hi
   exact hp
theorem Qa0.slice {α : Type} {P : Program} {d : Kd α} {t e : TypeId} {B : α → Prop} (h : Qa0 P d e B) (ht : P.underlying t = some (.slice e)) (hc : P.cellsOf t = 1) : Qa0 P (Kd.slice e d) t (fun l => ∀ x ∈ l, B x) :=
 ⟨hc, fun H enc w base spare held n cs x hx => by
  rcases open_slice ht hx with ⟨rfl, _⟩ | ⟨a, len, cap, m, n', D, Pl, rfl, hb, hl, hm, hmm, _, hi⟩
  ·exact ⟨[], ⟨none, 0, rfl, Nat.le_refl _, Kd.C_nil _ _⟩, fun x hx => by cases hx⟩
  ·obtain ⟨l, hll, hq⟩ := Qbc (Q := fun i p => (∃ cs', d.K w p cs' ∧ ∀ j, j < d.sz → w.cell? (a.add (i * d.sz + j)) = cs'[j]?) ∧ B p) len (fun i hi' => by
    obtain ⟨cs', hcs, htr⟩ := hi i (by rw [hmm]; split <;> omega)
    obtain ⟨p, hk, hp⟩ := h.op H enc w base spare held n' cs' _ htr
    obtain ⟨_, hcl, hat⟩ := World.cells?_some hcs
    rw [h.sz] at hat
    exact ⟨p, ⟨cs', hk, fun j hj => by
     have := hat j hj
     rw [Go.Deep.add_add] at this
     exact this⟩, hp⟩)
   refine ⟨l, ⟨some a, cap, by rw [hll], by rw [hll]; exact hl, ⟨rfl, by rw [hll]; simp only [maxLen] at hm; omega, fun h0 => ⟨a, rfl, fun j p hj => ?_⟩⟩⟩, fun x hx => ?_⟩
   ·obtain ⟨⟨cs', hk, hat⟩, _⟩ := hq j p hj
    refine ⟨cs', d.K_len hk, hk, fun i u hu => ?_⟩
    have hi' : i < d.sz := by have := (List.getElem?_eq_some_iff.1 hu).1; rw [d.K_len hk] at this; exact this
    rw [hat i hi', hu]
   ·obtain ⟨i, hi'⟩ := List.getElem?_of_mem hx
    exact (hq i x hi').2⟩
def Qax {α : Type} (P : Program) (fs : Array Field) (j off : Nat) (d : Kd α) (B : α → Prop) : Prop :=
 ∀ (H : Type) (enc : TypeId × Value → H) (w : World) (base : Nat) (spare : Nat → Bool) (held : Bool) (n : Nat) (cs : List Value) (xs : List (DataW H × List MemPlace)), xs.length = fs.size →
  (∀ (i : Nat) (f : Field), fs[i]? = some f → DataW.trod enc P w base spare held n f.type ((cs.drop f.offset).take (P.cellsOf f.type)) = xs[i]?) → ∃ p, d.K w p ((cs.drop off).take d.sz) ∧ B p
theorem Qax.one {α : Type} {P : Program} {fs : Array Field} {j off : Nat} {d : Kd α} {B : α → Prop} (f : Field) (hf : fs[j]? = some f) (ho : f.offset = off) (h : Qa0 P d f.type B) : Qax P fs j off d B := by
 intro H enc w base spare held n cs xs hl hx
 have h1 := hx j f hf
 have hj : j < xs.length := by rw [hl]; exact (Array.getElem?_eq_some_iff.1 hf).1
 rw [List.getElem?_eq_getElem hj, ho, h.sz] at h1
 exact h.op H enc w base spare held n _ _ h1
theorem Qax.cons {α β : Type} {P : Program} {fs : Array Field} {j off : Nat} {d : Kd α} {d' : Kd β} {B : α → Prop} {B' : β → Prop} (h : Qax P fs j off d B) (h' : Qax P fs (j + 1) (off + d.sz) d' B') : Qax P fs j off (Kd.pair d d') (fun p => B p.1 ∧ B' p.2) := by
 intro H enc w base spare held n cs xs hl hx
 obtain ⟨p, h1, h2⟩ := h H enc w base spare held n cs xs hl hx
 obtain ⟨q, h3, h4⟩ := h' H enc w base spare held n cs xs hl hx
 refine ⟨(p, q), ⟨_, _, ?_, h1, h3⟩, h2, h4⟩
 show (cs.drop off).take (d.sz + d'.sz) = _
 rw [List.take_add, List.drop_drop]
theorem Qax.iso {α β : Type} {P : Program} {fs : Array Field} {j off : Nat} {d : Kd α} {B : α → Prop} (h : Qax P fs j off d B) (f : β → α) (g : α → β) (hg : ∀ a, f (g a) = a) : Qax P fs j off (Kd.iso d f) (fun y => B (f y)) := by
 intro H enc w base spare held n cs xs hl hx
 obtain ⟨p, h1, h2⟩ := h H enc w base spare held n cs xs hl hx
 exact ⟨g p, by show d.K w (f (g p)) _; rw [hg]; exact h1, by show B (f (g p)); rw [hg]; exact h2⟩
theorem Qa0.struct {α : Type} {P : Program} {fs : Array Field} {d : Kd α} {t : TypeId} {B : α → Prop} (h : Qax P fs 0 0 d B) (ht : P.underlying t = some (.struct fs)) (hc : P.cellsOf t = d.sz) : Qa0 P d t B :=
 ⟨hc, fun H enc w base spare held n cs x hx => by
  obtain ⟨xs, n', _, _, hcl, hl, hf⟩ := DataW.trod_struct ht hx
  obtain ⟨p, h1, h2⟩ := h H enc w base spare held n' cs xs hl hf
  refine ⟨p, ?_, h2⟩
  rw [List.drop_zero, List.take_of_length_le (by rw [hcl, hc]; exact Nat.le_refl _)] at h1
  exact h1⟩
theorem Qa0.arg_slice {α : Type} {P : Program} {d : Kd α} {t e : TypeId} {B : List α → Prop} (h : Qa0 P (Kd.slice e d) t B) {H : Type} {enc : TypeId × Value → H} {w : World} {base : Nat} {spare : Nat → Bool} {held : Bool} {v : Value} {x : DataW H} {ps : List MemPlace} {a : Option Addr} {len cap : Nat} (hv : v = .slice a len cap) (hx : DataW.Trod enc P w base spare held t v x ps) :
  ∃ l : List α, len = l.length ∧ l.length ≤ cap ∧ Kd.C d w a l.length l ∧ B l := by
 obtain ⟨n, hn⟩ := hx
 subst hv
 obtain ⟨l, ⟨A, c, he, hl, hr⟩, hb⟩ := h.op H enc w base spare held n _ _ hn
 have he' : Value.slice a len cap = .slice A l.length c := by simpa [Value.cells] using he
 cases he'
 exact ⟨l, rfl, hl, hr, hb⟩
theorem Qa0.arg {α : Type} {P : Program} {d : Kd α} {t : TypeId} {B : α → Prop} (h : Qa0 P d t B) {H : Type} {enc : TypeId × Value → H} {w : World} {base : Nat} {spare : Nat → Bool} {held : Bool} {v : Value} {x : DataW H} {ps : List MemPlace} (hx : DataW.Trod enc P w base spare held t v x ps) :
  ∃ p : α, d.K w p v.cells.toList ∧ B p := by
 obtain ⟨n, hn⟩ := hx
 exact h.op H enc w base spare held n _ _ hn
theorem Qby {v : Value} {l : List Value} (h : v.cells.toList = l) (hl : 2 ≤ l.length) : v = .agg l.toArray := by
 cases v with
 | agg x => simp only [Value.cells] at h; rw [← h]
 | _ => simp only [Value.cells] at h; subst h; simp at hl
end Go.Proofs.YtjaapkkpmegkfaaGreat.P
namespace Go.Proofs.YtjaapkkpmegkfaaGreat.P
open Go.RowKit Go.Proofs.YtjaapkkpmegkfaaGreatW.PrintWords
def IsK (k : IntKind) (n : Int) : Prop := (Lit.int k n).wf = true
theorem Qba : Qa0 Tryz.prog (Kd.int .i64) 3 (IsK .i64) := Qa0.int Tryz.underlying3 (by kernel_rfl)
def B24 (x : S24) : Prop := (IsK .i64) x.f0 ∧ (IsK .i64) x.f1
theorem O24 : Qa0 Tryz.prog k24 24 B24 := by
 refine Qa0.struct ?_ Tryz.underlying24 (by kernel_rfl)
 refine Qax.iso (d := (Kd.pair (Kd.int .i64) (Kd.int .i64))) (B := fun p => (IsK .i64) p.1 ∧ (IsK .i64) p.2) ?_ (fun x : S24 => (x.f0, x.f1)) (fun p => ⟨p.1, p.2⟩) (fun _ => rfl)
 refine Qax.cons (B := IsK .i64) (B' := fun p : Int => (IsK .i64) p) ?_ ?_
 ·exact Qax.one _ rfl rfl Qba
 exact Qax.one _ rfl rfl Qba
def B26 (x : S26) : Prop := (B24) x.f0 ∧ (B24) x.f1 ∧ (IsK .i64) x.f2
theorem O26 : Qa0 Tryz.prog k26 26 B26 := by
 refine Qa0.struct ?_ Tryz.underlying26 (by kernel_rfl)
 refine Qax.iso (d := (Kd.pair k24 (Kd.pair k24 (Kd.int .i64)))) (B := fun p => (B24) p.1 ∧ (B24) p.2.1 ∧ (IsK .i64) p.2.2) ?_ (fun x : S26 => (x.f0, x.f1, x.f2)) (fun p => ⟨p.1, p.2.1, p.2.2⟩) (fun _ => rfl)
 refine Qax.cons (B := B24) (B' := fun p : S24 × Int => (B24) p.1 ∧ (IsK .i64) p.2) ?_ ?_
 ·exact Qax.one _ rfl rfl O24
 refine Qax.cons (B := B24) (B' := fun p : Int => (IsK .i64) p) ?_ ?_
 ·exact Qax.one _ rfl rfl O24
 exact Qax.one _ rfl rfl Qba
def B100 (x : S100) : Prop := (B24) x.f0 ∧ (IsK .i64) x.f1 ∧ (IsK .i64) x.f2 ∧ (IsK .i64) x.f3
theorem O100 : Qa0 Tryz.prog k100 100 B100 := by
 refine Qa0.struct ?_ Tryz.underlying100 (by kernel_rfl)
 refine Qax.iso (d := (Kd.pair k24 (Kd.pair (Kd.int .i64) (Kd.pair (Kd.int .i64) (Kd.int .i64))))) (B := fun p => (B24) p.1 ∧ (IsK .i64) p.2.1 ∧ (IsK .i64) p.2.2.1 ∧ (IsK .i64) p.2.2.2) ?_ (fun x : S100 => (x.f0, x.f1, x.f2, x.f3)) (fun p => ⟨p.1, p.2.1, p.2.2.1, p.2.2.2⟩) (fun _ => rfl)
 refine Qax.cons (B := B24) (B' := fun p : Int × Int × Int => (IsK .i64) p.1 ∧ (IsK .i64) p.2.1 ∧ (IsK .i64) p.2.2) ?_ ?_
 ·exact Qax.one _ rfl rfl O24
 refine Qax.cons (B := IsK .i64) (B' := fun p : Int × Int => (IsK .i64) p.1 ∧ (IsK .i64) p.2) ?_ ?_
 ·exact Qax.one _ rfl rfl Qba
 refine Qax.cons (B := IsK .i64) (B' := fun p : Int => (IsK .i64) p) ?_ ?_
 ·exact Qax.one _ rfl rfl Qba
 exact Qax.one _ rfl rfl Qba
end Go.Proofs.YtjaapkkpmegkfaaGreat.P
