/- Part 9 of what the law's proof needs beyond its base: words, walks of functions and plain facts. -/
import Derived.Below
import Derived.Deep.Draws
import Derived.Deep.AppendLies
import Derived.Maps.AppendAt
import Derived.OwnWalk
import Derived.Laws.BytesArg
import Derived.Laws.MakeOwn
import Derived.Laws.OwnMore
import Derived.Deep.OwnRows
import Derived.Tactics
import Derived.Lib.ConvBytes
import Derived.Laws.Slices
import Derived.WalkKit
import Derived.KernelRfl
import Derived.RowKit3
import Derived.Deep.LoopGhost
import Derived.Deep.QuietTactic
import Derived.BigQuiet
import Derived.WideLaws
import Derived.Deep.DeepCutAuto
import Derived.Deep.CutBlock
import Derived.Deep.RegionHeld3
import Derived.Laws.Rows
import Derived.Lib.AppendStr
import Derived.ArgAppend
import Derived.Laws.IdiomCopy
import Derived.RowKit
import Derived.OrdersHeld
import Derived.Laws.BitsLemmas
import Derived.Deep.Slices
import Derived.OpenShut
import Derived.ChangeArms
import Derived.Test.YtjaapkkpmegkfaaGreatR01
import Derived.Test.YtjaapkkpmegkfaaGreatR02
import Derived.Test.YtjaapkkpmegkfaaGreatR03
import Derived.Test.YtjaapkkpmegkfaaGreatR04
import Derived.Test.YtjaapkkpmegkfaaGreatR05
import Derived.Test.YtjaapkkpmegkfaaGreatR06
import Derived.Test.YtjaapkkpmegkfaaGreatR07
import Derived.Test.YtjaapkkpmegkfaaGreatR08
import Derived.Test.YtjaapkkpmegkfaaGreatR09
import Derived.Test.YtjaapkkpmegkfaaGreatR10
import Derived.Test.YtjaapkkpmegkfaaGreatR11
import Derived.Test.YtjaapkkpmegkfaaGreatR12
import Derived.Test.YtjaapkkpmegkfaaGreatR13
import Derived.Test.YtjaapkkpmegkfaaGreatC01
import Derived.Test.YtjaapkkpmegkfaaGreatC02
import Derived.Test.YtjaapkkpmegkfaaGreatC03
import Derived.Test.YtjaapkkpmegkfaaGreatC04
import Derived.Test.YtjaapkkpmegkfaaGreatC05
import Derived.Test.YtjaapkkpmegkfaaGreatC06
import Derived.Test.YtjaapkkpmegkfaaGreatC07
import Derived.Test.YtjaapkkpmegkfaaGreatC08
set_option linter.unusedVariables false
set_option linter.unusedSimpArgs false
namespace Go.Proofs.YtjaapkkpmegkfaaGreat.P
open Go.RowKit Go.Shelf Go.Proofs.YtjaapkkpmegkfaaGreatW.PrintWords Go.Proofs.YtjaapkkpmegkfaaGreatW.PrintLast Go.Proofs.YtjaapkkpmegkfaaGreatW.PrintMore
def Qbe (w : Int) (cs : List S26) : Int := if w = 0 then cond (cs.all okK) 0 3 else w
theorem Qcv (l : List S100) (cs : List S26) (h : cs.length ≤ 100) (ms : List (List Int)) (e : Int) : ∀ (q k i : Nat) (w : Int), i + q = cs.length → q < k → ∃ k', k ≤ k' + q ∧
  Qao.l0 k l cs cs ms e w (i : Int) = Qao.l0 k' l cs cs ms e (Qbe w (cs.drop i)) (cs.length : Int) := by
 intro q
 induction q with
 | zero =>
  intro k i w hi hk; refine ⟨k, by omega, ?_⟩; rw [List.drop_of_length_le (by omega), show (i : Int) = (cs.length : Int) by omega]; unfold Qbe; by_cases hw : w = 0
  ·rw [if_pos hw, hw]; rfl
  ·rw [if_neg hw]
 | succ q ih =>
  intro k i w hi hk; obtain ⟨k, rfl⟩ : ∃ z, k = z + 1 := ⟨k - 1, by omega⟩
  have hlt : i < cs.length := by omega
  have hstep : ∀ w', Qbe w' (cs.drop (i + 1)) = Qbe w (cs.drop i) → Qao.l0 (k + 1) l cs cs ms e w (i : Int) = Qao.l0 k l cs cs ms e w' ((i + 1 : Nat) : Int) → ∃ k', k + 1 ≤ k' + (q + 1) ∧ Qao.l0 (k + 1) l cs cs ms e w (i : Int) = Qao.l0 k' l cs cs ms e (Qbe w (cs.drop i)) (cs.length : Int) := by
   intro w' h1 h2; obtain ⟨k', g1, g2⟩ := ih k (i + 1) w' (by omega) (by omega); exact ⟨k', by omega, by rw [h2, g2, h1]⟩
  have hw : wrap64 ((i : Int) + 1) = ((i + 1 : Nat) : Int) := by rw [w64 (by omega)]; omega
  have hd : (cs.drop i).all okK = (okK cs[i] && (cs.drop (i + 1)).all okK) := by rw [List.drop_eq_getElem_cons hlt, List.all_cons]
  by_cases h0 : w = 0
  ·by_cases hc : okK cs[i] = true
   ·refine hstep w ?_ ?_
    ·unfold Qbe; rw [hd, hc, Bool.true_and]
    ·simp only [Qao.l0]
     rw [if_pos (by omega), if_pos (by omega), if_pos (by omega), if_neg (by simp), if_pos h0, Qb8, Qbo hlt, hw]; simp only [Option.bind_some]; exact if_pos hc
   ·refine hstep 3 ?_ ?_
    ·unfold Qbe; rw [hd, if_pos h0]
     rw [show okK cs[i] = false from by simpa using hc]; rfl
    ·simp only [Qao.l0]
     rw [if_pos (by omega), if_pos (by omega), if_pos (by omega), if_neg (by simp), if_pos h0, Qb8, Qbo hlt, hw]; simp only [Option.bind_some]; exact if_neg hc
  ·refine hstep w ?_ ?_
   ·unfold Qbe; rw [if_neg h0, if_neg h0]
   ·simp only [Qao.l0]
    rw [if_pos (by omega), if_pos (by omega), if_pos (by omega), if_neg (by simp), if_neg h0, hw]
theorem Qcw (ms : List (List Int)) (h : ms.length ≤ 100) (hm : ∀ m ∈ ms, m.length ≤ 100) : ∀ (q k i : Nat), i + q = ms.length → 200 + q < k → Qao.l1 k ms ms (i : Int) = some true := by
 intro q
 induction q with
 | zero =>
  intro k i hi hk; obtain ⟨k, rfl⟩ : ∃ z, k = z + 1 := ⟨k - 1, by omega⟩
  simp only [Qao.l1]; rw [if_neg (by omega), Qd.at (by omega)]; rfl
 | succ q ih =>
  intro k i hi hk; obtain ⟨k, rfl⟩ : ∃ z, k = z + 1 := ⟨k - 1, by omega⟩
  have hlt : i < ms.length := by omega
  have hl := hm ms[i] (List.getElem_mem hlt); simp only [Qao.l1]; rw [if_pos (by omega), if_pos (by omega), if_pos (by omega), rdL_nat hlt, like_eq _ _ (by omega) (by omega)]; simp only [Option.bind_some, decide_true, if_true]; rw [w64 (by omega)]; exact ih k (i + 1) (by omega) (by omega)
theorem Qck : ∀ (cs : List S26) (l : List S100), chk l = 0 → (∀ c ∈ cs, okK c = true) → (srv l cs).length ≤ cs.length ∧ ∀ m ∈ srv l cs, m.length ≤ 4
 | [], l, _, _ => by simp [srv]
 | c :: cs, l, hl, hc => by
  unfold srv; by_cases hb : (best l c.f0.f1 c.f1.f1 c.f2).2 = true
  ·rw [if_pos hb]
   have h4 := chk0 hl; have hf := Qbw (l := l) (by omega) hb; have ih := Qck cs (less l (best l c.f0.f1 c.f1.f1 c.f2).1) (Qbt hl hf) fun x hx => hc x (by simp [hx])
   refine ⟨by simp; exact ih.1, fun m hm => ?_⟩
   rcases List.mem_cons.1 hm with rfl | hm
   ·have := (Qbh.1 hf).1; omega
   ·exact ih.2 m hm
  ·rw [if_neg hb]; simp
theorem Qb2 (l : List S100) (cs : List S26) : ∃ k, Qao.f k l cs = some true := by
 refine ⟨40000 + 1 + 1 + 1, ?_⟩
 have hk0 : Qao.j0 (40000 + 1 + 1 + 1) l cs true = some true := by
  simp only [Qao.j0]; rw [if_pos trivial, Qd.at (by omega)]; rfl
 unfold Qao.f; by_cases h1 : (l.length : Int) > 20
 ·rw [if_pos h1, hk0]
 rw [if_neg h1]; by_cases h2 : (cs.length : Int) > 20
 ·rw [if_pos h2, hk0]
 rw [if_neg h2]; obtain ⟨s, hs⟩ := Qcm l (by omega) (k := 40000 + 1 + 1 + 1) (by omega); rw [hs]; simp only [Option.bind_some]
 cases s with
 | false => exact hk0
 | true =>
  have hend : ∀ (w : Int), Qbe w cs = chkS l cs → Qao.j2 (40000 + 1) l cs l cs (if chkS l cs = 0 then (srv l cs, (0 : Int)) else ([], chkS l cs)).1 (if chkS l cs = 0 then (srv l cs, (0 : Int)) else ([], chkS l cs)).2 w = some true := by
   intro w hw; simp only [Qao.j2]; rw [same_eq l (by omega) (by omega)]; simp only [Option.bind_some, if_true]; obtain ⟨k', g1, g2⟩ := Qcv l cs (by omega) (if chkS l cs = 0 then (srv l cs, (0 : Int)) else ([], chkS l cs)).1 (if chkS l cs = 0 then (srv l cs, (0 : Int)) else ([], chkS l cs)).2 cs.length 40000 0 w (Nat.zero_add _) (by omega); refine g2.trans ?_; rw [List.drop_zero, hw]; obtain ⟨k', rfl⟩ : ∃ z, k' = z + 1 + 1 := ⟨k' - 2, by omega⟩
   simp only [Qao.l0]; rw [if_neg (by omega)]; by_cases h0 : chkS l cs = 0
   ·obtain ⟨e1, e2, e3, e4⟩ := Qcs h0 (k := k' + 1) (by omega)
    have e5 := Qck cs l e3 e4; simp only [if_pos h0]; rw [e1]; simp only [Option.bind_some, if_true, Qao.j4]; rw [if_neg (by simp)]; exact Qcw (srv l cs) (by omega) (fun m hm => by have := e5.2 m hm; omega) _ _ 0 (Nat.zero_add _) (by omega)
   ·simp only [if_neg h0]
    rw [if_pos trivial, if_pos (show (([] : List (List Int)).length : Int) = 0 from rfl), Qd.at (by omega)]; rfl
  simp only [Qao.j0]; rw [if_neg (by simp), Qdh l (by omega)]; simp only [Option.bind_some, List.length_nil, List.nil_append]; rw [if_pos (by omega), Qda l cs (by omega), Qb6 l (by omega)]; simp only [Option.bind_some]; by_cases hc : chk l = 0
  ·rw [if_pos hc]
   simp only [Qao.j1]; by_cases h6 : (cs.length : Int) > 6
   ·rw [if_pos (by simpa using h6)]
    refine hend 8 ?_; unfold Qbe chkS; rw [if_pos hc, if_pos h6]; rfl
   ·rw [if_neg (by simpa using h6)]
    refine hend (chk l) ?_; unfold Qbe chkS; rw [if_pos hc, if_pos hc, if_neg h6]
    cases cs.all okK <;> rfl
  ·rw [if_neg hc]
   simp only [Qao.j1]; rw [if_neg (by simp)]; refine hend (chk l) ?_; unfold Qbe chkS; rw [if_neg hc, if_neg hc]
end Go.Proofs.YtjaapkkpmegkfaaGreat.P
namespace Go.Proofs.YtjaapkkpmegkfaaGreat.P
open Go.RowKit Go.ChangeShapes Go.WideShapes Go.Deep Go.Proofs.YtjaapkkpmegkfaaGreatW.PrintWords Go.Proofs.YtjaapkkpmegkfaaGreatW.PrintLast Go.Proofs.YtjaapkkpmegkfaaGreatW.PrintMore
structure Qa9 {α : Type} (P : Program) (d : Kd α) (t : TypeId) (B : α → Prop) : Prop where
 sz : P.cellsOf t = d.sz
 op : ∀ (H : Type) (enc : TypeId × Value → H) (w : World) (base : Nat) (spare : Nat → Bool) (held : Bool) (n : Nat) (cs : List Value) (x : DataW H × List MemPlace), DataW.trod enc P w base spare held n t cs = some x → ∃ p, d.K w p cs ∧ B p
theorem Qa9.int {P : Program} {t : TypeId} {k : IntKind} (ht : P.underlying t = some (.int k)) (hc : P.cellsOf t = 1) : Qa9 P (Kd.int k) t (fun n => (Lit.int k n).wf = true) :=
 ⟨hc, fun H enc w base spare held n cs x h => by
  obtain ⟨m, rfl, _, hw⟩ := DataW.trod_int ht h; exact ⟨m, rfl, hw⟩⟩
theorem Qbs {α : Type} {Q : Nat → α → Prop} : ∀ (n : Nat), (∀ i, i < n → ∃ p, Q i p) → ∃ l : List α, l.length = n ∧ ∀ i p, l[i]? = some p → Q i p
 | 0, _ => ⟨[], rfl, fun i p h => by simp at h⟩
 | n + 1, h => by
  obtain ⟨l, hl, hq⟩ := Qbs n (fun i hi => h i (by omega)); obtain ⟨p, hp⟩ := h n (by omega); refine ⟨l ++ [p], by simp [hl], fun i q hi => ?_⟩
  rcases Nat.lt_or_ge i l.length with h1 | h1
  ·rw [List.getElem?_append_left h1] at hi
   exact hq i q hi
  ·have : i = n := by
    have := (List.getElem?_eq_some_iff.1 hi).1
    simp at this
    omega
   subst this; rw [List.getElem?_append_right h1, hl, Nat.sub_self] at hi; obtain rfl : p = q := by simpa using hi
   exact hp
theorem Qa9.slice {α : Type} {P : Program} {d : Kd α} {t e : TypeId} {B : α → Prop} (h : Qa9 P d e B) (ht : P.underlying t = some (.slice e)) (hc : P.cellsOf t = 1) : Qa9 P (Kd.slice e d) t (fun l => ∀ x ∈ l, B x) :=
 ⟨hc, fun H enc w base spare held n cs x hx => by
  rcases open_slice ht hx with ⟨rfl, _⟩ | ⟨a, len, cap, m, n', D, Pl, rfl, hb, hl, hm, hmm, _, hi⟩
  ·exact ⟨[], ⟨none, 0, rfl, Nat.le_refl _, Kd.C_nil _ _⟩, fun x hx => by cases hx⟩
  ·obtain ⟨l, hll, hq⟩ := Qbs (Q := fun i p => (∃ cs', d.K w p cs' ∧ ∀ j, j < d.sz → w.cell? (a.add (i * d.sz + j)) = cs'[j]?) ∧ B p) len (fun i hi' => by
    obtain ⟨cs', hcs, htr⟩ := hi i (by rw [hmm]; split <;> omega); obtain ⟨p, hk, hp⟩ := h.op H enc w base spare held n' cs' _ htr; obtain ⟨_, hcl, hat⟩ := World.cells?_some hcs; rw [h.sz] at hat
    exact ⟨p, ⟨cs', hk, fun j hj => by
     have := hat j hj; rw [Go.Deep.add_add] at this; exact this⟩, hp⟩)
   refine ⟨l, ⟨some a, cap, by rw [hll], by rw [hll]; exact hl, ⟨rfl, by rw [hll]; simp only [maxLen] at hm; omega, fun h0 => ⟨a, rfl, fun j p hj => ?_⟩⟩⟩, fun x hx => ?_⟩
   ·obtain ⟨⟨cs', hk, hat⟩, _⟩ := hq j p hj
    refine ⟨cs', d.K_len hk, hk, fun i u hu => ?_⟩; have hi' : i < d.sz := by have := (List.getElem?_eq_some_iff.1 hu).1; rw [d.K_len hk] at this; exact this
    rw [hat i hi', hu]
   ·obtain ⟨i, hi'⟩ := List.getElem?_of_mem hx
    exact (hq i x hi').2⟩
def Qa2 {α : Type} (P : Program) (fs : Array Field) (j off : Nat) (d : Kd α) (B : α → Prop) : Prop :=
 ∀ (H : Type) (enc : TypeId × Value → H) (w : World) (base : Nat) (spare : Nat → Bool) (held : Bool) (n : Nat) (cs : List Value) (xs : List (DataW H × List MemPlace)), xs.length = fs.size →
  (∀ (i : Nat) (f : Field), fs[i]? = some f → DataW.trod enc P w base spare held n f.type ((cs.drop f.offset).take (P.cellsOf f.type)) = xs[i]?) → ∃ p, d.K w p ((cs.drop off).take d.sz) ∧ B p
theorem Qa2.one {α : Type} {P : Program} {fs : Array Field} {j off : Nat} {d : Kd α} {B : α → Prop} (f : Field) (hf : fs[j]? = some f) (ho : f.offset = off) (h : Qa9 P d f.type B) : Qa2 P fs j off d B := by
 intro H enc w base spare held n cs xs hl hx; have h1 := hx j f hf; have hj : j < xs.length := by rw [hl]; exact (Array.getElem?_eq_some_iff.1 hf).1
 rw [List.getElem?_eq_getElem hj, ho, h.sz] at h1; exact h.op H enc w base spare held n _ _ h1
theorem Qa2.cons {α β : Type} {P : Program} {fs : Array Field} {j off : Nat} {d : Kd α} {d' : Kd β} {B : α → Prop} {B' : β → Prop} (h : Qa2 P fs j off d B) (h' : Qa2 P fs (j + 1) (off + d.sz) d' B') : Qa2 P fs j off (Kd.pair d d') (fun p => B p.1 ∧ B' p.2) := by
 intro H enc w base spare held n cs xs hl hx; obtain ⟨p, h1, h2⟩ := h H enc w base spare held n cs xs hl hx; obtain ⟨q, h3, h4⟩ := h' H enc w base spare held n cs xs hl hx; refine ⟨(p, q), ⟨_, _, ?_, h1, h3⟩, h2, h4⟩; show (cs.drop off).take (d.sz + d'.sz) = _; rw [List.take_add, List.drop_drop]
theorem Qa2.iso {α β : Type} {P : Program} {fs : Array Field} {j off : Nat} {d : Kd α} {B : α → Prop} (h : Qa2 P fs j off d B) (f : β → α) (g : α → β) (hg : ∀ a, f (g a) = a) : Qa2 P fs j off (Kd.iso d f) (fun y => B (f y)) := by
 intro H enc w base spare held n cs xs hl hx; obtain ⟨p, h1, h2⟩ := h H enc w base spare held n cs xs hl hx; exact ⟨g p, by show d.K w (f (g p)) _; rw [hg]; exact h1, by show B (f (g p)); rw [hg]; exact h2⟩
theorem Qa9.struct {α : Type} {P : Program} {fs : Array Field} {d : Kd α} {t : TypeId} {B : α → Prop} (h : Qa2 P fs 0 0 d B) (ht : P.underlying t = some (.struct fs)) (hc : P.cellsOf t = d.sz) : Qa9 P d t B :=
 ⟨hc, fun H enc w base spare held n cs x hx => by
  obtain ⟨xs, n', _, _, hcl, hl, hf⟩ := DataW.trod_struct ht hx; obtain ⟨p, h1, h2⟩ := h H enc w base spare held n' cs xs hl hf; refine ⟨p, ?_, h2⟩; rw [List.drop_zero, List.take_of_length_le (by rw [hcl, hc]; exact Nat.le_refl _)] at h1; exact h1⟩
theorem Qa9.arg_slice {α : Type} {P : Program} {d : Kd α} {t e : TypeId} {B : List α → Prop} (h : Qa9 P (Kd.slice e d) t B) {H : Type} {enc : TypeId × Value → H} {w : World} {base : Nat} {spare : Nat → Bool} {held : Bool} {v : Value} {x : DataW H} {ps : List MemPlace} {a : Option Addr} {len cap : Nat} (hv : v = .slice a len cap) (hx : DataW.Trod enc P w base spare held t v x ps) :
  ∃ l : List α, len = l.length ∧ l.length ≤ cap ∧ Kd.C d w a l.length l ∧ B l := by
 obtain ⟨n, hn⟩ := hx; subst hv; obtain ⟨l, ⟨A, c, he, hl, hr⟩, hb⟩ := h.op H enc w base spare held n _ _ hn; have he' : Value.slice a len cap = .slice A l.length c := by simpa [Value.cells] using he
 cases he'
 exact ⟨l, rfl, hl, hr, hb⟩
end Go.Proofs.YtjaapkkpmegkfaaGreat.P
namespace Go.Proofs.YtjaapkkpmegkfaaGreat.P
open Go.RowKit Go.Proofs.YtjaapkkpmegkfaaGreatW.PrintWords
def IsK (k : IntKind) (n : Int) : Prop := (Lit.int k n).wf = true
theorem Qbq : Qa9 Tryz.prog (Kd.int .i64) 3 (IsK .i64) := Qa9.int Tryz.underlying3 (by kernel_rfl)
def B24 (x : S24) : Prop := (IsK .i64) x.f0 ∧ (IsK .i64) x.f1
theorem O24 : Qa9 Tryz.prog k24 24 B24 := by
 refine Qa9.struct ?_ Tryz.underlying24 (by kernel_rfl); refine Qa2.iso (d := (Kd.pair (Kd.int .i64) (Kd.int .i64))) (B := fun p => (IsK .i64) p.1 ∧ (IsK .i64) p.2) ?_ (fun x : S24 => (x.f0, x.f1)) (fun p => ⟨p.1, p.2⟩) (fun _ => rfl); refine Qa2.cons (B := IsK .i64) (B' := fun p : Int => (IsK .i64) p) ?_ ?_
 ·exact Qa2.one _ rfl rfl Qbq
 exact Qa2.one _ rfl rfl Qbq
def B26 (x : S26) : Prop := (B24) x.f0 ∧ (B24) x.f1 ∧ (IsK .i64) x.f2
theorem O26 : Qa9 Tryz.prog k26 26 B26 := by
 refine Qa9.struct ?_ Tryz.underlying26 (by kernel_rfl); refine Qa2.iso (d := (Kd.pair k24 (Kd.pair k24 (Kd.int .i64)))) (B := fun p => (B24) p.1 ∧ (B24) p.2.1 ∧ (IsK .i64) p.2.2) ?_ (fun x : S26 => (x.f0, x.f1, x.f2)) (fun p => ⟨p.1, p.2.1, p.2.2⟩) (fun _ => rfl); refine Qa2.cons (B := B24) (B' := fun p : S24 × Int => (B24) p.1 ∧ (IsK .i64) p.2) ?_ ?_
 ·exact Qa2.one _ rfl rfl O24
 refine Qa2.cons (B := B24) (B' := fun p : Int => (IsK .i64) p) ?_ ?_
 ·exact Qa2.one _ rfl rfl O24
 exact Qa2.one _ rfl rfl Qbq
def B100 (x : S100) : Prop := (B24) x.f0 ∧ (IsK .i64) x.f1 ∧ (IsK .i64) x.f2 ∧ (IsK .i64) x.f3
theorem O100 : Qa9 Tryz.prog k100 100 B100 := by
 refine Qa9.struct ?_ Tryz.underlying100 (by kernel_rfl); refine Qa2.iso (d := (Kd.pair k24 (Kd.pair (Kd.int .i64) (Kd.pair (Kd.int .i64) (Kd.int .i64))))) (B := fun p => (B24) p.1 ∧ (IsK .i64) p.2.1 ∧ (IsK .i64) p.2.2.1 ∧ (IsK .i64) p.2.2.2) ?_ (fun x : S100 => (x.f0, x.f1, x.f2, x.f3)) (fun p => ⟨p.1, p.2.1, p.2.2.1, p.2.2.2⟩) (fun _ => rfl); refine Qa2.cons (B := B24) (B' := fun p : Int × Int × Int => (IsK .i64) p.1 ∧ (IsK .i64) p.2.1 ∧ (IsK .i64) p.2.2) ?_ ?_
 ·exact Qa2.one _ rfl rfl O24
 refine Qa2.cons (B := IsK .i64) (B' := fun p : Int × Int => (IsK .i64) p.1 ∧ (IsK .i64) p.2) ?_ ?_
 ·exact Qa2.one _ rfl rfl Qbq
 refine Qa2.cons (B := IsK .i64) (B' := fun p : Int => (IsK .i64) p) ?_ ?_
 ·exact Qa2.one _ rfl rfl Qbq
 exact Qa2.one _ rfl rfl Qbq
end Go.Proofs.YtjaapkkpmegkfaaGreat.P
