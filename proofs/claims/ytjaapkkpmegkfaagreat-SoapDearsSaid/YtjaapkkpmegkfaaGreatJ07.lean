/- Part 7 of what the law's proof needs beyond its base: words, walks of functions and plain facts. -/
import Derived.Test.YtjaapkkpmegkfaaGreatJ06
set_option linter.unusedVariables false
set_option linter.unusedSimpArgs false
namespace Go.Proofs.YtjaapkkpmegkfaaGreat.P
open Go.RowKit Go.ChangeShapes Go.WideShapes Go.Deep Go.Proofs.YtjaapkkpmegkfaaGreatW.PrintWords Go.Proofs.YtjaapkkpmegkfaaGreatW.PrintLast Go.Proofs.YtjaapkkpmegkfaaGreatW.PrintMore
structure Qbb {α : Type} (P : Program) (d : Kd α) (t : TypeId) (B : α → Prop) : Prop where
 sz : P.cellsOf t = d.sz
 op : ∀ (H : Type) (enc : TypeId × Value → H) (w : World) (base : Nat) (spare : Nat → Bool) (held : Bool) (n : Nat) (cs : List Value) (x : DataW H × List MemPlace), DataW.trod enc P w base spare held n t cs = some x → ∃ p, d.K w p cs ∧ B p
theorem Qbb.int {P : Program} {t : TypeId} {k : IntKind} (ht : P.underlying t = some (.int k)) (hc : P.cellsOf t = 1) : Qbb P (Kd.int k) t (fun n => (Lit.int k n).wf = true) :=
 ⟨hc, fun H enc w base spare held n cs x h => by
  obtain ⟨m, rfl, _, hw⟩ := DataW.trod_int ht h; exact ⟨m, rfl, hw⟩⟩
theorem Qby {α : Type} {Q : Nat → α → Prop} : ∀ (n : Nat), (∀ i, i < n → ∃ p, Q i p) → ∃ l : List α, l.length = n ∧ ∀ i p, l[i]? = some p → Q i p
 | 0, _ => ⟨[], rfl, fun i p h => by simp at h⟩
 | n + 1, h => by
  obtain ⟨l, hl, hq⟩ := Qby n (fun i hi => h i (by omega)); obtain ⟨p, hp⟩ := h n (by omega); refine ⟨l ++ [p], by simp [hl], fun i q hi => ?_⟩
  rcases Nat.lt_or_ge i l.length with h1 | h1
  ·rw [List.getElem?_append_left h1] at hi
   exact hq i q hi
  ·have : i = n := by
    have := (List.getElem?_eq_some_iff.1 hi).1
    simp at this
    omega
   subst this; rw [List.getElem?_append_right h1, hl, Nat.sub_self] at hi; obtain rfl : p = q := by simpa using hi
   exact hp
theorem Qbb.slice {α : Type} {P : Program} {d : Kd α} {t e : TypeId} {B : α → Prop} (h : Qbb P d e B) (ht : P.underlying t = some (.slice e)) (hc : P.cellsOf t = 1) : Qbb P (Kd.slice e d) t (fun l => ∀ x ∈ l, B x) :=
 ⟨hc, fun H enc w base spare held n cs x hx => by
  rcases open_slice ht hx with ⟨rfl, _⟩ | ⟨a, len, cap, m, n', D, Pl, rfl, hb, hl, hm, hmm, _, hi⟩
  ·exact ⟨[], ⟨none, 0, rfl, Nat.le_refl _, Kd.C_nil _ _⟩, fun x hx => by cases hx⟩
  ·obtain ⟨l, hll, hq⟩ := Qby (Q := fun i p => (∃ cs', d.K w p cs' ∧ ∀ j, j < d.sz → w.cell? (a.add (i * d.sz + j)) = cs'[j]?) ∧ B p) len (fun i hi' => by
    obtain ⟨cs', hcs, htr⟩ := hi i (by rw [hmm]; split <;> omega); obtain ⟨p, hk, hp⟩ := h.op H enc w base spare held n' cs' _ htr; obtain ⟨_, hcl, hat⟩ := World.cells?_some hcs; rw [h.sz] at hat
    exact ⟨p, ⟨cs', hk, fun j hj => by
     have := hat j hj; rw [Go.Deep.add_add] at this; exact this⟩, hp⟩)
   refine ⟨l, ⟨some a, cap, by rw [hll], by rw [hll]; exact hl, ⟨rfl, by rw [hll]; simp only [maxLen] at hm; omega, fun h0 => ⟨a, rfl, fun j p hj => ?_⟩⟩⟩, fun x hx => ?_⟩
   ·obtain ⟨⟨cs', hk, hat⟩, _⟩ := hq j p hj
    refine ⟨cs', d.K_len hk, hk, fun i u hu => ?_⟩; have hi' : i < d.sz := by have := (List.getElem?_eq_some_iff.1 hu).1; rw [d.K_len hk] at this; exact this
    rw [hat i hi', hu]
   ·obtain ⟨i, hi'⟩ := List.getElem?_of_mem hx
    exact (hq i x hi').2⟩
def Qa3 {α : Type} (P : Program) (fs : Array Field) (j off : Nat) (d : Kd α) (B : α → Prop) : Prop :=
 ∀ (H : Type) (enc : TypeId × Value → H) (w : World) (base : Nat) (spare : Nat → Bool) (held : Bool) (n : Nat) (cs : List Value) (xs : List (DataW H × List MemPlace)), xs.length = fs.size →
  (∀ (i : Nat) (f : Field), fs[i]? = some f → DataW.trod enc P w base spare held n f.type ((cs.drop f.offset).take (P.cellsOf f.type)) = xs[i]?) → ∃ p, d.K w p ((cs.drop off).take d.sz) ∧ B p
theorem Qa3.one {α : Type} {P : Program} {fs : Array Field} {j off : Nat} {d : Kd α} {B : α → Prop} (f : Field) (hf : fs[j]? = some f) (ho : f.offset = off) (h : Qbb P d f.type B) : Qa3 P fs j off d B := by
 intro H enc w base spare held n cs xs hl hx; have h1 := hx j f hf; have hj : j < xs.length := by rw [hl]; exact (Array.getElem?_eq_some_iff.1 hf).1
 rw [List.getElem?_eq_getElem hj, ho, h.sz] at h1; exact h.op H enc w base spare held n _ _ h1
theorem Qa3.cons {α β : Type} {P : Program} {fs : Array Field} {j off : Nat} {d : Kd α} {d' : Kd β} {B : α → Prop} {B' : β → Prop} (h : Qa3 P fs j off d B) (h' : Qa3 P fs (j + 1) (off + d.sz) d' B') : Qa3 P fs j off (Kd.pair d d') (fun p => B p.1 ∧ B' p.2) := by
 intro H enc w base spare held n cs xs hl hx; obtain ⟨p, h1, h2⟩ := h H enc w base spare held n cs xs hl hx; obtain ⟨q, h3, h4⟩ := h' H enc w base spare held n cs xs hl hx; refine ⟨(p, q), ⟨_, _, ?_, h1, h3⟩, h2, h4⟩; show (cs.drop off).take (d.sz + d'.sz) = _; rw [List.take_add, List.drop_drop]
theorem Qa3.iso {α β : Type} {P : Program} {fs : Array Field} {j off : Nat} {d : Kd α} {B : α → Prop} (h : Qa3 P fs j off d B) (f : β → α) (g : α → β) (hg : ∀ a, f (g a) = a) : Qa3 P fs j off (Kd.iso d f) (fun y => B (f y)) := by
 intro H enc w base spare held n cs xs hl hx; obtain ⟨p, h1, h2⟩ := h H enc w base spare held n cs xs hl hx; exact ⟨g p, by show d.K w (f (g p)) _; rw [hg]; exact h1, by show B (f (g p)); rw [hg]; exact h2⟩
theorem Qbb.struct {α : Type} {P : Program} {fs : Array Field} {d : Kd α} {t : TypeId} {B : α → Prop} (h : Qa3 P fs 0 0 d B) (ht : P.underlying t = some (.struct fs)) (hc : P.cellsOf t = d.sz) : Qbb P d t B :=
 ⟨hc, fun H enc w base spare held n cs x hx => by
  obtain ⟨xs, n', _, _, hcl, hl, hf⟩ := DataW.trod_struct ht hx; obtain ⟨p, h1, h2⟩ := h H enc w base spare held n' cs xs hl hf; refine ⟨p, ?_, h2⟩; rw [List.drop_zero, List.take_of_length_le (by rw [hcl, hc]; exact Nat.le_refl _)] at h1; exact h1⟩
theorem Qbb.arg_slice {α : Type} {P : Program} {d : Kd α} {t e : TypeId} {B : List α → Prop} (h : Qbb P (Kd.slice e d) t B) {H : Type} {enc : TypeId × Value → H} {w : World} {base : Nat} {spare : Nat → Bool} {held : Bool} {v : Value} {x : DataW H} {ps : List MemPlace} {a : Option Addr} {len cap : Nat} (hv : v = .slice a len cap) (hx : DataW.Trod enc P w base spare held t v x ps) :
  ∃ l : List α, len = l.length ∧ l.length ≤ cap ∧ Kd.C d w a l.length l ∧ B l := by
 obtain ⟨n, hn⟩ := hx; subst hv; obtain ⟨l, ⟨A, c, he, hl, hr⟩, hb⟩ := h.op H enc w base spare held n _ _ hn; have he' : Value.slice a len cap = .slice A l.length c := by simpa [Value.cells] using he
 cases he'
 exact ⟨l, rfl, hl, hr, hb⟩
theorem Qbb.arg {α : Type} {P : Program} {d : Kd α} {t : TypeId} {B : α → Prop} (h : Qbb P d t B) {H : Type} {enc : TypeId × Value → H} {w : World} {base : Nat} {spare : Nat → Bool} {held : Bool} {v : Value} {x : DataW H} {ps : List MemPlace} (hx : DataW.Trod enc P w base spare held t v x ps) :
  ∃ p : α, d.K w p v.cells.toList ∧ B p := by
 obtain ⟨n, hn⟩ := hx; exact h.op H enc w base spare held n _ _ hn
theorem Qdc {v : Value} {l : List Value} (h : v.cells.toList = l) (hl : 2 ≤ l.length) : v = .agg l.toArray := by
 cases v with
 | agg x => simp only [Value.cells] at h; rw [← h]
 | _ => simp only [Value.cells] at h; subst h; simp at hl
end Go.Proofs.YtjaapkkpmegkfaaGreat.P
namespace Go.Proofs.YtjaapkkpmegkfaaGreat.P
open Go.RowKit Go.Proofs.YtjaapkkpmegkfaaGreatW.PrintWords
def IsK (k : IntKind) (n : Int) : Prop := (Lit.int k n).wf = true
theorem Qbw : Qbb Tryz.prog (Kd.int .i64) 3 (IsK .i64) := Qbb.int Tryz.underlying3 (by kernel_rfl)
def B24 (x : S24) : Prop := (IsK .i64) x.f0 ∧ (IsK .i64) x.f1
theorem O24 : Qbb Tryz.prog k24 24 B24 := by
 refine Qbb.struct ?_ Tryz.underlying24 (by kernel_rfl); refine Qa3.iso (d := (Kd.pair (Kd.int .i64) (Kd.int .i64))) (B := fun p => (IsK .i64) p.1 ∧ (IsK .i64) p.2) ?_ (fun x : S24 => (x.f0, x.f1)) (fun p => ⟨p.1, p.2⟩) (fun _ => rfl); refine Qa3.cons (B := IsK .i64) (B' := fun p : Int => (IsK .i64) p) ?_ ?_
 ·exact Qa3.one _ rfl rfl Qbw
 exact Qa3.one _ rfl rfl Qbw
def B26 (x : S26) : Prop := (B24) x.f0 ∧ (B24) x.f1 ∧ (IsK .i64) x.f2
theorem O26 : Qbb Tryz.prog k26 26 B26 := by
 refine Qbb.struct ?_ Tryz.underlying26 (by kernel_rfl); refine Qa3.iso (d := (Kd.pair k24 (Kd.pair k24 (Kd.int .i64)))) (B := fun p => (B24) p.1 ∧ (B24) p.2.1 ∧ (IsK .i64) p.2.2) ?_ (fun x : S26 => (x.f0, x.f1, x.f2)) (fun p => ⟨p.1, p.2.1, p.2.2⟩) (fun _ => rfl); refine Qa3.cons (B := B24) (B' := fun p : S24 × Int => (B24) p.1 ∧ (IsK .i64) p.2) ?_ ?_
 ·exact Qa3.one _ rfl rfl O24
 refine Qa3.cons (B := B24) (B' := fun p : Int => (IsK .i64) p) ?_ ?_
 ·exact Qa3.one _ rfl rfl O24
 exact Qa3.one _ rfl rfl Qbw
def B100 (x : S100) : Prop := (B24) x.f0 ∧ (IsK .i64) x.f1 ∧ (IsK .i64) x.f2 ∧ (IsK .i64) x.f3
theorem O100 : Qbb Tryz.prog k100 100 B100 := by
 refine Qbb.struct ?_ Tryz.underlying100 (by kernel_rfl); refine Qa3.iso (d := (Kd.pair k24 (Kd.pair (Kd.int .i64) (Kd.pair (Kd.int .i64) (Kd.int .i64))))) (B := fun p => (B24) p.1 ∧ (IsK .i64) p.2.1 ∧ (IsK .i64) p.2.2.1 ∧ (IsK .i64) p.2.2.2) ?_ (fun x : S100 => (x.f0, x.f1, x.f2, x.f3)) (fun p => ⟨p.1, p.2.1, p.2.2.1, p.2.2.2⟩) (fun _ => rfl); refine Qa3.cons (B := B24) (B' := fun p : Int × Int × Int => (IsK .i64) p.1 ∧ (IsK .i64) p.2.1 ∧ (IsK .i64) p.2.2) ?_ ?_
 ·exact Qa3.one _ rfl rfl O24
 refine Qa3.cons (B := IsK .i64) (B' := fun p : Int × Int => (IsK .i64) p.1 ∧ (IsK .i64) p.2) ?_ ?_
 ·exact Qa3.one _ rfl rfl Qbw
 refine Qa3.cons (B := IsK .i64) (B' := fun p : Int => (IsK .i64) p) ?_ ?_
 ·exact Qa3.one _ rfl rfl Qbw
 exact Qa3.one _ rfl rfl Qbw
end Go.Proofs.YtjaapkkpmegkfaaGreat.P
namespace Go.Proofs.YtjaapkkpmegkfaaGreat.P
open Go.RowKit Go.Proofs.YtjaapkkpmegkfaaGreatW.PrintWords Go.Proofs.YtjaapkkpmegkfaaGreatW.PrintLast Go.Proofs.YtjaapkkpmegkfaaGreatW.PrintMore
set_option maxRecDepth 100000 in
theorem Qd.eval : Qd.f 60 = some true := by kernel_rfl
theorem Qd.at {k : Nat} (hk : 60 ≤ k) : Qd.f k = some true := Qbu (g := Qd.f) Qd.mono hk Qd.eval
theorem Qd.yes {k : Nat} {r : Bool} (h : Qd.f k = some r) : r = true := by
 have h1 := Qbu (g := Qd.f) Qd.mono (Nat.le_max_left k 60) h; have h2 := Qbu (g := Qd.f) Qd.mono (Nat.le_max_right k 60) Qd.eval; exact Option.some.inj (h1.symm.trans h2)
theorem Qd.calls (k : Nat) (r : Bool) (w : World) (h : Qd.f k = some r) : Calls Tryz.prog 15 #[] w fun e w' => e = .returned (.bool r) ∧ Below w.heap.size w w' :=
 Qd.calls_true k r w (Qd.yes h) h
end Go.Proofs.YtjaapkkpmegkfaaGreat.P
namespace Go.Proofs.YtjaapkkpmegkfaaGreat.P
open Go.RowKit Go.Proofs.YtjaapkkpmegkfaaGreatW.PrintWords Go.Proofs.YtjaapkkpmegkfaaGreatW.PrintLast Go.Proofs.YtjaapkkpmegkfaaGreatW.PrintMore
attribute [local go_sem] JG JH JY JX Jv Ju JJ JK
mutual
def Qaq.j0 : Nat → List S100 → Int → Bool → Int → Int → Int → Int → Int → Option Bool
 | 0, _, _, _, _, _, _, _, _ => none
 | k + 1, x0, x2, x19, x102000, x102001, x102002, x102003, x102004 => if x19 = true then ((Qd.f k).bind fun t103 => (some t103)) else ((Qa8.f x0).bind fun t104 => ((Q7.f k t104 x102000 x102001 x102002 x102003 x102004 x2).bind fun bt107 => ((Qaz.f k t104 x0).bind fun t109 => (if t109 = true then ((Qba.f k x0 x102000 x102001 x102002 x102003 x102004).bind fun t110 => (if t110 = 0 then ((Jp.f x2 0 (wrap64 ((x0.length : Int) - 1))).bind fun t111 => (Qaq.j1 k x0 x2 bt107.1 bt107.2 t110 (-1) (!t111) x102000 x102001 x102002 x102003 x102004)) else (Qaq.j1 k x0 x2 bt107.1 bt107.2 t110 (-1) false x102000 x102001 x102002 x102003 x102004))) else (some false)))))
def Qaq.j1 : Nat → List S100 → Int → Int → Int → Int → Int → Bool → Int → Int → Int → Int → Int → Option Bool
 | 0, _, _, _, _, _, _, _, _, _, _, _, _ => none
 | k + 1, x0, x2, x8, x9, x10, x11, x46, x102000, x102001, x102002, x102003, x102004 => if x46 = true then (Qaq.j2 k x0 x2 x8 x9 7 x11 x102000 x102001 x102002 x102003 x102004) else (Qaq.j2 k x0 x2 x8 x9 x10 x11 x102000 x102001 x102002 x102003 x102004)
def Qaq.j2 : Nat → List S100 → Int → Int → Int → Int → Int → Int → Int → Int → Int → Int → Option Bool
 | 0, _, _, _, _, _, _, _, _, _, _, _ => none
 | k + 1, x0, x2, x8, x9, x10, x11, x102000, x102001, x102002, x102003, x102004 => if x10 = 0 then ((Qao.f k x0 x102000 x102001 x102002 x102003 x102004 x2).bind fun t112 => (if t112 < 0 then (Qaq.j3 k x8 x9 9 t112) else (Qaq.j3 k x8 x9 x10 t112))) else (Qaq.j3 k x8 x9 x10 x11)
def Qaq.j3 : Nat → Int → Int → Int → Int → Option Bool
 | 0, _, _, _, _ => none
 | k + 1, x8, x9, x10, x11 => if x10 = 0 then (if x9 = 0 then (if x8 = x11 then ((Qd.f k).bind fun t113 => (some t113)) else (some false)) else (some false)) else (if x9 = x10 then (if x8 = 0 then ((Qd.f k).bind fun t114 => (some t114)) else (some false)) else (some false))
end
def Qaq.f (k : Nat) (l0 : List S100) (a1_0 a1_1 a1_2 a1_3 a1_4 a2 : Int) : Option Bool := if (l0.length : Int) > 20 then (Qaq.j0 k l0 a2 true a1_0 a1_1 a1_2 a1_3 a1_4) else ((Qat.f k l0).bind fun t102 => (Qaq.j0 k l0 a2 (!t102) a1_0 a1_1 a1_2 a1_3 a1_4))
set_option maxHeartbeats 8000000 in
set_option maxRecDepth 100000 in
theorem Qaq.calls_true (k : Nat) (A0 : Option Addr) (c0 : Nat) (l0 : List S100) (a1_0 a1_1 a1_2 a1_3 a1_4 a2 : Int) (r : Bool) (w : World) (hr0 : Kd.C k100 w A0 l0.length l0) (hc0 : l0.length ≤ c0) (hrt : r = true) (h : Qaq.f k l0 a1_0 a1_1 a1_2 a1_3 a1_4 a2 = some r) :
  Calls Tryz.prog 5 #[.slice A0 l0.length c0, .agg #[.int .i64 a1_0, .int .i64 a1_1, .int .i64 a1_2, .int .i64 a1_3, .int .i64 a1_4], .int .i64 a2] w fun e w' => e = .returned (.bool r) ∧ Below w.heap.size w w' := by
 have hu26 := Tryz.underlying26; have HRT := Qa.mk hrt; clear hrt; have HR0 := Qa.mk hr0; have HC0 := Qa.mk hc0; clear hr0 hc0; have HB := Qa.mk (Below.refl w.heap.size w); have H : (if (l0.length : Int) > 20 then (Qaq.j0 k l0 a2 true a1_0 a1_1 a1_2 a1_3 a1_4) else ((Qat.f k l0).bind fun t102 => (Qaq.j0 k l0 a2 (!t102) a1_0 a1_1 a1_2 a1_3 a1_4))) = some r := h; clear h; have HC4 := Qa.mk H; clear H; go_enter Tryz.func5, Tryz.ntmps5; go_upto_region 1 with (first | ((with_reducible refine gd 4 ?_); (try (refine QG (by rfl) ?_; dsimp only)); refine bx 4 #[.int .i64 a1_0, .int .i64 a1_1, .int .i64 a1_2, .int .i64 a1_3, .int .i64 a1_4] 26 ?_; intro gb101 hg w5 BK101 hb; have GW101 := gs HB hg; replace HB := bs HB hb; clear hb hg))
 (try simp only [Act.put, List.setIfInBounds_toArray, List.set_cons_zero, List.set_cons_succ])
 go_cut [19] (fun v19 wc => ∃ (kq : Nat) (x19_3 : Bool), v19 = .bool x19_3 ∧ Qa (Qaq.j0 kq l0 a2 x19_3 a1_0 a1_1 a1_2 a1_3 a1_4 = some r) ∧ Qa (kq ≤ k) ∧ Qa (wc.heap[gb101]? = some (.cells #[.int .i64 a1_0, .int .i64 a1_1, .int .i64 a1_2, .int .i64 a1_3, .int .i64 a1_4] 26 (0, 0))) ∧ Qa (Below w.heap.size w wc))
 case first =>
  have H := HC4.out; clear HC4; by_cases c6 : (l0.length : Int) > 20
  ·rw [if_pos c6] at H
   have c6b0 : decide (20 < (l0.length : Int)) = true := decide_eq_true c6; have c6b1 : decide (20 < l0.length) = true := decide_eq_true (by omega); clear c6
   (first | rw [c6b0] | (simp only [QR, QU]; rw [c6b0]) | skip)
   have H' := Qa.mk H; clear H; go_wp2
   go_meet
   case rel => exact ⟨_, (true), eS, H', ⟨by first | omega | exact Nat.le_refl _⟩, ⟨pB BK101.out⟩, ⟨pE HB⟩⟩
  ·rw [if_neg c6] at H
   have c6b0 : decide (20 < (l0.length : Int)) = false := decide_eq_false c6; have c6b1 : decide (20 < l0.length) = false := decide_eq_false (by omega); clear c6
   (first | rw [c6b0] | (simp only [QR, QU]; rw [c6b0]) | skip)
   obtain ⟨t102, A7, H⟩ := bi H; have H' := Qa.mk H; clear H; go_wp2_with (first | (go_at_call 31; (with_reducible refine (Qat.calls k _ _ l0 t102 _ ?side1 ?side2 A7.out).mono ?_); (case side1 => exact pC (Kd.C_below HR0.out HB.out)); (case side2 => exact HC0.out); rintro e w8 ⟨rfl, hb⟩; replace BK101 := bb BK101 hb; replace HB := bs HB hb; (try clear hb); (try clear hb2); (try clear hk); (try clear hi)))
   go_meet
   case rel => exact ⟨_, (!t102), eS, H', ⟨by first | omega | exact Nat.le_refl _⟩, ⟨pB BK101.out⟩, ⟨pE HB⟩⟩
 case rest =>
  clear HC4; obtain ⟨kq, x19_3, rfl, HA, HJ3, BK101, HB⟩ := hcut
  cases kq with
  | zero => exact absurd HA.out (by simp [Qaq.j0])
  | succ kj3 =>
   have H := HA.out; clear HA; simp only [Qaq.j0] at H; by_cases c9 : x19_3 = true
   ·subst c9
    rw [if_pos rfl] at H; obtain ⟨t103, A10, H⟩ := bi H; obtain rfl := Option.some.inj H; go_wp2_with (first | ((with_reducible refine gc 15 rfl ?_); refine gL 20 Tryz.func15 #[] ?_; (with_reducible refine (Qd.calls kj3  t103 _ A10.out).mono ?_); rintro e w11 ⟨rfl, hb⟩; refine ⟨_, rfl, ?_⟩; replace BK101 := bb BK101 hb; replace HB := bs HB hb; clear hb)); go_ret; exact ⟨eT, pE HB⟩
   ·replace c9 := Bool.eq_false_iff.mpr c9
    subst c9; rw [if_neg (show ¬ (false = true) by decide)] at H; obtain ⟨t104, A12, H⟩ := bi H; obtain ⟨⟨t107, t108⟩, A13, H⟩ := bi H; obtain ⟨t109, A14, H⟩ := bi H; by_cases c15 : t109 = true
    ·subst c15
     rw [if_pos rfl] at H; obtain ⟨t110, A16, H⟩ := bi H; have HC17 := Qa.mk H; clear H; go_upto_region 8 with (first | ((with_reducible refine gc 16 rfl ?_); refine gL 22 Tryz.func16 #[.slice A0 l0.length c0] ?_; (with_reducible refine (Qa8.calls _ _ l0 t104 _ ?side1 ?side2 A12.out).mono ?_); (case side1 => exact pC (Kd.C_below HR0.out HB.out)); (case side2 => exact HC0.out); rintro e w18 ⟨v105, rfl, ho0, hb⟩; refine ⟨_, rfl, ?_⟩; have HO106 := rl ho0 HB; replace BK101 := bb BK101 hb; replace HB := bs HB hb; clear hb ho0; obtain ⟨hcz19_0, hcz19_1, hcz19_2, hcz19_3, hcz19_4, hfz19_0, hfz19_1, hfz19_2, hfz19_3, hfz19_4⟩ := cf5 BK101; obtain ⟨Ao20, co20, eo20⟩ := Kd.R_slice HO106.out; subst eo20) | ((with_reducible refine gc 35 rfl ?_); refine gL 27 Tryz.func35 #[.slice Ao20 t104.length co20, .agg #[.int .i64 a1_0, .int .i64 a1_1, .int .i64 a1_2, .int .i64 a1_3, .int .i64 a1_4], .int .i64 a2] ?_; (with_reducible refine (Q7.calls kj3 _ _ t104 a1_0 a1_1 a1_2 a1_3 a1_4 a2 t107 t108 _ ?side1 ?side2 A13.out).mono ?_); (case side1 => exact pC (Kd.R_reads' HO106.out).2.2); (case side2 => exact (Kd.R_reads' HO106.out).2.1); rintro e w21 ⟨rfl, hb⟩; refine ⟨_, rfl, ?_⟩; replace HO106 := rb HO106 hb; replace BK101 := bb BK101 hb; replace HB := bs HB hb; clear hb) | ((with_reducible refine gc 22 rfl ?_); refine gL 32 Tryz.func22 #[.slice Ao20 t104.length co20, .slice A0 l0.length c0] ?_; (with_reducible refine (Qaz.calls kj3 _ _ t104 _ _ l0 true _ ?side1 ?side2 ?side3 ?side4 A14.out).mono ?_); (case side1 => exact pC (Kd.R_reads' HO106.out).2.2); (case side2 => exact (Kd.R_reads' HO106.out).2.1); (case side3 => exact pC (Kd.C_below HR0.out HB.out)); (case side4 => exact HC0.out); rintro e w' ⟨rfl, ⟨nd, rfl⟩⟩; refine ⟨_, rfl, ?_⟩; obtain ⟨hcz22_0, hcz22_1, hcz22_2, hcz22_3, hcz22_4, hfz22_0, hfz22_1, hfz22_2, hfz22_3, hfz22_4⟩ := cf5 BK101) | ((with_reducible refine gc 27 rfl ?_); refine gL 36 Tryz.func27 #[.slice A0 l0.length c0, .agg #[.int .i64 a1_0, .int .i64 a1_1, .int .i64 a1_2, .int .i64 a1_3, .int .i64 a1_4]] ?_; (with_reducible refine (Qba.calls kj3 _ _ l0 a1_0 a1_1 a1_2 a1_3 a1_4 t110 _ ?side1 ?side2 A16.out).mono ?_); (case side1 => exact pC (Kd.C_below HR0.out (pE HB))); (case side2 => exact HC0.out); rintro e w23 ⟨rfl, hb⟩; refine ⟨_, rfl, ?_⟩; replace HO106 := rb HO106 hb; replace BK101 := bb BK101 hb; replace HB := bs HB hb; clear hb))
     (try simp only [Act.put, List.setIfInBounds_toArray, List.set_cons_zero, List.set_cons_succ])
     go_cut [46] (fun v46 wc => ∃ (kq : Nat) (x46_16 : Bool), v46 = .bool x46_16 ∧ Qa (Qaq.j1 kq l0 a2 t107 t108 t110 (-1) x46_16 a1_0 a1_1 a1_2 a1_3 a1_4 = some r) ∧ Qa (kq ≤ kj3) ∧ Qa (wc.heap[gb101]? = some (.cells #[.int .i64 a1_0, .int .i64 a1_1, .int .i64 a1_2, .int .i64 a1_3, .int .i64 a1_4] 26 (0, 0))) ∧ Qa (Below w.heap.size w wc))
     case first =>
      have H := HC17.out; clear HC17; by_cases c24 : t110 = 0
      ·rw [if_pos c24] at H
       have c24b0 : (t110 == 0) = true := beq_iff_eq.mpr c24; have c24b1 : (t110 != 0) = false := bne_eq_false_iff_eq.mpr c24; clear c24
       (first | rw [c24b0] | (simp only [QR, QU]; rw [c24b0]) | skip)
       obtain ⟨t111, A25, H⟩ := bi H; have H' := Qa.mk H; clear H; go_wp2_with (first | (go_at_call 36; (with_reducible refine (Jp.calls a2 0 (wrap64 ((l0.length : Int) - 1)) t111 _ A25.out).mono ?_); rintro e w' ⟨rfl, ⟨nd, rfl⟩⟩))
       go_meet
       case rel => exact ⟨_, (!t111), eS, H', ⟨by have := HJ3.out; first | omega | exact Nat.le_refl _⟩, ⟨pB BK101.out⟩, ⟨pE HB⟩⟩
      ·rw [if_neg c24] at H
       have c24b0 : (t110 == 0) = false := beq_eq_false_iff_ne.mpr c24; have c24b1 : (t110 != 0) = true := bne_iff_ne.mpr c24
       (first | rw [c24b0] | (simp only [QR, QU]; rw [c24b0]) | skip)
       have H' := Qa.mk H; clear H; go_wp2
       go_meet
       case rel => exact ⟨_, (false), eS, H', ⟨by have := HJ3.out; first | omega | exact Nat.le_refl _⟩, ⟨pB BK101.out⟩, ⟨pE HB⟩⟩
     case rest =>
      clear HC17
      (try clear c9); (try clear c15); (try clear hcz19_0); (try clear hcz19_1); (try clear hcz19_2); (try clear hcz19_3); (try clear hcz19_4); (try clear hcz22_0); (try clear hcz22_1); (try clear hcz22_2); (try clear hcz22_3); (try clear hcz22_4); (try clear hfz19_0); (try clear hfz19_1); (try clear hfz19_2); (try clear hfz19_3); (try clear hfz19_4); (try clear hfz22_0); (try clear hfz22_1); (try clear hfz22_2); (try clear hfz22_3); (try clear hfz22_4)
      obtain ⟨kq, x46_16, rfl, HA, HJ16, BK101, HB⟩ := hcut
      cases kq with
      | zero => exact absurd HA.out (by simp [Qaq.j1])
      | succ kj16 =>
       have H := HA.out; clear HA; simp only [Qaq.j1] at H; have HC26 := Qa.mk H; clear H
       go_upto_if 46 with (fail)
       go_cut [10] (fun v10 wc => ∃ (kq : Nat) (x10_25 : Int), v10 = .int .i64 x10_25 ∧ Qa (Qaq.j2 kq l0 a2 t107 t108 x10_25 (-1) a1_0 a1_1 a1_2 a1_3 a1_4 = some r) ∧ Qa (kq ≤ kj16) ∧ Qa (wc.heap[gb101]? = some (.cells #[.int .i64 a1_0, .int .i64 a1_1, .int .i64 a1_2, .int .i64 a1_3, .int .i64 a1_4] 26 (0, 0))) ∧ Qa (Below w.heap.size w wc))
       case first =>
        have H := HC26.out; clear HC26; by_cases c27 : x46_16 = true
        ·subst c27
         rw [if_pos rfl] at H; have H' := Qa.mk H; clear H; go_wp2
         go_meet
         case rel => exact ⟨_, (7), eS, H', ⟨by have := HJ3.out; have := HJ16.out; first | omega | exact Nat.le_refl _⟩, ⟨pB BK101.out⟩, ⟨pE HB⟩⟩
        ·replace c27 := Bool.eq_false_iff.mpr c27
         subst c27; rw [if_neg (show ¬ (false = true) by decide)] at H; have H' := Qa.mk H; clear H; go_wp2
         go_meet
         case rel => exact ⟨_, (t110), eS, H', ⟨by have := HJ3.out; have := HJ16.out; first | omega | exact Nat.le_refl _⟩, ⟨pB BK101.out⟩, ⟨pE HB⟩⟩
       case rest =>
        clear HC26; obtain ⟨kq, x10_25, rfl, HA, HJ25, BK101, HB⟩ := hcut
        cases kq with
        | zero => exact absurd HA.out (by simp [Qaq.j2])
        | succ kj25 =>
         have H := HA.out; clear HA; simp only [Qaq.j2] at H; have HC28 := Qa.mk H; clear H
         go_upto_if 48 with (fail)
         go_cut [10, 11] (fun v10 v11 wc => ∃ (kq : Nat) (x10_27 : Int) (x11_27 : Int), v10 = .int .i64 x10_27 ∧ v11 = .int .i64 x11_27 ∧ Qa (Qaq.j3 kq t107 t108 x10_27 x11_27 = some r) ∧ Qa (kq ≤ kj25) ∧ Qa (wc.heap[gb101]? = some (.cells #[.int .i64 a1_0, .int .i64 a1_1, .int .i64 a1_2, .int .i64 a1_3, .int .i64 a1_4] 26 (0, 0))) ∧ Qa (Below w.heap.size w wc))
         case first =>
          have H := HC28.out; clear HC28; by_cases c29 : x10_25 = 0
          ·rw [if_pos c29] at H
           have c29b0 : (x10_25 == 0) = true := beq_iff_eq.mpr c29; have c29b1 : (x10_25 != 0) = false := bne_eq_false_iff_eq.mpr c29; clear c29
           (first | rw [c29b0] | (simp only [QR, QU]; rw [c29b0]) | skip)
           obtain ⟨t112, A30, H⟩ := bi H; by_cases c31 : t112 < 0
           ·rw [if_pos c31] at H
            have c31b0 : decide (t112 < 0) = true := decide_eq_true c31; clear c31; have H' := Qa.mk H; clear H; obtain ⟨hcz32_0, hcz32_1, hcz32_2, hcz32_3, hcz32_4, hfz32_0, hfz32_1, hfz32_2, hfz32_3, hfz32_4⟩ := cf5 BK101; go_wp2_with (first | ((with_reducible refine gc 37 rfl ?_); refine gL 52 Tryz.func37 #[.slice A0 l0.length c0, .agg #[.int .i64 a1_0, .int .i64 a1_1, .int .i64 a1_2, .int .i64 a1_3, .int .i64 a1_4], .int .i64 a2] ?_; (with_reducible refine (Qao.calls kj25 _ _ l0 a1_0 a1_1 a1_2 a1_3 a1_4 a2 t112 _ ?side1 ?side2 A30.out).mono ?_); (case side1 => exact pC (Kd.C_below HR0.out HB.out)); (case side2 => exact HC0.out); rintro e w33 ⟨rfl, hb⟩; refine ⟨_, rfl, ?_⟩; replace BK101 := bb BK101 hb; replace HB := bs HB hb; clear hb))
            go_meet
            case rel => exact ⟨_, (9), (t112), eS, eS, H', ⟨by have := HJ3.out; have := HJ16.out; have := HJ25.out; first | omega | exact Nat.le_refl _⟩, ⟨pB BK101.out⟩, ⟨pE HB⟩⟩
           ·rw [if_neg c31] at H
            have c31b0 : decide (t112 < 0) = false := decide_eq_false c31; clear c31; have H' := Qa.mk H; clear H; obtain ⟨hcz34_0, hcz34_1, hcz34_2, hcz34_3, hcz34_4, hfz34_0, hfz34_1, hfz34_2, hfz34_3, hfz34_4⟩ := cf5 BK101; go_wp2_with (first | ((with_reducible refine gc 37 rfl ?_); refine gL 52 Tryz.func37 #[.slice A0 l0.length c0, .agg #[.int .i64 a1_0, .int .i64 a1_1, .int .i64 a1_2, .int .i64 a1_3, .int .i64 a1_4], .int .i64 a2] ?_; (with_reducible refine (Qao.calls kj25 _ _ l0 a1_0 a1_1 a1_2 a1_3 a1_4 a2 t112 _ ?side1 ?side2 A30.out).mono ?_); (case side1 => exact pC (Kd.C_below HR0.out HB.out)); (case side2 => exact HC0.out); rintro e w35 ⟨rfl, hb⟩; refine ⟨_, rfl, ?_⟩; replace BK101 := bb BK101 hb; replace HB := bs HB hb; clear hb))
            go_meet
            case rel => exact ⟨_, (x10_25), (t112), eS, eS, H', ⟨by have := HJ3.out; have := HJ16.out; have := HJ25.out; first | omega | exact Nat.le_refl _⟩, ⟨pB BK101.out⟩, ⟨pE HB⟩⟩
          ·rw [if_neg c29] at H
           have c29b0 : (x10_25 == 0) = false := beq_eq_false_iff_ne.mpr c29; have c29b1 : (x10_25 != 0) = true := bne_iff_ne.mpr c29
           (first | rw [c29b0] | (simp only [QR, QU]; rw [c29b0]) | skip)
           have H' := Qa.mk H; clear H; go_wp2
           go_meet
           case rel => exact ⟨_, (x10_25), ((-1)), eS, eS, H', ⟨by have := HJ3.out; have := HJ16.out; have := HJ25.out; first | omega | exact Nat.le_refl _⟩, ⟨pB BK101.out⟩, ⟨pE HB⟩⟩
         case rest =>
          clear HC28; obtain ⟨kq, x10_27, x11_27, rfl, rfl, HA, HJ27, BK101, HB⟩ := hcut
          cases kq with
          | zero => exact absurd HA.out (by simp [Qaq.j3])
          | succ kj27 =>
           have H := HA.out; clear HA; simp only [Qaq.j3] at H; by_cases c36 : x10_27 = 0
           ·rw [if_pos c36] at H
            have c36b0 : (x10_27 == 0) = true := beq_iff_eq.mpr c36; have c36b1 : (x10_27 != 0) = false := bne_eq_false_iff_eq.mpr c36; clear c36; by_cases c37 : t108 = 0
            ·rw [if_pos c37] at H
             have c37b0 : (t108 == 0) = true := beq_iff_eq.mpr c37; have c37b1 : (t108 != 0) = false := bne_eq_false_iff_eq.mpr c37; clear c37; by_cases c38 : t107 = x11_27
             ·rw [if_pos c38] at H
              have c38b0 : (t107 == x11_27) = true := beq_iff_eq.mpr c38; have c38b1 : (t107 != x11_27) = false := bne_eq_false_iff_eq.mpr c38; clear c38; obtain ⟨t113, A39, H⟩ := bi H; obtain rfl := Option.some.inj H; go_wp2_with (first | (go_at_call 15; (with_reducible refine (Qd.calls kj27  t113 _ A39.out).mono ?_); rintro e w40 ⟨rfl, hb⟩; replace BK101 := bb BK101 hb; replace HB := bs HB hb; (try clear hb); (try clear hb2); (try clear hk); (try clear hi))); go_ret; exact ⟨eT, pE HB⟩
             ·rw [if_neg c38] at H
              have c38b0 : (t107 == x11_27) = false := beq_eq_false_iff_ne.mpr c38; have c38b1 : (t107 != x11_27) = true := bne_iff_ne.mpr c38; exact absurd ((Option.some.inj H).trans HRT.out) (by simp)
            ·rw [if_neg c37] at H
             have c37b0 : (t108 == 0) = false := beq_eq_false_iff_ne.mpr c37; have c37b1 : (t108 != 0) = true := bne_iff_ne.mpr c37; exact absurd ((Option.some.inj H).trans HRT.out) (by simp)
           ·rw [if_neg c36] at H
            have c36b0 : (x10_27 == 0) = false := beq_eq_false_iff_ne.mpr c36; have c36b1 : (x10_27 != 0) = true := bne_iff_ne.mpr c36; by_cases c41 : t108 = x10_27
            ·rw [if_pos c41] at H
             have c41b0 : (t108 == x10_27) = true := beq_iff_eq.mpr c41; have c41b1 : (t108 != x10_27) = false := bne_eq_false_iff_eq.mpr c41; clear c41; by_cases c42 : t107 = 0
             ·rw [if_pos c42] at H
              have c42b0 : (t107 == 0) = true := beq_iff_eq.mpr c42; have c42b1 : (t107 != 0) = false := bne_eq_false_iff_eq.mpr c42; clear c42; obtain ⟨t114, A43, H⟩ := bi H; obtain rfl := Option.some.inj H; go_wp2_with (first | (go_at_call 15; (with_reducible refine (Qd.calls kj27  t114 _ A43.out).mono ?_); rintro e w44 ⟨rfl, hb⟩; replace BK101 := bb BK101 hb; replace HB := bs HB hb; (try clear hb); (try clear hb2); (try clear hk); (try clear hi))); go_ret; exact ⟨eT, pE HB⟩
             ·rw [if_neg c42] at H
              have c42b0 : (t107 == 0) = false := beq_eq_false_iff_ne.mpr c42; have c42b1 : (t107 != 0) = true := bne_iff_ne.mpr c42; exact absurd ((Option.some.inj H).trans HRT.out) (by simp)
            ·rw [if_neg c41] at H
             have c41b0 : (t108 == x10_27) = false := beq_eq_false_iff_ne.mpr c41; have c41b1 : (t108 != x10_27) = true := bne_iff_ne.mpr c41; exact absurd ((Option.some.inj H).trans HRT.out) (by simp)
    ·replace c15 := Bool.eq_false_iff.mpr c15
     subst c15; rw [if_neg (show ¬ (false = true) by decide)] at H; exact absurd ((Option.some.inj H).trans HRT.out) (by simp)
end Go.Proofs.YtjaapkkpmegkfaaGreat.P
namespace Go.Proofs.YtjaapkkpmegkfaaGreat.P
open Go.RowKit Go.Shelf Go.Proofs.YtjaapkkpmegkfaaGreatW.PrintWords Go.Proofs.YtjaapkkpmegkfaaGreatW.PrintLast Go.Proofs.YtjaapkkpmegkfaaGreatW.PrintMore
theorem Qdo (n a b : Int) : Jp.f n a b = some (decide (a ≤ n ∧ n ≤ b)) := by
 unfold Jp.f; by_cases h : n ≥ a
 ·rw [if_pos h]
  congr 1
  exact decide_eq_decide.2 (by omega)
 ·rw [if_neg h]
  congr 1
  symm
  rw [decide_eq_false_iff_not]; omega
theorem Qeb {l : List S100} {a b c d e n : Int} (ho : opn l a b c d e ≠ 0) {k : Nat} : Q7.f k l a b c d e n = some (0, opn l a b c d e) := by
 unfold Q7.f; rw [Qca]; simp only [Option.bind_some]; rw [if_neg ho]
theorem Qdj {l : List S100} {a b c d e n : Int} (hl : chk l = 0) (hc : okC a b c d e = true) (hn : ¬ (0 ≤ n ∧ n < l.length)) {k : Nat} : Q7.f k l a b c d e n = some (0, 7) := by
 have h4 := (chk0 hl).2.1; have hopn : opn l a b c d e = 0 := by unfold opn; rw [if_pos hl, if_pos hc]
 unfold Q7.f; rw [Qca]; simp only [Option.bind_some]; rw [if_pos hopn, w64 (x := (l.length : Int) - 1) (by omega), Y1]; simp only [Option.bind_some]; rw [if_neg (by simp; omega)]
theorem Qcm (l : List S100) (a b c d e n : Int) : ∃ k, Qaq.f k l a b c d e n = some true := by
 refine ⟨60000 + 1 + 1 + 1 + 1, ?_⟩
 have hk0 : Qaq.j0 (60000 + 1 + 1 + 1 + 1) l n true a b c d e = some true := by
  simp only [Qaq.j0]; rw [if_pos trivial, Qd.at (by omega)]; rfl
 unfold Qaq.f; by_cases h1 : (l.length : Int) > 20
 ·rw [if_pos h1, hk0]
 rw [if_neg h1]; obtain ⟨s, hs⟩ := Qc0 l (by omega) (k := 60000 + 1 + 1 + 1 + 1) (by omega); rw [hs]; simp only [Option.bind_some]
 cases s with
 | false => exact hk0
 | true =>
  have hbad : ∀ (x w : Int), w ≠ 0 → Qaq.j3 (60000 + 1) 0 w w x = some true := by
   intro x w hw; simp only [Qaq.j3]; rw [if_neg hw, if_pos trivial, if_pos trivial, Qd.at (by omega)]; rfl
  have hbad1 : ∀ (x w : Int), w ≠ 0 → Qaq.j2 (60000 + 1 + 1) l n 0 w w x a b c d e = some true := by
   intro x w hw; simp only [Qaq.j2]; rw [if_neg hw]; exact hbad x w hw
  simp only [Qaq.j0]; rw [if_neg (by simp), Qd9 l (by omega)]; simp only [Option.bind_some]; by_cases ho : opn l a b c d e = 0
  ·obtain ⟨hl, hc⟩ := opn0 ho
   have h4 := (chk0 hl).2.1; by_cases hn : 0 ≤ n ∧ n < l.length
   ·obtain ⟨m, rfl⟩ := Int.eq_ofNat_of_zero_le hn.1
    obtain ⟨r, r1, r2, r3, r4, r5⟩ := dear_eq hl hc hn.1 hn.2 (k := 60000 + 1 + 1 + 1) (by omega); rw [r5]; simp only [Option.bind_some]; rw [Qcb l (by omega) (by omega)]; simp only [Option.bind_some, if_true]; rw [Qb4 _ _ _ _ _ _ (by omega)]; simp only [Option.bind_some]; rw [if_pos ho, w64 (x := (l.length : Int) - 1) (by omega), Qdo]; simp only [Option.bind_some]; rw [decide_eq_true (by omega)]; simp only [Qaq.j1, Bool.not_true]; rw [if_neg (by simp), ho]; simp only [Qaq.j2]; rw [if_pos trivial, Qdz hl hc (by omega) ⟨r1, r2⟩ r3 r4 (by omega)]; simp only [Option.bind_some]; by_cases hr : r = 0
    ·subst hr
     have e0 : (if (0 : Int) = 0 then ((0 : Int), (9 : Int)) else (0 - 1, 0)) = (0, 9) := rfl; rw [e0, if_pos (by omega)]; exact hbad _ 9 (by decide)
    ·rw [if_neg hr, if_neg (by omega)]
     simp only [Qaq.j3]; rw [if_pos trivial, if_pos trivial, if_pos trivial, Qd.at (by omega)]; rfl
   ·rw [Qdj hl hc hn]
    simp only [Option.bind_some]; rw [Qcb l (by omega) (by omega)]; simp only [Option.bind_some, if_true]; rw [Qb4 _ _ _ _ _ _ (by omega)]; simp only [Option.bind_some]; rw [if_pos ho, w64 (x := (l.length : Int) - 1) (by omega), Qdo]; simp only [Option.bind_some]; rw [decide_eq_false (by omega)]; simp only [Qaq.j1, Bool.not_false]; rw [if_pos trivial]; exact hbad1 _ 7 (by decide)
  ·rw [Qeb ho]
   simp only [Option.bind_some]; rw [Qcb l (by omega) (by omega)]; simp only [Option.bind_some, if_true]; rw [Qb4 _ _ _ _ _ _ (by omega)]; simp only [Option.bind_some]; rw [if_neg ho]; simp only [Qaq.j1]; rw [if_neg (by simp)]; exact hbad1 _ _ ho
end Go.Proofs.YtjaapkkpmegkfaaGreat.P
