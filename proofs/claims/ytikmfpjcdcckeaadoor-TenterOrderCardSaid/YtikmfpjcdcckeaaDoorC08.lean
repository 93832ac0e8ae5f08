/- Part 8 of what the law's proof needs: words, walks of functions and plain facts. -/
import Derived.Deep.Slices
import Derived.OpenShut
import Derived.ChangeArms
import Derived.Test.YtikmfpjcdcckeaaDoorC01
import Derived.Test.YtikmfpjcdcckeaaDoorC04
import Derived.Test.YtikmfpjcdcckeaaDoorC07
set_option linter.unusedVariables false
set_option linter.unusedSimpArgs false
namespace Go.Proofs.YtikmfpjcdcckeaaDoor.P
open Go.RowKit Go.ChangeShapes Go.WideShapes Go.Deep Go.Proofs.YtikmfpjcdcckeaaDoorW.PrintWords Go.Proofs.YtikmfpjcdcckeaaDoorW.PrintLast Go.Proofs.YtikmfpjcdcckeaaDoorW.PrintMore
structure Opens {α : Type} (P : Program) (d : Kd α) (t : TypeId) (B : α → Prop) : Prop where
  sz : P.cellsOf t = d.sz
  op : ∀ (H : Type) (enc : TypeId × Value → H) (w : World) (base : Nat) (spare : Nat → Bool) (held : Bool) (n : Nat) (cs : List Value) (x : DataW H × List MemPlace), DataW.trod enc P w base spare held n t cs = some x → ∃ p, d.K w p cs ∧ B p
theorem Opens.int {P : Program} {t : TypeId} {k : IntKind} (ht : P.underlying t = some (.int k)) (hc : P.cellsOf t = 1) : Opens P (Kd.int k) t (fun n => (Lit.int k n).wf = true) :=
  ⟨hc, fun H enc w base spare held n cs x h => by
    obtain ⟨m, rfl, _, hw⟩ := DataW.trod_int ht h
    exact ⟨m, rfl, hw⟩⟩
theorem Opens.bool {P : Program} {t : TypeId} (ht : P.underlying t = some .bool) (hc : P.cellsOf t = 1) : Opens P Kd.bool t (fun _ => True) :=
  ⟨hc, fun H enc w base spare held n cs x h => by
    obtain ⟨b, rfl, _⟩ := DataW.trod_bool ht h
    exact ⟨b, rfl, trivial⟩⟩
theorem Opens.imp {α : Type} {P : Program} {d : Kd α} {t : TypeId} {B B' : α → Prop} (h : Opens P d t B) (hb : ∀ x, B x → B' x) : Opens P d t B' :=
  ⟨h.sz, fun H enc w base spare held n cs x hx => by obtain ⟨p, h1, h2⟩ := h.op H enc w base spare held n cs x hx; exact ⟨p, h1, hb p h2⟩⟩
theorem choose_list {α : Type} {Q : Nat → α → Prop} : ∀ (n : Nat), (∀ i, i < n → ∃ p, Q i p) → ∃ l : List α, l.length = n ∧ ∀ i p, l[i]? = some p → Q i p
  | 0, _ => ⟨[], rfl, fun i p h => by simp at h⟩
  | n + 1, h => by
    obtain ⟨l, hl, hq⟩ := choose_list n (fun i hi => h i (by omega))
    obtain ⟨p, hp⟩ := h n (by omega)
    refine ⟨l ++ [p], by simp [hl], fun i q hi => ?_⟩
    rcases Nat.lt_or_ge i l.length with h1 | h1
    · rw [List.getElem?_append_left h1] at hi
      exact hq i q hi
    · have : i = n := by
        have := (List.getElem?_eq_some_iff.1 hi).1
        simp at this
        omega
      subst this
      rw [List.getElem?_append_right h1, hl, Nat.sub_self] at hi
      obtain rfl : p = q := by simpa using hi
      exact hp
theorem Opens.slice {α : Type} {P : Program} {d : Kd α} {t e : TypeId} {B : α → Prop} (h : Opens P d e B) (ht : P.underlying t = some (.slice e)) (hc : P.cellsOf t = 1) : Opens P (Kd.slice e d) t (fun l => ∀ x ∈ l, B x) :=
  ⟨hc, fun H enc w base spare held n cs x hx => by
    rcases open_slice ht hx with ⟨rfl, _⟩ | ⟨a, len, cap, m, n', D, Pl, rfl, hb, hl, hm, hmm, _, hi⟩
    · exact ⟨[], ⟨none, 0, rfl, Nat.le_refl _, Kd.C_nil _ _⟩, fun x hx => by cases hx⟩
    · obtain ⟨l, hll, hq⟩ := choose_list (Q := fun i p => (∃ cs', d.K w p cs' ∧ ∀ j, j < d.sz → w.cell? (a.add (i * d.sz + j)) = cs'[j]?) ∧ B p) len (fun i hi' => by
        obtain ⟨cs', hcs, htr⟩ := hi i (by rw [hmm]; split <;> omega)
        obtain ⟨p, hk, hp⟩ := h.op H enc w base spare held n' cs' _ htr
        obtain ⟨_, hcl, hat⟩ := World.cells?_some hcs
        rw [h.sz] at hat
        exact ⟨p, ⟨cs', hk, fun j hj => by
          have := hat j hj
          rw [Go.Deep.add_add] at this
          exact this⟩, hp⟩)
      refine ⟨l, ⟨some a, cap, by rw [hll], by rw [hll]; exact hl, ⟨rfl, by rw [hll]; simp only [maxLen] at hm; omega, fun h0 => ⟨a, rfl, fun j p hj => ?_⟩⟩⟩, fun x hx => ?_⟩
      · obtain ⟨⟨cs', hk, hat⟩, _⟩ := hq j p hj
        refine ⟨cs', d.K_len hk, hk, fun i u hu => ?_⟩
        have hi' : i < d.sz := by have := (List.getElem?_eq_some_iff.1 hu).1; rw [d.K_len hk] at this; exact this
        rw [hat i hi', hu]
      · obtain ⟨i, hi'⟩ := List.getElem?_of_mem hx
        exact (hq i x hi').2⟩
def OpensS {α : Type} (P : Program) (fs : Array Field) (j off : Nat) (d : Kd α) (B : α → Prop) : Prop :=
  ∀ (H : Type) (enc : TypeId × Value → H) (w : World) (base : Nat) (spare : Nat → Bool) (held : Bool) (n : Nat) (cs : List Value) (xs : List (DataW H × List MemPlace)), xs.length = fs.size →
    (∀ (i : Nat) (f : Field), fs[i]? = some f → DataW.trod enc P w base spare held n f.type ((cs.drop f.offset).take (P.cellsOf f.type)) = xs[i]?) → ∃ p, d.K w p ((cs.drop off).take d.sz) ∧ B p
theorem OpensS.one {α : Type} {P : Program} {fs : Array Field} {j off : Nat} {d : Kd α} {B : α → Prop} (f : Field) (hf : fs[j]? = some f) (ho : f.offset = off) (h : Opens P d f.type B) : OpensS P fs j off d B := by
  intro H enc w base spare held n cs xs hl hx
  have h1 := hx j f hf
  have hj : j < xs.length := by rw [hl]; exact (Array.getElem?_eq_some_iff.1 hf).1
  rw [List.getElem?_eq_getElem hj, ho, h.sz] at h1
  exact h.op H enc w base spare held n _ _ h1
theorem OpensS.cons {α β : Type} {P : Program} {fs : Array Field} {j off : Nat} {d : Kd α} {d' : Kd β} {B : α → Prop} {B' : β → Prop} (h : OpensS P fs j off d B) (h' : OpensS P fs (j + 1) (off + d.sz) d' B') : OpensS P fs j off (Kd.pair d d') (fun p => B p.1 ∧ B' p.2) := by
  intro H enc w base spare held n cs xs hl hx
  obtain ⟨p, h1, h2⟩ := h H enc w base spare held n cs xs hl hx
  obtain ⟨q, h3, h4⟩ := h' H enc w base spare held n cs xs hl hx
  refine ⟨(p, q), ⟨_, _, ?_, h1, h3⟩, h2, h4⟩
  show (cs.drop off).take (d.sz + d'.sz) = _
  rw [List.take_add, List.drop_drop]
theorem OpensS.iso {α β : Type} {P : Program} {fs : Array Field} {j off : Nat} {d : Kd α} {B : α → Prop} (h : OpensS P fs j off d B) (f : β → α) (g : α → β) (hg : ∀ a, f (g a) = a) : OpensS P fs j off (Kd.iso d f) (fun y => B (f y)) := by
  intro H enc w base spare held n cs xs hl hx
  obtain ⟨p, h1, h2⟩ := h H enc w base spare held n cs xs hl hx
  exact ⟨g p, by show d.K w (f (g p)) _; rw [hg]; exact h1, by show B (f (g p)); rw [hg]; exact h2⟩
theorem Opens.struct {α : Type} {P : Program} {fs : Array Field} {d : Kd α} {t : TypeId} {B : α → Prop} (h : OpensS P fs 0 0 d B) (ht : P.underlying t = some (.struct fs)) (hc : P.cellsOf t = d.sz) : Opens P d t B :=
  ⟨hc, fun H enc w base spare held n cs x hx => by
    obtain ⟨xs, n', _, _, hcl, hl, hf⟩ := DataW.trod_struct ht hx
    obtain ⟨p, h1, h2⟩ := h H enc w base spare held n' cs xs hl hf
    refine ⟨p, ?_, h2⟩
    rw [List.drop_zero, List.take_of_length_le (by rw [hcl, hc]; exact Nat.le_refl _)] at h1
    exact h1⟩
theorem Opens.array {α : Type} {P : Program} {fs : Array Field} {d : Kd α} {t e : TypeId} {n : Nat} {B : α → Prop} (h : OpensS P fs 0 0 d B) (ht : P.underlying t = some (.array n e)) (hc : P.cellsOf t = d.sz) (he : P.cellsOf e = 1) (hn : fs.size = n) (hf : ∀ i : Fin fs.size, fs[i].type = e ∧ fs[i].offset = i.val) : Opens P d t B :=
  ⟨hc, fun H enc w base spare held n' cs x hx => by
    obtain ⟨xs, m, _, _, hcl, hl, hg⟩ := DataW.trod_array ht hx
    obtain ⟨p, h1, h2⟩ := h H enc w base spare held m cs xs (by rw [hl, hn]) (fun i f hi => by
      obtain ⟨hi', rfl⟩ := Array.getElem?_eq_some_iff.1 hi
      obtain ⟨e1, e2⟩ := hf ⟨i, hi'⟩
      have e1' : fs[i].type = e := e1
      have e2' : fs[i].offset = i := e2
      have := hg i (by rw [← hn]; exact hi')
      rw [he, Nat.mul_one] at this
      rw [e1', e2', he]; exact this)
    refine ⟨p, ?_, h2⟩
    rw [List.drop_zero, List.take_of_length_le (by rw [hcl, hc]; exact Nat.le_refl _)] at h1
    exact h1⟩
theorem Opens.arg_slice {α : Type} {P : Program} {d : Kd α} {t e : TypeId} {B : List α → Prop} (h : Opens P (Kd.slice e d) t B) {H : Type} {enc : TypeId × Value → H} {w : World} {base : Nat} {spare : Nat → Bool} {held : Bool} {v : Value} {x : DataW H} {ps : List MemPlace} {a : Option Addr} {len cap : Nat} (hv : v = .slice a len cap) (hx : DataW.Trod enc P w base spare held t v x ps) :
    ∃ l : List α, len = l.length ∧ l.length ≤ cap ∧ Kd.C d w a l.length l ∧ B l := by
  obtain ⟨n, hn⟩ := hx
  subst hv
  obtain ⟨l, ⟨A, c, he, hl, hr⟩, hb⟩ := h.op H enc w base spare held n _ _ hn
  have he' : Value.slice a len cap = .slice A l.length c := by simpa [Value.cells] using he
  cases he'
  exact ⟨l, rfl, hl, hr, hb⟩
theorem Opens.arg {α : Type} {P : Program} {d : Kd α} {t : TypeId} {B : α → Prop} (h : Opens P d t B) {H : Type} {enc : TypeId × Value → H} {w : World} {base : Nat} {spare : Nat → Bool} {held : Bool} {v : Value} {x : DataW H} {ps : List MemPlace} (hx : DataW.Trod enc P w base spare held t v x ps) :
    ∃ p : α, d.K w p v.cells.toList ∧ B p := by
  obtain ⟨n, hn⟩ := hx
  exact h.op H enc w base spare held n _ _ hn
theorem agg_cells {v : Value} {l : List Value} (h : v.cells.toList = l) (hl : 2 ≤ l.length) : v = .agg l.toArray := by
  cases v with
  | agg x => simp only [Value.cells] at h; rw [← h]
  | _ => simp only [Value.cells] at h; subst h; simp at hl
end Go.Proofs.YtikmfpjcdcckeaaDoor.P
namespace Go.Proofs.YtikmfpjcdcckeaaDoor.P
open Go.RowKit Go.Proofs.YtikmfpjcdcckeaaDoorW.PrintWords
def IsK (k : IntKind) (n : Int) : Prop := (Lit.int k n).wf = true
theorem O_u8 : Opens Tryd.prog (Kd.int .u8) 5 (IsK .u8) := Opens.int Tryd.underlying5 (by kernel_rfl)
def B71 (x : S71) : Prop := (IsK .u8) x.f0 ∧ (IsK .u8) x.f1 ∧ (IsK .u8) x.f2 ∧ (IsK .u8) x.f3
theorem O71 : Opens Tryd.prog k71 71 B71 := by
  refine Opens.array (fs := #[⟨"", 5, 0, false, "", "", 0⟩, ⟨"", 5, 1, false, "", "", 0⟩, ⟨"", 5, 2, false, "", "", 0⟩, ⟨"", 5, 3, false, "", "", 0⟩]) ?_ Tryd.underlying71 (by kernel_rfl) (by kernel_rfl) rfl (by decide)
  refine OpensS.iso (d := (Kd.pair (Kd.int .u8) (Kd.pair (Kd.int .u8) (Kd.pair (Kd.int .u8) (Kd.int .u8))))) (B := fun p => (IsK .u8) p.1 ∧ (IsK .u8) p.2.1 ∧ (IsK .u8) p.2.2.1 ∧ (IsK .u8) p.2.2.2) ?_ (fun x : S71 => (x.f0, x.f1, x.f2, x.f3)) (fun p => ⟨p.1, p.2.1, p.2.2.1, p.2.2.2⟩) (fun _ => rfl)
  refine OpensS.cons (B := IsK .u8) (B' := fun p : Int × Int × Int => (IsK .u8) p.1 ∧ (IsK .u8) p.2.1 ∧ (IsK .u8) p.2.2) ?_ ?_
  · exact OpensS.one _ rfl rfl O_u8
  refine OpensS.cons (B := IsK .u8) (B' := fun p : Int × Int => (IsK .u8) p.1 ∧ (IsK .u8) p.2) ?_ ?_
  · exact OpensS.one _ rfl rfl O_u8
  refine OpensS.cons (B := IsK .u8) (B' := fun p : Int => (IsK .u8) p) ?_ ?_
  · exact OpensS.one _ rfl rfl O_u8
  exact OpensS.one _ rfl rfl O_u8
def B23 (x : S23) : Prop := (IsK .u8) x.f0 ∧ (IsK .u8) x.f1 ∧ (IsK .u8) x.f2
theorem O23 : Opens Tryd.prog k23 23 B23 := by
  refine Opens.array (fs := #[⟨"", 5, 0, false, "", "", 0⟩, ⟨"", 5, 1, false, "", "", 0⟩, ⟨"", 5, 2, false, "", "", 0⟩]) ?_ Tryd.underlying23 (by kernel_rfl) (by kernel_rfl) rfl (by decide)
  refine OpensS.iso (d := (Kd.pair (Kd.int .u8) (Kd.pair (Kd.int .u8) (Kd.int .u8)))) (B := fun p => (IsK .u8) p.1 ∧ (IsK .u8) p.2.1 ∧ (IsK .u8) p.2.2) ?_ (fun x : S23 => (x.f0, x.f1, x.f2)) (fun p => ⟨p.1, p.2.1, p.2.2⟩) (fun _ => rfl)
  refine OpensS.cons (B := IsK .u8) (B' := fun p : Int × Int => (IsK .u8) p.1 ∧ (IsK .u8) p.2) ?_ ?_
  · exact OpensS.one _ rfl rfl O_u8
  refine OpensS.cons (B := IsK .u8) (B' := fun p : Int => (IsK .u8) p) ?_ ?_
  · exact OpensS.one _ rfl rfl O_u8
  exact OpensS.one _ rfl rfl O_u8
def B65 (x : S65) : Prop := (IsK .u8) x.f0 ∧ (IsK .u8) x.f1
theorem O65 : Opens Tryd.prog k65 65 B65 := by
  refine Opens.array (fs := #[⟨"", 5, 0, false, "", "", 0⟩, ⟨"", 5, 1, false, "", "", 0⟩]) ?_ Tryd.underlying65 (by kernel_rfl) (by kernel_rfl) rfl (by decide)
  refine OpensS.iso (d := (Kd.pair (Kd.int .u8) (Kd.int .u8))) (B := fun p => (IsK .u8) p.1 ∧ (IsK .u8) p.2) ?_ (fun x : S65 => (x.f0, x.f1)) (fun p => ⟨p.1, p.2⟩) (fun _ => rfl)
  refine OpensS.cons (B := IsK .u8) (B' := fun p : Int => (IsK .u8) p) ?_ ?_
  · exact OpensS.one _ rfl rfl O_u8
  exact OpensS.one _ rfl rfl O_u8
def B26 (x : S26) : Prop := (fun l => ∀ x ∈ l, (B71) x) x.f0 ∧ (B23) x.f1 ∧ (IsK .u8) x.f2 ∧ (IsK .u8) x.f3 ∧ (fun l => ∀ x ∈ l, (B65) x) x.f4
theorem O26 : Opens Tryd.prog k26 26 B26 := by
  refine Opens.struct ?_ Tryd.underlying26 (by kernel_rfl)
  refine OpensS.iso (d := (Kd.pair (Kd.slice 71 k71) (Kd.pair k23 (Kd.pair (Kd.int .u8) (Kd.pair (Kd.int .u8) (Kd.slice 65 k65)))))) (B := fun p => (fun l => ∀ x ∈ l, (B71) x) p.1 ∧ (B23) p.2.1 ∧ (IsK .u8) p.2.2.1 ∧ (IsK .u8) p.2.2.2.1 ∧ (fun l => ∀ x ∈ l, (B65) x) p.2.2.2.2) ?_ (fun x : S26 => (x.f0, x.f1, x.f2, x.f3, x.f4)) (fun p => ⟨p.1, p.2.1, p.2.2.1, p.2.2.2.1, p.2.2.2.2⟩) (fun _ => rfl)
  refine OpensS.cons (B := fun l => ∀ x ∈ l, (B71) x) (B' := fun p : S23 × Int × Int × (List S65) => (B23) p.1 ∧ (IsK .u8) p.2.1 ∧ (IsK .u8) p.2.2.1 ∧ (fun l => ∀ x ∈ l, (B65) x) p.2.2.2) ?_ ?_
  · exact OpensS.one _ rfl rfl (Opens.slice O71 Tryd.underlying22 (by kernel_rfl))
  refine OpensS.cons (B := B23) (B' := fun p : Int × Int × (List S65) => (IsK .u8) p.1 ∧ (IsK .u8) p.2.1 ∧ (fun l => ∀ x ∈ l, (B65) x) p.2.2) ?_ ?_
  · exact OpensS.one _ rfl rfl O23
  refine OpensS.cons (B := IsK .u8) (B' := fun p : Int × (List S65) => (IsK .u8) p.1 ∧ (fun l => ∀ x ∈ l, (B65) x) p.2) ?_ ?_
  · exact OpensS.one _ rfl rfl O_u8
  refine OpensS.cons (B := IsK .u8) (B' := fun p : (List S65) => (fun l => ∀ x ∈ l, (B65) x) p) ?_ ?_
  · exact OpensS.one _ rfl rfl O_u8
  exact OpensS.one _ rfl rfl (Opens.slice O65 Tryd.underlying24 (by kernel_rfl))
end Go.Proofs.YtikmfpjcdcckeaaDoor.P
namespace Go.Proofs.YtikmfpjcdcckeaaDoor.P
open Go.RowKit Go.Proofs.YtikmfpjcdcckeaaDoorW.PrintWords Go.Proofs.YtikmfpjcdcckeaaDoorW.PrintLast Go.Proofs.YtikmfpjcdcckeaaDoorW.PrintMore
theorem b8_of {x : Int} (h : IsK .u8 x) : B8 x := by
  unfold IsK at h
  simp [Lit.wf, IntKind.min, IntKind.max, IntKind.signed, IntKind.bits] at h
  unfold B8
  omega
theorem g4_of {v : S71} (h : B71 v) : G4 v := ⟨b8_of h.1, b8_of h.2.1, b8_of h.2.2.1, b8_of h.2.2.2⟩
theorem g2_of {v : S65} (h : B65 v) : G2 v := ⟨b8_of h.1, b8_of h.2⟩
theorem TRO_l0 (T : List Int) (w : List S40) (rain : Int) (l : List Int) (e : Int) (a b : Int) (cl : List S42) (fr : List Int) (g s : Int) (hh : wx cl fr g s w rain = 0) : ∀ (d i k : Nat), i + d = cl.length → 120 + d < k →
    ∃ k', walkmilllaw05_TenterOrder.l0 k T w rain l e ((rng i).map fun i => lateA cl w i rain) i a b cl fr g s = walkmilllaw05_TenterOrder.l0 k' T w rain l e (lates cl w rain) (cl.length : Int) a b cl fr g s ∧ k ≤ k' + d
  | 0, i, k, hd, hk => by
    obtain rfl : i = cl.length := by omega
    exact ⟨k, rfl, by omega⟩
  | d + 1, i, k, hd, hk => by
    obtain ⟨k, rfl⟩ : ∃ m, k = m + 1 := ⟨k - 1, by omega⟩
    have ok := chk_ok (wx_ok hh).1
    have hn := ok.1
    have hw := (wx_ok hh).2.2.1
    obtain ⟨n, e', e1, e2⟩ := tLate_law k cl fr g s w i rain hh (by omega) (by omega)
    obtain ⟨k', q1, q2⟩ := TRO_l0 T w rain l e a b cl fr g s hh d (i + 1) k (by omega) (by omega)
    refine ⟨k', ?_, by omega⟩
    rw [← q1, walkmilllaw05_TenterOrder.l0, if_pos (by omega), own_eq cl fr g s (by omega) (by have := ok.2.2.1; omega), Option.bind_some, spans_eq w (by omega), Option.bind_some]
    simp only
    rw [e1, Option.bind_some, nx i (by omega), rng_snoc, List.map_append]
    simp only [List.length_map, rng_length, List.map_cons, List.map_nil]
    by_cases he : e' = 0
    · rw [if_pos he] at e2
      rw [if_pos he, if_pos (by omega), e2]
    · rw [if_neg he] at e2
      rw [if_neg he, if_pos (by omega), e2]
theorem len_a (l : List Int) (j : Nat) (h : l.length ≤ 100) : ([] : List Int).length + (l.take (j : Int).toNat).length < 17592186044416 := by
  have := List.length_take_le' (j : Int).toNat l
  rw [List.length_nil]
  omega
theorem len_b (l : List Int) (j m : Nat) (h : l.length ≤ 100) : (([] : List Int) ++ l.take (j : Int).toNat).length + (l.drop ((m : Nat) : Int).toNat).length < 17592186044416 := by
  have := List.length_take_le' (j : Int).toNat l
  rw [List.nil_append, List.length_drop]
  omega
theorem TRO_l2 (T : List Int) (hT : ∀ x ∈ T, B8 x) (lt : List Int) (n : Nat) (hn : lt.length = n) (hn8 : n ≤ 8) (hno : ¬ Feas lt 0 (rng n)) : ∀ (d : Nat) (b left : List Int) (k : Nat), b.length + d = n → left.length = d → d < k → (b ++ left).Perm (rng n) →
    walkmilllaw05_TenterOrder.l2 k T lt left (okFrom lt 0 b) b.length = some true
  | 0, b, left, k, hb, hl, hk, hp => by
    obtain ⟨k, rfl⟩ : ∃ m, k = m + 1 := ⟨k - 1, by omega⟩
    rw [walkmilllaw05_TenterOrder.l2, if_neg (by omega)]
    have : left = [] := List.eq_nil_of_length_eq_zero hl
    subst this
    rw [List.append_nil] at hp
    cases ho : okFrom lt 0 b with
    | false => rw [if_neg (by simp)]; rfl
    | true =>
      exact absurd ⟨b, hp, fun i hi => by have := (okFrom_iff lt b 0).1 ho i hi; simpa using this⟩ hno
  | d + 1, b, left, k, hb, hl, hk, hp => by
    obtain ⟨k, rfl⟩ : ∃ m, k = m + 1 := ⟨k - 1, by omega⟩
    have hy := byteOf_eq hT (i := (b.length : Int)) (by omega)
    have hm := tmod_pos hy.2.1 (n := (left.length : Int)) (by omega)
    obtain ⟨j, hj⟩ : ∃ j : Nat, Int.tmod (byOf T b.length) (left.length : Int) = j := ⟨(Int.tmod (byOf T b.length) (left.length : Int)).toNat, by omega⟩
    rw [hj] at hm
    have hj' : j < left.length := by omega
    have hx : 0 ≤ left[j] ∧ left[j] < (n : Int) := mem_rng.1 (hp.mem_iff.1 (by simp))
    have i1 : (0 : Int) ≤ (j : Int) := Int.natCast_nonneg j
    have i2 : (j : Int) < (left.length : Int) := Int.ofNat_lt.2 hj'
    have i3 : (j : Int) ≤ (left.length : Int) := Int.le_of_lt i2
    have i4 : (0 : Int) ≤ ((j + 1 : Nat) : Int) := Int.natCast_nonneg _
    have i5 : ((j + 1 : Nat) : Int) ≤ (left.length : Int) := Int.ofNat_le.2 hj'
    have i6 : left[j] < (lt.length : Int) := by rw [hn]; exact hx.2
    have l100 : left.length ≤ 100 := by omega
    have hsplit : left.take j ++ left[j] :: left.drop (j + 1) = left := by rw [← List.drop_eq_getElem_cons hj', List.take_append_drop]
    have hq : (left[j] :: (left.take j ++ left.drop (j + 1))).Perm left := List.perm_middle.symm.trans (List.Perm.of_eq hsplit)
    have hp' : ((b ++ [left[j]]) ++ (left.take j ++ left.drop (j + 1))).Perm (rng n) := by
      refine List.Perm.trans ?_ hp
      rw [List.append_assoc, List.singleton_append]
      exact List.Perm.append_left b hq
    have hlen : (left.take j ++ left.drop (j + 1)).length = d := by rw [List.length_append, List.length_take, List.length_drop]; omega
    have okS : okFrom lt 0 (b ++ [left[j]]) = (okFrom lt 0 b && decide ((b.length : Int) ≤ rd lt left[j])) := by
      rw [okFrom_append, Nat.zero_add, okFrom, okFrom, Bool.and_true]
    have ih := TRO_l2 T hT lt n hn hn8 hno d (b ++ [left[j]]) (left.take j ++ left.drop (j + 1)) k (by simp; omega) hlen (by omega) hp'
    rw [okS, show (b ++ [left[j]]).length = b.length + 1 by simp] at ih
    have e1 : wrap64 ((j : Int) + 1) = ((j + 1 : Nat) : Int) := nx j (by omega)
    rw [walkmilllaw05_TenterOrder.l2, if_pos (by omega), hy.1, Option.bind_some, if_neg (by omega), hj, e1, nx b.length (by omega), rd_at left j hj']
    have t1 : ([] : List Int).length + (left.take (j : Int).toNat).length < 17592186044416 := len_a left j l100
    have t2 : (([] : List Int) ++ left.take (j : Int).toNat).length + (left.drop (((j + 1 : Nat) : Int)).toNat).length < 17592186044416 := len_b left j (j + 1) l100
    cases ho : okFrom lt 0 b with
    | true =>
      rw [ho, Bool.true_and] at ih
      rw [if_pos rfl, if_pos i1, if_pos i2, if_pos hx.1, if_pos i6, Option.bind_some, if_pos i3, Option.bind_some, if_pos t1, Option.bind_some, if_pos i4, if_pos i5, Option.bind_some, if_pos t2, List.nil_append, Int.toNat_natCast, Int.toNat_natCast]
      exact ih
    | false =>
      rw [ho, Bool.false_and] at ih
      rw [if_neg (by simp), Option.bind_some, if_pos i1, if_pos i3, Option.bind_some, if_pos t1, Option.bind_some, if_pos i4, if_pos i5, Option.bind_some, if_pos t2, List.nil_append, Int.toNat_natCast, Int.toNat_natCast]
      exact ih
theorem TRO_l1 (T : List Int) (lt : List Int) (ok : Bool) (hl : lt.length ≤ 100) : ∀ (d i k : Nat), i + d = lt.length → d < k →
    ∃ k', walkmilllaw05_TenterOrder.l1 k T lt (rng i) ok i = walkmilllaw05_TenterOrder.l2 k' T lt (rng lt.length) ok 0 ∧ k ≤ k' + d + 1
  | 0, i, k, hd, hk => by
    obtain ⟨k, rfl⟩ : ∃ m, k = m + 1 := ⟨k - 1, by omega⟩
    obtain rfl : i = lt.length := by omega
    exact ⟨k, by rw [walkmilllaw05_TenterOrder.l1, if_neg (by omega)], by omega⟩
  | d + 1, i, k, hd, hk => by
    obtain ⟨k, rfl⟩ : ∃ m, k = m + 1 := ⟨k - 1, by omega⟩
    obtain ⟨k', q1, q2⟩ := TRO_l1 T lt ok hl d (i + 1) k (by omega) (by omega)
    refine ⟨k', ?_, by omega⟩
    rw [← q1, walkmilllaw05_TenterOrder.l1, if_pos (by omega), if_pos (by rw [rng_length]; omega), nx i (by omega), rng_snoc]
def updS (D : Int) (y : S40) : S40 := ⟨mn 100 (y.f0 + D), mn 100 (y.f1 + D)⟩
theorem mn_le (a b : Int) : mn a b ≤ a ∧ mn a b ≤ b ∧ (mn a b = a ∨ mn a b = b) := by unfold mn; split <;> omega
theorem TRO_l4 (w : List S40) (rain later a b : Int) (hb : B8 b) (cl : List S42) (fr : List Int) (g s : Int) (hc : chk cl fr g s = 0) (hw : w.length ≤ 12) (hwb : ∀ x ∈ w, 0 ≤ x.f0 ∧ x.f0 ≤ x.f1 ∧ x.f1 ≤ 100)
    (fin : ∀ k, 1000 < k → (match tenter_Order.f k cl fr g s (w.map (updS (Int.tmod b 9))) rain, tenter_Order.f k cl fr g s w later with | some x, some y => x.2 = 0 ∧ y.2 = 0 | _, _ => False)) : ∀ (d i k : Nat), i + d = w.length → 1100 + d < k →
    walkmilllaw05_TenterOrder.l4 k w rain ((w.take i).map (updS (Int.tmod b 9)) ++ w.drop i) later i a b cl fr g s = some true
  | 0, i, k, hd, hk => by
    obtain ⟨k, rfl⟩ : ∃ m, k = m + 1 := ⟨k - 1, by omega⟩
    have ok := chk_ok hc
    have f := fin k (by omega)
    rw [List.take_of_length_le (by omega), List.drop_of_length_le (by omega), List.append_nil, walkmilllaw05_TenterOrder.l4, if_neg (by rw [List.length_map]; omega), own_eq cl fr g s (by omega) (by omega), Option.bind_some]
    simp only
    cases h1 : tenter_Order.f k cl fr g s (w.map (updS (Int.tmod b 9))) rain with
    | none => rw [h1] at f; exact f.elim
    | some x =>
      cases h2 : tenter_Order.f k cl fr g s w later with
      | none => rw [h1, h2] at f; exact f.elim
      | some y =>
        rw [h1, h2] at f
        rw [Option.bind_some, Option.bind_some, if_pos f.1, if_pos f.2]; rfl
  | d + 1, i, k, hd, hk => by
    obtain ⟨k, rfl⟩ : ∃ m, k = m + 1 := ⟨k - 1, by omega⟩
    have hi : i < w.length := by omega
    have hbi := hwb w[i] (List.getElem_mem _)
    have hD := tmod_pos hb.1 (n := 9) (by omega)
    have hlen : ((w.take i).map (updS (Int.tmod b 9)) ++ w.drop i).length = w.length := by rw [List.length_append, List.length_map, List.length_take, List.length_drop]; omega
    have hti : ((w.take i).map (updS (Int.tmod b 9))).length = i := by rw [List.length_map, List.length_take]; omega
    have er : rd_T40 ((w.take i).map (updS (Int.tmod b 9)) ++ w.drop i) (i : Int) = w[i] := by
      rw [rd40_at _ i (by omega), List.getElem_append_right (by omega)]
      simp only [hti, Nat.sub_self, List.getElem_drop, Nat.add_zero]
    rw [walkmilllaw05_TenterOrder.l4, if_pos (by rw [hlen]; omega), if_pos (by omega), er, w64_of (n := b) (by have := hb.1; omega) (by have := hb.2; omega), w64_of (n := w[i].f0 + _) (by omega) (by omega), w64_of (n := w[i].f1 + _) (by omega) (by omega), span_eq, Option.bind_some, nx i (by omega)]
    have es : ((w.take i).map (updS (Int.tmod b 9)) ++ w.drop i).set ((i : Int)).toNat ⟨mn 100 (w[i].f0 + Int.tmod b 9), mn 100 (w[i].f1 + Int.tmod b 9)⟩ = (w.take (i + 1)).map (updS (Int.tmod b 9)) ++ w.drop (i + 1) := by
      rw [Int.toNat_natCast, List.set_append_right _ _ (by omega), hti, Nat.sub_self, List.drop_eq_getElem_cons hi, List.set_cons_zero, List.take_succ_eq_append_getElem hi, List.map_append, List.append_assoc]
      rfl
    simp only
    rw [es]
    exact TRO_l4 w rain later a b hb cl fr g s hc hw hwb fin d (i + 1) k (by omega) (by omega)
def L3 (k : Nat) (w : List S40) (rain : Int) (p lt : List Int) (h a b : Int) (cl : List S42) (fr : List Int) (g s : Int) (f : Nat → Bool) : Option Bool := walkmilllaw05_TenterOrder.l3 k w rain p lt h a b cl fr g s (f 0) (f 1) (f 2) (f 3) (f 4) (f 5)
theorem TRO_step (w : List S40) (rain a b : Int) (p lt : List Int) (n : Nat) (hn : lt.length = n) (hn6 : n ≤ 6) (cl : List S42) (fr : List Int) (g s : Int) (h : Nat) (hh : h < p.length) (hp : p.length ≤ 100) (c : Nat) (hc : p[h] = (c : Int)) (hcn : c < n) (f : Nat → Bool) (hf : f c = false) (hl : (h : Int) ≤ rd lt c) (k : Nat) :
    L3 (k + 1) w rain p lt h a b cl fr g s f = L3 k w rain p lt ((h + 1 : Nat) : Int) a b cl fr g s (fun i => if i = c then true else f i) := by
  unfold L3
  rw [walkmilllaw05_TenterOrder.l3, if_pos (by omega), if_pos (by omega), rd_at p h hh, hc, if_neg (by omega), if_neg (by omega), nx h (by omega)]
  have i1 : (0 : Int) ≤ (c : Int) := by omega
  have i2 : (c : Int) < (lt.length : Int) := by omega
  have i3 : ¬ rd lt (c : Int) < (h : Int) := by omega
  have hc6 : c < 6 := by omega
  obtain rfl | rfl | rfl | rfl | rfl | rfl : c = 0 ∨ c = 1 ∨ c = 2 ∨ c = 3 ∨ c = 4 ∨ c = 5 := by omega
  · rw [if_pos (by omega), if_neg (by rw [hf]; simp), if_pos i1, if_pos i2, if_neg i3]; rfl
  · rw [if_neg (by omega), if_pos (by omega), if_neg (by rw [hf]; simp), if_pos i1, if_pos i2, if_neg i3]; rfl
  · rw [if_neg (by omega), if_neg (by omega), if_pos (by omega), if_neg (by rw [hf]; simp), if_pos i1, if_pos i2, if_neg i3]; rfl
  · rw [if_neg (by omega), if_neg (by omega), if_neg (by omega), if_pos (by omega), if_neg (by rw [hf]; simp), if_pos i1, if_pos i2, if_neg i3]; rfl
  · rw [if_neg (by omega), if_neg (by omega), if_neg (by omega), if_neg (by omega), if_pos (by omega), if_neg (by rw [hf]; simp), if_pos i1, if_pos i2, if_neg i3]; rfl
  · rw [if_neg (by omega), if_neg (by omega), if_neg (by omega), if_neg (by omega), if_neg (by omega), if_pos (by omega), if_neg (by rw [hf]; simp), if_pos i1, if_pos i2, if_neg i3]; rfl
theorem TRO_l3 (w : List S40) (rain a b : Int) (p lt : List Int) (n : Nat) (hn : lt.length = n) (hn6 : n ≤ 6) (hpp : p.Perm (rng n)) (hok : okFrom lt 0 p = true) (cl : List S42) (fr : List Int) (g s : Int) (K : Nat)
    (fin : ∀ (k : Nat) (f : Nat → Bool), K < k → L3 k w rain p lt (p.length : Int) a b cl fr g s f = some true) : ∀ (d h k : Nat) (f : Nat → Bool), h + d = p.length → K + d < k → (∀ i : Nat, f i = true ↔ (i : Int) ∈ p.take h) →
    L3 k w rain p lt h a b cl fr g s f = some true
  | 0, h, k, f, hd, hk, hf => by
    obtain rfl : h = p.length := by omega
    exact fin k f (by omega)
  | d + 1, h, k, f, hd, hk, hf => by
    obtain ⟨k, rfl⟩ : ∃ m, k = m + 1 := ⟨k - 1, by omega⟩
    have hpl : p.length = n := by rw [hpp.length_eq, rng_length]
    have hh : h < p.length := by omega
    have hx := mem_rng.1 (hpp.mem_iff.1 (List.getElem_mem hh))
    obtain ⟨c, hc⟩ : ∃ c : Nat, p[h] = c := ⟨p[h].toNat, by omega⟩
    have hnd : p.Nodup := hpp.symm.nodup (rng_nodup n)
    have hnot : ¬ (c : Int) ∈ p.take h := by
      intro hm
      obtain ⟨j, hj, e⟩ := List.getElem_of_mem hm
      rw [List.getElem_take] at e
      rw [List.length_take] at hj
      have := (List.nodup_iff_pairwise_ne.1 hnd |> List.pairwise_iff_getElem.1) j h (by omega) hh (by omega)
      exact this (by rw [e, hc])
    have hfc : f c = false := by
      cases q : f c with
      | false => rfl
      | true => exact absurd ((hf c).1 q) hnot
    have hl := (okFrom_iff lt p 0).1 hok h hh
    rw [TRO_step w rain a b p lt n hn hn6 cl fr g s h hh (by omega) c hc (by omega) f hfc (by rw [← hc]; simpa using hl) k]
    refine TRO_l3 w rain a b p lt n hn hn6 hpp hok cl fr g s K fin d (h + 1) k _ (by omega) (by omega) fun i => ?_
    rw [List.take_succ_eq_append_getElem hh, List.mem_append, List.mem_singleton, hc, ← hf i]
    by_cases e : i = c
    · subst e; simp
    · rw [if_neg e]
      constructor
      · exact fun x => .inl x
      · rintro (x | x)
        · exact x
        · exact absurd (by omega) e
theorem updS_bd {D : Int} (h0 : 0 ≤ D) {y : S40} (h1 : 0 ≤ y.f0) (h2 : y.f0 ≤ y.f1) (h3 : y.f1 ≤ 100) : y.f0 ≤ (updS D y).f0 ∧ 0 ≤ (updS D y).f0 ∧ (updS D y).f0 ≤ (updS D y).f1 ∧ (updS D y).f1 ≤ 100 := by
  have a := mn_le 100 (y.f0 + D)
  have b := mn_le 100 (y.f1 + D)
  unfold updS
  refine ⟨?_, ?_, ?_, ?_⟩ <;> simp only <;> omega
theorem order_some (k : Nat) (cl : List S42) (fr : List Int) (g s : Int) (w : List S40) (rain : Int) (hh : wx cl fr g s w rain = 0) (hk : 1000 < k) (ho : orderA cl w rain ≠ none) : ∃ q, tenter_Order.f k cl fr g s w rain = some (q, 0) := by
  rw [tOrder_eq k cl fr g s w rain hk, if_pos hh]
  cases h : orderA cl w rain with
  | none => exact absurd h ho
  | some q => exact ⟨q, rfl⟩
theorem TRO_K {l0 : List S71} (h0 : ∀ v ∈ l0, G4 v) {a1 a2 a3 a4 a5 : Int} (h1 : B8 a1) (h2 : B8 a2) (h3 : B8 a3) (h4 : B8 a4) (h5 : B8 a5) {l6 : List S65} (h6 : ∀ v ∈ l6, G2 v) {T : List Int} (hT : ∀ x ∈ T, B8 x) {v0 v1 : Int} (hv0 : B8 v0) (hv1 : B8 v1) :
    ∀ K : Nat, 5000 ≤ K → walkmilllaw05_TenterOrder.f (K + 1) l0 a1 a2 a3 a4 a5 l6 T v0 v1 = some true := by
  intro K hK
  obtain ⟨cl, fr, g, s, ef, hc, hl⟩ := field_eq h0 h1 h2 h3 h4 h5 l6 (K + 1) (by omega)
  obtain ⟨w, ew, w1, w2, w3⟩ := weather_eq l0 a1 a2 a3 a4 a5 h6 (K + 1) (by omega)
  have hfr := (chk_ok hc).2.2.1
  have hh : ∀ h : Int, 0 ≤ h → h ≤ (w.length : Int) → wx cl fr g s w h = 0 := fun h q1 q2 => wx_zero hc w1 w2 w3 q1 q2
  have hwb : ∀ x ∈ w, 0 ≤ x.f0 ∧ x.f0 ≤ x.f1 ∧ x.f1 ≤ 100 := (wx_ok (hh 0 (by omega) (by omega))).2.2.2.1
  obtain ⟨r, hr, er⟩ : ∃ q : Nat, q ≤ w.length ∧ Int.tmod (wrap64 v0) (wrap64 ((w.length : Int) + 1)) = (q : Int) := by
    obtain ⟨u1, u2⟩ := hv0
    rw [w64_of (n := v0) (by omega) (by omega), w64_of (n := (w.length : Int) + 1) (by omega) (by omega)]
    have := tmod_pos u1 (n := (w.length : Int) + 1) (by omega)
    exact ⟨(Int.tmod v0 ((w.length : Int) + 1)).toNat, by omega, by omega⟩
  have hD := tmod_pos hv1.1 (n := 9) (by omega)
  have hub : ∀ y ∈ w, y.f0 ≤ (updS (Int.tmod v1 9) y).f0 := fun y hy => by have := hwb y hy; exact (updS_bd hD.1 this.1 this.2.1 this.2.2).1
  have hw' : wx cl fr g s (w.map (updS (Int.tmod v1 9))) r = 0 := wx_zero hc (by simpa using w1) (by simpa using w2) (fun x hx => by
    obtain ⟨y, hy, rfl⟩ := List.mem_map.1 hx
    have := hwb y hy
    have := updS_bd hD.1 this.1 this.2.1 this.2.2
    unfold spanOk
    simp only [Bool.and_eq_true, isIn_iff, decide_eq_true_eq]
    omega) (by omega) (by rw [List.length_map]; omega)
  have hll := lates_length cl w r
  unfold walkmilllaw05_TenterOrder.f
  rw [ef, Option.bind_some, ew, Option.bind_some]
  rw [if_neg (by rw [w64_of (by omega) (by omega)]; omega), er, own_eq cl fr g s (by omega) (by omega), Option.bind_some, spans_eq w (by omega), Option.bind_some]
  simp only
  rw [tOrder_eq (K + 1) cl fr g s w r (by omega), if_pos (hh r (by omega) (by omega)), Option.bind_some]
  obtain ⟨k', q1, q2⟩ := TRO_l0 T w r (ordR (orderA cl w r)).1 (ordR (orderA cl w r)).2 v0 v1 cl fr g s (hh r (by omega) (by omega)) cl.length 0 (K + 1) (by omega) (by omega)
  rw [show rng 0 = [] from rfl, List.map_nil, show ((0 : Nat) : Int) = 0 from rfl] at q1
  rw [q1]
  obtain ⟨k', rfl⟩ : ∃ m, k' = m + 2 := ⟨k' - 2, by omega⟩
  rw [show k' + 2 = (k' + 1) + 1 by omega, walkmilllaw05_TenterOrder.l0, if_neg (by omega)]
  have hd : (leftOf cl.length []).length = cl.length := by rw [leftOf_nil, rng_length]
  cases ho : orderA cl w r with
  | none =>
    have hno := (orderA_iff cl w r).1 ho
    show (if (9 : Int) = 0 then _ else (if (9 : Int) = 9 then (walkmilllaw05_TenterOrder.j1 (k' + 1) T (lates cl w r) ((([] : List Int).length : Int) != 0)) else _)) = some true
    rw [if_neg (by omega), if_pos rfl, walkmilllaw05_TenterOrder.j1, if_neg (by simp)]
    obtain ⟨k2, r1, r2⟩ := TRO_l1 T (lates cl w r) true (by omega) (lates cl w r).length 0 k' (by omega) (by omega)
    rw [show rng 0 = [] from rfl, show ((0 : Nat) : Int) = 0 from rfl] at r1
    rw [r1]
    have := TRO_l2 T hT (lates cl w r) cl.length hll (by omega) hno cl.length [] (rng cl.length) k2 (by simp) (rng_length _) (by omega) (by simp)
    rw [hll]
    exact this
  | some p =>
    have hp := List.mem_of_find?_eq_some ho
    have hok := List.find?_some ho
    obtain ⟨t, ht0, ht⟩ := (mem_ordL cl.length cl.length [] p hd).1 hp
    rw [List.nil_append] at ht0
    rw [leftOf_nil, ← ht0] at ht
    have hpl : p.length = cl.length := by rw [ht.length_eq, rng_length]
    have hne : orderA cl w r ≠ none := by rw [ho]; simp
    show (if (0 : Int) = 0 then (if (p.length : Int) = ((lates cl w r).length : Int) then (walkmilllaw05_TenterOrder.l3 (k' + 1) w r p (lates cl w r) 0 v0 v1 cl fr g s false false false false false false) else _) else _) = some true
    rw [if_pos rfl, if_pos (by omega)]
    refine TRO_l3 w r v0 v1 p (lates cl w r) cl.length hll hl ht hok cl fr g s 2000 ?_ p.length 0 (k' + 1) (fun _ => false) (by omega) (by omega) (fun i => by simp)
    intro k f hk
    obtain ⟨k, rfl⟩ : ∃ m, k = m + 1 := ⟨k - 1, by omega⟩
    unfold L3
    rw [walkmilllaw05_TenterOrder.l3, if_neg (by omega), spans_eq w (by omega), Option.bind_some, nx r (by omega)]
    obtain ⟨la, hla, hla1, hla2⟩ : ∃ la : Nat, mn (w.length : Int) ((r + 1 : Nat) : Int) = la ∧ r ≤ la ∧ la ≤ w.length := by
      have := mn_le (w.length : Int) ((r + 1 : Nat) : Int)
      exact ⟨(mn (w.length : Int) ((r + 1 : Nat) : Int)).toNat, by omega, by omega, by omega⟩
    rw [hla]
    have := TRO_l4 w r la v0 v1 hv1 cl fr g s hc w2 hwb (fun k hk => by
      obtain ⟨x, e1⟩ := order_some k cl fr g s (w.map (updS (Int.tmod v1 9))) r hw' hk (orderA_mono (updS (Int.tmod v1 9)) cl w (fun x hx => (hwb x hx).1) hub r r (Nat.le_refl _) hr hne)
      have hid := orderA_mono id cl w (fun x hx => (hwb x hx).1) (fun y _ => Int.le_refl _) r la hla1 hla2 hne
      rw [List.map_id] at hid
      obtain ⟨y, e2⟩ := order_some k cl fr g s w la (hh la (by omega) (by omega)) hk hid
      rw [e1, e2]
      exact ⟨rfl, rfl⟩) w.length 0 k (by omega) (by omega)
    simpa using this
theorem TenterOrder_yes {l0 : List S71} (h0 : ∀ v ∈ l0, G4 v) {a1 a2 a3 a4 a5 : Int} (h1 : B8 a1) (h2 : B8 a2) (h3 : B8 a3) (h4 : B8 a4) (h5 : B8 a5) {l6 : List S65} (h6 : ∀ v ∈ l6, G2 v) {T : List Int} (hT : ∀ x ∈ T, B8 x) {v0 v1 : Int} (hv0 : B8 v0) (hv1 : B8 v1) :
    ∃ k, walkmilllaw05_TenterOrder.f k l0 a1 a2 a3 a4 a5 l6 T v0 v1 = some true := ⟨5000 + 1, TRO_K h0 h1 h2 h3 h4 h5 h6 hT hv0 hv1 5000 (Nat.le_refl _)⟩
end Go.Proofs.YtikmfpjcdcckeaaDoor.P
