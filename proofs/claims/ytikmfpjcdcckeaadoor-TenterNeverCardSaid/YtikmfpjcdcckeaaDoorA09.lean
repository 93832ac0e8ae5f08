/- Part 9 of what the law's proof needs: words, walks of functions and plain facts. -/
import Derived.Deep.Slices
import Derived.OpenShut
import Derived.ChangeArms
import Derived.Test.YtikmfpjcdcckeaaDoorA01
import Derived.Test.YtikmfpjcdcckeaaDoorA05
import Derived.Test.YtikmfpjcdcckeaaDoorA08
set_option linter.unusedVariables false
set_option linter.unusedSimpArgs false
namespace Go.Proofs.YtikmfpjcdcckeaaDoor.P
open Go.RowKit Go.ChangeShapes Go.WideShapes Go.Deep Go.Proofs.YtikmfpjcdcckeaaDoorW.PrintWords Go.Proofs.YtikmfpjcdcckeaaDoorW.PrintLast Go.Proofs.YtikmfpjcdcckeaaDoorW.PrintMore
structure Opens {α : Type} (P : Program) (d : Kd α) (t : TypeId) (B : α → Prop) : Prop where
  sz : P.cellsOf t = d.sz
  op : ∀ (H : Type) (enc : TypeId × Value → H) (w : World) (base : Nat) (spare : Nat → Bool) (held : Bool) (n : Nat) (cs : List Value) (x : DataW H × List MemPlace), DataW.trod enc P w base spare held n t cs = some x → ∃ p, d.K w p cs ∧ B p
theorem Opens.int {P : Program} {t : TypeId} {k : IntKind} (ht : P.underlying t = some (.int k)) (hc : P.cellsOf t = 1) : Opens P (Kd.int k) t (fun n => (Lit.int k n).wf = true) :=
  ⟨hc, fun H enc w base spare held n cs x h => by
    obtain ⟨m, rfl, _, hw⟩ := DataW.trod_int ht h
    exact ⟨m, rfl, hw⟩⟩
theorem Opens.bool {P : Program} {t : TypeId} (ht : P.underlying t = some .bool) (hc : P.cellsOf t = 1) : Opens P Kd.bool t (fun _ => True) :=
  ⟨hc, fun H enc w base spare held n cs x h => by
    obtain ⟨b, rfl, _⟩ := DataW.trod_bool ht h
    exact ⟨b, rfl, trivial⟩⟩
theorem Opens.imp {α : Type} {P : Program} {d : Kd α} {t : TypeId} {B B' : α → Prop} (h : Opens P d t B) (hb : ∀ x, B x → B' x) : Opens P d t B' :=
  ⟨h.sz, fun H enc w base spare held n cs x hx => by obtain ⟨p, h1, h2⟩ := h.op H enc w base spare held n cs x hx; exact ⟨p, h1, hb p h2⟩⟩
theorem choose_list {α : Type} {Q : Nat → α → Prop} : ∀ (n : Nat), (∀ i, i < n → ∃ p, Q i p) → ∃ l : List α, l.length = n ∧ ∀ i p, l[i]? = some p → Q i p
  | 0, _ => ⟨[], rfl, fun i p h => by simp at h⟩
  | n + 1, h => by
    obtain ⟨l, hl, hq⟩ := choose_list n (fun i hi => h i (by omega))
    obtain ⟨p, hp⟩ := h n (by omega)
    refine ⟨l ++ [p], by simp [hl], fun i q hi => ?_⟩
    rcases Nat.lt_or_ge i l.length with h1 | h1
    · rw [List.getElem?_append_left h1] at hi
      exact hq i q hi
    · have : i = n := by
        have := (List.getElem?_eq_some_iff.1 hi).1
        simp at this
        omega
      subst this
      rw [List.getElem?_append_right h1, hl, Nat.sub_self] at hi
      obtain rfl : p = q := by simpa using hi
      exact hp
theorem Opens.slice {α : Type} {P : Program} {d : Kd α} {t e : TypeId} {B : α → Prop} (h : Opens P d e B) (ht : P.underlying t = some (.slice e)) (hc : P.cellsOf t = 1) : Opens P (Kd.slice e d) t (fun l => ∀ x ∈ l, B x) :=
  ⟨hc, fun H enc w base spare held n cs x hx => by
    rcases open_slice ht hx with ⟨rfl, _⟩ | ⟨a, len, cap, m, n', D, Pl, rfl, hb, hl, hm, hmm, _, hi⟩
    · exact ⟨[], ⟨none, 0, rfl, Nat.le_refl _, Kd.C_nil _ _⟩, fun x hx => by cases hx⟩
    · obtain ⟨l, hll, hq⟩ := choose_list (Q := fun i p => (∃ cs', d.K w p cs' ∧ ∀ j, j < d.sz → w.cell? (a.add (i * d.sz + j)) = cs'[j]?) ∧ B p) len (fun i hi' => by
        obtain ⟨cs', hcs, htr⟩ := hi i (by rw [hmm]; split <;> omega)
        obtain ⟨p, hk, hp⟩ := h.op H enc w base spare held n' cs' _ htr
        obtain ⟨_, hcl, hat⟩ := World.cells?_some hcs
        rw [h.sz] at hat
        exact ⟨p, ⟨cs', hk, fun j hj => by
          have := hat j hj
          rw [Go.Deep.add_add] at this
          exact this⟩, hp⟩)
      refine ⟨l, ⟨some a, cap, by rw [hll], by rw [hll]; exact hl, ⟨rfl, by rw [hll]; simp only [maxLen] at hm; omega, fun h0 => ⟨a, rfl, fun j p hj => ?_⟩⟩⟩, fun x hx => ?_⟩
      · obtain ⟨⟨cs', hk, hat⟩, _⟩ := hq j p hj
        refine ⟨cs', d.K_len hk, hk, fun i u hu => ?_⟩
        have hi' : i < d.sz := by have := (List.getElem?_eq_some_iff.1 hu).1; rw [d.K_len hk] at this; exact this
        rw [hat i hi', hu]
      · obtain ⟨i, hi'⟩ := List.getElem?_of_mem hx
        exact (hq i x hi').2⟩
def OpensS {α : Type} (P : Program) (fs : Array Field) (j off : Nat) (d : Kd α) (B : α → Prop) : Prop :=
  ∀ (H : Type) (enc : TypeId × Value → H) (w : World) (base : Nat) (spare : Nat → Bool) (held : Bool) (n : Nat) (cs : List Value) (xs : List (DataW H × List MemPlace)), xs.length = fs.size →
    (∀ (i : Nat) (f : Field), fs[i]? = some f → DataW.trod enc P w base spare held n f.type ((cs.drop f.offset).take (P.cellsOf f.type)) = xs[i]?) → ∃ p, d.K w p ((cs.drop off).take d.sz) ∧ B p
theorem OpensS.one {α : Type} {P : Program} {fs : Array Field} {j off : Nat} {d : Kd α} {B : α → Prop} (f : Field) (hf : fs[j]? = some f) (ho : f.offset = off) (h : Opens P d f.type B) : OpensS P fs j off d B := by
  intro H enc w base spare held n cs xs hl hx
  have h1 := hx j f hf
  have hj : j < xs.length := by rw [hl]; exact (Array.getElem?_eq_some_iff.1 hf).1
  rw [List.getElem?_eq_getElem hj, ho, h.sz] at h1
  exact h.op H enc w base spare held n _ _ h1
theorem OpensS.cons {α β : Type} {P : Program} {fs : Array Field} {j off : Nat} {d : Kd α} {d' : Kd β} {B : α → Prop} {B' : β → Prop} (h : OpensS P fs j off d B) (h' : OpensS P fs (j + 1) (off + d.sz) d' B') : OpensS P fs j off (Kd.pair d d') (fun p => B p.1 ∧ B' p.2) := by
  intro H enc w base spare held n cs xs hl hx
  obtain ⟨p, h1, h2⟩ := h H enc w base spare held n cs xs hl hx
  obtain ⟨q, h3, h4⟩ := h' H enc w base spare held n cs xs hl hx
  refine ⟨(p, q), ⟨_, _, ?_, h1, h3⟩, h2, h4⟩
  show (cs.drop off).take (d.sz + d'.sz) = _
  rw [List.take_add, List.drop_drop]
theorem OpensS.iso {α β : Type} {P : Program} {fs : Array Field} {j off : Nat} {d : Kd α} {B : α → Prop} (h : OpensS P fs j off d B) (f : β → α) (g : α → β) (hg : ∀ a, f (g a) = a) : OpensS P fs j off (Kd.iso d f) (fun y => B (f y)) := by
  intro H enc w base spare held n cs xs hl hx
  obtain ⟨p, h1, h2⟩ := h H enc w base spare held n cs xs hl hx
  exact ⟨g p, by show d.K w (f (g p)) _; rw [hg]; exact h1, by show B (f (g p)); rw [hg]; exact h2⟩
theorem Opens.struct {α : Type} {P : Program} {fs : Array Field} {d : Kd α} {t : TypeId} {B : α → Prop} (h : OpensS P fs 0 0 d B) (ht : P.underlying t = some (.struct fs)) (hc : P.cellsOf t = d.sz) : Opens P d t B :=
  ⟨hc, fun H enc w base spare held n cs x hx => by
    obtain ⟨xs, n', _, _, hcl, hl, hf⟩ := DataW.trod_struct ht hx
    obtain ⟨p, h1, h2⟩ := h H enc w base spare held n' cs xs hl hf
    refine ⟨p, ?_, h2⟩
    rw [List.drop_zero, List.take_of_length_le (by rw [hcl, hc]; exact Nat.le_refl _)] at h1
    exact h1⟩
theorem Opens.array {α : Type} {P : Program} {fs : Array Field} {d : Kd α} {t e : TypeId} {n : Nat} {B : α → Prop} (h : OpensS P fs 0 0 d B) (ht : P.underlying t = some (.array n e)) (hc : P.cellsOf t = d.sz) (he : P.cellsOf e = 1) (hn : fs.size = n) (hf : ∀ i : Fin fs.size, fs[i].type = e ∧ fs[i].offset = i.val) : Opens P d t B :=
  ⟨hc, fun H enc w base spare held n' cs x hx => by
    obtain ⟨xs, m, _, _, hcl, hl, hg⟩ := DataW.trod_array ht hx
    obtain ⟨p, h1, h2⟩ := h H enc w base spare held m cs xs (by rw [hl, hn]) (fun i f hi => by
      obtain ⟨hi', rfl⟩ := Array.getElem?_eq_some_iff.1 hi
      obtain ⟨e1, e2⟩ := hf ⟨i, hi'⟩
      have e1' : fs[i].type = e := e1
      have e2' : fs[i].offset = i := e2
      have := hg i (by rw [← hn]; exact hi')
      rw [he, Nat.mul_one] at this
      rw [e1', e2', he]; exact this)
    refine ⟨p, ?_, h2⟩
    rw [List.drop_zero, List.take_of_length_le (by rw [hcl, hc]; exact Nat.le_refl _)] at h1
    exact h1⟩
theorem Opens.arg_slice {α : Type} {P : Program} {d : Kd α} {t e : TypeId} {B : List α → Prop} (h : Opens P (Kd.slice e d) t B) {H : Type} {enc : TypeId × Value → H} {w : World} {base : Nat} {spare : Nat → Bool} {held : Bool} {v : Value} {x : DataW H} {ps : List MemPlace} {a : Option Addr} {len cap : Nat} (hv : v = .slice a len cap) (hx : DataW.Trod enc P w base spare held t v x ps) :
    ∃ l : List α, len = l.length ∧ l.length ≤ cap ∧ Kd.C d w a l.length l ∧ B l := by
  obtain ⟨n, hn⟩ := hx
  subst hv
  obtain ⟨l, ⟨A, c, he, hl, hr⟩, hb⟩ := h.op H enc w base spare held n _ _ hn
  have he' : Value.slice a len cap = .slice A l.length c := by simpa [Value.cells] using he
  cases he'
  exact ⟨l, rfl, hl, hr, hb⟩
theorem Opens.arg {α : Type} {P : Program} {d : Kd α} {t : TypeId} {B : α → Prop} (h : Opens P d t B) {H : Type} {enc : TypeId × Value → H} {w : World} {base : Nat} {spare : Nat → Bool} {held : Bool} {v : Value} {x : DataW H} {ps : List MemPlace} (hx : DataW.Trod enc P w base spare held t v x ps) :
    ∃ p : α, d.K w p v.cells.toList ∧ B p := by
  obtain ⟨n, hn⟩ := hx
  exact h.op H enc w base spare held n _ _ hn
theorem agg_cells {v : Value} {l : List Value} (h : v.cells.toList = l) (hl : 2 ≤ l.length) : v = .agg l.toArray := by
  cases v with
  | agg x => simp only [Value.cells] at h; rw [← h]
  | _ => simp only [Value.cells] at h; subst h; simp at hl
end Go.Proofs.YtikmfpjcdcckeaaDoor.P
namespace Go.Proofs.YtikmfpjcdcckeaaDoor.P
open Go.RowKit Go.Proofs.YtikmfpjcdcckeaaDoorW.PrintWords
def IsK (k : IntKind) (n : Int) : Prop := (Lit.int k n).wf = true
theorem O_u8 : Opens Tryd.prog (Kd.int .u8) 5 (IsK .u8) := Opens.int Tryd.underlying5 (by kernel_rfl)
def B71 (x : S71) : Prop := (IsK .u8) x.f0 ∧ (IsK .u8) x.f1 ∧ (IsK .u8) x.f2 ∧ (IsK .u8) x.f3
theorem O71 : Opens Tryd.prog k71 71 B71 := by
  refine Opens.array (fs := #[⟨"", 5, 0, false, "", "", 0⟩, ⟨"", 5, 1, false, "", "", 0⟩, ⟨"", 5, 2, false, "", "", 0⟩, ⟨"", 5, 3, false, "", "", 0⟩]) ?_ Tryd.underlying71 (by kernel_rfl) (by kernel_rfl) rfl (by decide)
  refine OpensS.iso (d := (Kd.pair (Kd.int .u8) (Kd.pair (Kd.int .u8) (Kd.pair (Kd.int .u8) (Kd.int .u8))))) (B := fun p => (IsK .u8) p.1 ∧ (IsK .u8) p.2.1 ∧ (IsK .u8) p.2.2.1 ∧ (IsK .u8) p.2.2.2) ?_ (fun x : S71 => (x.f0, x.f1, x.f2, x.f3)) (fun p => ⟨p.1, p.2.1, p.2.2.1, p.2.2.2⟩) (fun _ => rfl)
  refine OpensS.cons (B := IsK .u8) (B' := fun p : Int × Int × Int => (IsK .u8) p.1 ∧ (IsK .u8) p.2.1 ∧ (IsK .u8) p.2.2) ?_ ?_
  · exact OpensS.one _ rfl rfl O_u8
  refine OpensS.cons (B := IsK .u8) (B' := fun p : Int × Int => (IsK .u8) p.1 ∧ (IsK .u8) p.2) ?_ ?_
  · exact OpensS.one _ rfl rfl O_u8
  refine OpensS.cons (B := IsK .u8) (B' := fun p : Int => (IsK .u8) p) ?_ ?_
  · exact OpensS.one _ rfl rfl O_u8
  exact OpensS.one _ rfl rfl O_u8
def B23 (x : S23) : Prop := (IsK .u8) x.f0 ∧ (IsK .u8) x.f1 ∧ (IsK .u8) x.f2
theorem O23 : Opens Tryd.prog k23 23 B23 := by
  refine Opens.array (fs := #[⟨"", 5, 0, false, "", "", 0⟩, ⟨"", 5, 1, false, "", "", 0⟩, ⟨"", 5, 2, false, "", "", 0⟩]) ?_ Tryd.underlying23 (by kernel_rfl) (by kernel_rfl) rfl (by decide)
  refine OpensS.iso (d := (Kd.pair (Kd.int .u8) (Kd.pair (Kd.int .u8) (Kd.int .u8)))) (B := fun p => (IsK .u8) p.1 ∧ (IsK .u8) p.2.1 ∧ (IsK .u8) p.2.2) ?_ (fun x : S23 => (x.f0, x.f1, x.f2)) (fun p => ⟨p.1, p.2.1, p.2.2⟩) (fun _ => rfl)
  refine OpensS.cons (B := IsK .u8) (B' := fun p : Int × Int => (IsK .u8) p.1 ∧ (IsK .u8) p.2) ?_ ?_
  · exact OpensS.one _ rfl rfl O_u8
  refine OpensS.cons (B := IsK .u8) (B' := fun p : Int => (IsK .u8) p) ?_ ?_
  · exact OpensS.one _ rfl rfl O_u8
  exact OpensS.one _ rfl rfl O_u8
def B65 (x : S65) : Prop := (IsK .u8) x.f0 ∧ (IsK .u8) x.f1
theorem O65 : Opens Tryd.prog k65 65 B65 := by
  refine Opens.array (fs := #[⟨"", 5, 0, false, "", "", 0⟩, ⟨"", 5, 1, false, "", "", 0⟩]) ?_ Tryd.underlying65 (by kernel_rfl) (by kernel_rfl) rfl (by decide)
  refine OpensS.iso (d := (Kd.pair (Kd.int .u8) (Kd.int .u8))) (B := fun p => (IsK .u8) p.1 ∧ (IsK .u8) p.2) ?_ (fun x : S65 => (x.f0, x.f1)) (fun p => ⟨p.1, p.2⟩) (fun _ => rfl)
  refine OpensS.cons (B := IsK .u8) (B' := fun p : Int => (IsK .u8) p) ?_ ?_
  · exact OpensS.one _ rfl rfl O_u8
  exact OpensS.one _ rfl rfl O_u8
def B26 (x : S26) : Prop := (fun l => ∀ x ∈ l, (B71) x) x.f0 ∧ (B23) x.f1 ∧ (IsK .u8) x.f2 ∧ (IsK .u8) x.f3 ∧ (fun l => ∀ x ∈ l, (B65) x) x.f4
theorem O26 : Opens Tryd.prog k26 26 B26 := by
  refine Opens.struct ?_ Tryd.underlying26 (by kernel_rfl)
  refine OpensS.iso (d := (Kd.pair (Kd.slice 71 k71) (Kd.pair k23 (Kd.pair (Kd.int .u8) (Kd.pair (Kd.int .u8) (Kd.slice 65 k65)))))) (B := fun p => (fun l => ∀ x ∈ l, (B71) x) p.1 ∧ (B23) p.2.1 ∧ (IsK .u8) p.2.2.1 ∧ (IsK .u8) p.2.2.2.1 ∧ (fun l => ∀ x ∈ l, (B65) x) p.2.2.2.2) ?_ (fun x : S26 => (x.f0, x.f1, x.f2, x.f3, x.f4)) (fun p => ⟨p.1, p.2.1, p.2.2.1, p.2.2.2.1, p.2.2.2.2⟩) (fun _ => rfl)
  refine OpensS.cons (B := fun l => ∀ x ∈ l, (B71) x) (B' := fun p : S23 × Int × Int × (List S65) => (B23) p.1 ∧ (IsK .u8) p.2.1 ∧ (IsK .u8) p.2.2.1 ∧ (fun l => ∀ x ∈ l, (B65) x) p.2.2.2) ?_ ?_
  · exact OpensS.one _ rfl rfl (Opens.slice O71 Tryd.underlying22 (by kernel_rfl))
  refine OpensS.cons (B := B23) (B' := fun p : Int × Int × (List S65) => (IsK .u8) p.1 ∧ (IsK .u8) p.2.1 ∧ (fun l => ∀ x ∈ l, (B65) x) p.2.2) ?_ ?_
  · exact OpensS.one _ rfl rfl O23
  refine OpensS.cons (B := IsK .u8) (B' := fun p : Int × (List S65) => (IsK .u8) p.1 ∧ (fun l => ∀ x ∈ l, (B65) x) p.2) ?_ ?_
  · exact OpensS.one _ rfl rfl O_u8
  refine OpensS.cons (B := IsK .u8) (B' := fun p : (List S65) => (fun l => ∀ x ∈ l, (B65) x) p) ?_ ?_
  · exact OpensS.one _ rfl rfl O_u8
  exact OpensS.one _ rfl rfl (Opens.slice O65 Tryd.underlying24 (by kernel_rfl))
end Go.Proofs.YtikmfpjcdcckeaaDoor.P
namespace Go.Proofs.YtikmfpjcdcckeaaDoor.P
open Go.RowKit Go.Proofs.YtikmfpjcdcckeaaDoorW.PrintWords Go.Proofs.YtikmfpjcdcckeaaDoorW.PrintLast Go.Proofs.YtikmfpjcdcckeaaDoorW.PrintMore
theorem b8_of {x : Int} (h : IsK .u8 x) : B8 x := by
  unfold IsK at h
  simp [Lit.wf, IntKind.min, IntKind.max, IntKind.signed, IntKind.bits] at h
  unfold B8
  omega
theorem u16_of {x : Int} (h : (Lit.int .u16 x).wf = true) : 0 ≤ x ∧ x ≤ 65535 := by
  simp [Lit.wf, IntKind.min, IntKind.max, IntKind.signed, IntKind.bits] at h
  omega
theorem g4_of {v : S71} (h : B71 v) : G4 v := ⟨b8_of h.1, b8_of h.2.1, b8_of h.2.2.1, b8_of h.2.2.2⟩
theorem lpulled_eq (l0 : List S42) (l1 : List Int) {g s long at_ : Int} (hs : 0 ≤ s) (hs2 : s ≤ 200) (h1 : 0 ≤ long) (h2 : long ≤ 4000) (h3 : -10 ≤ at_) (h4 : at_ ≤ 10000) :
    walkmilllaw05_pulled.f l0 l1 g s long at_ = some (decide (long ≤ at_ ∧ at_ * 1000 ≤ long * (1000 + s))) := by
  have m0 : 0 ≤ long * (1000 + s) := Int.mul_nonneg h1 (by omega)
  have m1 : long * (1000 + s) ≤ 4000 * 1200 := Int.mul_le_mul h2 (by omega) (by omega) (by omega)
  unfold walkmilllaw05_pulled.f
  rw [w64_of (n := 1000 + s) (by omega) (by omega), w64_of (n := long * (1000 + s)) (by omega) (by omega), w64_of (n := at_ * 1000) (by omega) (by omega)]
  by_cases h : at_ ≥ long
  · rw [if_pos h]
    congr 1
    have h' : long ≤ at_ := h
    simp [h']
  · rw [if_neg h]
    have h' : ¬ long ≤ at_ := by omega
    simp [h']
theorem tHangs_eq (k : Nat) (l0 : List S42) (l1 : List Int) (g s : Int) (hc : chk l0 l1 g s = 0) (hk : 20 < k) : tenter_Hangs.f k l0 l1 g s = some (l0.map (hangOf s), 0) := by
  have := (chk_ok hc).1
  unfold tenter_Hangs.f
  rw [open_eq k l0 l1 g s (by omega) (by omega), if_pos hc]
  rfl
theorem TNV_step (T : List Int) (hT : ∀ x ∈ T, B8 x) (a : Int) (ha : 0 ≤ a) (ha2 : a ≤ 65535) (cl : List S42) (fr : List Int) (g s : Int) (hc : chk cl fr g s = 0) (i : Nat) (hi : i < cl.length) (k : Nat) :
    walkmilllaw05_TenterNever.l0 (k + 5) T a (cl.map (hangOf s)) i cl fr g s = walkmilllaw05_TenterNever.l0 k T a (cl.map (hangOf s)) (wrap64 ((i : Int) + 1)) cl fr g s ∨
    walkmilllaw05_TenterNever.l0 (k + 5) T a (cl.map (hangOf s)) i cl fr g s = walkmilllaw05_TenterNever.l0 (k + 3) T a (cl.map (hangOf s)) (wrap64 ((i : Int) + 1)) cl fr g s := by
  have ok := chk_ok hc
  have hcl := cloth_long (ok.2.2.2.1 cl[i] (List.getElem_mem _))
  have hfr := ok.2.2.1
  obtain ⟨-, -, -, -, -, -, -, hs, hs2⟩ := ok
  have hn7 := (chk_ok hc).1
  have hy := byteOf_eq hT (i := (i : Int)) (by omega)
  have hin := insOf_bd hcl.2.1 hy.2
  have er : rd_T40 (cl.map (hangOf s)) (i : Int) = hangOf s cl[i] := by rw [rd40_at _ i (by simpa using hi)]; simp
  have el : ((cl.map (hangOf s)).length : Int) = (cl.length : Int) := by simp
  have hm := tmod_pos (a := a) (n := 1200) ha (by omega)
  have en : wrap64 (1 + Int.tmod (wrap64 a) 1200) = 1 + Int.tmod a 1200 := by rw [w64_of (n := a) (by omega) (by omega), w64_of (by omega) (by omega)]
  obtain ⟨n, hn, n1, n2⟩ : ∃ n : Int, 1 + Int.tmod a 1200 = n ∧ 1 ≤ n ∧ n ≤ 1200 := ⟨_, rfl, by omega, by omega⟩
  obtain ⟨real, hreal⟩ : ∃ real : Int, insOf cl[i].f0.f0 cl[i].f0.f1 (byOf T i) = real := ⟨_, rfl⟩
  rw [hreal] at hin
  obtain ⟨lo, hlo⟩ : ∃ lo : Int, cl[i].f0.f0 = lo := ⟨_, rfl⟩
  obtain ⟨hi', hhi⟩ : ∃ hi' : Int, cl[i].f0.f1 = hi' := ⟨_, rfl⟩
  have eh : hangOf s cl[i] = if hi' > pullOf s lo then ⟨1, 0⟩ else ⟨hi', pullOf s lo⟩ := by unfold hangOf; rw [hlo, hhi]
  rw [hlo, hhi] at hin hcl
  have m1 : lo * (1000 + s) ≤ real * (1000 + s) := Int.mul_le_mul_of_nonneg_right hin.1 (by omega)
  have m2 : real * (1000 + s) ≤ hi' * (1000 + s) := Int.mul_le_mul_of_nonneg_right hin.2 (by omega)
  have m3 : hi' * (1000 + s) ≤ 2000 * 1200 := Int.mul_le_mul (by omega) (by omega) (by omega) (by omega)
  have m0 : 0 ≤ lo * (1000 + s) := Int.mul_nonneg (by omega) (by omega)
  have p1 := pull_eq (s := s) (n := lo) hs hs2 (by omega) (by omega)
  have p2 := pull_eq (s := s) (n := hi') hs hs2 (by omega) (by omega)
  have pl := fun (x y : Int) (h1 : 0 ≤ x) (h2 : x ≤ 4000) (h3 : -10 ≤ y) (h4 : y ≤ 10000) => lpulled_eq cl fr (g := g) hs hs2 h1 h2 h3 h4
  generalize hLo : lo * (1000 + s) = Lo at *
  generalize hRe : real * (1000 + s) = Re at *
  generalize hHi : hi' * (1000 + s) = Hi at *
  have hw : wrap64 (real * wrap64 (1000 + s)) = Re := by rw [w64_of (n := 1000 + s) (by omega) (by omega), hRe, w64_of (by omega) (by omega)]
  have j2 : walkmilllaw05_TenterNever.l0 (k + 5) T a (cl.map (hangOf s)) i cl fr g s = walkmilllaw05_TenterNever.j2 (k + 4) T a (cl.map (hangOf s)) i real false cl fr g s lo hi' := by
    rw [show k + 5 = (k + 4) + 1 by omega, walkmilllaw05_TenterNever.l0, el, if_pos (by omega), if_pos (by omega), if_pos (by omega), hy.1, Option.bind_some, rd42_at cl i hi, hlo, hhi,
      inside_eq (by omega) hcl.2.1 (by omega) hy.2, Option.bind_some, ← hlo, ← hhi, hreal, hlo, hhi, own_eq cl fr g s (by omega) (by omega), Option.bind_some]
    simp only
    rw [tStretched_eq cl fr g s i _ (by omega), if_pos hc, if_pos (isIn_iff.2 (by omega)), en, hn, if_pos (isIn_iff.2 (by omega)), rd42_at cl i hi, hlo, hhi, Option.bind_some]
    simp only
    rw [hw, w64_of (n := n * 1000) (by omega) (by omega), if_pos trivial]
    by_cases a1 : n > pullOf s hi'
    · have a2 : n > pullOf s lo := by omega
      have a3 : n * 1000 > Re := by omega
      rw [if_pos (by simpa using a1), if_pos a3, if_pos a3, if_pos (by simpa using a2), show decide (n > pullOf s lo) = true by simpa using a2]; rfl
    · rw [if_neg (by simpa using a1)]
      by_cases a3 : n * 1000 > Re
      · have a2 : n > pullOf s lo := by omega
        rw [if_pos a3, if_pos (by simpa using a2)]
      · rw [if_neg a3]
  rw [j2, show k + 4 = (k + 3) + 1 by omega, walkmilllaw05_TenterNever.j2, if_neg (by simp), el, if_pos (by omega), if_pos (by omega), er, eh]
  by_cases b : hi' > pullOf s lo
  · right
    rw [if_pos b, if_pos (by simp), span_eq, Option.bind_some]
    simp only
    rw [if_neg (by simp), pl lo hi' (by omega) (by omega) (by omega) (by omega), hLo, Option.bind_some, if_neg (by simp only [decide_eq_true_eq]; omega)]
  · left
    rw [if_neg b, if_neg (by simp only; omega)]
    have t1 : decide (real ≤ hi' ∧ hi' * 1000 ≤ Re) = true := by simp only [decide_eq_true_eq]; omega
    have t2 : decide (lo ≤ hi' ∧ hi' * 1000 ≤ Lo) = true := by simp only [decide_eq_true_eq]; omega
    have t3 : decide (hi' ≤ hi' ∧ hi' * 1000 ≤ Hi) = true := by simp only [decide_eq_true_eq]; omega
    have u1 : decide (real ≤ pullOf s lo ∧ pullOf s lo * 1000 ≤ Re) = true := by simp only [decide_eq_true_eq]; omega
    have u2 : decide (lo ≤ pullOf s lo ∧ pullOf s lo * 1000 ≤ Lo) = true := by simp only [decide_eq_true_eq]; omega
    have u3 : decide (hi' ≤ pullOf s lo ∧ pullOf s lo * 1000 ≤ Hi) = true := by simp only [decide_eq_true_eq]; omega
    have eh2 : hangOf s cl[i] = ⟨hi', pullOf s lo⟩ := by rw [eh, if_neg b]
    rw [show k + 3 = (k + 2) + 1 by omega, walkmilllaw05_TenterNever.l1, if_pos (by omega), if_pos (by omega), el, if_pos (by omega), if_pos rfl, er, eh2]
    simp only
    rw [pl real hi' (by omega) (by omega) (by omega) (by omega), hRe, t1, Option.bind_some, if_pos rfl, pl lo hi' (by omega) (by omega) (by omega) (by omega), hLo, t2, Option.bind_some, if_pos rfl,
      pl hi' hi' (by omega) (by omega) (by omega) (by omega), hHi, t3, Option.bind_some, if_pos rfl, show wrap64 (0 + 1) = 1 by rw [w64_of (by omega) (by omega)]; rfl,
      show k + 2 = (k + 1) + 1 by omega, walkmilllaw05_TenterNever.l1, if_pos (by omega), if_pos (by omega), el, if_pos (by omega), if_neg (by omega), if_pos rfl, er, eh2]
    simp only
    rw [pl real (pullOf s lo) (by omega) (by omega) (by omega) (by omega), hRe, u1, Option.bind_some, if_pos rfl, pl lo (pullOf s lo) (by omega) (by omega) (by omega) (by omega), hLo, u2, Option.bind_some, if_pos rfl,
      pl hi' (pullOf s lo) (by omega) (by omega) (by omega) (by omega), hHi, u3, Option.bind_some, if_pos rfl, show wrap64 (1 + 1) = 2 by rw [w64_of (by omega) (by omega)]; rfl,
      walkmilllaw05_TenterNever.l1, if_neg (by omega), if_pos (by omega), el, if_pos (by omega), er, eh2]
    simp only
    rw [w64_of (n := hi' - 1) (by omega) (by omega), w64_of (n := pullOf s lo + 1) (by omega) (by omega), pl hi' (hi' - 1) (by omega) (by omega) (by omega) (by omega), Option.bind_some, if_neg (by simp only [decide_eq_true_eq]; omega),
      pl lo (pullOf s lo + 1) (by omega) (by omega) (by omega) (by omega), hLo, Option.bind_some, if_neg (by simp only [decide_eq_true_eq]; omega)]
theorem TNV_l (T : List Int) (hT : ∀ x ∈ T, B8 x) (a : Int) (ha : 0 ≤ a) (ha2 : a ≤ 65535) (cl : List S42) (fr : List Int) (g s : Int) (hc : chk cl fr g s = 0) : ∀ (d i k : Nat), i + d = cl.length → 5 * d + 1 < k →
    walkmilllaw05_TenterNever.l0 k T a (cl.map (hangOf s)) i cl fr g s = some true
  | 0, i, k, hd, hk => by
    obtain ⟨k, rfl⟩ : ∃ m, k = m + 1 := ⟨k - 1, by omega⟩
    rw [walkmilllaw05_TenterNever.l0, if_neg (by simp; omega)]; rfl
  | d + 1, i, k, hd, hk => by
    obtain ⟨k, rfl⟩ : ∃ m, k = m + 5 := ⟨k - 5, by omega⟩
    have hn7 := (chk_ok hc).1
    rcases TNV_step T hT a ha ha2 cl fr g s hc i (by omega) k with e | e
    · rw [e, nx i (by omega)]
      exact TNV_l T hT a ha ha2 cl fr g s hc d (i + 1) k (by omega) (by omega)
    · rw [e, nx i (by omega)]
      exact TNV_l T hT a ha ha2 cl fr g s hc d (i + 1) (k + 3) (by omega) (by omega)
theorem TNV_K {l0 : List S71} (h0 : ∀ v ∈ l0, G4 v) {a1 a2 a3 a4 a5 : Int} (h1 : B8 a1) (h2 : B8 a2) (h3 : B8 a3) (h4 : B8 a4) (h5 : B8 a5) (l6 : List S65) {T : List Int} (hT : ∀ x ∈ T, B8 x) {a : Int} (ha : 0 ≤ a) (ha2 : a ≤ 65535) :
    ∀ K : Nat, 200 ≤ K → walkmilllaw05_TenterNever.f (K + 1) l0 a1 a2 a3 a4 a5 l6 T a = some true := by
  intro K hK
  obtain ⟨cl, fr, g, s, ef, hc, hl⟩ := field_eq h0 h1 h2 h3 h4 h5 l6 (K + 1) (by omega)
  have hfr := (chk_ok hc).2.2.1
  unfold walkmilllaw05_TenterNever.f
  rw [ef, Option.bind_some, own_eq cl fr g s (by omega) (by omega), Option.bind_some, tHangs_eq (K + 1) cl fr g s hc (by omega), Option.bind_some, if_pos rfl]
  simp only [List.length_map]
  rw [walkmilllaw05_TenterNever.j0, if_neg (by simp)]
  exact TNV_l T hT a ha ha2 cl fr g s hc cl.length 0 K (by omega) (by omega)
theorem TenterNever_yes {l0 : List S71} (h0 : ∀ v ∈ l0, G4 v) {a1 a2 a3 a4 a5 : Int} (h1 : B8 a1) (h2 : B8 a2) (h3 : B8 a3) (h4 : B8 a4) (h5 : B8 a5) (l6 : List S65) {T : List Int} (hT : ∀ x ∈ T, B8 x) {a : Int} (ha : 0 ≤ a) (ha2 : a ≤ 65535) :
    ∃ k, walkmilllaw05_TenterNever.f k l0 a1 a2 a3 a4 a5 l6 T a = some true := ⟨200 + 1, TNV_K h0 h1 h2 h3 h4 h5 l6 hT ha ha2 200 (Nat.le_refl _)⟩
end Go.Proofs.YtikmfpjcdcckeaaDoor.P
