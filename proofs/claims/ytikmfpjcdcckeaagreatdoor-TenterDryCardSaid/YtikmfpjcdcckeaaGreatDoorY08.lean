/- Part 8 of what the law's proof needs: words, walks of functions and plain facts. -/
import Derived.Deep.Slices
import Derived.OpenShut
import Derived.ChangeArms
import Derived.Test.YtikmfpjcdcckeaaGreatDoorY01
import Derived.Test.YtikmfpjcdcckeaaGreatDoorY04
import Derived.Test.YtikmfpjcdcckeaaGreatDoorY07
set_option linter.unusedVariables false
set_option linter.unusedSimpArgs false
namespace Go.Proofs.YtikmfpjcdcckeaaGreatDoor.P
open Go.RowKit Go.ChangeShapes Go.WideShapes Go.Deep Go.Proofs.YtikmfpjcdcckeaaGreatDoorW.PrintWords Go.Proofs.YtikmfpjcdcckeaaGreatDoorW.PrintLast Go.Proofs.YtikmfpjcdcckeaaGreatDoorW.PrintMore
structure Opens {α : Type} (P : Program) (d : Kd α) (t : TypeId) (B : α → Prop) : Prop where
  sz : P.cellsOf t = d.sz
  op : ∀ (H : Type) (enc : TypeId × Value → H) (w : World) (base : Nat) (spare : Nat → Bool) (held : Bool) (n : Nat) (cs : List Value) (x : DataW H × List MemPlace), DataW.trod enc P w base spare held n t cs = some x → ∃ p, d.K w p cs ∧ B p
theorem Opens.int {P : Program} {t : TypeId} {k : IntKind} (ht : P.underlying t = some (.int k)) (hc : P.cellsOf t = 1) : Opens P (Kd.int k) t (fun n => (Lit.int k n).wf = true) :=
  ⟨hc, fun H enc w base spare held n cs x h => by
    obtain ⟨m, rfl, _, hw⟩ := DataW.trod_int ht h
    exact ⟨m, rfl, hw⟩⟩
theorem Opens.bool {P : Program} {t : TypeId} (ht : P.underlying t = some .bool) (hc : P.cellsOf t = 1) : Opens P Kd.bool t (fun _ => True) :=
  ⟨hc, fun H enc w base spare held n cs x h => by
    obtain ⟨b, rfl, _⟩ := DataW.trod_bool ht h
    exact ⟨b, rfl, trivial⟩⟩
theorem Opens.imp {α : Type} {P : Program} {d : Kd α} {t : TypeId} {B B' : α → Prop} (h : Opens P d t B) (hb : ∀ x, B x → B' x) : Opens P d t B' :=
  ⟨h.sz, fun H enc w base spare held n cs x hx => by obtain ⟨p, h1, h2⟩ := h.op H enc w base spare held n cs x hx; exact ⟨p, h1, hb p h2⟩⟩
theorem choose_list {α : Type} {Q : Nat → α → Prop} : ∀ (n : Nat), (∀ i, i < n → ∃ p, Q i p) → ∃ l : List α, l.length = n ∧ ∀ i p, l[i]? = some p → Q i p
  | 0, _ => ⟨[], rfl, fun i p h => by simp at h⟩
  | n + 1, h => by
    obtain ⟨l, hl, hq⟩ := choose_list n (fun i hi => h i (by omega))
    obtain ⟨p, hp⟩ := h n (by omega)
    refine ⟨l ++ [p], by simp [hl], fun i q hi => ?_⟩
    rcases Nat.lt_or_ge i l.length with h1 | h1
    · rw [List.getElem?_append_left h1] at hi
      exact hq i q hi
    · have : i = n := by
        have := (List.getElem?_eq_some_iff.1 hi).1
        simp at this
        omega
      subst this
      rw [List.getElem?_append_right h1, hl, Nat.sub_self] at hi
      obtain rfl : p = q := by simpa using hi
      exact hp
theorem Opens.slice {α : Type} {P : Program} {d : Kd α} {t e : TypeId} {B : α → Prop} (h : Opens P d e B) (ht : P.underlying t = some (.slice e)) (hc : P.cellsOf t = 1) : Opens P (Kd.slice e d) t (fun l => ∀ x ∈ l, B x) :=
  ⟨hc, fun H enc w base spare held n cs x hx => by
    rcases open_slice ht hx with ⟨rfl, _⟩ | ⟨a, len, cap, m, n', D, Pl, rfl, hb, hl, hm, hmm, _, hi⟩
    · exact ⟨[], ⟨none, 0, rfl, Nat.le_refl _, Kd.C_nil _ _⟩, fun x hx => by cases hx⟩
    · obtain ⟨l, hll, hq⟩ := choose_list (Q := fun i p => (∃ cs', d.K w p cs' ∧ ∀ j, j < d.sz → w.cell? (a.add (i * d.sz + j)) = cs'[j]?) ∧ B p) len (fun i hi' => by
        obtain ⟨cs', hcs, htr⟩ := hi i (by rw [hmm]; split <;> omega)
        obtain ⟨p, hk, hp⟩ := h.op H enc w base spare held n' cs' _ htr
        obtain ⟨_, hcl, hat⟩ := World.cells?_some hcs
        rw [h.sz] at hat
        exact ⟨p, ⟨cs', hk, fun j hj => by
          have := hat j hj
          rw [Go.Deep.add_add] at this
          exact this⟩, hp⟩)
      refine ⟨l, ⟨some a, cap, by rw [hll], by rw [hll]; exact hl, ⟨rfl, by rw [hll]; simp only [maxLen] at hm; omega, fun h0 => ⟨a, rfl, fun j p hj => ?_⟩⟩⟩, fun x hx => ?_⟩
      · obtain ⟨⟨cs', hk, hat⟩, _⟩ := hq j p hj
        refine ⟨cs', d.K_len hk, hk, fun i u hu => ?_⟩
        have hi' : i < d.sz := by have := (List.getElem?_eq_some_iff.1 hu).1; rw [d.K_len hk] at this; exact this
        rw [hat i hi', hu]
      · obtain ⟨i, hi'⟩ := List.getElem?_of_mem hx
        exact (hq i x hi').2⟩
def OpensS {α : Type} (P : Program) (fs : Array Field) (j off : Nat) (d : Kd α) (B : α → Prop) : Prop :=
  ∀ (H : Type) (enc : TypeId × Value → H) (w : World) (base : Nat) (spare : Nat → Bool) (held : Bool) (n : Nat) (cs : List Value) (xs : List (DataW H × List MemPlace)), xs.length = fs.size →
    (∀ (i : Nat) (f : Field), fs[i]? = some f → DataW.trod enc P w base spare held n f.type ((cs.drop f.offset).take (P.cellsOf f.type)) = xs[i]?) → ∃ p, d.K w p ((cs.drop off).take d.sz) ∧ B p
theorem OpensS.one {α : Type} {P : Program} {fs : Array Field} {j off : Nat} {d : Kd α} {B : α → Prop} (f : Field) (hf : fs[j]? = some f) (ho : f.offset = off) (h : Opens P d f.type B) : OpensS P fs j off d B := by
  intro H enc w base spare held n cs xs hl hx
  have h1 := hx j f hf
  have hj : j < xs.length := by rw [hl]; exact (Array.getElem?_eq_some_iff.1 hf).1
  rw [List.getElem?_eq_getElem hj, ho, h.sz] at h1
  exact h.op H enc w base spare held n _ _ h1
theorem OpensS.cons {α β : Type} {P : Program} {fs : Array Field} {j off : Nat} {d : Kd α} {d' : Kd β} {B : α → Prop} {B' : β → Prop} (h : OpensS P fs j off d B) (h' : OpensS P fs (j + 1) (off + d.sz) d' B') : OpensS P fs j off (Kd.pair d d') (fun p => B p.1 ∧ B' p.2) := by
  intro H enc w base spare held n cs xs hl hx
  obtain ⟨p, h1, h2⟩ := h H enc w base spare held n cs xs hl hx
  obtain ⟨q, h3, h4⟩ := h' H enc w base spare held n cs xs hl hx
  refine ⟨(p, q), ⟨_, _, ?_, h1, h3⟩, h2, h4⟩
  show (cs.drop off).take (d.sz + d'.sz) = _
  rw [List.take_add, List.drop_drop]
theorem OpensS.iso {α β : Type} {P : Program} {fs : Array Field} {j off : Nat} {d : Kd α} {B : α → Prop} (h : OpensS P fs j off d B) (f : β → α) (g : α → β) (hg : ∀ a, f (g a) = a) : OpensS P fs j off (Kd.iso d f) (fun y => B (f y)) := by
  intro H enc w base spare held n cs xs hl hx
  obtain ⟨p, h1, h2⟩ := h H enc w base spare held n cs xs hl hx
  exact ⟨g p, by show d.K w (f (g p)) _; rw [hg]; exact h1, by show B (f (g p)); rw [hg]; exact h2⟩
theorem Opens.struct {α : Type} {P : Program} {fs : Array Field} {d : Kd α} {t : TypeId} {B : α → Prop} (h : OpensS P fs 0 0 d B) (ht : P.underlying t = some (.struct fs)) (hc : P.cellsOf t = d.sz) : Opens P d t B :=
  ⟨hc, fun H enc w base spare held n cs x hx => by
    obtain ⟨xs, n', _, _, hcl, hl, hf⟩ := DataW.trod_struct ht hx
    obtain ⟨p, h1, h2⟩ := h H enc w base spare held n' cs xs hl hf
    refine ⟨p, ?_, h2⟩
    rw [List.drop_zero, List.take_of_length_le (by rw [hcl, hc]; exact Nat.le_refl _)] at h1
    exact h1⟩
theorem Opens.array {α : Type} {P : Program} {fs : Array Field} {d : Kd α} {t e : TypeId} {n : Nat} {B : α → Prop} (h : OpensS P fs 0 0 d B) (ht : P.underlying t = some (.array n e)) (hc : P.cellsOf t = d.sz) (he : P.cellsOf e = 1) (hn : fs.size = n) (hf : ∀ i : Fin fs.size, fs[i].type = e ∧ fs[i].offset = i.val) : Opens P d t B :=
  ⟨hc, fun H enc w base spare held n' cs x hx => by
    obtain ⟨xs, m, _, _, hcl, hl, hg⟩ := DataW.trod_array ht hx
    obtain ⟨p, h1, h2⟩ := h H enc w base spare held m cs xs (by rw [hl, hn]) (fun i f hi => by
      obtain ⟨hi', rfl⟩ := Array.getElem?_eq_some_iff.1 hi
      obtain ⟨e1, e2⟩ := hf ⟨i, hi'⟩
      have e1' : fs[i].type = e := e1
      have e2' : fs[i].offset = i := e2
      have := hg i (by rw [← hn]; exact hi')
      rw [he, Nat.mul_one] at this
      rw [e1', e2', he]; exact this)
    refine ⟨p, ?_, h2⟩
    rw [List.drop_zero, List.take_of_length_le (by rw [hcl, hc]; exact Nat.le_refl _)] at h1
    exact h1⟩
theorem Opens.arg_slice {α : Type} {P : Program} {d : Kd α} {t e : TypeId} {B : List α → Prop} (h : Opens P (Kd.slice e d) t B) {H : Type} {enc : TypeId × Value → H} {w : World} {base : Nat} {spare : Nat → Bool} {held : Bool} {v : Value} {x : DataW H} {ps : List MemPlace} {a : Option Addr} {len cap : Nat} (hv : v = .slice a len cap) (hx : DataW.Trod enc P w base spare held t v x ps) :
    ∃ l : List α, len = l.length ∧ l.length ≤ cap ∧ Kd.C d w a l.length l ∧ B l := by
  obtain ⟨n, hn⟩ := hx
  subst hv
  obtain ⟨l, ⟨A, c, he, hl, hr⟩, hb⟩ := h.op H enc w base spare held n _ _ hn
  have he' : Value.slice a len cap = .slice A l.length c := by simpa [Value.cells] using he
  cases he'
  exact ⟨l, rfl, hl, hr, hb⟩
theorem Opens.arg {α : Type} {P : Program} {d : Kd α} {t : TypeId} {B : α → Prop} (h : Opens P d t B) {H : Type} {enc : TypeId × Value → H} {w : World} {base : Nat} {spare : Nat → Bool} {held : Bool} {v : Value} {x : DataW H} {ps : List MemPlace} (hx : DataW.Trod enc P w base spare held t v x ps) :
    ∃ p : α, d.K w p v.cells.toList ∧ B p := by
  obtain ⟨n, hn⟩ := hx
  exact h.op H enc w base spare held n _ _ hn
theorem agg_cells {v : Value} {l : List Value} (h : v.cells.toList = l) (hl : 2 ≤ l.length) : v = .agg l.toArray := by
  cases v with
  | agg x => simp only [Value.cells] at h; rw [← h]
  | _ => simp only [Value.cells] at h; subst h; simp at hl
end Go.Proofs.YtikmfpjcdcckeaaGreatDoor.P
namespace Go.Proofs.YtikmfpjcdcckeaaGreatDoor.P
open Go.RowKit Go.Proofs.YtikmfpjcdcckeaaGreatDoorW.PrintWords
def IsK (k : IntKind) (n : Int) : Prop := (Lit.int k n).wf = true
theorem O_u8 : Opens Tryz.prog (Kd.int .u8) 5 (IsK .u8) := Opens.int Tryz.underlying5 (by kernel_rfl)
def B131 (x : S131) : Prop := (IsK .u8) x.f0 ∧ (IsK .u8) x.f1 ∧ (IsK .u8) x.f2 ∧ (IsK .u8) x.f3
theorem O131 : Opens Tryz.prog k131 131 B131 := by
  refine Opens.array (fs := #[⟨"", 5, 0, false, "", "", 0⟩, ⟨"", 5, 1, false, "", "", 0⟩, ⟨"", 5, 2, false, "", "", 0⟩, ⟨"", 5, 3, false, "", "", 0⟩]) ?_ Tryz.underlying131 (by kernel_rfl) (by kernel_rfl) rfl (by decide)
  refine OpensS.iso (d := (Kd.pair (Kd.int .u8) (Kd.pair (Kd.int .u8) (Kd.pair (Kd.int .u8) (Kd.int .u8))))) (B := fun p => (IsK .u8) p.1 ∧ (IsK .u8) p.2.1 ∧ (IsK .u8) p.2.2.1 ∧ (IsK .u8) p.2.2.2) ?_ (fun x : S131 => (x.f0, x.f1, x.f2, x.f3)) (fun p => ⟨p.1, p.2.1, p.2.2.1, p.2.2.2⟩) (fun _ => rfl)
  refine OpensS.cons (B := IsK .u8) (B' := fun p : Int × Int × Int => (IsK .u8) p.1 ∧ (IsK .u8) p.2.1 ∧ (IsK .u8) p.2.2) ?_ ?_
  · exact OpensS.one _ rfl rfl O_u8
  refine OpensS.cons (B := IsK .u8) (B' := fun p : Int × Int => (IsK .u8) p.1 ∧ (IsK .u8) p.2) ?_ ?_
  · exact OpensS.one _ rfl rfl O_u8
  refine OpensS.cons (B := IsK .u8) (B' := fun p : Int => (IsK .u8) p) ?_ ?_
  · exact OpensS.one _ rfl rfl O_u8
  exact OpensS.one _ rfl rfl O_u8
def B76 (x : S76) : Prop := (IsK .u8) x.f0 ∧ (IsK .u8) x.f1 ∧ (IsK .u8) x.f2
theorem O76 : Opens Tryz.prog k76 76 B76 := by
  refine Opens.array (fs := #[⟨"", 5, 0, false, "", "", 0⟩, ⟨"", 5, 1, false, "", "", 0⟩, ⟨"", 5, 2, false, "", "", 0⟩]) ?_ Tryz.underlying76 (by kernel_rfl) (by kernel_rfl) rfl (by decide)
  refine OpensS.iso (d := (Kd.pair (Kd.int .u8) (Kd.pair (Kd.int .u8) (Kd.int .u8)))) (B := fun p => (IsK .u8) p.1 ∧ (IsK .u8) p.2.1 ∧ (IsK .u8) p.2.2) ?_ (fun x : S76 => (x.f0, x.f1, x.f2)) (fun p => ⟨p.1, p.2.1, p.2.2⟩) (fun _ => rfl)
  refine OpensS.cons (B := IsK .u8) (B' := fun p : Int × Int => (IsK .u8) p.1 ∧ (IsK .u8) p.2) ?_ ?_
  · exact OpensS.one _ rfl rfl O_u8
  refine OpensS.cons (B := IsK .u8) (B' := fun p : Int => (IsK .u8) p) ?_ ?_
  · exact OpensS.one _ rfl rfl O_u8
  exact OpensS.one _ rfl rfl O_u8
def B81 (x : S81) : Prop := (IsK .u8) x.f0 ∧ (IsK .u8) x.f1
theorem O81 : Opens Tryz.prog k81 81 B81 := by
  refine Opens.array (fs := #[⟨"", 5, 0, false, "", "", 0⟩, ⟨"", 5, 1, false, "", "", 0⟩]) ?_ Tryz.underlying81 (by kernel_rfl) (by kernel_rfl) rfl (by decide)
  refine OpensS.iso (d := (Kd.pair (Kd.int .u8) (Kd.int .u8))) (B := fun p => (IsK .u8) p.1 ∧ (IsK .u8) p.2) ?_ (fun x : S81 => (x.f0, x.f1)) (fun p => ⟨p.1, p.2⟩) (fun _ => rfl)
  refine OpensS.cons (B := IsK .u8) (B' := fun p : Int => (IsK .u8) p) ?_ ?_
  · exact OpensS.one _ rfl rfl O_u8
  exact OpensS.one _ rfl rfl O_u8
def B79 (x : S79) : Prop := (fun l => ∀ x ∈ l, (B131) x) x.f0 ∧ (B76) x.f1 ∧ (IsK .u8) x.f2 ∧ (IsK .u8) x.f3 ∧ (fun l => ∀ x ∈ l, (B81) x) x.f4
theorem O79 : Opens Tryz.prog k79 79 B79 := by
  refine Opens.struct ?_ Tryz.underlying79 (by kernel_rfl)
  refine OpensS.iso (d := (Kd.pair (Kd.slice 131 k131) (Kd.pair k76 (Kd.pair (Kd.int .u8) (Kd.pair (Kd.int .u8) (Kd.slice 81 k81)))))) (B := fun p => (fun l => ∀ x ∈ l, (B131) x) p.1 ∧ (B76) p.2.1 ∧ (IsK .u8) p.2.2.1 ∧ (IsK .u8) p.2.2.2.1 ∧ (fun l => ∀ x ∈ l, (B81) x) p.2.2.2.2) ?_ (fun x : S79 => (x.f0, x.f1, x.f2, x.f3, x.f4)) (fun p => ⟨p.1, p.2.1, p.2.2.1, p.2.2.2.1, p.2.2.2.2⟩) (fun _ => rfl)
  refine OpensS.cons (B := fun l => ∀ x ∈ l, (B131) x) (B' := fun p : S76 × Int × Int × (List S81) => (B76) p.1 ∧ (IsK .u8) p.2.1 ∧ (IsK .u8) p.2.2.1 ∧ (fun l => ∀ x ∈ l, (B81) x) p.2.2.2) ?_ ?_
  · exact OpensS.one _ rfl rfl (Opens.slice O131 Tryz.underlying75 (by kernel_rfl))
  refine OpensS.cons (B := B76) (B' := fun p : Int × Int × (List S81) => (IsK .u8) p.1 ∧ (IsK .u8) p.2.1 ∧ (fun l => ∀ x ∈ l, (B81) x) p.2.2) ?_ ?_
  · exact OpensS.one _ rfl rfl O76
  refine OpensS.cons (B := IsK .u8) (B' := fun p : Int × (List S81) => (IsK .u8) p.1 ∧ (fun l => ∀ x ∈ l, (B81) x) p.2) ?_ ?_
  · exact OpensS.one _ rfl rfl O_u8
  refine OpensS.cons (B := IsK .u8) (B' := fun p : (List S81) => (fun l => ∀ x ∈ l, (B81) x) p) ?_ ?_
  · exact OpensS.one _ rfl rfl O_u8
  exact OpensS.one _ rfl rfl (Opens.slice O81 Tryz.underlying77 (by kernel_rfl))
end Go.Proofs.YtikmfpjcdcckeaaGreatDoor.P
namespace Go.Proofs.YtikmfpjcdcckeaaGreatDoor.P
open Go.RowKit Go.Proofs.YtikmfpjcdcckeaaGreatDoorW.PrintWords Go.Proofs.YtikmfpjcdcckeaaGreatDoorW.PrintLast Go.Proofs.YtikmfpjcdcckeaaGreatDoorW.PrintMore
theorem b8_of {x : Int} (h : IsK .u8 x) : B8 x := by
  unfold IsK at h
  simp [Lit.wf, IntKind.min, IntKind.max, IntKind.signed, IntKind.bits] at h
  unfold B8
  omega
theorem g4_of {v : S131} (h : B131 v) : G4 v := ⟨b8_of h.1, b8_of h.2.1, b8_of h.2.2.1, b8_of h.2.2.2⟩
theorem g2_of {v : S81} (h : B81 v) : G2 v := ⟨b8_of h.1, b8_of h.2⟩
def NeedOK (cl : List S43) (w : List S36) (rain m e : Int) : Prop :=
  (e = 0 ∧ ∃ j : Nat, m = (j : Int) ∧ ∃ h : j < cl.length, (dryOf w 0 cl[j]).f1 > rain ∧ ∀ i (h' : i < j), (dryOf w 0 (cl[i]'(Nat.lt_trans h' h))).f1 ≤ rain) ∨
  (e = 6 ∧ m = 0 ∧ ∀ i (h : i < cl.length), (dryOf w 0 cl[i]).f1 ≤ rain)
theorem tNeed_l (l0 : List S43) (l1 : List Int) (g s rain : Int) (w : List S36) {h0 : Int} (hh : wx l0 l1 g s w h0 = 0) : ∀ (d i k : Nat), i + d = l0.length → 30 + d < k → (∀ j (h : j < i) (h2 : j < l0.length), (dryOf w 0 l0[j]).f1 ≤ rain) →
    ∃ m e, tenter_Need.l0 k rain (l0.length : Int) i l0 l1 g s w = some (m, e) ∧ NeedOK l0 w rain m e
  | 0, i, k, hd, hk, hb => by
    obtain ⟨k, rfl⟩ : ∃ m, k = m + 1 := ⟨k - 1, by omega⟩
    exact ⟨0, 6, by rw [tenter_Need.l0, if_neg (by omega)], .inr ⟨rfl, rfl, fun j h => hb j (by omega) h⟩⟩
  | d + 1, i, k, hd, hk, hb => by
    obtain ⟨k, rfl⟩ : ∃ m, k = m + 1 := ⟨k - 1, by omega⟩
    have hlt : i < l0.length := by omega
    have hn := (chk_ok (wx_ok hh).1).1
    rw [tenter_Need.l0, if_pos (by omega), tDry_at k l0 l1 g s 0 w hh (by omega) (by omega) i hlt (by omega)]
    simp only [Option.bind_some]
    by_cases h : (dryOf w 0 l0[i]).f1 > rain
    · exact ⟨i, 0, by rw [if_pos h], .inl ⟨rfl, i, rfl, hlt, h, fun j hj => hb j hj (by omega)⟩⟩
    · rw [if_neg h, nx i (by omega)]
      refine tNeed_l l0 l1 g s rain w hh d (i + 1) k (by omega) (by omega) fun j hj hj2 => ?_
      by_cases e : j = i
      · subst e; omega
      · exact hb j (by omega) hj2
theorem tNeed_eq (k : Nat) (l0 : List S43) (l1 : List Int) (g s rain : Int) (w : List S36) (hh : wx l0 l1 g s w rain = 0) (hk : 50 < k) :
    ∃ m e, tenter_Need.f k l0 l1 g s w rain = some (m, e) ∧ NeedOK l0 w rain m e := by
  have hn := (chk_ok (wx_ok hh).1).1
  obtain ⟨m, e, h1, h2⟩ := tNeed_l l0 l1 g s rain w hh l0.length 0 k (by omega) (by omega) (fun j hj => by omega)
  refine ⟨m, e, ?_, h2⟩
  unfold tenter_Need.f
  rw [newForecast_eq]
  simp only [Option.bind_some]
  rw [if_pos hh]
  exact h1
def amts (t : List Int) : List S36 → Nat → List Int
  | [], _ => []
  | y :: r, h => insOf y.f0 y.f1 (byOf t h) :: amts t r (h + 1)
def sumI : List Int → Int
  | [] => 0
  | y :: r => y + sumI r
theorem amts_bd (t : List Int) (ht : ∀ x ∈ t, B8 x) : ∀ (r : List S36) (h n : Nat), (∀ x ∈ r, x.f0 ≤ x.f1) → sumE S36.f0 (r.take n) ≤ sumI ((amts t r h).take n) ∧ sumI ((amts t r h).take n) ≤ sumE S36.f1 (r.take n)
  | [], h, n, _ => by simp [amts, sumE, sumI]
  | y :: r, h, 0, _ => by simp [sumE, sumI]
  | y :: r, h, n + 1, hr => by
    have ih := amts_bd t ht r (h + 1) n (fun x hx => hr x (by simp [hx]))
    have hb := (byteOf_eq ht (i := (h : Int)) (by omega)).2
    have hi := insOf_bd (hr y (by simp)) hb
    simp only [amts, List.take_succ_cons, sumE, sumI]
    omega
theorem rDried_loop (w : List S36) (hw : w.length ≤ 30) (hb : ∀ x ∈ w, 0 ≤ x.f0 ∧ x.f0 ≤ x.f1 ∧ x.f1 ≤ 100) (t : List Int) (ht : ∀ x ∈ t, B8 x) : ∀ (d i to_ k : Nat) (acc : Int), i + d = to_ → to_ ≤ w.length → 2 * d + 2 < k → 0 ≤ acc → acc + 100 * d ≤ 10000 →
    walkmilllaw05_dried.l0 k w to_ t acc i = some (acc + sumI ((amts t (w.drop i) i).take d))
  | 0, i, to_, k, acc, hd, hto, hk, ha, ha2 => by
    obtain ⟨k, rfl⟩ : ∃ m, k = m + 2 := ⟨k - 2, by omega⟩
    rw [show k + 2 = (k + 1) + 1 by omega, walkmilllaw05_dried.l0, if_neg (by omega), walkmilllaw05_dried.j1, if_neg (by simp)]
    simp [sumI]
  | d + 1, i, to_, k, acc, hd, hto, hk, ha, ha2 => by
    obtain ⟨k, rfl⟩ : ∃ m, k = m + 2 := ⟨k - 2, by omega⟩
    have hlt : i < w.length := by omega
    have hbi := hb w[i] (List.getElem_mem _)
    have hy := byteOf_eq ht (i := (i : Int)) (by omega)
    have hi := insOf_bd hbi.2.1 hy.2
    rw [show k + 2 = (k + 1) + 1 by omega, walkmilllaw05_dried.l0, if_pos (by omega), show decide ((i : Int) < (w.length : Int)) = true by simp; omega, walkmilllaw05_dried.j1, if_pos rfl, if_pos (by omega), if_pos (by omega), hy.1]
    simp only [Option.bind_some]
    rw [rd36_at w i hlt, inside_eq (by omega) (by omega) (by omega) hy.2]
    simp only [Option.bind_some]
    rw [nx i (by omega), w64_of (n := acc + _) (by omega) (by omega), rDried_loop w hw hb t ht d (i + 1) to_ k _ (by omega) hto (by omega) (by omega) (by omega), List.drop_eq_getElem_cons hlt, amts, List.take_succ_cons, sumI]
    congr 1; omega
theorem dried_eq (k : Nat) (w : List S36) (hw : w.length ≤ 30) (hb : ∀ x ∈ w, 0 ≤ x.f0 ∧ x.f0 ≤ x.f1 ∧ x.f1 ≤ 100) (t : List Int) (ht : ∀ x ∈ t, B8 x) (p n : Nat) (h : p + n ≤ w.length) (hk : 70 < k) :
    walkmilllaw05_dried.f k w p ((p + n : Nat) : Int) t = some (sumI ((amts t (w.drop p) p).take n)) := by
  unfold walkmilllaw05_dried.f
  rw [rDried_loop w hw hb t ht n p (p + n) k 0 rfl h (by omega) (by omega) (by omega)]
  simp
theorem dr_top (e : S36 → Int) : ∀ (r : List S36) (x p : Int), dr e r x p ≤ p + r.length + 1
  | [], x, p => by unfold dr; simp; split <;> omega
  | y :: r, x, p => by
    unfold dr; split
    · simp; omega
    · have := dr_top e r (x - e y) (p + 1)
      simp only [List.length_cons]; omega
theorem hour_l (T : List Int) (ht : ∀ x ∈ T, B8 x) (w : List S36) (hw : w.length ≤ 30) (hb : ∀ x ∈ w, 0 ≤ x.f0 ∧ x.f0 ≤ x.f1 ∧ x.f1 ≤ 100) (p : Nat) (hp : p ≤ w.length) (rain : Int) (L A : List S36) (m e i water : Int) (l0 : List S43) (l1 : List Int) (g s : Int) :
    ∀ (d n k : Nat), p + n + d = w.length + 1 → d + 71 < k → (∀ n', n' < n → sumI ((amts T (w.drop p) p).take n') < water) →
    ∃ (n' k' : Nat), k ≤ k' + d + 1 ∧ walkmilllaw05_TenterDry.l1 k T w p rain L A m e i water ((p + n : Nat) : Int) l0 l1 g s = walkmilllaw05_TenterDry.j3 k' T w p rain L A m e i ((p + n' : Nat) : Int) l0 l1 g s ∧
      p + n' ≤ w.length + 1 ∧ (∀ n'', n'' < n' → sumI ((amts T (w.drop p) p).take n'') < water) ∧ (p + n' = w.length + 1 ∨ water ≤ sumI ((amts T (w.drop p) p).take n'))
  | 0, n, k, hd, hk, hs => by
    obtain ⟨k, rfl⟩ : ∃ m, k = m + 1 := ⟨k - 1, by omega⟩
    exact ⟨n, k, by omega, by rw [walkmilllaw05_TenterDry.l1, if_neg (by omega)], by omega, hs, .inl (by omega)⟩
  | d + 1, n, k, hd, hk, hs => by
    obtain ⟨k, rfl⟩ : ∃ m, k = m + 1 := ⟨k - 1, by omega⟩
    rw [walkmilllaw05_TenterDry.l1, if_pos (by omega), dried_eq k w hw hb T ht p n (by omega) (by omega)]
    simp only [Option.bind_some]
    by_cases h : sumI ((amts T (w.drop p) p).take n) < water
    · rw [if_pos h, nx (p + n) (by omega)]
      obtain ⟨n', k', h1, h2, h3, h4, h5⟩ := hour_l T ht w hw hb p hp rain L A m e i water l0 l1 g s d (n + 1) k (by omega) (by omega) fun n'' hn => by
        by_cases e : n'' = n
        · subst e; exact h
        · exact hs n'' (by omega)
      exact ⟨n', k', by omega, h2, h3, h4, h5⟩
    · rw [if_neg h]
      exact ⟨n, k, by omega, rfl, by omega, hs, .inr (by omega)⟩
theorem late_char (w : List S36) (hb : ∀ x ∈ w, 0 ≤ x.f0) (c : S43) (rain : Nat) (hr : rain ≤ w.length) :
    let L := lateO w rain c.f1.f1
    (-1 : Int) ≤ L ∧ L ≤ rain ∧ (0 ≤ L → (dryOf w L c).f1 ≤ (rain : Int)) ∧ (L + 1 ≤ rain → ¬ (dryOf w (L + 1) c).f1 ≤ (rain : Int)) := by
  have key : ∀ h : Nat, h ≤ rain → ((dryOf w (h : Int) c).f1 ≤ (rain : Int) ↔ c.f1.f1 - sumE S36.f0 ((w.drop h).take (rain - h)) ≤ 0) := fun h hle => by
    have := dr_le S36.f0 (w.drop h) (rain - h) c.f1.f1 h (by simp; omega) (fun y hy => hb y (List.mem_of_mem_drop hy))
    rw [show (h : Int) + ((rain - h : Nat) : Int) = (rain : Int) by omega] at this
    unfold dryOf
    simp only [Int.toNat_natCast]
    rw [this]; omega
  have main : ∀ h : Nat, h ≤ rain → (h + 1 ≤ rain → ¬ (dryOf w ((h : Int) + 1) c).f1 ≤ (rain : Int)) →
      -1 ≤ lateO w h (c.f1.f1 - sumE S36.f0 ((w.drop h).take (rain - h))) ∧ lateO w h (c.f1.f1 - sumE S36.f0 ((w.drop h).take (rain - h))) ≤ rain ∧
      (0 ≤ lateO w h (c.f1.f1 - sumE S36.f0 ((w.drop h).take (rain - h))) → (dryOf w (lateO w h (c.f1.f1 - sumE S36.f0 ((w.drop h).take (rain - h)))) c).f1 ≤ (rain : Int)) ∧
      (lateO w h (c.f1.f1 - sumE S36.f0 ((w.drop h).take (rain - h))) + 1 ≤ rain → ¬ (dryOf w (lateO w h (c.f1.f1 - sumE S36.f0 ((w.drop h).take (rain - h))) + 1) c).f1 ≤ (rain : Int)) := by
    intro h
    induction h with
    | zero =>
      intro hle hn
      unfold lateO
      by_cases hx : (dryOf w ((0 : Nat) : Int) c).f1 ≤ (rain : Int)
      · have := (key 0 hle).1 hx
        rw [if_neg (by omega)]
        exact ⟨by omega, by omega, fun _ => hx, fun h1 => hn (by omega)⟩
      · have := mt (key 0 hle).2 hx
        rw [if_pos (by omega)]
        exact ⟨by omega, by omega, fun h1 => by omega, fun _ => hx⟩
    | succ h ih =>
      intro hle hn
      unfold lateO
      by_cases hx : (dryOf w ((h + 1 : Nat) : Int) c).f1 ≤ (rain : Int)
      · rw [if_pos ((key (h + 1) hle).1 hx)]
        exact ⟨by omega, by omega, fun _ => hx, fun h1 => hn (by omega)⟩
      · have hlt : h < w.length := by omega
        have eg : w.getD h z36 = w[h] := by simp [List.getD_eq_getElem?_getD, List.getElem?_eq_getElem hlt]
        have es : c.f1.f1 - sumE S36.f0 ((w.drop (h + 1)).take (rain - (h + 1))) - w[h].f0 = c.f1.f1 - sumE S36.f0 ((w.drop h).take (rain - h)) := by
          rw [List.drop_eq_getElem_cons hlt, show rain - h = (rain - (h + 1)) + 1 by omega, List.take_succ_cons, sumE]; omega
        rw [if_neg (mt (key (h + 1) hle).2 hx), eg, es]
        exact ih (by omega) (fun _ => by rw [show (h : Int) + 1 = ((h + 1 : Nat) : Int) by omega]; exact hx)
  have := main rain (Nat.le_refl _) (fun h => by omega)
  simpa [sumE] using this
theorem TDY_l2 (T : List Int) (w : List S36) (p : Int) (rain : Nat) (L A : List S36) (m e : Int) (i : Nat) (la kk : Int) (cl : List S43) (fr : List Int) (g s : Int) (hh : ∀ h : Int, 0 ≤ h → h ≤ (w.length : Int) → wx cl fr g s w h = 0)
    (hL : L.length = cl.length) (hi : i < cl.length) (h6 : cl.length ≤ 6) (hr : rain ≤ w.length) (hla : -1 ≤ la) (hla2 : la ≤ rain) (hk0 : 0 ≤ kk) (hk1 : kk < 2)
    (good : 0 ≤ la + kk → la + kk ≤ rain → decide ((dryOf w (la + kk) cl[i]).f1 ≤ (rain : Int)) = (kk == 0)) (k : Nat) (hk : 60 < k) :
    walkmilllaw05_TenterDry.l2 (k + 2) T w p rain L A m e i la kk cl fr g s = walkmilllaw05_TenterDry.l2 k T w p rain L A m e i la (wrap64 (kk + 1)) cl fr g s := by
  obtain ⟨hc, h1, h2, h3, h4, h5⟩ := wx_ok (hh 0 (by omega) (by omega))
  rw [show k + 2 = (k + 1) + 1 by omega, walkmilllaw05_TenterDry.l2, if_pos hk1, w64_of (n := la + kk) (by omega) (by omega)]
  by_cases hn : la + kk < 0
  · rw [if_pos hn, walkmilllaw05_TenterDry.j8, if_pos rfl]
  rw [if_neg hn, walkmilllaw05_TenterDry.j8]
  by_cases hg : la + kk > (rain : Int)
  · rw [if_pos (by simpa using hg)]
  rw [if_neg (by simpa using hg), own_eq cl fr g s (by omega) (by have := (chk_ok hc).2.2.1; omega), spans_eq w (by omega)]
  simp only [Option.bind_some]
  rw [w64_of (n := la + kk) (by omega) (by omega), tDry_eq k cl fr g s (la + kk) w (by omega) (by omega), hh (la + kk) (by omega) (by omega)]
  simp only [Option.bind_some, if_true, List.length_map]
  rw [if_pos (by omega), if_pos (by omega), if_pos (by omega), rd36_at _ i (by simpa using hi)]
  simp only [List.getElem_map]
  rw [good (by omega) (by omega), if_neg (by simp)]
theorem TDY_j4 (T : List Int) (w : List S36) (p : Int) (rain : Nat) (L A : List S36) (m e : Int) (i : Nat) (cl : List S43) (fr : List Int) (g s : Int) (hh : ∀ h : Int, 0 ≤ h → h ≤ (w.length : Int) → wx cl fr g s w h = 0)
    (hL : L.length = cl.length) (hi : i < cl.length) (h6 : cl.length ≤ 6) (hr : rain ≤ w.length) (k : Nat) (hk : 200 < k) :
    walkmilllaw05_TenterDry.j4 (k + 8) T w p rain L A m e i false cl fr g s = walkmilllaw05_TenterDry.l0 k T w p rain L A m e (wrap64 ((i : Int) + 1)) cl fr g s := by
  obtain ⟨hc, h1, h2, h3, h4, h5⟩ := wx_ok (hh 0 (by omega) (by omega))
  have ch := late_char w (fun x hx => (h3 x hx).1) cl[i] rain hr
  have e1 : lateA cl w i rain = lateO w rain cl[i].f1.f1 := by unfold lateA; rw [rd43_at cl i hi]; simp
  simp only at ch
  obtain ⟨c1, c2, c3, c4⟩ := ch
  have fin : ∀ la : Int, la = lateO w rain cl[i].f1.f1 → walkmilllaw05_TenterDry.j6 (k + 6) T w p rain L A m e i la cl fr g s = walkmilllaw05_TenterDry.l0 k T w p rain L A m e (wrap64 ((i : Int) + 1)) cl fr g s := by
    rintro la rfl
    rw [walkmilllaw05_TenterDry.j6, show k + 5 = (k + 3) + 2 by omega, TDY_l2 T w p rain L A m e i _ 0 cl fr g s hh hL hi h6 hr c1 c2 (by omega) (by omega) (fun x y => by
        rw [Int.add_zero] at x ⊢; simpa using c3 x) (k + 3) (by omega), show wrap64 (0 + 1) = 1 by rw [w64_of (by omega) (by omega)]; rfl,
      show k + 3 = (k + 1) + 2 by omega, TDY_l2 T w p rain L A m e i _ 1 cl fr g s hh hL hi h6 hr c1 c2 (by omega) (by omega) (fun x y => by
        simpa using c4 y) (k + 1) (by omega), show wrap64 (1 + 1) = 2 by rw [w64_of (by omega) (by omega)]; rfl, walkmilllaw05_TenterDry.l2, if_neg (by omega)]
  rw [show k + 8 = (k + 7) + 1 by omega, walkmilllaw05_TenterDry.j4, if_neg (by simp), own_eq cl fr g s (by omega) (by have := (chk_ok hc).2.2.1; omega), spans_eq w (by omega)]
  simp only [Option.bind_some]
  rw [tLate_eq (k + 7) cl fr g s w i rain (by omega) (by omega), hh rain (by omega) (by omega)]
  simp only [Option.bind_some, if_true]
  rw [if_pos (isIn_iff.2 (by omega))]
  by_cases hl : lateA cl w i rain ≥ 0
  · simp only [if_pos hl, if_true]
    rw [if_neg (by omega), show decide (lateA cl w i rain > (rain : Int)) = false by simp; omega, walkmilllaw05_TenterDry.j5, if_neg (by simp), if_pos rfl]
    exact fin _ e1
  · simp only [if_neg hl, if_true]
    rw [if_neg (by omega), if_neg (by omega), show decide ((0 : Int) > (rain : Int)) = false by simp, walkmilllaw05_TenterDry.j5, if_neg (by simp), if_neg (by omega)]
    exact fin _ (by omega)
theorem TDY_l (T : List Int) (hT : ∀ x ∈ T, B8 x) (w : List S36) (p rain : Nat) (m e : Int) (cl : List S43) (fr : List Int) (g s : Int) (hh : ∀ h : Int, 0 ≤ h → h ≤ (w.length : Int) → wx cl fr g s w h = 0)
    (h6 : cl.length ≤ 6) (hp : p ≤ w.length) (hr : rain ≤ w.length) (hN : NeedOK cl w rain m e) : ∀ (d i k : Nat), i + d = cl.length → 400 * (d + 1) < k →
    walkmilllaw05_TenterDry.l0 k T w p rain (cl.map (dryOf w p)) (cl.map (dryOf w 0)) m e i cl fr g s = some true
  | 0, i, k, hd, hk => by
    obtain ⟨k, rfl⟩ : ∃ m, k = m + 1 := ⟨k - 1, by omega⟩
    rw [walkmilllaw05_TenterDry.l0, if_neg (by simp; omega)]; rfl
  | d + 1, i, k, hd, hk => by
    obtain ⟨k, rfl⟩ : ∃ m, k = m + 1 := ⟨k - 1, by omega⟩
    obtain ⟨hc, h1, h2, h3, h4, h5⟩ := wx_ok (hh 0 (by omega) (by omega))
    have hi : i < cl.length := by omega
    have hwt := cloth_water ((chk_ok hc).2.2.2.1 cl[i] (List.getElem_mem _))
    have hy := byteOf_eq hT (i := 20 + (i : Int)) (by omega)
    have hin := insOf_bd hwt.2.1 hy.2
    rw [walkmilllaw05_TenterDry.l0, if_pos (by simp; omega), if_pos (by omega), if_pos (by omega), w64_of (n := 20 + (i : Int)) (by omega) (by omega), hy.1]
    simp only [Option.bind_some]
    rw [rd43_at cl i hi, inside_eq hwt.1 hwt.2.1 (by omega) hy.2]
    simp only [Option.bind_some]
    generalize hwa : insOf cl[i].f1.f0 cl[i].f1.f1 (byOf T (20 + (i : Int))) = water at hin ⊢
    obtain ⟨n', k', q1, q2, q3, q4, q5⟩ := hour_l T hT w (by omega) (fun x hx => h3 x hx) p hp rain (cl.map (dryOf w p)) (cl.map (dryOf w 0)) m e i water cl fr g s (w.length + 1 - p) 0 k (by omega) (by omega) (fun n' hn => by omega)
    rw [Nat.add_zero] at q2
    rw [q2]
    obtain ⟨k', rfl⟩ : ∃ m, k' = m + 9 := ⟨k' - 9, by omega⟩
    have fin : walkmilllaw05_TenterDry.j4 (k' + 8) T w p rain (cl.map (dryOf w p)) (cl.map (dryOf w 0)) m e i false cl fr g s = some true := by
      rw [TDY_j4 T w p rain _ _ m e i cl fr g s hh (by simp) hi h6 hr k' (by omega), nx i (by omega)]
      exact TDY_l T hT w p rain m e cl fr g s hh h6 hp hr hN d (i + 1) k' (by omega) (by omega)
    have hdl : (w.drop p).length = w.length - p := by simp
    have hne : ∀ x ∈ w.drop p, x.f0 ≤ x.f1 := fun x hx => (h3 x (List.mem_of_mem_drop hx)).2.1
    have lo : (dryOf w p cl[i]).f0 ≤ ((p + n' : Nat) : Int) := by
      unfold dryOf
      simp only [Int.toNat_natCast]
      rcases q5 with q5 | q5
      · have := dr_top S36.f1 (w.drop p) cl[i].f1.f0 p
        omega
      · by_cases hb : p + n' = w.length + 1
        · have := dr_top S36.f1 (w.drop p) cl[i].f1.f0 p
          omega
        · have := (dr_le S36.f1 (w.drop p) n' cl[i].f1.f0 p (by omega) (fun y hy => by have := h3 y (List.mem_of_mem_drop hy); omega)).2 (by
            have := (amts_bd T hT (w.drop p) p n' hne).2; omega)
          omega
    have hiB : ((p + n' : Nat) : Int) ≤ (dryOf w p cl[i]).f1 := by
      unfold dryOf
      simp only [Int.toNat_natCast]
      have ge := dr_ge S36.f0 (w.drop p) cl[i].f1.f1 p
      by_cases hlt : ((p + n' : Nat) : Int) ≤ dr S36.f0 (w.drop p) cl[i].f1.f1 p
      · exact hlt
      · obtain ⟨q, hq⟩ : ∃ q : Nat, dr S36.f0 (w.drop p) cl[i].f1.f1 p = (p : Int) + q := ⟨(dr S36.f0 (w.drop p) cl[i].f1.f1 p - p).toNat, by omega⟩
        have := (dr_le S36.f0 (w.drop p) q cl[i].f1.f1 p (by omega) (fun y hy => by have := h3 y (List.mem_of_mem_drop hy); omega)).1 (by omega)
        have b1 := (amts_bd T hT (w.drop p) p q hne).1
        have b2 := q4 q (by omega)
        omega
    rw [walkmilllaw05_TenterDry.j3, if_pos (by omega), if_pos (by simp; omega), rd36_at _ i (by simpa using hi), rd36_at (cl.map (dryOf w 0)) i (by simpa using hi)]
    simp only [List.getElem_map, List.length_map]
    rw [if_neg (by omega), if_neg (by omega)]
    rcases hN with ⟨he, j, hm, hj, n1, n2⟩ | ⟨he, hm, n1⟩
    · rw [if_pos he]
      by_cases hij : i < j
      · have := n2 i hij
        rw [if_pos (by omega), if_pos (by omega), if_neg (by omega), if_neg (by omega)]
        exact fin
      · rw [if_neg (by omega), if_neg (by omega)]
        by_cases he2 : (i : Int) = m
        · obtain rfl : i = j := by omega
          rw [if_pos he2, if_pos (by omega), show decide ((dryOf w 0 cl[i]).f1 ≤ (rain : Int)) = false by simp; omega]
          exact fin
        · rw [if_neg he2]
          exact fin
    · have := n1 i hi
      rw [if_neg (by omega), if_pos he, if_pos (by omega), if_neg (by omega)]
      exact fin
theorem TDY_K {l0 : List S131} (h0 : ∀ v ∈ l0, G4 v) {a1 a2 a3 a4 a5 : Int} (h1 : B8 a1) (h2 : B8 a2) (h3 : B8 a3) (h4 : B8 a4) (h5 : B8 a5) {l6 : List S81} (h6 : ∀ v ∈ l6, G2 v) {T : List Int} (hT : ∀ x ∈ T, B8 x) {v0 v1 : Int} (hv0 : B8 v0) (hv1 : B8 v1) :
    ∀ K : Nat, 5000 ≤ K → walkmilllaw05_TenterDry.f (K + 1) l0 a1 a2 a3 a4 a5 l6 T v0 v1 = some true := by
  intro K hK
  obtain ⟨cl, fr, g, s, ef, hc, hl⟩ := field_eq h0 h1 h2 h3 h4 h5 l6 (K + 1) (by omega)
  obtain ⟨w, ew, w1, w2, w3⟩ := weather_eq l0 a1 a2 a3 a4 a5 h6 (K + 1) (by omega)
  have hfr := (chk_ok hc).2.2.1
  have hh : ∀ h : Int, 0 ≤ h → h ≤ (w.length : Int) → wx cl fr g s w h = 0 := fun h q1 q2 => wx_zero hc w1 w2 w3 q1 q2
  have md : ∀ v : Int, B8 v → ∃ q : Nat, q ≤ w.length ∧ Int.tmod (wrap64 v) (wrap64 ((w.length : Int) + 1)) = (q : Int) := fun v ⟨u1, u2⟩ => by
    rw [w64_of (n := v) (by omega) (by omega), w64_of (n := (w.length : Int) + 1) (by omega) (by omega)]
    have := tmod_pos u1 (n := (w.length : Int) + 1) (by omega)
    exact ⟨(Int.tmod v ((w.length : Int) + 1)).toNat, by omega, by omega⟩
  obtain ⟨p, hp, ep⟩ := md v0 hv0
  obtain ⟨rain, hr, er⟩ := md v1 hv1
  unfold walkmilllaw05_TenterDry.f
  rw [ef]
  simp only [Option.bind_some]
  rw [ew, Option.bind_some]
  rw [if_neg (by rw [w64_of (by omega) (by omega)]; omega), ep, er, own_eq cl fr g s (by omega) (by omega), spans_eq w (by omega)]
  simp only [Option.bind_some]
  rw [tDry_eq (K + 1) cl fr g s p w (by omega) (by omega), hh p (by omega) (by omega), tDry_eq (K + 1) cl fr g s 0 w (by omega) (by omega), hh 0 (by omega) (by omega)]
  obtain ⟨m, e, en, hN⟩ := tNeed_eq (K + 1) cl fr g s rain w (hh rain (by omega) (by omega)) (by omega)
  simp only [Option.bind_some, if_true]
  rw [en]
  simp only [Option.bind_some, List.length_map, if_true]
  have fin : walkmilllaw05_TenterDry.j0 (K + 1) T w p rain (cl.map (dryOf w p)) (cl.map (dryOf w 0)) m e false cl fr g s = some true := by
    rw [walkmilllaw05_TenterDry.j0, if_neg (by simp)]
    have hd : 400 * (cl.length + 1) ≤ 400 * 7 := Nat.mul_le_mul_left _ (by omega)
    exact TDY_l T hT w p rain m e cl fr g s hh hl hp hr hN cl.length 0 K (by omega) (by omega)
  rcases hN with ⟨he, j, hm, hj, n1, n2⟩ | ⟨he, hm, n1⟩
  · rw [if_pos he, if_neg (by omega), show decide (m ≥ (cl.length : Int)) = false by simp; omega]
    exact fin
  · rw [if_neg (by omega), if_pos he, if_pos hm]
    exact fin
theorem TenterDry_yes {l0 : List S131} (h0 : ∀ v ∈ l0, G4 v) {a1 a2 a3 a4 a5 : Int} (h1 : B8 a1) (h2 : B8 a2) (h3 : B8 a3) (h4 : B8 a4) (h5 : B8 a5) {l6 : List S81} (h6 : ∀ v ∈ l6, G2 v) {T : List Int} (hT : ∀ x ∈ T, B8 x) {v0 v1 : Int} (hv0 : B8 v0) (hv1 : B8 v1) :
    ∃ k, walkmilllaw05_TenterDry.f k l0 a1 a2 a3 a4 a5 l6 T v0 v1 = some true := ⟨5000 + 1, TDY_K h0 h1 h2 h3 h4 h5 h6 hT hv0 hv1 5000 (Nat.le_refl _)⟩
end Go.Proofs.YtikmfpjcdcckeaaGreatDoor.P
