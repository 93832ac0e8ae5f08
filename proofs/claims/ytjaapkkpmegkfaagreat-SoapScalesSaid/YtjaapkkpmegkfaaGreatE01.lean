/- Part 1 of what the law's proof needs beyond its base: words, walks of functions and plain facts. -/
import Derived.Below
import Derived.Deep.Draws
import Derived.Deep.AppendLies
import Derived.Maps.AppendAt
import Derived.OwnWalk
import Derived.Laws.BytesArg
import Derived.Laws.MakeOwn
import Derived.Laws.OwnMore
import Derived.Deep.OwnRows
import Derived.Tactics
import Derived.Lib.ConvBytes
import Derived.Laws.Slices
import Derived.WalkKit
import Derived.KernelRfl
import Derived.RowKit3
import Derived.Deep.LoopGhost
import Derived.Deep.QuietTactic
import Derived.BigQuiet
import Derived.WideLaws
import Derived.Deep.DeepCutAuto
import Derived.Deep.CutBlock
import Derived.Deep.RegionHeld3
import Derived.Laws.Rows
import Derived.Lib.AppendStr
import Derived.ArgAppend
import Derived.Laws.IdiomCopy
import Derived.RowKit
import Derived.OrdersHeld
import Derived.Laws.BitsLemmas
import Derived.Deep.Slices
import Derived.OpenShut
import Derived.ChangeArms
import Derived.Test.YtjaapkkpmegkfaaGreatR01
import Derived.Test.YtjaapkkpmegkfaaGreatR02
import Derived.Test.YtjaapkkpmegkfaaGreatR03
import Derived.Test.YtjaapkkpmegkfaaGreatR04
import Derived.Test.YtjaapkkpmegkfaaGreatR05
import Derived.Test.YtjaapkkpmegkfaaGreatR06
import Derived.Test.YtjaapkkpmegkfaaGreatR07
import Derived.Test.YtjaapkkpmegkfaaGreatR08
import Derived.Test.YtjaapkkpmegkfaaGreatR09
import Derived.Test.YtjaapkkpmegkfaaGreatR10
import Derived.Test.YtjaapkkpmegkfaaGreatR11
import Derived.Test.YtjaapkkpmegkfaaGreatR12
import Derived.Test.YtjaapkkpmegkfaaGreatR13
set_option linter.unusedVariables false
set_option linter.unusedSimpArgs false
namespace Go.Proofs.YtjaapkkpmegkfaaGreatW.PrintWords
open Go.RowKit
theorem JB.grown {w w' : World} (h : JB w w') : Grown w w' := by
 obtain ⟨n, rfl⟩ := h
 induction n with
 | zero => exact Grown.refl _
 | succ n ih => rw [← World.drew_drewN]; exact Grown.drew ih
def Qa8 (w : World) (k : IntKind) (A : Option Addr) (n : Nat) (xs : List Int) : Prop :=
 xs.length = n ∧ n ≤ 9223372036854775807 ∧ (0 < n → ∃ ad, A = some ad ∧ ∀ j, j < n → w.cell? (ad.add j) = some (.int k (xs.getD j 0)))
theorem Qa8.below {w w1 : World} {k : IntKind} {A : Option Addr} {n : Nat} {xs : List Int} (h : Qa8 w k A n xs) (hb : Below w.heap.size w w1) : Qa8 w1 k A n xs :=
 ⟨h.1, h.2.1, fun hn => by
  obtain ⟨ad, e, hc⟩ := h.2.2 hn; exact ⟨ad, e, fun j hj => XY hb (hc j hj)⟩⟩
theorem LeO.trans {α : Type} {a b c : Option α} (h : LeO a b) (k : LeO b c) : LeO a c := fun r hr => k r (h r hr)
theorem LeO.map {α β : Type} {a a' : Option α} (f : α → β) (h : LeO a a') : LeO (a.map f) (a'.map f) := by
 intro r hr; obtain ⟨x, hx, hf⟩ := Option.map_eq_some_iff.1 hr; exact Option.map_eq_some_iff.2 ⟨x, h x hx, hf⟩
theorem Qbd {α : Type} {g : Nat → Option α} (h : ∀ k, LeO (g k) (g (k + 1))) (k : Nat) : ∀ j, LeO (g k) (g (k + j))
 | 0 => LeO.refl _
 | j + 1 => (Qbd h k j).trans (h (k + j))
theorem Qa9 {α : Type} {g : Nat → Option α} (h : ∀ k, LeO (g k) (g (k + 1))) {k k' : Nat} (hk : k ≤ k') {r : α} (hr : g k = some r) : g k' = some r := by
 have := Qbd h k (k' - k) r hr
 rwa [Nat.add_sub_cancel' hk] at this
def Qa2 (w w' : World) (g : Nat) (row : Option Nat) : Prop := w.heap.size ≤ w'.heap.size ∧ ∀ i, i < w.heap.size → i ≠ g → some i ≠ row → w'.heap[i]? = w.heap[i]?
theorem Qa2.refl (w : World) (g : Nat) (row : Option Nat) : Qa2 w w g row := ⟨Nat.le_refl _, fun _ _ _ _ => rfl⟩
theorem Qa2.of_below {w w1 : World} (h : Below w.heap.size w w1) (g : Nat) (row : Option Nat) : Qa2 w w1 g row := ⟨h.size, fun i hi _ _ => h.block i hi⟩
theorem Qa2.trans {w w1 w2 : World} {g : Nat} {row row1 : Option Nat} (h : Qa2 w w1 g row) (k : Qa2 w1 w2 g row1) (hr : row1 = row ∨ ∃ b, row1 = some b ∧ w.heap.size ≤ b) : Qa2 w w2 g row :=
 ⟨Nat.le_trans h.1 k.1, fun i hi hg hn => by
  refine (k.2 i (Nat.lt_of_lt_of_le hi h.1) hg ?_).trans (h.2 i hi hg hn)
  rcases hr with rfl | ⟨b, rfl, hb⟩
  ·exact hn
  ·intro e
   injection e with e
   omega⟩
def Ev {α : Type} (g : Nat → Option α) (r : α) : Prop := ∃ K, ∀ k, K ≤ k → g k = some r
theorem Ev.bind {α β : Type} {g : Nat → Option α} {f : Nat → α → Option β} {a : α} {r : β} (h : Ev g a) (k : Ev (fun n => f n a) r) : Ev (fun n => (g n).bind (f n)) r := by
 obtain ⟨K, h⟩ := h; obtain ⟨K', k⟩ := k; refine ⟨max K K', fun n hn => ?_⟩; have h1 := h n (by omega); have h2 := k n (by omega); simp only [h1, Option.bind_some]; exact h2
theorem Ev.step {α : Type} {g f : Nat → Option α} {r : α} (h : ∀ k, g (k + 1) = f k) (k : Ev f r) : Ev g r := by
 obtain ⟨K, k⟩ := k; refine ⟨K + 1, fun n hn => ?_⟩; obtain ⟨m, rfl⟩ : ∃ m, n = m + 1 := ⟨n - 1, by omega⟩
 rw [h]; exact k m (by omega)
section
variable {P : Program} {ops : Array Oper} {o : Oper} {a : Act} {Q : Exit → Act → World → Prop} {K : Act → World → Prop}
theorem Qbc {w0 W : World} (base : Nat) (hw : Region.wanted o (yielded ops a.tmps) = true) (s x : Operand) (t e : TypeId) (z : Value) (size bytes : Nat)
  (ho : o.op = .call { callee := .builtin .append, args := #[s, x], argTypes := #[t, t] })
  (ht : P.underlying t = some (.slice e)) (hinfo : (P.info? e).map (fun i => (i.zero, i.size, i.bytes)) = some (some z, size, bytes)) (hz : z.cells.size = size) (hs0 : 0 < size) (hb0 : 0 < bytes)
  (v : Value) (n : Nat) (xs ys : List Value) (hs : a.eval s = v) (hx : a.eval x = .slice (some ⟨W.heap.size, 0, none⟩) 1 1) (hys : ys.length = size) (h1 : ∀ u ∈ ys, u.oneCell' = true)
  (HO : W.ownsRow base e size v n xs) (HB : Below base w0 W) (hbase : base ≤ W.heap.size) (hl : (n + 1) * bytes ≤ 140737488355328)
  (h : ∀ v1 w1, w1.ownsRow base e size v1 (n + 1) (xs ++ ys) → Below base w0 w1 → W.grownBy w1 v.ownBlock → (v1.ownBlock = v.ownBlock ∨ ∃ b, v1.ownBlock = some b ∧ W.heap.size ≤ b) → K (a.put o.dst v1) w1) :
  if Region.wanted o (yielded ops a.tmps) = true then Oper.wp P o a (W.alloc (.cells ys.toArray e)) K Q else K (a.put o.dst undef) (W.alloc (.cells ys.toArray e)) := by
 obtain ⟨i0, hi, hzz⟩ := Option.map_eq_some_iff.1 hinfo; simp only [Prod.mk.injEq] at hzz; obtain ⟨hz0, hz1, hz2⟩ := hzz; have hlen : n + 1 ≤ 140737488355328 := Nat.le_trans (Nat.le_mul_of_pos_right _ hb0) hl; rw [if_pos hw]
 obtain ⟨v1, w1, hr, hown, hg, _, hat⟩ := run_append_own_at (P := P) (W.alloc (.cells ys.toArray e)) base t o.type e i0 z size bytes ht hi hz0 hz1 hz2 hz hs0 v n xs (HO.alloc _) ⟨W.heap.size, 0, none⟩ 1 1 ys (by rw [hys]; simp)
  (by simpa using World.news_of_block (cs := ys.toArray) (t := e) (fr := (0, 0)) (heap_alloc_new W (.cells ys.toArray e))) h1 (by simp only [maxLen]; omega) hl (by simp; omega)
 unfold Oper.wp execOp; simp only [ho, resolve, invoke, builtin, Sem.run_bind, Sem.run_pure, Result.andThen_ok, List.map_toArray, List.map_cons, List.map_nil, hs, hx, hr]; refine h v1 w1 hown ((HB.alloc hbase _).grown hg (by simp; omega) (ZN HO)) (World.grownBy.trans (World.grownBy_alloc W _ _) hg) ?_
 rcases hat with hat | hat
 ·exact .inl hat
 ·exact .inr ⟨_, hat, by simp⟩
end
section
variable {α : Type} {enc : α → Value} {d : α}
theorem ZJ.below {w w1 : World} {A : Option Addr} {n : Nat} {xs : List α} (h : ZJ enc d w A n xs) (hb : Below w.heap.size w w1) : ZJ enc d w1 A n xs :=
 ⟨h.1, h.2.1, fun hn => by
  obtain ⟨ad, e, hc⟩ := h.2.2 hn; exact ⟨ad, e, fun j hj => XY hb (hc j hj)⟩⟩
end
theorem Qaq {w : World} {g : Nat} {o : Obj} (h : w.heap[g]? = some o) (o' : Obj) : (w.alloc o').heap[g]? = some o := (Below.heap_alloc w o' g (Jh h)).trans h
section
variable {α : Type} {R R' : α → List Value → Prop} {e : TypeId} {size : Nat} {w w1 : World} {base : Nat} {v : Value} {ps : List α}
theorem J7.below (h : J7 R e size w base v ps) (hb : Below w.heap.size w w1) : J7 R e size w1 base v ps := by
 obtain ⟨inner, ho, hr⟩ := h; exact ⟨inner, J1 ho hb, hr⟩
end
section
variable {P : Program} {ops : Array Oper} {rest : List Oper} {o : Oper} {a : Act} {Q : Exit → Act → World → Prop} {α : Type} {R : α → List Value → Prop}
theorem J7.append {w0 W : World} (base : Nat) (hgd : o.guard = none) (s x : Operand) (t e : TypeId) (z : Value) (size bytes : Nat)
  (ho : o.op = .call { callee := .builtin .append, args := #[s, x], argTypes := #[t, t] })
  (ht : P.underlying t = some (.slice e)) (hinfo : (P.info? e).map (fun i => (i.zero, i.size, i.bytes)) = some (some z, size, bytes)) (hz : z.cells.size = size) (hs0 : 0 < size) (hb0 : 0 < bytes)
  (v : Value) (ps : List α) (p : α) (cs : List Value) (hs : a.eval s = v) (hx : a.eval x = .slice (some ⟨W.heap.size, 0, none⟩) 1 1) (hp : R p cs) (hcs : cs.length = size) (h1 : ∀ u ∈ cs, u.oneCell' = true)
  (HO : J7 R e size W base v ps) (HB : Below base w0 W) (hbase : base ≤ W.heap.size) (hl : (ps.length + 1) * bytes ≤ 140737488355328)
  (h : ∀ v1 w1, J7 R e size w1 base v1 (ps ++ [p]) → Below base w0 w1 → W.grownBy w1 v.ownBlock → (v1.ownBlock = v.ownBlock ∨ ∃ b, v1.ownBlock = some b ∧ W.heap.size ≤ b) → wpList P ops Q rest (a.put o.dst v1) w1) :
  wpList P ops Q (o :: rest) a (W.alloc (.cells cs.toArray e)) := by
 obtain ⟨inner, hown, hr⟩ := HO; refine Xk base hgd s x t e z size bytes ho ht hinfo hz hs0 hb0 v ps.length inner cs hs hx hcs h1 hown HB hbase hl ?_; intro v1 w1 hown1 hb1 hg1 hat1; exact h v1 w1 ⟨inner ++ cs, by rw [List.length_append, List.length_singleton]; exact hown1, hr.snoc hp hcs⟩ hb1 hg1 hat1
end
namespace Kd
def bool : Kd Bool := JW Value.bool (fun _ => rfl)
section
variable {P : Program} {ops : Array Oper} {o : Oper} {a : Act} {Q : Exit → Act → World → Prop} {Kc : Act → World → Prop} {α : Type}
theorem R_append_step (d : Kd α) {w0 W : World} (base : Nat) (hw : Region.wanted o (yielded ops a.tmps) = true) (s x : Operand) (t e : TypeId) (z : Value) (bytes : Nat)
  (ho : o.op = .call { callee := .builtin .append, args := #[s, x], argTypes := #[t, t] })
  (ht : P.underlying t = some (.slice e)) (hinfo : (P.info? e).map (fun i => (i.zero, i.size, i.bytes)) = some (some z, d.sz, bytes)) (hz : z.cells.size = d.sz) (hs0 : 0 < d.sz) (hb0 : 0 < bytes)
  (v : Value) (xs : List α) (p : α) (cs : List Value) (ok okp : Nat → Prop) (hs : a.eval s = v) (hx : a.eval x = .slice (some ⟨W.heap.size, 0, none⟩) 1 1) (hp : d.M W base okp p cs) (hokp : ∀ k, okp k → ok k ∧ some k ≠ v.ownBlock) (hfresh : ∀ k, W.heap.size ≤ k → ok k)
  (HO : d.R e W base ok v xs) (HB : Below base w0 W) (hbase : base ≤ W.heap.size) (hl : (xs.length + 1) * bytes ≤ 140737488355328)
  (h : ∀ v1 w1, d.R e w1 base ok v1 (xs ++ [p]) → Below base w0 w1 → W.grownBy w1 v.ownBlock → (v1.ownBlock = v.ownBlock ∨ ∃ b, v1.ownBlock = some b ∧ W.heap.size ≤ b) → Kc (a.put o.dst v1) w1) :
  if Region.wanted o (yielded ops a.tmps) = true then Oper.wp P o a (W.alloc (.cells cs.toArray e)) Kc Q else Kc (a.put o.dst undef) (W.alloc (.cells cs.toArray e)) := by
 obtain ⟨h0, inner, hown, hr⟩ := HO; refine Qbc base hw s x t e z d.sz bytes ho ht hinfo hz hs0 hb0 v xs.length inner cs hs hx (d.K_len (d.K_of_M hp)) (d.K_one (d.K_of_M hp)) hown HB hbase hl ?_; intro v1 w1 hown1 hb1 hg1 hat1; exact h v1 w1 (YL h0 hr hp hokp hfresh hown1 hg1 hat1) hb1 hg1 hat1
end
end Kd
namespace Kd
section
variable {α β : Type} {d : Kd α} {d' : Kd β} {e e' : Nat} {w w1 W : World} {base b b' : Nat} {ok ok' okv oku : Nat → Prop} {v u : Value} {xs : List α} {ys : List β}
theorem R_alloc (h : d.R e w base ok v xs) (o : Obj) : d.R e (w.alloc o) base ok v xs := R_below h (QO (Below.refl _ _) o)
end
end Kd
def QRow (w : World) (base : Nat) (e : TypeId) (size : Nat) (v : Value) (n : Nat) (xs : List Value) : Prop :=
  xs.length = n * size ∧
  ((n = 0 ∧ ∃ A, v = .slice A 0 0 ∧ ∀ a, A = some a → base ≤ a.block ∧ ∃ cur, w.heap[a.block]? = some (.cells cur e (0, 0))) ∨
   ∃ g off cap cur, v = .slice (some ⟨g, off * size, none⟩) n cap ∧ base ≤ g ∧ w.heap[g]? = some (.cells cur e (0, 0)) ∧ n ≤ cap ∧ off + cap ≤ maxLen ∧ cur.size = (off + cap) * size ∧ (cur.toList.drop (off * size)).take (n * size) = xs)
namespace Kd
def Q {α : Type} (d : Kd α) (e : Nat) (w : World) (base : Nat) (ok : Nat → Prop) (v : Value) (xs : List α) : Prop :=
 (∀ k, v.ownBlock = some k → ok k) ∧ ∃ inner, QRow w base e d.sz v xs.length inner ∧ Reps (d.M w base (fun k => ok k ∧ some k ≠ v.ownBlock)) d.sz xs inner
end Kd
theorem Qa8.nil (W : World) (k : IntKind) : Qa8 W k none ([] : List Int).length [] := ⟨rfl, by simp, fun h => absurd h (Nat.lt_irrefl 0)⟩
theorem ZJ.nil {α : Type} (enc : α → Value) (d : α) (W : World) : ZJ enc d W none ([] : List α).length [] := ⟨rfl, by simp, fun h => absurd h (Nat.lt_irrefl 0)⟩
end Go.Proofs.YtjaapkkpmegkfaaGreatW.PrintWords
namespace Go.Proofs.YtjaapkkpmegkfaaGreatW.PrintLast
section
variable {P : Program} {ops : Array Oper} {Q : Exit → Act → World → Prop} {md : Region.Mode} {S : World → Prop} {ds : List Nat}
theorem value_ {oi : Oper} {N : Option Tmp} {a : Act} {w w1 : World} {v : Value} {K : Act → World → Prop} (hw : Region.wanted oi (yielded ops a.tmps) = true) (hN : oi.dst = N) (hrun : (execOp a.eval oi).run P w = .ok (.value v) w1)
  (h : K (a.put N v) w1) : if Region.wanted oi (yielded ops a.tmps) = true then Oper.wp P oi a w K Q else K (a.put N undef) w := by
 rw [if_pos hw]; subst hN; unfold Oper.wp; rw [hrun]; exact h
end
end Go.Proofs.YtjaapkkpmegkfaaGreatW.PrintLast
namespace Go.Proofs.YtjaapkkpmegkfaaGreatW.PrintWords
open Go.RowKit
namespace Kd
def gap {α : Type} (f : Nat → Nat) (d : Kd α) (i : Nat) (c : List Value) : Kd (α × Nat) where
 sz := d.sz
 E := d.E
 K := fun w x cs => (x.2 = i → cs = c ∧ cs.length = d.sz ∧ ∀ u ∈ cs, u.oneCell' = true) ∧ (x.2 ≠ i → d.K w x.1 cs)
 M := fun w base ok x cs => (x.2 = i → cs = c ∧ cs.length = d.sz ∧ ∀ u ∈ cs, u.oneCell' = true) ∧ (x.2 ≠ i → d.M w base (fun k => ok k ∧ f k = x.2) x.1 cs)
 K_len := fun {w x cs} h => by
  by_cases hx : x.2 = i
  ·exact (h.1 hx).2.1
  ·exact d.K_len (h.2 hx)
 K_one := fun {w x cs} h => by
  by_cases hx : x.2 = i
  ·exact (h.1 hx).2.2
  ·exact d.K_one (h.2 hx)
 K_below := fun hb h => ⟨h.1, fun hx => d.K_below hb (h.2 hx)⟩
 K_of_M := fun h => ⟨h.1, fun hx => d.K_of_M (h.2 hx)⟩
 M_mono := fun hok h => ⟨h.1, fun hx => d.M_mono (fun k hk => ⟨hok k hk.1, hk.2⟩) (h.2 hx)⟩
 M_bound := fun h => ⟨h.1, fun hx => d.M_mono (fun _ hk => ⟨⟨hk.1.1, hk.2⟩, hk.1.2⟩) (d.M_bound (h.2 hx))⟩
 M_move := fun hm h => ⟨h.1, fun hx => d.M_move (fun k hk => hm k hk.1) (h.2 hx)⟩
 M_lower := fun hb h => ⟨h.1, fun hx => d.M_lower hb (h.2 hx)⟩
def H {α : Type} (d : Kd α) (e : Nat) (w : World) (base : Nat) (ok : Nat → Prop) (v : Value) (xs : List α) (i : Int) (oki : Nat → Prop) (c : List Value) : Prop :=
 (∀ k, oki k → ok k) ∧ ∃ f, (gap f d i.toNat c).R e w base (fun k => ok k ∧ ¬ oki k) v xs.zipIdx
end Kd
end Go.Proofs.YtjaapkkpmegkfaaGreatW.PrintWords
namespace Go.Proofs.YtjaapkkpmegkfaaGreatW.PrintWords
open Go.RowKit
section
variable {w W W2 : World} {S S2 S' : Nat → Prop}
theorem Kept.of_below (h : Below w.heap.size w W) (S : Nat → Prop) : Kept w W S := ⟨h.size, fun i hi _ => h.block i hi⟩
theorem Kept.mono (h : Kept w W S) (hs : ∀ k, S k → S' k) : Kept w W S' := ⟨h.1, fun i hi hn => h.2 i hi (fun hk => hn (hs i hk))⟩
theorem Kept.below (h : Kept w W S) (hb : Below W.heap.size W W2) : Kept w W2 S := h.then_ (Kept.of_below hb (fun _ => False)) (fun _ hk => hk.elim)
theorem Kept.alloc (h : Kept w W S) (o : Obj) : Kept w (W.alloc o) S := h.below (QO (Below.refl _ _) o)
end
def mx (a b : Int) : Int := if a < b then b else a
end Go.Proofs.YtjaapkkpmegkfaaGreatW.PrintWords
namespace Go.Proofs.YtjaapkkpmegkfaaGreat.P
open Go.RowKit Go.Proofs.YtjaapkkpmegkfaaGreatW.PrintWords Go.Proofs.YtjaapkkpmegkfaaGreatW.PrintLast Go.Proofs.YtjaapkkpmegkfaaGreatW.PrintMore
def z89 : S89 := ⟨(0 : Int), (0 : Int), (0 : Int), (0 : Int), (0 : Int)⟩
def k89 : Kd S89 := Kd.iso (Kd.pair (Kd.int .u8) (Kd.pair (Kd.int .u8) (Kd.pair (Kd.int .u8) (Kd.pair (Kd.int .u8) (Kd.int .u8))))) (fun x : S89 => (x.f0, x.f1, x.f2, x.f3, x.f4))
theorem Qb1 {w : World} {x : S89} {cs : List Value} (h : k89.K w x cs) : cs = [.int .u8 x.f0, .int .u8 x.f1, .int .u8 x.f2, .int .u8 x.f3, .int .u8 x.f4] := by
 obtain ⟨_, _, rfl, rfl, ⟨_, _, rfl, rfl, ⟨_, _, rfl, rfl, ⟨_, _, rfl, rfl, rfl⟩⟩⟩⟩ := h; exact rfl
def Qap (xs : List S89) (i : Int) : S89 := xs.getD i.toNat z89
theorem at_T89 {w : World} {A : Option Addr} {n : Nat} {xs : List S89} (h : Kd.C k89 w A n xs) (i : Int) (h0 : 0 ≤ i) (h1 : i < n) : ∃ ad , A = some ad ∧ w.cell? (ad.add (i.toNat * 5)) = some (.int .u8 (Qap xs i).f0) ∧ w.cell? ⟨(ad.add (i.toNat * 5)).block, (ad.add (i.toNat * 5)).off + 1, none⟩ = some (.int .u8 (Qap xs i).f1) ∧ w.cell? ⟨(ad.add (i.toNat * 5)).block, (ad.add (i.toNat * 5)).off + 2, none⟩ = some (.int .u8 (Qap xs i).f2) ∧ w.cell? ⟨(ad.add (i.toNat * 5)).block, (ad.add (i.toNat * 5)).off + 3, none⟩ = some (.int .u8 (Qap xs i).f3) ∧ w.cell? ⟨(ad.add (i.toNat * 5)).block, (ad.add (i.toNat * 5)).off + 4, none⟩ = some (.int .u8 (Qap xs i).f4) := by
 obtain ⟨ad, c, e, _, hK, hc0⟩ := Kd.C_get h z89 i h0 h1; have hc : ∀ j u, c[j]? = some u → w.cell? (ad.add (i.toNat * 5 + j)) = some u := hc0
 obtain rfl := Qb1 hK; exact ⟨ad, e, hc 0 _ rfl, by rw [← Jt _ _ 1 (by omega)]; exact hc 1 _ rfl, by rw [← Jt _ _ 2 (by omega)]; exact hc 2 _ rfl, by rw [← Jt _ _ 3 (by omega)]; exact hc 3 _ rfl, by rw [← Jt _ _ 4 (by omega)]; exact hc 4 _ rfl⟩
end Go.Proofs.YtjaapkkpmegkfaaGreat.P
namespace Go.Proofs.YtjaapkkpmegkfaaGreat.P
open Go.RowKit Go.Proofs.YtjaapkkpmegkfaaGreatW.PrintWords Go.Proofs.YtjaapkkpmegkfaaGreatW.PrintLast Go.Proofs.YtjaapkkpmegkfaaGreatW.PrintMore
attribute [local go_sem] JG JH JY JX Jv Ju JJ JK
def Qat.f (a0_0 a0_1 a1 : Int) : Option Int := some (wrap64 (a0_0 + (wrap64 (Int.tdiv (wrap64 (a1 * (wrap64 (a0_1 - a0_0)))) 255))))
set_option maxHeartbeats 8000000 in
set_option maxRecDepth 100000 in
theorem Qat.calls (a0_0 a0_1 a1 r : Int) (w : World) (h : Qat.f a0_0 a0_1 a1 = some r) :
  Calls Tryz.prog 56 #[.agg #[.int .i64 a0_0, .int .i64 a0_1], .int .i64 a1] w fun e w' => e = .returned (.int .i64 r) ∧ Below w.heap.size w w' := by
 have hu24 := Tryz.underlying24; have HB := Qa.mk (Below.refl w.heap.size w); have H : (some (wrap64 (a0_0 + (wrap64 (Int.tdiv (wrap64 (a1 * (wrap64 (a0_1 - a0_0)))) 255))))) = some r := h; clear h; obtain rfl := Option.some.inj H; go_enter Tryz.func56, Tryz.ntmps56; go_wp2_with (first | (refine bx 2 #[.int .i64 a0_0, .int .i64 a0_1] 24 ?_; intro gb101 hg w3 BK101 hb; have GW101 := gs HB hg; replace HB := bs HB hb; clear hb hg; obtain ⟨_, _, _, _⟩ := cf2 BK101)); go_ret; exact ⟨eT, pE HB⟩
def Qau.f (l0 : List Int) (a1 : Int) : Option Int := if (l0.length : Int) = 0 then (some 0) else (if 0 ≤ (Int.tmod a1 (l0.length : Int)) then (if (Int.tmod a1 (l0.length : Int)) < (l0.length : Int) then (some (wrap64 (rd l0 (Int.tmod a1 (l0.length : Int))))) else (none)) else (none))
set_option maxHeartbeats 8000000 in
set_option maxRecDepth 100000 in
theorem Qau.calls (A0 : Option Addr) (c0 : Nat) (l0 : List Int) (a1 r : Int) (w : World) (hr0 : Kd.C (Kd.int .u8) w A0 l0.length l0) (hc0 : l0.length ≤ c0) (h : Qau.f l0 a1 = some r) :
  Calls Tryz.prog 57 #[.slice A0 l0.length c0, .int .i64 a1] w fun e w' => e = .returned (.int .i64 r) ∧ JB w w' := by
 have HR0 := Qa.mk hr0; have HC0 := Qa.mk hc0; clear hr0 hc0; have H : (if (l0.length : Int) = 0 then (some 0) else (if 0 ≤ (Int.tmod a1 (l0.length : Int)) then (if (Int.tmod a1 (l0.length : Int)) < (l0.length : Int) then (some (wrap64 (rd l0 (Int.tmod a1 (l0.length : Int))))) else (none)) else (none))) = some r := h; clear h; by_cases c3 : (l0.length : Int) = 0
 ·rw [if_pos c3] at H
  have c3b0 : ((l0.length : Int) == 0) = true := beq_iff_eq.mpr c3; have c3b1 : ((l0.length : Int) != 0) = false := bne_eq_false_iff_eq.mpr c3; clear c3; obtain rfl := Option.some.inj H; go_enter Tryz.func57, Tryz.ntmps57; go_wp2; go_ret; exact ⟨eS, dS⟩
 ·rw [if_neg c3] at H
  have c3b0 : ((l0.length : Int) == 0) = false := beq_eq_false_iff_ne.mpr c3; have c3b1 : ((l0.length : Int) != 0) = true := bne_iff_ne.mpr c3; have c3b2 : ¬ (l0 = []) := fun h_ => c3 (by rw [h_]; rfl)
  obtain ⟨ji4, hji4⟩ : ∃ j_ : Int, (Int.tmod a1 (l0.length : Int)) = j_ := ⟨_, rfl⟩
  replace H : (if 0 ≤ (ji4) then (if (ji4) < (l0.length : Int) then (some (wrap64 (rd l0 (ji4)))) else (none)) else (none)) = some r := by first | (rw [hji4] at H; exact H) | (simp only [hji4] at H ⊢; exact H)
  by_cases c5 : 0 ≤ (ji4)
  ·rw [if_pos c5] at H
   have c5b0 : decide (0 ≤ (ji4)) = true := decide_eq_true c5; clear c5; by_cases c6 : (ji4) < (l0.length : Int)
   ·rw [if_pos c6] at H
    have c6b0 : decide ((ji4) < (l0.length : Int)) = true := decide_eq_true c6; clear c6; obtain rfl := Option.some.inj H; have p101 : 0 ≤ ((ji4) : Int) := dT; have q101 : (ji4) < (l0.length : Int) := dT; obtain ⟨ad101, e101, hx101_0⟩ := Kd.at_int HR0.out (ji4) p101 q101
    cases e101
    replace p101 := eq_true p101; replace q101 := eq_true q101; go_enter Tryz.func57, Tryz.ntmps57; go_wp2; go_ret; exact ⟨by first | rfl | (simp; done) | (simp only [← hji4] <;> (first | rfl | simp)) | (simp [*]; done), dS⟩
   ·rw [if_neg c6] at H
    exact absurd H (by simp)
  ·rw [if_neg c5] at H
   exact absurd H (by simp)
def Qas.l0 : Nat → List Int → Int → Int → Option Bool
 | 0, _, _, _ => none
 | k + 1, x0, x1, x5 => if x5 < (x0.length : Int) then (if 0 ≤ x5 then (if (rd x0 x5) = x1 then (some true) else (Qas.l0 k x0 x1 (wrap64 (x5 + 1)))) else (none)) else (some false)
def Qas.f (k : Nat) (l0 : List Int) (a1 : Int) : Option Bool := Qas.l0 k l0 a1 0
set_option maxHeartbeats 8000000 in
set_option maxRecDepth 100000 in
theorem Qas.calls (k : Nat) (A0 : Option Addr) (c0 : Nat) (l0 : List Int) (a1 : Int) (r : Bool) (w : World) (hr0 : Kd.C (Kd.int .i64) w A0 l0.length l0) (hc0 : l0.length ≤ c0) (h : Qas.f k l0 a1 = some r) :
  Calls Tryz.prog 62 #[.slice A0 l0.length c0, .int .i64 a1] w fun e w' => e = .returned (.bool r) ∧ JB w w' := by
 have HR0 := Qa.mk hr0; have HC0 := Qa.mk hc0; clear hr0 hc0; have H : (Qas.l0 k l0 a1 0) = some r := h; clear h; have H' := Qa.mk H; clear H; go_enter Tryz.func62, Tryz.ntmps62; go_wp2
 go_loopg [5] k (fun kq v5 w' => ∃ (x5_1 : Int), v5 = .int .i64 x5_1 ∧ Qa (Qas.l0 kq l0 a1 x5_1 = some r) ∧ Qa (kq ≤ k) ∧ JB w w')
 case atStart => exact ⟨(0), eS, H', ⟨Nat.le_refl _⟩, dS⟩
 case round =>
  clear H'; try clear p2
  obtain ⟨x5_1, rfl, HA, HK1, ⟨m1, rfl⟩⟩ := hrel
  cases gk with
  | zero => exact absurd HA.out (by simp [Qas.l0])
  | succ k1 =>
   have H := HA.out; clear HA; simp only [Qas.l0] at H; by_cases c3 : x5_1 < (l0.length : Int)
   ·rw [if_pos c3] at H
    have c3b0 : decide (x5_1 < (l0.length : Int)) = true := decide_eq_true c3; clear c3; by_cases c4 : 0 ≤ x5_1
    ·rw [if_pos c4] at H
     have c4b0 : decide (0 ≤ x5_1) = true := decide_eq_true c4; clear c4; by_cases c5 : (rd l0 x5_1) = a1
     ·rw [if_pos c5] at H
      have c5b0 : ((rd l0 x5_1) == a1) = true := beq_iff_eq.mpr c5; have c5b1 : ((rd l0 x5_1) != a1) = false := bne_eq_false_iff_eq.mpr c5; clear c5; obtain rfl := Option.some.inj H; have p101 : 0 ≤ (x5_1 : Int) := dT; have q101 : x5_1 < (l0.length : Int) := dT; obtain ⟨ad101, e101, hx101_0⟩ := Kd.at_int HR0.out x5_1 p101 q101
      cases e101
      replace p101 := eq_true p101; replace q101 := eq_true q101; go_wp2; go_ret; exact ⟨eS, dS⟩
     ·rw [if_neg c5] at H
      have c5b0 : ((rd l0 x5_1) == a1) = false := beq_eq_false_iff_ne.mpr c5; have c5b1 : ((rd l0 x5_1) != a1) = true := bne_iff_ne.mpr c5; have H' := Qa.mk H; clear H; have p101 : 0 ≤ (x5_1 : Int) := dT; have q101 : x5_1 < (l0.length : Int) := dT; obtain ⟨ad101, e101, hx101_0⟩ := Kd.at_int HR0.out x5_1 p101 q101
      cases e101
      replace p101 := eq_true p101; replace q101 := eq_true q101; go_wp2
      go_roundg k1
      case measure => have := HK1.out; omega
      case rel => exact ⟨(wrap64 (x5_1 + 1)), eS, H', ⟨by have := HK1.out; omega⟩, dS⟩
    ·rw [if_neg c4] at H
     exact absurd H (by simp)
   ·rw [if_neg c3] at H
    have c3b0 : decide (x5_1 < (l0.length : Int)) = false := decide_eq_false c3; clear c3; obtain rfl := Option.some.inj H; go_wp2; go_ret; exact ⟨eS, dS⟩
def Qar.l0 : Nat → List Int → List Int → Int → Option Bool
 | 0, _, _, _ => none
 | k + 1, x0, x1, x5 => if x5 < (x0.length : Int) then (if 0 ≤ x5 then ((Qas.f k x1 (rd x0 x5)).bind fun t102 => (if t102 = true then (Qar.l0 k x0 x1 (wrap64 (x5 + 1))) else (some false))) else (none)) else (some true)
def Qar.f (k : Nat) (l0 l1 : List Int) : Option Bool := Qar.l0 k l0 l1 0
set_option maxHeartbeats 8000000 in
set_option maxRecDepth 100000 in
theorem Qar.calls (k : Nat) (A0 : Option Addr) (c0 : Nat) (l0 : List Int) (A1 : Option Addr) (c1 : Nat) (l1 : List Int) (r : Bool) (w : World) (hr0 : Kd.C (Kd.int .i64) w A0 l0.length l0) (hc0 : l0.length ≤ c0) (hr1 : Kd.C (Kd.int .i64) w A1 l1.length l1) (hc1 : l1.length ≤ c1) (h : Qar.f k l0 l1 = some r) :
  Calls Tryz.prog 61 #[.slice A0 l0.length c0, .slice A1 l1.length c1] w fun e w' => e = .returned (.bool r) ∧ JB w w' := by
 have HR0 := Qa.mk hr0; have HC0 := Qa.mk hc0; clear hr0 hc0; have HR1 := Qa.mk hr1; have HC1 := Qa.mk hc1; clear hr1 hc1; have H : (Qar.l0 k l0 l1 0) = some r := h; clear h; have H' := Qa.mk H; clear H; go_enter Tryz.func61, Tryz.ntmps61; go_wp2
 go_loopg [5] k (fun kq v5 w' => ∃ (x5_1 : Int), v5 = .int .i64 x5_1 ∧ Qa (Qar.l0 kq l0 l1 x5_1 = some r) ∧ Qa (kq ≤ k) ∧ JB w w')
 case atStart => exact ⟨(0), eS, H', ⟨Nat.le_refl _⟩, dS⟩
 case round =>
  clear H'; try clear c1
  try clear p2
  obtain ⟨x5_1, rfl, HA, HK1, ⟨m1, rfl⟩⟩ := hrel
  cases gk with
  | zero => exact absurd HA.out (by simp [Qar.l0])
  | succ k1 =>
   have H := HA.out; clear HA; simp only [Qar.l0] at H; by_cases c3 : x5_1 < (l0.length : Int)
   ·rw [if_pos c3] at H
    have c3b0 : decide (x5_1 < (l0.length : Int)) = true := decide_eq_true c3; clear c3; by_cases c4 : 0 ≤ x5_1
    ·rw [if_pos c4] at H
     have c4b0 : decide (0 ≤ x5_1) = true := decide_eq_true c4; clear c4; obtain ⟨t102, A5, H⟩ := bi H; by_cases c6 : t102 = true
     ·subst c6
      rw [if_pos rfl] at H; have H' := Qa.mk H; clear H; have p101 : 0 ≤ (x5_1 : Int) := dT; have q101 : x5_1 < (l0.length : Int) := dT; obtain ⟨ad101, e101, hx101_0⟩ := Kd.at_int HR0.out x5_1 p101 q101
      cases e101
      replace p101 := eq_true p101; replace q101 := eq_true q101; go_wp2_with (first | ((with_reducible refine gc 62 rfl ?_); refine gL 17 Tryz.func62 #[.slice A1 l1.length c1, .int .i64 (rd l0 x5_1)] ?_; (with_reducible refine (Qas.calls k1 _ _ l1 (rd l0 x5_1) true _ ?side1 ?side2 A5.out).mono ?_); (case side1 => exact pC HR1.out); (case side2 => exact HC1.out); rintro e w' ⟨rfl, ⟨nd, rfl⟩⟩; refine ⟨_, rfl, ?_⟩))
      go_roundg k1
      case measure => have := HK1.out; omega
      case rel => exact ⟨(wrap64 (x5_1 + 1)), eS, H', ⟨by have := HK1.out; omega⟩, dS⟩
     ·replace c6 := Bool.eq_false_iff.mpr c6
      subst c6; rw [if_neg (show ¬ (false = true) by decide)] at H; obtain rfl := Option.some.inj H; have p101 : 0 ≤ (x5_1 : Int) := dT; have q101 : x5_1 < (l0.length : Int) := dT; obtain ⟨ad101, e101, hx101_0⟩ := Kd.at_int HR0.out x5_1 p101 q101
      cases e101
      replace p101 := eq_true p101; replace q101 := eq_true q101; go_wp2_with (first | ((with_reducible refine gc 62 rfl ?_); refine gL 17 Tryz.func62 #[.slice A1 l1.length c1, .int .i64 (rd l0 x5_1)] ?_; (with_reducible refine (Qas.calls k1 _ _ l1 (rd l0 x5_1) false _ ?side1 ?side2 A5.out).mono ?_); (case side1 => exact pC HR1.out); (case side2 => exact HC1.out); rintro e w' ⟨rfl, ⟨nd, rfl⟩⟩; refine ⟨_, rfl, ?_⟩)); go_ret; exact ⟨eS, dS⟩
    ·rw [if_neg c4] at H
     exact absurd H (by simp)
   ·rw [if_neg c3] at H
    have c3b0 : decide (x5_1 < (l0.length : Int)) = false := decide_eq_false c3; clear c3; obtain rfl := Option.some.inj H; go_wp2; go_ret; exact ⟨eS, dS⟩
end Go.Proofs.YtjaapkkpmegkfaaGreat.P
namespace Go.Proofs.YtjaapkkpmegkfaaGreat.P
open Go.RowKit Go.Shelf Go.Proofs.YtjaapkkpmegkfaaGreatW.PrintWords Go.Proofs.YtjaapkkpmegkfaaGreatW.PrintLast Go.Proofs.YtjaapkkpmegkfaaGreatW.PrintMore
def okB (b : S68) : Bool := decide (1 ≤ b.f0 ∧ b.f0 ≤ 400 ∧ 0 ≤ b.f1 ∧ b.f1 ≤ 10000 ∧ 0 ≤ b.f2 ∧ b.f2 ≤ 50 ∧ 0 ≤ b.f3.f0 ∧ b.f3.f0 ≤ b.f3.f1 ∧ b.f3.f1 ≤ 2000)
def Qay (b : S68) : Bool := decide (b.f1 - b.f2 - b.f3.f1 < 16 * b.f0)
def Qax (b : S68) : Bool := decide (b.f1 + b.f2 - b.f3.f0 < 16 * b.f0)
def pick (p : S68 → Bool) : Nat → List S68 → List Int
 | _, [] => []
 | i, x :: r => if p x = true then (i : Int) :: pick p (i + 1) r else pick p (i + 1) r
theorem Qa1 (p : S68 → Bool) : ∀ (l : List S68) (i : Nat), (pick p i l).length ≤ l.length
 | [], _ => Nat.le_refl _
 | x :: r, i => by
  unfold pick; have := Qa1 p r (i + 1)
  split <;> simp <;> omega
theorem Qbq {l : List S68} {i : Nat} (h : i < l.length) : Qu l (i : Int) = l[i] := by simp [Qu, List.getD_eq_getElem?_getD, List.getElem?_eq_getElem h]
theorem Qbw (b : S68) : Zh.f b.f0 b.f1 b.f2 b.f3.f0 b.f3.f1 = some (!okB b) := by
 unfold Zh.f okB; simp only [Y1, isSpan_eq, Option.bind_some, List.all_cons, List.all_nil, Bool.and_true]; by_cases h1 : 1 ≤ b.f0 ∧ b.f0 ≤ 400
 ·rw [if_pos (by simpa using h1)]
  by_cases h2 : 0 ≤ b.f1 ∧ b.f1 ≤ 10000
  ·rw [if_pos (by simpa using h2)]
   by_cases h3 : 0 ≤ b.f2 ∧ b.f2 ≤ 50
   ·rw [if_pos (by simpa using h3)]
    congr 2
    exact decide_eq_decide.2 (by omega)
   ·rw [if_neg (by simpa using h3)]
    congr 1; symm; rw [Bool.not_eq_true', decide_eq_false_iff_not]; omega
  ·rw [if_neg (by simpa using h2)]
   congr 1; symm; rw [Bool.not_eq_true', decide_eq_false_iff_not]; omega
 ·rw [if_neg (by simpa using h1)]
  congr 1; symm; rw [Bool.not_eq_true', decide_eq_false_iff_not]; omega
theorem Qbm (l : List S68) : Jy.f l = some (l.any fun b => !okB b) := by
 unfold Jy.f; exact YA fun b _ => Qbw b
theorem Qba {b : S68} (h : okB b = true) (hs : Qax b = true) : Qay b = true := by
 unfold okB at h; unfold Qax at hs; unfold Qay; rw [decide_eq_true_iff] at h hs ⊢; omega
theorem Qb3 (l : List S68) (hm : l.length ≤ 1000) (hok : ∀ b ∈ l, okB b = true) (d : Nat) : ∀ (k i : Nat) (xs ys : List Int), i + d = l.length → d < k → xs.length ≤ i → ys.length ≤ i →
  QN.l0 k xs ys l (l.length : Int) (i : Int) = some (xs ++ pick Qax i (l.drop i), ys ++ pick Qay i (l.drop i), 0) := by
 induction d with
 | zero =>
  intro k i xs ys hi hk _ _; obtain ⟨k, rfl⟩ : ∃ m, k = m + 1 := ⟨k - 1, by omega⟩
  simp only [QN.l0]; rw [if_neg (by omega), List.drop_of_length_le (by omega)]
  simp [pick]
 | succ d ih =>
  intro k i xs ys hi hk hx hy; obtain ⟨k, rfl⟩ : ∃ m, k = m + 1 := ⟨k - 1, by omega⟩
  have hw : wrap64 ((i : Int) + 1) = ((i + 1 : Nat) : Int) := by rw [w64 (by omega)]; omega
  have hlt : i < l.length := by omega
  have hb := hok l[i] (List.getElem_mem hlt); simp only [QN.l0]; rw [if_pos (by omega), if_pos (by omega), if_pos (by omega), hw, Qbq hlt, List.drop_eq_getElem_cons hlt]; generalize l[i] = b at hb ⊢; have hb' := hb; unfold okB at hb'; rw [decide_eq_true_iff] at hb'; rw [w64 (x := b.f1 - b.f2) (by omega), w64 (x := b.f1 - b.f2 - b.f3.f1) (by omega), w64 (x := b.f0 * 16) (by omega), w64 (x := b.f1 + b.f2) (by omega), w64 (x := b.f1 + b.f2 - b.f3.f0) (by omega)]; simp only [Option.bind_some]; by_cases hp : Qay b = true
  ·have hp' := hp
   unfold Qay at hp'; rw [decide_eq_true_iff] at hp'; rw [if_pos (by omega), if_pos (by omega)]; by_cases hs : Qax b = true
   ·have hs' := hs
    unfold Qax at hs'; rw [decide_eq_true_iff] at hs'; rw [if_pos (by omega), if_pos (by omega), ih k (i + 1) _ _ (by omega) (by omega) (by simp; omega) (by simp; omega)]; simp only [pick, hp, hs, if_true, List.append_assoc, List.singleton_append]
   ·have hs' := hs
    unfold Qax at hs'; rw [decide_eq_true_iff] at hs'; rw [if_neg (by omega), ih k (i + 1) _ _ (by omega) (by omega) (by omega) (by simp; omega)]; simp only [pick, hp, hs, if_true, if_false, List.append_assoc, List.singleton_append, Bool.false_eq_true]
  ·have hp' := hp
   unfold Qay at hp'; rw [decide_eq_true_iff] at hp'; have hs : ¬ Qax b = true := fun e => hp (Qba hb e)
   rw [if_neg (by omega), ih k (i + 1) _ _ (by omega) (by omega) (by omega) (by omega)]; simp only [pick, hp, hs, if_false, Bool.false_eq_true]
theorem Qb0 (l : List S68) (hm : l.length ≤ 1000) {k : Nat} (hk : l.length < k) : QN.f k l = some (if (l.length : Int) > 12 then ([], [], 5) else if l.all okB = true then (pick Qax 0 l, pick Qay 0 l, 0) else ([], [], 2)) := by
 unfold QN.f; by_cases h : (l.length : Int) > 12
 ·rw [if_pos h, if_pos h]
 ·rw [if_neg h, if_neg h, Qbm]
  simp only [Option.bind_some]; by_cases ho : l.all okB = true
  ·rw [if_neg (by simpa using ho), if_pos ho]
   have := Qb3 l hm (by simpa using ho) l.length k 0 [] [] (by omega) hk (by simp) (by simp)
   simpa using this
  ·rw [if_pos (by simpa using ho), if_neg ho]
end Go.Proofs.YtjaapkkpmegkfaaGreat.P
namespace Go.Proofs.YtjaapkkpmegkfaaGreat.P
open Go.RowKit Go.ChangeShapes Go.WideShapes Go.Deep Go.Proofs.YtjaapkkpmegkfaaGreatW.PrintWords Go.Proofs.YtjaapkkpmegkfaaGreatW.PrintLast Go.Proofs.YtjaapkkpmegkfaaGreatW.PrintMore
structure Qa0 {α : Type} (P : Program) (d : Kd α) (t : TypeId) (B : α → Prop) : Prop where
 sz : P.cellsOf t = d.sz
 op : ∀ (H : Type) (enc : TypeId × Value → H) (w : World) (base : Nat) (spare : Nat → Bool) (held : Bool) (n : Nat) (cs : List Value) (x : DataW H × List MemPlace), DataW.trod enc P w base spare held n t cs = some x → ∃ p, d.K w p cs ∧ B p
theorem Qa0.int {P : Program} {t : TypeId} {k : IntKind} (ht : P.underlying t = some (.int k)) (hc : P.cellsOf t = 1) : Qa0 P (Kd.int k) t (fun n => (Lit.int k n).wf = true) :=
 ⟨hc, fun H enc w base spare held n cs x h => by
  obtain ⟨m, rfl, _, hw⟩ := DataW.trod_int ht h; exact ⟨m, rfl, hw⟩⟩
theorem Qbf {α : Type} {Q : Nat → α → Prop} : ∀ (n : Nat), (∀ i, i < n → ∃ p, Q i p) → ∃ l : List α, l.length = n ∧ ∀ i p, l[i]? = some p → Q i p
 | 0, _ => ⟨[], rfl, fun i p h => by simp at h⟩
 | n + 1, h => by
  obtain ⟨l, hl, hq⟩ := Qbf n (fun i hi => h i (by omega)); obtain ⟨p, hp⟩ := h n (by omega); refine ⟨l ++ [p], by simp [hl], fun i q hi => ?_⟩
  rcases Nat.lt_or_ge i l.length with h1 | h1
  ·rw [List.getElem?_append_left h1] at hi
   exact hq i q hi
  ·have : i = n := by
    have := (List.getElem?_eq_some_iff.1 hi).1
    simp at this
    omega
   subst this; rw [List.getElem?_append_right h1, hl, Nat.sub_self] at hi; obtain rfl : p = q := by simpa using hi
   exact hp
theorem Qa0.slice {α : Type} {P : Program} {d : Kd α} {t e : TypeId} {B : α → Prop} (h : Qa0 P d e B) (ht : P.underlying t = some (.slice e)) (hc : P.cellsOf t = 1) : Qa0 P (Kd.slice e d) t (fun l => ∀ x ∈ l, B x) :=
 ⟨hc, fun H enc w base spare held n cs x hx => by
  rcases open_slice ht hx with ⟨rfl, _⟩ | ⟨a, len, cap, m, n', D, Pl, rfl, hb, hl, hm, hmm, _, hi⟩
  ·exact ⟨[], ⟨none, 0, rfl, Nat.le_refl _, Kd.C_nil _ _⟩, fun x hx => by cases hx⟩
  ·obtain ⟨l, hll, hq⟩ := Qbf (Q := fun i p => (∃ cs', d.K w p cs' ∧ ∀ j, j < d.sz → w.cell? (a.add (i * d.sz + j)) = cs'[j]?) ∧ B p) len (fun i hi' => by
    obtain ⟨cs', hcs, htr⟩ := hi i (by rw [hmm]; split <;> omega); obtain ⟨p, hk, hp⟩ := h.op H enc w base spare held n' cs' _ htr; obtain ⟨_, hcl, hat⟩ := World.cells?_some hcs; rw [h.sz] at hat
    exact ⟨p, ⟨cs', hk, fun j hj => by
     have := hat j hj; rw [Go.Deep.add_add] at this; exact this⟩, hp⟩)
   refine ⟨l, ⟨some a, cap, by rw [hll], by rw [hll]; exact hl, ⟨rfl, by rw [hll]; simp only [maxLen] at hm; omega, fun h0 => ⟨a, rfl, fun j p hj => ?_⟩⟩⟩, fun x hx => ?_⟩
   ·obtain ⟨⟨cs', hk, hat⟩, _⟩ := hq j p hj
    refine ⟨cs', d.K_len hk, hk, fun i u hu => ?_⟩; have hi' : i < d.sz := by have := (List.getElem?_eq_some_iff.1 hu).1; rw [d.K_len hk] at this; exact this
    rw [hat i hi', hu]
   ·obtain ⟨i, hi'⟩ := List.getElem?_of_mem hx
    exact (hq i x hi').2⟩
def Qav {α : Type} (P : Program) (fs : Array Field) (j off : Nat) (d : Kd α) (B : α → Prop) : Prop :=
 ∀ (H : Type) (enc : TypeId × Value → H) (w : World) (base : Nat) (spare : Nat → Bool) (held : Bool) (n : Nat) (cs : List Value) (xs : List (DataW H × List MemPlace)), xs.length = fs.size →
  (∀ (i : Nat) (f : Field), fs[i]? = some f → DataW.trod enc P w base spare held n f.type ((cs.drop f.offset).take (P.cellsOf f.type)) = xs[i]?) → ∃ p, d.K w p ((cs.drop off).take d.sz) ∧ B p
theorem Qav.one {α : Type} {P : Program} {fs : Array Field} {j off : Nat} {d : Kd α} {B : α → Prop} (f : Field) (hf : fs[j]? = some f) (ho : f.offset = off) (h : Qa0 P d f.type B) : Qav P fs j off d B := by
 intro H enc w base spare held n cs xs hl hx; have h1 := hx j f hf; have hj : j < xs.length := by rw [hl]; exact (Array.getElem?_eq_some_iff.1 hf).1
 rw [List.getElem?_eq_getElem hj, ho, h.sz] at h1; exact h.op H enc w base spare held n _ _ h1
theorem Qav.cons {α β : Type} {P : Program} {fs : Array Field} {j off : Nat} {d : Kd α} {d' : Kd β} {B : α → Prop} {B' : β → Prop} (h : Qav P fs j off d B) (h' : Qav P fs (j + 1) (off + d.sz) d' B') : Qav P fs j off (Kd.pair d d') (fun p => B p.1 ∧ B' p.2) := by
 intro H enc w base spare held n cs xs hl hx; obtain ⟨p, h1, h2⟩ := h H enc w base spare held n cs xs hl hx; obtain ⟨q, h3, h4⟩ := h' H enc w base spare held n cs xs hl hx; refine ⟨(p, q), ⟨_, _, ?_, h1, h3⟩, h2, h4⟩; show (cs.drop off).take (d.sz + d'.sz) = _; rw [List.take_add, List.drop_drop]
theorem Qav.iso {α β : Type} {P : Program} {fs : Array Field} {j off : Nat} {d : Kd α} {B : α → Prop} (h : Qav P fs j off d B) (f : β → α) (g : α → β) (hg : ∀ a, f (g a) = a) : Qav P fs j off (Kd.iso d f) (fun y => B (f y)) := by
 intro H enc w base spare held n cs xs hl hx; obtain ⟨p, h1, h2⟩ := h H enc w base spare held n cs xs hl hx; exact ⟨g p, by show d.K w (f (g p)) _; rw [hg]; exact h1, by show B (f (g p)); rw [hg]; exact h2⟩
theorem Qa0.array {α : Type} {P : Program} {fs : Array Field} {d : Kd α} {t e : TypeId} {n : Nat} {B : α → Prop} (h : Qav P fs 0 0 d B) (ht : P.underlying t = some (.array n e)) (hc : P.cellsOf t = d.sz) (he : P.cellsOf e = 1) (hn : fs.size = n) (hf : ∀ i : Fin fs.size, fs[i].type = e ∧ fs[i].offset = i.val) : Qa0 P d t B :=
 ⟨hc, fun H enc w base spare held n' cs x hx => by
  obtain ⟨xs, m, _, _, hcl, hl, hg⟩ := DataW.trod_array ht hx
  obtain ⟨p, h1, h2⟩ := h H enc w base spare held m cs xs (by rw [hl, hn]) (fun i f hi => by
   obtain ⟨hi', rfl⟩ := Array.getElem?_eq_some_iff.1 hi; obtain ⟨e1, e2⟩ := hf ⟨i, hi'⟩; have e1' : fs[i].type = e := e1; have e2' : fs[i].offset = i := e2; have := hg i (by rw [← hn]; exact hi'); rw [he, Nat.mul_one] at this; rw [e1', e2', he]; exact this)
  refine ⟨p, ?_, h2⟩; rw [List.drop_zero, List.take_of_length_le (by rw [hcl, hc]; exact Nat.le_refl _)] at h1; exact h1⟩
theorem Qa0.arg_slice {α : Type} {P : Program} {d : Kd α} {t e : TypeId} {B : List α → Prop} (h : Qa0 P (Kd.slice e d) t B) {H : Type} {enc : TypeId × Value → H} {w : World} {base : Nat} {spare : Nat → Bool} {held : Bool} {v : Value} {x : DataW H} {ps : List MemPlace} {a : Option Addr} {len cap : Nat} (hv : v = .slice a len cap) (hx : DataW.Trod enc P w base spare held t v x ps) :
  ∃ l : List α, len = l.length ∧ l.length ≤ cap ∧ Kd.C d w a l.length l ∧ B l := by
 obtain ⟨n, hn⟩ := hx; subst hv; obtain ⟨l, ⟨A, c, he, hl, hr⟩, hb⟩ := h.op H enc w base spare held n _ _ hn; have he' : Value.slice a len cap = .slice A l.length c := by simpa [Value.cells] using he
 cases he'
 exact ⟨l, rfl, hl, hr, hb⟩
end Go.Proofs.YtjaapkkpmegkfaaGreat.P
namespace Go.Proofs.YtjaapkkpmegkfaaGreat.P
open Go.RowKit Go.Proofs.YtjaapkkpmegkfaaGreatW.PrintWords
def IsK (k : IntKind) (n : Int) : Prop := (Lit.int k n).wf = true
theorem O_u8 : Qa0 Tryz.prog (Kd.int .u8) 5 (IsK .u8) := Qa0.int Tryz.underlying5 (by kernel_rfl)
def B24 (x : S24) : Prop := (IsK .i64) x.f0 ∧ (IsK .i64) x.f1
def B26 (x : S26) : Prop := (B24) x.f0 ∧ (B24) x.f1 ∧ (IsK .i64) x.f2
def B89 (x : S89) : Prop := (IsK .u8) x.f0 ∧ (IsK .u8) x.f1 ∧ (IsK .u8) x.f2 ∧ (IsK .u8) x.f3 ∧ (IsK .u8) x.f4
theorem O89 : Qa0 Tryz.prog k89 89 B89 := by
 refine Qa0.array (fs := #[⟨"", 5, 0, false, "", "", 0⟩, ⟨"", 5, 1, false, "", "", 0⟩, ⟨"", 5, 2, false, "", "", 0⟩, ⟨"", 5, 3, false, "", "", 0⟩, ⟨"", 5, 4, false, "", "", 0⟩]) ?_ Tryz.underlying89 (by kernel_rfl) (by kernel_rfl) rfl (by decide); refine Qav.iso (d := (Kd.pair (Kd.int .u8) (Kd.pair (Kd.int .u8) (Kd.pair (Kd.int .u8) (Kd.pair (Kd.int .u8) (Kd.int .u8)))))) (B := fun p => (IsK .u8) p.1 ∧ (IsK .u8) p.2.1 ∧ (IsK .u8) p.2.2.1 ∧ (IsK .u8) p.2.2.2.1 ∧ (IsK .u8) p.2.2.2.2) ?_ (fun x : S89 => (x.f0, x.f1, x.f2, x.f3, x.f4)) (fun p => ⟨p.1, p.2.1, p.2.2.1, p.2.2.2.1, p.2.2.2.2⟩) (fun _ => rfl); refine Qav.cons (B := IsK .u8) (B' := fun p : Int × Int × Int × Int => (IsK .u8) p.1 ∧ (IsK .u8) p.2.1 ∧ (IsK .u8) p.2.2.1 ∧ (IsK .u8) p.2.2.2) ?_ ?_
 ·exact Qav.one _ rfl rfl O_u8
 refine Qav.cons (B := IsK .u8) (B' := fun p : Int × Int × Int => (IsK .u8) p.1 ∧ (IsK .u8) p.2.1 ∧ (IsK .u8) p.2.2) ?_ ?_
 ·exact Qav.one _ rfl rfl O_u8
 refine Qav.cons (B := IsK .u8) (B' := fun p : Int × Int => (IsK .u8) p.1 ∧ (IsK .u8) p.2) ?_ ?_
 ·exact Qav.one _ rfl rfl O_u8
 refine Qav.cons (B := IsK .u8) (B' := fun p : Int => (IsK .u8) p) ?_ ?_
 ·exact Qav.one _ rfl rfl O_u8
 exact Qav.one _ rfl rfl O_u8
end Go.Proofs.YtjaapkkpmegkfaaGreat.P
namespace Go.Proofs.YtjaapkkpmegkfaaGreat.P
open Go.RowKit Go.Shelf Go.Proofs.YtjaapkkpmegkfaaGreatW.PrintWords Go.Proofs.YtjaapkkpmegkfaaGreatW.PrintLast Go.Proofs.YtjaapkkpmegkfaaGreatW.PrintMore
def byte (x : Int) : Prop := 0 ≤ x ∧ x ≤ 255
def Qbh (x : S89) : Prop := byte x.f0 ∧ byte x.f1 ∧ byte x.f2 ∧ byte x.f3 ∧ byte x.f4
theorem Qbs {l : List S89} {i : Nat} (h : i < l.length) : Qap l (i : Int) = l[i] := by simp [Qap, List.getD_eq_getElem?_getD, List.getElem?_eq_getElem h]
theorem Qbb {x c : Int} (h : 0 ≤ x) : Int.tmod x c = x % c := Int.tmod_eq_emod_of_nonneg h
theorem Qa6 {x : Int} (h : IsK .u8 x) : byte x := by
 unfold IsK at h
 simp [Lit.wf, IntKind.min, IntKind.max, IntKind.signed, IntKind.bits] at h
 unfold byte; omega
theorem Qbv {v : S89} (h : B89 v) : Qbh v := ⟨Qa6 h.1, Qa6 h.2.1, Qa6 h.2.2.1, Qa6 h.2.2.2.1, Qa6 h.2.2.2.2⟩
def insN (lo hi n : Int) : Int := lo + n * (hi - lo) / 255
theorem Qbp {lo hi n : Int} (h : lo ≤ hi) (h0 : 0 ≤ n) (h1 : n ≤ 255) : lo ≤ insN lo hi n ∧ insN lo hi n ≤ hi := by
 have g0 : 0 ≤ n * (hi - lo) := Int.mul_nonneg h0 (by omega); have g1 : n * (hi - lo) ≤ 255 * (hi - lo) := Int.mul_le_mul_of_nonneg_right h1 (by omega); unfold insN; generalize n * (hi - lo) = p at *; omega
theorem Qbj {lo hi n : Int} (h : lo ≤ hi) (hl : -5000 ≤ lo) (hh : hi ≤ 5000) (h0 : 0 ≤ n) (h1 : n ≤ 255) : Qat.f lo hi n = some (insN lo hi n) := by
 have g0 : 0 ≤ n * (hi - lo) := Int.mul_nonneg h0 (by omega); have g1 : n * (hi - lo) ≤ 255 * (hi - lo) := Int.mul_le_mul_of_nonneg_right h1 (by omega); unfold Qat.f insN; rw [w64 (x := hi - lo) (by omega)]; generalize n * (hi - lo) = p at *; rw [w64 (x := p) (by omega), Int.tdiv_eq_ediv_of_nonneg g0, w64 (x := p / 255) (by omega), w64 (by omega)]
def byN (t : List Int) (i : Nat) : Int := t.getD (i % t.length) 0
theorem Qa7 {t : List Int} (h : ∀ x ∈ t, byte x) (i : Nat) : 0 ≤ byN t i ∧ byN t i ≤ 255 := by
 unfold byN; by_cases hl : t.length = 0
 ·rw [List.length_eq_zero_iff.1 hl]; simp
 ·have hlt : i % t.length < t.length := Nat.mod_lt _ (by omega)
  rw [List.getD_eq_getElem?_getD, List.getElem?_eq_getElem hlt]; exact h _ (List.getElem_mem hlt)
theorem by_eq {t : List Int} (h : ∀ x ∈ t, byte x) (i : Nat) : Qau.f t (i : Int) = some (byN t i) := by
 have hb := Qa7 h i; unfold Qau.f; by_cases hl : t.length = 0
 ·rw [if_pos (by omega)]
  unfold byN; rw [List.length_eq_zero_iff.1 hl]; rfl
 ·have hlt : i % t.length < t.length := Nat.mod_lt _ (by omega)
  have e : Int.tmod (i : Int) (t.length : Int) = ((i % t.length : Nat) : Int) := by rw [Int.tmod_eq_emod_of_nonneg (by omega)]; rfl
  rw [if_neg (by omega), e, if_pos (by omega), if_pos (by omega)]; have e2 : rd t ((i % t.length : Nat) : Int) = byN t i := rfl; rw [e2, w64 (by omega)]
end Go.Proofs.YtjaapkkpmegkfaaGreat.P
