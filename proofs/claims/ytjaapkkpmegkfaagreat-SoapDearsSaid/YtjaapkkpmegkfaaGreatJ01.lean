/- Part 1 of what the law's proof needs beyond its base: words, walks of functions and plain facts. -/
import Derived.Below
import Derived.Deep.Draws
import Derived.Deep.AppendLies
import Derived.Maps.AppendAt
import Derived.OwnWalk
import Derived.Laws.BytesArg
import Derived.Laws.MakeOwn
import Derived.Laws.OwnMore
import Derived.Deep.OwnRows
import Derived.Tactics
import Derived.Lib.ConvBytes
import Derived.Laws.Slices
import Derived.WalkKit
import Derived.KernelRfl
import Derived.RowKit3
import Derived.Deep.LoopGhost
import Derived.Deep.QuietTactic
import Derived.BigQuiet
import Derived.WideLaws
import Derived.Deep.DeepCutAuto
import Derived.Deep.CutBlock
import Derived.Deep.RegionHeld3
import Derived.Laws.Rows
import Derived.Lib.AppendStr
import Derived.ArgAppend
import Derived.Laws.IdiomCopy
import Derived.RowKit
import Derived.RangeFuncNested
import Derived.RangeFuncBound
import Derived.RangeFuncCalls
import Derived.RangeFuncLeaves
import Derived.Shelf.Abstract
import Derived.Shelf.RegionOpen
import Derived.OwnWalkIn
import Derived.TacticsInMore
import Derived.LoopNIn
import Derived.LoopIn
import Derived.Deep.Slices
import Derived.OpenShut
import Derived.ChangeArms
import Derived.Test.YtjaapkkpmegkfaaGreatR13
set_option linter.unusedVariables false
set_option linter.unusedSimpArgs false
namespace Go.Proofs.YtjaapkkpmegkfaaGreatW.PrintWords
open Go.RowKit
def bt (s : ByteArray) (i : Int) : Int := if h : i.toNat < s.size then ((s[i.toNat]'h).toNat : Int) else 0
def Qbf (w : World) (k : IntKind) (A : Option Addr) (n : Nat) (xs : List Int) : Prop :=
 xs.length = n ∧ n ≤ 9223372036854775807 ∧ (0 < n → ∃ ad, A = some ad ∧ ∀ j, j < n → w.cell? (ad.add j) = some (.int k (xs.getD j 0)))
theorem Qbf.below {w w1 : World} {k : IntKind} {A : Option Addr} {n : Nat} {xs : List Int} (h : Qbf w k A n xs) (hb : Below w.heap.size w w1) : Qbf w1 k A n xs :=
 ⟨h.1, h.2.1, fun hn => by
  obtain ⟨ad, e, hc⟩ := h.2.2 hn; exact ⟨ad, e, fun j hj => XY hb (hc j hj)⟩⟩
theorem LeO.trans {α : Type} {a b c : Option α} (h : LeO a b) (k : LeO b c) : LeO a c := fun r hr => k r (h r hr)
theorem LeO.map {α β : Type} {a a' : Option α} (f : α → β) (h : LeO a a') : LeO (a.map f) (a'.map f) := by
 intro r hr; obtain ⟨x, hx, hf⟩ := Option.map_eq_some_iff.1 hr; exact Option.map_eq_some_iff.2 ⟨x, h x hx, hf⟩
theorem Qbx {α : Type} {g : Nat → Option α} (h : ∀ k, LeO (g k) (g (k + 1))) (k : Nat) : ∀ j, LeO (g k) (g (k + j))
 | 0 => LeO.refl _
 | j + 1 => (Qbx h k j).trans (h (k + j))
theorem Qbu {α : Type} {g : Nat → Option α} (h : ∀ k, LeO (g k) (g (k + 1))) {k k' : Nat} (hk : k ≤ k') {r : α} (hr : g k = some r) : g k' = some r := by
 have := Qbx h k (k' - k) r hr
 rwa [Nat.add_sub_cancel' hk] at this
def Qa6 (w w' : World) (g : Nat) (row : Option Nat) : Prop := w.heap.size ≤ w'.heap.size ∧ ∀ i, i < w.heap.size → i ≠ g → some i ≠ row → w'.heap[i]? = w.heap[i]?
theorem Qa6.refl (w : World) (g : Nat) (row : Option Nat) : Qa6 w w g row := ⟨Nat.le_refl _, fun _ _ _ _ => rfl⟩
theorem Qa6.of_grown {w w1 : World} {row : Option Nat} (h : w.grownBy w1 row) (g : Nat) : Qa6 w w1 g row := ⟨h.size, fun i hi _ hr => h.block i hi hr⟩
theorem Qa6.of_below {w w1 : World} (h : Below w.heap.size w w1) (g : Nat) (row : Option Nat) : Qa6 w w1 g row := ⟨h.size, fun i hi _ _ => h.block i hi⟩
theorem Qa6.trans {w w1 w2 : World} {g : Nat} {row row1 : Option Nat} (h : Qa6 w w1 g row) (k : Qa6 w1 w2 g row1) (hr : row1 = row ∨ ∃ b, row1 = some b ∧ w.heap.size ≤ b) : Qa6 w w2 g row :=
 ⟨Nat.le_trans h.1 k.1, fun i hi hg hn => by
  refine (k.2 i (Nat.lt_of_lt_of_le hi h.1) hg ?_).trans (h.2 i hi hg hn)
  rcases hr with rfl | ⟨b, rfl, hb⟩
  ·exact hn
  ·intro e
   injection e with e
   omega⟩
theorem Qa6.blk {w w1 : World} {g g' : Nat} {row : Option Nat} {o : Obj} (h : Qa6 w w1 g row) (hb : w.heap[g']? = some o) (hg : g' ≠ g) (hr : some g' ≠ row) : w1.heap[g']? = some o := (h.2 g' (Jh hb) hg hr).trans hb
theorem Qa6.own {w w1 : World} {g : Nat} {row : Option Nat} {base : Nat} {e : TypeId} {size n : Nat} {v : Value} {xs : List Value} (h : Qa6 w w1 g row) (ho : w.ownsRow base e size v n xs) (hg : v.ownBlock ≠ some g) (hr : v.ownBlock = none ∨ v.ownBlock ≠ row) : w1.ownsRow base e size v n xs := by
 obtain ⟨h1, h2⟩ := ho; refine ⟨h1, ?_⟩
 rcases h2 with h2 | ⟨b, cap, cur, rfl, hb, hh, r⟩
 ·exact .inl h2
 ·refine .inr ⟨b, cap, cur, rfl, hb, h.blk hh ?_ ?_, r⟩
  ·intro e
   exact hg (by rw [← e]; rfl)
  ·rcases hr with hr | hr
   ·simp [Value.ownBlock] at hr
   ·exact hr
def Ev {α : Type} (g : Nat → Option α) (r : α) : Prop := ∃ K, ∀ k, K ≤ k → g k = some r
theorem Ev.bind {α β : Type} {g : Nat → Option α} {f : Nat → α → Option β} {a : α} {r : β} (h : Ev g a) (k : Ev (fun n => f n a) r) : Ev (fun n => (g n).bind (f n)) r := by
 obtain ⟨K, h⟩ := h; obtain ⟨K', k⟩ := k; refine ⟨max K K', fun n hn => ?_⟩; have h1 := h n (by omega); have h2 := k n (by omega); simp only [h1, Option.bind_some]; exact h2
theorem Ev.step {α : Type} {g f : Nat → Option α} {r : α} (h : ∀ k, g (k + 1) = f k) (k : Ev f r) : Ev g r := by
 obtain ⟨K, k⟩ := k; refine ⟨K + 1, fun n hn => ?_⟩; obtain ⟨m, rfl⟩ : ∃ m, n = m + 1 := ⟨n - 1, by omega⟩
 rw [h]; exact k m (by omega)
section
variable {α : Type} {enc : α → Value} {d : α}
theorem ZJ.below {w w1 : World} {A : Option Addr} {n : Nat} {xs : List α} (h : ZJ enc d w A n xs) (hb : Below w.heap.size w w1) : ZJ enc d w1 A n xs :=
 ⟨h.1, h.2.1, fun hn => by
  obtain ⟨ad, e, hc⟩ := h.2.2 hn; exact ⟨ad, e, fun j hj => XY hb (hc j hj)⟩⟩
end
theorem Qap {w : World} {g : Nat} {o : Obj} (h : w.heap[g]? = some o) (o' : Obj) : (w.alloc o').heap[g]? = some o := (Below.heap_alloc w o' g (Jh h)).trans h
section
variable {α : Type} {R R' : α → List Value → Prop} {e : TypeId} {size : Nat} {w w1 : World} {base : Nat} {v : Value} {ps : List α}
theorem J7.below (h : J7 R e size w base v ps) (hb : Below w.heap.size w w1) : J7 R e size w1 base v ps := by
 obtain ⟨inner, ho, hr⟩ := h; exact ⟨inner, J1 ho hb, hr⟩
theorem J7.keep (h : J7 R e size w base v ps) {g : Nat} {t : TypeId} {cells : Array Value} (hb : w.heap[g]? = some (.cells cells t (0, 0))) (ht : e ≠ t) (hk : Qa6 w w1 g none) : J7 R e size w1 base v ps := by
 obtain ⟨inner, ho, hr⟩ := h; exact ⟨inner, hk.own ho (Ne.symm (own_ne ho hb ht)) (by cases v.ownBlock <;> simp), hr⟩
end
section
variable {P : Program} {ops : Array Oper} {rest : List Oper} {o : Oper} {a : Act} {Q : Exit → Act → World → Prop} {α : Type} {R : α → List Value → Prop}
theorem J7.append {w0 W : World} (base : Nat) (hgd : o.guard = none) (s x : Operand) (t e : TypeId) (z : Value) (size bytes : Nat)
  (ho : o.op = .call { callee := .builtin .append, args := #[s, x], argTypes := #[t, t] })
  (ht : P.underlying t = some (.slice e)) (hinfo : (P.info? e).map (fun i => (i.zero, i.size, i.bytes)) = some (some z, size, bytes)) (hz : z.cells.size = size) (hs0 : 0 < size) (hb0 : 0 < bytes)
  (v : Value) (ps : List α) (p : α) (cs : List Value) (hs : a.eval s = v) (hx : a.eval x = .slice (some ⟨W.heap.size, 0, none⟩) 1 1) (hp : R p cs) (hcs : cs.length = size) (h1 : ∀ u ∈ cs, u.oneCell' = true)
  (HO : J7 R e size W base v ps) (HB : Below base w0 W) (hbase : base ≤ W.heap.size) (hl : (ps.length + 1) * bytes ≤ 140737488355328)
  (h : ∀ v1 w1, J7 R e size w1 base v1 (ps ++ [p]) → Below base w0 w1 → W.grownBy w1 v.ownBlock → (v1.ownBlock = v.ownBlock ∨ ∃ b, v1.ownBlock = some b ∧ W.heap.size ≤ b) → wpList P ops Q rest (a.put o.dst v1) w1) :
  wpList P ops Q (o :: rest) a (W.alloc (.cells cs.toArray e)) := by
 obtain ⟨inner, hown, hr⟩ := HO; refine Xk base hgd s x t e z size bytes ho ht hinfo hz hs0 hb0 v ps.length inner cs hs hx hcs h1 hown HB hbase hl ?_; intro v1 w1 hown1 hb1 hg1 hat1; exact h v1 w1 ⟨inner ++ cs, by rw [List.length_append, List.length_singleton]; exact hown1, hr.snoc hp hcs⟩ hb1 hg1 hat1
end
namespace Kd
def bool : Kd Bool := JW Value.bool (fun _ => rfl)
end Kd
namespace Kd
section
variable {α β : Type} {d : Kd α} {d' : Kd β} {e e' : Nat} {w w1 W : World} {base b b' : Nat} {ok ok' okv oku : Nat → Prop} {v u : Value} {xs : List α} {ys : List β}
theorem R_alloc (h : d.R e w base ok v xs) (o : Obj) : d.R e (w.alloc o) base ok v xs := R_below h (QO (Below.refl _ _) o)
end
end Kd
def QRow (w : World) (base : Nat) (e : TypeId) (size : Nat) (v : Value) (n : Nat) (xs : List Value) : Prop :=
  xs.length = n * size ∧
  ((n = 0 ∧ ∃ A, v = .slice A 0 0 ∧ ∀ a, A = some a → base ≤ a.block ∧ ∃ cur, w.heap[a.block]? = some (.cells cur e (0, 0))) ∨
   ∃ g off cap cur, v = .slice (some ⟨g, off * size, none⟩) n cap ∧ base ≤ g ∧ w.heap[g]? = some (.cells cur e (0, 0)) ∧ n ≤ cap ∧ off + cap ≤ maxLen ∧ cur.size = (off + cap) * size ∧ (cur.toList.drop (off * size)).take (n * size) = xs)
namespace Kd
def Q {α : Type} (d : Kd α) (e : Nat) (w : World) (base : Nat) (ok : Nat → Prop) (v : Value) (xs : List α) : Prop :=
 (∀ k, v.ownBlock = some k → ok k) ∧ ∃ inner, QRow w base e d.sz v xs.length inner ∧ Reps (d.M w base (fun k => ok k ∧ some k ≠ v.ownBlock)) d.sz xs inner
end Kd
namespace Kd
def fixed {α : Type} (d : Kd α) (w0 : World) : Kd α where
 sz := d.sz
 E := []
 K := fun _ x cs => d.K w0 x cs
 M := fun _ _ _ x cs => d.K w0 x cs
 K_len := d.K_len
 K_one := d.K_one
 K_below := fun _ h => h
 K_of_M := fun h => h
 M_mono := fun _ h => h
 M_bound := fun h => h
 M_move := fun _ h => h
 M_lower := fun _ h => h
def or_ {α : Type} (a b : Kd α) (h : b.sz = a.sz) : Kd α where
 sz := a.sz
 E := a.E ++ b.E
 K := fun w x cs => a.K w x cs ∨ b.K w x cs
 M := fun w base ok x cs => a.M w base ok x cs ∨ b.M w base ok x cs
 K_len := fun hk => hk.elim a.K_len (fun hk => (b.K_len hk).trans h)
 K_one := fun hk => hk.elim a.K_one b.K_one
 K_below := fun hb hk => hk.imp (a.K_below hb) (b.K_below hb)
 K_of_M := fun hk => hk.imp a.K_of_M b.K_of_M
 M_mono := fun hok hk => hk.imp (a.M_mono hok) (b.M_mono hok)
 M_bound := fun hk => hk.imp
  (fun hk => a.M_mono (fun _ ⟨h1, h2, h3, q, hq, hc⟩ => ⟨h1, h2, h3, q, List.mem_append_left _ hq, hc⟩) (a.M_bound hk))
  (fun hk => b.M_mono (fun _ ⟨h1, h2, h3, q, hq, hc⟩ => ⟨h1, h2, h3, q, List.mem_append_right _ hq, hc⟩) (b.M_bound hk))
 M_move := fun hm hk => hk.imp (a.M_move hm) (b.M_move hm)
 M_lower := fun hb hk => hk.imp (a.M_lower hb) (b.M_lower hb)
def mix {α : Type} (e : Nat) (d dm : Kd α) (w0 : World) : Kd (List α) := or_ (fixed (slice e d) w0) (slice e dm) rfl
end Kd
theorem Qbf.drewN {W : World} {k : IntKind} {A : Option Addr} {n : Nat} {xs : List Int} (h : Qbf W k A n xs) (m : Nat) : Qbf (W.drewN m) k A n xs := h
theorem Qck {w W : World} {g : Nat} (h : Qa6 w W g none) {a : Addr} {v : Value} (hc : w.cell? a = some v) (hne : a.block ≠ g) : W.cell? a = some v := by
 have := h.2 a.block (World.block_lt_of_cell? w a hc) hne (by simp)
 simpa [World.cell?, this] using hc
theorem Qce (a : Addr) (i : Nat) : (a.add i).block = a.block := by unfold Addr.add; split <;> rfl
theorem ZJ.drewN {α : Type} {enc : α → Value} {d : α} {W : World} {A : Option Addr} {n : Nat} {xs : List α} (h : ZJ enc d W A n xs) (m : Nat) : ZJ enc d (W.drewN m) A n xs := h
theorem Qbf.keep {w W : World} {k : IntKind} {A : Option Addr} {n g : Nat} {xs : List Int} (h : Qbf w k A n xs) (hk : Qa6 w W g none) (hf : ∀ ad, A = some ad → 0 < n → ad.block ≠ g) : Qbf W k A n xs :=
 ⟨h.1, h.2.1, fun hn => by
  obtain ⟨ad, e, hc⟩ := h.2.2 hn; exact ⟨ad, e, fun j hj => Qck hk (hc j hj) (by rw [Qce]; exact hf ad e hn)⟩⟩
theorem ZJ.keep {α : Type} {enc : α → Value} {d : α} {w W : World} {A : Option Addr} {n g : Nat} {xs : List α} (h : ZJ enc d w A n xs) (hk : Qa6 w W g none) (hf : ∀ ad, A = some ad → 0 < n → ad.block ≠ g) : ZJ enc d W A n xs :=
 ⟨h.1, h.2.1, fun hn => by
  obtain ⟨ad, e, hc⟩ := h.2.2 hn; exact ⟨ad, e, fun j hj => Qck hk (hc j hj) (by rw [Qce]; exact hf ad e hn)⟩⟩
end Go.Proofs.YtjaapkkpmegkfaaGreatW.PrintWords
namespace Go.Proofs.YtjaapkkpmegkfaaGreatW.PrintWords
open Go.RowKit
namespace Kd
def gap {α : Type} (f : Nat → Nat) (d : Kd α) (i : Nat) (c : List Value) : Kd (α × Nat) where
 sz := d.sz
 E := d.E
 K := fun w x cs => (x.2 = i → cs = c ∧ cs.length = d.sz ∧ ∀ u ∈ cs, u.oneCell' = true) ∧ (x.2 ≠ i → d.K w x.1 cs)
 M := fun w base ok x cs => (x.2 = i → cs = c ∧ cs.length = d.sz ∧ ∀ u ∈ cs, u.oneCell' = true) ∧ (x.2 ≠ i → d.M w base (fun k => ok k ∧ f k = x.2) x.1 cs)
 K_len := fun {w x cs} h => by
  by_cases hx : x.2 = i
  ·exact (h.1 hx).2.1
  ·exact d.K_len (h.2 hx)
 K_one := fun {w x cs} h => by
  by_cases hx : x.2 = i
  ·exact (h.1 hx).2.2
  ·exact d.K_one (h.2 hx)
 K_below := fun hb h => ⟨h.1, fun hx => d.K_below hb (h.2 hx)⟩
 K_of_M := fun h => ⟨h.1, fun hx => d.K_of_M (h.2 hx)⟩
 M_mono := fun hok h => ⟨h.1, fun hx => d.M_mono (fun k hk => ⟨hok k hk.1, hk.2⟩) (h.2 hx)⟩
 M_bound := fun h => ⟨h.1, fun hx => d.M_mono (fun _ hk => ⟨⟨hk.1.1, hk.2⟩, hk.1.2⟩) (d.M_bound (h.2 hx))⟩
 M_move := fun hm h => ⟨h.1, fun hx => d.M_move (fun k hk => hm k hk.1) (h.2 hx)⟩
 M_lower := fun hb h => ⟨h.1, fun hx => d.M_lower hb (h.2 hx)⟩
def H {α : Type} (d : Kd α) (e : Nat) (w : World) (base : Nat) (ok : Nat → Prop) (v : Value) (xs : List α) (i : Int) (oki : Nat → Prop) (c : List Value) : Prop :=
 (∀ k, oki k → ok k) ∧ ∃ f, (gap f d i.toNat c).R e w base (fun k => ok k ∧ ¬ oki k) v xs.zipIdx
end Kd
end Go.Proofs.YtjaapkkpmegkfaaGreatW.PrintWords
namespace Go.Proofs.YtjaapkkpmegkfaaGreatW.PrintWords
open Go.RowKit
section
variable {w W W2 : World} {S S2 S' : Nat → Prop}
theorem Kept.of_below (h : Below w.heap.size w W) (S : Nat → Prop) : Kept w W S := ⟨h.size, fun i hi _ => h.block i hi⟩
theorem Kept.mono (h : Kept w W S) (hs : ∀ k, S k → S' k) : Kept w W S' := ⟨h.1, fun i hi hn => h.2 i hi (fun hk => hn (hs i hk))⟩
theorem Kept.of_grown {row : Option Nat} (hg : W.grownBy W2 row) (h : Kept w W S) (hr : ∀ k, row = some k → S k ∨ w.heap.size ≤ k) : Kept w W2 S :=
 h.then_ (S2 := fun k => row = some k) ⟨hg.size, fun i hi hn => hg.block i hi (fun he => hn he.symm)⟩ hr
theorem Kept.below (h : Kept w W S) (hb : Below W.heap.size W W2) : Kept w W2 S := h.then_ (Kept.of_below hb (fun _ => False)) (fun _ hk => hk.elim)
theorem Kept.alloc (h : Kept w W S) (o : Obj) : Kept w (W.alloc o) S := h.below (QO (Below.refl _ _) o)
theorem Kept.keep {g : Nat} (h : Qa6 w W g none) (k : Kept W W2 S2) (hs : ∀ k, S2 k → w.heap.size ≤ k) : Qa6 w W2 g none :=
 ⟨Nat.le_trans h.1 k.1, fun i hi hg hr => (k.2 i (Nat.lt_of_lt_of_le hi h.1) (fun h2 => by have := hs i h2; omega)).trans (h.2 i hi hg hr)⟩
end
end Go.Proofs.YtjaapkkpmegkfaaGreatW.PrintWords
namespace Go.Proofs.YtjaapkkpmegkfaaGreatW.PrintWords
open Go.RowKit
namespace Foot
variable {P Q : World → Prop} {W W1 : World} {ok ok' : Nat → Prop}
theorem imp (h : Foot P W ok) (hi : ∀ W', P W' → Q W') : Foot Q W ok := fun W' hW => hi W' (h W' hW)
end Foot
end Go.Proofs.YtjaapkkpmegkfaaGreatW.PrintWords
namespace Go.Proofs.YtjaapkkpmegkfaaGreatW.PrintWords
open Go.RowKit
def mx (a b : Int) : Int := if a < b then b else a
end Go.Proofs.YtjaapkkpmegkfaaGreatW.PrintWords
namespace Go.Proofs.YtjaapkkpmegkfaaGreatW.PrintWords
open Go.RowKit
section
variable {w w' u : World} {m B g : Nat} {o : Obj} {row : Option Nat} {S : Nat → Prop} {a : Addr} {v : Value}
theorem Qa7 (hq : w.drewN m = w') (h : Below B u w) : Below B u w' := by subst hq; exact Ji h m
theorem Qbg (hq : w.drewN m = w') (h : Kept u w S) : Kept u w' S := by subst hq; exact Kept.drewN h m
theorem Qa9 (hq : w.drewN m = w') (h : w.heap[g]? = some o) : w'.heap[g]? = some o := by subst hq; exact h
end
namespace Kd
section
variable {α : Type} {d : Kd α} {e base n m : Nat} {ok : Nat → Prop} {w w' : World} {v : Value} {A : Option Addr} {xs : List α}
theorem R_at (hq : w.drewN m = w') (h : d.R e w base ok v xs) : d.R e w' base ok v xs := by subst hq; exact R_drewN h m
end
end Kd
end Go.Proofs.YtjaapkkpmegkfaaGreatW.PrintWords
namespace Go.Proofs.YtjaapkkpmegkfaaGreatW.PrintLast
def up (b : Nat → Bool) (i : Nat) : Nat → Bool := fun j => if j = i then true else b j
end Go.Proofs.YtjaapkkpmegkfaaGreatW.PrintLast
namespace Go.Proofs.YtjaapkkpmegkfaaGreat.R
open Go.RowKit Go.Shelf
theorem ZR.refl (n₀ : Nat) (Ex : Nat → Prop) (B0 B : Nat) (E : Nat → Prop) (W : World) : ZR n₀ Ex B0 B E W W := ⟨fun _ _ _ h _ => h, JF.refl _ _ _ _ _⟩
theorem ZR.trans {n₀ : Nat} {Ex : Nat → Prop} {B0 B : Nat} {E : Nat → Prop} {X Y Z : World} (h : ZR n₀ Ex B0 B E X Y) (k : ZR n₀ Ex B0 B E Y Z) : ZR n₀ Ex B0 B E X Z :=
 ⟨fun j o hB ho hc => k.book j o hB (h.book j o hB ho hc) hc, h.keep.trans k.keep⟩
theorem ZR.of_below {n₀ : Nat} {Ex : Nat → Prop} {B0 B : Nat} {E : Nat → Prop} {W W' : World} (h : Below W.heap.size W W') : ZR n₀ Ex B0 B E W W' :=
 ⟨fun k o _ ho _ => (h.block k (Array.getElem?_eq_some_iff.1 ho).1).trans ho, JF.of_below h⟩
variable {F : Fence} {n : Nat} {P : Program}
end Go.Proofs.YtjaapkkpmegkfaaGreat.R
namespace Go.Proofs.YtjaapkkpmegkfaaGreat.P
open Go.RowKit Go.Proofs.YtjaapkkpmegkfaaGreatW.PrintWords Go.Proofs.YtjaapkkpmegkfaaGreatW.PrintLast Go.Proofs.YtjaapkkpmegkfaaGreatW.PrintMore
theorem QK.mono_l : ∀ k, (∀ y0 y1 y2 y3 y4, LeO (QK.l0 k y0 y1 y2 y3 y4) (QK.l0 (k + 1) y0 y1 y2 y3 y4)) ∧ (∀ y0 y1 y2 y3, LeO (QK.l1 k y0 y1 y2 y3) (QK.l1 (k + 1) y0 y1 y2 y3))
 | 0 => ⟨fun _ _ _ _ _ r h => by simp [QK.l0] at h, fun _ _ _ _ r h => by simp [QK.l1] at h⟩
 | k + 1 => by
  obtain ⟨ih0, ih1⟩ := QK.mono_l k; refine ⟨?_, ?_⟩
  ·intro y0 y1 y2 y3 y4
   unfold QK.l0
   repeat' first
   | (with_reducible exact ih0 _ _ _ _ _)
   | (with_reducible exact ih1 _ _ _ _)
   | (with_reducible exact LeO.refl _)
   | (with_reducible exact LeO.none _)
   | (with_reducible refine LeO.ite ?_ ?_)
   | (with_reducible refine LeO.bind ?_ (fun _ => ?_))
  ·intro y0 y1 y2 y3
   unfold QK.l1
   repeat' first
   | (with_reducible exact ih0 _ _ _ _ _)
   | (with_reducible exact ih1 _ _ _ _)
   | (with_reducible exact LeO.refl _)
   | (with_reducible exact LeO.none _)
   | (with_reducible refine LeO.ite ?_ ?_)
   | (with_reducible refine LeO.bind ?_ (fun _ => ?_))
theorem QK.mono : ∀ a0 k, LeO (QK.f k a0) (QK.f (k + 1) a0) := by
 intro a0 k; obtain ⟨ih0, ih1⟩ := QK.mono_l k; unfold QK.f
 repeat' first
   | (with_reducible exact ih0 _ _ _ _ _)
   | (with_reducible exact ih1 _ _ _ _)
   | (with_reducible exact LeO.refl _)
   | (with_reducible exact LeO.none _)
   | (with_reducible refine LeO.ite ?_ ?_)
   | (with_reducible refine LeO.bind ?_ (fun _ => ?_))
end Go.Proofs.YtjaapkkpmegkfaaGreat.P
namespace Go.Proofs.YtjaapkkpmegkfaaGreat.P
open Go.RowKit Go.Proofs.YtjaapkkpmegkfaaGreatW.PrintWords Go.Proofs.YtjaapkkpmegkfaaGreatW.PrintLast Go.Proofs.YtjaapkkpmegkfaaGreatW.PrintMore
attribute [local go_sem] JG JH JY JX Jv Ju JJ JK
theorem eqA100 (d : Nat) (w : World) (x0 y0 x1 y1 x2 y2 x3 y3 x4 y4 : Int) :
  (Op.equalIn (d + 3) 100 (.agg #[.int .i64 x0, .int .i64 x1, .int .i64 x2, .int .i64 x3, .int .i64 x4]) (.agg #[.int .i64 y0, .int .i64 y1, .int .i64 y2, .int .i64 y3, .int .i64 y4])).run Tryz.prog w = .ok ((x0 == y0 && (x1 == y1)) && (x2 == y2 && (x3 == y3 && (x4 == y4)))) w := by
 refine eqA_of Tryz.underlying100 (by kernel_rfl) ?_; refine Qab (by rfl) (by go_simp) (by go_simp) (eqA24 (d + 0) w _ _ _ _) ?_; refine Qab (by rfl) (by go_simp; rfl) (by go_simp; rfl) (by go_simp) ?_; refine Qab (by rfl) (by go_simp; rfl) (by go_simp; rfl) (by go_simp) ?_; exact Qah (by rfl) (by go_simp; rfl) (by go_simp; rfl) (by go_simp)
def Qa8.f (l0 : List S100) : Option ((List S100)) := (some (([] : List S100) : List S100)).bind fun y101 => (if y101.length + l0.length < 3518437208883 then (some (y101 ++ l0)) else (none))
set_option maxHeartbeats 8000000 in
set_option maxRecDepth 100000 in
theorem Qa8.calls (A0 : Option Addr) (c0 : Nat) (l0 r : List S100) (w : World) (hr0 : Kd.C k100 w A0 l0.length l0) (hc0 : l0.length ≤ c0) (h : Qa8.f l0 = some r) :
  Calls Tryz.prog 16 #[.slice A0 l0.length c0] w fun e w' => ∃ v0_ : Value, e = .returned (v0_) ∧ Kd.R k100 100 w' w.heap.size (fun _ => True) v0_ r ∧ Below w.heap.size w w' := by
 have HR0 := Qa.mk hr0; have HC0 := Qa.mk hc0; clear hr0 hc0; have HB := Qa.mk (Below.refl w.heap.size w); have H : ((some (([] : List S100) : List S100)).bind fun y101 => (if y101.length + l0.length < 3518437208883 then (some (y101 ++ l0)) else (none))) = some r := h; clear h; obtain ⟨y101, hy101⟩ : ∃ y_ : List S100, y_ = (([] : List S100)) := ⟨_, rfl⟩
 replace H : (if y101.length + l0.length < 3518437208883 then (some (y101 ++ l0)) else (none)) = some r := yy hy101 H; have Ny101 := Qa.mk hy101; clear hy101; by_cases c2 : y101.length + l0.length < 3518437208883
 ·rw [if_pos c2] at H
  have LMc2 := Qa.mk c2; clear c2; obtain ⟨y104, hy104⟩ : ∃ y_ : List S100, y_ = (y101 ++ l0) := ⟨_, rfl⟩
  replace H : (some y104) = some r := yy hy104 H; have Ny104 := Qa.mk hy104; clear hy104; obtain rfl := Option.some.inj H; go_enter Tryz.func16, Tryz.ntmps16; go_wp2_with (first | ((with_reducible refine gd 3 ?_); refine rL k100 100 3 ([] : List S100) [] (Reps.none _ _) ?_; intro v102 w3 ho4 hb; replace ho4 := yR Ny101 ho4; have HO103 := rl ho4 HB; replace HB := bs HB hb; clear hb ho4) | ((with_reducible refine JA (b := .append) (xs := #[.tmp 3, .tmp 4]) rfl ?_); at_builtin; refine Kd.R_append_rows k100 (w0 := w) w.heap.size rfl (.tmp 3) (.tmp 4) 22 100 (.agg #[(.int .i64 0), (.int .i64 0), (.int .i64 0), (.int .i64 0), (.int .i64 0)]) 40 rfl Tryz.underlying22 info100 rfl (by decide) (by omega) v102 y101 l0 _ _ _ (fun _ => True) (fun _ => False) rfl rfl ?aO ?aR (fun _ _ h => h) (fun _ h => h.elim) ?aF ?aB ?aS ?aL ?_; (case aR => exact pC (Kd.C_below HR0.out HB.out)); (case aB => exact (pE HB)); (case aF => exact (fun _ _ => trivial)); (case aO => exact (pR HO103.out)); (case aS => exact (Qr (pE HB))); (case aL => have := LMc2.out; omega); intro v105 w5 ho hb hg hat; rw [← Ny104.out] at ho; replace HB := Qa.mk (hb); have HO106 := Qa.mk (ho); clear HO103; clear ho hb hg hat)); go_ret; exact ⟨_, eT, by (with_reducible repeat (first | apply Kd.R_alloc | apply Kd.R_drewN | apply Kd.R_drew)); exact HO106.out, pE HB⟩
 ·rw [if_neg c2] at H
  exact absurd H (by simp)
end Go.Proofs.YtjaapkkpmegkfaaGreat.P
namespace Go.Proofs.YtjaapkkpmegkfaaGreat.P
open Go.RowKit Go.Proofs.YtjaapkkpmegkfaaGreatW.PrintWords Go.Proofs.YtjaapkkpmegkfaaGreatW.PrintLast Go.Proofs.YtjaapkkpmegkfaaGreatW.PrintMore
attribute [local go_sem] JG JH JY JX Jv Ju JJ JK
attribute [local go_sem high] eqA100
def Qaz.l0 : Nat → List S100 → List S100 → Int → Option Bool
 | 0, _, _, _ => none
 | k + 1, x0, x1, x5 => if x5 < (x0.length : Int) then (if 0 ≤ x5 then (if x5 < (x1.length : Int) then (if ((!(((Qf x0 x5).f0.f0) == ((Qf x1 x5).f0.f0)) || (!(((Qf x0 x5).f0.f1) == ((Qf x1 x5).f0.f1)))) || (!(((Qf x0 x5).f1) == ((Qf x1 x5).f1)) || (!(((Qf x0 x5).f2) == ((Qf x1 x5).f2)) || (!(((Qf x0 x5).f3) == ((Qf x1 x5).f3)))))) = true then (some false) else (Qaz.l0 k x0 x1 (wrap64 (x5 + 1)))) else (none)) else (none)) else (some true)
def Qaz.f (k : Nat) (l0 l1 : List S100) : Option Bool := if (l0.length : Int) = (l1.length : Int) then (Qaz.l0 k l0 l1 0) else (some false)
set_option maxHeartbeats 8000000 in
set_option maxRecDepth 100000 in
theorem Qaz.calls (k : Nat) (A0 : Option Addr) (c0 : Nat) (l0 : List S100) (A1 : Option Addr) (c1 : Nat) (l1 : List S100) (r : Bool) (w : World) (hr0 : Kd.C k100 w A0 l0.length l0) (hc0 : l0.length ≤ c0) (hr1 : Kd.C k100 w A1 l1.length l1) (hc1 : l1.length ≤ c1) (h : Qaz.f k l0 l1 = some r) :
  Calls Tryz.prog 22 #[.slice A0 l0.length c0, .slice A1 l1.length c1] w fun e w' => e = .returned (.bool r) ∧ JB w w' := by
 have hu100 := Tryz.underlying100; have HR0 := Qa.mk hr0; have HC0 := Qa.mk hc0; clear hr0 hc0; have HR1 := Qa.mk hr1; have HC1 := Qa.mk hc1; clear hr1 hc1; have H : (if (l0.length : Int) = (l1.length : Int) then (Qaz.l0 k l0 l1 0) else (some false)) = some r := h; clear h; by_cases c3 : (l0.length : Int) = (l1.length : Int)
 ·rw [if_pos c3] at H
  have c3b0 : ((l0.length : Int) == (l1.length : Int)) = true := beq_iff_eq.mpr c3; have c3b1 : ((l0.length : Int) != (l1.length : Int)) = false := bne_eq_false_iff_eq.mpr c3; have c3b2 : (l0.length == l1.length) = true := by first | simpa using c3 | (simp at c3 ⊢; omega)
  clear c3; have H' := Qa.mk H; clear H; go_enter Tryz.func22, Tryz.ntmps22; go_wp2
  repeat (go_quiet (fail); try go_wp2)
  go_loopg [5] k (fun kq v5 w' => ∃ (x5_1 : Int), v5 = .int .i64 x5_1 ∧ Qa (Qaz.l0 kq l0 l1 x5_1 = some r) ∧ Qa (kq ≤ k) ∧ JB w w')
  case atStart => exact ⟨(0), eS, H', ⟨Nat.le_refl _⟩, dS⟩
  case round =>
   clear H'
   (try clear c1); (try clear c3b0); (try clear c3b1); (try clear c3b2)
   obtain ⟨x5_1, rfl, HA, HK1, ⟨m1, rfl⟩⟩ := hrel
   cases gk with
   | zero => exact absurd HA.out (by simp [Qaz.l0])
   | succ k1 =>
    have H := HA.out; clear HA; simp only [Qaz.l0] at H; by_cases c4 : x5_1 < (l0.length : Int)
    ·rw [if_pos c4] at H
     have c4b0 : decide (x5_1 < (l0.length : Int)) = true := decide_eq_true c4; clear c4; by_cases c5 : 0 ≤ x5_1
     ·rw [if_pos c5] at H
      have c5b0 : decide (0 ≤ x5_1) = true := decide_eq_true c5; clear c5; by_cases c6 : x5_1 < (l1.length : Int)
      ·rw [if_pos c6] at H
       have c6b0 : decide (x5_1 < (l1.length : Int)) = true := decide_eq_true c6; clear c6; by_cases c7 : ((!(((Qf l0 x5_1).f0.f0) == ((Qf l1 x5_1).f0.f0)) || (!(((Qf l0 x5_1).f0.f1) == ((Qf l1 x5_1).f0.f1)))) || (!(((Qf l0 x5_1).f1) == ((Qf l1 x5_1).f1)) || (!(((Qf l0 x5_1).f2) == ((Qf l1 x5_1).f2)) || (!(((Qf l0 x5_1).f3) == ((Qf l1 x5_1).f3)))))) = true
       ·rw [if_pos c7] at H
        have c7b0 : ((!(((Qf l0 x5_1).f0.f0) == ((Qf l1 x5_1).f0.f0)) || (!(((Qf l0 x5_1).f0.f1) == ((Qf l1 x5_1).f0.f1)))) || (!(((Qf l0 x5_1).f1) == ((Qf l1 x5_1).f1)) || (!(((Qf l0 x5_1).f2) == ((Qf l1 x5_1).f2)) || (!(((Qf l0 x5_1).f3) == ((Qf l1 x5_1).f3)))))) = true := c7; clear c7; obtain rfl := Option.some.inj H; have p101 : 0 ≤ (x5_1 : Int) := dT; have q101 : x5_1 < (l0.length : Int) := dT; obtain ⟨ad101, e101, hx101_0, hx101_1, hx101_2, hx101_3, hx101_4⟩ := Zf HR0.out x5_1 p101 q101
        cases e101
        replace p101 := eq_true p101; replace q101 := eq_true q101; have p102 : 0 ≤ (x5_1 : Int) := dT; have q102 : x5_1 < (l1.length : Int) := dT; obtain ⟨ad102, e102, hx102_0, hx102_1, hx102_2, hx102_3, hx102_4⟩ := Zf HR1.out x5_1 p102 q102
        cases e102
        replace p102 := eq_true p102; replace q102 := eq_true q102; go_wp2
        repeat (go_quiet (fail); try go_wp2)
        go_ret; exact ⟨eS, dS⟩
       ·rw [if_neg c7] at H
        have c7b0 : ((!(((Qf l0 x5_1).f0.f0) == ((Qf l1 x5_1).f0.f0)) || (!(((Qf l0 x5_1).f0.f1) == ((Qf l1 x5_1).f0.f1)))) || (!(((Qf l0 x5_1).f1) == ((Qf l1 x5_1).f1)) || (!(((Qf l0 x5_1).f2) == ((Qf l1 x5_1).f2)) || (!(((Qf l0 x5_1).f3) == ((Qf l1 x5_1).f3)))))) = false := by simpa using c7
        clear c7; have H' := Qa.mk H; clear H; have p101 : 0 ≤ (x5_1 : Int) := dT; have q101 : x5_1 < (l0.length : Int) := dT; obtain ⟨ad101, e101, hx101_0, hx101_1, hx101_2, hx101_3, hx101_4⟩ := Zf HR0.out x5_1 p101 q101
        cases e101
        replace p101 := eq_true p101; replace q101 := eq_true q101; have p102 : 0 ≤ (x5_1 : Int) := dT; have q102 : x5_1 < (l1.length : Int) := dT; obtain ⟨ad102, e102, hx102_0, hx102_1, hx102_2, hx102_3, hx102_4⟩ := Zf HR1.out x5_1 p102 q102
        cases e102
        replace p102 := eq_true p102; replace q102 := eq_true q102; go_wp2
        repeat (go_quiet (fail); try go_wp2)
        go_roundg k1
        case measure => have := HK1.out; omega
        case rel => exact ⟨(wrap64 (x5_1 + 1)), eS, H', ⟨by have := HK1.out; omega⟩, dS⟩
      ·rw [if_neg c6] at H
       exact absurd H (by simp)
     ·rw [if_neg c5] at H
      exact absurd H (by simp)
    ·rw [if_neg c4] at H
     have c4b0 : decide (x5_1 < (l0.length : Int)) = false := decide_eq_false c4; clear c4; obtain rfl := Option.some.inj H; go_wp2
     repeat (go_quiet (fail); try go_wp2)
     go_ret; exact ⟨eS, dS⟩
 ·rw [if_neg c3] at H
  have c3b0 : ((l0.length : Int) == (l1.length : Int)) = false := beq_eq_false_iff_ne.mpr c3; have c3b1 : ((l0.length : Int) != (l1.length : Int)) = true := bne_iff_ne.mpr c3; have c3b2 : (l0.length == l1.length) = false := by first | simpa using c3 | (simp at c3 ⊢; omega)
  obtain rfl := Option.some.inj H; go_enter Tryz.func22, Tryz.ntmps22; go_wp2
  repeat (go_quiet (fail); try go_wp2)
  go_ret; exact ⟨eS, dS⟩
end Go.Proofs.YtjaapkkpmegkfaaGreat.P
namespace Go.Proofs.YtjaapkkpmegkfaaGreat.P
open Go.RowKit Go.Proofs.YtjaapkkpmegkfaaGreatW.PrintWords Go.Proofs.YtjaapkkpmegkfaaGreatW.PrintLast Go.Proofs.YtjaapkkpmegkfaaGreatW.PrintMore
attribute [local go_sem] JG JH JY JX Jv Ju JJ JK
def Qau.l0 : Nat → List S100 → Int → Option Int
 | 0, _, _ => none
 | k + 1, x0, x3 => if x3 < (x0.length : Int) then (if 0 ≤ x3 then ((J4.f ((Qf x0 x3).f0.f0) ((Qf x0 x3).f0.f1) 0 200).bind fun t102 => (if t102 = true then ((Jp.f ((Qf x0 x3).f1) 0 500).bind fun t104 => (if t104 = true then ((Jp.f ((Qf x0 x3).f2) 0 50).bind fun t106 => (if t106 = true then ((Jp.f ((Qf x0 x3).f3) 0 12).bind fun t108 => (if t108 = true then (Qau.l0 k x0 (wrap64 (x3 + 1))) else (some 2))) else (some 2))) else (some 2))) else (some 2))) else (none)) else (some 0)
def Qau.f (k : Nat) (l0 : List S100) : Option Int := if (l0.length : Int) > 4 then (some 5) else (if (l0.length : Int) = 0 then (some 7) else (Qau.l0 k l0 0))
set_option maxHeartbeats 8000000 in
set_option maxRecDepth 100000 in
theorem Qau.calls (k : Nat) (A0 : Option Addr) (c0 : Nat) (l0 : List S100) (r : Int) (w : World) (hr0 : Kd.C k100 w A0 l0.length l0) (hc0 : l0.length ≤ c0) (h : Qau.f k l0 = some r) :
  Calls Tryz.prog 24 #[.slice A0 l0.length c0] w fun e w' => e = .returned (.int .i64 r) ∧ Below w.heap.size w w' := by
 have hu24 := Tryz.underlying24; have HR0 := Qa.mk hr0; have HC0 := Qa.mk hc0; clear hr0 hc0; have HB := Qa.mk (Below.refl w.heap.size w); have H : (if (l0.length : Int) > 4 then (some 5) else (if (l0.length : Int) = 0 then (some 7) else (Qau.l0 k l0 0))) = some r := h; clear h; by_cases c2 : (l0.length : Int) > 4
 ·rw [if_pos c2] at H
  have c2b0 : decide (4 < (l0.length : Int)) = true := decide_eq_true c2; have c2b1 : decide (4 < l0.length) = true := decide_eq_true (by omega); clear c2; obtain rfl := Option.some.inj H; go_enter Tryz.func24, Tryz.ntmps24; go_wp2; go_ret; exact ⟨eT, pE HB⟩
 ·rw [if_neg c2] at H
  have c2b0 : decide (4 < (l0.length : Int)) = false := decide_eq_false c2; have c2b1 : decide (4 < l0.length) = false := decide_eq_false (by omega); clear c2; by_cases c3 : (l0.length : Int) = 0
  ·rw [if_pos c3] at H
   have c3b0 : ((l0.length : Int) == 0) = true := beq_iff_eq.mpr c3; have c3b1 : ((l0.length : Int) != 0) = false := bne_eq_false_iff_eq.mpr c3; clear c3; obtain rfl := Option.some.inj H; go_enter Tryz.func24, Tryz.ntmps24; go_wp2; go_ret; exact ⟨eT, pE HB⟩
  ·rw [if_neg c3] at H
   have c3b0 : ((l0.length : Int) == 0) = false := beq_eq_false_iff_ne.mpr c3; have c3b1 : ((l0.length : Int) != 0) = true := bne_iff_ne.mpr c3; have c3b2 : ¬ (l0 = []) := fun h_ => c3 (by rw [h_]; rfl)
   have H' := Qa.mk H; clear H; go_enter Tryz.func24, Tryz.ntmps24; go_wp2
   go_loopg [3] k (fun kq v3 w' => ∃ (x3_1 : Int), v3 = .int .i64 x3_1 ∧ Qa (Qau.l0 kq l0 x3_1 = some r) ∧ Qa (kq ≤ k) ∧ Qa (Below w.heap.size w w'))
   case atStart => exact ⟨(0), eS, H', ⟨Nat.le_refl _⟩, ⟨pE HB⟩⟩
   case round =>
    clear H'
    (try clear c2b0); (try clear c2b1); (try clear c3); (try clear c3b0); (try clear c3b1); (try clear c3b2)
    obtain ⟨x3_1, rfl, HA, HK1, HB⟩ := hrel
    cases gk with
    | zero => exact absurd HA.out (by simp [Qau.l0])
    | succ k1 =>
     have H := HA.out; clear HA; simp only [Qau.l0] at H; by_cases c4 : x3_1 < (l0.length : Int)
     ·rw [if_pos c4] at H
      have c4b0 : decide (x3_1 < (l0.length : Int)) = true := decide_eq_true c4; clear c4; by_cases c5 : 0 ≤ x3_1
      ·rw [if_pos c5] at H
       have c5b0 : decide (0 ≤ x3_1) = true := decide_eq_true c5; clear c5; obtain ⟨t102, A6, H⟩ := bi H; by_cases c7 : t102 = true
       ·subst c7
        rw [if_pos rfl] at H; obtain ⟨t104, A8, H⟩ := bi H; by_cases c9 : t104 = true
        ·subst c9
         rw [if_pos rfl] at H; obtain ⟨t106, A10, H⟩ := bi H; by_cases c11 : t106 = true
         ·subst c11
          rw [if_pos rfl] at H; obtain ⟨t108, A12, H⟩ := bi H; by_cases c13 : t108 = true
          ·subst c13
           rw [if_pos rfl] at H; have H' := Qa.mk H; clear H; have p101 : 0 ≤ (x3_1 : Int) := dT; have q101 : x3_1 < (l0.length : Int) := dT; obtain ⟨ad101, e101, hx101_0, hx101_1, hx101_2, hx101_3, hx101_4⟩ := Zf HR0.out x3_1 p101 q101
           cases e101
           replace hx101_0 := cut_ HB hx101_0; replace hx101_1 := cut_ HB hx101_1; replace hx101_2 := cut_ HB hx101_2; replace hx101_3 := cut_ HB hx101_3; replace hx101_4 := cut_ HB hx101_4; replace p101 := eq_true p101; replace q101 := eq_true q101; go_wp2_with (first | ((with_reducible refine gc 76 rfl ?_); refine gL 21 Tryz.func76 #[.agg #[.int .i64 ((Qf l0 x3_1).f0.f0), .int .i64 ((Qf l0 x3_1).f0.f1)], .int .i64 0, .int .i64 200] ?_; (with_reducible refine (J4.calls ((Qf l0 x3_1).f0.f0) ((Qf l0 x3_1).f0.f1) 0 200 true _ A6.out).mono ?_); rintro e w14 ⟨rfl, hb⟩; refine ⟨_, rfl, ?_⟩; replace HB := bs HB hb; clear hb; have p103 : 0 ≤ (x3_1 : Int) := dT; have q103 : x3_1 < (l0.length : Int) := dT; obtain ⟨ad103, e103, hx103_0, hx103_1, hx103_2, hx103_3, hx103_4⟩ := Zf HR0.out x3_1 p103 q103; obtain rfl : ad101 = ad103 := (by injection e103); replace hx103_0 := cut_ HB hx103_0; replace hx103_1 := cut_ HB hx103_1; replace hx103_2 := cut_ HB hx103_2; replace hx103_3 := cut_ HB hx103_3; replace hx103_4 := cut_ HB hx103_4; replace p103 := eq_true p103; replace q103 := eq_true q103) | (go_at_call 36; (with_reducible refine (Jp.calls ((Qf l0 x3_1).f1) 0 500 true _ A8.out).mono ?_); rintro e w' ⟨rfl, ⟨nd, rfl⟩⟩; have p105 : 0 ≤ (x3_1 : Int) := dT; have q105 : x3_1 < (l0.length : Int) := dT; obtain ⟨ad105, e105, hx105_0, hx105_1, hx105_2, hx105_3, hx105_4⟩ := Zf HR0.out x3_1 p105 q105; obtain rfl : ad101 = ad105 := (by injection e105); replace hx105_0 := cut_ HB hx105_0; replace hx105_1 := cut_ HB hx105_1; replace hx105_2 := cut_ HB hx105_2; replace hx105_3 := cut_ HB hx105_3; replace hx105_4 := cut_ HB hx105_4; replace p105 := eq_true p105; replace q105 := eq_true q105) | (go_at_call 36; (with_reducible refine (Jp.calls ((Qf l0 x3_1).f2) 0 50 true _ A10.out).mono ?_); rintro e w' ⟨rfl, ⟨nd, rfl⟩⟩; have p107 : 0 ≤ (x3_1 : Int) := dT; have q107 : x3_1 < (l0.length : Int) := dT; obtain ⟨ad107, e107, hx107_0, hx107_1, hx107_2, hx107_3, hx107_4⟩ := Zf HR0.out x3_1 p107 q107; obtain rfl : ad101 = ad107 := (by injection e107); replace hx107_0 := cut_ HB hx107_0; replace hx107_1 := cut_ HB hx107_1; replace hx107_2 := cut_ HB hx107_2; replace hx107_3 := cut_ HB hx107_3; replace hx107_4 := cut_ HB hx107_4; replace p107 := eq_true p107; replace q107 := eq_true q107) | (go_at_call 36; (with_reducible refine (Jp.calls ((Qf l0 x3_1).f3) 0 12 true _ A12.out).mono ?_); rintro e w' ⟨rfl, ⟨nd, rfl⟩⟩))
           go_roundg k1
           case measure => have := HK1.out; omega
           case rel => exact ⟨(wrap64 (x3_1 + 1)), eS, H', ⟨by have := HK1.out; omega⟩, ⟨pE HB⟩⟩
          ·replace c13 := Bool.eq_false_iff.mpr c13
           subst c13; rw [if_neg (show ¬ (false = true) by decide)] at H; obtain rfl := Option.some.inj H; have p101 : 0 ≤ (x3_1 : Int) := dT; have q101 : x3_1 < (l0.length : Int) := dT; obtain ⟨ad101, e101, hx101_0, hx101_1, hx101_2, hx101_3, hx101_4⟩ := Zf HR0.out x3_1 p101 q101
           cases e101
           replace hx101_0 := cut_ HB hx101_0; replace hx101_1 := cut_ HB hx101_1; replace hx101_2 := cut_ HB hx101_2; replace hx101_3 := cut_ HB hx101_3; replace hx101_4 := cut_ HB hx101_4; replace p101 := eq_true p101; replace q101 := eq_true q101; go_wp2_with (first | ((with_reducible refine gc 76 rfl ?_); refine gL 21 Tryz.func76 #[.agg #[.int .i64 ((Qf l0 x3_1).f0.f0), .int .i64 ((Qf l0 x3_1).f0.f1)], .int .i64 0, .int .i64 200] ?_; (with_reducible refine (J4.calls ((Qf l0 x3_1).f0.f0) ((Qf l0 x3_1).f0.f1) 0 200 true _ A6.out).mono ?_); rintro e w15 ⟨rfl, hb⟩; refine ⟨_, rfl, ?_⟩; replace HB := bs HB hb; clear hb; have p103 : 0 ≤ (x3_1 : Int) := dT; have q103 : x3_1 < (l0.length : Int) := dT; obtain ⟨ad103, e103, hx103_0, hx103_1, hx103_2, hx103_3, hx103_4⟩ := Zf HR0.out x3_1 p103 q103; obtain rfl : ad101 = ad103 := (by injection e103); replace hx103_0 := cut_ HB hx103_0; replace hx103_1 := cut_ HB hx103_1; replace hx103_2 := cut_ HB hx103_2; replace hx103_3 := cut_ HB hx103_3; replace hx103_4 := cut_ HB hx103_4; replace p103 := eq_true p103; replace q103 := eq_true q103) | (go_at_call 36; (with_reducible refine (Jp.calls ((Qf l0 x3_1).f1) 0 500 true _ A8.out).mono ?_); rintro e w' ⟨rfl, ⟨nd, rfl⟩⟩; have p105 : 0 ≤ (x3_1 : Int) := dT; have q105 : x3_1 < (l0.length : Int) := dT; obtain ⟨ad105, e105, hx105_0, hx105_1, hx105_2, hx105_3, hx105_4⟩ := Zf HR0.out x3_1 p105 q105; obtain rfl : ad101 = ad105 := (by injection e105); replace hx105_0 := cut_ HB hx105_0; replace hx105_1 := cut_ HB hx105_1; replace hx105_2 := cut_ HB hx105_2; replace hx105_3 := cut_ HB hx105_3; replace hx105_4 := cut_ HB hx105_4; replace p105 := eq_true p105; replace q105 := eq_true q105) | (go_at_call 36; (with_reducible refine (Jp.calls ((Qf l0 x3_1).f2) 0 50 true _ A10.out).mono ?_); rintro e w' ⟨rfl, ⟨nd, rfl⟩⟩; have p107 : 0 ≤ (x3_1 : Int) := dT; have q107 : x3_1 < (l0.length : Int) := dT; obtain ⟨ad107, e107, hx107_0, hx107_1, hx107_2, hx107_3, hx107_4⟩ := Zf HR0.out x3_1 p107 q107; obtain rfl : ad101 = ad107 := (by injection e107); replace hx107_0 := cut_ HB hx107_0; replace hx107_1 := cut_ HB hx107_1; replace hx107_2 := cut_ HB hx107_2; replace hx107_3 := cut_ HB hx107_3; replace hx107_4 := cut_ HB hx107_4; replace p107 := eq_true p107; replace q107 := eq_true q107) | (go_at_call 36; (with_reducible refine (Jp.calls ((Qf l0 x3_1).f3) 0 12 false _ A12.out).mono ?_); rintro e w' ⟨rfl, ⟨nd, rfl⟩⟩)); go_ret; exact ⟨eT, pE HB⟩
         ·replace c11 := Bool.eq_false_iff.mpr c11
          subst c11; rw [if_neg (show ¬ (false = true) by decide)] at H; obtain rfl := Option.some.inj H; have p101 : 0 ≤ (x3_1 : Int) := dT; have q101 : x3_1 < (l0.length : Int) := dT; obtain ⟨ad101, e101, hx101_0, hx101_1, hx101_2, hx101_3, hx101_4⟩ := Zf HR0.out x3_1 p101 q101
          cases e101
          replace hx101_0 := cut_ HB hx101_0; replace hx101_1 := cut_ HB hx101_1; replace hx101_2 := cut_ HB hx101_2; replace hx101_3 := cut_ HB hx101_3; replace hx101_4 := cut_ HB hx101_4; replace p101 := eq_true p101; replace q101 := eq_true q101; go_wp2_with (first | ((with_reducible refine gc 76 rfl ?_); refine gL 21 Tryz.func76 #[.agg #[.int .i64 ((Qf l0 x3_1).f0.f0), .int .i64 ((Qf l0 x3_1).f0.f1)], .int .i64 0, .int .i64 200] ?_; (with_reducible refine (J4.calls ((Qf l0 x3_1).f0.f0) ((Qf l0 x3_1).f0.f1) 0 200 true _ A6.out).mono ?_); rintro e w16 ⟨rfl, hb⟩; refine ⟨_, rfl, ?_⟩; replace HB := bs HB hb; clear hb; have p103 : 0 ≤ (x3_1 : Int) := dT; have q103 : x3_1 < (l0.length : Int) := dT; obtain ⟨ad103, e103, hx103_0, hx103_1, hx103_2, hx103_3, hx103_4⟩ := Zf HR0.out x3_1 p103 q103; obtain rfl : ad101 = ad103 := (by injection e103); replace hx103_0 := cut_ HB hx103_0; replace hx103_1 := cut_ HB hx103_1; replace hx103_2 := cut_ HB hx103_2; replace hx103_3 := cut_ HB hx103_3; replace hx103_4 := cut_ HB hx103_4; replace p103 := eq_true p103; replace q103 := eq_true q103) | (go_at_call 36; (with_reducible refine (Jp.calls ((Qf l0 x3_1).f1) 0 500 true _ A8.out).mono ?_); rintro e w' ⟨rfl, ⟨nd, rfl⟩⟩; have p105 : 0 ≤ (x3_1 : Int) := dT; have q105 : x3_1 < (l0.length : Int) := dT; obtain ⟨ad105, e105, hx105_0, hx105_1, hx105_2, hx105_3, hx105_4⟩ := Zf HR0.out x3_1 p105 q105; obtain rfl : ad101 = ad105 := (by injection e105); replace hx105_0 := cut_ HB hx105_0; replace hx105_1 := cut_ HB hx105_1; replace hx105_2 := cut_ HB hx105_2; replace hx105_3 := cut_ HB hx105_3; replace hx105_4 := cut_ HB hx105_4; replace p105 := eq_true p105; replace q105 := eq_true q105) | (go_at_call 36; (with_reducible refine (Jp.calls ((Qf l0 x3_1).f2) 0 50 false _ A10.out).mono ?_); rintro e w' ⟨rfl, ⟨nd, rfl⟩⟩)); go_ret; exact ⟨eT, pE HB⟩
        ·replace c9 := Bool.eq_false_iff.mpr c9
         subst c9; rw [if_neg (show ¬ (false = true) by decide)] at H; obtain rfl := Option.some.inj H; have p101 : 0 ≤ (x3_1 : Int) := dT; have q101 : x3_1 < (l0.length : Int) := dT; obtain ⟨ad101, e101, hx101_0, hx101_1, hx101_2, hx101_3, hx101_4⟩ := Zf HR0.out x3_1 p101 q101
         cases e101
         replace hx101_0 := cut_ HB hx101_0; replace hx101_1 := cut_ HB hx101_1; replace hx101_2 := cut_ HB hx101_2; replace hx101_3 := cut_ HB hx101_3; replace hx101_4 := cut_ HB hx101_4; replace p101 := eq_true p101; replace q101 := eq_true q101; go_wp2_with (first | ((with_reducible refine gc 76 rfl ?_); refine gL 21 Tryz.func76 #[.agg #[.int .i64 ((Qf l0 x3_1).f0.f0), .int .i64 ((Qf l0 x3_1).f0.f1)], .int .i64 0, .int .i64 200] ?_; (with_reducible refine (J4.calls ((Qf l0 x3_1).f0.f0) ((Qf l0 x3_1).f0.f1) 0 200 true _ A6.out).mono ?_); rintro e w17 ⟨rfl, hb⟩; refine ⟨_, rfl, ?_⟩; replace HB := bs HB hb; clear hb; have p103 : 0 ≤ (x3_1 : Int) := dT; have q103 : x3_1 < (l0.length : Int) := dT; obtain ⟨ad103, e103, hx103_0, hx103_1, hx103_2, hx103_3, hx103_4⟩ := Zf HR0.out x3_1 p103 q103; obtain rfl : ad101 = ad103 := (by injection e103); replace hx103_0 := cut_ HB hx103_0; replace hx103_1 := cut_ HB hx103_1; replace hx103_2 := cut_ HB hx103_2; replace hx103_3 := cut_ HB hx103_3; replace hx103_4 := cut_ HB hx103_4; replace p103 := eq_true p103; replace q103 := eq_true q103) | (go_at_call 36; (with_reducible refine (Jp.calls ((Qf l0 x3_1).f1) 0 500 false _ A8.out).mono ?_); rintro e w' ⟨rfl, ⟨nd, rfl⟩⟩)); go_ret; exact ⟨eT, pE HB⟩
       ·replace c7 := Bool.eq_false_iff.mpr c7
        subst c7; rw [if_neg (show ¬ (false = true) by decide)] at H; obtain rfl := Option.some.inj H; have p101 : 0 ≤ (x3_1 : Int) := dT; have q101 : x3_1 < (l0.length : Int) := dT; obtain ⟨ad101, e101, hx101_0, hx101_1, hx101_2, hx101_3, hx101_4⟩ := Zf HR0.out x3_1 p101 q101
        cases e101
        replace hx101_0 := cut_ HB hx101_0; replace hx101_1 := cut_ HB hx101_1; replace hx101_2 := cut_ HB hx101_2; replace hx101_3 := cut_ HB hx101_3; replace hx101_4 := cut_ HB hx101_4; replace p101 := eq_true p101; replace q101 := eq_true q101; go_wp2_with (first | ((with_reducible refine gc 76 rfl ?_); refine gL 21 Tryz.func76 #[.agg #[.int .i64 ((Qf l0 x3_1).f0.f0), .int .i64 ((Qf l0 x3_1).f0.f1)], .int .i64 0, .int .i64 200] ?_; (with_reducible refine (J4.calls ((Qf l0 x3_1).f0.f0) ((Qf l0 x3_1).f0.f1) 0 200 false _ A6.out).mono ?_); rintro e w18 ⟨rfl, hb⟩; refine ⟨_, rfl, ?_⟩; replace HB := bs HB hb; clear hb)); go_ret; exact ⟨eT, pE HB⟩
      ·rw [if_neg c5] at H
       exact absurd H (by simp)
     ·rw [if_neg c4] at H
      have c4b0 : decide (x3_1 < (l0.length : Int)) = false := decide_eq_false c4; clear c4; obtain rfl := Option.some.inj H; go_wp2; go_ret; exact ⟨eT, pE HB⟩
end Go.Proofs.YtjaapkkpmegkfaaGreat.P
