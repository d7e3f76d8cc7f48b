/- A world turned: only the blocks of a set were written, others made; small laws beside the printed words. -/
import Derived.Test.YtopehfjohifpnaaDoorWMore
import Derived.WalkLawsBesides
import Derived.Laws.CopyOwn
namespace Go.Proofs.YtopehfjohifpnaaDoor.Turn
open Go.RowKit Go.Proofs.YtopehfjohifpnaaDoorW.PrintWords

structure Turned (S : Nat → Prop) (w w' : World) : Prop where
  os : w'.os = w.os
  tape : w'.tape = w.tape
  output : w'.output = w.output
  size : w.heap.size ≤ w'.heap.size
  block : ∀ i, i < w.heap.size → ¬ S i → w'.heap[i]? = w.heap[i]?

section
variable {S S2 : Nat → Prop} {w W W2 : World}
theorem Turned.refl (S : Nat → Prop) (w : World) : Turned S w w := ⟨rfl, rfl, rfl, Nat.le_refl _, fun _ _ _ => rfl⟩
theorem Turned.of_below (h : Below w.heap.size w W) (S : Nat → Prop) : Turned S w W := ⟨h.os, h.tape, h.output, h.size, fun i hi _ => h.block i hi⟩
theorem Turned.mono (h : Turned S w W) (hs : ∀ k, S k → S2 k) : Turned S2 w W := ⟨h.os, h.tape, h.output, h.size, fun i hi hn => h.block i hi (fun hk => hn (hs i hk))⟩
theorem Turned.then_ (h : Turned S w W) (k : Turned S2 W W2) (hs : ∀ k, S2 k → S k ∨ w.heap.size ≤ k) : Turned S w W2 :=
  ⟨k.os.trans h.os, k.tape.trans h.tape, k.output.trans h.output, Nat.le_trans h.size k.size, fun i hi hn => (k.block i (Nat.lt_of_lt_of_le hi h.size) (fun h2 => (hs i h2).elim hn (fun h3 => by omega))).trans (h.block i hi hn)⟩
theorem Turned.below (h : Turned S w W) (hb : Below W.heap.size W W2) : Turned S w W2 := h.then_ (Turned.of_below hb (fun _ => False)) (fun _ hk => hk.elim)
theorem Turned.alloc (h : Turned S w W) (o : Obj) : Turned S w (W.alloc o) := h.below (below_alloc (Below.refl _ _) o)
theorem Turned.drewN (h : Turned S w W) (n : Nat) : Turned S w (W.drewN n) := ⟨h.os, h.tape, h.output, h.size, h.block⟩
theorem Turned.drew (h : Turned S w W) : Turned S w W.drew := ⟨h.os, h.tape, h.output, h.size, h.block⟩
theorem Turned.setCell (h : Turned S w W) {p : Addr} (hp : S p.block ∨ w.heap.size ≤ p.block) (u : Value) : Turned S w (W.setCell p u) :=
  h.then_ (S2 := fun k => k = p.block) ⟨rfl, rfl, rfl, by simp [World.setCell], fun i _ hn => Below.heap_setCell W p u i hn⟩ (fun k hk => by rw [hk]; exact hp)
theorem Turned.grown (h : Turned S w W) {row : Option Nat} (hg : W.grownBy W2 row) (hr : ∀ k, row = some k → S k ∨ w.heap.size ≤ k) : Turned S w W2 :=
  h.then_ (S2 := fun k => row = some k) ⟨hg.os, hg.tape, hg.output, hg.size, fun i hi hn => hg.block i hi (fun he => hn he.symm)⟩ hr
theorem Turned.setRow (h : Turned S w W) {g : Nat} (hp : S g ∨ w.heap.size ≤ g) (cs : Array Value) : Turned S w (W.setRow g cs) :=
  h.then_ (S2 := fun k => k = g) ⟨rfl, rfl, rfl, by simp [World.setRow], fun i _ hn => setRow_other W g i cs (by omega)⟩ (fun k hk => by rw [hk]; exact hp)
theorem Turned.toBelow {B : Nat} (h : Turned S w W) (hB : B ≤ w.heap.size) (hS : ∀ k, S k → B ≤ k) : Below B w W :=
  ⟨h.os, h.tape, h.output, h.size, fun i hi => h.block i (by omega) (fun hk => by have := hS i hk; omega)⟩
theorem Turned.blk (h : Turned S w W) {g : Nat} {o : Obj} (hb : w.heap[g]? = some o) (hn : ¬ S g) : W.heap[g]? = some o := (h.block g (blk_lt hb) hn).trans hb
theorem Turned.cell (h : Turned S w W) {a : Addr} {v : Value} (hc : w.cell? a = some v) (hn : ¬ S a.block) : W.cell? a = some v :=
  (World.cell?_of_block (h.block a.block (World.block_lt_of_cell? w a hc) hn)).trans hc
theorem below_turned {B : Nat} {w0 : World} (h0 : Below B w0 w) (h : Turned S w W) (hB : B ≤ w.heap.size) (hS : ∀ k, S k → B ≤ k) : Below B w0 W := h0.trans (h.toBelow hB hS)
end

/-- One block whole. -/
def Blk (w : World) (b : Nat) (cs : Array Value) (t : TypeId) : Prop := w.heap[b]? = some (.cells cs t (0, 0))
theorem Blk.cell {w : World} {b : Nat} {cs : Array Value} {t : TypeId} (h : Blk w b cs t) (j : Nat) : w.cell? ⟨b, j, none⟩ = cs[j]? := by
  unfold Blk at h
  simp [World.cell?, h]
theorem Blk.free {w : World} {b : Nat} {cs : Array Value} {t : TypeId} (h : Blk w b cs t) (j : Nat) : w.frozen? ⟨b, j, none⟩ = false := by
  unfold Blk at h
  simp [World.frozen?, h]
theorem Blk.lt {w : World} {b : Nat} {cs : Array Value} {t : TypeId} (h : Blk w b cs t) : b < w.heap.size := blk_lt h
theorem Blk.set {w : World} {b : Nat} {cs : Array Value} {t : TypeId} (h : Blk w b cs t) (j : Nat) (u : Value) : Blk (w.setCell ⟨b, j, none⟩ u) b (cs.setIfInBounds j u) t := by
  have hlt := h.lt
  unfold Blk at h ⊢
  simp [World.setCell, Array.getElem?_modify, h]
theorem Blk.drewN {w : World} {b : Nat} {cs : Array Value} {t : TypeId} (h : Blk w b cs t) (n : Nat) : Blk (w.drewN n) b cs t := h
theorem Blk.alloc {w : World} {b : Nat} {cs : Array Value} {t : TypeId} (h : Blk w b cs t) (o : Obj) : Blk (w.alloc o) b cs t := ((below_alloc (Below.refl _ w) o).block b h.lt).trans h
theorem Blk.new (w : World) (cs : Array Value) (t : TypeId) : Blk (w.alloc (.cells cs t)) w.heap.size cs t := heap_alloc_new w _
theorem Blk.far {w : World} {b : Nat} {cs : Array Value} {t : TypeId} (h : Blk w b cs t) {p : Addr} (hne : b ≠ p.block) (u : Value) : Blk (w.setCell p u) b cs t := (Below.heap_setCell w p u b hne).trans h
end Go.Proofs.YtopehfjohifpnaaDoor.Turn
