/- pax: memory that is written over: what stays. -/
import Derived.Test.YtbidbjgklonbpaaDoorPaxLR
import Derived.Test.YtbidbjgklonbpaaDoorPaxT
set_option linter.unusedSimpArgs false
set_option linter.unusedVariables false
namespace Go.Proofs.YtbidbjgklonbpaaDoor.Mine
open Go.RowKit Go.Maps Go.Proofs.YtbidbjgklonbpaaDoorW.PrintWords Go.Proofs.YtbidbjgklonbpaaDoorW.PrintLast Go.Proofs.YtbidbjgklonbpaaDoorW.PrintMore Go.Proofs.YtbidbjgklonbpaaDoor.Turn Go.Proofs.YtbidbjgklonbpaaDoor.PPaxGets

/-- Of the blocks that lay in W, those outside S lie as they did. -/
def Out (S : Nat → Prop) (W W' : World) : Prop := W.heap.size ≤ W'.heap.size ∧ ∀ k, k < W.heap.size → ¬ S k → W'.heap[k]? = W.heap[k]?
theorem Out.refl (S : Nat → Prop) (W : World) : Out S W W := ⟨Nat.le_refl _, fun _ _ _ => rfl⟩
theorem Out.to {S : Nat → Prop} {W0 W W' : World} (h : Out S W0 W) (hs : W.heap.size ≤ W'.heap.size) (hk : ∀ k, k < W0.heap.size → ¬ S k → W'.heap[k]? = W.heap[k]?) : Out S W0 W' :=
  ⟨Nat.le_trans h.1 hs, fun k h1 h2 => (hk k h1 h2).trans (h.2 k h1 h2)⟩
theorem own_out {W W' : World} {B : Nat} {v : Value} {L : List Int} (h : Own W B v L) (hk : ∀ k, v.ownBlock = some k → W'.heap[k]? = W.heap[k]?) : Own W' B v L := by
  obtain ⟨h1, h2⟩ := h
  refine ⟨h1, ?_⟩
  rcases h2 with h2 | ⟨g, cap, cur, hv, hg, hb, r⟩
  · exact .inl h2
  · subst hv
    exact .inr ⟨g, cap, cur, rfl, hg, (hk g rfl).trans hb, r⟩
theorem own_shape {W : World} {B n c : Nat} {A : Option Addr} {L : List Int} (h : Own W B (.slice A n c) L) (h0 : 0 < L.length) : ∃ g, A = some ⟨g, 0, none⟩ ∧ n = L.length ∧ B ≤ g ∧ g < W.heap.size ∧ (∀ k, k < L.length → W.cell? ⟨g, k, none⟩ = some (.int .u8 (L.getD k 0))) ∧ ∀ k, W.frozen? ⟨g, k, none⟩ = false := by
  obtain ⟨A', c', he, hcc, hrd⟩ := own_reads_of_le (enc := fun x : Int => Value.int .u8 x) (d := 0) h
  obtain ⟨ad, e, hcell⟩ := hrd.2.2 h0
  rcases h.2 with ⟨h2, h3⟩ | ⟨g, cap, cur, hv, hg, hb, r⟩
  · omega
  · injection he with e1 e2 e3
    injection hv with e4 e5 e6
    have e7 : (some ad : Option Addr) = some ⟨g, 0, none⟩ := by rw [← e, ← e1, e4]
    injection e7 with e7
    subst e7
    refine ⟨g, e4, e2, hg, blk_lt hb, fun k hk => ?_, fun k => by simp [World.frozen?, hb]⟩
    have := hcell k hk
    rwa [add_zero] at this

def Sx (lo0 hi0 lo1 hi1 k : Nat) : Prop := (lo0 ≤ k ∧ k < hi0) ∨ (lo1 ≤ k ∧ k < hi1)
def Stable (P : World → Prop) (lo hi : Nat) : Prop := ∀ W W' : World, (∀ k, lo ≤ k → k < hi → W'.heap[k]? = W.heap[k]?) → P W → P W'
/-- Two rows are written over, one behind the other: those from i on are as they were. -/
def StG (w wb : World) (T lo0 hi0 lo1 hi1 : Nat) (v0 v1 : Value) (P0 P1 : World → Prop) (i : Nat) (W : World) : Prop :=
  Below w.heap.size w W ∧ Out (Sx lo0 hi0 lo1 hi1) wb W ∧ (∃ c0 c1, Blk W wb.heap.size #[c0, c1] T ∧ (i < 1 → c0 = v0) ∧ (i < 2 → c1 = v1)) ∧ (i < 1 → P0 W) ∧ (i < 2 → P1 W)
def InG (w wb : World) (T lo0 hi0 lo1 hi1 : Nat) (v1 : Value) (P1 : World → Prop) (vc : Value) (i : Nat) (W : World) : Prop :=
  Below w.heap.size w W ∧ Out (Sx lo0 hi0 lo1 hi1) wb W ∧ (∃ c0 c1, Blk W wb.heap.size #[c0, c1] T ∧ (#[c0, c1] : Array Value)[i]? = some vc ∧ (i < 1 → c1 = v1)) ∧ (i < 1 → P1 W)
def HypG (w wb : World) (lo0 hi0 lo1 hi1 : Nat) (P1 : World → Prop) : Prop := w.heap.size ≤ wb.heap.size ∧ w.heap.size ≤ lo0 ∧ w.heap.size ≤ lo1 ∧ hi0 ≤ lo1 ∧ hi0 ≤ wb.heap.size ∧ hi1 ≤ wb.heap.size ∧ Stable P1 lo1 hi1
section
variable {w wb W W' : World} {T lo0 hi0 lo1 hi1 : Nat} {v0 v1 vc : Value} {P0 P1 : World → Prop} {i : Nat}
theorem StG.cur (h : StG w wb T lo0 hi0 lo1 hi1 v0 v1 P0 P1 i W) (hi : i < 2) : ∃ vc, ((i = 0 ∧ vc = v0 ∧ P0 W) ∨ (i = 1 ∧ vc = v1 ∧ P1 W)) ∧ InG w wb T lo0 hi0 lo1 hi1 v1 P1 vc i W := by
  obtain ⟨h1, h2, ⟨c0, c1, hb, e0, e1⟩, p0, p1⟩ := h
  match i, hi with
  | 0, _ =>
    refine ⟨c0, .inl ⟨rfl, e0 (by omega), p0 (by omega)⟩, h1, h2, ⟨c0, c1, hb, rfl, fun _ => e1 (by omega)⟩, fun _ => p1 (by omega)⟩
  | 1, _ =>
    refine ⟨c1, .inr ⟨rfl, e1 (by omega), p1 (by omega)⟩, h1, h2, ⟨c0, c1, hb, rfl, fun h => by omega⟩, fun h => by omega⟩
theorem InG.cell (h : InG w wb T lo0 hi0 lo1 hi1 v1 P1 vc i W) : W.cell? ⟨wb.heap.size, i, none⟩ = some vc := by
  obtain ⟨h1, h2, ⟨c0, c1, hb, e0, e1⟩, p1⟩ := h
  exact (hb.cell i).trans e0
theorem InG.free (h : InG w wb T lo0 hi0 lo1 hi1 v1 P1 vc i W) : W.frozen? ⟨wb.heap.size, i, none⟩ = false := by
  obtain ⟨h1, h2, ⟨c0, c1, hb, e0, e1⟩, p1⟩ := h
  exact hb.free i
theorem InG.lt (h : InG w wb T lo0 hi0 lo1 hi1 v1 P1 vc i W) : wb.heap.size < W.heap.size := by
  obtain ⟨h1, h2, ⟨c0, c1, hb, e0, e1⟩, p1⟩ := h
  exact hb.lt
theorem InG.grown (H : HypG w wb lo0 hi0 lo1 hi1 P1) (h : InG w wb T lo0 hi0 lo1 hi1 v1 P1 vc i W) (hi : i < 2) {row : Option Nat} (hg : W.grownBy W' row) (hrow : ∀ g, row = some g → (i = 0 ∧ lo0 ≤ g ∧ g < hi0) ∨ (i = 1 ∧ lo1 ≤ g ∧ g < hi1) ∨ W.heap.size ≤ g) : InG w wb T lo0 hi0 lo1 hi1 v1 P1 vc i W' := by
  obtain ⟨a0, a1, a2, a3, a4, a5, a6⟩ := H
  have hlt := h.lt
  obtain ⟨h1, h2, ⟨c0, c1, hb, e0, e1⟩, p1⟩ := h
  have hsz := h1.size
  refine ⟨h1.grown hg h1.size (fun g hj => ?_), h2.to hg.size (fun k hk hS => hg.block k (by omega) (fun e => ?_)), ⟨c0, c1, (hg.block _ hlt (fun e => ?_)).trans hb, e0, e1⟩, fun h0 => a6 W W' (fun k k1 k2 => hg.block k (by omega) (fun e => ?_)) (p1 h0)⟩
  · rcases hrow g hj with h | h | h <;> omega
  · rcases hrow k e.symm with h | h | h
    · exact hS (.inl h.2)
    · exact hS (.inr h.2)
    · omega
  · rcases hrow _ e.symm with h | h | h <;> omega
  · rcases hrow k e.symm with h | h | h <;> omega
theorem InG.below (H : HypG w wb lo0 hi0 lo1 hi1 P1) (h : InG w wb T lo0 hi0 lo1 hi1 v1 P1 vc i W) (hb : Below W.heap.size W W') : InG w wb T lo0 hi0 lo1 hi1 v1 P1 vc i W' := by
  obtain ⟨a0, a1, a2, a3, a4, a5, a6⟩ := H
  have hlt := h.lt
  obtain ⟨h1, h2, ⟨c0, c1, hbk, e0, e1⟩, p1⟩ := h
  exact ⟨below_step h1 hb, h2.to hb.size (fun k hk _ => hb.block k (by omega)), ⟨c0, c1, (hb.block _ hlt).trans hbk, e0, e1⟩, fun h0 => a6 W W' (fun k _ k2 => hb.block k (by omega)) (p1 h0)⟩
theorem InG.fin (H : HypG w wb lo0 hi0 lo1 hi1 P1) (h : InG w wb T lo0 hi0 lo1 hi1 v1 P1 vc i W) (hi : i < 2) (v' : Value) : StG w wb T lo0 hi0 lo1 hi1 v0 v1 P0 P1 (i + 1) (W.setCell ⟨wb.heap.size, i, none⟩ v') := by
  obtain ⟨a0, a1, a2, a3, a4, a5, a6⟩ := H
  obtain ⟨h1, h2, ⟨c0, c1, hbk, e0, e1⟩, p1⟩ := h
  have hs := hbk.set i v'
  have hk : ∀ k, k ≠ wb.heap.size → (W.setCell ⟨wb.heap.size, i, none⟩ v').heap[k]? = W.heap[k]? := fun k hk => Below.heap_setCell W _ v' k hk
  refine ⟨below_turned h1 ((Turned.refl (fun k => k = wb.heap.size) W).setCell (.inl rfl) _) h1.size (fun k hk => ?_), h2.to (by simp [World.setCell]) (fun k h3 _ => hk k (by omega)), ?_, fun h => by omega, fun h => a6 W _ (fun k k1 k2 => hk k (by omega)) (p1 (by omega))⟩
  · omega
  · match i, hi with
    | 0, _ => exact ⟨v', c1, hs, fun h => by omega, fun _ => e1 (by omega)⟩
    | 1, _ => exact ⟨c0, v', hs, fun h => by omega, fun h => by omega⟩
end
end Go.Proofs.YtbidbjgklonbpaaDoor.Mine
