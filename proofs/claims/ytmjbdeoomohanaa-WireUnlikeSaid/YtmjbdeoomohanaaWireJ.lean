/- wire: a made row; what blocks does. -/
import Derived.Test.YtmjbdeoomohanaaWireI
set_option linter.unusedSimpArgs false
set_option linter.unusedVariables false
namespace Go.Proofs.Ytmjbdeoomohanaa.Mine
open Go.RowKit Go.Maps Go.Proofs.YtmjbdeoomohanaaW.PrintWords Go.Proofs.YtmjbdeoomohanaaW.PrintLast Go.Proofs.YtmjbdeoomohanaaW.PrintMore Go.Proofs.Ytmjbdeoomohanaa.PWirePacks Go.Proofs.Ytmjbdeoomohanaa.Turn
variable {lo : Nat}

theorem made_flat (z : Array Value) (n : Nat) (hz : 0 < z.size) : (madeCells z (n * z.size)).toList = (List.replicate n z.toList).flatten := by
  have hl : ∀ r ∈ List.replicate n z.toList, r.length = z.size := fun r hr => by rw [List.eq_of_mem_replicate hr]; simp
  apply List.ext_getElem?
  intro q
  by_cases hq : q < n * z.size
  · have hj : q / z.size < n := Nat.div_lt_of_lt_mul (by rw [Nat.mul_comm]; exact hq)
    have hm := Nat.mod_lt q hz
    have h1 := flat_at (List.replicate n z.toList) hl (j := q / z.size) (i := q % z.size) (r := z.toList) (by simp [hj]) hm
    rw [Nat.div_add_mod'] at h1
    rw [h1]
    simp [madeCells, hq, hm]
  · rw [List.getElem?_eq_none (by simp [madeCells]; omega), List.getElem?_eq_none (by rw [flat_len _ hl, List.length_replicate]; omega)]

theorem N_new {α : Type} (d : Kd α) (e : Nat) {base : Nat} {ok : Nat → Prop} (W : World) (n : Nat) (z : Array Value) (z0 : α) (hz : z.size = d.sz) (hs0 : 0 < d.sz) (hzero : Kd.FK d W (fun _ => False) z0 z.toList) (hok : ok W.heap.size) (hb : base ≤ W.heap.size) (hn : n ≤ 9223372036854775807) :
    Kd.N d e (W.alloc (.cells (madeCells z (n * d.sz)) e)) base ok (.slice (some ⟨W.heap.size, 0, none⟩) n n) (List.replicate n z0) := by
  have hone := Kd.FK_now hzero
  have hrow : ∀ r ∈ List.replicate n z.toList, r.length = d.sz ∧ ∀ u ∈ r, u.oneCell' = true := fun r hr => by
    rw [List.eq_of_mem_replicate hr]
    exact ⟨d.K_len hone, d.K_one hone⟩
  have hmf : (madeCells z (n * d.sz)).toList = (List.replicate n z.toList).flatten := by rw [← hz]; exact made_flat z n (by omega)
  have hbl : (W.alloc (.cells (madeCells z (n * d.sz)) e)).heap[W.heap.size]? = some (.cells (madeCells z (n * d.sz)) e (0, 0)) := Blk.new W _ e
  refine ⟨fun k hk => by simp [Value.ownBlock] at hk; rw [← hk]; exact hok, List.replicate n z.toList, by rw [List.length_replicate, List.length_replicate], ⟨fun k hk => hk.symm, (List.replicate n z.toList).flatten, ⟨?_, .inr ⟨W.heap.size, n, _, ?_, hb, hbl, ?_, hn, ?_, ?_⟩⟩, reps_flat _ hrow⟩, ?_⟩
  · exact flat_len _ (fun r hr => (hrow r hr).1)
  · rw [List.length_replicate]
  · rw [List.length_replicate]; exact Nat.le_refl _
  · rw [size_madeCells]; rfl
  · rw [List.length_replicate]
    rw [List.take_of_length_le (by rw [Array.length_toList, size_madeCells]; exact Nat.le_refl _), hmf]
  · intro j x c hx hc
    have hx2 := List.eq_of_mem_replicate (List.mem_of_getElem? hx)
    have hc2 := List.eq_of_mem_replicate (List.mem_of_getElem? hc)
    rw [hx2, hc2]
    exact Kd.FK_mono (Kd.FK_step hzero (fun _ hk => hk.elim)) (fun _ hk => hk.elim)

theorem N_turn {α : Type} {d : Kd α} {e base g : Nat} {w w' : World} {G G' : Nat → Prop} {v : Value} {xs : List α} (hg : g < w.heap.size) (h : Kd.N d e w base (fun k => ¬ G k ∧ Off lo g k) v xs) (ht : Turned G w w') (hG : ∀ k, G' k → G k ∨ w.heap.size ≤ k) : Kd.N d e w' base (fun k => ¬ G' k ∧ Off lo g k) v xs :=
  Kd.N_mono (Kd.N_step (Kd.N_bound h) (fun k hk hlt => ht.block k hlt hk.1.1)) (fun k hk => ⟨fun hq => (hG k hq).elim hk.1.1 (fun h2 => by have := hk.2; omega), hk.1.2⟩)

theorem run_make_27 (n : Nat) (hn : n ≤ 65536) (W : World) : (Instr.makeSlice 27 (.int .i64 n) (.int .i64 n)).run Try.prog W = .ok (.slice (some ⟨W.heap.size, 0, none⟩) n n) (W.alloc (.cells (madeCells #[.slice none 0 0] (n * 1)) 24)) := by
  obtain ⟨i0, hi, hzz⟩ := Option.map_eq_some_iff.1 info24
  simp only [Prod.mk.injEq] at hzz
  obtain ⟨hz0, hz1, hz2⟩ := hzz
  rw [run_make W 27 24 i0 (.slice none 0 0) Try.underlying27 hi hz0 .i64 .i64 n n (by omega) (by omega) (by rw [hz2]; omega) (by omega), hz1]
  simp [Value.cells]
theorem run_make_23 (n : Nat) (hn : n ≤ 65536) (W : World) : (Instr.makeSlice 23 (.int .i64 n) (.int .i64 n)).run Try.prog W = .ok (.slice (some ⟨W.heap.size, 0, none⟩) n n) (W.alloc (.cells (madeCells #[.int .u64 0, .int .u64 0, .slice none 0 0] (n * 3)) 44)) := by
  obtain ⟨i0, hi, hzz⟩ := Option.map_eq_some_iff.1 info44
  simp only [Prod.mk.injEq] at hzz
  obtain ⟨hz0, hz1, hz2⟩ := hzz
  rw [run_make W 23 44 i0 (.agg #[.int .u64 0, .int .u64 0, .slice none 0 0]) Try.underlying23 hi hz0 .i64 .i64 n n (by omega) (by omega) (by rw [hz2]; omega) (by omega), hz1]
  simp [Value.cells]

def shortS (S : St) (n : Nat) : Bool := match S with | .W _ => false | .R l => decide (l.length < n * 128)
def rowS (S : St) : List (List Int) → Except Int (List (List Int) × St)
  | [] => .ok ([], S)
  | x :: xs => match step S x 128 with
    | .error e => .error e
    | .ok (r, S') => match rowS S' xs with
      | .error e => .error e
      | .ok (rs, S'') => .ok (r :: rs, S'')
def pad {α : Type} (l : List α) (n : Nat) (z : α) : List α := l.take n ++ (List.replicate n z).drop l.length
theorem pad_length {α : Type} (l : List α) (n : Nat) (z : α) : (pad l n z).length = n := by
  simp [pad]
  omega
def blocksS (S : St) (bs : List (List Int)) : Except Int (List (List Int) × St) :=
  match countS S bs.length 2 4096 2 with
  | .error x => .error x
  | .ok (n, S1) => if shortS S1 n.toNat then .error 201 else rowS S1 (pad bs n.toNat [])
def prep {α : Type} (D : List α) (x : Except Int (List α × St)) : Except Int (List α × St) :=
  match x with
  | .error e => .error e
  | .ok (rs, S) => .ok (D ++ rs, S)
end Go.Proofs.Ytmjbdeoomohanaa.Mine
