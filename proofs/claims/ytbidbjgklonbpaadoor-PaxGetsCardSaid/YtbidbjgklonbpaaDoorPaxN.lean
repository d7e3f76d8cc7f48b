/- pax: ref's one. -/
import Derived.Test.YtbidbjgklonbpaaDoorPaxM
import Derived.Test.YtbidbjgklonbpaaDoorPaxJ
set_option linter.unusedSimpArgs false
set_option linter.unusedVariables false
namespace Go.Proofs.YtbidbjgklonbpaaDoor.Mine
open Go.RowKit Go.Maps Go.Proofs.YtbidbjgklonbpaaDoorW.PrintWords Go.Proofs.YtbidbjgklonbpaaDoorW.PrintLast Go.Proofs.YtbidbjgklonbpaaDoorW.PrintMore Go.Proofs.YtbidbjgklonbpaaDoor.Turn Go.Proofs.YtbidbjgklonbpaaDoor.PPaxGets

theorem pre61 (x : Int) (l : List UInt8) (h : 0 ≤ x ∧ x < 256) : ([61] : List UInt8).isPrefixOf (UInt8.ofNat x.toNat :: l) = decide (x = 61) := by
  have hb : (UInt8.ofNat x.toNat).toNat = x.toNat := by simp; omega
  by_cases hx : x = 61
  · subst hx; simp [List.isPrefixOf]
  · rw [decide_eq_false hx]
    simp only [List.isPrefixOf, Bool.and_true, Bool.and_eq_false_iff, beq_eq_false_iff_ne]
    intro e
    have := congrArg UInt8.toNat e
    rw [hb] at this
    simp at this
    omega
theorem idx_at : ∀ (body : List Int) (i : Nat), (∀ x ∈ body, 0 ≤ x ∧ x < 256) → i < body.length → body.getD i 0 = 61 → (∀ j, j < i → body.getD j 0 ≠ 61) → Lib.index (Lib.bytesOf body) [61] = (i : Int)
  | [], i, _, hi, _, _ => by simp at hi
  | x :: l, 0, hr, _, hx, _ => by
    simp only [List.getD_cons_zero] at hx
    simp only [Lib.bytesOf, List.map_cons, Lib.index]
    rw [pre61 _ _ (hr x (by simp)), decide_eq_true hx]
    rfl
  | x :: l, i + 1, hr, hi, hx, hn => by
    have h0 := hn 0 (by omega)
    simp only [List.getD_cons_zero] at h0
    have ih := idx_at l i (fun y hy => hr y (List.mem_cons_of_mem _ hy)) (by simpa using hi) (by simpa using hx) (fun j hj => by simpa using hn (j + 1) (by omega))
    simp only [Lib.bytesOf, List.map_cons, Lib.index] at ih ⊢
    rw [pre61 _ _ (hr x (by simp)), decide_eq_false h0, ih, if_neg (by simp), if_neg (by simp)]
    omega
theorem idx_none : ∀ (body : List Int), (∀ x ∈ body, 0 ≤ x ∧ x < 256) → (∀ j, j < body.length → body.getD j 0 ≠ 61) → Lib.index (Lib.bytesOf body) [61] = -1
  | [], _, _ => rfl
  | x :: l, hr, hn => by
    have h0 := hn 0 (by simp)
    simp only [List.getD_cons_zero] at h0
    have ih := idx_none l (fun y hy => hr y (List.mem_cons_of_mem _ hy)) (fun j hj => by simpa using hn (j + 1) (by simp; omega))
    simp only [Lib.bytesOf, List.map_cons, Lib.index] at ih ⊢
    rw [pre61 _ _ (hr x (by simp)), decide_eq_false h0, ih]
    rfl
theorem run_results41 (tmps : Array Value) (g : Nat) (k v : ByteArray) (x y : Int) (w : World) (h2 : tmps[2]? = some (.pointer (some ⟨g, 0, none⟩))) (h3 : tmps[3]? = some (.int .i64 x)) (h4 : tmps[4]? = some (.int .i64 y)) (hb : Blk w g #[.string k, .string v] 23) : (results Tryd.f41 tmps).run Tryd.prog w = .ok (.tuple #[.agg #[.string k, .string v], .int .i64 x, .int .i64 y]) w := by
  have hg0 : w.cell? ⟨g, 0, none⟩ = some (.string k) := (hb.cell 0).trans rfl
  have hg1 : w.cell? ⟨g, 1, none⟩ = some (.string v) := (hb.cell 1).trans rfl
  clear hb
  simp [results, Tryd.results41, h2, h3, h4, go_sem, hg0, hg1]
def EndsOneR (w : World) (x : Except Int (ByteArray × ByteArray × Nat)) (e : Ending) (w' : World) : Prop :=
  Below w.heap.size w w' ∧ match x with
  | .ok (k, v, n) => e = .returned (.tuple #[.agg #[.string k, .string v], .int .i64 (n : Int), .int .i64 0])
  | .error c => e = .returned (.tuple #[.agg #[.string ⟨#[]⟩, .string ⟨#[]⟩], .int .i64 0, .int .i64 c])
/-- The frame of ref's one. -/
def OneR (w W : World) (A : Option Addr) (l : List Int) : Prop := Below w.heap.size w W ∧ Blk W w.heap.size #[.string ⟨#[]⟩, .string ⟨#[]⟩] 23 ∧ Kd.C (Kd.int .u8) W A l.length l
theorem OneR.step {w W W' : World} {A : Option Addr} {l : List Int} (h : OneR w W A l) (hb : Below W.heap.size W W') : OneR w W' A l :=
  ⟨below_step h.1 hb, (hb.block _ h.2.1.lt).trans h.2.1, Kd.C_below h.2.2 hb⟩
theorem OneR.set {w W : World} {A : Option Addr} {l : List Int} (h : OneR w W A l) (k v : ByteArray) : Below w.heap.size w ((W.setCell ⟨w.heap.size, 0, none⟩ (.string k)).setCell ⟨w.heap.size, 1, none⟩ (.string v)) ∧ Blk ((W.setCell ⟨w.heap.size, 0, none⟩ (.string k)).setCell ⟨w.heap.size, 1, none⟩ (.string v)) w.heap.size #[.string k, .string v] 23 := by
  have t0 := (Turned.refl (fun k => k = w.heap.size) W).setCell (p := ⟨w.heap.size, 0, none⟩) (.inl rfl) (.string k)
  have t1 := t0.setCell (p := ⟨w.heap.size, 1, none⟩) (.inl rfl) (.string v)
  exact ⟨below_turned h.1 t1 h.1.size (fun k hk => by omega), (h.2.1.set 0 (.string k)).set 1 (.string v)⟩
theorem badH_neg {l : List Int} (h : ¬ badH l) : oneL l = oneN l (lead l 5) (numN l (lead l 5)) ∧ longS l = ((numN l (lead l 5) : Int), (lead l 5 : Int)) ∧ 1 ≤ lead l 5 ∧ lead l 5 ≤ 4 ∧ lead l 5 < l.length ∧ l.getD (lead l 5) 0 = 32 ∧ (∀ i, i < lead l 5 → isD (l.getD i 0) = true) ∧ 1 ≤ numN l (lead l 5) ∧ numN l (lead l 5) < 10000 := by
  have h' := h
  unfold badH at h'
  obtain ⟨g1, g2, g3⟩ := lead_dig 5 l
  have hd0 : lead l 5 ≠ 0 := fun e => h' (.inl e)
  have hd4 : ¬ 4 < lead l 5 := fun e => h' (.inr (.inl e))
  have hz : l.getD 0 0 ≠ 48 := fun e => h' (.inr (.inr (.inl e)))
  have hl : lead l 5 ≠ l.length := fun e => h' (.inr (.inr (.inr (.inl e))))
  have hlt := numN_lt g2 g3
  have hp : 10 ^ lead l 5 ≤ 10 ^ 4 := Nat.pow_le_pow_right (by decide) (by omega)
  refine ⟨?_, ?_, by omega, by omega, by omega, Classical.byContradiction fun e => h' (.inr (.inr (.inr (.inr e)))), g3, ?_, by omega⟩
  · unfold oneL; rw [if_neg h']
  · unfold longS; rw [if_neg h]
  · obtain ⟨e, he⟩ : ∃ e, lead l 5 = e + 1 := ⟨lead l 5 - 1, by omega⟩
    rw [he]
    exact numN_pos hz (by omega) (fun i hi => g3 i (by omega))
end Go.Proofs.YtbidbjgklonbpaaDoor.Mine
