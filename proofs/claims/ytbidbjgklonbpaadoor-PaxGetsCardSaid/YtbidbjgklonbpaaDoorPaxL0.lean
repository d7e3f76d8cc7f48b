/- pax: what Get's frame holds. -/
import Derived.Test.YtbidbjgklonbpaaDoorPaxI
set_option linter.unusedSimpArgs false
set_option linter.unusedVariables false
namespace Go.Proofs.YtbidbjgklonbpaaDoor.Mine
open Go.RowKit Go.Maps Go.Proofs.YtbidbjgklonbpaaDoorW.PrintWords Go.Proofs.YtbidbjgklonbpaaDoorW.PrintLast Go.Proofs.YtbidbjgklonbpaaDoorW.PrintMore Go.Proofs.YtbidbjgklonbpaaDoor.Turn Go.Proofs.YtbidbjgklonbpaaDoor.PPaxGets

/-- Is the next key out of order? -/
def outOf (acc : List S23) (k : ByteArray) : Bool := decide (0 < acc.length) && !(Op.bytesLess (rdP acc (acc.length - 1)).f0.toList k.toList)
noncomputable def getG (L : List Int) : Nat → Nat → List S23 → List S23 × Int × Int
  | 0, _, acc => (acc, 0, 0)
  | m + 1, a, acc => if L.length ≤ a then (acc, 0, 0) else if acc.length = 64 then ([], a, 3) else
    match oneL (L.drop a) with
    | .error c => ([], a, c)
    | .ok (k, v, n) => if outOf acc k = true then ([], a, 92) else getG L m (a + n) (acc ++ [⟨k, v⟩])
noncomputable def getF (L : List Int) : List S23 × Int × Int := getG L 66 0 []
theorem lead_dig : ∀ (k : Nat) (l : List Int), lead l k ≤ k ∧ lead l k ≤ l.length ∧ ∀ i, i < lead l k → isD (l.getD i 0) = true
  | k, [] => by cases k <;> simp [lead]
  | 0, x :: l => by simp [lead]
  | k + 1, x :: l => by
    obtain ⟨h1, h2, h3⟩ := lead_dig k l
    by_cases hx : isD x = true
    · have e : lead (x :: l) (k + 1) = lead l k + 1 := by simp [lead, hx]
      rw [e]
      refine ⟨by omega, by simp; omega, fun i hi => ?_⟩
      cases i with
      | zero => simpa using hx
      | succ i => simpa using h3 i (by omega)
    · have e : lead (x :: l) (k + 1) = 0 := by simp [lead, hx]
      rw [e]
      exact ⟨by omega, by omega, fun i hi => by omega⟩
theorem oneL_ok {l : List Int} {k v : ByteArray} {n : Nat} (h : oneL l = .ok (k, v, n)) : 1 ≤ n ∧ n ≤ l.length ∧ n < 10000 := by
  unfold oneL at h
  split at h
  · cases h
  · rename_i h0
    unfold oneN at h
    split at h
    · cases h
    · rename_i h1
      have hn : numN l (lead l 5) = n := by
        unfold oneB at h
        split at h
        · cases h
        · unfold oneP at h
          split at h
          · cases h
          · split at h
            · cases h
            · cases h; rfl
      obtain ⟨g1, g2, g3⟩ := lead_dig 5 l
      have hd0 : lead l 5 ≠ 0 := fun h => h0 (.inl h)
      have hd4 : ¬ 4 < lead l 5 := fun h => h0 (.inr (.inl h))
      have hz : l.getD 0 0 ≠ 48 := fun h => h0 (.inr (.inr (.inl h)))
      have hlt := numN_lt g2 g3
      have hp : 10 ^ lead l 5 ≤ 10 ^ 4 := Nat.pow_le_pow_right (by decide) (by omega)
      have hle : n ≤ l.length := by
        have : ¬ l.length < numN l (lead l 5) := fun h => h1 (.inl h)
        omega
      obtain ⟨e, he⟩ : ∃ e, lead l 5 = e + 1 := ⟨lead l 5 - 1, by omega⟩
      have hpos : 1 ≤ numN l (e + 1) := numN_pos hz (by omega) (fun i hi => g3 i (by omega))
      rw [← he] at hpos
      exact ⟨by omega, hle, by omega⟩
def EndsGet (w : World) (r : List S23 × Int × Int) (e : Ending) (w' : World) : Prop :=
  Below w.heap.size w w' ∧ ∃ A c, e = .returned (.tuple #[.slice A r.1.length c, .int .i64 r.2.1, .int .i64 r.2.2]) ∧ r.1.length ≤ c ∧ Kd.F k23 w' (fun k => w.heap.size ≤ k) A r.1.length r.1

def GetW (w W : World) (v : Value) (a : Int) (acc : List S23) : Prop :=
  Below w.heap.size w W ∧ Blk W w.heap.size #[v] 33 ∧ Blk W (w.heap.size + 1) #[.int .i64 a] 3 ∧ Blk W (w.heap.size + 2) #[.int .i64 0] 25 ∧ w.heap.size + 3 ≤ W.heap.size ∧ Kd.R k23 23 W (w.heap.size + 3) (fun k => w.heap.size + 3 ≤ k) v acc
theorem GetW.step {w W W' : World} {v : Value} {a : Int} {acc : List S23} (h : GetW w W v a acc) (hb : Below W.heap.size W W') : GetW w W' v a acc := by
  obtain ⟨h1, h2, h3, h4, h5, h6⟩ := h
  exact ⟨below_step h1 hb, (hb.block _ h2.lt).trans h2, (hb.block _ h3.lt).trans h3, (hb.block _ h4.lt).trans h4, Nat.le_trans h5 hb.size, Kd.R_step h6 (fun k _ hlt => hb.block k hlt)⟩
theorem GetW.setL {w W W' : World} {v v1 : Value} {a : Int} {acc acc1 : List S23} (h : GetW w W v a acc) (hb : Below (w.heap.size + 3) W W') (hr : Kd.R k23 23 W' (w.heap.size + 3) (fun k => w.heap.size + 3 ≤ k) v1 acc1) :
    GetW w (W'.setCell ⟨w.heap.size, 0, none⟩ v1) v1 a acc1 := by
  obtain ⟨h1, h2, h3, h4, h5, h6⟩ := h
  have hs := hb.size
  have b2 : Blk W' w.heap.size #[v] 33 := (hb.block _ (by omega)).trans h2
  have b3 : Blk W' (w.heap.size + 1) #[.int .i64 a] 3 := (hb.block _ (by omega)).trans h3
  have b4 : Blk W' (w.heap.size + 2) #[.int .i64 0] 25 := (hb.block _ (by omega)).trans h4
  have hB : Below w.heap.size w W' := h1.trans (hb.mono (by omega))
  exact ⟨below_turned hB ((Turned.refl (fun k => k = w.heap.size) W').setCell (.inl rfl) _) hB.size (fun k hk => by omega), b2.set 0 v1, b3.far (p := ⟨w.heap.size, 0, none⟩) (by simp) _, b4.far (p := ⟨w.heap.size, 0, none⟩) (by simp) _, by simp [World.setCell]; omega, Kd.R_step hr (fun k hk _ => Below.heap_setCell W' _ v1 k (by have : w.heap.size + 3 ≤ k := hk; show k ≠ w.heap.size; omega))⟩
theorem GetW.setA {w W : World} {v : Value} {a b : Int} {acc : List S23} (h : GetW w W v a acc) : GetW w (W.setCell ⟨w.heap.size + 1, 0, none⟩ (.int .i64 b)) v b acc := by
  obtain ⟨h1, h2, h3, h4, h5, h6⟩ := h
  exact ⟨below_turned h1 ((Turned.refl (fun k => k = w.heap.size + 1) W).setCell (.inl rfl) _) h1.size (fun k hk => by omega), h2.far (p := ⟨w.heap.size + 1, 0, none⟩) (by simp) _, h3.set 0 _, h4.far (p := ⟨w.heap.size + 1, 0, none⟩) (by simp) _, by simp [World.setCell]; omega, Kd.R_step h6 (fun k hk _ => Below.heap_setCell W _ _ k (by have : w.heap.size + 3 ≤ k := hk; show k ≠ w.heap.size + 1; omega))⟩
end Go.Proofs.YtbidbjgklonbpaaDoor.Mine
