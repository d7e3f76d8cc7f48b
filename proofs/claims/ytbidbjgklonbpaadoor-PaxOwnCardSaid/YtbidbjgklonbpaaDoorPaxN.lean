/- pax: ref's long. -/
import Derived.Test.YtbidbjgklonbpaaDoorPaxL0
import Derived.Test.YtbidbjgklonbpaaDoorPaxCop2
import Derived.Test.YtbidbjgklonbpaaDoorPaxJ
set_option linter.unusedSimpArgs false
set_option linter.unusedVariables false
namespace Go.Proofs.YtbidbjgklonbpaaDoor.Mine
open Go.RowKit Go.Maps Go.Proofs.YtbidbjgklonbpaaDoorW.PrintWords Go.Proofs.YtbidbjgklonbpaaDoorW.PrintLast Go.Proofs.YtbidbjgklonbpaaDoorW.PrintMore Go.Proofs.YtbidbjgklonbpaaDoor.Turn Go.Proofs.YtbidbjgklonbpaaDoor.PPaxGets

def badH (l : List Int) : Prop := lead l 5 = 0 ∨ 4 < lead l 5 ∨ l.getD 0 0 = 48 ∨ lead l 5 = l.length ∨ l.getD (lead l 5) 0 ≠ 32
instance (l : List Int) : Decidable (badH l) := by unfold badH; infer_instance
def longS (l : List Int) : Int × Int := if badH l then (0, 0) else ((numN l (lead l 5) : Int), (lead l 5 : Int))
theorem rd_nat (l : List Int) (d : Nat) : rd l (d : Int) = l.getD d 0 := by unfold rd; rw [Int.toNat_natCast]

theorem long_l0 (l : List Int) (hl : l.length ≤ 1152921504606846976) : ∀ (m d : Nat), d + m = 4 → d ≤ l.length → (∀ i, i < d → isD (l.getD i 0) = true) → (1 ≤ d → l.getD 0 0 ≠ 48) → tabularyref09_long.l0 (2 * m + 2) l (numN l d) d = some (longS l) := by
  intro m
  induction m with
  | zero => 
    intro d hdm hdl hd h48
    have hd4 : d = 4 := by omega
    by_cases hg : d < l.length ∧ isD (l.getD d 0) = true
    · have hx := hg.2
      simp only [isD, Bool.and_eq_true, decide_eq_true_eq] at hx
      have hlead : lead l 5 = 5 := lead_eq 5 l 5 (Nat.le_refl _) (by omega) (fun i hi => by
        by_cases h : i = d
        · rw [h]; exact hg.2
        · exact hd i (by omega)) (.inl rfl)
      simp only [tabularyref09_long.l0, tabularyref09_long.j1]
      rw [if_pos (by omega), if_pos (by omega), rd_nat, if_pos hx.1, if_pos (decide_eq_true hx.2), if_pos (by omega)]
      rw [longS, if_pos (.inr (.inl (by omega)))]
    · have hlead : lead l 5 = d := lead_eq 5 l d (by omega) hdl hd (by
        by_cases h : d = l.length
        · exact .inr (.inl h)
        · refine .inr (.inr ?_)
          cases hb : isD (l.getD d 0)
          · rfl
          · exact absurd ⟨by omega, hb⟩ hg)
      have hj : tabularyref09_long.j1 (2 * 0 + 1) l (numN l d) d false = some (longS l) := by
        simp only [tabularyref09_long.j1]
        rw [if_neg (by simp), if_neg (by omega)]
        by_cases h1 : d = l.length
        · rw [if_pos (by omega), longS, if_pos (.inr (.inr (.inr (.inl (by omega)))))]
        · rw [if_neg (by omega), if_pos (by omega), if_pos (by omega), rd_nat]
          by_cases h2 : l.getD d 0 = 32
          · rw [if_pos h2, longS, if_neg, hlead]
            rw [badH, hlead]
            rintro (h | h | h | h | h)
            · omega
            · omega
            · exact h48 (by omega) h
            · exact h1 h
            · exact h h2
          · rw [if_neg h2, longS, if_pos (.inr (.inr (.inr (.inr (by rw [hlead]; exact h2)))))]
      show tabularyref09_long.l0 (2 * 0 + 1 + 1) l (numN l d) d = _
      unfold tabularyref09_long.l0
      by_cases h1 : d < l.length
      · rw [if_pos (by omega), if_pos (by omega), rd_nat]
        by_cases h2 : l.getD d 0 ≥ 48
        · rw [if_pos h2, show decide (l.getD d 0 ≤ 57) = false from decide_eq_false (fun h3 => hg ⟨h1, by simp only [isD, Bool.and_eq_true, decide_eq_true_eq]; exact ⟨h2, h3⟩⟩)]
          exact hj
        · rw [if_neg h2]
          exact hj
      · rw [if_neg (by omega)]
        exact hj
  | succ m ih =>
    intro d hdm hdl hd h48
    have hk : 2 * (m + 1) + 2 = 2 * m + 2 + 1 + 1 := by omega
    by_cases hg : d < l.length ∧ isD (l.getD d 0) = true
    · have hx := hg.2
      simp only [isD, Bool.and_eq_true, decide_eq_true_eq] at hx
      have hd2 : ∀ i, i < d + 1 → isD (l.getD i 0) = true := fun i hi => by
        by_cases h : i = d
        · rw [h]; exact hg.2
        · exact hd i (by omega)
      have hlt := numN_lt hdl hd
      have hp : 10 ^ d ≤ 10 ^ 4 := Nat.pow_le_pow_right (by decide) (by omega)
      have hs := numN_succ hg.1 hd2
      have hw : wrap64 ((wrap64 ((wrap64 (10 * (numN l d : Int))) + (wrap64 (l.getD d 0)))) - 48) = (numN l (d + 1) : Int) := by
        rw [wrap_id (x := 10 * (numN l d : Int)) (by omega) (by omega), wrap_id (x := l.getD d 0) (by omega) (by omega), wrap_id (x := 10 * (numN l d : Int) + l.getD d 0) (by omega) (by omega), wrap_id (by omega) (by omega)]
        omega
      have hw2 : wrap64 ((d : Int) + 1) = ((d + 1 : Nat) : Int) := by rw [wrap_id (by omega) (by omega)]; omega
      rw [hk]
      simp only [tabularyref09_long.l0, tabularyref09_long.j1]
      rw [if_pos (by omega), if_pos (by omega), rd_nat, if_pos hx.1, if_pos (decide_eq_true hx.2), if_neg (by omega)]
      by_cases h0 : d = 0
      · rw [if_pos (by omega), if_pos (by omega), show rd l 0 = l.getD 0 0 from rfl]
        by_cases h8 : l.getD 0 0 = 48
        · rw [if_pos h8, longS, if_pos (.inr (.inr (.inl h8)))]
        · rw [if_neg h8, if_pos (by omega), if_pos (by omega), hw, hw2]
          exact ih (d + 1) (by omega) (by omega) hd2 (fun _ => h8)
      · rw [if_neg (by omega), if_pos (by omega), if_pos (by omega), hw, hw2]
        exact ih (d + 1) (by omega) (by omega) hd2 (fun _ => h48 (by omega))
    · have hlead : lead l 5 = d := lead_eq 5 l d (by omega) hdl hd (by
        by_cases h : d = l.length
        · exact .inr (.inl h)
        · refine .inr (.inr ?_)
          cases hb : isD (l.getD d 0)
          · rfl
          · exact absurd ⟨by omega, hb⟩ hg)
      have hj : tabularyref09_long.j1 (2 * m + 2 + 1) l (numN l d) d false = some (longS l) := by
        simp only [tabularyref09_long.j1]
        rw [if_neg (by simp)]
        by_cases h0 : d = 0
        · rw [if_pos (by omega), longS, if_pos (.inl (by omega))]
        rw [if_neg (by omega)]
        by_cases h1 : d = l.length
        · rw [if_pos (by omega), longS, if_pos (.inr (.inr (.inr (.inl (by omega)))))]
        · rw [if_neg (by omega), if_pos (by omega), if_pos (by omega), rd_nat]
          by_cases h2 : l.getD d 0 = 32
          · rw [if_pos h2, longS, if_neg, hlead]
            rw [badH, hlead]
            rintro (h | h | h | h | h)
            · omega
            · omega
            · exact h48 (by omega) h
            · exact h1 h
            · exact h h2
          · rw [if_neg h2, longS, if_pos (.inr (.inr (.inr (.inr (by rw [hlead]; exact h2)))))]
      rw [hk]
      unfold tabularyref09_long.l0
      by_cases h1 : d < l.length
      · rw [if_pos (by omega), if_pos (by omega), rd_nat]
        by_cases h2 : l.getD d 0 ≥ 48
        · rw [if_pos h2, show decide (l.getD d 0 ≤ 57) = false from decide_eq_false (fun h3 => hg ⟨h1, by simp only [isD, Bool.and_eq_true, decide_eq_true_eq]; exact ⟨h2, h3⟩⟩)]
          exact hj
        · rw [if_neg h2]
          exact hj
      · rw [if_neg (by omega)]
        exact hj
theorem long_any (A : Option Addr) (c : Nat) (l : List Int) (hl : l.length ≤ 1152921504606846976) (hc : l.length ≤ c) (w : World) (hr : Kd.C (Kd.int .u8) w A l.length l) :
    Calls Tryd.prog 54 #[.slice A l.length c] w fun e w' => e = .returned (.tuple #[.int .i64 (longS l).1, .int .i64 (longS l).2]) ∧ Below w.heap.size w w' :=
  (tabularyref09_long.calls 10 A c l _ _ w hr hc (long_l0 l hl 4 0 rfl (by omega) (fun i hi => by omega) (fun h => by omega))).mono fun e w' ⟨h1, h2⟩ => ⟨h1, h2.below⟩
end Go.Proofs.YtbidbjgklonbpaaDoor.Mine
/- pax: ref's one. -/
set_option linter.unusedSimpArgs false
set_option linter.unusedVariables false
namespace Go.Proofs.YtbidbjgklonbpaaDoor.Mine
open Go.RowKit Go.Maps Go.Proofs.YtbidbjgklonbpaaDoorW.PrintWords Go.Proofs.YtbidbjgklonbpaaDoorW.PrintLast Go.Proofs.YtbidbjgklonbpaaDoorW.PrintMore Go.Proofs.YtbidbjgklonbpaaDoor.Turn Go.Proofs.YtbidbjgklonbpaaDoor.PPaxGets

theorem pre61 (x : Int) (l : List UInt8) (h : 0 ≤ x ∧ x < 256) : ([61] : List UInt8).isPrefixOf (UInt8.ofNat x.toNat :: l) = decide (x = 61) := by
  have hb : (UInt8.ofNat x.toNat).toNat = x.toNat := by simp; omega
  by_cases hx : x = 61
  · subst hx; simp [List.isPrefixOf]
  · rw [decide_eq_false hx]
    simp only [List.isPrefixOf, Bool.and_true, Bool.and_eq_false_iff, beq_eq_false_iff_ne]
    intro e
    have := congrArg UInt8.toNat e
    rw [hb] at this
    simp at this
    omega
theorem idx_at : ∀ (body : List Int) (i : Nat), (∀ x ∈ body, 0 ≤ x ∧ x < 256) → i < body.length → body.getD i 0 = 61 → (∀ j, j < i → body.getD j 0 ≠ 61) → Lib.index (Lib.bytesOf body) [61] = (i : Int)
  | [], i, _, hi, _, _ => by simp at hi
  | x :: l, 0, hr, _, hx, _ => by
    simp only [List.getD_cons_zero] at hx
    simp only [Lib.bytesOf, List.map_cons, Lib.index]
    rw [pre61 _ _ (hr x (by simp)), decide_eq_true hx]
    rfl
  | x :: l, i + 1, hr, hi, hx, hn => by
    have h0 := hn 0 (by omega)
    simp only [List.getD_cons_zero] at h0
    have ih := idx_at l i (fun y hy => hr y (List.mem_cons_of_mem _ hy)) (by simpa using hi) (by simpa using hx) (fun j hj => by simpa using hn (j + 1) (by omega))
    simp only [Lib.bytesOf, List.map_cons, Lib.index] at ih ⊢
    rw [pre61 _ _ (hr x (by simp)), decide_eq_false h0, ih, if_neg (by simp), if_neg (by simp)]
    omega
theorem idx_none : ∀ (body : List Int), (∀ x ∈ body, 0 ≤ x ∧ x < 256) → (∀ j, j < body.length → body.getD j 0 ≠ 61) → Lib.index (Lib.bytesOf body) [61] = -1
  | [], _, _ => rfl
  | x :: l, hr, hn => by
    have h0 := hn 0 (by simp)
    simp only [List.getD_cons_zero] at h0
    have ih := idx_none l (fun y hy => hr y (List.mem_cons_of_mem _ hy)) (fun j hj => by simpa using hn (j + 1) (by simp; omega))
    simp only [Lib.bytesOf, List.map_cons, Lib.index] at ih ⊢
    rw [pre61 _ _ (hr x (by simp)), decide_eq_false h0, ih]
    rfl
theorem run_results41 (tmps : Array Value) (g : Nat) (k v : ByteArray) (x y : Int) (w : World) (h2 : tmps[2]? = some (.pointer (some ⟨g, 0, none⟩))) (h3 : tmps[3]? = some (.int .i64 x)) (h4 : tmps[4]? = some (.int .i64 y)) (hb : Blk w g #[.string k, .string v] 23) : (results Tryd.f41 tmps).run Tryd.prog w = .ok (.tuple #[.agg #[.string k, .string v], .int .i64 x, .int .i64 y]) w := by
  have hg0 : w.cell? ⟨g, 0, none⟩ = some (.string k) := (hb.cell 0).trans rfl
  have hg1 : w.cell? ⟨g, 1, none⟩ = some (.string v) := (hb.cell 1).trans rfl
  clear hb
  simp [results, Tryd.results41, h2, h3, h4, go_sem, hg0, hg1]
def EndsOneR (w : World) (x : Except Int (ByteArray × ByteArray × Nat)) (e : Ending) (w' : World) : Prop :=
  Below w.heap.size w w' ∧ match x with
  | .ok (k, v, n) => e = .returned (.tuple #[.agg #[.string k, .string v], .int .i64 (n : Int), .int .i64 0])
  | .error c => e = .returned (.tuple #[.agg #[.string ⟨#[]⟩, .string ⟨#[]⟩], .int .i64 0, .int .i64 c])
/-- The frame of ref's one. -/
def OneR (w W : World) (A : Option Addr) (l : List Int) : Prop := Below w.heap.size w W ∧ Blk W w.heap.size #[.string ⟨#[]⟩, .string ⟨#[]⟩] 23 ∧ Kd.C (Kd.int .u8) W A l.length l
theorem OneR.step {w W W' : World} {A : Option Addr} {l : List Int} (h : OneR w W A l) (hb : Below W.heap.size W W') : OneR w W' A l :=
  ⟨below_step h.1 hb, (hb.block _ h.2.1.lt).trans h.2.1, Kd.C_below h.2.2 hb⟩
theorem OneR.set {w W : World} {A : Option Addr} {l : List Int} (h : OneR w W A l) (k v : ByteArray) : Below w.heap.size w ((W.setCell ⟨w.heap.size, 0, none⟩ (.string k)).setCell ⟨w.heap.size, 1, none⟩ (.string v)) ∧ Blk ((W.setCell ⟨w.heap.size, 0, none⟩ (.string k)).setCell ⟨w.heap.size, 1, none⟩ (.string v)) w.heap.size #[.string k, .string v] 23 := by
  have t0 := (Turned.refl (fun k => k = w.heap.size) W).setCell (p := ⟨w.heap.size, 0, none⟩) (.inl rfl) (.string k)
  have t1 := t0.setCell (p := ⟨w.heap.size, 1, none⟩) (.inl rfl) (.string v)
  exact ⟨below_turned h.1 t1 h.1.size (fun k hk => by omega), (h.2.1.set 0 (.string k)).set 1 (.string v)⟩
theorem badH_neg {l : List Int} (h : ¬ badH l) : oneL l = oneN l (lead l 5) (numN l (lead l 5)) ∧ longS l = ((numN l (lead l 5) : Int), (lead l 5 : Int)) ∧ 1 ≤ lead l 5 ∧ lead l 5 ≤ 4 ∧ lead l 5 < l.length ∧ l.getD (lead l 5) 0 = 32 ∧ (∀ i, i < lead l 5 → isD (l.getD i 0) = true) ∧ 1 ≤ numN l (lead l 5) ∧ numN l (lead l 5) < 10000 := by
  have h' := h
  unfold badH at h'
  obtain ⟨g1, g2, g3⟩ := lead_dig 5 l
  have hd0 : lead l 5 ≠ 0 := fun e => h' (.inl e)
  have hd4 : ¬ 4 < lead l 5 := fun e => h' (.inr (.inl e))
  have hz : l.getD 0 0 ≠ 48 := fun e => h' (.inr (.inr (.inl e)))
  have hl : lead l 5 ≠ l.length := fun e => h' (.inr (.inr (.inr (.inl e))))
  have hlt := numN_lt g2 g3
  have hp : 10 ^ lead l 5 ≤ 10 ^ 4 := Nat.pow_le_pow_right (by decide) (by omega)
  refine ⟨?_, ?_, by omega, by omega, by omega, Classical.byContradiction fun e => h' (.inr (.inr (.inr (.inr e)))), g3, ?_, by omega⟩
  · unfold oneL; rw [if_neg h']
  · unfold longS; rw [if_neg h]
  · obtain ⟨e, he⟩ : ∃ e, lead l 5 = e + 1 := ⟨lead l 5 - 1, by omega⟩
    rw [he]
    exact numN_pos hz (by omega) (fun i hi => g3 i (by omega))
end Go.Proofs.YtbidbjgklonbpaaDoor.Mine
