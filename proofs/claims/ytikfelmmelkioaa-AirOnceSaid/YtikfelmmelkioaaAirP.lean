/- The plain law of AirOnce: what came is what went and what is still under way; Great; count. -/
import Derived.Test.YtikfelmmelkioaaAirO
set_option linter.unusedSimpArgs false
set_option linter.unusedVariables false
namespace Go.Proofs.Ytikfelmmelkioaa.Mine
open Go.RowKit Go.Maps Go.Proofs.YtikfelmmelkioaaW.PrintWords Go.Proofs.YtikfelmmelkioaaW.PrintLast Go.Proofs.YtikfelmmelkioaaW.PrintMore Go.Proofs.Ytikfelmmelkioaa.PAirOnce Go.Proofs.Ytikfelmmelkioaa.Turn

structure Plain (cm wn L : List S24) (k : Nat) : Prop where
  perm : (wn ++ L).Perm cm
  len : cm.length ≤ k
  small : ∀ x ∈ cm, x.f2.length ≤ 65536
theorem Plain.start : Plain [] [] [] 0 := ⟨List.Perm.refl _, by simp, by simp⟩
section
variable {cm wn L : List S24} {k : Nat} {i : Int} {x : S24}
theorem Plain.total (h : Plain cm wn L k) : wn.length + L.length = cm.length := by
  have := h.perm.length_eq
  simpa using this
theorem Plain.smallL (h : Plain cm wn L k) : ∀ x ∈ L, x.f2.length ≤ 140737488355328 := fun x hx => by
  have := h.small x (h.perm.mem_iff.1 (List.mem_append_right _ hx))
  omega
theorem Plain.more (h : Plain cm wn L k) : Plain cm wn L (k + 1) := ⟨h.perm, by have := h.len; omega, h.small⟩
theorem Plain.send (h : Plain cm wn L k) (hx : x.f2.length ≤ 65536) : Plain (cm ++ [x]) wn (L ++ [x]) (k + 1) := by
  refine ⟨?_, by have := h.len; simp; omega, fun y hy => ?_⟩
  · rw [← List.append_assoc]
    exact h.perm.append_right [x]
  · rcases List.mem_append.1 hy with hy | hy
    · exact h.small y hy
    · rw [List.mem_singleton.1 hy]; exact hx
theorem rd_in (h : inR L i = true) : ∃ hi : i.toNat < L.length, rd_T24 L i = L[i.toNat] := by
  obtain ⟨h0, h1⟩ := in_of h
  refine ⟨by omega, ?_⟩
  unfold rd_T24
  rw [List.getD_eq_getElem?_getD, List.getElem?_eq_getElem (by omega)]
  rfl
theorem out_perm (h : inR L i = true) : (rd_T24 L i :: L.eraseIdx i.toNat).Perm L := by
  obtain ⟨hi, e⟩ := rd_in h
  rw [e]
  rw [List.eraseIdx_eq_take_drop_succ]
  have h2 : L.take i.toNat ++ L[i.toNat] :: L.drop (i.toNat + 1) = L := by rw [List.getElem_cons_drop]; exact List.take_append_drop _ _
  exact (List.perm_middle.symm).trans (by rw [h2])
theorem Plain.drop (h : Plain cm wn L k) (hi : inR L i = true) (hx : rdAt L i = x) : Plain cm (wn ++ [x]) (dropAt L i) (k + 1) := by
  rw [rdAt, if_pos hi] at hx
  subst hx
  rw [dropAt, if_pos hi]
  refine ⟨?_, by have := h.len; omega, h.small⟩
  rw [List.append_assoc]
  exact ((out_perm hi).append_left wn).trans h.perm
theorem Plain.keep (h : Plain cm wn L k) (hi : inR L i = false) : Plain cm wn (dropAt L i) (k + 1) := by
  rw [dropAt, if_neg (by rw [hi]; simp)]
  exact h.more
theorem Plain.hold (h : Plain cm wn L k) : Plain cm wn (endAt L i) (k + 1) := by
  unfold endAt
  cases hi : inR L i with
  | false => exact h.more
  | true =>
    obtain ⟨hj, e⟩ := rd_in hi
    refine ⟨((List.Perm.append_left wn ?_)).trans h.perm, by have := h.len; omega, h.small⟩
    unfold toEnd
    rw [if_pos rfl, List.getElem?_eq_getElem hj, ← e]
    exact (List.perm_append_comm).trans (out_perm hi)
theorem Plain.two (h : Plain cm wn L k) (hi : inR L i = true) (hx : rdAt L i = x) : Plain (cm ++ [x]) wn (twoAt L i) (k + 1) := by
  rw [rdAt, if_pos hi] at hx
  subst hx
  rw [twoAt, if_pos hi]
  refine h.send (h.small _ (h.perm.mem_iff.1 (List.mem_append_right _ ?_)))
  obtain ⟨hj, e⟩ := rd_in hi
  rw [e]
  exact List.getElem_mem _
theorem Plain.twoNo (h : Plain cm wn L k) (hi : inR L i = false) : Plain cm wn (twoAt L i) (k + 1) := by
  rw [twoAt, if_neg (by rw [hi]; simp)]
  exact h.more
end

/-! ### Great -/
theorem great_from (l : List S26) (hb : ∀ x ∈ l, x.f2.f2.length ≤ 140737488351232) (m : Nat) : ∀ (i : Nat) (s : Int), i + m = 202 → 0 ≤ s → s ≤ i * 140737488351232 →
    ∃ k r, tabularylaw19_Great.l0 k l s i = some r ∧ (r = false → l.length ≤ 200 ∧ s ≤ 65536 ∧ ∀ j, i ≤ j → j < l.length → (rd_T26 l j).f2.f2.length ≤ 65536) := by
  induction m with
  | zero =>
    intro i s hm hs0 hs
    by_cases h1 : (i : Int) < (l.length : Int)
    · refine ⟨1, true, ?_, fun h => by cases h⟩
      unfold tabularylaw19_Great.l0
      rw [if_pos h1, if_neg (by omega), if_pos (by omega)]
    · by_cases h2 : (l.length : Int) > 200
      · refine ⟨1, true, ?_, fun h => by cases h⟩
        unfold tabularylaw19_Great.l0
        rw [if_neg h1, if_pos h2]
      · refine ⟨1, _, by unfold tabularylaw19_Great.l0; rw [if_neg h1, if_neg h2], fun h => ?_⟩
        have := of_decide_eq_false h
        exact ⟨by omega, by omega, fun j hj hjl => by omega⟩
  | succ m ih =>
    intro i s hm hs0 hs
    by_cases h1 : (i : Int) < (l.length : Int)
    · by_cases h2 : (i : Int) ≤ 200
      · have hx : (rd_T26 l i).f2.f2.length ≤ 140737488351232 := by
          refine hb _ ?_
          unfold rd_T26
          rw [List.getD_eq_getElem?_getD, Int.toNat_natCast, List.getElem?_eq_getElem (by omega)]
          exact List.getElem_mem _
        obtain ⟨k, r, h3, h4⟩ := ih (i + 1) (s + ((rd_T26 l i).f2.f2.length : Int)) (by omega) (by omega) (by omega)
        refine ⟨k + 1, r, ?_, fun h => ?_⟩
        · unfold tabularylaw19_Great.l0
          rw [if_pos h1, if_pos h2, if_pos (by omega)]
          rw [IntWalk.wrap64_in _ (by omega), IntWalk.wrap64_in _ (by omega)]
          exact h3
        · obtain ⟨h5, h6, h7⟩ := h4 h
          refine ⟨h5, by omega, fun j hj hjl => ?_⟩
          rcases Nat.lt_or_ge i j with h8 | h8
          · exact h7 j h8 hjl
          · obtain rfl : j = i := by omega
            omega
      · refine ⟨1, true, ?_, fun h => by cases h⟩
        unfold tabularylaw19_Great.l0
        rw [if_pos h1, if_neg h2, if_pos (by omega)]
    · by_cases h2 : (l.length : Int) > 200
      · refine ⟨1, true, ?_, fun h => by cases h⟩
        unfold tabularylaw19_Great.l0
        rw [if_neg h1, if_pos h2]
      · refine ⟨1, _, by unfold tabularylaw19_Great.l0; rw [if_neg h1, if_neg h2], fun h => ?_⟩
        have := of_decide_eq_false h
        exact ⟨by omega, by omega, fun j hj hjl => by omega⟩
theorem great_any (l : List S26) (hb : ∀ x ∈ l, x.f2.f2.length ≤ 140737488351232) : ∃ k r, tabularylaw19_Great.f k l = some r ∧ (r = false → l.length ≤ 200 ∧ ∀ j : Nat, j < l.length → (rd_T26 l j).f2.f2.length ≤ 65536) := by
  obtain ⟨k, r, h1, h2⟩ := great_from l hb 202 0 0 rfl (by omega) (by omega)
  exact ⟨k, r, h1, fun h => ⟨(h2 h).1, fun j hj => (h2 h).2.2 j (by omega) hj⟩⟩

/-! ### count -/
def alike (x y : S24) : Bool := if x.f0 = y.f0 then (if x.f1 = y.f1 then ((strOfNums x.f2).toList == (strOfNums y.f2).toList) else false) else false
theorem same_alike (x y : S24) : tabularyref19_Same.f x.f0 x.f1 x.f2 y.f0 y.f1 y.f2 = some (alike x y) := by
  unfold tabularyref19_Same.f alike
  split
  · split <;> rfl
  · rfl
theorem alike_self (x : S24) : alike x x = true := by simp [alike]
theorem count_from (l : List S24) (y : S24) (hl : l.length ≤ 4611686018427387904) : ∀ (m i c : Nat), i + m = l.length → c ≤ i →
    ∃ k, tabularylaw19_count.l0 k l c i y.f0 y.f1 y.f2 = some ((c + (l.drop i).countP (fun x => alike x y) : Nat) : Int)
  | 0, i, c, hm, hc => by
    refine ⟨1, ?_⟩
    unfold tabularylaw19_count.l0
    rw [if_neg (by omega), List.drop_eq_nil_of_le (by omega)]
    simp
  | m + 1, i, c, hm, hc => by
    have hi : i < l.length := by omega
    have hrd : rd_T24 l i = l[i] := by
      unfold rd_T24
      rw [List.getD_eq_getElem?_getD, Int.toNat_natCast, List.getElem?_eq_getElem hi]
      rfl
    rw [List.drop_eq_getElem_cons hi, List.countP_cons]
    cases ha : alike l[i] y with
    | true =>
      obtain ⟨k, hk⟩ := count_from l y hl m (i + 1) (c + 1) (by omega) (by omega)
      refine ⟨k + 1, ?_⟩
      unfold tabularylaw19_count.l0
      rw [if_pos (by omega), if_pos (by omega), hrd, same_alike, ha]
      simp only [Option.bind_some, if_true]
      rw [IntWalk.wrap64_in _ (by omega), IntWalk.wrap64_in _ (by omega)]
      refine hk.trans ?_
      congr 2
      omega
    | false =>
      obtain ⟨k, hk⟩ := count_from l y hl m (i + 1) c (by omega) (by omega)
      refine ⟨k + 1, ?_⟩
      unfold tabularylaw19_count.l0
      rw [if_pos (by omega), if_pos (by omega), hrd, same_alike, ha]
      simp only [Option.bind_some, if_true, Bool.false_eq_true, if_false]
      rw [IntWalk.wrap64_in _ (by omega)]
      refine hk.trans ?_
      simp
theorem count_is (l : List S24) (y : S24) (hl : l.length ≤ 4611686018427387904) : ∃ k, tabularylaw19_count.f k l y.f0 y.f1 y.f2 = some ((l.countP (fun x => alike x y) : Nat) : Int) := by
  obtain ⟨k, hk⟩ := count_from l y hl l.length 0 0 (by omega) (by omega)
  refine ⟨k, hk.trans ?_⟩
  simp

/-! ### small laws for the walk -/
section
variable {w0 w w' : World} {b : Nat} {vc vw : Value} {cm wn L : List S24} {F F' : Nat → Prop} {D : DataW Unit} {M k : Nat}
theorem Mem.freshC (h : Mem w0 w b vc vw cm wn L F D M) : ∀ k, w.heap.size ≤ k → ¬ F k ∧ some k ≠ vw.ownBlock := fun k hk =>
  ⟨fun hF => by have := h.air.lt k hF; omega, fun e => by have := Kd.N_lt h.went k e.symm; omega⟩
theorem Mem.freshW (h : Mem w0 w b vc vw cm wn L F D M) : ∀ k, w.heap.size ≤ k → ¬ F k ∧ some k ≠ vc.ownBlock := fun k hk =>
  ⟨fun hF => by have := h.air.lt k hF; omega, fun e => by have := Kd.N_lt h.came k e.symm; omega⟩
theorem Off.toC {P : Nat → Prop} (h : Off F vc vw P) : ∀ k, P k → (¬ F k ∧ some k ≠ vw.ownBlock) ∧ some k ≠ vc.ownBlock := fun k hk => ⟨⟨(h k hk).1, (h k hk).2.2⟩, (h k hk).2.1⟩
theorem Off.toW {P : Nat → Prop} (h : Off F vc vw P) : ∀ k, P k → (¬ F k ∧ some k ≠ vc.ownBlock) ∧ some k ≠ vw.ownBlock := fun k hk => ⟨⟨(h k hk).1, (h k hk).2.1⟩, (h k hk).2.2⟩
theorem Held.below {P : Nat → Prop} {x : S24} {A : Option Addr} {c : Nat} (h : Held w P x A c) (hb : Below w.heap.size w w') : Held w' P x A c := h.step (fun k _ hlt => hb.block k hlt)
theorem Held.turn {P : Nat → Prop} {x : S24} {A : Option Addr} {c : Nat} (h : Held w P x A c) (ht : Turned F w w') (ho : Off F vc vw P) : Held w' P x A c := h.step (fun k hk hlt => ht.block k hlt (ho k hk).1)
theorem Plain.fits (h : Plain cm wn L k) (hk : k ≤ 200) : L.length < 4096 ∧ (cm.length + 1) * 40 ≤ 140737488355328 ∧ (wn.length + 1) * 40 ≤ 140737488355328 := by
  have := h.total
  have := h.len
  omega
theorem count_row {W : World} {A : Option Addr} {c : Nat} {xs : List S24} {base : Nat} {ok : Nat → Prop} (h : Kd.N k24 24 W base ok (.slice A xs.length c) xs) (hl : xs.length ≤ 200) (y : S24) {P : Nat → Prop} {A2 : Option Addr} {c2 : Nat} (hy : Held W P y A2 c2) (n : Nat) (hn : xs.countP (fun x => alike x y) = n) :
    Calls Try.prog 19 #[.slice A xs.length c, .agg #[.int .i64 y.f0, .int .i64 y.f1, .slice A2 y.f2.length c2]] W fun e w' => e = .returned (.int .i64 n) ∧ Below W.heap.size W w' := by
  obtain ⟨k, hk⟩ := count_is xs y (by omega)
  rw [hn] at hk
  obtain ⟨_, h1, h2⟩ := Kd.N_reads' h
  exact tabularylaw19_count.calls k A c xs y.f0 y.f1 A2 c2 y.f2 n W h2 h1 hy.reads.2 hy.reads.1 hk
theorem came_at (h : Mem w0 w b vc vw cm wn L F D M) {A : Option Addr} {c : Nat} (hv : vc = .slice A cm.length c) (m : Nat) (hm : m < cm.length) :
    ∃ ad A2 c2, A = some ad ∧ (∀ W, Below w.heap.size w W → W.cell? (ad.add (m * 3)) = some (.int .i64 (rd_T24 cm m).f0) ∧ W.cell? ⟨(ad.add (m * 3)).block, (ad.add (m * 3)).off + 1, none⟩ = some (.int .i64 (rd_T24 cm m).f1) ∧ W.cell? ⟨(ad.add (m * 3)).block, (ad.add (m * 3)).off + 2, none⟩ = some (.slice A2 (rd_T24 cm m).f2.length c2) ∧ (ad.add (m * 3)).block < W.heap.size) ∧ Held w (fun k => k < w.heap.size) (rd_T24 cm m) A2 c2 := by
  have hN := h.came
  rw [hv] at hN
  obtain ⟨_, h1, h2⟩ := Kd.N_reads' hN
  obtain ⟨ad, A2, c2, e, y0, y1, y2, hl2, hC⟩ := at_T24 h2 (m : Int) (by omega) (by omega)
  rw [Int.toNat_natCast] at y0 y1 y2
  exact ⟨ad, A2, c2, e, fun W hb => ⟨(World.cell?_of_block (hb.block _ (World.block_lt_of_cell? w _ y0))).trans y0, (World.cell?_of_block (hb.block _ (World.block_lt_of_cell? w _ y1))).trans y1, (World.cell?_of_block (hb.block _ (World.block_lt_of_cell? w _ y2))).trans y2, Nat.lt_of_lt_of_le (World.block_lt_of_cell? w _ y0) hb.size⟩,
    fun W' hW => k24_mk W' _ hl2 (Kd.C_F (Kd.heap_int .u8) hC W' hW)⟩
theorem same_self (x : S24) : tabularyref19_Same.f x.f0 x.f1 x.f2 x.f0 x.f1 x.f2 = some true := by rw [same_alike, alike_self]
end
end Go.Proofs.Ytikfelmmelkioaa.Mine
