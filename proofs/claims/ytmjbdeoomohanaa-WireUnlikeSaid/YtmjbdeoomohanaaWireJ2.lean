/- wire: what holds ahead of each round of blocks. -/
import Derived.Test.YtmjbdeoomohanaaWireJ
import Derived.Test.YtmjbdeoomohanaaWireI2
set_option linter.unusedSimpArgs false
set_option linter.unusedVariables false
namespace Go.Proofs.Ytmjbdeoomohanaa.Mine
open Go.RowKit Go.Maps Go.Proofs.YtmjbdeoomohanaaW.PrintWords Go.Proofs.YtmjbdeoomohanaaW.PrintLast Go.Proofs.YtmjbdeoomohanaaW.PrintMore Go.Proofs.Ytmjbdeoomohanaa.PWirePacks Go.Proofs.Ytmjbdeoomohanaa.Turn
variable {lo : Nat}

abbrev kB := Kd.slice 5 (Kd.int .u8)

theorem prep_step {D : List (List Int)} {S S2 : St} {L : List (List Int)} {k : Nat} {r : List Int} (hk : k < L.length) (hs : step S L[k] 128 = .ok (r, S2)) : prep D (rowS S (L.drop k)) = prep (D ++ [r]) (rowS S2 (L.drop (k + 1))) := by
  rw [List.drop_eq_getElem_cons hk]
  simp only [rowS, hs]
  cases rowS S2 (L.drop (k + 1)) with
  | error e => rfl
  | ok x =>
    obtain ⟨rs, S3⟩ := x
    simp [prep]
theorem prep_wrong {D : List (List Int)} {S : St} {L : List (List Int)} {k : Nat} {e : Int} (hk : k < L.length) (hs : step S L[k] 128 = .error e) : prep D (rowS S (L.drop k)) = .error e := by
  rw [List.drop_eq_getElem_cons hk]
  simp only [rowS, hs, prep]

/-- Ahead of round k. -/
structure RelB (lo : Nat) (w : World) (base b g hh n : Nat) (G : Nat → Prop) (m : Msg) (N : Nat) (X : Except Int (List (List Int) × St)) (L : List (List Int)) (k : Nat) (wr : World) (D : List (List Int)) (S : St) (Gk : Nat → Prop) : Prop where
  len : D.length = k
  spec : X = prep D (rowS S (L.drop k))
  ok : OkT (N + 128 * k) S
  own : ∀ q, Gk q → G q ∨ w.heap.size ≤ q
  turn : Turned G w wr
  cod : Cod wr base Gk b S
  msg : MsgAt lo wr g (fun q => Gk q ∨ q = hh) m
  row : Kd.N kB 24 wr base (fun k => ¬ Gk k ∧ Off lo g k) (.slice (some ⟨hh, 0, none⟩) n n) (D ++ L.drop k)
  new : w.heap.size ≤ hh ∧ hh < wr.heap.size ∧ base ≤ hh

theorem RelB.elem {w : World} {base b g hh n : Nat} {G : Nat → Prop} {m : Msg} {N : Nat} {X : Except Int (List (List Int) × St)} {L : List (List Int)} {k : Nat} {wr : World} {D : List (List Int)} {S : St} {Gk : Nat → Prop} (h : RelB lo w base b g hh n G m N X L k wr D S Gk) (hL : L.length = n) (hk : k < n) :
    ∃ A c, wr.cell? ⟨hh, k, none⟩ = some (.slice A (L[k]'(by omega)).length c) ∧ (L[k]'(by omega)).length ≤ c ∧ Kd.F (Kd.int .u8) wr (fun q => ¬ Gk q ∧ (Off lo g q ∧ q ≠ hh)) A (L[k]'(by omega)).length (L[k]'(by omega)) := by
  obtain ⟨c, hc1, hc2, hc3, hc4⟩ := Kd.N_elem h.row [] (k : Int) (by omega) (by omega)
  have hx : (D ++ L.drop k).getD ((k : Int)).toNat [] = L[k]'(by omega) := by
    rw [Int.toNat_natCast, List.getD_eq_getElem?_getD, List.getElem?_append_right (by rw [h.len]; exact Nat.le_refl _), h.len, Nat.sub_self, List.getElem?_drop, Nat.add_zero, List.getElem?_eq_getElem (by omega)]
    rfl
  rw [hx] at hc2
  obtain ⟨A, c', hce, hl, hF⟩ := Kd.FK_slice_open hc2
  have := hc3 0 (.slice A (L[k]'(by omega)).length c') (by rw [hce]; rfl)
  refine ⟨A, c', ?_, hl, Kd.F_mono hF (fun q hq => ⟨hq.1.1, hq.1.2, hq.2⟩)⟩
  rw [Int.toNat_natCast] at this
  have e : k * Kd.sz kB + 0 = k := Nat.mul_one k
  rwa [e] at this
theorem RelB.next {w : World} {base b g hh n : Nat} {G : Nat → Prop} {m : Msg} {N : Nat} {X : Except Int (List (List Int) × St)} {L : List (List Int)} {k : Nat} {wr : World} {D : List (List Int)} {S : St} {Gk : Nat → Prop} (h : RelB lo w base b g hh n G m N X L k wr D S Gk) (hL : L.length = n) (hk : k < n) (hg : ¬ Gk g) (hgl : g < wr.heap.size) (hne : hh ≠ g)
    {w5 : World} {G2 : Nat → Prop} {r : List Int} {S2 : St} {A3 : Option Addr} {c3 : Nat} (hs : step S (L[k]'(by omega)) 128 = .ok (r, S2)) (h128 : (L[k]'(by omega)).length ≤ 128) (hG2 : ∀ q, G2 q → Gk q ∨ wr.heap.size ≤ q) (hT : Turned Gk wr w5) (hc3 : r.length ≤ c3)
    (hF : Kd.F (Kd.int .u8) w5 (fun q => ¬ G2 q ∧ ((Off lo g q ∧ q ≠ hh) ∨ wr.heap.size ≤ q)) A3 r.length r) (hC : Cod w5 base G2 b S2) :
    RelB lo w base b g hh n G m N X L (k + 1) (w5.setCell ⟨hh, k, none⟩ (.slice A3 r.length c3)) (D ++ [r]) S2 G2 ∧ (∃ v, w5.cell? ⟨hh, k, none⟩ = some v) ∧ w5.frozen? ⟨hh, k, none⟩ = false := by
  have hrow := N_turn hgl h.row hT hG2
  obtain ⟨c, hc1, hc2, hcc, hc4⟩ := Kd.N_elem hrow [] (k : Int) (by omega) (by omega)
  have hok := hrow.1 hh (by simp [Value.ownBlock])
  have hnew := h.new
  have hs5 : (w5.setCell ⟨hh, k, none⟩ (.slice A3 r.length c3)).heap.size = w5.heap.size := by simp [World.setCell]
  have e0 : (k : Int).toNat * Kd.sz kB + 0 = k := by rw [Int.toNat_natCast]; exact Nat.mul_one k
  have hseg := Kd.N_seg hrow (k : Int) (by omega) (by omega) (c := c) (seg := [.slice A3 r.length c3]) (j := 0) hc1 hcc (Nat.le_refl 1) (x' := r) (okp := fun q => ¬ G2 q ∧ (Off lo g q ∧ q ≠ hh))
    (by
      have hcl : c.length = 1 := hc1
      rw [List.take_zero, List.nil_append, List.drop_eq_nil_of_le (by rw [hcl]; exact Nat.le_refl 1), List.append_nil]
      exact Kd.FK_slice_mk hc3 (Kd.F_mono hF (fun q hq => ⟨hq.1, hq.2.elim id (fun h => by omega)⟩)))
    (fun q hq => ⟨⟨hq.1, hq.2.1⟩, hq.2.2⟩)
  refine ⟨⟨?_, ?_, ?_, ?_, ?_, ?_, ?_, ?_, ?_⟩, ?_, ?_⟩
  · rw [List.length_append, h.len]; rfl
  · rw [h.spec, prep_step (by omega) hs]
  · exact (h.ok.step hs).mono (by omega)
  · exact fun q hq => (hG2 q hq).elim (h.own q) (fun h2 => .inr (Nat.le_trans h.turn.size h2))
  · exact (h.turn.then_ hT h.own).setCell (.inr hnew.1) _
  · exact hC.step (X := fun q => q = hh) ((Turned.refl (fun q => q = hh) w5).setCell (.inl rfl) _) (fun q hq => by rw [hq]; exact ⟨hok.1, hnew.2.2⟩)
  · have hT5 : Turned (fun q => Gk q ∨ q = hh) wr (w5.setCell ⟨hh, k, none⟩ (.slice A3 r.length c3)) := ((Turned.refl _ wr).then_ hT (fun _ h => .inl (.inl h))).setCell (.inl (.inr rfl)) _
    exact h.msg.turn (fun hq => hq.elim hg (fun e => hne e.symm)) hT5 (fun q hq => hq.elim (fun h => (hG2 q h).imp .inl id) (fun h => .inl (.inr h)))
  · have h1 := hseg.1
    rw [e0, Int.toNat_natCast] at h1
    have e1 : (D ++ L.drop k).set k r = (D ++ [r]) ++ L.drop (k + 1) := by
      rw [List.set_append, if_neg (by rw [h.len]; exact Nat.lt_irrefl _), h.len, Nat.sub_self, List.drop_eq_getElem_cons (by omega), List.set_cons_zero, List.append_assoc]
      rfl
    rw [e1] at h1
    exact h1
  · rw [hs5]
    exact ⟨hnew.1, Nat.lt_of_lt_of_le hnew.2.1 hT.size, hnew.2.2⟩
  · have hcl : c.length = 1 := hc1
    have := hcc 0 (c[0]'(by omega)) (List.getElem?_eq_getElem (by omega))
    rw [e0] at this
    exact ⟨_, this⟩
  · have := hc4 0
    rwa [e0] at this
end Go.Proofs.Ytmjbdeoomohanaa.Mine
