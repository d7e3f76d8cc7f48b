/- wire: what holds within a round of log. -/
import Derived.Test.YtmjbdeoomohanaaWireK
set_option linter.unusedSimpArgs false
set_option linter.unusedVariables false
namespace Go.Proofs.Ytmjbdeoomohanaa.Mine
open Go.RowKit Go.Maps Go.Proofs.YtmjbdeoomohanaaW.PrintWords Go.Proofs.YtmjbdeoomohanaaW.PrintLast Go.Proofs.YtmjbdeoomohanaaW.PrintMore Go.Proofs.Ytmjbdeoomohanaa.PWirePacks Go.Proofs.Ytmjbdeoomohanaa.Turn
variable {lo : Nat}

def entS (S : St) (x : S44) : Except Int (S44 × St) :=
  match numS S x.f0 8 with
  | .error e => .error e
  | .ok (a, S1) => match numS S1 x.f1 8 with
    | .error e => .error e
    | .ok (c, S2) => match textS S2 x.f2 with
      | .error e => .error e
      | .ok (r, S3) => .ok (⟨a, c, r⟩, S3)
def rowL (S : St) : List S44 → Except Int (List S44 × St)
  | [] => .ok ([], S)
  | x :: xs => match entS S x with
    | .error e => .error e
    | .ok (r, S') => match rowL S' xs with
      | .error e => .error e
      | .ok (rs, S'') => .ok (r :: rs, S'')
def logS (S : St) (l : List S44) : Except Int (List S44 × St) :=
  match countS S l.length 1 64 2 with
  | .error x => .error x
  | .ok (n, S1) => rowL S1 (pad l n.toNat z44)

/-- Within a round: the row holds xs. -/
structure RelR (lo : Nat) (w : World) (base b g hh n : Nat) (G : Nat → Prop) (m : Msg) (wr : World) (xs : List S44) (S : St) (Gk : Nat → Prop) : Prop where
  own : ∀ q, Gk q → G q ∨ w.heap.size ≤ q
  turn : Turned G w wr
  cod : Cod wr base Gk b S
  msg : MsgAt lo wr g (fun q => Gk q ∨ q = hh) m
  row : Kd.N k44 44 wr base (fun k => ¬ Gk k ∧ Off lo g k) (.slice (some ⟨hh, 0, none⟩) n n) xs
  new : w.heap.size ≤ hh ∧ hh < wr.heap.size ∧ base ≤ hh
  apart : ¬ Gk g ∧ g < wr.heap.size ∧ hh ≠ g

theorem RelR.turned {w : World} {base b g hh n : Nat} {G : Nat → Prop} {m : Msg} {wr : World} {xs : List S44} {S : St} {Gk : Nat → Prop} (h : RelR lo w base b g hh n G m wr xs S Gk) {w5 : World} {G2 : Nat → Prop} {S2 : St} (hG2 : ∀ q, G2 q → Gk q ∨ wr.heap.size ≤ q) (hT : Turned Gk wr w5) (hC : Cod w5 base G2 b S2) : RelR lo w base b g hh n G m w5 xs S2 G2 := by
  obtain ⟨h1, h2, h3, h4, h5, h6, h7⟩ := h
  refine ⟨fun q hq => (hG2 q hq).elim (h1 q) (fun h => .inr (Nat.le_trans h2.size h)), h2.then_ hT h1, hC, ?_, N_turn h7.2.1 h5 hT hG2, ⟨h6.1, Nat.lt_of_lt_of_le h6.2.1 hT.size, h6.2.2⟩, ⟨fun h => (hG2 g h).elim h7.1 (fun h => by have := h7.2.1; omega), Nat.lt_of_lt_of_le h7.2.1 hT.size, h7.2.2⟩⟩
  exact h4.turn (fun hq => hq.elim h7.1 (fun e => h7.2.2 e.symm)) ((Turned.refl _ wr).then_ hT (fun _ h => .inl (.inl h))) (fun q hq => hq.elim (fun h => (hG2 q h).imp .inl id) (fun h => .inl (.inr h)))

theorem RelR.below {w : World} {base b g hh n : Nat} {G : Nat → Prop} {m : Msg} {wr : World} {xs : List S44} {S : St} {Gk : Nat → Prop} (h : RelR lo w base b g hh n G m wr xs S Gk) {w5 : World} (hb : Below wr.heap.size wr w5) : RelR lo w base b g hh n G m w5 xs S Gk :=
  h.turned (fun _ hq => .inl hq) (Turned.of_below hb _) (h.cod.below hb)
theorem FK44_open {W : World} {ok : Nat → Prop} {x : S44} {cs : List Value} (h : Kd.FK k44 W ok x cs) : ∃ A c, cs = [.int .u64 x.f0, .int .u64 x.f1, .slice A x.f2.length c] ∧ x.f2.length ≤ c ∧ Kd.F (Kd.int .u8) W ok A x.f2.length x.f2 := by
  obtain ⟨A, c, rfl, hl, _⟩ := k44_open (Kd.FK_now h)
  refine ⟨A, c, rfl, hl, fun W' hW => ?_⟩
  obtain ⟨A', c', e, _, hC⟩ := k44_open (h W' hW)
  simp only [List.cons.injEq, Value.slice.injEq, true_and, and_true] at e
  obtain ⟨rfl, rfl⟩ := e
  exact hC
theorem FK44_mk {W : World} {ok : Nat → Prop} {x : S44} {A : Option Addr} {c : Nat} (hl : x.f2.length ≤ c) (hF : Kd.F (Kd.int .u8) W ok A x.f2.length x.f2) : Kd.FK k44 W ok x [.int .u64 x.f0, .int .u64 x.f1, .slice A x.f2.length c] := fun W' hW => k44_mk W' x hl (hF W' hW)

theorem RelR.elem {w : World} {base b g hh n : Nat} {G : Nat → Prop} {m : Msg} {wr : World} {xs : List S44} {S : St} {Gk : Nat → Prop} (h : RelR lo w base b g hh n G m wr xs S Gk) {k : Nat} (hk : k < n) :
    ∃ A c, (xs.getD k z44).f2.length ≤ c ∧ Kd.F (Kd.int .u8) wr (fun q => ¬ Gk q ∧ (Off lo g q ∧ q ≠ hh)) A (xs.getD k z44).f2.length (xs.getD k z44).f2 ∧
      (∀ j u, ([.int .u64 (xs.getD k z44).f0, .int .u64 (xs.getD k z44).f1, .slice A (xs.getD k z44).f2.length c] : List Value)[j]? = some u → wr.cell? ⟨hh, k * 3 + j, none⟩ = some u) ∧ ∀ j, wr.frozen? ⟨hh, k * 3 + j, none⟩ = false := by
  obtain ⟨c, hc1, hc2, hc3, hc4⟩ := Kd.N_elem h.row z44 (k : Int) (by omega) (by omega)
  rw [Int.toNat_natCast] at hc2 hc3 hc4
  obtain ⟨A, c', hce, hl, hF⟩ := FK44_open hc2
  subst hce
  exact ⟨A, c', hl, Kd.F_mono hF (fun q hq => ⟨hq.1.1, hq.1.2, hq.2⟩), hc3, hc4⟩

theorem RelR.stored {w : World} {base b g hh n : Nat} {G : Nat → Prop} {m : Msg} {wr : World} {xs : List S44} {S : St} {Gk : Nat → Prop} (h : RelR lo w base b g hh n G m wr xs S Gk) {k j : Nat} (hk : k < n) (hj : j < 3) (u : Value) (c : List Value) (x' : S44) (hcl : c.length = 3) (hcc : ∀ j u, c[j]? = some u → wr.cell? ⟨hh, k * 3 + j, none⟩ = some u)
    (hM : Kd.FK k44 wr (fun q => ¬ Gk q ∧ (Off lo g q ∧ q ≠ hh)) x' (c.take j ++ [u] ++ c.drop (j + 1))) : RelR lo w base b g hh n G m (wr.setCell ⟨hh, k * 3 + j, none⟩ u) (xs.set k x') S Gk := by
  have hseg := (Kd.N_seg h.row (k : Int) (by omega) (by omega) (c := c) (seg := [u]) (j := j) hcl (by rw [Int.toNat_natCast]; exact hcc) (show j + 1 ≤ 3 by omega) hM (fun q hq => ⟨⟨hq.1, hq.2.1⟩, hq.2.2⟩)).1
  rw [Int.toNat_natCast] at hseg
  obtain ⟨h1, h2, h3, h4, h5, h6, h7⟩ := h
  have hok := h5.1 hh (by simp [Value.ownBlock])
  have hs : (wr.setCell ⟨hh, k * 3 + j, none⟩ u).heap.size = wr.heap.size := by simp [World.setCell]
  refine ⟨h1, h2.setCell (.inr h6.1) _, h3.step (X := fun q => q = hh) ((Turned.refl (fun q => q = hh) wr).setCell (.inl rfl) _) (fun q hq => by rw [hq]; exact ⟨hok.1, h6.2.2⟩), ?_, hseg, by rw [hs]; exact h6, by rw [hs]; exact h7⟩
  exact h4.turn (fun hq => hq.elim h7.1 (fun e => h7.2.2 e.symm)) ((Turned.refl (fun q => Gk q ∨ q = hh) wr).setCell (.inl (.inr rfl)) u) (fun q hq => .inl hq)
end Go.Proofs.Ytmjbdeoomohanaa.Mine
