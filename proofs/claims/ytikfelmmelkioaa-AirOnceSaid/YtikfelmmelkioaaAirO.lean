/- Toward AirOnce: the contracts whatever the index, the two rows beside the air, the plain law. -/
import Derived.Test.YtikfelmmelkioaaAirW
set_option linter.unusedSimpArgs false
set_option linter.unusedVariables false
namespace Go.Proofs.Ytikfelmmelkioaa.Mine
open Go.RowKit Go.Maps Go.Proofs.YtikfelmmelkioaaW.PrintWords Go.Proofs.YtikfelmmelkioaaW.PrintLast Go.Proofs.YtikfelmmelkioaaW.PrintMore Go.Proofs.Ytikfelmmelkioaa.PAirOnce Go.Proofs.Ytikfelmmelkioaa.Turn

def inR (L : List S24) (i : Int) : Bool := decide (0 ≤ i) && decide (i < L.length)
def rdAt (L : List S24) (i : Int) : S24 := if inR L i then rd_T24 L i else ⟨0, 0, []⟩
def dropAt (L : List S24) (i : Int) : List S24 := if inR L i then L.eraseIdx i.toNat else L
def endAt (L : List S24) (i : Int) : List S24 := if inR L i then toEnd L i.toNat else L
def twoAt (L : List S24) (i : Int) : List S24 := if inR L i then L ++ [rd_T24 L i] else L
theorem in_of {L : List S24} {i : Int} (h : inR L i = true) : 0 ≤ i ∧ i < L.length := by
  simp only [inR, Bool.and_eq_true, decide_eq_true_eq] at h
  exact h
theorem out_of {L : List S24} {i : Int} (h : inR L i = false) : i < 0 ∨ (L.length : Int) ≤ i := by
  simp only [inR, Bool.and_eq_false_iff, decide_eq_false_iff_not] at h
  omega

/-- The cells of a datagram whose body lies in blocks of P. -/
def Held (w : World) (P : Nat → Prop) (x : S24) (A : Option Addr) (c : Nat) : Prop := Kd.FK k24 w P x [.int .i64 x.f0, .int .i64 x.f1, .slice A x.f2.length c]
theorem held_of {w : World} {lo : Nat} {x : S24} {A : Option Addr} {c : Nat} (h : Kd.R (Kd.int .u8) 5 w lo (fun _ => True) (.slice A x.f2.length c) x.f2) : Held w (fun k => lo ≤ k ∧ k < w.heap.size) x A c :=
  fun W' hW => k24_mk W' x (Kd.R_reads' h).2.1 (Kd.R_F (Kd.R_bound h) W' (fun k hk hlt => hW k ⟨hk.2.1, hk.2.2.1⟩ hlt))
theorem held_zero (w : World) (P : Nat → Prop) : Held w P ⟨0, 0, []⟩ none 0 := fun W' _ => k24_mk W' ⟨0, 0, []⟩ (Nat.le_refl 0) (Kd.C_nil _ _)
theorem Held.mono {w : World} {P Q : Nat → Prop} {x : S24} {A : Option Addr} {c : Nat} (h : Held w P x A c) (hq : ∀ k, P k → Q k) : Held w Q x A c := Foot.mono h hq
theorem Held.step {w w' : World} {P : Nat → Prop} {x : S24} {A : Option Addr} {c : Nat} (h : Held w P x A c) (hm : ∀ k, P k → k < w.heap.size → w'.heap[k]? = w.heap[k]?) : Held w' P x A c := Foot.step h hm
theorem Held.reads {w : World} {P : Nat → Prop} {x : S24} {A : Option Addr} {c : Nat} (h : Held w P x A c) : x.f2.length ≤ c ∧ Kd.C (Kd.int .u8) w A x.f2.length x.f2 := by
  obtain ⟨A2, c2, e, h1, h2⟩ := k24_open (Foot.now h)
  simp only [List.cons.injEq, Value.slice.injEq, true_and, and_true] at e
  obtain ⟨rfl, rfl⟩ := e
  exact ⟨h1, h2⟩

section
variable {w : World} {F : Nat → Prop} {b : Nat} {n : Int} {L : List S24} {D : DataW Unit} {M : Nat}
theorem at_all (h : AirRep w F b n L D M) (i : Int) (hs : ∀ x ∈ L, x.f2.length ≤ 140737488355328) (x : S24) (r : Bool) (hx : rdAt L i = x) (hr : inR L i = r) :
    Calls Try.prog 6 #[.pointer (some ⟨b, 0, none⟩), .int .i64 i] w fun e w' => ∃ A c, e = .returned (.tuple #[.agg #[.int .i64 x.f0, .int .i64 x.f1, .slice A x.f2.length c], .bool r]) ∧ Held w' (fun k => w.heap.size ≤ k ∧ k < w'.heap.size) x A c ∧ Below w.heap.size w w' := by
  cases r with
  | true =>
    obtain ⟨h0, h1⟩ := in_of hr
    rw [rdAt, if_pos hr] at hx
    refine (at_some h i h0 h1 hs).mono ?_
    rw [hx]
    rintro e w' ⟨v, rfl, h2, h3⟩
    obtain ⟨A, c, rfl, _, _⟩ := Kd.R_reads h2
    exact ⟨A, c, rfl, held_of h2, h3⟩
  | false =>
    rw [rdAt, if_neg (by rw [hr]; simp)] at hx
    subst hx
    refine (at_none h i (out_of hr)).mono ?_
    rintro e w' ⟨rfl, h3⟩
    exact ⟨none, 0, rfl, held_zero _ _, h3⟩
theorem carry_all (h : AirRep w F b n L D M) (i : Int) (hs : ∀ x ∈ L, x.f2.length ≤ 140737488355328) (x : S24) (r : Bool) (hx : rdAt L i = x) (hr : inR L i = r) :
    Calls Try.prog 7 #[.pointer (some ⟨b, 0, none⟩), .int .i64 i] w fun e w' => ∃ A c, e = .returned (.tuple #[.agg #[.int .i64 x.f0, .int .i64 x.f1, .slice A x.f2.length c], .bool r]) ∧ Held w' (fun k => w.heap.size ≤ k ∧ k < w'.heap.size) x A c ∧ AirRep w' F b n (dropAt L i) D M ∧ Turned F w w' := by
  cases r with
  | true =>
    obtain ⟨h0, h1⟩ := in_of hr
    rw [rdAt, if_pos hr] at hx
    obtain ⟨j, rfl⟩ : ∃ j : Nat, i = j := ⟨i.toNat, by omega⟩
    refine (carry_ok h j (by omega) hs).mono ?_
    rw [hx]
    rintro e w' ⟨A, c, rfl, h2, h3, h4⟩
    rw [dropAt, if_pos hr]
    exact ⟨A, c, rfl, held_of h2, h3, h4⟩
  | false =>
    rw [rdAt, if_neg (by rw [hr]; simp)] at hx
    subst hx
    refine (carry_none h i (out_of hr)).mono ?_
    rintro e w' ⟨rfl, h3⟩
    rw [dropAt, if_neg (by rw [hr]; simp)]
    exact ⟨none, 0, rfl, held_zero _ _, h.below h3, Turned.of_below h3 _⟩
theorem lose_all (h : AirRep w F b n L D M) (i : Int) (r : Bool) (hr : inR L i = r) :
    Calls Try.prog 11 #[.pointer (some ⟨b, 0, none⟩), .int .i64 i] w fun e w' => e = .returned (.bool r) ∧ AirRep w' F b n (dropAt L i) D M ∧ Turned F w w' := by
  cases r with
  | true =>
    obtain ⟨h0, h1⟩ := in_of hr
    obtain ⟨j, rfl⟩ : ∃ j : Nat, i = j := ⟨i.toNat, by omega⟩
    rw [dropAt, if_pos hr]
    exact lose_ok h j (by omega)
  | false =>
    rw [dropAt, if_neg (by rw [hr]; simp)]
    refine (lose_none h i (out_of hr)).mono ?_
    rintro e w' ⟨rfl, rfl⟩
    exact ⟨rfl, h, Turned.refl _ _⟩
theorem hold_all (h : AirRep w F b n L D M) (i : Int) (r : Bool) (hr : inR L i = r) :
    Calls Try.prog 13 #[.pointer (some ⟨b, 0, none⟩), .int .i64 i] w fun e w' => e = .returned (.bool r) ∧ AirRep w' F b n (endAt L i) D M ∧ Turned F w w' := by
  cases r with
  | true =>
    obtain ⟨h0, h1⟩ := in_of hr
    obtain ⟨j, rfl⟩ : ∃ j : Nat, i = j := ⟨i.toNat, by omega⟩
    rw [endAt, if_pos hr]
    exact hold_ok h j (by omega)
  | false =>
    rw [endAt, if_neg (by rw [hr]; simp)]
    refine (hold_none h i (out_of hr)).mono ?_
    rintro e w' ⟨rfl, rfl⟩
    exact ⟨rfl, h, Turned.refl _ _⟩
theorem double_all (h : AirRep w F b n L D M) (i : Int) (hs : ∀ x ∈ L, x.f2.length ≤ 140737488355328) (hL : L.length < 4096) (r : Bool) (hr : inR L i = r) :
    Calls Try.prog 12 #[.pointer (some ⟨b, 0, none⟩), .int .i64 i] w fun e w' => ∃ F', e = .returned (.bool r) ∧ AirRep w' F' b n (twoAt L i) D M ∧ Turned F w w' ∧ ∀ k, F' k → F k ∨ (w.heap.size ≤ k ∧ k < w'.heap.size) := by
  cases r with
  | true =>
    obtain ⟨h0, h1⟩ := in_of hr
    rw [twoAt, if_pos hr]
    exact (double_ok h i h0 h1 hs hL).mono fun e w' ⟨h1, h2, h3⟩ => ⟨_, h1, h2, h3, fun _ hk => hk⟩
  | false =>
    rw [twoAt, if_neg (by rw [hr]; simp)]
    exact (double_none h i (out_of hr)).mono fun e w' ⟨h1, h2⟩ => ⟨F, h1, h.below h2, Turned.of_below h2 _, fun _ hk => .inl hk⟩
def sent (n : Int) (L : List S24) (x : S24) (off : Bool) : List S24 := if (bad n x.f0 || bad n x.f1) || off then L else L ++ [x]
def sendNo (n : Int) (x : S24) : Int := if (bad n x.f0 || bad n x.f1) then 1 else 0
theorem send_all (h : AirRep w F b n L D M) (x : S24) (A : Option Addr) (c : Nat) (hl : x.f2.length ≤ 65536) (hp : (Lit.int .i64 x.f0).wf = true) (hq : (Lit.int .i64 x.f1).wf = true) (off : Bool) (hh : Maps.has D (wayLit x.f0 x.f1) = off) (hL : L.length < 4096) (hr : Kd.C (Kd.int .u8) w A x.f2.length x.f2) :
    Calls Try.prog 8 #[.pointer (some ⟨b, 0, none⟩), .agg #[.int .i64 x.f0, .int .i64 x.f1, .slice A x.f2.length c]] w fun e w' => ∃ F', e = .returned (.int .i64 (sendNo n x)) ∧ AirRep w' F' b n (sent n L x off) D M ∧ Turned F w w' ∧ ∀ k, F' k → F k ∨ (w.heap.size ≤ k ∧ k < w'.heap.size) := by
  cases hb : (bad n x.f0 || bad n x.f1) with
  | true =>
    rw [sendNo, sent, hb]
    exact (send_bad h _ _ A _ c hb).mono fun e w' ⟨h1, h2⟩ => ⟨F, h1, h.below h2, Turned.of_below h2 _, fun _ hk => .inl hk⟩
  | false =>
    rw [sendNo, sent, hb]
    cases off with
    | true => exact (send_cut h _ _ A _ c hb (by omega) hp hq hh).mono fun e w' ⟨h1, h2⟩ => ⟨F, h1, h.below h2, Turned.of_below h2 _, fun _ hk => .inl hk⟩
    | false => exact send_step h x.f0 x.f1 A x.f2 c hb (by omega) hp hq hh hL hr
theorem cut_all (h : AirRep w F b n L D M) (p q : Int) (hp : (Lit.int .i64 p).wf = true) (hq : (Lit.int .i64 q).wf = true) (hM : M < 9223372036854775807) (off : Bool) :
    Calls Try.prog 14 #[.pointer (some ⟨b, 0, none⟩), .int .i64 p, .int .i64 q, .bool off] w fun e w' => ∃ r D' M', e = .returned (.int .i64 r) ∧ AirRep w' F b n L D' M' ∧ M' ≤ M + 1 ∧ Turned F w w' := by
  cases hb : (bad n p || bad n q) with
  | true => exact (cut_bad h p q off hb).mono fun e w' ⟨h1, h2⟩ => ⟨_, _, _, h1, h.below h2, by omega, Turned.of_below h2 _⟩
  | false =>
    cases off with
    | true => exact (cut_on h p q hp hq hM hb).mono fun e w' ⟨h1, h2, h3⟩ => ⟨_, _, _, h1, h2, by omega, h3⟩
    | false => exact (cut_off h p q hp hq hb).mono fun e w' ⟨h1, h2, h3⟩ => ⟨_, _, _, h1, h2, by omega, h3⟩
end

/-! ### memory -/
structure Mem (w0 w : World) (b : Nat) (vc vw : Value) (cm wn L : List S24) (F : Nat → Prop) (D : DataW Unit) (M : Nat) : Prop where
  air : AirRep w F b 4 L D M
  own : ∀ k, F k → w0.heap.size ≤ k
  bel : Below w0.heap.size w0 w
  came : Kd.N k24 24 w w0.heap.size (fun k => ¬ F k ∧ some k ≠ vw.ownBlock) vc cm
  went : Kd.N k24 24 w w0.heap.size (fun k => ¬ F k ∧ some k ≠ vc.ownBlock) vw wn
section
variable {w0 w w' : World} {b : Nat} {vc vw v1 : Value} {cm wn L L' : List S24} {F F' : Nat → Prop} {D D' : DataW Unit} {M M' : Nat} {p : S24}
theorem AirRep.lt {n : Int} (h : AirRep w F b n L D M) : ∀ k, F k → k < w.heap.size := by
  obtain ⟨v, bm, -, -, -, -, -, h6⟩ := h
  exact h6
theorem Mem.turn (h : Mem w0 w b vc vw cm wn L F D M) (ha : AirRep w' F' b 4 L' D' M') (ht : Turned F w w') (hf : ∀ k, F' k → F k ∨ (w.heap.size ≤ k ∧ k < w'.heap.size)) : Mem w0 w' b vc vw cm wn L' F' D' M' :=
  ⟨ha, fun k hk => (hf k hk).elim (h.own k) (fun hk => Nat.le_trans h.bel.size hk.1), below_turned h.bel ht h.bel.size h.own,
   Kd.N_mono (Kd.N_step (Kd.N_bound h.came) (fun k hk hlt => ht.block k hlt hk.1.1)) (fun k hk => ⟨fun hF => (hf k hF).elim hk.1.1 (fun h2 => by omega), hk.1.2⟩),
   Kd.N_mono (Kd.N_step (Kd.N_bound h.went) (fun k hk hlt => ht.block k hlt hk.1.1)) (fun k hk => ⟨fun hF => (hf k hF).elim hk.1.1 (fun h2 => by omega), hk.1.2⟩)⟩
theorem Mem.below (h : Mem w0 w b vc vw cm wn L F D M) (hb : Below w.heap.size w w') : Mem w0 w' b vc vw cm wn L F D M :=
  h.turn (h.air.below hb) (Turned.of_below hb F) (fun _ hk => .inl hk)
theorem Mem.cameApp (h : Mem w0 w b vc vw cm wn L F D M) (hN : Kd.N k24 24 w' w0.heap.size (fun k => ¬ F k ∧ some k ≠ vw.ownBlock) v1 (cm ++ [p])) (hB : Below w0.heap.size w0 w') (hg : w.grownBy w' vc.ownBlock) (hat : v1.ownBlock = vc.ownBlock ∨ ∃ b, v1.ownBlock = some b ∧ w.heap.size ≤ b) :
    Mem w0 w' b v1 vw (cm ++ [p]) wn L F D M :=
  ⟨h.air.step (S := fun k => vc.ownBlock = some k) ((Turned.refl _ w).grown hg (fun k hk => .inl hk)) (fun k hF hk => (h.came.1 k hk).1 hF), h.own, hB, hN,
   Kd.N_after h.went hg hat⟩
theorem Mem.wentApp (h : Mem w0 w b vc vw cm wn L F D M) (hN : Kd.N k24 24 w' w0.heap.size (fun k => ¬ F k ∧ some k ≠ vc.ownBlock) v1 (wn ++ [p])) (hB : Below w0.heap.size w0 w') (hg : w.grownBy w' vw.ownBlock) (hat : v1.ownBlock = vw.ownBlock ∨ ∃ b, v1.ownBlock = some b ∧ w.heap.size ≤ b) :
    Mem w0 w' b vc v1 cm (wn ++ [p]) L F D M :=
  ⟨h.air.step (S := fun k => vw.ownBlock = some k) ((Turned.refl _ w).grown hg (fun k hk => .inl hk)) (fun k hF hk => (h.went.1 k hk).1 hF), h.own, hB,
   Kd.N_after h.came hg hat, hN⟩
/-- Blocks apart from the air's and from the two rows'. -/
def Off (F : Nat → Prop) (vc vw : Value) (P : Nat → Prop) : Prop := ∀ k, P k → ¬ F k ∧ some k ≠ vc.ownBlock ∧ some k ≠ vw.ownBlock
theorem Mem.offNew (h : Mem w0 w b vc vw cm wn L F D M) (hi : Nat) : Off F vc vw (fun k => w.heap.size ≤ k ∧ k < hi) := fun k hk =>
  ⟨fun hF => by have := h.air.lt k hF; omega, fun e => by have := Kd.N_lt h.came k e.symm; omega, fun e => by have := Kd.N_lt h.went k e.symm; omega⟩
theorem Mem.offOld (h : Mem w0 w b vc vw cm wn L F D M) : Off F vc vw (fun k => k < w0.heap.size) := fun k hk =>
  ⟨fun hF => by have := h.own k hF; omega, fun e => by have := Kd.N_base h.came k e.symm; omega, fun e => by have := Kd.N_base h.went k e.symm; omega⟩
theorem Off.more {P : Nat → Prop} {N : Nat} (h : Off F vc vw P) (hP : ∀ k, P k → k < N) (hf : ∀ k, F' k → F k ∨ N ≤ k) : Off F' vc vw P := fun k hk =>
  ⟨fun hF => (hf k hF).elim (h k hk).1 (fun h2 => by have := hP k hk; omega), (h k hk).2⟩
end
end Go.Proofs.Ytikfelmmelkioaa.Mine
