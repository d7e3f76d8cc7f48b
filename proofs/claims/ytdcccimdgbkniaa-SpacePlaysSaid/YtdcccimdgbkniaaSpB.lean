/- space: a row of runs known whole; append, copy and clear upon it. -/
import Derived.Test.YtdcccimdgbkniaaSpA
import Derived.Lib.Overlaps
import Derived.Laws.Externs
set_option linter.unusedSimpArgs false
set_option linter.unusedVariables false
namespace Go.Proofs.Ytdcccimdgbkniaa.Mine
open Go.RowKit Go.Maps Go.Proofs.YtdcccimdgbkniaaW.PrintWords Go.Proofs.YtdcccimdgbkniaaW.PrintLast Go.Proofs.YtdcccimdgbkniaaW.PrintMore Go.Proofs.Ytdcccimdgbkniaa.Turn

theorem sinfo50 : (Try.prog.info? 50).map (fun i => (i.zero, i.size, i.bytes)) = some (some (.agg #[.int .i64 0, .int .i64 0]), 2, 16) := by kernel_rfl

/-- A block whose cells are runs, all of them. -/
def Whole (w : World) (g : Nat) (L : List R2) : Prop := Blk w g (encR L).toArray 50
theorem Whole.read {w : World} {g : Nat} {L : List R2} (h : Whole w g L) (o : Nat) (L' : List R2) (hL : L' <+: L.drop o) : ∀ j u, (encR L')[j]? = some u → w.cell? ((⟨g, o * 2, none⟩ : Addr).add j) = some u := by
  intro j u hu
  obtain ⟨t, ht⟩ := hL
  have h1 : (encR (L.drop o))[j]? = some u := by rw [← ht, encR_append, List.getElem?_append_left (List.getElem?_eq_some_iff.1 hu).1]; exact hu
  rw [← encR_drop, List.getElem?_drop] at h1
  have h2 : (⟨g, o * 2, none⟩ : Addr).add j = ⟨g, o * 2 + j, none⟩ := by unfold Addr.add; split <;> simp_all
  rw [h2, h.cell]
  simpa using h1
theorem Whole.lt {w : World} {g : Nat} {L : List R2} (h : Whole w g L) : g < w.heap.size := Blk.lt h
/-- Runs laid over others, from place o on. -/
def putL (L : List R2) (o : Nat) (vs : List R2) : List R2 := L.take o ++ (vs ++ L.drop (o + vs.length))
theorem putL_length {L vs : List R2} {o : Nat} (h : o + vs.length ≤ L.length) : (putL L o vs).length = L.length := by simp [putL]; omega
theorem putL_enc (L : List R2) (o : Nat) (vs : List R2) : encR (putL L o vs) = (encR L).take (o * 2) ++ (encR vs ++ (encR L).drop (o * 2 + (encR vs).length)) := by
  rw [putL, encR_append, encR_append, encR_take, encR_length, ← Nat.add_mul, encR_drop]

/-- A row of runs: nothing, or a block known whole, the row's own runs first. -/
def Own (w : World) (base : Nat) (v : Value) (l : List R2) : Prop :=
  (v = .slice none 0 0 ∧ l = []) ∨ ∃ g L, v = .slice (some ⟨g, 0, none⟩) l.length L.length ∧ base ≤ g ∧ Whole w g L ∧ l <+: L ∧ L.length ≤ 9223372036854775807
section
variable {w w' : World} {base g : Nat} {v : Value} {l L : List R2}
theorem Own.mk (hb : base ≤ g) (h : Whole w g L) (hl : l <+: L) (hL : L.length ≤ 9223372036854775807) {n c : Nat} (hn : n = l.length) (hc : c = L.length) : Own w base (.slice (some ⟨g, 0, none⟩) n c) l := by
  subst hn hc
  exact .inr ⟨g, L, rfl, hb, h, hl, hL⟩
theorem Own.nil (w : World) (base : Nat) : Own w base (.slice none 0 0) [] := .inl ⟨rfl, rfl⟩
theorem Own.step (h : Own w base v l) (hk : ∀ k, v.ownBlock = some k → k < w.heap.size → w'.heap[k]? = w.heap[k]?) : Own w' base v l := by
  rcases h with ⟨rfl, rfl⟩ | ⟨g, L, rfl, h2, h3, h4, h5⟩
  · exact Own.nil _ _
  · exact Own.mk h2 ((hk g rfl h3.lt).trans h3) h4 h5 rfl rfl
theorem Own.below (h : Own w base v l) (hb : Below w.heap.size w w') : Own w' base v l := h.step (fun k _ hk => hb.block k hk)
theorem Own.turn {S : Nat → Prop} (h : Own w base v l) (ht : Turned S w w') (hS : ∀ k, v.ownBlock = some k → ¬ S k) : Own w' base v l := h.step (fun k hv hk => ht.block k hk (hS k hv))
theorem Own.lower {base' : Nat} (h : Own w base v l) (hb : base' ≤ base) : Own w base' v l := by
  rcases h with h | ⟨g, L, h1, h2, h3⟩
  · exact .inl h
  · exact .inr ⟨g, L, h1, Nat.le_trans hb h2, h3⟩
theorem Own.lt (h : Own w base v l) : ∀ k, v.ownBlock = some k → base ≤ k ∧ k < w.heap.size := by
  intro k hk
  rcases h with ⟨rfl, _⟩ | ⟨g, L, rfl, h2, h3, _⟩
  · cases hk
  · cases hk; exact ⟨h2, h3.lt⟩
theorem Own.typed (h : Own w base v l) : ∀ k, v.ownBlock = some k → ∃ cells, w.heap[k]? = some (.cells cells 50 (0, 0)) := by
  intro k hk
  rcases h with ⟨rfl, _⟩ | ⟨g, L, rfl, h2, h3, _⟩
  · cases hk
  · cases hk; exact ⟨_, h3⟩
theorem Own.ne (h : Own w base v l) {b t : Nat} {cs : Array Value} (hb : w.heap[b]? = some (.cells cs t (0, 0))) (ht : t ≠ 50) : v.ownBlock ≠ some b := by
  intro e
  obtain ⟨c, hc⟩ := h.typed b e
  rw [hb] at hc
  simp only [Option.some.injEq, Obj.cells.injEq] at hc
  exact ht hc.2.1
theorem Own.reads (h : Own w base v l) : Reads w v l := by
  rcases h with ⟨rfl, rfl⟩ | ⟨g, L, rfl, h2, h3, ⟨t, rfl⟩, h5⟩
  · exact ⟨none, 0, rfl, Nat.le_refl _, by omega, fun k hk => by simp at hk⟩
  · refine ⟨some ⟨g, 0, none⟩, _, rfl, by simp, by omega, fun k hk => ⟨g, 0, rfl, h3.lt, ?_, ?_⟩⟩
    · rw [Nat.zero_add, Blk.cell h3]
      have := (encR_get (l := l ++ t) (k := k) (by simp; omega)).1
      rw [List.getElem_append_left hk] at this
      simpa using this
    · rw [Nat.zero_add, Blk.cell h3]
      have := (encR_get (l := l ++ t) (k := k) (by simp; omega)).2
      rw [List.getElem_append_left hk] at this
      simpa using this
theorem Own.len (h : Own w base v l) : l.length ≤ 9223372036854775807 := by
  rcases h with ⟨_, rfl⟩ | ⟨g, L, _, _, _, h4, h5⟩
  · simp
  · exact Nat.le_trans h4.length_le h5
end

theorem put_row {w : World} {g : Nat} {L vs : List R2} {o : Nat} (h : Whole w g L) : Whole (w.setRow g ((encR L).take (o * 2) ++ (encR vs ++ (encR L).drop (o * 2 + (encR vs).length))).toArray) g (putL L o vs) := by
  unfold Whole
  rw [putL_enc]
  exact Blk.setRow h _
theorem row_turned (w : World) (g : Nat) (cs : Array Value) : Turned (fun k => k = g) w (w.setRow g cs) := (Turned.refl (fun k => k = g) w).setRow (.inl rfl) cs

theorem run_copy_cells_at (w : World) (dT sT ty elem : TypeId) (i : TypeInfo) (hu : Try.prog.underlying dT = some (.slice elem)) (hi : Try.prog.info? elem = some i) (g off dLen dCap : Nat) (ad : Addr) (sLen sCap : Nat) (cur : Array Value) (t : TypeId)
    (hg : w.heap[g]? = some (.cells cur t (0, 0))) (cs : List Value) (hn : cs.length = Nat.min sLen dLen * i.size) (hsrc : ∀ j v, cs[j]? = some v → w.cell? (ad.add j) = some v) (hfit : off + cs.length ≤ cur.size) (h1 : ∀ v ∈ cs, v.oneCell' = true) :
    (Builtin.copy_ #[dT, sT] ty #[.slice (some ⟨g, off, none⟩) dLen dCap, .slice (some ad) sLen sCap]).run Try.prog w = .ok (goInt (Nat.min sLen dLen)) (w.setRow g (cur.toList.take off ++ (cs ++ cur.toList.drop (off + cs.length))).toArray) :=
  Go.Proofs.Ytdcccimdgbkniaa.Turn.run_copy_cells w dT sT ty elem i hu hi g off dLen dCap ad sLen sCap cur t hg cs hn hsrc hfit h1
/-- copy, at runs of two blocks, or of one. -/
theorem run_copyR (w : World) (ty : TypeId) {g g2 o o2 dLen dCap sLen sCap : Nat} {L L2 vs : List R2} (hg : Whole w g L) (hg2 : Whole w g2 L2) (hvs : vs.length = Nat.min sLen dLen) (hpre : vs <+: L2.drop o2) (hfit : o + vs.length ≤ L.length) :
    ∃ w', (Builtin.copy_ #[46, 46] ty #[.slice (some ⟨g, o * 2, none⟩) dLen dCap, .slice (some ⟨g2, o2 * 2, none⟩) sLen sCap]).run Try.prog w = .ok (goInt (Nat.min sLen dLen)) w' ∧ Whole w' g (putL L o vs) ∧ Turned (fun k => k = g) w w' := by
  obtain ⟨i, hi, hz⟩ := Option.map_eq_some_iff.1 sinfo50
  simp only [Prod.mk.injEq] at hz
  obtain ⟨hz0, hz1, hz2⟩ := hz
  have := run_copy_cells_at w 46 46 ty 50 i Try.underlying46 hi g (o * 2) dLen dCap ⟨g2, o2 * 2, none⟩ sLen sCap (encR L).toArray 50 hg (encR vs) (by rw [encR_length, hz1, hvs]) (hg2.read o2 vs hpre) (by rw [encR_length]; simp [encR_length]; omega) (encR_one vs)
  exact ⟨_, this, put_row hg, row_turned _ _ _⟩

theorem wp_callv {P : Program} {w : World} {o : Oper} {a : Act} {K : Act → World → Prop} {Q : Exit → Act → World → Prop} (d s : Operand) (t t' : TypeId) (b : Builtin)
    (hcase : b = .copy ∨ b = .append) (ho : o.op = .call { callee := .builtin b, args := #[d, s], argTypes := #[t, t'] }) (v u : Value) (hd : a.eval d = v) (hs : a.eval s = u) {v' : Value} {w' : World}
    (hr : ((if b = .copy then Builtin.copy_ #[t, t'] o.type #[v, u] else Builtin.append_ #[t, t'] o.type #[v, u]) : Sem Value).run P w = .ok v' w') (h : K (a.put o.dst v') w') : o.wp P a w K Q := by
  unfold Oper.wp execOp
  rcases hcase with rfl | rfl
  · simp only [ho, resolve, invoke, builtin, Sem.run_bind, Sem.run_pure, Result.andThen_ok, List.map_toArray, List.map_cons, List.map_nil, hd, hs]
    rw [if_pos rfl] at hr
    simp only [hr, Result.andThen_ok, Sem.run_pure]
    exact h
  · simp only [ho, resolve, invoke, builtin, Sem.run_bind, Sem.run_pure, Result.andThen_ok, List.map_toArray, List.map_cons, List.map_nil, hd, hs]
    rw [if_neg (by decide)] at hr
    simp only [hr, Result.andThen_ok, Sem.run_pure]
    exact h

section
variable {ops : Array Oper} {rest : List Oper} {oi : Oper} {a : Act} {Q : Exit → Act → World → Prop} {w : World} {K : Act → World → Prop} {E : Prop}
theorem list_copyR (hgd : oi.guard = none) (d s : Operand) (ho : oi.op = .call { callee := .builtin .copy, args := #[d, s], argTypes := #[46, 46] }) {g g2 : Nat} (o o2 : Nat) {do_ so dLen dCap sLen sCap : Nat} {L L2 : List R2} (vs : List R2)
    (hd : a.eval d = .slice (some ⟨g, do_, none⟩) dLen dCap) (hs : a.eval s = .slice (some ⟨g2, so, none⟩) sLen sCap) (hdo : do_ = o * 2) (hso : so = o2 * 2)
    (hg : Whole w g L) (hg2 : Whole w g2 L2) (hvs : vs.length = Nat.min sLen dLen) (hpre : vs <+: L2.drop o2) (hfit : o + vs.length ≤ L.length)
    (h : ∀ w', Whole w' g (putL L o vs) → Turned (fun k => k = g) w w' → wpList Try.prog ops Q rest (a.put oi.dst (goInt (Nat.min sLen dLen))) w') : wpList Try.prog ops Q (oi :: rest) a w := by
  subst hdo hso
  obtain ⟨w', h1, h2, h3⟩ := run_copyR w oi.type hg hg2 hvs hpre hfit
  exact wpList_plain hgd fun _ hK => wp_callv d s 46 46 .copy (.inl rfl) ho _ _ hd hs (by rw [if_pos rfl]; exact h1) (hK _ _ (h w' h2 h3))
theorem step_copyR (hgd : oi.guard = none) (d s : Operand) (ho : oi.op = .call { callee := .builtin .copy, args := #[d, s], argTypes := #[46, 46] }) {g g2 : Nat} (o o2 : Nat) {do_ so dLen dCap sLen sCap : Nat} {L L2 : List R2} (vs : List R2)
    (hd : a.eval d = .slice (some ⟨g, do_, none⟩) dLen dCap) (hs : a.eval s = .slice (some ⟨g2, so, none⟩) sLen sCap) (hdo : do_ = o * 2) (hso : so = o2 * 2)
    (hg : Whole w g L) (hg2 : Whole w g2 L2) (hvs : vs.length = Nat.min sLen dLen) (hpre : vs <+: L2.drop o2) (hfit : o + vs.length ≤ L.length)
    (h : ∀ w', Whole w' g (putL L o vs) → Turned (fun k => k = g) w w' → K (a.put oi.dst (goInt (Nat.min sLen dLen))) w') : if Region.wanted oi (yielded ops a.tmps) = true then Oper.wp Try.prog oi a w K Q else E := by
  have hw : Region.wanted oi (yielded ops a.tmps) = true := by simp [Region.wanted, hgd]
  rw [if_pos hw]
  subst hdo hso
  obtain ⟨w', h1, h2, h3⟩ := run_copyR w oi.type hg hg2 hvs hpre hfit
  exact wp_callv d s 46 46 .copy (.inl rfl) ho _ _ hd hs (by rw [if_pos rfl]; exact h1) (h w' h2 h3)
end

theorem zeros_enc (n : Nat) : Builtin.zeroCells (Value.agg #[.int .i64 0, .int .i64 0]).cells n = (encR (List.replicate n (0, 0))).toArray := by
  apply Array.ext'
  induction n with
  | zero => simp [Builtin.zeroCells, encR]
  | succ n ih =>
    rw [List.replicate_succ', encR_append]
    have hz : (Value.agg #[.int .i64 0, .int .i64 0]).cells = #[.int .i64 0, .int .i64 0] := rfl
    rw [hz] at ih ⊢
    simp only [Builtin.zeroCells, Array.toList_map, Array.toList_range] at ih ⊢
    rw [show (n + 1) * (#[Value.int .i64 0, Value.int .i64 0] : Array Value).size = n * (#[Value.int .i64 0, Value.int .i64 0] : Array Value).size + 1 + 1 from by simp; omega, List.range_succ, List.range_succ, List.map_append, List.map_append, ih]
    simp [encR, Nat.mul_mod_left, Nat.add_mod]

/-- append where a new block is wanted. -/
theorem run_growR (w : World) (ty : TypeId) (A : Option Addr) (cap : Nat) (l : List R2) (hfo : (Builtin.firstCells 2 l.length (.slice A l.length cap)).run Try.prog w.drew = .ok (encR l).toArray w.drew)
    (ad : Addr) (c : Nat) (vs : List R2) (hnews : ∀ j u, (encR vs)[j]? = some u → w.cell? (ad.add j) = some u) (hg : cap < l.length + vs.length) (hfit : l.length + vs.length ≤ 4398046511104) :
    ∃ cap', l.length + vs.length ≤ cap' ∧ cap' ≤ 9223372036854775807 ∧ (Builtin.append_ #[46, 46] ty #[.slice A l.length cap, .slice (some ad) vs.length c]).run Try.prog w =
      .ok (.slice (some ⟨w.heap.size, 0, none⟩) (l.length + vs.length) cap') (w.drew.alloc (.cells (encR (l ++ vs ++ List.replicate (cap' - (l.length + vs.length)) (0, 0))).toArray 50)) := by
  obtain ⟨i, hi, hz⟩ := Option.map_eq_some_iff.1 sinfo50
  simp only [Prod.mk.injEq] at hz
  obtain ⟨hz0, hz1, hz2⟩ := hz
  have hn : ¬ (l.length + vs.length ≤ cap) := by omega
  have h63' : ¬ (9223372036854775807 < ((l.length : Int) + (vs.length : Int))) := by omega
  have hfit2 : Builtin.nextslicecap (l.length + vs.length) cap * i.bytes ≤ 281474976710656 := growslice_fits hg (by rw [hz2]; omega)
  have h48' : ¬ (281474976710656 < Builtin.nextslicecap (l.length + vs.length) cap * i.bytes) := by omega
  have hf := run_firstCells_some (P := Try.prog) w.drew i.size vs.length ad vs.length c (encR vs) (by rw [encR_length, hz1]) (by simpa using hnews)
  rw [hz1] at hf
  refine ⟨grownCap w (l.length + vs.length) cap 50, grownCap_ge _ _ _ _, ?_, ?_⟩
  · exact grownCap_le_maxLen w (l.length + vs.length) cap 50 (by unfold maxLen; omega)
  simp [Builtin.append_, run_underlying Try.underlying46, sizeOf, typeInfo, zeroValue, hi, hz0, hz1, Builtin.lenOf, hn, h63', h48', Question.forced, hf, hfo, newRow, grownCap]
  congr 2
  apply Array.ext'
  simp only [zeros_enc, encR_append]
  simp [List.append_assoc]

/-- append(s[:i], make(S, m)...) where a new block is wanted. -/
theorem run_growZ (w : World) (ty : TypeId) (A : Option Addr) (cap : Nat) (l : List R2) (hfo : (Builtin.firstCells 2 l.length (.slice A l.length cap)).run Try.prog w.drew = .ok (encR l).toArray w.drew)
    (m : Nat) (hm : 0 < m) (hg : cap < l.length + m) (hfit : l.length + m ≤ 4398046511104) :
    ∃ cap', l.length + m ≤ cap' ∧ cap' ≤ 9223372036854775807 ∧ (Builtin.append_ #[46, 3] ty #[.slice A l.length cap, .int .i64 m]).run Try.prog w =
      .ok (.slice (some ⟨w.heap.size, 0, none⟩) (l.length + m) cap') (w.drew.alloc (.cells (encR (l ++ List.replicate m (0, 0) ++ List.replicate (cap' - (l.length + m)) (0, 0))).toArray 50)) := by
  obtain ⟨i, hi, hz⟩ := Option.map_eq_some_iff.1 sinfo50
  simp only [Prod.mk.injEq] at hz
  obtain ⟨hz0, hz1, hz2⟩ := hz
  have hn : ¬ (l.length + m ≤ cap) := by omega
  have hw : IntKind.i64.wrap (m : Int) = m := by rw [IntKind.wrap_i64]; omega
  have hneg : ¬ ((m : Int) < 0) := by omega
  have hbig : ¬ (281474976710656 < (m : Int) * (i.bytes : Int)) := by rw [hz2]; omega
  have hmz : ¬ (m * i.size = 0) := by rw [hz1]; omega
  have h63' : ¬ (9223372036854775807 < ((l.length : Int) + (m : Int))) := by omega
  have hfit2 : Builtin.nextslicecap (l.length + m) cap * i.bytes ≤ 281474976710656 := growslice_fits hg (by rw [hz2]; omega)
  have h48' : ¬ (281474976710656 < Builtin.nextslicecap (l.length + m) cap * i.bytes) := by omega
  rw [hz1] at hmz
  refine ⟨grownCap w (l.length + m) cap 50, grownCap_ge _ _ _ _, ?_, ?_⟩
  · exact grownCap_le_maxLen w (l.length + m) cap 50 (by unfold maxLen; omega)
  simp [Builtin.append_, run_underlying Try.underlying46, run_underlying Try.underlying3, sizeOf, typeInfo, zeroValue, hi, hz0, hz1, asInt, asIntOf, hw, hneg, hbig, hn, h63', h48', Question.forced, hfo, newRow, grownCap, hmz]
  congr 2
  apply Array.ext'
  simp only [zeros_enc, encR_append]
  simp [List.append_assoc, ← encR_append]

theorem first_nil (w : World) (c : Nat) : (Builtin.firstCells 2 ([] : List R2).length (.slice none ([] : List R2).length c)).run Try.prog w.drew = .ok (encR []).toArray w.drew := by
  simp [Builtin.firstCells, encR]
theorem first_whole {w : World} {g : Nat} {L l : List R2} (h : Whole w g L) (hl : l <+: L) (c : Nat) : (Builtin.firstCells 2 l.length (.slice (some ⟨g, 0, none⟩) l.length c)).run Try.prog w.drew = .ok (encR l).toArray w.drew :=
  run_firstCells_some (P := Try.prog) w.drew 2 l.length ⟨g, 0, none⟩ l.length c (encR l) (encR_length l) (by simpa using h.read 0 l (by simpa using hl))

theorem zeros_prefix {l : List R2} {vs z : List R2} : l ++ vs <+: l ++ vs ++ z := List.prefix_append _ _

/-- append, in place. -/
theorem run_roomR (w : World) (ty : TypeId) {g : Nat} {L : List R2} (h : Whole w g L) (n : Nat) (ad : Addr) (c : Nat) (vs : List R2) (hnews : ∀ j u, (encR vs)[j]? = some u → w.cell? (ad.add j) = some u) (hr : n + vs.length ≤ L.length) :
    ∃ w', (Builtin.append_ #[46, 46] ty #[.slice (some ⟨g, 0, none⟩) n L.length, .slice (some ad) vs.length c]).run Try.prog w = .ok (.slice (some ⟨g, 0, none⟩) (n + vs.length) L.length) w' ∧ Whole w' g (putL L n vs) ∧ Turned (fun k => k = g) w w' := by
  obtain ⟨i, hi, hz⟩ := Option.map_eq_some_iff.1 sinfo50
  simp only [Prod.mk.injEq] at hz
  obtain ⟨hz0, hz1, hz2⟩ := hz
  have := run_append_room (P := Try.prog) w 46 ty 50 i Try.underlying46 hi g n L.length (encR L).toArray h ad vs.length c (encR vs) (by rw [encR_length, hz1]) hnews (encR_one vs) hr (by rw [encR_length, hz1]; simp [encR_length]; omega)
  rw [hz1] at this
  refine ⟨_, this, ?_, row_turned _ _ _⟩
  have hp := put_row (o := n) (vs := vs) h
  simpa using hp

/-- The source of an append: vs lies at A; or there is none. -/
def Src (w : World) (u : Value) (vs : List R2) : Prop := (vs = [] ∧ ∃ c, u = .slice none 0 c) ∨ ∃ ad c, u = .slice (some ad) vs.length c ∧ ∀ j x, (encR vs)[j]? = some x → w.cell? (ad.add j) = some x
theorem Own.src {w : World} {base : Nat} {v : Value} {l : List R2} (h : Own w base v l) : Src w v l := by
  rcases h with ⟨rfl, rfl⟩ | ⟨g, L, rfl, h2, h3, h4, h5⟩
  · exact .inl ⟨rfl, 0, rfl⟩
  · exact .inr ⟨_, _, rfl, by simpa using h3.read 0 l (by simpa using h4)⟩
theorem Src.new (w : World) (r : R2) : Src (w.alloc (.cells #[.int .i64 r.1, .int .i64 r.2] 50)) (.slice (some ⟨w.heap.size, 0, none⟩) 1 1) [r] := by
  refine .inr ⟨_, _, rfl, ?_⟩
  have h : Whole (w.alloc (.cells #[.int .i64 r.1, .int .i64 r.2] 50)) w.heap.size [r] := Blk.new w _ _
  simpa using h.read 0 [r] (by simp)
theorem run_none (w : World) (ty : TypeId) (A : Option Addr) (n cap c : Nat) (h : n ≤ cap) : (Builtin.append_ #[46, 46] ty #[.slice A n cap, .slice none 0 c]).run Try.prog w = .ok (.slice A n cap) w := by
  obtain ⟨i, hi, hz⟩ := Option.map_eq_some_iff.1 sinfo50
  rcases A with _ | A <;> simp [Builtin.append_, run_underlying Try.underlying46, sizeOf, typeInfo, hi, Builtin.lenOf, h, Builtin.firstCells, storeCells]

/-- append to a row of one's own. -/
theorem run_ownR (w : World) (ty : TypeId) {base : Nat} {v u : Value} {l vs : List R2} (h : Own w base v l) (hs : Src w u vs) (hb : base ≤ w.heap.size) (hfit : l.length + vs.length ≤ 4398046511104) :
    ∃ v' w', (Builtin.append_ #[46, 46] ty #[v, u]).run Try.prog w = .ok v' w' ∧ Own w' base v' (l ++ vs) ∧ Turned (fun k => v.ownBlock = some k) w w' ∧ (v'.ownBlock = v.ownBlock ∨ v'.ownBlock = some w.heap.size) := by
  rcases hs with ⟨rfl, c, rfl⟩ | ⟨ad, c, rfl, hnews⟩
  · rcases h with ⟨rfl, rfl⟩ | ⟨g, L, rfl, h2, h3, h4, h5⟩
    · exact ⟨_, _, run_none w ty _ _ _ _ (Nat.le_refl _), Own.nil _ _, Turned.refl _ _, .inl rfl⟩
    · exact ⟨_, _, run_none w ty _ _ _ _ h4.length_le, Own.mk h2 h3 (by simpa using h4) h5 (by simp) rfl, Turned.refl _ _, .inl rfl⟩
  · have hgrow : ∀ (cap' : Nat), l.length + vs.length ≤ cap' → cap' ≤ 9223372036854775807 → Own (w.drew.alloc (.cells (encR (l ++ vs ++ List.replicate (cap' - (l.length + vs.length)) (0, 0))).toArray 50)) base (.slice (some ⟨w.heap.size, 0, none⟩) (l.length + vs.length) cap') (l ++ vs) := fun cap' h1 h2 =>
      Own.mk hb (Blk.new w.drew _ _) (List.prefix_append _ _) (by simp; omega) (by simp) (by simp; omega)
    have htg : ∀ (S : Nat → Prop) (o : Obj), Turned S w (w.drew.alloc o) := fun S o => ((Turned.refl S w).drew).alloc o
    rcases h with ⟨rfl, rfl⟩ | ⟨g, L, rfl, h2, h3, h4, h5⟩
    · by_cases h0 : vs.length = 0
      · have : vs = [] := List.eq_nil_of_length_eq_zero h0
        subst this
        refine ⟨.slice none 0 0, w, ?_, Own.nil _ _, Turned.refl _ _, .inl rfl⟩
        obtain ⟨i, hi, hz⟩ := Option.map_eq_some_iff.1 sinfo50
        have hf := run_firstCells_some (P := Try.prog) w i.size 0 ad 0 c [] (by simp) (by simp)
        simp [Builtin.append_, run_underlying Try.underlying46, sizeOf, typeInfo, hi, Builtin.lenOf, hf]
      · obtain ⟨cap', h1, h2, h3⟩ := run_growR w ty none 0 [] (first_nil w 0) ad c vs hnews (by simp; omega) hfit
        exact ⟨_, _, h3, hgrow _ h1 h2, htg _ _, .inr rfl⟩
    · by_cases hroom : l.length + vs.length ≤ L.length
      · obtain ⟨w', r1, r2, r3⟩ := run_roomR w ty h3 l.length ad c vs hnews hroom
        refine ⟨_, _, r1, Own.mk h2 r2 ?_ (by rw [putL_length hroom]; exact h5) (by simp) (by rw [putL_length hroom]), r3.mono (fun k hk => by rw [hk]; rfl), .inl rfl⟩
        obtain ⟨t, rfl⟩ := h4
        rw [putL, List.take_left, ← List.append_assoc]
        exact List.prefix_append _ _
      · obtain ⟨cap', r1, r2, r3⟩ := run_growR w ty (some ⟨g, 0, none⟩) L.length l (first_whole h3 h4 _) ad c vs hnews (by omega) hfit
        exact ⟨_, _, r3, hgrow _ r1 r2, htg _ _, .inr rfl⟩

/-- clear. -/
theorem run_clearR (w : World) (ty : TypeId) {g o n c : Nat} {L : List R2} (h : Whole w g L) (hfit : o + n ≤ L.length) :
    ∃ w', (Builtin.clear_ #[46] ty #[.slice (some ⟨g, o * 2, none⟩) n c]).run Try.prog w = .ok (.tuple #[]) w' ∧ Whole w' g (putL L o (List.replicate n (0, 0))) ∧ Turned (fun k => k = g) w w' := by
  obtain ⟨i, hi, hz⟩ := Option.map_eq_some_iff.1 sinfo50
  simp only [Prod.mk.injEq] at hz
  obtain ⟨hz0, hz1, hz2⟩ := hz
  cases n with
  | zero =>
    refine ⟨w, ?_, ?_, Turned.refl _ _⟩
    · simp [Builtin.clear_, run_underlying Try.underlying46]
    · simpa [putL] using h
  | succ n =>
    have hst := run_storeCells_at Try.prog g (o * 2) 50 (encR (List.replicate (n + 1) (0, 0))) 0 (encR L).toArray w h (by simp [encR_length]; omega) (encR_one _)
    simp only [Nat.add_zero] at hst
    refine ⟨_, ?_, put_row (o := o) (vs := List.replicate (n + 1) (0, 0)) h, row_turned _ _ _⟩
    have hzc : (Builtin.zeroCells (Value.agg #[.int .i64 0, .int .i64 0]).cells (n + 1)).toList = encR (List.replicate (n + 1) (0, 0)) := by rw [zeros_enc]
    rw [List.append_assoc] at hst
    simp [Builtin.clear_, run_underlying Try.underlying46, zeroValue, typeInfo, hi, hz0, hzc, hst]

section
variable {ops : Array Oper} {rest : List Oper} {oi : Oper} {a : Act} {Q : Exit → Act → World → Prop} {w : World} {K : Act → World → Prop} {E : Prop}
theorem list_ownR (hgd : oi.guard = none) (d s : Operand) (ho : oi.op = .call { callee := .builtin .append, args := #[d, s], argTypes := #[46, 46] }) {base : Nat} {v u : Value} {l vs : List R2} (hd : a.eval d = v) (hs : a.eval s = u)
    (h1 : Own w base v l) (h2 : Src w u vs) (hb : base ≤ w.heap.size) (hfit : l.length + vs.length ≤ 4398046511104)
    (h : ∀ v' w', Own w' base v' (l ++ vs) → Turned (fun k => v.ownBlock = some k) w w' → (v'.ownBlock = v.ownBlock ∨ v'.ownBlock = some w.heap.size) → wpList Try.prog ops Q rest (a.put oi.dst v') w') : wpList Try.prog ops Q (oi :: rest) a w := by
  obtain ⟨v', w', r1, r2, r3, r4⟩ := run_ownR w oi.type h1 h2 hb hfit
  exact wpList_plain hgd fun _ hK => wp_callv d s 46 46 .append (.inr rfl) ho _ _ hd hs (by rw [if_neg (by decide)]; exact r1) (hK _ _ (h v' w' r2 r3 r4))
theorem list_roomR (hgd : oi.guard = none) (d s : Operand) (ho : oi.op = .call { callee := .builtin .append, args := #[d, s], argTypes := #[46, 46] }) {g n c m cap : Nat} {L vs : List R2} {ad : Addr} (hd : a.eval d = .slice (some ⟨g, 0, none⟩) n cap) (hs : a.eval s = .slice (some ad) m c)
    (h1 : Whole w g L) (hcap : L.length = cap) (hm : m = vs.length) (h2 : ∀ j u, (encR vs)[j]? = some u → w.cell? (ad.add j) = some u) (hr : n + vs.length ≤ L.length)
    (h : ∀ w', Whole w' g (putL L n vs) → Turned (fun k => k = g) w w' → wpList Try.prog ops Q rest (a.put oi.dst (.slice (some ⟨g, 0, none⟩) (n + vs.length) cap)) w') : wpList Try.prog ops Q (oi :: rest) a w := by
  subst hm hcap
  obtain ⟨w', r1, r2, r3⟩ := run_roomR w oi.type h1 n ad c vs h2 hr
  exact wpList_plain hgd fun _ hK => wp_callv d s 46 46 .append (.inr rfl) ho _ _ hd hs (by rw [if_neg (by decide)]; exact r1) (hK _ _ (h w' r2 r3))
theorem list_growZ (hgd : oi.guard = none) (d s : Operand) (ho : oi.op = .call { callee := .builtin .append, args := #[d, s], argTypes := #[46, 3] }) {g n cap : Nat} (m : Nat) {L l : List R2} {mi : Int} (hd : a.eval d = .slice (some ⟨g, 0, none⟩) n cap) (hs : a.eval s = .int .i64 mi) (hmi : mi = m) (hn : l.length = n)
    (h1 : Whole w g L) (hl : l <+: L) (hm : 0 < m) (hg : cap < n + m) (hfit : n + m ≤ 4398046511104)
    (h : ∀ cap' w', Whole w' w.heap.size (l ++ List.replicate m (0, 0) ++ List.replicate (cap' - (n + m)) (0, 0)) → Below w.heap.size w w' → n + m ≤ cap' → cap' ≤ 9223372036854775807 → wpList Try.prog ops Q rest (a.put oi.dst (.slice (some ⟨w.heap.size, 0, none⟩) (n + m : Nat) cap')) w') : wpList Try.prog ops Q (oi :: rest) a w := by
  subst hmi hn
  obtain ⟨cap', r1, r2, r3⟩ := run_growZ w oi.type (some ⟨g, 0, none⟩) cap l (first_whole h1 hl cap) m hm hg hfit
  exact wpList_plain hgd fun _ hK => wp_callv d s 46 3 .append (.inr rfl) ho _ _ hd hs (by rw [if_neg (by decide)]; exact r3) (hK _ _ (h cap' _ (Blk.new w.drew _ _) (below_alloc (below_drew (Below.refl _ _)) _) r1 r2))
theorem list_clearR (hgd : oi.guard = none) (s : Operand) (hN : oi.dst = none) (ho : oi.op = .call { callee := .builtin .clear, args := #[s], argTypes := #[46] }) {g n c : Nat} (o : Nat) {so : Nat} {L : List R2} (hs : a.eval s = .slice (some ⟨g, so, none⟩) n c) (hso : so = o * 2)
    (h1 : Whole w g L) (hfit : o + n ≤ L.length) (h : ∀ w', Whole w' g (putL L o (List.replicate n (0, 0))) → Turned (fun k => k = g) w w' → wpList Try.prog ops Q rest a w') : wpList Try.prog ops Q (oi :: rest) a w := by
  subst hso
  obtain ⟨w', r1, r2, r3⟩ := run_clearR w oi.type (n := n) (o := o) (c := c) h1 hfit
  refine wpList_plain hgd fun _ hK => ?_
  unfold Oper.wp execOp
  simp only [ho, resolve, invoke, builtin, Sem.run_bind, Sem.run_pure, Result.andThen_ok, List.map_toArray, List.map_cons, List.map_nil, hs, r1]
  simp only [hN, Oper.upon]
  exact hK _ _ (h w' r2 r3)
end
end Go.Proofs.Ytdcccimdgbkniaa.Mine
