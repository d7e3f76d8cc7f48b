/- Contracts of New, Is, Cut; what no air answers. -/
import Derived.Test.YtikfelmmelkioaaAirB
import Derived.DeepKeys4
set_option linter.unusedSimpArgs false
set_option linter.unusedVariables false
namespace Go.Proofs.Ytikfelmmelkioaa.Mine
open Go.RowKit Go.Maps Go.Proofs.YtikfelmmelkioaaW.PrintWords Go.Proofs.YtikfelmmelkioaaW.PrintLast Go.Proofs.YtikfelmmelkioaaW.PrintMore Go.Proofs.Ytikfelmmelkioaa.PAirOnce Go.Proofs.Ytikfelmmelkioaa.Turn

theorem laidOut : laidOutB Try.prog = true := by kernel_rfl
theorem row53 : (53 : TypeId) < Try.prog.types.size := of_decide_eq_true (by kernel_rfl)
theorem wide53 : (match Try.prog.underlying 53 with | some (.array _ _) | some (.struct _) => true | _ => false) = true := by kernel_rfl
theorem law53 : Keyed Try.prog 53 := Keyed.of_law (deep_law_laid laidOut (m := 3) (by omega) row53 (by kernel_rfl) wide53)
theorem zero51 (w : World) : (zeroValue 51).run Try.prog w = .ok (.agg #[]) w := by kernel_rfl

/-- How the way from p to q stands as a key. -/
def wayLit (p q : Int) : Lit := .string (keyBytes [.int .i64 p, .int .i64 q])
theorem keyType53 : Try.prog.keyType 53 = true := by kernel_rfl
theorem cells53 : Try.prog.cellsOf 53 = 2 := by kernel_rfl
theorem cells3 : Try.prog.cellsOf 3 = 1 := by kernel_rfl
theorem key_way (p q : Int) (hp : (Lit.int .i64 p).wf = true) (hq : (Lit.int .i64 q).wf = true) : keyOf Try.prog 53 (.agg #[.int .i64 p, .int .i64 q]) = some (wayLit p q) := by
  have hf : (Value.agg #[.int .i64 p, .int .i64 q]).formed Try.prog 53 = true := by
    simp [Value.formed, Try.underlying53, cells53]
  obtain ⟨m, hm⟩ : ∃ m, Try.prog.types.size + 1 = m + 1 + 1 := ⟨Try.prog.types.size - 1, by have h : (53 : Nat) < Try.prog.types.size := row53; omega⟩
  unfold keyOf
  rw [Try.underlying53]
  simp only [keyType53, hf, Bool.and_self, if_true]
  rw [hm]
  simp [Program.keyLits, Try.underlying53, Try.underlying3, cells53, cells3, Value.cells, hp, hq, wayLit]
theorem way_inj {p q p' q' : Int} (hp : (Lit.int .i64 p).wf = true) (hq : (Lit.int .i64 q).wf = true) (hp' : (Lit.int .i64 p').wf = true) (hq' : (Lit.int .i64 q').wf = true) (h : wayLit p q = wayLit p' q') : p = p' ∧ q = q' := by
  have h1 := law53.inj (key_way p q hp hq) (h ▸ key_way p' q' hp' hq')
  simpa using h1

theorem pair_reads (w : World) (p q : Int) : Kd.C (Kd.int .i64) (w.alloc (.cells #[.int .i64 p, .int .i64 q] 3)) (some ⟨w.heap.size, 0, none⟩) 2 [p, q] := by
  refine ⟨rfl, by omega, fun _ => ⟨_, rfl, fun j x hj => ⟨[.int .i64 x], rfl, rfl, fun i u hu => ?_⟩⟩⟩
  match i, hu with
  | 0, hu =>
    simp only [List.getElem?_cons_zero, Option.some.injEq] at hu
    subst hu
    match j, hj with
    | 0, hj => simp at hj; subst hj; simp [Addr.add, Kd.int, Kd.scalar]
    | 1, hj => simp at hj; subst hj; simp [Addr.add, Kd.int, Kd.scalar]
    | j + 2, hj => simp at hj
  | i + 1, hu => simp at hu

set_option maxHeartbeats 1000000 in
theorem is_nil (p q : Int) (w : World) :
    Calls Try.prog 15 #[.pointer none, .int .i64 p, .int .i64 q] w fun e w' => e = .returned (.bool false) ∧ w = w' := by
  go_enter Try.func15, Try.ntmps15
  go_wp2
  go_ret
  exact ⟨rfl, rfl⟩

set_option maxHeartbeats 1000000 in
theorem is_any {w : World} {F : Nat → Prop} {b : Nat} {n : Int} {L : List S24} {D : DataW Unit} {M : Nat} (h : AirRep w F b n L D M) (p q : Int) (hp : (Lit.int .i64 p).wf = true) (hq : (Lit.int .i64 q).wf = true) :
    Calls Try.prog 15 #[.pointer (some ⟨b, 0, none⟩), .int .i64 p, .int .i64 q] w fun e w' => e = .returned (.bool (Maps.has D (wayLit p q))) ∧ Below w.heap.size w w' := by
  obtain ⟨v, bm, h1, h2, h3, h4, h5, h6⟩ := h
  have h10 : World.cell? w ⟨b, 0, none⟩ = some (.int .i64 n) := Blk.cell h1 0
  have h11 : World.cell? w ⟨b, 1, none⟩ = some (v) := Blk.cell h1 1
  have h12 : World.cell? w ⟨b, 2, none⟩ = some (.map (some bm)) := Blk.cell h1 2
  have hbn : b < w.heap.size := h1.lt
  have HW := Aside0.mk (key_way p q hp hq)
  have H3 := Aside0.mk h3
  clear h1 h2 h3 h4 h5 h6 hp hq
  go_enter Try.func15, Try.ntmps15
  go_wp2_with (at_lookup; refine wpList_lookup_own_unit _ rfl _ _ 46 rfl 53 51 law53 Try.underlying46 (zero51 _) bm M D rfl H3.out _ _ rfl HW.out ?_)
  go_ret
  exact ⟨rfl, by repeat (first | exact Below.refl _ _ | apply below_alloc)⟩

theorem mapTurned_turned {w w' : World} {b : Nat} (h : w.mapTurned w' b) : Turned (fun k => k = b) w w' :=
  Turned.grown (Turned.refl _ w) h.grown (fun k hk => by injection hk with hk; exact .inl hk.symm)

set_option maxHeartbeats 1000000 in
theorem cut_nil (p q : Int) (off : Bool) (w : World) :
    Calls Try.prog 14 #[.pointer none, .int .i64 p, .int .i64 q, .bool off] w fun e w' => e = .returned (.int .i64 8) ∧ w = w' := by
  go_enter Try.func14, Try.ntmps14
  go_wp2
  go_ret
  exact ⟨rfl, rfl⟩

set_option maxHeartbeats 1000000 in
theorem cut_bad {w : World} {F : Nat → Prop} {b : Nat} {n : Int} {L : List S24} {D : DataW Unit} {M : Nat} (h : AirRep w F b n L D M) (p q : Int) (off : Bool) (hb : (bad n p || bad n q) = true) :
    Calls Try.prog 14 #[.pointer (some ⟨b, 0, none⟩), .int .i64 p, .int .i64 q, .bool off] w fun e w' => e = .returned (.int .i64 1) ∧ Below w.heap.size w w' := by
  obtain ⟨v, bm, h1, h2, h3, h4, h5, h6⟩ := h
  have hc : w.cell? ⟨b, 0, none⟩ = some (.int .i64 n) := Blk.cell h1 0
  have HC := Aside0.mk hc
  have hbn : b < w.heap.size := h1.lt
  have HB := Aside0.mk hb
  clear h1 h2 h3 h4 h5 h6 hb hc
  go_enter Try.func14, Try.ntmps14
  go_wp2_with (go_at_call 21; go_loud (refine (parties_any _ 2 p q n b _ (pair_reads _ p q) (((below_alloc (Below.refl _ w) _).cell (p := ⟨b, 0, none⟩) hbn).trans HC.out)).mono ?_); rintro e w' ⟨rfl, hb⟩; rw [HB.out]; have HB2 := Aside0.mk hb; clear hb)
  go_ret
  exact ⟨rfl, Below.trans (below_alloc (Below.refl _ _) _) (HB2.out.mono (by simp))⟩

theorem R_off_map {α : Type} {d : Kd α} {e base : Nat} {w w2 : World} {ok : Nat → Prop} {v : Value} {xs : List α} (h : d.R e w base ok v xs) {bm : Nat} {es : Array MapEntry} {clock : Nat} (hm : w.heap[bm]? = some (.map es clock)) (ht : Turned (fun k => k = bm) w w2) : d.R e w2 base ok v xs :=
  Kd.R_mono (Kd.R_move (Kd.R_bound h) (fun k hk => ht.block k hk.2.2.1 (by
    rintro rfl
    obtain ⟨_, _, _, q, _, cells, hc⟩ := hk
    rw [hm] at hc
    cases hc))) (fun _ hk => hk.1)

set_option maxHeartbeats 1000000 in
theorem cut_on {w : World} {F : Nat → Prop} {b : Nat} {n : Int} {L : List S24} {D : DataW Unit} {M : Nat} (h : AirRep w F b n L D M) (p q : Int) (hp : (Lit.int .i64 p).wf = true) (hq : (Lit.int .i64 q).wf = true) (hM : M < 9223372036854775807) (hb : (bad n p || bad n q) = false) :
    Calls Try.prog 14 #[.pointer (some ⟨b, 0, none⟩), .int .i64 p, .int .i64 q, .bool true] w fun e w' => e = .returned (.int .i64 0) ∧ AirRep w' F b n L (D.put (wayLit p q) (.agg [])) (M + 1) ∧ Turned F w w' := by
  have hc : w.cell? ⟨b, 0, none⟩ = some (.int .i64 n) := by
    obtain ⟨v, bm, h1, _⟩ := h
    exact Blk.cell h1 0
  have hbn : b < w.heap.size := World.block_lt_of_cell? w _ hc
  have HC := Aside0.mk hc
  have HB := Aside0.mk hb
  have HA := Aside0.mk h
  have HW := Aside0.mk (key_way p q hp hq)
  clear hb hc h
  go_enter Try.func14, Try.ntmps14
  go_wp2_with fail
  refine (parties_any _ 2 p q n b _ (pair_reads _ p q) (((below_alloc (Below.refl _ w) _).cell (p := ⟨b, 0, none⟩) hbn).trans HC.out)).mono ?_
  rintro e w1 ⟨rfl, hb⟩
  rw [HB.out]
  have hb2 : Below w.heap.size w w1 := Below.trans (below_alloc (Below.refl _ _) _) (hb.mono (by simp))
  have HB2 := Aside0.mk hb2
  have HA1 := Aside0.mk (HA.out.below hb2)
  clear hb hb2
  obtain ⟨v, bm, h1, h2, h3, h4, h5, h6⟩ := HA1.out
  have h10 : World.cell? w1 ⟨b, 0, none⟩ = some (.int .i64 n) := Blk.cell h1 0
  have h11 : World.cell? w1 ⟨b, 1, none⟩ = some (v) := Blk.cell h1 1
  have h12 : World.cell? w1 ⟨b, 2, none⟩ = some (.map (some bm)) := Blk.cell h1 2
  have H3 := Aside0.mk h3
  have H1 := Aside0.mk h1
  have H2 := Aside0.mk h2
  have H6 := Aside0.mk h6
  clear h1 h2 h3 h6
  go_wp2_with (at_mapUpdate; refine wpList_mapUpdate_in _ rfl _ _ _ 46 rfl 53 51 law53 Try.underlying46 (unitElem (H := Unit)) bm M D rfl H3.out (by unfold maxLen; exact hM) _ _ (wayLit p q) rfl rfl HW.out (.agg []) [] unitElem_mk ?_; intro w2 hown ht; have HO := Aside0.mk hown; have HT := Aside0.mk ht; clear hown ht)
  go_ret
  have hT := mapTurned_turned HT.out
  have hne : b ≠ bm := by
    rintro rfl
    have e1 := H1.out
    obtain ⟨es, clock, e2, _⟩ := H3.out
    unfold Blk at e1
    rw [e1] at e2
    cases e2
  refine ⟨rfl, ⟨v, bm, hT.blk H1.out hne, ?_, HO.out, h4, h5, fun k hk => Nat.lt_of_lt_of_le (H6.out k hk) hT.size⟩, ?_⟩
  · obtain ⟨es, clock, e2, _⟩ := H3.out
    exact R_off_map H2.out e2 hT
  · exact (Turned.of_below HB2.out F).then_ (S2 := F) (hT.mono (fun k hk => by rw [hk]; exact h5)) (fun k hk => .inl hk)
set_option maxHeartbeats 1000000 in
theorem cut_off {w : World} {F : Nat → Prop} {b : Nat} {n : Int} {L : List S24} {D : DataW Unit} {M : Nat} (h : AirRep w F b n L D M) (p q : Int) (hp : (Lit.int .i64 p).wf = true) (hq : (Lit.int .i64 q).wf = true) (hb : (bad n p || bad n q) = false) :
    Calls Try.prog 14 #[.pointer (some ⟨b, 0, none⟩), .int .i64 p, .int .i64 q, .bool false] w fun e w' => e = .returned (.int .i64 0) ∧ AirRep w' F b n L (D.del (wayLit p q)) M ∧ Turned F w w' := by
  have hc : w.cell? ⟨b, 0, none⟩ = some (.int .i64 n) := by
    obtain ⟨v, bm, h1, _⟩ := h
    exact Blk.cell h1 0
  have hbn : b < w.heap.size := World.block_lt_of_cell? w _ hc
  have HC := Aside0.mk hc
  have HB := Aside0.mk hb
  have HA := Aside0.mk h
  have HW := Aside0.mk (key_way p q hp hq)
  clear hb hc h
  go_enter Try.func14, Try.ntmps14
  go_wp2_with fail
  refine (parties_any _ 2 p q n b _ (pair_reads _ p q) (((below_alloc (Below.refl _ w) _).cell (p := ⟨b, 0, none⟩) hbn).trans HC.out)).mono ?_
  rintro e w1 ⟨rfl, hb⟩
  rw [HB.out]
  have hb2 : Below w.heap.size w w1 := Below.trans (below_alloc (Below.refl _ _) _) (hb.mono (by simp))
  have HB2 := Aside0.mk hb2
  have HA1 := Aside0.mk (HA.out.below hb2)
  clear hb hb2
  obtain ⟨v, bm, h1, h2, h3, h4, h5, h6⟩ := HA1.out
  have h10 : World.cell? w1 ⟨b, 0, none⟩ = some (.int .i64 n) := Blk.cell h1 0
  have h11 : World.cell? w1 ⟨b, 1, none⟩ = some (v) := Blk.cell h1 1
  have h12 : World.cell? w1 ⟨b, 2, none⟩ = some (.map (some bm)) := Blk.cell h1 2
  have H3 := Aside0.mk h3
  have H1 := Aside0.mk h1
  have H2 := Aside0.mk h2
  have H6 := Aside0.mk h6
  clear h1 h2 h3 h6
  go_wp2_with (at_delete; refine wpList_delete_own _ rfl _ _ 46 53 rfl 51 law53 Try.underlying46 (unitElem (H := Unit)) bm M D rfl H3.out _ (wayLit p q) rfl HW.out ?_; intro w2 hown ht; have HO := Aside0.mk hown; have HT := Aside0.mk ht; clear hown ht)
  go_ret
  have hT := mapTurned_turned HT.out
  have hne : b ≠ bm := by
    rintro rfl
    have e1 := H1.out
    obtain ⟨es, clock, e2, _⟩ := H3.out
    unfold Blk at e1
    rw [e1] at e2
    cases e2
  refine ⟨rfl, ⟨v, bm, hT.blk H1.out hne, ?_, HO.out, h4, h5, fun k hk => Nat.lt_of_lt_of_le (H6.out k hk) hT.size⟩, ?_⟩
  · obtain ⟨es, clock, e2, _⟩ := H3.out
    exact R_off_map H2.out e2 hT
  · exact (Turned.of_below HB2.out F).then_ (S2 := F) (hT.mono (fun k hk => by rw [hk]; exact h5)) (fun k hk => .inl hk)

set_option maxHeartbeats 1000000 in
theorem new_any (n : Int) (h1 : 1 ≤ n) (h2 : n ≤ 64) (w : World) :
    Calls Try.prog 17 #[.int .i64 n] w fun e w' => ∃ b F, e = .returned (.tuple #[.pointer (some ⟨b, 0, none⟩), .int .i64 0]) ∧ AirRep w' F b n [] (.map []) 0 ∧ (∀ k, F k → w.heap.size ≤ k) ∧ Below w.heap.size w w' := by
  have hmm := @run_makeMap Try.prog
  go_enter Try.func17, Try.ntmps17
  go_wp2
  go_ret2
  refine ⟨w.heap.size + 1, fun k => k = w.heap.size ∨ k = w.heap.size + 1, rfl, ⟨.slice none 0 0, w.heap.size, ?_, Kd.R_nil _ _ _ _ _, ?_, .inr rfl, .inl rfl, ?_⟩, ?_, ?_⟩
  · have := Blk.new (w.alloc (.map #[] 0)) #[.int .i64 n, .slice none 0 0, .map (some w.heap.size)] 48
    rw [World.size_alloc] at this
    exact this
  · exact (World.ownsMap_made w Try.prog 53 _).alloc _
  · rintro k (rfl | rfl) <;> (simp only [World.size_alloc]; omega)
  · rintro k (rfl | rfl) <;> omega
  · exact below_alloc (below_alloc (Below.refl _ _) _) _
end Go.Proofs.Ytikfelmmelkioaa.Mine
