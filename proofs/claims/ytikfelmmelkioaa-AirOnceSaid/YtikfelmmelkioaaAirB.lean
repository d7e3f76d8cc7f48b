/- An air in memory; contracts of New, Count, At. -/
import Derived.Test.YtikfelmmelkioaaAirA
import Derived.Maps.OwnSet
set_option linter.unusedSimpArgs false
set_option linter.unusedVariables false
namespace Go.Proofs.Ytikfelmmelkioaa.Mine
open Go.RowKit Go.Proofs.YtikfelmmelkioaaW.PrintWords Go.Proofs.YtikfelmmelkioaaW.PrintLast Go.Proofs.YtikfelmmelkioaaW.PrintMore Go.Proofs.Ytikfelmmelkioaa.PAirOnce Go.Proofs.Ytikfelmmelkioaa.Turn

/-- Block b is an air of n parties: under way is L; the map of the ways that are cut reads as D; its blocks are among F. -/
def AirRep (w : World) (F : Nat → Prop) (b : Nat) (n : Int) (L : List S24) (D : DataW Unit) (M : Nat) : Prop :=
  ∃ v bm, Blk w b #[.int .i64 n, v, .map (some bm)] 48 ∧ Kd.R k24 24 w 0 F v L ∧ w.ownsMap Try.prog 53 (unitElem (H := Unit)) bm M D ∧ F b ∧ F bm ∧ ∀ k, F k → k < w.heap.size

theorem AirRep.step {w w' : World} {F : Nat → Prop} {b : Nat} {n : Int} {L : List S24} {D : DataW Unit} {M : Nat} (h : AirRep w F b n L D M) {S : Nat → Prop} (ht : Turned S w w') (hS : ∀ k, F k → ¬ S k) : AirRep w' F b n L D M := by
  obtain ⟨v, bm, h1, h2, h3, h4, h5, h6⟩ := h
  refine ⟨v, bm, ht.blk h1 (hS b h4), Kd.R_step h2 (fun k hk hlt => ht.block k hlt (hS k hk)), ?_, h4, h5, fun k hk => Nat.lt_of_lt_of_le (h6 k hk) ht.size⟩
  obtain ⟨es, clock, hb, r⟩ := h3
  exact ⟨es, clock, (ht.block bm (h6 bm h5) (hS bm h5)).trans hb, r⟩
theorem AirRep.below {w w' : World} {F : Nat → Prop} {b : Nat} {n : Int} {L : List S24} {D : DataW Unit} {M : Nat} (h : AirRep w F b n L D M) (hb : Below w.heap.size w w') : AirRep w' F b n L D M :=
  h.step (Turned.of_below hb (fun _ => False)) (fun _ _ hk => hk)

set_option maxHeartbeats 400000 in
theorem count_any {w : World} {F : Nat → Prop} {b : Nat} {n : Int} {L : List S24} {D : DataW Unit} {M : Nat} (h : AirRep w F b n L D M) :
    Calls Try.prog 9 #[.pointer (some ⟨b, 0, none⟩)] w fun e w' => e = .returned (.int .i64 L.length) ∧ w = w' := by
  obtain ⟨v, bm, h1, h2, h3, h4, h5, h6⟩ := h
  obtain ⟨A, c, rfl, hc, hC⟩ := Kd.R_reads h2
  have hx := (h1.cell 1).trans rfl
  clear h1 h2 h3 h4 h5 h6 hC hc
  go_enter Try.func9, Try.ntmps9
  go_wp2
  go_ret
  exact ⟨rfl, rfl⟩

set_option maxHeartbeats 1000000 in
theorem at_none {w : World} {F : Nat → Prop} {b : Nat} {n : Int} {L : List S24} {D : DataW Unit} {M : Nat} (h : AirRep w F b n L D M) (i : Int) (hi : i < 0 ∨ (L.length : Int) ≤ i) :
    Calls Try.prog 6 #[.pointer (some ⟨b, 0, none⟩), .int .i64 i] w fun e w' => e = .returned (.tuple #[.agg #[.int .i64 0, .int .i64 0, .slice none 0 0], .bool false]) ∧ Below w.heap.size w w' := by
  have HA := Aside0.mk h
  clear h
  by_cases h0 : i < 0
  · clear hi
    go_enter Try.func6, Try.ntmps6
    go_wp2
    refine bodyPost_ret (v := .tuple #[.agg #[.int .i64 0, .int .i64 0, .slice none 0 0], .bool false]) (by simp [results, Try.results6, go_sem]) rfl ⟨rfl, ?_⟩
    exact below_alloc (Below.refl _ _) _
  · have hi : (L.length : Int) ≤ i := by omega
    go_enter Try.func6, Try.ntmps6
    go_wp2_with (go_at_call 9; refine (count_any (HA.out.below (below_alloc (Below.refl _ _) _))).mono ?_; rintro e w' ⟨rfl, rfl⟩)
    refine bodyPost_ret (v := .tuple #[.agg #[.int .i64 0, .int .i64 0, .slice none 0 0], .bool false]) (by simp [results, Try.results6, go_sem]) rfl ⟨rfl, ?_⟩
    exact below_alloc (Below.refl _ _) _

theorem R_under {α : Type} {d : Kd α} {e base : Nat} {w : World} {ok : Nat → Prop} {v : Value} {xs : List α} (h : d.R e w base ok v xs) {p : Addr} (hp : p.block < base) {u : Value} : d.R e (w.setCell p u) base ok v xs :=
  Kd.R_mono (Kd.R_far (Kd.R_bound h) (fun k hk => by have := hk.2.1; omega) u) (fun _ hk => hk.1)

set_option maxHeartbeats 2000000 in
theorem at_some {w : World} {F : Nat → Prop} {b : Nat} {n : Int} {L : List S24} {D : DataW Unit} {M : Nat} (h : AirRep w F b n L D M) (i : Int) (h0 : 0 ≤ i) (h1 : i < L.length) (hs : ∀ x ∈ L, x.f2.length ≤ 140737488355328) :
    Calls Try.prog 6 #[.pointer (some ⟨b, 0, none⟩), .int .i64 i] w fun e w' => ∃ v, e = .returned (.tuple #[.agg #[.int .i64 (rd_T24 L i).f0, .int .i64 (rd_T24 L i).f1, v], .bool true]) ∧ Kd.R (Kd.int .u8) 5 w' w.heap.size (fun _ => True) v (rd_T24 L i).f2 ∧ Below w.heap.size w w' := by
  have HA := Aside0.mk h
  obtain ⟨v, bm, hb, h2, h3, h4, h5, h6⟩ := h
  obtain ⟨A, c, rfl, hc, hC⟩ := Kd.R_reads h2
  have hx1 : w.cell? ⟨b, 1, none⟩ = some (.slice A L.length c) := (hb.cell 1).trans rfl
  obtain ⟨ad, A2, c2, e, hy0, hy1, hy2, hl2, hB⟩ := at_T24 hC i h0 h1
  cases e
  have hmem : rd_T24 L i ∈ L := by
    unfold rd_T24
    rw [List.getD_eq_getElem?_getD, List.getElem?_eq_getElem (by omega)]
    exact List.getElem_mem _
  have hlen := hs _ hmem
  generalize rd_T24 L i = x at hy0 hy1 hy2 hl2 hB hlen ⊢
  have HB := Aside0.mk hB
  have hbn : b < w.heap.size := hb.lt
  have han : (ad.add (i.toNat * 3)).block < w.heap.size := World.block_lt_of_cell? w _ hy0
  clear hb h2 h3 h4 h5 h6 hC hB hmem hs
  go_enter Try.func6, Try.ntmps6
  go_wp2_with (first
    | (go_at_call 9; refine (count_any (HA.out.below (below_alloc (Below.refl _ _) _))).mono ?_; rintro e w' ⟨rfl, rfl⟩)
    | fail)
  refine (clone_any A2 c2 x.f2 _ hlen (Kd.C_alloc (Kd.C_alloc HB.out _) _)).mono ?_
  rintro e w1 ⟨v1, rfl, hR, hb1⟩
  obtain ⟨A1, c1, rfl, hc1, hC1⟩ := Kd.R_reads hR
  have hB1 := Below.trans (below_alloc (below_alloc (Below.refl w.heap.size w) _) _) (hb1.mono (by simp; omega))
  have b4 := (Blk.alloc (Blk.new w #[.int .i64 0, .int .i64 0, .slice none 0 0] 24) (.cells #[.int .i64 x.f0, .int .i64 x.f1, .slice A2 x.f2.length c2] 24))
  have b6 := (Blk.new (w.alloc (.cells #[.int .i64 0, .int .i64 0, .slice none 0 0] 24)) #[.int .i64 x.f0, .int .i64 x.f1, .slice A2 x.f2.length c2] 24)
  rw [World.size_alloc] at b6
  replace b4 := (hb1.block _ b4.lt).trans b4
  replace b6 := (hb1.block _ b6.lt).trans b6
  have hsz : w.heap.size + 1 < w1.heap.size := blk_lt b6
  have b60 : World.cell? w1 ⟨w.heap.size + 1, 0, none⟩ = some (.int .i64 x.f0) := Blk.cell b6 0
  have b6f0 : World.frozen? w1 ⟨w.heap.size + 1, 0, none⟩ = false := Blk.free b6 0
  have b61 : World.cell? w1 ⟨w.heap.size + 1, 1, none⟩ = some (.int .i64 x.f1) := Blk.cell b6 1
  have b6f1 : World.frozen? w1 ⟨w.heap.size + 1, 1, none⟩ = false := Blk.free b6 1
  have b62 : World.cell? w1 ⟨w.heap.size + 1, 2, none⟩ = some (.slice A2 x.f2.length c2) := Blk.cell b6 2
  have b6f2 : World.frozen? w1 ⟨w.heap.size + 1, 2, none⟩ = false := Blk.free b6 2
  have b40 : World.cell? w1 ⟨w.heap.size, 0, none⟩ = some (.int .i64 0) := Blk.cell b4 0
  have b4f0 : World.frozen? w1 ⟨w.heap.size, 0, none⟩ = false := Blk.free b4 0
  have b41 : World.cell? w1 ⟨w.heap.size, 1, none⟩ = some (.int .i64 0) := Blk.cell b4 1
  have b4f1 : World.frozen? w1 ⟨w.heap.size, 1, none⟩ = false := Blk.free b4 1
  have b42 : World.cell? w1 ⟨w.heap.size, 2, none⟩ = some (.slice none 0 0) := Blk.cell b4 2
  have b4f2 : World.frozen? w1 ⟨w.heap.size, 2, none⟩ = false := Blk.free b4 2
  have HR := Aside0.mk hR
  have HB1 := Aside0.mk hB1
  clear hR hB1 hb1 b4 b6 hc1 hC1
  go_wp2
  refine bodyPost_ret (v := .tuple #[.agg #[.int .i64 x.f0, .int .i64 x.f1, .slice A1 x.f2.length c1], .bool true]) (by simp [results, Try.results6, go_sem, b40, b41, b42, b60, b61, b62]) rfl ⟨_, rfl, ?_, ?_⟩
  · refine Kd.R_lower (base := ((w.alloc (.cells #[.int .i64 0, .int .i64 0, .slice none 0 0] 24)).alloc (.cells #[.int .i64 x.f0, .int .i64 x.f1, .slice A2 x.f2.length c2] 24)).heap.size) ?_ (by simp; omega)
    repeat (first | exact HR.out | refine R_under ?_ (by simp only [World.size_alloc]; omega))
  · repeat (first | exact HB1.out | refine Below.setCell ?_ (by simp only []; omega) _)
end Go.Proofs.Ytikfelmmelkioaa.Mine
