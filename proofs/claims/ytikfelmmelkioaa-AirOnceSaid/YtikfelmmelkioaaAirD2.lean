/- Contracts of Send, the ways behind the parties' test. -/
import Derived.Test.YtikfelmmelkioaaAirD
set_option linter.unusedSimpArgs false
set_option linter.unusedVariables false
namespace Go.Proofs.Ytikfelmmelkioaa.Mine
open Go.RowKit Go.Maps Go.Proofs.YtikfelmmelkioaaW.PrintWords Go.Proofs.YtikfelmmelkioaaW.PrintLast Go.Proofs.YtikfelmmelkioaaW.PrintMore Go.Proofs.Ytikfelmmelkioaa.PAirOnce Go.Proofs.Ytikfelmmelkioaa.Turn

theorem not_map {α : Type} {d : Kd α} {e base : Nat} {w : World} {ok : Nat → Prop} {v : Value} {xs : List α} (h : d.R e w base ok v xs) {bm : Nat} {es : Array MapEntry} {clock : Nat} (hm : w.heap[bm]? = some (.map es clock)) : some bm ≠ v.ownBlock := by
  intro e
  obtain ⟨cells, hc⟩ := Kd.R_typed h bm e.symm
  rw [hm] at hc
  cases hc
/-- Behind an append to the air's list and the store of what it left. -/
theorem append_close {w w4 w7 : World} {F : Nat → Prop} {b : Nat} {n : Int} {L L2 : List S24} {D : DataW Unit} {M : Nat} {v6 v7 : Value} {bm : Nat} (hF : ∀ k, F k → k < w.heap.size) (hB : Below w.heap.size w w4) (h1 : Blk w4 b #[.int .i64 n, v6, .map (some bm)] 48) (h2 : Kd.R k24 24 w4 0 F v6 L) (h3 : w4.ownsMap Try.prog 53 (unitElem (H := Unit)) bm M D) (h4 : F b) (h5 : F bm)
    (hg : w4.drew.grownBy w7 v6.ownBlock) (hx : Blk w7 b #[.int .i64 n, v6, .map (some bm)] 48) (hr : Kd.R k24 24 w7 0 (fun k => F k ∨ w.heap.size ≤ k) v7 L2) :
    AirRep (w7.setCell ⟨b, 1, none⟩ v7) (fun k => F k ∨ (w.heap.size ≤ k ∧ k < (w7.setCell ⟨b, 1, none⟩ v7).heap.size)) b n L2 D M ∧ Turned F w (w7.setCell ⟨b, 1, none⟩ v7) := by
  have hs : (w7.setCell ⟨b, 1, none⟩ v7).heap.size = w7.heap.size := by simp [World.setCell]
  have hs4 : w4.heap.size ≤ w7.heap.size := hg.size
  have hs0 := hB.size
  obtain ⟨es, clock, hm, hrest⟩ := h3
  have hbm : b ≠ bm := by
    rintro rfl
    unfold Blk at h1
    rw [h1] at hm
    cases hm
  have hm7 : w7.heap[bm]? = some (.map es clock) := (hg.block bm (blk_lt hm) (not_map (Kd.R_drew h2) hm)).trans hm
  refine ⟨⟨v7, bm, hx.set 1 v7, ?_, ⟨es, clock, ?_, hrest⟩, .inl h4, .inl h5, ?_⟩, ?_⟩
  · refine Kd.R_mono (Kd.R_set (Kd.R_bound hr) hx (by decide) 1 v7) (fun k hk => ?_)
    rcases hk.1 with h | h
    · exact .inl h
    · exact .inr ⟨h, by rw [hs]; exact hk.2.2.1⟩
  · exact (Below.heap_setCell w7 ⟨b, 1, none⟩ v7 bm (Ne.symm hbm)).trans hm7
  · rintro k (h | h)
    · have := hF k h; omega
    · exact h.2
  · refine Turned.setCell (Turned.grown (Turned.drew (Turned.of_below hB F)) hg (fun k hk => .inl (h2.1 k hk))) (.inl h4) _

set_option maxHeartbeats 4000000 in
set_option maxRecDepth 100000 in
theorem send_long {w : World} {F : Nat → Prop} {b : Nat} {n : Int} {L : List S24} {D : DataW Unit} {M : Nat} (h : AirRep w F b n L D M) (f t : Int) (A : Option Addr) (l : List Int) (c : Nat) (hb : (bad n f || bad n t) = false) (hl : 262144 < l.length) :
    Calls Try.prog 8 #[.pointer (some ⟨b, 0, none⟩), .agg #[.int .i64 f, .int .i64 t, .slice A l.length c]] w fun e w' => e = .returned (.int .i64 2) ∧ Below w.heap.size w w' := by
  have HA := Aside0.mk h
  have HC := Aside0.mk h.cell0
  have hbn : b < w.heap.size := World.block_lt_of_cell? w _ h.cell0
  have HB := Aside0.mk hb
  clear hb h
  go_enter Try.func8, Try.ntmps8
  go_wp2_with fail
  have hb0 := below_alloc (below_alloc (Below.refl w.heap.size w) (.cells #[.int .i64 f, .int .i64 t, .slice A l.length c] 24)) (.cells #[.int .i64 f, .int .i64 t] 3)
  have hbx0 := (Blk.new w #[.int .i64 f, .int .i64 t, .slice A l.length c] 24).alloc (.cells #[.int .i64 f, .int .i64 t] 3)
  have HB0 := Aside0.mk hb0
  have HX0 := Aside0.mk hbx0
  clear hb0 hbx0
  have hp := pair_reads (w.alloc (.cells #[.int .i64 f, .int .i64 t, .slice A l.length c] 24)) f t
  rw [World.size_alloc] at hp
  have HP := Aside0.mk hp
  clear hp
  refine (parties_any _ 2 f t n b _ HP.out ((HB0.out.cell (p := ⟨b, 0, none⟩) hbn).trans HC.out)).mono ?_
  rintro e w1 ⟨rfl, hb⟩
  rw [HB.out]
  have HB1 := Aside0.mk (HB0.out.trans (hb.mono HB0.out.size))
  have hx1 : Blk w1 w.heap.size #[.int .i64 f, .int .i64 t, .slice A l.length c] 24 := (hb.block _ HX0.out.lt).trans HX0.out
  have hz1 : w.heap.size < w1.heap.size := hx1.lt
  have HX1 := Aside0.mk hx1
  clear hb
  have hx10 : World.cell? w1 ⟨w.heap.size, 0, none⟩ = some (.int .i64 f) := Blk.cell hx1 0
  have hx1f0 : World.frozen? w1 ⟨w.heap.size, 0, none⟩ = false := Blk.free hx1 0
  have hx11 : World.cell? w1 ⟨w.heap.size, 1, none⟩ = some (.int .i64 t) := Blk.cell hx1 1
  have hx1f1 : World.frozen? w1 ⟨w.heap.size, 1, none⟩ = false := Blk.free hx1 1
  have hx12 : World.cell? w1 ⟨w.heap.size, 2, none⟩ = some (.slice A l.length c) := Blk.cell hx1 2
  have hx1f2 : World.frozen? w1 ⟨w.heap.size, 2, none⟩ = false := Blk.free hx1 2
  clear hx1
  go_wp2_with fail
  go_ret
  exact ⟨rfl, HB1.out⟩

set_option maxHeartbeats 4000000 in
set_option maxRecDepth 100000 in
theorem send_cut {w : World} {F : Nat → Prop} {b : Nat} {n : Int} {L : List S24} {D : DataW Unit} {M : Nat} (h : AirRep w F b n L D M) (f t : Int) (A : Option Addr) (l : List Int) (c : Nat) (hb : (bad n f || bad n t) = false) (hl : l.length ≤ 262144) (hp : (Lit.int .i64 f).wf = true) (hq : (Lit.int .i64 t).wf = true) (hh : Maps.has D (wayLit f t) = true) :
    Calls Try.prog 8 #[.pointer (some ⟨b, 0, none⟩), .agg #[.int .i64 f, .int .i64 t, .slice A l.length c]] w fun e w' => e = .returned (.int .i64 0) ∧ Below w.heap.size w w' := by
  have HA := Aside0.mk h
  have HC := Aside0.mk h.cell0
  have hbn : b < w.heap.size := World.block_lt_of_cell? w _ h.cell0
  have HB := Aside0.mk hb
  clear hb h
  have HH := Aside0.mk hh
  clear hh
  go_enter Try.func8, Try.ntmps8
  go_wp2_with fail
  have hb0 := below_alloc (below_alloc (Below.refl w.heap.size w) (.cells #[.int .i64 f, .int .i64 t, .slice A l.length c] 24)) (.cells #[.int .i64 f, .int .i64 t] 3)
  have hbx0 := (Blk.new w #[.int .i64 f, .int .i64 t, .slice A l.length c] 24).alloc (.cells #[.int .i64 f, .int .i64 t] 3)
  have HB0 := Aside0.mk hb0
  have HX0 := Aside0.mk hbx0
  clear hb0 hbx0
  have hp := pair_reads (w.alloc (.cells #[.int .i64 f, .int .i64 t, .slice A l.length c] 24)) f t
  rw [World.size_alloc] at hp
  have HP := Aside0.mk hp
  clear hp
  refine (parties_any _ 2 f t n b _ HP.out ((HB0.out.cell (p := ⟨b, 0, none⟩) hbn).trans HC.out)).mono ?_
  rintro e w1 ⟨rfl, hb⟩
  rw [HB.out]
  have HB1 := Aside0.mk (HB0.out.trans (hb.mono HB0.out.size))
  have hx1 : Blk w1 w.heap.size #[.int .i64 f, .int .i64 t, .slice A l.length c] 24 := (hb.block _ HX0.out.lt).trans HX0.out
  have hz1 : w.heap.size < w1.heap.size := hx1.lt
  have HX1 := Aside0.mk hx1
  clear hb
  have hx10 : World.cell? w1 ⟨w.heap.size, 0, none⟩ = some (.int .i64 f) := Blk.cell hx1 0
  have hx1f0 : World.frozen? w1 ⟨w.heap.size, 0, none⟩ = false := Blk.free hx1 0
  have hx11 : World.cell? w1 ⟨w.heap.size, 1, none⟩ = some (.int .i64 t) := Blk.cell hx1 1
  have hx1f1 : World.frozen? w1 ⟨w.heap.size, 1, none⟩ = false := Blk.free hx1 1
  have hx12 : World.cell? w1 ⟨w.heap.size, 2, none⟩ = some (.slice A l.length c) := Blk.cell hx1 2
  have hx1f2 : World.frozen? w1 ⟨w.heap.size, 2, none⟩ = false := Blk.free hx1 2
  clear hx1
  go_wp2_with fail
  refine (is_any (HA.out.below HB1.out) f t hp hq).mono ?_
  rintro e w2 ⟨rfl, hb⟩
  rw [HH.out]
  have HB2 := Aside0.mk (HB1.out.trans (hb.mono HB1.out.size))
  have hx2 : Blk w2 w.heap.size #[.int .i64 f, .int .i64 t, .slice A l.length c] 24 := (hb.block _ HX1.out.lt).trans HX1.out
  have hz2 : w.heap.size < w2.heap.size := hx2.lt
  have HX2 := Aside0.mk hx2
  have HA2 := Aside0.mk (HA.out.below HB2.out)
  clear hb hx10 hx11 hx12 hx1f0 hx1f1 hx1f2 hz1
  have hx20 : World.cell? w2 ⟨w.heap.size, 0, none⟩ = some (.int .i64 f) := Blk.cell hx2 0
  have hx2f0 : World.frozen? w2 ⟨w.heap.size, 0, none⟩ = false := Blk.free hx2 0
  have hx21 : World.cell? w2 ⟨w.heap.size, 1, none⟩ = some (.int .i64 t) := Blk.cell hx2 1
  have hx2f1 : World.frozen? w2 ⟨w.heap.size, 1, none⟩ = false := Blk.free hx2 1
  have hx22 : World.cell? w2 ⟨w.heap.size, 2, none⟩ = some (.slice A l.length c) := Blk.cell hx2 2
  have hx2f2 : World.frozen? w2 ⟨w.heap.size, 2, none⟩ = false := Blk.free hx2 2
  clear hx2
  go_wp2
  go_ret
  exact ⟨rfl, HB2.out⟩

set_option maxHeartbeats 4000000 in
set_option maxRecDepth 100000 in
theorem send_full {w : World} {F : Nat → Prop} {b : Nat} {n : Int} {L : List S24} {D : DataW Unit} {M : Nat} (h : AirRep w F b n L D M) (f t : Int) (A : Option Addr) (l : List Int) (c : Nat) (hb : (bad n f || bad n t) = false) (hl : l.length ≤ 262144) (hp : (Lit.int .i64 f).wf = true) (hq : (Lit.int .i64 t).wf = true) (hh : Maps.has D (wayLit f t) = false) (hL : 4096 ≤ L.length) :
    Calls Try.prog 8 #[.pointer (some ⟨b, 0, none⟩), .agg #[.int .i64 f, .int .i64 t, .slice A l.length c]] w fun e w' => e = .returned (.int .i64 3) ∧ Below w.heap.size w w' := by
  have HA := Aside0.mk h
  have HC := Aside0.mk h.cell0
  have hbn : b < w.heap.size := World.block_lt_of_cell? w _ h.cell0
  have HB := Aside0.mk hb
  clear hb h
  have HH := Aside0.mk hh
  clear hh
  go_enter Try.func8, Try.ntmps8
  go_wp2_with fail
  have hb0 := below_alloc (below_alloc (Below.refl w.heap.size w) (.cells #[.int .i64 f, .int .i64 t, .slice A l.length c] 24)) (.cells #[.int .i64 f, .int .i64 t] 3)
  have hbx0 := (Blk.new w #[.int .i64 f, .int .i64 t, .slice A l.length c] 24).alloc (.cells #[.int .i64 f, .int .i64 t] 3)
  have HB0 := Aside0.mk hb0
  have HX0 := Aside0.mk hbx0
  clear hb0 hbx0
  have hp := pair_reads (w.alloc (.cells #[.int .i64 f, .int .i64 t, .slice A l.length c] 24)) f t
  rw [World.size_alloc] at hp
  have HP := Aside0.mk hp
  clear hp
  refine (parties_any _ 2 f t n b _ HP.out ((HB0.out.cell (p := ⟨b, 0, none⟩) hbn).trans HC.out)).mono ?_
  rintro e w1 ⟨rfl, hb⟩
  rw [HB.out]
  have HB1 := Aside0.mk (HB0.out.trans (hb.mono HB0.out.size))
  have hx1 : Blk w1 w.heap.size #[.int .i64 f, .int .i64 t, .slice A l.length c] 24 := (hb.block _ HX0.out.lt).trans HX0.out
  have hz1 : w.heap.size < w1.heap.size := hx1.lt
  have HX1 := Aside0.mk hx1
  clear hb
  have hx10 : World.cell? w1 ⟨w.heap.size, 0, none⟩ = some (.int .i64 f) := Blk.cell hx1 0
  have hx1f0 : World.frozen? w1 ⟨w.heap.size, 0, none⟩ = false := Blk.free hx1 0
  have hx11 : World.cell? w1 ⟨w.heap.size, 1, none⟩ = some (.int .i64 t) := Blk.cell hx1 1
  have hx1f1 : World.frozen? w1 ⟨w.heap.size, 1, none⟩ = false := Blk.free hx1 1
  have hx12 : World.cell? w1 ⟨w.heap.size, 2, none⟩ = some (.slice A l.length c) := Blk.cell hx1 2
  have hx1f2 : World.frozen? w1 ⟨w.heap.size, 2, none⟩ = false := Blk.free hx1 2
  clear hx1
  go_wp2_with fail
  refine (is_any (HA.out.below HB1.out) f t hp hq).mono ?_
  rintro e w2 ⟨rfl, hb⟩
  rw [HH.out]
  have HB2 := Aside0.mk (HB1.out.trans (hb.mono HB1.out.size))
  have hx2 : Blk w2 w.heap.size #[.int .i64 f, .int .i64 t, .slice A l.length c] 24 := (hb.block _ HX1.out.lt).trans HX1.out
  have hz2 : w.heap.size < w2.heap.size := hx2.lt
  have HX2 := Aside0.mk hx2
  have HA2 := Aside0.mk (HA.out.below HB2.out)
  clear hb hx10 hx11 hx12 hx1f0 hx1f1 hx1f2 hz1
  have hx20 : World.cell? w2 ⟨w.heap.size, 0, none⟩ = some (.int .i64 f) := Blk.cell hx2 0
  have hx2f0 : World.frozen? w2 ⟨w.heap.size, 0, none⟩ = false := Blk.free hx2 0
  have hx21 : World.cell? w2 ⟨w.heap.size, 1, none⟩ = some (.int .i64 t) := Blk.cell hx2 1
  have hx2f1 : World.frozen? w2 ⟨w.heap.size, 1, none⟩ = false := Blk.free hx2 1
  have hx22 : World.cell? w2 ⟨w.heap.size, 2, none⟩ = some (.slice A l.length c) := Blk.cell hx2 2
  have hx2f2 : World.frozen? w2 ⟨w.heap.size, 2, none⟩ = false := Blk.free hx2 2
  clear hx2
  obtain ⟨v, bm, h1, h2, h3, h4, h5, h6⟩ := HA2.out
  obtain ⟨A3, c3, rfl, hc3, hC3⟩ := Kd.R_reads h2
  have h10 : World.cell? w2 ⟨b, 0, none⟩ = some (.int .i64 n) := Blk.cell h1 0
  have h1f0 : World.frozen? w2 ⟨b, 0, none⟩ = false := Blk.free h1 0
  have h11 : World.cell? w2 ⟨b, 1, none⟩ = some (.slice A3 L.length c3) := Blk.cell h1 1
  have h1f1 : World.frozen? w2 ⟨b, 1, none⟩ = false := Blk.free h1 1
  have h12 : World.cell? w2 ⟨b, 2, none⟩ = some (.map (some bm)) := Blk.cell h1 2
  have h1f2 : World.frozen? w2 ⟨b, 2, none⟩ = false := Blk.free h1 2
  clear h1 h2 h3 h4 h5 h6 hC3 hc3
  go_wp2
  go_ret
  exact ⟨rfl, HB2.out⟩

set_option maxHeartbeats 4000000 in
set_option maxRecDepth 100000 in
theorem send_ok {w : World} {F : Nat → Prop} {b : Nat} {n : Int} {L : List S24} {D : DataW Unit} {M : Nat} (h : AirRep w F b n L D M) (f t : Int) (A : Option Addr) (l : List Int) (c : Nat) (hb : (bad n f || bad n t) = false) (hl : l.length ≤ 262144) (hp : (Lit.int .i64 f).wf = true) (hq : (Lit.int .i64 t).wf = true) (hh : Maps.has D (wayLit f t) = false) (hL : L.length < 4096) (hr : Kd.C (Kd.int .u8) w A l.length l) :
    Calls Try.prog 8 #[.pointer (some ⟨b, 0, none⟩), .agg #[.int .i64 f, .int .i64 t, .slice A l.length c]] w fun e w' => e = .returned (.int .i64 0) ∧ AirRep w' (fun k => F k ∨ (w.heap.size ≤ k ∧ k < w'.heap.size)) b n (L ++ [⟨f, t, l⟩]) D M ∧ Turned F w w' := by
  have HA := Aside0.mk h
  have HC := Aside0.mk h.cell0
  have hbn : b < w.heap.size := World.block_lt_of_cell? w _ h.cell0
  have HB := Aside0.mk hb
  clear hb h
  have HH := Aside0.mk hh
  have HR := Aside0.mk hr
  clear hh hr
  go_enter Try.func8, Try.ntmps8
  go_wp2_with fail
  have hb0 := below_alloc (below_alloc (Below.refl w.heap.size w) (.cells #[.int .i64 f, .int .i64 t, .slice A l.length c] 24)) (.cells #[.int .i64 f, .int .i64 t] 3)
  have hbx0 := (Blk.new w #[.int .i64 f, .int .i64 t, .slice A l.length c] 24).alloc (.cells #[.int .i64 f, .int .i64 t] 3)
  have HB0 := Aside0.mk hb0
  have HX0 := Aside0.mk hbx0
  clear hb0 hbx0
  have hp := pair_reads (w.alloc (.cells #[.int .i64 f, .int .i64 t, .slice A l.length c] 24)) f t
  rw [World.size_alloc] at hp
  have HP := Aside0.mk hp
  clear hp
  refine (parties_any _ 2 f t n b _ HP.out ((HB0.out.cell (p := ⟨b, 0, none⟩) hbn).trans HC.out)).mono ?_
  rintro e w1 ⟨rfl, hb⟩
  rw [HB.out]
  have HB1 := Aside0.mk (HB0.out.trans (hb.mono HB0.out.size))
  have hx1 : Blk w1 w.heap.size #[.int .i64 f, .int .i64 t, .slice A l.length c] 24 := (hb.block _ HX0.out.lt).trans HX0.out
  have hz1 : w.heap.size < w1.heap.size := hx1.lt
  have HX1 := Aside0.mk hx1
  clear hb
  have hx10 : World.cell? w1 ⟨w.heap.size, 0, none⟩ = some (.int .i64 f) := Blk.cell hx1 0
  have hx1f0 : World.frozen? w1 ⟨w.heap.size, 0, none⟩ = false := Blk.free hx1 0
  have hx11 : World.cell? w1 ⟨w.heap.size, 1, none⟩ = some (.int .i64 t) := Blk.cell hx1 1
  have hx1f1 : World.frozen? w1 ⟨w.heap.size, 1, none⟩ = false := Blk.free hx1 1
  have hx12 : World.cell? w1 ⟨w.heap.size, 2, none⟩ = some (.slice A l.length c) := Blk.cell hx1 2
  have hx1f2 : World.frozen? w1 ⟨w.heap.size, 2, none⟩ = false := Blk.free hx1 2
  clear hx1
  go_wp2_with fail
  refine (is_any (HA.out.below HB1.out) f t hp hq).mono ?_
  rintro e w2 ⟨rfl, hb⟩
  rw [HH.out]
  have HB2 := Aside0.mk (HB1.out.trans (hb.mono HB1.out.size))
  have hx2 : Blk w2 w.heap.size #[.int .i64 f, .int .i64 t, .slice A l.length c] 24 := (hb.block _ HX1.out.lt).trans HX1.out
  have hz2 : w.heap.size < w2.heap.size := hx2.lt
  have HX2 := Aside0.mk hx2
  have HA2 := Aside0.mk (HA.out.below HB2.out)
  clear hb hx10 hx11 hx12 hx1f0 hx1f1 hx1f2 hz1
  have hx20 : World.cell? w2 ⟨w.heap.size, 0, none⟩ = some (.int .i64 f) := Blk.cell hx2 0
  have hx2f0 : World.frozen? w2 ⟨w.heap.size, 0, none⟩ = false := Blk.free hx2 0
  have hx21 : World.cell? w2 ⟨w.heap.size, 1, none⟩ = some (.int .i64 t) := Blk.cell hx2 1
  have hx2f1 : World.frozen? w2 ⟨w.heap.size, 1, none⟩ = false := Blk.free hx2 1
  have hx22 : World.cell? w2 ⟨w.heap.size, 2, none⟩ = some (.slice A l.length c) := Blk.cell hx2 2
  have hx2f2 : World.frozen? w2 ⟨w.heap.size, 2, none⟩ = false := Blk.free hx2 2
  clear hx2
  obtain ⟨v, bm, h1, h2, h3, h4, h5, h6⟩ := HA2.out
  obtain ⟨A3, c3, rfl, hc3, hC3⟩ := Kd.R_reads h2
  have hbn2 : b < w2.heap.size := h1.lt
  have h10 : World.cell? w2 ⟨b, 0, none⟩ = some (.int .i64 n) := Blk.cell h1 0
  have h1f0 : World.frozen? w2 ⟨b, 0, none⟩ = false := Blk.free h1 0
  have h11 : World.cell? w2 ⟨b, 1, none⟩ = some (.slice A3 L.length c3) := Blk.cell h1 1
  have h1f1 : World.frozen? w2 ⟨b, 1, none⟩ = false := Blk.free h1 1
  have h12 : World.cell? w2 ⟨b, 2, none⟩ = some (.map (some bm)) := Blk.cell h1 2
  have h1f2 : World.frozen? w2 ⟨b, 2, none⟩ = false := Blk.free h1 2
  have H1 := Aside0.mk h1
  have H2 := Aside0.mk h2
  have H3 := Aside0.mk h3
  have H6 := Aside0.mk h6
  clear h1 h2 h3 h6 hC3 hc3
  go_wp2_with fail
  refine (clone_any A c l _ (by omega) (Kd.C_below HR.out HB2.out)).mono ?_
  rintro e w3 ⟨v3, rfl, hR3, hb3⟩
  obtain ⟨A4, c4, rfl, hc4, hC4⟩ := Kd.R_reads hR3
  have HB3 := Aside0.mk (HB2.out.trans (hb3.mono HB2.out.size))
  have hx3 : Blk w3 w.heap.size #[.int .i64 f, .int .i64 t, .slice A l.length c] 24 := (hb3.block _ HX2.out.lt).trans HX2.out
  have hz3 : w.heap.size < w3.heap.size := hx3.lt
  have HX3 := Aside0.mk hx3
  have HA3 := Aside0.mk (HA2.out.below hb3)
  have HR3 := Aside0.mk hR3
  clear hb3 hx20 hx21 hx22 hx2f0 hx2f1 hx2f2 hz2 h10 h11 h12 h1f0 h1f1 h1f2 H1 H2 H3 H6 h4 h5 hbn2 hC4 hc4 hR3
  obtain ⟨v5, bm5, h1, h2, h3, h4, h5, h6⟩ := HA3.out
  have h7 := trivial
  have hx30 : World.cell? w3 ⟨w.heap.size, 0, none⟩ = some (.int .i64 f) := Blk.cell hx3 0
  have hx3f0 : World.frozen? w3 ⟨w.heap.size, 0, none⟩ = false := Blk.free hx3 0
  have hx31 : World.cell? w3 ⟨w.heap.size, 1, none⟩ = some (.int .i64 t) := Blk.cell hx3 1
  have hx3f1 : World.frozen? w3 ⟨w.heap.size, 1, none⟩ = false := Blk.free hx3 1
  have hx32 : World.cell? w3 ⟨w.heap.size, 2, none⟩ = some (.slice A l.length c) := Blk.cell hx3 2
  have hx3f2 : World.frozen? w3 ⟨w.heap.size, 2, none⟩ = false := Blk.free hx3 2
  clear hx3
  go_wp2_with fail
  obtain ⟨A5, c5, rfl, hc5, hC5⟩ := Kd.R_reads h2
  have hT4 : Turned (fun k => k = w.heap.size) w3 (w3.setCell ⟨w.heap.size, 2, none⟩ (.slice A4 l.length c4)) := Turned.setCell (S := fun k => k = w.heap.size) (Turned.refl _ _) (.inl rfl) _
  have hFn : ∀ k, F k → k ≠ w.heap.size := fun k hk e => by subst e; obtain ⟨_, _, _, _, _, _, _, h9⟩ := HA.out; exact absurd (h9 _ hk) (Nat.lt_irrefl _)
  have hx4 : Blk (w3.setCell ⟨w.heap.size, 2, none⟩ (.slice A4 l.length c4)) w.heap.size #[.int .i64 f, .int .i64 t, .slice A4 l.length c4] 24 := HX3.out.set 2 _
  have hA4 := HA3.out.step hT4 hFn
  have hR4 : Kd.R (Kd.int .u8) 5 (w3.setCell ⟨w.heap.size, 2, none⟩ (.slice A4 l.length c4)) w2.heap.size (fun _ => True) (.slice A4 l.length c4) l := R_under HR3.out (by exact HX2.out.lt)
  have hB4 : Below w.heap.size w (w3.setCell ⟨w.heap.size, 2, none⟩ (.slice A4 l.length c4)) := HB3.out.setCell (by exact Nat.le_refl _) _
  generalize w3.setCell ⟨w.heap.size, 2, none⟩ (.slice A4 l.length c4) = w4 at hx4 hA4 hR4 hB4 ⊢
  clear h1 h2 h3 h4 h5 h6 hC5 hc5 hx30 hx31 hx32 hx3f0 hx3f1 hx3f2 hT4 hz3 h7
  obtain ⟨v6, bm6, h1, h2, h3, h4, h5, h6⟩ := hA4
  obtain ⟨A6, c6, rfl, hc6, hC6⟩ := Kd.R_reads h2
  have hx40 : World.cell? w4 ⟨w.heap.size, 0, none⟩ = some (.int .i64 f) := Blk.cell hx4 0
  have hx4f0 : World.frozen? w4 ⟨w.heap.size, 0, none⟩ = false := Blk.free hx4 0
  have hx41 : World.cell? w4 ⟨w.heap.size, 1, none⟩ = some (.int .i64 t) := Blk.cell hx4 1
  have hx4f1 : World.frozen? w4 ⟨w.heap.size, 1, none⟩ = false := Blk.free hx4 1
  have hx42 : World.cell? w4 ⟨w.heap.size, 2, none⟩ = some (.slice A4 l.length c4) := Blk.cell hx4 2
  have hx4f2 : World.frozen? w4 ⟨w.heap.size, 2, none⟩ = false := Blk.free hx4 2
  have h10 : World.cell? w4 ⟨b, 0, none⟩ = some (.int .i64 n) := Blk.cell h1 0
  have h1f0 : World.frozen? w4 ⟨b, 0, none⟩ = false := Blk.free h1 0
  have h11 : World.cell? w4 ⟨b, 1, none⟩ = some (.slice A6 L.length c6) := Blk.cell h1 1
  have h1f1 : World.frozen? w4 ⟨b, 1, none⟩ = false := Blk.free h1 1
  have h12 : World.cell? w4 ⟨b, 2, none⟩ = some (.map (some bm6)) := Blk.cell h1 2
  have h1f2 : World.frozen? w4 ⟨b, 2, none⟩ = false := Blk.free h1 2
  have hz4 : w.heap.size < w4.heap.size := hx4.lt
  have hbn4 : b < w4.heap.size := h1.lt
  have HX4 := Aside0.mk hx4
  have H1 := Aside0.mk h1
  have H2 := Aside0.mk h2
  have H3 := Aside0.mk h3
  have H6 := Aside0.mk h6
  have HR4 := Aside0.mk hR4
  have HB4 := Aside0.mk hB4
  have HFN := Aside0.mk hFn
  clear hx4 h1 h2 h3 h6 hC6 hc6 hR4 hB4 hFn
  have hsz4 : w.heap.size ≤ w4.heap.size := HB4.out.size
  have hok : Kd.R k24 24 w4.drew 0 (fun k => F k ∨ w.heap.size ≤ k) (.slice A6 L.length c6) L := Kd.R_drew (Kd.R_mono H2.out (fun _ hk => .inl hk))
  have hp : k24.M w4.drew 0 (fun k => w.heap.size ≤ k) ⟨f, t, l⟩ [.int .i64 f, .int .i64 t, .slice A4 l.length c4] :=
    k24_mkM _ _ _ ⟨f, t, l⟩ (Kd.R_lower (Kd.R_drew (Kd.R_mono (Kd.R_bound HR4.out) (fun k hk => Nat.le_trans (by have := HB2.out.size; exact this) hk.2.1))) (Nat.zero_le _))
  have hFlt : ∀ k, F k → k < w.heap.size := by obtain ⟨_, _, _, _, _, _, _, h9⟩ := HA.out; exact h9
  have hne : ∀ k, w.heap.size ≤ k → (F k ∨ w.heap.size ≤ k) ∧ some k ≠ (Value.slice A6 L.length c6).ownBlock := fun k hk => ⟨.inr hk, fun e => by have := hFlt k (H2.out.1 k e.symm); omega⟩
  have HOK := Aside0.mk hok
  have HP := Aside0.mk hp
  have HFL := Aside0.mk hFlt
  have HNE := Aside0.mk hne
  clear hok hp hFlt hne
  go_region_law (refine Kd.R_append_step k24 (W := w4.drew) (w0 := w4.drew) 0 rfl (.tmp 44) (.tmp 46) 44 24 (.agg #[(.int .i64 0), (.int .i64 0), (.slice none 0 0)]) 40 rfl Try.underlying44 info24 rfl (by decide) (by omega) (.slice A6 L.length c6) L ⟨f, t, l⟩ [.int .i64 f, .int .i64 t, .slice A4 l.length c4] (fun k => F k ∨ w.heap.size ≤ k) (fun k => w.heap.size ≤ k) (by simp [Act.eval, Act.put]) (by simp [Act.eval, Act.put]) HP.out HNE.out (fun k hk => .inr (Nat.le_trans hsz4 hk)) HOK.out (Below.refl _ _) (Nat.zero_le _) (by omega) ?_; intro v7 w7 hr7 hb7 hg7 hat7; obtain ⟨A7, c7, rfl, hc7, hC7⟩ := Kd.R_reads hr7; rw [show (L ++ [(⟨f, t, l⟩ : S24)]).length = L.length + 1 from by simp] at hr7 ⊢; have hx7 : Blk w7 b #[.int .i64 n, .slice A6 L.length c6, .map (some bm6)] 48 := (hg7.block b hbn4 (Kd.R_ne (HOK.out) H1.out (by decide))).trans H1.out; have h70 : w7.cell? ⟨b, 0, none⟩ = some (.int .i64 n) := Blk.cell hx7 0; have h71 : w7.cell? ⟨b, 1, none⟩ = some (.slice A6 L.length c6) := Blk.cell hx7 1; have h7f : w7.frozen? ⟨b, 1, none⟩ = false := Blk.free hx7 1; have HX7 := Aside0.mk hx7; have HR7 := Aside0.mk hr7; have HG7 := Aside0.mk hg7; have HAT7 := Aside0.mk hat7; clear hx7 hr7 hb7 hg7 hat7 hC7 hc7)
  all_goals
    go_wp2
    go_ret
    obtain ⟨k1, k2⟩ := append_close (w := w) HFL.out (HB4.out) H1.out H2.out H3.out h4 h5 HG7.out HX7.out HR7.out
    exact ⟨rfl, k1, k2⟩
end Go.Proofs.Ytikfelmmelkioaa.Mine
