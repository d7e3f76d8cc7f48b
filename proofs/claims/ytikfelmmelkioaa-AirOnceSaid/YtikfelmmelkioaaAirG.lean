/- Contracts of Lose and Carry. -/
import Derived.Test.YtikfelmmelkioaaAirF
set_option linter.unusedSimpArgs false
set_option linter.unusedVariables false
namespace Go.Proofs.Ytikfelmmelkioaa.Mine
open Go.RowKit Go.Maps Go.Proofs.YtikfelmmelkioaaW.PrintWords Go.Proofs.YtikfelmmelkioaaW.PrintLast Go.Proofs.YtikfelmmelkioaaW.PrintMore Go.Proofs.Ytikfelmmelkioaa.PAirOnce Go.Proofs.Ytikfelmmelkioaa.Turn

theorem R_cut {α : Type} {d : Kd α} {e base g cap : Nat} {w : World} {ok : Nat → Prop} {xs : List α} (h : d.R e w base ok (.slice (some ⟨g, 0, none⟩) xs.length cap) xs) (m : Nat) (hm : m ≤ xs.length) : d.R e w base ok (.slice (some ⟨g, 0, none⟩) m cap) (xs.take m) := by
  obtain ⟨h0, inner, hown, hr⟩ := h
  have hl : (xs.take m).length = m := by rw [List.length_take]; omega
  have hle : m * d.sz ≤ xs.length * d.sz := Nat.mul_le_mul_right _ hm
  refine ⟨h0, inner.take (m * d.sz), ?_, ?_⟩
  · rcases hown.2 with ⟨e1, _⟩ | ⟨g', cap', cur, e1, q0, q1, q2, q3, q4, q5⟩
    · cases e1
    · rw [hl]
      injection e1 with e1 e2 e3
      injection e1 with e1
      injection e1 with e1
      subst e1; subst e3
      refine ⟨by rw [List.length_take, hown.1]; omega, .inr ⟨g, cap, cur, rfl, q0, q1, by omega, q3, q4, ?_⟩⟩
      rw [← q5, List.take_take, Nat.min_eq_left hle]
  · refine ⟨by rw [List.length_take, hown.1, hl]; omega, fun j p hj => ?_⟩
    rw [List.getElem?_take] at hj
    split at hj
    · rename_i hjm
      have h1 := hr.2 j p hj
      have hle2 : j * d.sz + d.sz ≤ m * d.sz := by
        have := Nat.mul_le_mul_right d.sz (show j + 1 ≤ m by omega)
        rw [Nat.add_mul, Nat.one_mul] at this
        exact this
      have e : ((inner.take (m * d.sz)).drop (j * d.sz)).take d.sz = (inner.drop (j * d.sz)).take d.sz := by
        rw [List.drop_take, List.take_take, Nat.min_eq_left (by omega)]
      rw [e]
      exact h1
    · cases hj

theorem toEnd_take {α : Type} (L : List α) (i : Nat) (hi : i < L.length) : (toEnd L i).take (L.length - 1) = L.eraseIdx i := by
  unfold toEnd
  have hl : (L.eraseIdx i).length = L.length - 1 := by rw [List.length_eraseIdx]; simp [hi]
  rw [List.take_append_of_le_length (by omega), List.take_of_length_le (by omega)]

theorem cut_close {w : World} {F : Nat → Prop} {b g cap : Nat} {n : Int} {L : List S24} {D : DataW Unit} {M bm : Nat} (h1 : Blk w b #[.int .i64 n, .slice (some ⟨g, 0, none⟩) L.length cap, .map (some bm)] 48)
    (h2 : Kd.R k24 24 w 0 F (.slice (some ⟨g, 0, none⟩) L.length cap) L) (h3 : w.ownsMap Try.prog 53 (unitElem (H := Unit)) bm M D) (h4 : F b) (h5 : F bm) (h6 : ∀ k, F k → k < w.heap.size) (m : Nat) (hm : m ≤ L.length) :
    AirRep (w.setCell ⟨b, 1, none⟩ (.slice (some ⟨g, 0, none⟩) m cap)) F b n (L.take m) D M := by
  have hl : (L.take m).length = m := by rw [List.length_take]; omega
  refine ⟨.slice (some ⟨g, 0, none⟩) m cap, bm, h1.set 1 _, Kd.R_set (R_cut h2 m hm) h1 (by decide) 1 _, h3.setCell (a := ⟨b, 1, none⟩) ?_ _, h4, h5, fun k hk => by simpa [World.setCell] using h6 k hk⟩
  rintro rfl
  obtain ⟨es, clock, hmm, _⟩ := h3
  unfold Blk at h1
  rw [h1] at hmm
  cases hmm

set_option maxHeartbeats 1000000 in
theorem lose_nil (i : Int) (w : World) :
    Calls Try.prog 11 #[.pointer none, .int .i64 i] w fun e w' => e = .returned (.bool false) ∧ w = w' := by
  go_enter Try.func11, Try.ntmps11
  go_wp2_with (go_at_call 13; refine (hold_nil i _).mono ?_; rintro e w1 ⟨rfl, rfl⟩)
  go_ret
  exact ⟨rfl, rfl⟩
set_option maxHeartbeats 1000000 in
theorem lose_none {w : World} {F : Nat → Prop} {b : Nat} {n : Int} {L : List S24} {D : DataW Unit} {M : Nat} (h : AirRep w F b n L D M) (i : Int) (hi : i < 0 ∨ (L.length : Int) ≤ i) :
    Calls Try.prog 11 #[.pointer (some ⟨b, 0, none⟩), .int .i64 i] w fun e w' => e = .returned (.bool false) ∧ w = w' := by
  go_enter Try.func11, Try.ntmps11
  go_wp2_with (go_at_call 13; refine (hold_none h i hi).mono ?_; rintro e w1 ⟨rfl, rfl⟩)
  go_ret
  exact ⟨rfl, rfl⟩

set_option maxHeartbeats 2000000 in
set_option maxRecDepth 100000 in
theorem lose_ok {w : World} {F : Nat → Prop} {b : Nat} {n : Int} {L : List S24} {D : DataW Unit} {M : Nat} (h : AirRep w F b n L D M) (i : Nat) (hi : i < L.length) :
    Calls Try.prog 11 #[.pointer (some ⟨b, 0, none⟩), .int .i64 i] w fun e w' => e = .returned (.bool true) ∧ AirRep w' F b n (L.eraseIdx i) D M ∧ Turned F w w' := by
  have HA := Aside0.mk h
  have HK := Aside0.mk (toEnd_take L i hi)
  have hll := toEnd_length L i hi
  clear h
  go_enter Try.func11, Try.ntmps11
  go_wp2_with (go_at_call 13; refine (hold_ok HA.out i hi).mono ?_; rintro e w1 ⟨rfl, ha, ht⟩; have HA1 := Aside0.mk ha; have HT1 := Aside0.mk ht; clear ha ht)
  obtain ⟨v, bm, h1, h2, h3, h4, h5, h6⟩ := HA1.out
  generalize hL : toEnd L i = L2 at h2 hll
  have HL := Aside0.mk hL
  obtain ⟨inner, hown⟩ := Kd.R_own h2
  obtain ⟨g, cap, rfl, hcap, hcm⟩ : ∃ g cap, v = .slice (some ⟨g, 0, none⟩) L2.length cap ∧ L2.length ≤ cap ∧ cap ≤ 9223372036854775807 := by
    rcases hown.2 with ⟨_, e2⟩ | ⟨g', cap', cur, e, _, q1, q2, q3, q4, q5⟩
    · omega
    · exact ⟨g', cap', e, q2, q3⟩
  have h10 : World.cell? w1 ⟨b, 0, none⟩ = some (.int .i64 n) := Blk.cell h1 0
  have h1f0 : World.frozen? w1 ⟨b, 0, none⟩ = false := Blk.free h1 0
  have h11 : World.cell? w1 ⟨b, 1, none⟩ = some (.slice (some ⟨g, 0, none⟩) L2.length cap) := Blk.cell h1 1
  have h1f1 : World.frozen? w1 ⟨b, 1, none⟩ = false := Blk.free h1 1
  have h12 : World.cell? w1 ⟨b, 2, none⟩ = some (.map (some bm)) := Blk.cell h1 2
  have h1f2 : World.frozen? w1 ⟨b, 2, none⟩ = false := Blk.free h1 2
  have H1 := Aside0.mk h1
  have H2 := Aside0.mk h2
  have H3 := Aside0.mk h3
  have H6 := Aside0.mk h6
  have hLp : 0 < L2.length := by omega
  have HLL := Aside0.mk hll
  have hw1 : IntKind.i64.wrap ((L2.length : Int) - 1) = (L2.length : Int) - 1 := IntWalk.i64_in _ (by omega)
  have hw2 : 0 ≤ (L2.length : Int) - 1 := by omega
  have hw3 : (L2.length : Int) - 1 ≤ cap := by omega
  have hw4 : ((L2.length : Int) - 1).toNat = L2.length - 1 := by omega
  clear h1 h2 h3 h6 hown hL hll
  go_region
  all_goals
    go_wp2
    go_ret
    have k := cut_close H1.out H2.out H3.out h4 h5 H6.out (L2.length - 1) (by omega)
    have e : L2.take (L2.length - 1) = L.eraseIdx i := by rw [← HL.out, toEnd_length L i hi]; exact HK.out
    rw [e] at k
    exact ⟨rfl, k.below (Turned.toBelow (Turned.refl (fun _ => False) _).drew (Nat.le_refl _) (fun _ hk => hk.elim)), Turned.drew (HT1.out.setCell (.inl h4) _)⟩

set_option maxHeartbeats 1000000 in
theorem carry_nil (i : Int) (w : World) :
    Calls Try.prog 7 #[.pointer none, .int .i64 i] w fun e w' => e = .returned (.tuple #[.agg #[.int .i64 0, .int .i64 0, .slice none 0 0], .bool false]) ∧ Below w.heap.size w w' := by
  go_enter Try.func7, Try.ntmps7
  go_wp2_with fail
  refine (at_nil i _).mono ?_
  rintro e w1 ⟨rfl, hb⟩
  have HB := Aside0.mk (Below.trans (below_alloc (Below.refl w.heap.size w) _) (hb.mono (by simp)))
  have hx := (Blk.new w #[.int .i64 0, .int .i64 0, .slice none 0 0] 24)
  replace hx : Blk w1 w.heap.size #[.int .i64 0, .int .i64 0, .slice none 0 0] 24 := (hb.block _ hx.lt).trans hx
  have hn : w.heap.size < w1.heap.size := blk_lt hx
  have hx0 : World.cell? w1 ⟨w.heap.size, 0, none⟩ = some (.int .i64 0) := Blk.cell hx 0
  have hxf0 : World.frozen? w1 ⟨w.heap.size, 0, none⟩ = false := Blk.free hx 0
  have hx1 : World.cell? w1 ⟨w.heap.size, 1, none⟩ = some (.int .i64 0) := Blk.cell hx 1
  have hxf1 : World.frozen? w1 ⟨w.heap.size, 1, none⟩ = false := Blk.free hx 1
  have hx2 : World.cell? w1 ⟨w.heap.size, 2, none⟩ = some (.slice none 0 0) := Blk.cell hx 2
  have hxf2 : World.frozen? w1 ⟨w.heap.size, 2, none⟩ = false := Blk.free hx 2
  clear hx hb
  go_wp2_with fail
  refine (lose_nil i _).mono ?_
  rintro e w2 ⟨rfl, rfl⟩
  go_wp2
  refine bodyPost_ret (v := .tuple #[.agg #[.int .i64 0, .int .i64 0, .slice none 0 0], .bool false]) (by simp [results, Try.results7, go_sem, hx0, hx1, hx2, hn]) rfl ⟨rfl, ?_⟩
  repeat (first | exact HB.out | refine below_alloc ?_ _ | refine Below.setCell ?_ (by simp only []; omega) _)

set_option maxHeartbeats 1000000 in
theorem carry_none {w : World} {F : Nat → Prop} {b : Nat} {n : Int} {L : List S24} {D : DataW Unit} {M : Nat} (h : AirRep w F b n L D M) (i : Int) (hi : i < 0 ∨ (L.length : Int) ≤ i) :
    Calls Try.prog 7 #[.pointer (some ⟨b, 0, none⟩), .int .i64 i] w fun e w' => e = .returned (.tuple #[.agg #[.int .i64 0, .int .i64 0, .slice none 0 0], .bool false]) ∧ Below w.heap.size w w' := by
  have HA := Aside0.mk h
  have HI := Aside0.mk hi
  clear h hi
  go_enter Try.func7, Try.ntmps7
  go_wp2_with fail
  refine (at_none (HA.out.below (below_alloc (Below.refl _ _) _)) i HI.out).mono ?_
  rintro e w1 ⟨rfl, hb⟩
  have HB := Aside0.mk (Below.trans (below_alloc (Below.refl w.heap.size w) _) (hb.mono (by simp)))
  have hx := (Blk.new w #[.int .i64 0, .int .i64 0, .slice none 0 0] 24)
  replace hx : Blk w1 w.heap.size #[.int .i64 0, .int .i64 0, .slice none 0 0] 24 := (hb.block _ hx.lt).trans hx
  have hn : w.heap.size < w1.heap.size := blk_lt hx
  have hx0 : World.cell? w1 ⟨w.heap.size, 0, none⟩ = some (.int .i64 0) := Blk.cell hx 0
  have hxf0 : World.frozen? w1 ⟨w.heap.size, 0, none⟩ = false := Blk.free hx 0
  have hx1 : World.cell? w1 ⟨w.heap.size, 1, none⟩ = some (.int .i64 0) := Blk.cell hx 1
  have hxf1 : World.frozen? w1 ⟨w.heap.size, 1, none⟩ = false := Blk.free hx 1
  have hx2 : World.cell? w1 ⟨w.heap.size, 2, none⟩ = some (.slice none 0 0) := Blk.cell hx 2
  have hxf2 : World.frozen? w1 ⟨w.heap.size, 2, none⟩ = false := Blk.free hx 2
  clear hx hb
  go_wp2_with fail
  refine (lose_none ((HA.out.below HB.out).below (below_alloc (Below.refl _ _) _)) i HI.out).mono ?_
  rintro e w2 ⟨rfl, rfl⟩
  go_wp2
  refine bodyPost_ret (v := .tuple #[.agg #[.int .i64 0, .int .i64 0, .slice none 0 0], .bool false]) (by simp [results, Try.results7, go_sem, hx0, hx1, hx2, hn]) rfl ⟨rfl, ?_⟩
  repeat (first | exact HB.out | refine below_alloc ?_ _ | refine Below.setCell ?_ (by simp only []; omega) _)

set_option maxHeartbeats 2000000 in
set_option maxRecDepth 100000 in
theorem carry_ok {w : World} {F : Nat → Prop} {b : Nat} {n : Int} {L : List S24} {D : DataW Unit} {M : Nat} (h : AirRep w F b n L D M) (i : Nat) (hi : i < L.length) (hs : ∀ x ∈ L, x.f2.length ≤ 140737488355328) :
    Calls Try.prog 7 #[.pointer (some ⟨b, 0, none⟩), .int .i64 i] w fun e w' => ∃ A c, e = .returned (.tuple #[.agg #[.int .i64 (rd_T24 L i).f0, .int .i64 (rd_T24 L i).f1, .slice A (rd_T24 L i).f2.length c], .bool true]) ∧ Kd.R (Kd.int .u8) 5 w' w.heap.size (fun _ => True) (.slice A (rd_T24 L i).f2.length c) (rd_T24 L i).f2 ∧ AirRep w' F b n (L.eraseIdx i) D M ∧ Turned F w w' := by
  have HA := Aside0.mk h
  have HS := Aside0.mk hs
  obtain ⟨x, hx⟩ : ∃ x, x = rd_T24 L i := ⟨_, rfl⟩
  have HX := Aside0.mk hx
  clear h hs
  rw [← hx]
  clear hx
  go_enter Try.func7, Try.ntmps7
  go_wp2_with fail
  refine (at_some (HA.out.below (below_alloc (Below.refl _ _) _)) i (by omega) (by omega) HS.out).mono ?_
  rintro e w1 ⟨v1, rfl, hr, hb⟩
  rw [← HX.out] at hr ⊢
  obtain ⟨A1, c1, rfl, hc1, hC1⟩ := Kd.R_reads hr
  have HB := Aside0.mk (Below.trans (below_alloc (Below.refl w.heap.size w) _) (hb.mono (by simp)))
  have hx := (Blk.new w #[.int .i64 0, .int .i64 0, .slice none 0 0] 24)
  replace hx : Blk w1 w.heap.size #[.int .i64 0, .int .i64 0, .slice none 0 0] 24 := (hb.block _ hx.lt).trans hx
  have hn : w.heap.size < w1.heap.size := blk_lt hx
  have HR := Aside0.mk hr
  have HX1 := Aside0.mk hx
  have HFL : Aside0 (∀ k, F k → k < w.heap.size) := ⟨by obtain ⟨_, _, _, _, _, _, _, h9⟩ := HA.out; exact h9⟩
  clear hb hc1 hC1 hr hx
  go_wp2_with fail
  refine (lose_ok ((HA.out.below HB.out).below (below_alloc (Below.refl _ _) _)) i hi).mono ?_
  rintro e w2 ⟨rfl, ha, ht⟩
  have hne1 : ¬ F w.heap.size := fun hk => Nat.lt_irrefl _ (HFL.out _ hk)
  have hne2 : ¬ F w1.heap.size := fun hk => by have := HFL.out _ hk; omega
  have hx := ht.blk (HX1.out.alloc (.cells #[.int .i64 x.f0, .int .i64 x.f1, .slice A1 x.f2.length c1] 24)) hne1
  have hy := ht.blk (Blk.new w1 #[.int .i64 x.f0, .int .i64 x.f1, .slice A1 x.f2.length c1] 24) hne2
  have hn2 : w1.heap.size < w2.heap.size := blk_lt hy
  have hr2 : Kd.R (Kd.int .u8) 5 w2 (w.alloc (.cells #[.int .i64 0, .int .i64 0, .slice none 0 0] 24)).heap.size (fun _ => True) (.slice A1 x.f2.length c1) x.f2 :=
    Kd.R_mono (Kd.R_step (Kd.R_bound (Kd.R_alloc HR.out (.cells #[.int .i64 x.f0, .int .i64 x.f1, .slice A1 x.f2.length c1] 24))) (fun k hk hlt => ht.block k hlt (fun h => by have := HFL.out k h; have h3 := hk.2.1; rw [World.size_alloc] at h3; omega))) (fun _ _ => trivial)
  have HR2 := Aside0.mk hr2
  have HA2 := Aside0.mk ha
  have HT2 := Aside0.mk ((Turned.of_below HB.out F).alloc (.cells #[.int .i64 x.f0, .int .i64 x.f1, .slice A1 x.f2.length c1] 24) |>.then_ ht (fun k hk => .inl hk))
  have HY2 := Aside0.mk hy
  have HX2 := Aside0.mk hx
  clear HX1
  have hx0 : World.cell? w2 ⟨w.heap.size, 0, none⟩ = some (.int .i64 0) := Blk.cell hx 0
  have hxf0 : World.frozen? w2 ⟨w.heap.size, 0, none⟩ = false := Blk.free hx 0
  have hx1 : World.cell? w2 ⟨w.heap.size, 1, none⟩ = some (.int .i64 0) := Blk.cell hx 1
  have hxf1 : World.frozen? w2 ⟨w.heap.size, 1, none⟩ = false := Blk.free hx 1
  have hx2 : World.cell? w2 ⟨w.heap.size, 2, none⟩ = some (.slice none 0 0) := Blk.cell hx 2
  have hxf2 : World.frozen? w2 ⟨w.heap.size, 2, none⟩ = false := Blk.free hx 2
  have hy0 : World.cell? w2 ⟨w1.heap.size, 0, none⟩ = some (.int .i64 x.f0) := Blk.cell hy 0
  have hyf0 : World.frozen? w2 ⟨w1.heap.size, 0, none⟩ = false := Blk.free hy 0
  have hy1 : World.cell? w2 ⟨w1.heap.size, 1, none⟩ = some (.int .i64 x.f1) := Blk.cell hy 1
  have hyf1 : World.frozen? w2 ⟨w1.heap.size, 1, none⟩ = false := Blk.free hy 1
  have hy2 : World.cell? w2 ⟨w1.heap.size, 2, none⟩ = some (.slice A1 x.f2.length c1) := Blk.cell hy 2
  have hyf2 : World.frozen? w2 ⟨w1.heap.size, 2, none⟩ = false := Blk.free hy 2
  clear hx hy ha ht hr2
  go_wp2
  refine bodyPost_ret (v := .tuple #[.agg #[.int .i64 x.f0, .int .i64 x.f1, .slice A1 x.f2.length c1], .bool true]) (by simp [results, Try.results7, go_sem, hx0, hx1, hx2, hn, hn2]) rfl ⟨_, _, rfl, ?_, ?_, ?_⟩
  · refine Kd.R_lower (base := (w.alloc (.cells #[.int .i64 0, .int .i64 0, .slice none 0 0] 24)).heap.size) ?_ (by simp only [World.size_alloc]; omega)
    repeat (first | exact HR2.out | refine R_under ?_ (by simp only [World.size_alloc]; omega))
  · refine HA2.out.step (S := fun k => k = w.heap.size) ?_ (fun k hk e => hne1 (e ▸ hk))
    exact Turned.setCell (S := fun k => k = w.heap.size) (Turned.setCell (S := fun k => k = w.heap.size) (Turned.setCell (S := fun k => k = w.heap.size) (Turned.refl _ _) (.inl rfl) _) (.inl rfl) _) (.inl rfl) _
  · repeat (first | exact HT2.out | refine Turned.setCell ?_ (.inr (by exact Nat.le_refl _)) _)
end Go.Proofs.Ytikfelmmelkioaa.Mine
