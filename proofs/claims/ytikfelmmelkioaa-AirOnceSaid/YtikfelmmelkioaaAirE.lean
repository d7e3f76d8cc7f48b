/- Contracts of Double. -/
import Derived.Test.YtikfelmmelkioaaAirD2
set_option linter.unusedSimpArgs false
set_option linter.unusedVariables false
namespace Go.Proofs.Ytikfelmmelkioaa.Mine
open Go.RowKit Go.Maps Go.Proofs.YtikfelmmelkioaaW.PrintWords Go.Proofs.YtikfelmmelkioaaW.PrintLast Go.Proofs.YtikfelmmelkioaaW.PrintMore Go.Proofs.Ytikfelmmelkioaa.PAirOnce Go.Proofs.Ytikfelmmelkioaa.Turn

set_option maxHeartbeats 1000000 in
theorem at_nil (i : Int) (w : World) :
    Calls Try.prog 6 #[.pointer none, .int .i64 i] w fun e w' => e = .returned (.tuple #[.agg #[.int .i64 0, .int .i64 0, .slice none 0 0], .bool false]) ∧ Below w.heap.size w w' := by
  by_cases h : i < 0
  · go_enter Try.func6, Try.ntmps6
    go_wp2
    refine bodyPost_ret (v := .tuple #[.agg #[.int .i64 0, .int .i64 0, .slice none 0 0], .bool false]) (by simp [results, Try.results6, go_sem]) rfl ⟨rfl, ?_⟩
    exact below_alloc (Below.refl _ _) _
  · go_enter Try.func6, Try.ntmps6
    go_wp2
    refine bodyPost_ret (v := .tuple #[.agg #[.int .i64 0, .int .i64 0, .slice none 0 0], .bool false]) (by simp [results, Try.results6, go_sem]) rfl ⟨rfl, ?_⟩
    exact below_alloc (Below.refl _ _) _

set_option maxHeartbeats 1000000 in
theorem double_nil (i : Int) (w : World) :
    Calls Try.prog 12 #[.pointer none, .int .i64 i] w fun e w' => e = .returned (.bool false) ∧ Below w.heap.size w w' := by
  go_enter Try.func12, Try.ntmps12
  go_wp2_with (go_at_call 6; refine (at_nil i _).mono ?_; rintro e w1 ⟨rfl, hb⟩; have HB := Aside0.mk hb; clear hb)
  go_ret
  exact ⟨rfl, by first | exact HB.out | exact below_then HB.out HB.out.size (below_alloc (Below.refl _ _) _)⟩

set_option maxHeartbeats 1000000 in
theorem double_none {w : World} {F : Nat → Prop} {b : Nat} {n : Int} {L : List S24} {D : DataW Unit} {M : Nat} (h : AirRep w F b n L D M) (i : Int) (hi : i < 0 ∨ (L.length : Int) ≤ i) :
    Calls Try.prog 12 #[.pointer (some ⟨b, 0, none⟩), .int .i64 i] w fun e w' => e = .returned (.bool false) ∧ Below w.heap.size w w' := by
  go_enter Try.func12, Try.ntmps12
  go_wp2_with (go_at_call 6; refine (at_none h i hi).mono ?_; rintro e w1 ⟨rfl, hb⟩; have HB := Aside0.mk hb; clear hb)
  go_ret
  exact ⟨rfl, by first | exact HB.out | exact below_then HB.out HB.out.size (below_alloc (Below.refl _ _) _)⟩

set_option maxHeartbeats 4000000 in
set_option maxRecDepth 100000 in
theorem double_full {w : World} {F : Nat → Prop} {b : Nat} {n : Int} {L : List S24} {D : DataW Unit} {M : Nat} (h : AirRep w F b n L D M) (i : Int) (h0 : 0 ≤ i) (h1 : i < L.length) (hs : ∀ x ∈ L, x.f2.length ≤ 140737488355328) (hL : 4096 ≤ L.length) :
    Calls Try.prog 12 #[.pointer (some ⟨b, 0, none⟩), .int .i64 i] w fun e w' => e = .returned (.bool false) ∧ Below w.heap.size w w' := by
  have HA := Aside0.mk h
  have HS := Aside0.mk hs
  have hbn : b < w.heap.size := World.block_lt_of_cell? w _ h.cell0
  clear h hs
  go_enter Try.func12, Try.ntmps12
  go_wp2_with fail
  refine (at_some HA.out i h0 h1 HS.out).mono ?_
  rintro e w1 ⟨v1, rfl, hr, hb⟩
  obtain ⟨x, hx⟩ : ∃ x, x = rd_T24 L i := ⟨_, rfl⟩
  rw [← hx] at hr ⊢
  have HX := Aside0.mk hx
  obtain ⟨A1, c1, rfl, hc1, hC1⟩ := Kd.R_reads hr
  have HR := Aside0.mk hr
  have HB := Aside0.mk hb
  have hA1 := HA.out.below hb
  clear hr hb hc1 hC1 hx
  obtain ⟨v2, bm2, k1, k2, k3, k4, k5, k6⟩ := hA1
  obtain ⟨A2, c2, rfl, hc2, hC2⟩ := Kd.R_reads k2
  have hbn1 : b < w1.heap.size := k1.lt
  have k10 : World.cell? w1 ⟨b, 0, none⟩ = some (.int .i64 n) := Blk.cell k1 0
  have k1f0 : World.frozen? w1 ⟨b, 0, none⟩ = false := Blk.free k1 0
  have k11 : World.cell? w1 ⟨b, 1, none⟩ = some (.slice A2 L.length c2) := Blk.cell k1 1
  have k1f1 : World.frozen? w1 ⟨b, 1, none⟩ = false := Blk.free k1 1
  have k12 : World.cell? w1 ⟨b, 2, none⟩ = some (.map (some bm2)) := Blk.cell k1 2
  have k1f2 : World.frozen? w1 ⟨b, 2, none⟩ = false := Blk.free k1 2
  have K1 := Aside0.mk k1
  have K2 := Aside0.mk k2
  have K3 := Aside0.mk k3
  clear k1 k2 k3 k6 hc2 hC2
  go_wp2_with fail
  go_ret
  exact ⟨rfl, below_then HB.out HB.out.size (below_alloc (Below.refl _ _) _)⟩

set_option maxHeartbeats 4000000 in
set_option maxRecDepth 100000 in
theorem double_ok {w : World} {F : Nat → Prop} {b : Nat} {n : Int} {L : List S24} {D : DataW Unit} {M : Nat} (h : AirRep w F b n L D M) (i : Int) (h0 : 0 ≤ i) (h1 : i < L.length) (hs : ∀ x ∈ L, x.f2.length ≤ 140737488355328) (hL : L.length < 4096) :
    Calls Try.prog 12 #[.pointer (some ⟨b, 0, none⟩), .int .i64 i] w fun e w' => e = .returned (.bool true) ∧ AirRep w' (fun k => F k ∨ (w.heap.size ≤ k ∧ k < w'.heap.size)) b n (L ++ [rd_T24 L i]) D M ∧ Turned F w w' := by
  have HA := Aside0.mk h
  have HS := Aside0.mk hs
  have hbn : b < w.heap.size := World.block_lt_of_cell? w _ h.cell0
  clear h hs
  go_enter Try.func12, Try.ntmps12
  go_wp2_with fail
  refine (at_some HA.out i h0 h1 HS.out).mono ?_
  rintro e w1 ⟨v1, rfl, hr, hb⟩
  obtain ⟨x, hx⟩ : ∃ x, x = rd_T24 L i := ⟨_, rfl⟩
  rw [← hx] at hr ⊢
  have HX := Aside0.mk hx
  obtain ⟨A1, c1, rfl, hc1, hC1⟩ := Kd.R_reads hr
  have HR := Aside0.mk hr
  have HB := Aside0.mk hb
  have hA1 := HA.out.below hb
  clear hr hb hc1 hC1 hx
  obtain ⟨v2, bm2, k1, k2, k3, k4, k5, k6⟩ := hA1
  obtain ⟨A2, c2, rfl, hc2, hC2⟩ := Kd.R_reads k2
  have hbn1 : b < w1.heap.size := k1.lt
  have k10 : World.cell? w1 ⟨b, 0, none⟩ = some (.int .i64 n) := Blk.cell k1 0
  have k1f0 : World.frozen? w1 ⟨b, 0, none⟩ = false := Blk.free k1 0
  have k11 : World.cell? w1 ⟨b, 1, none⟩ = some (.slice A2 L.length c2) := Blk.cell k1 1
  have k1f1 : World.frozen? w1 ⟨b, 1, none⟩ = false := Blk.free k1 1
  have k12 : World.cell? w1 ⟨b, 2, none⟩ = some (.map (some bm2)) := Blk.cell k1 2
  have k1f2 : World.frozen? w1 ⟨b, 2, none⟩ = false := Blk.free k1 2
  have K1 := Aside0.mk k1
  have K2 := Aside0.mk k2
  have K3 := Aside0.mk k3
  clear k1 k2 k3 k6 hc2 hC2
  go_wp2_with fail
  have hx4 : Blk (w1.alloc (.cells #[.int .i64 x.f0, .int .i64 x.f1, .slice A1 x.f2.length c1] 24)) w1.heap.size #[.int .i64 x.f0, .int .i64 x.f1, .slice A1 x.f2.length c1] 24 := Blk.new _ _ _
  have hk1 := K1.out.alloc (.cells #[.int .i64 x.f0, .int .i64 x.f1, .slice A1 x.f2.length c1] 24)
  have hk2 := Kd.R_alloc K2.out (.cells #[.int .i64 x.f0, .int .i64 x.f1, .slice A1 x.f2.length c1] 24)
  have hk3 := K3.out.alloc (.cells #[.int .i64 x.f0, .int .i64 x.f1, .slice A1 x.f2.length c1] 24)
  have hR4 := Kd.R_alloc HR.out (.cells #[.int .i64 x.f0, .int .i64 x.f1, .slice A1 x.f2.length c1] 24)
  have hB4 := below_alloc HB.out (.cells #[.int .i64 x.f0, .int .i64 x.f1, .slice A1 x.f2.length c1] 24)
  have hsw : w1.heap.size < (w1.alloc (.cells #[.int .i64 x.f0, .int .i64 x.f1, .slice A1 x.f2.length c1] 24)).heap.size := by simp
  obtain ⟨N1, hN1⟩ : ∃ N1, N1 = w1.heap.size := ⟨_, rfl⟩
  rw [← hN1] at hx4 hsw ⊢
  generalize w1.alloc (.cells #[.int .i64 x.f0, .int .i64 x.f1, .slice A1 x.f2.length c1] 24) = w4 at hx4 hk1 hk2 hk3 hR4 hB4 hsw ⊢
  have hN2 : w.heap.size ≤ N1 := by rw [hN1]; exact HB.out.size
  clear K1 K2 K3 HR hN1 k10 k11 k12 k1f0 k1f1 k1f2 hbn1 HB
  have hx40 : World.cell? w4 ⟨N1, 0, none⟩ = some (.int .i64 x.f0) := Blk.cell hx4 0
  have hx4f0 : World.frozen? w4 ⟨N1, 0, none⟩ = false := Blk.free hx4 0
  have hx41 : World.cell? w4 ⟨N1, 1, none⟩ = some (.int .i64 x.f1) := Blk.cell hx4 1
  have hx4f1 : World.frozen? w4 ⟨N1, 1, none⟩ = false := Blk.free hx4 1
  have hx42 : World.cell? w4 ⟨N1, 2, none⟩ = some (.slice A1 x.f2.length c1) := Blk.cell hx4 2
  have hx4f2 : World.frozen? w4 ⟨N1, 2, none⟩ = false := Blk.free hx4 2
  have hk10 : World.cell? w4 ⟨b, 0, none⟩ = some (.int .i64 n) := Blk.cell hk1 0
  have hk1f0 : World.frozen? w4 ⟨b, 0, none⟩ = false := Blk.free hk1 0
  have hk11 : World.cell? w4 ⟨b, 1, none⟩ = some (.slice A2 L.length c2) := Blk.cell hk1 1
  have hk1f1 : World.frozen? w4 ⟨b, 1, none⟩ = false := Blk.free hk1 1
  have hk12 : World.cell? w4 ⟨b, 2, none⟩ = some (.map (some bm2)) := Blk.cell hk1 2
  have hk1f2 : World.frozen? w4 ⟨b, 2, none⟩ = false := Blk.free hk1 2
  have hbn4 : b < w4.heap.size := hk1.lt
  have hFlt : ∀ k, F k → k < w.heap.size := by obtain ⟨_, _, _, _, _, _, _, h9⟩ := HA.out; exact h9
  have hok : Kd.R k24 24 w4.drew 0 (fun k => F k ∨ w.heap.size ≤ k) (.slice A2 L.length c2) L := Kd.R_drew (Kd.R_mono hk2 (fun _ hk => .inl hk))
  have hp : k24.M w4.drew 0 (fun k => w.heap.size ≤ k) x [.int .i64 x.f0, .int .i64 x.f1, .slice A1 x.f2.length c1] :=
    k24_mkM _ _ _ x (Kd.R_lower (Kd.R_drew (Kd.R_mono (Kd.R_bound hR4) (fun k hk => hk.2.1))) (Nat.zero_le _))
  have hne : ∀ k, w.heap.size ≤ k → (F k ∨ w.heap.size ≤ k) ∧ some k ≠ (Value.slice A2 L.length c2).ownBlock := fun k hk => ⟨.inr hk, fun e => by have := hFlt k (hk2.1 k e.symm); omega⟩
  have HK1 := Aside0.mk hk1
  have HK2 := Aside0.mk hk2
  have HK3 := Aside0.mk hk3
  have HB4 := Aside0.mk hB4
  have hsz4 : w.heap.size ≤ w4.heap.size := HB4.out.size
  have HOK := Aside0.mk hok
  have HP := Aside0.mk hp
  have HFL := Aside0.mk hFlt
  have HNE := Aside0.mk hne
  clear hok hp hFlt hne hk1 hk2 hk3 hB4 hR4 hx4
  go_region_law (refine Kd.R_append_step k24 (W := w4.drew) (w0 := w4.drew) 0 rfl (.tmp 27) (.tmp 29) 44 24 (.agg #[(.int .i64 0), (.int .i64 0), (.slice none 0 0)]) 40 rfl Try.underlying44 info24 rfl (by decide) (by omega) (.slice A2 L.length c2) L x [.int .i64 x.f0, .int .i64 x.f1, .slice A1 x.f2.length c1] (fun k => F k ∨ w.heap.size ≤ k) (fun k => w.heap.size ≤ k) (by simp [Act.eval, Act.put]) (by simp [Act.eval, Act.put]) HP.out HNE.out (fun k hk => .inr (Nat.le_trans hsz4 hk)) HOK.out (Below.refl _ _) (Nat.zero_le _) (by omega) ?_; intro v7 w7 hr7 hb7 hg7 hat7; obtain ⟨A7, c7, rfl, hc7, hC7⟩ := Kd.R_reads hr7; rw [show (L ++ [x]).length = L.length + 1 from by simp] at hr7 ⊢; have hx7 : Blk w7 b #[.int .i64 n, .slice A2 L.length c2, .map (some bm2)] 48 := (hg7.block b hbn4 (Kd.R_ne (HOK.out) HK1.out (by decide))).trans HK1.out; have h70 : w7.cell? ⟨b, 0, none⟩ = some (.int .i64 n) := Blk.cell hx7 0; have h71 : w7.cell? ⟨b, 1, none⟩ = some (.slice A2 L.length c2) := Blk.cell hx7 1; have h7f : w7.frozen? ⟨b, 1, none⟩ = false := Blk.free hx7 1; have HX7 := Aside0.mk hx7; have HR7 := Aside0.mk hr7; have HG7 := Aside0.mk hg7; have HAT7 := Aside0.mk hat7; clear hx7 hr7 hb7 hg7 hat7 hC7 hc7)
  all_goals
    go_wp2
    go_ret
    obtain ⟨q1, q2⟩ := append_close (w := w) HFL.out (HB4.out) HK1.out HK2.out HK3.out k4 k5 HG7.out HX7.out HR7.out
    rw [HX.out] at q1
    exact ⟨rfl, q1, q2⟩
end Go.Proofs.Ytikfelmmelkioaa.Mine
