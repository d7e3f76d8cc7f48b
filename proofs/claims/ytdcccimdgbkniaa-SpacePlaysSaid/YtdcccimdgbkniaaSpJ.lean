/- space: the ten cells; SpaceNil. -/
import Derived.Test.YtdcccimdgbkniaaSpI
set_option linter.unusedSimpArgs false
set_option linter.unusedVariables false
namespace Go.Proofs.Ytdcccimdgbkniaa.Mine
open Go.RowKit Go.Maps Go.Proofs.YtdcccimdgbkniaaW.PrintWords Go.Proofs.YtdcccimdgbkniaaW.PrintLast Go.Proofs.YtdcccimdgbkniaaW.PrintMore Go.Proofs.Ytdcccimdgbkniaa.Turn

/-- An act: what, and a run. -/
abbrev Act3 := Int × (Int × Int)
abbrev kAct : Kd Act3 := Kd.pair (Kd.int .i64) (Kd.pair (Kd.int .i64) (Kd.int .i64))
theorem kAct_open {w : World} {x : Act3} {cs : List Value} (h : kAct.K w x cs) : cs = [.int .i64 x.1, .int .i64 x.2.1, .int .i64 x.2.2] := by
  obtain ⟨c1, c2, rfl, h1, c3, c4, rfl, h2, h3⟩ := h
  have e1 : c1 = [.int .i64 x.1] := h1
  have e2 : c3 = [.int .i64 x.2.1] := h2
  have e3 : c4 = [.int .i64 x.2.2] := h3
  rw [e1, e2, e3]
  rfl
theorem Sp.below_of {w w1 w2 : World} {base b B : Nat} {F : Nat → Prop} {n : Int} {l : List R2} (h : Sp w1 base F b n l) (ht : Turned F w1 w2) (hb : Below B w w1) (hB : B ≤ base) : Below B w w2 :=
  below_turned hb ht (Nat.le_trans hB h.size) (fun k hk => Nat.le_trans hB (h.mine k hk).1)

theorem wk1 : takeL (freeL 10) 3 = [(3, 10)] ∧ takeV (freeL 10) 3 = 0 ∧ takeE (freeL 10) 3 = 0 := by
  simp [takeL, takeV, takeE, freeL, firstAt, soT, cutL, leftL]
theorem wk2 : takeL [(3, 10)] 2 = [(5, 10)] ∧ takeV [(3, 10)] 2 = 3 ∧ takeE [(3, 10)] 2 = 0 := by
  simp [takeL, takeV, takeE, firstAt, soT, cutL, leftL]
theorem wk3 : giveL 10 [(5, 10)] 0 3 = [(0, 3), (5, 10)] ∧ giveE 10 [(5, 10)] 0 3 = 0 := by
  simp [giveL, giveE, giveI, mergeL, leftM, rightM, rightB, firstAt, soG, soA, soB]
theorem wk4 : takeL [(0, 3), (5, 10)] 4 = [(0, 3), (9, 10)] ∧ takeV [(0, 3), (5, 10)] 4 = 5 ∧ takeE [(0, 3), (5, 10)] 4 = 0 := by
  simp [takeL, takeV, takeE, firstAt, soT, cutL, leftL]
theorem wk5 : sumC (runL [(0, 3), (9, 10)]) = 4 := by simp [sumC, runL]
theorem wk6 : holdE 10 [(0, 3), (9, 10)] 5 1 = 5 := by simp [holdE, rightB, firstAt, soH]

theorem wk7 : ∀ k, k ≤ ([(0, 3), (9, 10)] : List R2).length → 0 ≤ sumC ((runL [(0, 3), (9, 10)]).take k) ∧ sumC ((runL [(0, 3), (9, 10)]).take k) ≤ 65536 := by
  intro k hk
  have h : k = 0 ∨ k = 1 ∨ k = 2 := by simp at hk; omega
  rcases h with rfl | rfl | rfl <;> simp [sumC, runL]

set_option maxHeartbeats 4000000 in
theorem wakes_any (w : World) : Calls Try.prog 7 #[] w fun e w' => e = .returned (.bool true) ∧ Below w.heap.size w w' := by
  go_enter Try.func7, Try.ntmps7
  go_wp2_with fail
  refine (new_ok 10 (by omega) (by omega) _).mono ?_
  rintro e w1 ⟨b, F, rfl, hs, hb⟩
  have HS := Aside0.mk hs
  have HB := Aside0.mk hb
  clear hs hb
  go_wp2_with fail
  refine (take_any HS.out (by simp [freeL]) (by simp [freeL, Small]) 3).mono ?_
  rw [wk1.1, wk1.2.1, wk1.2.2]
  (rintro e w2 ⟨F', rfl, hs, ht, hf⟩; have HB1 := Aside0.mk (Sp.below_of HS.out ht HB.out (Nat.le_refl _)); have HS1 := Aside0.mk hs; clear hs ht hf)
  go_wp2_with fail
  refine (take_any HS1.out (by simp) (by simp [Small]) 2).mono ?_
  rw [wk2.1, wk2.2.1, wk2.2.2]
  (rintro e w3 ⟨F', rfl, hs, ht, hf⟩; have HB2 := Aside0.mk (Sp.below_of HS1.out ht HB1.out (Nat.le_refl _)); have HS2 := Aside0.mk hs; clear hs ht hf)
  go_wp2_with fail
  refine (give_any HS2.out (by omega) (by omega) (by simp) 0 3 (by decide)).mono ?_
  rw [wk3.1, wk3.2]
  (rintro e w4 ⟨F', rfl, hs, ht, hf⟩; have HB3 := Aside0.mk (Sp.below_of HS2.out ht HB2.out (Nat.le_refl _)); have HS3 := Aside0.mk hs; clear hs ht hf)
  go_wp2_with fail
  refine (take_any HS3.out (by simp) (by simp [Small]) 4).mono ?_
  rw [wk4.1, wk4.2.1, wk4.2.2]
  (rintro e w5 ⟨F', rfl, hs, ht, hf⟩; have HB4 := Aside0.mk (Sp.below_of HS3.out ht HB3.out (Nat.le_refl _)); have HS4 := Aside0.mk hs; clear hs ht hf)
  go_wp2_with (first
    | (go_at_call 16; refine (free_any HS4.out (by simp) (by simp [Small]) wk7).mono ?_; rw [wk5]; rintro e w6 ⟨rfl, hb⟩; have HS5 := Aside0.mk (HS4.out.below hb); have HB5 := Aside0.mk (below_then HB4.out HB4.out.size hb); clear hb)
    | (go_at_call 12; refine (hold_any HS5.out (by omega) (by omega) (by simp) 5 1 (by decide)).mono ?_; rw [wk6]; rintro e w7 ⟨F', rfl, hs, ht, hf⟩; have HB6 := Aside0.mk (Sp.below_of HS5.out ht HB5.out (Nat.le_refl _)); clear hs ht hf))
  go_ret
  exact ⟨rfl, HB6.out⟩

set_option maxHeartbeats 4000000 in
theorem spaceNil_any (d a c : Int) (w : World) : Calls Try.prog 4 #[.agg #[.int .i64 d, .int .i64 a, .int .i64 c]] w fun e w' => e = .returned (.bool true) ∧ Below w.heap.size w w' := by
  go_enter Try.func4, Try.ntmps4
  go_wp2_with fail
  refine (take_nil _ _).mono ?_
  rintro e w1 ⟨rfl, hb⟩
  have HB := Aside0.mk (below_step (below_alloc (Below.refl _ _) (.cells #[.int .i64 d, .int .i64 a, .int .i64 c] 34)) hb)
  have hx : Blk w1 w.heap.size #[.int .i64 d, .int .i64 a, .int .i64 c] 34 := (hb.block _ (Blk.new w _ _).lt).trans (Blk.new w _ _)
  have HX := Aside0.mk hx
  have hxl := hx.lt
  have hx0 : World.cell? w1 ⟨w.heap.size, 0, none⟩ = some (.int .i64 d) := Blk.cell hx 0
  have hx1 : World.cell? w1 ⟨w.heap.size, 1, none⟩ = some (.int .i64 a) := Blk.cell hx 1
  have hx2 : World.cell? w1 ⟨w.heap.size, 2, none⟩ = some (.int .i64 c) := Blk.cell hx 2
  clear hb hx
  go_wp2_with (first
    | (go_at_call 12; refine (hold_nil a c _).mono ?_; rintro e w2 ⟨rfl, hb⟩; have HB2 := Aside0.mk (below_step HB.out hb); have hx2 : Blk w2 w.heap.size #[.int .i64 d, .int .i64 a, .int .i64 c] 34 := (hb.block _ HX.out.lt).trans HX.out; have hxl2 := hx2.lt; have p1 := (hx2.cell 1).trans rfl; have p2 := (hx2.cell 2).trans rfl; clear hx2 hb)
    | (go_at_call 14; refine (give_nil a c _).mono ?_; rintro e w3 ⟨rfl, hb⟩; have HB3 := Aside0.mk (below_step HB2.out hb); clear hb)
    | (go_at_call 16; refine (free_nil _).mono ?_; rintro e w4 ⟨rfl, rfl⟩)
    | (go_at_call 19; refine (runs_nil _).mono ?_; rintro e w5 ⟨rfl, rfl⟩)
    | (go_at_call 7; refine (wakes_any _).mono ?_; rintro e w6 ⟨rfl, hb⟩; have HB4 := Aside0.mk (below_step HB3.out hb); clear hb))
  go_ret
  exact ⟨rfl, HB4.out⟩
end Go.Proofs.Ytdcccimdgbkniaa.Mine
