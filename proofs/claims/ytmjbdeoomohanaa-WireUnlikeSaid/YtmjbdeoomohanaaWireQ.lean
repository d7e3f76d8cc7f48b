/- wire: Parse's deferred closure. -/
import Derived.Test.YtmjbdeoomohanaaWireO
import Derived.Recover
set_option linter.unusedSimpArgs false
set_option linter.unusedVariables false
namespace Go.Proofs.Ytmjbdeoomohanaa.Mine
open Go.RowKit Go.Maps Go.Proofs.YtmjbdeoomohanaaW.PrintWords Go.Proofs.YtmjbdeoomohanaaW.PrintLast Go.Proofs.YtmjbdeoomohanaaW.PrintMore Go.Proofs.Ytmjbdeoomohanaa.PWirePacks Go.Proofs.Ytmjbdeoomohanaa.Turn

theorem assert63 (x : Int) (W : World) : (Instr.typeAssert (.iface 63 (.agg #[.int .i64 x])) 20 63 true).run Try.prog W = .ok (.tuple #[.agg #[.int .i64 x], .bool true]) W := by
  simp [Instr.typeAssert, go_sem]
theorem catch_idle (p q : Addr) (w : World) :
    CallsD Try.prog 32 #[.pointer (some p), .pointer (some q)] .returning w fun e u' w' => e = .returned (.tuple #[]) ∧ u' = .returning ∧ w' = w := by
  refine callsD_of_wpS Try.func32 rfl fun c₀ cs hu => ?_
  apply wpS_seq
  apply wpS_region
  simp [wpOpsS, go_sem, recoverD, hu, Try.ntmps32, Exit.thenS]
  refine wpS_of_wp ?_
  go_wp2
  cases c₀
  simp_all [bodyPostS, results, Try.results32]

theorem Blk_drew {w : World} {b : Nat} {cs : Array Value} {t : TypeId} (h : Blk w b cs t) : Blk w.drew b cs t := h
set_option maxHeartbeats 4000000 in
theorem catch_wrong (g b : Nat) (x y : Int) (v0 v1 v2 v3 v4 v5 v6 v7 v8 v9 v10 v11 v12 v13 : Value) (older : List PanicEntry) (w : World) (hg : Blk w g #[v0, v1, v2, v3, v4, v5, v6, v7, v8, v9, v10, v11, v12, v13] 29) (hgb : g ≠ b) (hb : Blk w b #[.int .i64 y] 26) :
    CallsD Try.prog 32 #[.pointer (some ⟨g, 0, none⟩), .pointer (some ⟨b, 0, none⟩)] (.panicking ({ v := .iface 63 (.agg #[.int .i64 x]), recovered := false } :: older)) w fun e u' w' =>
      e = .returned (.tuple #[]) ∧ u' = .panicking ({ v := .iface 63 (.agg #[.int .i64 x]), recovered := true } :: older) ∧
      Turned (fun k => k = g ∨ k = b) w w' ∧ Blk w' b #[.int .i64 x] 26 ∧ Blk w' g #[.int .u8 0, .int .u64 0, .int .u64 0, .int .i64 0, .int .i64 0, .slice none 0 0, .int .u64 0, .int .u64 0, .slice none 0 0, .int .u64 0, .int .u8 0, .int .u32 0, .int .i64 0, .slice none 0 0] 29 := by
  have HG := Aside0.mk hg
  have HB := Aside0.mk hb
  have hl1 := hg.lt
  have hl2 := hb.lt
  have hg0 : World.cell? w ⟨g, 0, none⟩ = some (v0) := Blk.cell hg 0
  have hgf0 : World.frozen? w ⟨g, 0, none⟩ = false := Blk.free hg 0
  have hg1 : World.cell? w ⟨g, 1, none⟩ = some (v1) := Blk.cell hg 1
  have hgf1 : World.frozen? w ⟨g, 1, none⟩ = false := Blk.free hg 1
  have hg2 : World.cell? w ⟨g, 2, none⟩ = some (v2) := Blk.cell hg 2
  have hgf2 : World.frozen? w ⟨g, 2, none⟩ = false := Blk.free hg 2
  have hg3 : World.cell? w ⟨g, 3, none⟩ = some (v3) := Blk.cell hg 3
  have hgf3 : World.frozen? w ⟨g, 3, none⟩ = false := Blk.free hg 3
  have hg4 : World.cell? w ⟨g, 4, none⟩ = some (v4) := Blk.cell hg 4
  have hgf4 : World.frozen? w ⟨g, 4, none⟩ = false := Blk.free hg 4
  have hg5 : World.cell? w ⟨g, 5, none⟩ = some (v5) := Blk.cell hg 5
  have hgf5 : World.frozen? w ⟨g, 5, none⟩ = false := Blk.free hg 5
  have hg6 : World.cell? w ⟨g, 6, none⟩ = some (v6) := Blk.cell hg 6
  have hgf6 : World.frozen? w ⟨g, 6, none⟩ = false := Blk.free hg 6
  have hg7 : World.cell? w ⟨g, 7, none⟩ = some (v7) := Blk.cell hg 7
  have hgf7 : World.frozen? w ⟨g, 7, none⟩ = false := Blk.free hg 7
  have hg8 : World.cell? w ⟨g, 8, none⟩ = some (v8) := Blk.cell hg 8
  have hgf8 : World.frozen? w ⟨g, 8, none⟩ = false := Blk.free hg 8
  have hg9 : World.cell? w ⟨g, 9, none⟩ = some (v9) := Blk.cell hg 9
  have hgf9 : World.frozen? w ⟨g, 9, none⟩ = false := Blk.free hg 9
  have hg10 : World.cell? w ⟨g, 10, none⟩ = some (v10) := Blk.cell hg 10
  have hgf10 : World.frozen? w ⟨g, 10, none⟩ = false := Blk.free hg 10
  have hg11 : World.cell? w ⟨g, 11, none⟩ = some (v11) := Blk.cell hg 11
  have hgf11 : World.frozen? w ⟨g, 11, none⟩ = false := Blk.free hg 11
  have hg12 : World.cell? w ⟨g, 12, none⟩ = some (v12) := Blk.cell hg 12
  have hgf12 : World.frozen? w ⟨g, 12, none⟩ = false := Blk.free hg 12
  have hg13 : World.cell? w ⟨g, 13, none⟩ = some (v13) := Blk.cell hg 13
  have hgf13 : World.frozen? w ⟨g, 13, none⟩ = false := Blk.free hg 13
  have hb0 : World.cell? w ⟨b, 0, none⟩ = some (.int .i64 y) := Blk.cell hb 0
  have hbf0 : World.frozen? w ⟨b, 0, none⟩ = false := Blk.free hb 0
  have HTU : Aside0 (∀ v : World, Turned (fun k => k = g ∨ k = b) v v) := ⟨fun v => Turned.refl _ v⟩
  clear hg hb
  refine callsD_of_wpS Try.func32 rfl fun c₀ cs hu => ?_
  apply wpS_seq
  apply wpS_region
  simp [wpOpsS, go_sem, recoverD, hu, Try.ntmps32, Exit.thenS]
  have hrep : (Array.replicate 12 undef : Array Value) = #[undef, undef, undef, undef, undef, undef, undef, undef, undef, undef, undef, undef] := rfl
  have hta := fun W => assert63 x W
  refine wpS_of_wp ?_
  simp [hrep]
  clear hrep
  go_wp2_with fail
  go_region
  have k0 : Blk _ g #[.int .u8 0, v1, v2, v3, v4, v5, v6, v7, v8, v9, v10, v11, v12, v13] 29 := HG.out.set 0 (.int .u8 0)
  have k1 : Blk _ g #[.int .u8 0, .int .u64 0, v2, v3, v4, v5, v6, v7, v8, v9, v10, v11, v12, v13] 29 := k0.set 1 (.int .u64 0)
  have k2 : Blk _ g #[.int .u8 0, .int .u64 0, .int .u64 0, v3, v4, v5, v6, v7, v8, v9, v10, v11, v12, v13] 29 := k1.set 2 (.int .u64 0)
  have k3 : Blk _ g #[.int .u8 0, .int .u64 0, .int .u64 0, .int .i64 0, v4, v5, v6, v7, v8, v9, v10, v11, v12, v13] 29 := k2.set 3 (.int .i64 0)
  have k4 : Blk _ g #[.int .u8 0, .int .u64 0, .int .u64 0, .int .i64 0, .int .i64 0, v5, v6, v7, v8, v9, v10, v11, v12, v13] 29 := k3.set 4 (.int .i64 0)
  have k5 : Blk _ g #[.int .u8 0, .int .u64 0, .int .u64 0, .int .i64 0, .int .i64 0, .slice none 0 0, v6, v7, v8, v9, v10, v11, v12, v13] 29 := k4.set 5 (.slice none 0 0)
  have k6 : Blk _ g #[.int .u8 0, .int .u64 0, .int .u64 0, .int .i64 0, .int .i64 0, .slice none 0 0, .int .u64 0, v7, v8, v9, v10, v11, v12, v13] 29 := k5.set 6 (.int .u64 0)
  have k7 : Blk _ g #[.int .u8 0, .int .u64 0, .int .u64 0, .int .i64 0, .int .i64 0, .slice none 0 0, .int .u64 0, .int .u64 0, v8, v9, v10, v11, v12, v13] 29 := k6.set 7 (.int .u64 0)
  have k8 : Blk _ g #[.int .u8 0, .int .u64 0, .int .u64 0, .int .i64 0, .int .i64 0, .slice none 0 0, .int .u64 0, .int .u64 0, .slice none 0 0, v9, v10, v11, v12, v13] 29 := k7.set 8 (.slice none 0 0)
  have k9 : Blk _ g #[.int .u8 0, .int .u64 0, .int .u64 0, .int .i64 0, .int .i64 0, .slice none 0 0, .int .u64 0, .int .u64 0, .slice none 0 0, .int .u64 0, v10, v11, v12, v13] 29 := k8.set 9 (.int .u64 0)
  have k10 : Blk _ g #[.int .u8 0, .int .u64 0, .int .u64 0, .int .i64 0, .int .i64 0, .slice none 0 0, .int .u64 0, .int .u64 0, .slice none 0 0, .int .u64 0, .int .u8 0, v11, v12, v13] 29 := k9.set 10 (.int .u8 0)
  have k11 : Blk _ g #[.int .u8 0, .int .u64 0, .int .u64 0, .int .i64 0, .int .i64 0, .slice none 0 0, .int .u64 0, .int .u64 0, .slice none 0 0, .int .u64 0, .int .u8 0, .int .u32 0, v12, v13] 29 := k10.set 11 (.int .u32 0)
  have k12 : Blk _ g #[.int .u8 0, .int .u64 0, .int .u64 0, .int .i64 0, .int .i64 0, .slice none 0 0, .int .u64 0, .int .u64 0, .slice none 0 0, .int .u64 0, .int .u8 0, .int .u32 0, .int .i64 0, v13] 29 := k11.set 12 (.int .i64 0)
  have k13 : Blk _ g #[.int .u8 0, .int .u64 0, .int .u64 0, .int .i64 0, .int .i64 0, .slice none 0 0, .int .u64 0, .int .u64 0, .slice none 0 0, .int .u64 0, .int .u8 0, .int .u32 0, .int .i64 0, .slice none 0 0] 29 := k12.set 13 (.slice none 0 0)
  have hgw := k13
  have hbw := (Blk.far (Blk.far (Blk.far (Blk.far (Blk.far (Blk.far (Blk.far (Blk.far (Blk.far (Blk.far (Blk.far (Blk.far (Blk.far (Blk.far HB.out (p := ⟨g, 0, none⟩) (fun h => hgb h.symm) (.int .u8 0)) (p := ⟨g, 1, none⟩) (fun h => hgb h.symm) (.int .u64 0)) (p := ⟨g, 2, none⟩) (fun h => hgb h.symm) (.int .u64 0)) (p := ⟨g, 3, none⟩) (fun h => hgb h.symm) (.int .i64 0)) (p := ⟨g, 4, none⟩) (fun h => hgb h.symm) (.int .i64 0)) (p := ⟨g, 5, none⟩) (fun h => hgb h.symm) (.slice none 0 0)) (p := ⟨g, 6, none⟩) (fun h => hgb h.symm) (.int .u64 0)) (p := ⟨g, 7, none⟩) (fun h => hgb h.symm) (.int .u64 0)) (p := ⟨g, 8, none⟩) (fun h => hgb h.symm) (.slice none 0 0)) (p := ⟨g, 9, none⟩) (fun h => hgb h.symm) (.int .u64 0)) (p := ⟨g, 10, none⟩) (fun h => hgb h.symm) (.int .u8 0)) (p := ⟨g, 11, none⟩) (fun h => hgb h.symm) (.int .u32 0)) (p := ⟨g, 12, none⟩) (fun h => hgb h.symm) (.int .i64 0)) (p := ⟨g, 13, none⟩) (fun h => hgb h.symm) (.slice none 0 0))
  have hgw2 := Aside0.mk (((hgw.far (p := ⟨b, 0, none⟩) hgb (.int .i64 x)).alloc (.cells #[.int .i64 x] 63)))
  have hbw2 := Aside0.mk (((hbw.set 0 (.int .i64 x)).alloc (.cells #[.int .i64 x] 63)))
  clear k0 k1 k2 k3 k4 k5 k6 k7 k8 k9 k10 k11 k12 k13 hgw hbw
  have t0 := (Turned.refl (fun k => k = g ∨ k = b) w).setCell (p := ⟨g, 0, none⟩) (.inl (.inl rfl)) (.int .u8 0)
  have t1 := t0.setCell (p := ⟨g, 1, none⟩) (.inl (.inl rfl)) (.int .u64 0)
  have t2 := t1.setCell (p := ⟨g, 2, none⟩) (.inl (.inl rfl)) (.int .u64 0)
  have t3 := t2.setCell (p := ⟨g, 3, none⟩) (.inl (.inl rfl)) (.int .i64 0)
  have t4 := t3.setCell (p := ⟨g, 4, none⟩) (.inl (.inl rfl)) (.int .i64 0)
  have t5 := t4.setCell (p := ⟨g, 5, none⟩) (.inl (.inl rfl)) (.slice none 0 0)
  have t6 := t5.setCell (p := ⟨g, 6, none⟩) (.inl (.inl rfl)) (.int .u64 0)
  have t7 := t6.setCell (p := ⟨g, 7, none⟩) (.inl (.inl rfl)) (.int .u64 0)
  have t8 := t7.setCell (p := ⟨g, 8, none⟩) (.inl (.inl rfl)) (.slice none 0 0)
  have t9 := t8.setCell (p := ⟨g, 9, none⟩) (.inl (.inl rfl)) (.int .u64 0)
  have t10 := t9.setCell (p := ⟨g, 10, none⟩) (.inl (.inl rfl)) (.int .u8 0)
  have t11 := t10.setCell (p := ⟨g, 11, none⟩) (.inl (.inl rfl)) (.int .u32 0)
  have t12 := t11.setCell (p := ⟨g, 12, none⟩) (.inl (.inl rfl)) (.int .i64 0)
  have t13 := t12.setCell (p := ⟨g, 13, none⟩) (.inl (.inl rfl)) (.slice none 0 0)
  have HT := Aside0.mk (((t13.setCell (p := ⟨b, 0, none⟩) (.inl (.inr rfl)) (.int .i64 x)).alloc (.cells #[.int .i64 x] 63)).drew)
  refine ⟨rfl, .panicking ({ v := .iface 63 (.agg #[.int .i64 x]), recovered := true } :: older), ?_, .tuple #[], ?_, rfl, rfl, HT.out, Blk_drew hbw2.out, Blk_drew hgw2.out⟩
  · rfl
  · exact results_none rfl _ _ _
end Go.Proofs.Ytmjbdeoomohanaa.Mine
