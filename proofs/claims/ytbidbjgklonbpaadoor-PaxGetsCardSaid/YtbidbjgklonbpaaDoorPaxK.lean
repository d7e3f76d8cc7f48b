/- pax: Get's deferred catch, and slices.Clip. -/
import Derived.Test.YtbidbjgklonbpaaDoorPaxI
import Derived.Recover
set_option linter.unusedSimpArgs false
set_option linter.unusedVariables false
namespace Go.Proofs.YtbidbjgklonbpaaDoor.Mine
open Go.RowKit Go.Maps Go.Proofs.YtbidbjgklonbpaaDoorW.PrintWords Go.Proofs.YtbidbjgklonbpaaDoorW.PrintLast Go.Proofs.YtbidbjgklonbpaaDoorW.PrintMore Go.Proofs.YtbidbjgklonbpaaDoor.Turn Go.Proofs.YtbidbjgklonbpaaDoor.PPaxGets

theorem assert72 (x y : Int) (W : World) : (Instr.typeAssert (.iface 72 (.agg #[.int .i64 x, .int .i64 y])) 20 72 true).run Tryd.prog W = .ok (.tuple #[.agg #[.int .i64 x, .int .i64 y], .bool true]) W := by
  simp [Instr.typeAssert, go_sem]
set_option maxHeartbeats 1000000 in
theorem catch_idle (p q r : Addr) (w : World) :
    CallsD Tryd.prog 39 #[.pointer (some p), .pointer (some q), .pointer (some r)] .returning w fun e u' w' => e = .returned (.tuple #[]) ∧ u' = .returning ∧ w' = w := by
  refine callsD_of_wpS Tryd.func39 rfl fun c₀ cs hu => ?_
  apply wpS_seq
  apply wpS_region
  simp [wpOpsS, go_sem, recoverD, hu, Tryd.ntmps39, Exit.thenS]
  have hrep : (Array.replicate 18 undef : Array Value) = #[undef, undef, undef, undef, undef, undef, undef, undef, undef, undef, undef, undef, undef, undef, undef, undef, undef, undef] := rfl
  refine wpS_of_wp ?_
  simp [hrep]
  clear hrep
  go_wp2
  cases c₀
  simp_all [bodyPostS, results, Tryd.results39]
theorem Blk_drew2 {w : World} {b : Nat} {cs : Array Value} {t : TypeId} (h : Blk w b cs t) : Blk w.drew b cs t := h

set_option maxHeartbeats 4000000 in
theorem catch_wrong (g b d : Nat) (x y : Int) (vl va ve : Value) (older : List PanicEntry) (w : World) (hg : Blk w g #[vl] 33) (hb : Blk w b #[va] 3) (hd : Blk w d #[ve] 25) :
    CallsD Tryd.prog 39 #[.pointer (some ⟨g, 0, none⟩), .pointer (some ⟨b, 0, none⟩), .pointer (some ⟨d, 0, none⟩)] (.panicking ({ v := .iface 72 (.agg #[.int .i64 x, .int .i64 y]), recovered := false } :: older)) w fun e u' w' =>
      e = .returned (.tuple #[]) ∧ u' = .panicking ({ v := .iface 72 (.agg #[.int .i64 x, .int .i64 y]), recovered := true } :: older) ∧
      Turned (fun k => k = g ∨ k = b ∨ k = d) w w' ∧ Blk w' g #[.slice none 0 0] 33 ∧ Blk w' b #[.int .i64 x] 3 ∧ Blk w' d #[.int .i64 y] 25 := by
  have HG := Aside0.mk hg
  have HB := Aside0.mk hb
  have HD := Aside0.mk hd
  have hgb : g ≠ b := fun e => by subst e; have := hg.symm.trans hb; simp at this
  have hgd : g ≠ d := fun e => by subst e; have := hg.symm.trans hd; simp at this
  have hbd : b ≠ d := fun e => by subst e; have := hb.symm.trans hd; simp at this
  have hl1 := hg.lt
  have hl2 := hb.lt
  have hl3 := hd.lt
  have hg0 : World.cell? w ⟨g, 0, none⟩ = some (vl) := Blk.cell hg 0
  have hgf0 : World.frozen? w ⟨g, 0, none⟩ = false := Blk.free hg 0
  have hb0 : World.cell? w ⟨b, 0, none⟩ = some (va) := Blk.cell hb 0
  have hbf0 : World.frozen? w ⟨b, 0, none⟩ = false := Blk.free hb 0
  have hd0 : World.cell? w ⟨d, 0, none⟩ = some (ve) := Blk.cell hd 0
  have hdf0 : World.frozen? w ⟨d, 0, none⟩ = false := Blk.free hd 0
  clear hg hb hd
  refine callsD_of_wpS Tryd.func39 rfl fun c₀ cs hu => ?_
  apply wpS_seq
  apply wpS_region
  simp [wpOpsS, go_sem, recoverD, hu, Tryd.ntmps39, Exit.thenS]
  have hta := fun W => assert72 x y W
  have hrep : (Array.replicate 18 undef : Array Value) = #[undef, undef, undef, undef, undef, undef, undef, undef, undef, undef, undef, undef, undef, undef, undef, undef, undef, undef] := rfl
  refine wpS_of_wp ?_
  simp [hrep]
  clear hrep
  go_wp2_with fail
  go_region
  have zg := (((HG.out.set 0 (.slice none 0 0)).far (p := ⟨b, 0, none⟩) hgb (.int .i64 x)).far (p := ⟨d, 0, none⟩) hgd (.int .i64 y)).alloc (.cells #[.int .i64 x, .int .i64 y] 72)
  have zb := (((HB.out.far (p := ⟨g, 0, none⟩) (fun h => hgb h.symm) (.slice none 0 0)).set 0 (.int .i64 x)).far (p := ⟨d, 0, none⟩) hbd (.int .i64 y)).alloc (.cells #[.int .i64 x, .int .i64 y] 72)
  have zd := (((HD.out.far (p := ⟨g, 0, none⟩) (fun h => hgd h.symm) (.slice none 0 0)).far (p := ⟨b, 0, none⟩) (fun h => hbd h.symm) (.int .i64 x)).set 0 (.int .i64 y)).alloc (.cells #[.int .i64 x, .int .i64 y] 72)
  have t0 := (Turned.refl (fun k => k = g ∨ k = b ∨ k = d) w).setCell (p := ⟨g, 0, none⟩) (.inl (.inl rfl)) (.slice none 0 0)
  have t1 := t0.setCell (p := ⟨b, 0, none⟩) (.inl (.inr (.inl rfl))) (.int .i64 x)
  have t2 := ((t1.setCell (p := ⟨d, 0, none⟩) (.inl (.inr (.inr rfl))) (.int .i64 y)).alloc (.cells #[.int .i64 x, .int .i64 y] 72)).drew
  refine ⟨rfl, .panicking ({ v := .iface 72 (.agg #[.int .i64 x, .int .i64 y]), recovered := true } :: older), ?_, .tuple #[], ?_, rfl, rfl, t2, Blk_drew2 zg, Blk_drew2 zb, Blk_drew2 zd⟩
  · rfl
  · exact results_none rfl _ _ _

theorem clip_any (A : Option Addr) (c : Nat) (n : Nat) (hn : n ≤ 9223372036854775807) (hc : n ≤ c) (w : World) : Calls Tryd.prog 38 #[.slice A n c] w fun e w' => e = .returned (.slice A n n) ∧ w' = w := by
  go_enter Tryd.func38, Tryd.ntmps38
  go_wp2_with fail
  go_ret
  first | exact ⟨rfl, rfl⟩ | trivial
end Go.Proofs.YtbidbjgklonbpaaDoor.Mine
