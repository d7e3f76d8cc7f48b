/- pax: Get's deferred catch, and slices.Clip. -/
import Derived.Test.YtbidbjgklonbpaaDoorPaxL0
import Derived.Recover
set_option linter.unusedSimpArgs false
set_option linter.unusedVariables false
namespace Go.Proofs.YtbidbjgklonbpaaDoor.Mine
open Go.RowKit Go.Maps Go.Proofs.YtbidbjgklonbpaaDoorW.PrintWords Go.Proofs.YtbidbjgklonbpaaDoorW.PrintLast Go.Proofs.YtbidbjgklonbpaaDoorW.PrintMore Go.Proofs.YtbidbjgklonbpaaDoor.Turn Go.Proofs.YtbidbjgklonbpaaDoor.PPaxGets

theorem assert72 (x y : Int) (W : World) : (Instr.typeAssert (.iface 72 (.agg #[.int .i64 x, .int .i64 y])) 20 72 true).run Tryd.prog W = .ok (.tuple #[.agg #[.int .i64 x, .int .i64 y], .bool true]) W := by
  simp [Instr.typeAssert, go_sem]
set_option maxHeartbeats 1000000 in
theorem catch_idle (p q r : Addr) (w : World) :
    CallsD Tryd.prog 39 #[.pointer (some p), .pointer (some q), .pointer (some r)] .returning w fun e u' w' => e = .returned (.tuple #[]) ∧ u' = .returning ∧ w' = w := by
  refine callsD_of_wpS Tryd.func39 rfl fun c₀ cs hu => ?_
  apply wpS_seq
  apply wpS_region
  simp [wpOpsS, go_sem, recoverD, hu, Tryd.ntmps39, Exit.thenS]
  have hrep : (Array.replicate 18 undef : Array Value) = #[undef, undef, undef, undef, undef, undef, undef, undef, undef, undef, undef, undef, undef, undef, undef, undef, undef, undef] := rfl
  refine wpS_of_wp ?_
  simp [hrep]
  clear hrep
  go_wp2
  cases c₀
  simp_all [bodyPostS, results, Tryd.results39]
theorem Blk_drew2 {w : World} {b : Nat} {cs : Array Value} {t : TypeId} (h : Blk w b cs t) : Blk w.drew b cs t := h

set_option maxHeartbeats 4000000 in
theorem catch_wrong (g b d : Nat) (x y : Int) (vl va ve : Value) (older : List PanicEntry) (w : World) (hg : Blk w g #[vl] 33) (hb : Blk w b #[va] 3) (hd : Blk w d #[ve] 25) :
    CallsD Tryd.prog 39 #[.pointer (some ⟨g, 0, none⟩), .pointer (some ⟨b, 0, none⟩), .pointer (some ⟨d, 0, none⟩)] (.panicking ({ v := .iface 72 (.agg #[.int .i64 x, .int .i64 y]), recovered := false } :: older)) w fun e u' w' =>
      e = .returned (.tuple #[]) ∧ u' = .panicking ({ v := .iface 72 (.agg #[.int .i64 x, .int .i64 y]), recovered := true } :: older) ∧
      Turned (fun k => k = g ∨ k = b ∨ k = d) w w' ∧ Blk w' g #[.slice none 0 0] 33 ∧ Blk w' b #[.int .i64 x] 3 ∧ Blk w' d #[.int .i64 y] 25 := by
  have HG := Aside0.mk hg
  have HB := Aside0.mk hb
  have HD := Aside0.mk hd
  have hgb : g ≠ b := fun e => by subst e; have := hg.symm.trans hb; simp at this
  have hgd : g ≠ d := fun e => by subst e; have := hg.symm.trans hd; simp at this
  have hbd : b ≠ d := fun e => by subst e; have := hb.symm.trans hd; simp at this
  have hl1 := hg.lt
  have hl2 := hb.lt
  have hl3 := hd.lt
  have hg0 : World.cell? w ⟨g, 0, none⟩ = some (vl) := Blk.cell hg 0
  have hgf0 : World.frozen? w ⟨g, 0, none⟩ = false := Blk.free hg 0
  have hb0 : World.cell? w ⟨b, 0, none⟩ = some (va) := Blk.cell hb 0
  have hbf0 : World.frozen? w ⟨b, 0, none⟩ = false := Blk.free hb 0
  have hd0 : World.cell? w ⟨d, 0, none⟩ = some (ve) := Blk.cell hd 0
  have hdf0 : World.frozen? w ⟨d, 0, none⟩ = false := Blk.free hd 0
  clear hg hb hd
  refine callsD_of_wpS Tryd.func39 rfl fun c₀ cs hu => ?_
  apply wpS_seq
  apply wpS_region
  simp [wpOpsS, go_sem, recoverD, hu, Tryd.ntmps39, Exit.thenS]
  have hta := fun W => assert72 x y W
  have hrep : (Array.replicate 18 undef : Array Value) = #[undef, undef, undef, undef, undef, undef, undef, undef, undef, undef, undef, undef, undef, undef, undef, undef, undef, undef] := rfl
  refine wpS_of_wp ?_
  simp [hrep]
  clear hrep
  go_wp2_with fail
  go_region
  have zg := (((HG.out.set 0 (.slice none 0 0)).far (p := ⟨b, 0, none⟩) hgb (.int .i64 x)).far (p := ⟨d, 0, none⟩) hgd (.int .i64 y)).alloc (.cells #[.int .i64 x, .int .i64 y] 72)
  have zb := (((HB.out.far (p := ⟨g, 0, none⟩) (fun h => hgb h.symm) (.slice none 0 0)).set 0 (.int .i64 x)).far (p := ⟨d, 0, none⟩) hbd (.int .i64 y)).alloc (.cells #[.int .i64 x, .int .i64 y] 72)
  have zd := (((HD.out.far (p := ⟨g, 0, none⟩) (fun h => hgd h.symm) (.slice none 0 0)).far (p := ⟨b, 0, none⟩) (fun h => hbd h.symm) (.int .i64 x)).set 0 (.int .i64 y)).alloc (.cells #[.int .i64 x, .int .i64 y] 72)
  have t0 := (Turned.refl (fun k => k = g ∨ k = b ∨ k = d) w).setCell (p := ⟨g, 0, none⟩) (.inl (.inl rfl)) (.slice none 0 0)
  have t1 := t0.setCell (p := ⟨b, 0, none⟩) (.inl (.inr (.inl rfl))) (.int .i64 x)
  have t2 := ((t1.setCell (p := ⟨d, 0, none⟩) (.inl (.inr (.inr rfl))) (.int .i64 y)).alloc (.cells #[.int .i64 x, .int .i64 y] 72)).drew
  refine ⟨rfl, .panicking ({ v := .iface 72 (.agg #[.int .i64 x, .int .i64 y]), recovered := true } :: older), ?_, .tuple #[], ?_, rfl, rfl, t2, Blk_drew2 zg, Blk_drew2 zb, Blk_drew2 zd⟩
  · rfl
  · exact results_none rfl _ _ _

theorem clip_any (A : Option Addr) (c : Nat) (n : Nat) (hn : n ≤ 9223372036854775807) (hc : n ≤ c) (w : World) : Calls Tryd.prog 38 #[.slice A n c] w fun e w' => e = .returned (.slice A n n) ∧ w' = w := by
  go_enter Tryd.func38, Tryd.ntmps38
  go_wp2_with fail
  go_ret
  first | exact ⟨rfl, rfl⟩ | trivial
end Go.Proofs.YtbidbjgklonbpaaDoor.Mine
/- pax: how Get leaves. -/
set_option linter.unusedSimpArgs false
set_option linter.unusedVariables false
namespace Go.Proofs.YtbidbjgklonbpaaDoor.Mine
open Go.RowKit Go.Maps Go.Proofs.YtbidbjgklonbpaaDoorW.PrintWords Go.Proofs.YtbidbjgklonbpaaDoorW.PrintLast Go.Proofs.YtbidbjgklonbpaaDoorW.PrintMore Go.Proofs.YtbidbjgklonbpaaDoor.Turn Go.Proofs.YtbidbjgklonbpaaDoor.PPaxGets

theorem run_results24 (tmps : Array Value) (g b d : Nat) (v : Value) (x y : Int) (w : World) (h2 : tmps[2]? = some (.pointer (some ⟨g, 0, none⟩))) (h3 : tmps[3]? = some (.pointer (some ⟨b, 0, none⟩))) (h4 : tmps[4]? = some (.pointer (some ⟨d, 0, none⟩))) (hg : Blk w g #[v] 33) (hb : Blk w b #[.int .i64 x] 3) (hd : Blk w d #[.int .i64 y] 25) : (results Tryd.f24 tmps).run Tryd.prog w = .ok (.tuple #[v, .int .i64 x, .int .i64 y]) w := by
  have hg0 : w.cell? ⟨g, 0, none⟩ = some v := (hg.cell 0).trans rfl
  have hb0 : w.cell? ⟨b, 0, none⟩ = some (.int .i64 x) := (hb.cell 0).trans rfl
  have hd0 : w.cell? ⟨d, 0, none⟩ = some (.int .i64 y) := (hd.cell 0).trans rfl
  clear hg hb hd
  simp [results, Tryd.results24, h2, h3, h4, go_sem, hg0, hb0, hd0]

abbrev defers24 (w : World) : List Deferred := [{ target := .fn (.func 39) #[.pointer (some ⟨w.heap.size, 0, none⟩), .pointer (some ⟨w.heap.size + 1, 0, none⟩), .pointer (some ⟨w.heap.size + 2, 0, none⟩)], args := #[] }]
theorem leaves_wrong24 {w W : World} {tmps : Array Value} {v : Value} {a : Int} {acc : List S23} {r : List S23 × Int × Int} (x y : Int) (h2 : tmps[2]? = some (.pointer (some ⟨w.heap.size, 0, none⟩))) (h3 : tmps[3]? = some (.pointer (some ⟨w.heap.size + 1, 0, none⟩))) (h4 : tmps[4]? = some (.pointer (some ⟨w.heap.size + 2, 0, none⟩))) (h : GetW w W v a acc) (hr : r = ([], x, y)) :
    Leaves Tryd.prog Tryd.f24 tmps (EndsGet w r) (defers24 w) (.panicking [{ v := .iface 72 (.agg #[.int .i64 x, .int .i64 y]), recovered := false }]) W := by
  obtain ⟨k1, k2, k3, k4, k5, k6⟩ := h
  refine leaves_cons (f := 39) (args := #[.pointer (some ⟨w.heap.size, 0, none⟩), .pointer (some ⟨w.heap.size + 1, 0, none⟩), .pointer (some ⟨w.heap.size + 2, 0, none⟩)]) (by simp) (by simp [go_sem]) ?_
  refine (catch_wrong w.heap.size (w.heap.size + 1) (w.heap.size + 2) x y v (.int .i64 a) (.int .i64 0) [] W k2 k3 k4).mono ?_
  rintro e u' w3 ⟨rfl, rfl, ht, hg', hb', hd'⟩
  simp only [Leaves, settle, List.dropWhile]
  refine ⟨_, run_results24 tmps _ _ _ _ x y w3 h2 h3 h4 hg' hb' hd', below_turned k1 ht k1.size (fun k hk => by omega), none, 0, ?_, ?_, ?_⟩
  · rw [hr]; rfl
  · rw [hr]; exact Nat.le_refl _
  · rw [hr]; exact Kd.F_nil _ _ _
theorem leaves_right24 {w W : World} {tmps : Array Value} {A : Option Addr} {a : Int} {acc : List S23} {r : List S23 × Int × Int} {c : Nat} (h2 : tmps[2]? = some (.pointer (some ⟨w.heap.size, 0, none⟩))) (h3 : tmps[3]? = some (.pointer (some ⟨w.heap.size + 1, 0, none⟩))) (h4 : tmps[4]? = some (.pointer (some ⟨w.heap.size + 2, 0, none⟩))) (h : GetW w W (.slice A acc.length c) a acc) (hr : r = (acc, 0, 0)) :
    Leaves Tryd.prog Tryd.f24 tmps (EndsGet w r) (defers24 w) .returning (((W.setCell ⟨w.heap.size, 0, none⟩ (.slice A acc.length acc.length)).setCell ⟨w.heap.size + 1, 0, none⟩ (.int .i64 0)).setCell ⟨w.heap.size + 2, 0, none⟩ (.int .i64 0)) := by
  obtain ⟨k1, k2, k3, k4, k5, k6⟩ := h
  have zg := ((k2.set 0 (.slice A acc.length acc.length)).far (p := ⟨w.heap.size + 1, 0, none⟩) (by simp) (.int .i64 0)).far (p := ⟨w.heap.size + 2, 0, none⟩) (by simp) (.int .i64 0)
  have zb := ((k3.far (p := ⟨w.heap.size, 0, none⟩) (by simp) (.slice A acc.length acc.length)).set 0 (.int .i64 0)).far (p := ⟨w.heap.size + 2, 0, none⟩) (by simp) (.int .i64 0)
  have zd := ((k4.far (p := ⟨w.heap.size, 0, none⟩) (by simp) (.slice A acc.length acc.length)).far (p := ⟨w.heap.size + 1, 0, none⟩) (by simp) (.int .i64 0)).set 0 (.int .i64 0)
  have t2 := (((Turned.refl (fun k => k = w.heap.size ∨ k = w.heap.size + 1 ∨ k = w.heap.size + 2) W).setCell (p := ⟨w.heap.size, 0, none⟩) (.inl (.inl rfl)) (.slice A acc.length acc.length)).setCell (p := ⟨w.heap.size + 1, 0, none⟩) (.inl (.inr (.inl rfl))) (.int .i64 0)).setCell (p := ⟨w.heap.size + 2, 0, none⟩) (.inl (.inr (.inr rfl))) (.int .i64 0)
  refine leaves_cons (f := 39) (args := #[.pointer (some ⟨w.heap.size, 0, none⟩), .pointer (some ⟨w.heap.size + 1, 0, none⟩), .pointer (some ⟨w.heap.size + 2, 0, none⟩)]) (by simp) (by simp [go_sem]) ?_
  refine (catch_idle _ _ _ _).mono ?_
  rintro e u' w3 ⟨rfl, rfl, rfl⟩
  simp only [Leaves, settle]
  refine ⟨_, run_results24 tmps _ _ _ _ 0 0 _ h2 h3 h4 zg zb zd, below_turned k1 t2 k1.size (fun k hk => by omega), A, acc.length, ?_, ?_, ?_⟩
  · rw [hr]
  · rw [hr]; exact Nat.le_refl _
  · rw [hr]
    refine Kd.F_mono (Kd.F_step (Kd.R_F k6) (fun k hk hlt => t2.block k hlt (by have : w.heap.size + 3 ≤ k := hk; omega))) (fun k hk => by have : w.heap.size + 3 ≤ k := hk; omega)
end Go.Proofs.YtbidbjgklonbpaaDoor.Mine
