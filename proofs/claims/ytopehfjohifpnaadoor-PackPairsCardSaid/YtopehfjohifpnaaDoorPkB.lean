/- name: Each: the pieces, one behind the other, to whatever body. -/
import Derived.RangeFuncNested
import Derived.RangeFuncBound
import Derived.RangeFuncCalls
import Derived.RangeFuncLeaves
import Derived.RangeFuncFrom
import Derived.Shelf.Abstract
import Derived.Shelf.RegionOpen
import Derived.WalkKit
import Derived.OwnWalkIn
import Derived.TacticsInMore
import Derived.LoopNIn
import Derived.LoopIn
import Derived.Test.YtopehfjohifpnaaDoorPkA
set_option linter.unusedSimpArgs false
set_option linter.unusedVariables false
namespace Go.Proofs.YtopehfjohifpnaaDoor.Mine
open Go.RowKit Go.Shelf Go.Proofs.YtopehfjohifpnaaDoorW.PrintWords Go.Proofs.YtopehfjohifpnaaDoorW.PrintLast Go.Proofs.YtopehfjohifpnaaDoorW.PrintMore Go.Proofs.YtopehfjohifpnaaDoor.Turn Go.Proofs.YtopehfjohifpnaaDoor.PPackPairs

attribute [local go_sem] Oper.semAt_some

/-- What a round keeps: what lay below n0, and the box. -/
def KpE (n0 Bn : Nat) (W W' : World) : Prop := Below n0 W W' ∧ W'.heap[Bn]? = W.heap[Bn]?
theorem kpE_t {n0 Bn : Nat} {A B C : World} (h : KpE n0 Bn A B) (k : KpE n0 Bn B C) : KpE n0 Bn A C := ⟨h.1.trans k.1, k.2.trans h.2⟩
theorem kpE_b {n0 Bn : Nat} {w : World} (hn : n0 ≤ w.heap.size) (hB : Bn < w.heap.size) (W : World) (l : Nat) (o o' : Obj) (hl : w.heap.size ≤ l) (h : W.heap[l]? = some o) (h1 : o.isCells = false) (h2 : o.isWalk = false) : KpE n0 Bn W (W.putObj l o') :=
  ⟨belowK_b (w := w) hn W l o o' hl h h1 h2, (grownBy_putObj' W l o').block Bn (by have := (Array.getElem?_eq_some_iff.1 h).1; omega) (by simp; omega)⟩
theorem cell_same {W W' : World} {b i : Nat} {v : Value} (h : W.cell? ⟨b, i, none⟩ = some v) (he : W'.heap[b]? = W.heap[b]?) : W'.cell? ⟨b, i, none⟩ = some v := (World.cell?_of_block he).trans h

set_option maxRecDepth 100000 in
set_option maxHeartbeats 2000000 in
theorem each1_in (F : Fence) (n : Nat) (h57 : F.fn 57) (h43 : F.fn 43) (hro : F.round = none) (hn : 6 ≤ n) (l Bn n0 : Nat) (s : ByteArray) (hs : s.size ≤ 400) (J Jx : List S95 → World → Prop)
    (hY : ∀ pre x W, J pre W → pre.length < (pcs s).length → YieldAt F (n - 1) Tryd.prog l #[.int .i64 x.f0, .string x.f1] W fun e W' =>
      (e = .returned (.bool true) ∧ J (pre ++ [x]) W' ∧ KpE n0 Bn W W') ∨ (e = .returned (.bool false) ∧ Jx (pre ++ [x]) W'))
    (hIB : ∀ (m : Nat) (t : ByteArray) (W : World), 1 ≤ m → CallsIn F m Tryd.prog 43 #[.string t, .int .u8 47] W fun e W' => e = .returned (.int .i64 (Lib.indexByte t.data.toList 47)) ∧ W' = W)
    (W : World) (hBn : W.cell? ⟨Bn, 0, none⟩ = some (.string s)) (h0 : J [] W) :
    CallsIn F n Tryd.prog 57 #[.func (.yield l) #[] #[], .pointer (some ⟨Bn, 0, none⟩)] W fun e W' => (∃ v, e = .returned v) ∧
      ((∃ ys, ys = pcs s ∧ J ys W') ∨ (∃ pre, pre <+: pcs s ∧ Jx pre W')) := by
  refine callsIn_of_wp Tryd.func57 rfl h57 ?_ hro
  simp only [Tryd.ntmps57, List.size_toArray, List.length_cons, List.length_nil, Nat.reduceAdd, Nat.reduceSub, Array.replicate_succ, Array.replicate_zero, List.push_toArray, List.append_toArray, List.nil_append, List.cons_append]
  have h1 : 1 ≤ n - 1 := by omega
  have h1n : 1 ≤ n := by omega
  gi_wp2
  gi_loopw [3] (fun v3 wr => ∃ (pre : List S95) (a : Nat), v3 = .int .i64 a ∧ a ≤ s.size ∧ pcs s = pre ++ pcG s (s.size - a) a a ∧ J pre wr ∧ wr.cell? ⟨Bn, 0, none⟩ = some (.string s))
    (fun v3 _ => s.size + 1 - (intOf v3).toNat)
  case atStart => exact ⟨[], 0, rfl, Nat.zero_le _, rfl, h0, hBn⟩
  case round =>
    obtain ⟨pre, a, rfl, ha, hx, hJ, hbn⟩ := hrel
    have HX := Aside0.mk hx
    have HIX := Aside0.mk hIB
    have HYX := Aside0.mk hY
    clear hx
    rcases Int.lt_or_le (Lib.indexByte (s.extract a s.size).data.toList 47) 0 with hneg | hpos
    · have hl := pcs_last s a ha hneg
      have HL : Aside0 (pcs s = pre ++ [⟨(a : Int), s.extract a s.size⟩]) := ⟨by rw [HX.out, hl]⟩
      obtain ⟨fn, tmps, assign, body, hy, hR⟩ := HYX.out pre ⟨(a : Int), s.extract a s.size⟩ wr hJ (by rw [HL.out]; simp)
      dsimp only at hy
      have hcall := HIX.out (n - 1) (s.extract a s.size) wr h1
      generalize Lib.indexByte (s.extract a s.size).data.toList 47 = ix at *
      have HCALL := Aside0.mk hcall
      clear hl hIB hY hBn h0 hcall
      gi_wp2_with (gi_at_call 43; refine HCALL.out.mono ?_; rintro e w' ⟨rfl, rfl⟩)
      refine hR.mono ?_
      rintro e W3 (⟨rfl, hJ3, hk3⟩ | ⟨rfl, hJx3⟩)
      · gi_wp2
        refine bodyPost_ret (results_none rfl _ _ _) rfl ?_
        exact ⟨⟨_, rfl⟩, .inl ⟨_, HL.out.symm, hJ3⟩⟩
      · gi_wp2
        refine bodyPost_ret (results_none rfl _ _ _) rfl ?_
        exact ⟨⟨_, rfl⟩, .inr ⟨_, by rw [HL.out]; exact List.prefix_refl _, hJx3⟩⟩
    · obtain ⟨k, hk⟩ : ∃ k : Nat, Lib.indexByte (s.extract a s.size).data.toList 47 = k := ⟨(Lib.indexByte (s.extract a s.size).data.toList 47).toNat, by omega⟩
      obtain ⟨hlt, hm⟩ := pcs_more s a k ha hk
      have HL : Aside0 (pcs s = (pre ++ [⟨(a : Int), s.extract a (a + k)⟩]) ++ pcG s (s.size - (a + k + 1)) (a + k + 1) (a + k + 1)) := ⟨by rw [HX.out, hm]; simp⟩
      obtain ⟨fn, tmps, assign, body, hy, hR⟩ := HYX.out pre ⟨(a : Int), s.extract a (a + k)⟩ wr hJ (by rw [HL.out]; simp)
      dsimp only at hy
      have hcall := HIX.out (n - 1) (s.extract a s.size) wr h1
      rw [hk] at hcall
      have HCALL := Aside0.mk hcall
      have hsl : ∀ W, (Instr.slice 9 (.string s) (some (.int .i64 (a : Int))) (some (.int .i64 ((a : Int) + (k : Int)))) none).run Tryd.prog W = .ok (.string (s.extract a (a + k))) W := fun W => by
        have h := run_slice_string (P := Tryd.prog) (w := W) 9 s .i64 .i64 (a : Int) ((a : Int) + (k : Int)) Tryd.underlying9 (by omega) (by omega) (by omega)
        rw [h]
        congr 3
      clear hm hIB hY hBn h0 hcall hk hpos
      gi_wp2_with (gi_at_call 43; refine HCALL.out.mono ?_; rintro e w' ⟨rfl, rfl⟩)
      refine hR.mono ?_
      rintro e W3 (⟨rfl, hJ3, hk3⟩ | ⟨rfl, hJx3⟩)
      · have hbn3 := cell_same hbn hk3.2
        gi_wp2
        go_roundw
        case rel => exact ⟨_, a + k + 1, by go_num, by omega, HL.out, hJ3, hbn3⟩
        case measure => simp [intOf]; omega
      · gi_wp2
        refine bodyPost_ret (results_none rfl _ _ _) rfl ?_
        exact ⟨⟨_, rfl⟩, .inr ⟨_, by rw [HL.out]; exact List.prefix_append _ _, hJx3⟩⟩

set_option maxHeartbeats 1000000 in
theorem each_in (F : Fence) (n : Nat) (h42 : F.fn 42) (hro : F.round = none) (s : ByteArray) (w : World) :
    CallsIn F n Tryd.prog 42 #[.string s] w fun e w' => e = .returned (.func (.func 57) #[] #[.pointer (some ⟨w.heap.size, 0, none⟩)]) ∧ w' = w.alloc (.cells #[.string s] 9) := by
  refine callsIn_of_wp Tryd.func42 rfl h42 ?_ hro
  simp only [Tryd.ntmps42, List.size_toArray, List.length_cons, List.length_nil, Nat.reduceAdd, Nat.reduceSub, Array.replicate_succ, Array.replicate_zero, List.push_toArray, List.append_toArray, List.nil_append, List.cons_append]
  gi_wp2
  go_ret
  exact ⟨rfl, rfl⟩
theorem each_stops (F : Fence) (n : Nat) (h57 : F.fn 57) (h43 : F.fn 43) (hro : F.round = none) (hn : 6 ≤ n) (hIB : ∀ (m : Nat) (t : ByteArray) (W : World), 1 ≤ m → CallsIn F m Tryd.prog 43 #[.string t, .int .u8 47] W fun e W' => e = .returned (.int .i64 (Lib.indexByte t.data.toList 47)) ∧ W' = W) (Bn n0 : Nat) (s : ByteArray) (hs : s.size ≤ 400) (w : World) (hBn : Bn < w.heap.size) (hc : w.cell? ⟨Bn, 0, none⟩ = some (.string s)) :
    SeqStopsK F n Tryd.prog 57 #[.pointer (some ⟨Bn, 0, none⟩)] (fun x : S95 => #[.int .i64 x.f0, .string x.f1]) (KpE n0 Bn) (fun ys => ys = pcs s) (fun pre => pre <+: pcs s) (pcs s).length w := fun l J Jx W hW _ _ hY h0 =>
  each1_in F n h57 h43 hro hn l Bn n0 s hs J Jx hY hIB W ((hW.cell (p := ⟨Bn, 0, none⟩) hBn).trans hc) h0
end Go.Proofs.YtopehfjohifpnaaDoor.Mine
