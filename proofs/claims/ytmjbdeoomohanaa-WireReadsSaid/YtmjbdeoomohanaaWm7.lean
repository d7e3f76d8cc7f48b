import Derived.Test.YtmjbdeoomohanaaWm6
import Derived.LoopN

/- wire: the document's has, set, Check (printed by wip/gen/wireRc.py). -/
set_option linter.unusedSimpArgs false
set_option linter.unusedVariables false
namespace Go.Proofs.Ytmjbdeoomohanaa.Mine
open Go.RowKit Go.Maps Go.Proofs.YtmjbdeoomohanaaW.PrintWords Go.Proofs.YtmjbdeoomohanaaW.PrintLast Go.Proofs.YtmjbdeoomohanaaW.PrintMore Go.Proofs.Ytmjbdeoomohanaa.PWirePacks Go.Proofs.Ytmjbdeoomohanaa.Turn


set_option maxHeartbeats 4000000 in
set_option maxRecDepth 100000 in
theorem hasR_0 (w : World) : Calls Try.prog 29 #[.int .u8 0] w fun e w' => e = .returned (.agg (boolsV (hasB 0).testBit)) ∧ Below w.heap.size w w' := by
  have HH : Aside0 (boolsV (hasB 0).testBit = #[.bool false, .bool false, .bool false, .bool false, .bool false, .bool false, .bool false, .bool false, .bool false, .bool false, .bool false, .bool false, .bool false]) := ⟨rfl⟩
  go_enter Try.func29, Try.ntmps29
  go_wp2
  refine wp_loop_rounds 1 ?_
  rw [rounds_succ]
  go_wp2
  refine bodyPost_ret (v := .agg #[.bool false, .bool false, .bool false, .bool false, .bool false, .bool false, .bool false, .bool false, .bool false, .bool false, .bool false, .bool false, .bool false]) (by simp [results, Try.results29, go_sem]) rfl ⟨by rw [HH.out], below_alloc (below_alloc (Below.refl _ _) _) _⟩
set_option maxHeartbeats 4000000 in
set_option maxRecDepth 100000 in
theorem hasR_1 (w : World) : Calls Try.prog 29 #[.int .u8 1] w fun e w' => e = .returned (.agg (boolsV (hasB 1).testBit)) ∧ Below w.heap.size w w' := by
  have HH : Aside0 (boolsV (hasB 1).testBit = #[.bool true, .bool false, .bool true, .bool true, .bool true, .bool false, .bool false, .bool false, .bool false, .bool false, .bool false, .bool false, .bool false]) := ⟨rfl⟩
  go_enter Try.func29, Try.ntmps29
  go_wp2
  refine wp_loop_rounds 5 ?_
  rw [rounds_succ]
  go_wp2
  rw [rounds_succ]
  go_wp2
  rw [rounds_succ]
  go_wp2
  rw [rounds_succ]
  go_wp2
  rw [rounds_succ]
  go_wp2
  refine bodyPost_ret (v := .agg #[.bool true, .bool false, .bool true, .bool true, .bool true, .bool false, .bool false, .bool false, .bool false, .bool false, .bool false, .bool false, .bool false]) (by simp [results, Try.results29, go_sem]) rfl ⟨by rw [HH.out], below_alloc (below_alloc (below_alloc (Below.refl _ _) _) _) _⟩
set_option maxHeartbeats 4000000 in
set_option maxRecDepth 100000 in
theorem hasR_2 (w : World) : Calls Try.prog 29 #[.int .u8 2] w fun e w' => e = .returned (.agg (boolsV (hasB 2).testBit)) ∧ Below w.heap.size w w' := by
  have HH : Aside0 (boolsV (hasB 2).testBit = #[.bool true, .bool false, .bool true, .bool false, .bool false, .bool false, .bool false, .bool false, .bool false, .bool false, .bool false, .bool false, .bool false]) := ⟨rfl⟩
  go_enter Try.func29, Try.ntmps29
  go_wp2
  refine wp_loop_rounds 3 ?_
  rw [rounds_succ]
  go_wp2
  rw [rounds_succ]
  go_wp2
  rw [rounds_succ]
  go_wp2
  refine bodyPost_ret (v := .agg #[.bool true, .bool false, .bool true, .bool false, .bool false, .bool false, .bool false, .bool false, .bool false, .bool false, .bool false, .bool false, .bool false]) (by simp [results, Try.results29, go_sem]) rfl ⟨by rw [HH.out], below_alloc (below_alloc (below_alloc (Below.refl _ _) _) _) _⟩
set_option maxHeartbeats 4000000 in
set_option maxRecDepth 100000 in
theorem hasR_3 (w : World) : Calls Try.prog 29 #[.int .u8 3] w fun e w' => e = .returned (.agg (boolsV (hasB 3).testBit)) ∧ Below w.heap.size w w' := by
  have HH : Aside0 (boolsV (hasB 3).testBit = #[.bool true, .bool false, .bool false, .bool false, .bool false, .bool false, .bool false, .bool false, .bool false, .bool false, .bool false, .bool false, .bool false]) := ⟨rfl⟩
  go_enter Try.func29, Try.ntmps29
  go_wp2
  refine wp_loop_rounds 2 ?_
  rw [rounds_succ]
  go_wp2
  rw [rounds_succ]
  go_wp2
  refine bodyPost_ret (v := .agg #[.bool true, .bool false, .bool false, .bool false, .bool false, .bool false, .bool false, .bool false, .bool false, .bool false, .bool false, .bool false, .bool false]) (by simp [results, Try.results29, go_sem]) rfl ⟨by rw [HH.out], below_alloc (below_alloc (below_alloc (Below.refl _ _) _) _) _⟩
set_option maxHeartbeats 4000000 in
set_option maxRecDepth 100000 in
theorem hasR_4 (w : World) : Calls Try.prog 29 #[.int .u8 4] w fun e w' => e = .returned (.agg (boolsV (hasB 4).testBit)) ∧ Below w.heap.size w w' := by
  have HH : Aside0 (boolsV (hasB 4).testBit = #[.bool true, .bool true, .bool false, .bool true, .bool true, .bool false, .bool false, .bool false, .bool false, .bool false, .bool false, .bool false, .bool false]) := ⟨rfl⟩
  go_enter Try.func29, Try.ntmps29
  go_wp2
  refine wp_loop_rounds 5 ?_
  rw [rounds_succ]
  go_wp2
  rw [rounds_succ]
  go_wp2
  rw [rounds_succ]
  go_wp2
  rw [rounds_succ]
  go_wp2
  rw [rounds_succ]
  go_wp2
  refine bodyPost_ret (v := .agg #[.bool true, .bool true, .bool false, .bool true, .bool true, .bool false, .bool false, .bool false, .bool false, .bool false, .bool false, .bool false, .bool false]) (by simp [results, Try.results29, go_sem]) rfl ⟨by rw [HH.out], below_alloc (below_alloc (below_alloc (Below.refl _ _) _) _) _⟩
set_option maxHeartbeats 4000000 in
set_option maxRecDepth 100000 in
theorem hasR_5 (w : World) : Calls Try.prog 29 #[.int .u8 5] w fun e w' => e = .returned (.agg (boolsV (hasB 5).testBit)) ∧ Below w.heap.size w w' := by
  have HH : Aside0 (boolsV (hasB 5).testBit = #[.bool true, .bool false, .bool false, .bool true, .bool true, .bool false, .bool false, .bool false, .bool false, .bool false, .bool false, .bool false, .bool false]) := ⟨rfl⟩
  go_enter Try.func29, Try.ntmps29
  go_wp2
  refine wp_loop_rounds 4 ?_
  rw [rounds_succ]
  go_wp2
  rw [rounds_succ]
  go_wp2
  rw [rounds_succ]
  go_wp2
  rw [rounds_succ]
  go_wp2
  refine bodyPost_ret (v := .agg #[.bool true, .bool false, .bool false, .bool true, .bool true, .bool false, .bool false, .bool false, .bool false, .bool false, .bool false, .bool false, .bool false]) (by simp [results, Try.results29, go_sem]) rfl ⟨by rw [HH.out], below_alloc (below_alloc (below_alloc (Below.refl _ _) _) _) _⟩
set_option maxHeartbeats 4000000 in
set_option maxRecDepth 100000 in
theorem hasR_6 (w : World) : Calls Try.prog 29 #[.int .u8 6] w fun e w' => e = .returned (.agg (boolsV (hasB 6).testBit)) ∧ Below w.heap.size w w' := by
  have HH : Aside0 (boolsV (hasB 6).testBit = #[.bool true, .bool false, .bool false, .bool false, .bool false, .bool false, .bool false, .bool false, .bool false, .bool false, .bool false, .bool false, .bool false]) := ⟨rfl⟩
  go_enter Try.func29, Try.ntmps29
  go_wp2
  refine wp_loop_rounds 2 ?_
  rw [rounds_succ]
  go_wp2
  rw [rounds_succ]
  go_wp2
  refine bodyPost_ret (v := .agg #[.bool true, .bool false, .bool false, .bool false, .bool false, .bool false, .bool false, .bool false, .bool false, .bool false, .bool false, .bool false, .bool false]) (by simp [results, Try.results29, go_sem]) rfl ⟨by rw [HH.out], below_alloc (below_alloc (below_alloc (Below.refl _ _) _) _) _⟩
set_option maxHeartbeats 4000000 in
set_option maxRecDepth 100000 in
theorem hasR_7 (w : World) : Calls Try.prog 29 #[.int .u8 7] w fun e w' => e = .returned (.agg (boolsV (hasB 7).testBit)) ∧ Below w.heap.size w w' := by
  have HH : Aside0 (boolsV (hasB 7).testBit = #[.bool false, .bool false, .bool false, .bool false, .bool false, .bool true, .bool true, .bool true, .bool false, .bool false, .bool false, .bool false, .bool false]) := ⟨rfl⟩
  go_enter Try.func29, Try.ntmps29
  go_wp2
  refine wp_loop_rounds 4 ?_
  rw [rounds_succ]
  go_wp2
  rw [rounds_succ]
  go_wp2
  rw [rounds_succ]
  go_wp2
  rw [rounds_succ]
  go_wp2
  refine bodyPost_ret (v := .agg #[.bool false, .bool false, .bool false, .bool false, .bool false, .bool true, .bool true, .bool true, .bool false, .bool false, .bool false, .bool false, .bool false]) (by simp [results, Try.results29, go_sem]) rfl ⟨by rw [HH.out], below_alloc (below_alloc (below_alloc (Below.refl _ _) _) _) _⟩
set_option maxHeartbeats 4000000 in
set_option maxRecDepth 100000 in
theorem hasR_8 (w : World) : Calls Try.prog 29 #[.int .u8 8] w fun e w' => e = .returned (.agg (boolsV (hasB 8).testBit)) ∧ Below w.heap.size w w' := by
  have HH : Aside0 (boolsV (hasB 8).testBit = #[.bool false, .bool false, .bool false, .bool false, .bool false, .bool true, .bool true, .bool true, .bool false, .bool false, .bool false, .bool false, .bool false]) := ⟨rfl⟩
  go_enter Try.func29, Try.ntmps29
  go_wp2
  refine wp_loop_rounds 4 ?_
  rw [rounds_succ]
  go_wp2
  rw [rounds_succ]
  go_wp2
  rw [rounds_succ]
  go_wp2
  rw [rounds_succ]
  go_wp2
  refine bodyPost_ret (v := .agg #[.bool false, .bool false, .bool false, .bool false, .bool false, .bool true, .bool true, .bool true, .bool false, .bool false, .bool false, .bool false, .bool false]) (by simp [results, Try.results29, go_sem]) rfl ⟨by rw [HH.out], below_alloc (below_alloc (below_alloc (Below.refl _ _) _) _) _⟩
set_option maxHeartbeats 4000000 in
set_option maxRecDepth 100000 in
theorem hasR_9 (w : World) : Calls Try.prog 29 #[.int .u8 9] w fun e w' => e = .returned (.agg (boolsV (hasB 9).testBit)) ∧ Below w.heap.size w w' := by
  have HH : Aside0 (boolsV (hasB 9).testBit = #[.bool false, .bool false, .bool false, .bool false, .bool false, .bool false, .bool false, .bool false, .bool true, .bool true, .bool false, .bool false, .bool true]) := ⟨rfl⟩
  go_enter Try.func29, Try.ntmps29
  go_wp2
  refine wp_loop_rounds 4 ?_
  rw [rounds_succ]
  go_wp2
  rw [rounds_succ]
  go_wp2
  rw [rounds_succ]
  go_wp2
  rw [rounds_succ]
  go_wp2
  refine bodyPost_ret (v := .agg #[.bool false, .bool false, .bool false, .bool false, .bool false, .bool false, .bool false, .bool false, .bool true, .bool true, .bool false, .bool false, .bool true]) (by simp [results, Try.results29, go_sem]) rfl ⟨by rw [HH.out], below_alloc (below_alloc (below_alloc (Below.refl _ _) _) _) _⟩
set_option maxHeartbeats 4000000 in
set_option maxRecDepth 100000 in
theorem hasR_10 (w : World) : Calls Try.prog 29 #[.int .u8 10] w fun e w' => e = .returned (.agg (boolsV (hasB 10).testBit)) ∧ Below w.heap.size w w' := by
  have HH : Aside0 (boolsV (hasB 10).testBit = #[.bool false, .bool false, .bool false, .bool false, .bool false, .bool false, .bool false, .bool false, .bool true, .bool true, .bool false, .bool true, .bool false]) := ⟨rfl⟩
  go_enter Try.func29, Try.ntmps29
  go_wp2
  refine wp_loop_rounds 4 ?_
  rw [rounds_succ]
  go_wp2
  rw [rounds_succ]
  go_wp2
  rw [rounds_succ]
  go_wp2
  rw [rounds_succ]
  go_wp2
  refine bodyPost_ret (v := .agg #[.bool false, .bool false, .bool false, .bool false, .bool false, .bool false, .bool false, .bool false, .bool true, .bool true, .bool false, .bool true, .bool false]) (by simp [results, Try.results29, go_sem]) rfl ⟨by rw [HH.out], below_alloc (below_alloc (below_alloc (Below.refl _ _) _) _) _⟩
set_option maxHeartbeats 4000000 in
set_option maxRecDepth 100000 in
theorem hasR_11 (w : World) : Calls Try.prog 29 #[.int .u8 11] w fun e w' => e = .returned (.agg (boolsV (hasB 11).testBit)) ∧ Below w.heap.size w w' := by
  have HH : Aside0 (boolsV (hasB 11).testBit = #[.bool false, .bool false, .bool false, .bool false, .bool false, .bool false, .bool false, .bool false, .bool true, .bool false, .bool false, .bool false, .bool false]) := ⟨rfl⟩
  go_enter Try.func29, Try.ntmps29
  go_wp2
  refine wp_loop_rounds 2 ?_
  rw [rounds_succ]
  go_wp2
  rw [rounds_succ]
  go_wp2
  refine bodyPost_ret (v := .agg #[.bool false, .bool false, .bool false, .bool false, .bool false, .bool false, .bool false, .bool false, .bool true, .bool false, .bool false, .bool false, .bool false]) (by simp [results, Try.results29, go_sem]) rfl ⟨by rw [HH.out], below_alloc (below_alloc (below_alloc (Below.refl _ _) _) _) _⟩
set_option maxHeartbeats 4000000 in
set_option maxRecDepth 100000 in
theorem hasR_12 (w : World) : Calls Try.prog 29 #[.int .u8 12] w fun e w' => e = .returned (.agg (boolsV (hasB 12).testBit)) ∧ Below w.heap.size w w' := by
  have HH : Aside0 (boolsV (hasB 12).testBit = #[.bool false, .bool false, .bool false, .bool false, .bool false, .bool false, .bool false, .bool false, .bool true, .bool true, .bool false, .bool true, .bool true]) := ⟨rfl⟩
  go_enter Try.func29, Try.ntmps29
  go_wp2
  refine wp_loop_rounds 5 ?_
  rw [rounds_succ]
  go_wp2
  rw [rounds_succ]
  go_wp2
  rw [rounds_succ]
  go_wp2
  rw [rounds_succ]
  go_wp2
  rw [rounds_succ]
  go_wp2
  refine bodyPost_ret (v := .agg #[.bool false, .bool false, .bool false, .bool false, .bool false, .bool false, .bool false, .bool false, .bool true, .bool true, .bool false, .bool true, .bool true]) (by simp [results, Try.results29, go_sem]) rfl ⟨by rw [HH.out], below_alloc (below_alloc (below_alloc (Below.refl _ _) _) _) _⟩
set_option maxHeartbeats 4000000 in
set_option maxRecDepth 100000 in
theorem hasR_13 (w : World) : Calls Try.prog 29 #[.int .u8 13] w fun e w' => e = .returned (.agg (boolsV (hasB 13).testBit)) ∧ Below w.heap.size w w' := by
  have HH : Aside0 (boolsV (hasB 13).testBit = #[.bool false, .bool false, .bool false, .bool false, .bool false, .bool false, .bool false, .bool false, .bool true, .bool false, .bool true, .bool false, .bool true]) := ⟨rfl⟩
  go_enter Try.func29, Try.ntmps29
  go_wp2
  refine wp_loop_rounds 4 ?_
  rw [rounds_succ]
  go_wp2
  rw [rounds_succ]
  go_wp2
  rw [rounds_succ]
  go_wp2
  rw [rounds_succ]
  go_wp2
  refine bodyPost_ret (v := .agg #[.bool false, .bool false, .bool false, .bool false, .bool false, .bool false, .bool false, .bool false, .bool true, .bool false, .bool true, .bool false, .bool true]) (by simp [results, Try.results29, go_sem]) rfl ⟨by rw [HH.out], below_alloc (below_alloc (below_alloc (Below.refl _ _) _) _) _⟩
set_option maxHeartbeats 4000000 in
set_option maxRecDepth 100000 in
theorem hasR_14 (w : World) : Calls Try.prog 29 #[.int .u8 14] w fun e w' => e = .returned (.agg (boolsV (hasB 14).testBit)) ∧ Below w.heap.size w w' := by
  have HH : Aside0 (boolsV (hasB 14).testBit = #[.bool false, .bool false, .bool false, .bool false, .bool false, .bool false, .bool false, .bool false, .bool true, .bool false, .bool true, .bool true, .bool false]) := ⟨rfl⟩
  go_enter Try.func29, Try.ntmps29
  go_wp2
  refine wp_loop_rounds 4 ?_
  rw [rounds_succ]
  go_wp2
  rw [rounds_succ]
  go_wp2
  rw [rounds_succ]
  go_wp2
  rw [rounds_succ]
  go_wp2
  refine bodyPost_ret (v := .agg #[.bool false, .bool false, .bool false, .bool false, .bool false, .bool false, .bool false, .bool false, .bool true, .bool false, .bool true, .bool true, .bool false]) (by simp [results, Try.results29, go_sem]) rfl ⟨by rw [HH.out], below_alloc (below_alloc (below_alloc (Below.refl _ _) _) _) _⟩
set_option maxHeartbeats 4000000 in
set_option maxRecDepth 100000 in
theorem hasR_big (t : Int) (h : 15 ≤ t) (w : World) : Calls Try.prog 29 #[.int .u8 t] w fun e w' => e = .returned (.agg (boolsV (hasB t).testBit)) ∧ Below w.heap.size w w' := by
  have HH : Aside0 (boolsV (hasB t).testBit = boolsV (fun _ => false)) := ⟨by
    have := has_small t h
    unfold hasB
    rw [this]
    simp [boolsV]⟩
  have q1 : (t == 1) = false := beq_eq_false_iff_ne.2 (by omega)
  have q2 : (t == 2) = false := beq_eq_false_iff_ne.2 (by omega)
  have q3 : (t == 3) = false := beq_eq_false_iff_ne.2 (by omega)
  have q4 : (t == 4) = false := beq_eq_false_iff_ne.2 (by omega)
  have q5 : (t == 5) = false := beq_eq_false_iff_ne.2 (by omega)
  have q6 : (t == 6) = false := beq_eq_false_iff_ne.2 (by omega)
  have q7 : (t == 7) = false := beq_eq_false_iff_ne.2 (by omega)
  have q8 : (t == 8) = false := beq_eq_false_iff_ne.2 (by omega)
  have q9 : (t == 9) = false := beq_eq_false_iff_ne.2 (by omega)
  have q10 : (t == 10) = false := beq_eq_false_iff_ne.2 (by omega)
  have q11 : (t == 11) = false := beq_eq_false_iff_ne.2 (by omega)
  have q12 : (t == 12) = false := beq_eq_false_iff_ne.2 (by omega)
  have q13 : (t == 13) = false := beq_eq_false_iff_ne.2 (by omega)
  have q14 : (t == 14) = false := beq_eq_false_iff_ne.2 (by omega)
  clear h
  go_enter Try.func29, Try.ntmps29
  go_wp2
  refine wp_loop_rounds 1 ?_
  rw [rounds_succ]
  go_wp2
  refine bodyPost_ret (v := .agg (boolsV (fun _ => false))) (by simp [results, Try.results29, go_sem, boolsV]) rfl ⟨by rw [HH.out], below_alloc (below_alloc (Below.refl _ _) _) _⟩
theorem hasR_any (t : Int) (h0 : 0 ≤ t) (h1 : t ≤ 255) (w : World) : Calls Try.prog 29 #[.int .u8 t] w fun e w' => e = .returned (.agg (boolsV (hasB t).testBit)) ∧ Below w.heap.size w w' := by
  by_cases h : 15 ≤ t
  · exact hasR_big t h w
  · have hd : t = 0 ∨ t = 1 ∨ t = 2 ∨ t = 3 ∨ t = 4 ∨ t = 5 ∨ t = 6 ∨ t = 7 ∨ t = 8 ∨ t = 9 ∨ t = 10 ∨ t = 11 ∨ t = 12 ∨ t = 13 ∨ t = 14 := by omega
    rcases hd with rfl | rfl | rfl | rfl | rfl | rfl | rfl | rfl | rfl | rfl | rfl | rfl | rfl | rfl | rfl
    · exact hasR_0 w
    · exact hasR_1 w
    · exact hasR_2 w
    · exact hasR_3 w
    · exact hasR_4 w
    · exact hasR_5 w
    · exact hasR_6 w
    · exact hasR_7 w
    · exact hasR_8 w
    · exact hasR_9 w
    · exact hasR_10 w
    · exact hasR_11 w
    · exact hasR_12 w
    · exact hasR_13 w
    · exact hasR_14 w
end Go.Proofs.Ytmjbdeoomohanaa.Mine
