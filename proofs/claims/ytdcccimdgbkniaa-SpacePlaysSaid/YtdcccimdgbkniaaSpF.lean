/- space: right. -/
import Derived.Test.YtdcccimdgbkniaaSpE
set_option linter.unusedSimpArgs false
set_option linter.unusedVariables false
namespace Go.Proofs.Ytdcccimdgbkniaa.Mine
open Go.RowKit Go.Maps Go.Proofs.YtdcccimdgbkniaaW.PrintWords Go.Proofs.YtdcccimdgbkniaaW.PrintLast Go.Proofs.YtdcccimdgbkniaaW.PrintMore Go.Proofs.Ytdcccimdgbkniaa.Turn

def rightB (n at_ count : Int) : Bool := decide (1 ≤ count) && decide (0 ≤ at_) && decide (at_ ≤ n) && decide (count ≤ n - at_)
theorem rightB_true {n a c : Int} (h : rightB n a c = true) : 1 ≤ c ∧ 0 ≤ a ∧ a ≤ n ∧ c ≤ n - a := by
  simpa [rightB, and_assoc] using h
theorem rightB_false {n a c : Int} (h : rightB n a c = false) : c < 1 ∨ (¬ c < 1 ∧ a < 0) ∨ (¬ c < 1 ∧ ¬ a < 0 ∧ n < a) ∨ (¬ c < 1 ∧ ¬ a < 0 ∧ ¬ n < a ∧ n - a < c) := by
  have h2 : ¬ (1 ≤ c ∧ 0 ≤ a ∧ a ≤ n ∧ c ≤ n - a) := fun h3 => by
    have : rightB n a c = true := by simp [rightB, h3]
    rw [this] at h; cases h
  omega

set_option maxHeartbeats 1000000 in
theorem right_nil (a c : Int) (w : World) : Calls Try.prog 27 #[.pointer none, .agg #[.int .i64 a, .int .i64 c]] w fun e w' => e = .returned (.tuple #[.agg #[.int .i64 0, .int .i64 0], .int .i64 8]) ∧ Below w.heap.size w w' := by
  go_enter Try.func27, Try.ntmps27
  go_wp2_with fail
  refine bodyPost_ret (v := .tuple #[.agg #[.int .i64 0, .int .i64 0], .int .i64 8]) (by simp [results, Try.results27, go_sem]) rfl ⟨rfl, below_alloc (below_alloc (Below.refl _ _) _) _⟩

set_option maxHeartbeats 4000000 in
theorem right_any {w : World} {base b : Nat} {F : Nat → Prop} {n : Int} {l : List R2} (h : Sp w base F b n l) (hn0 : 0 ≤ n) (hn : n ≤ 65536) (a c : Int) (hc : (Lit.int .i64 c).wf = true) :
    Calls Try.prog 27 #[.pointer (some ⟨b, 0, none⟩), .agg #[.int .i64 a, .int .i64 c]] w fun e w' => e = .returned (.tuple #[.agg (if rightB n a c then #[.int .i64 a, .int .i64 (a + c)] else #[.int .i64 0, .int .i64 0]), .int .i64 (if rightB n a c then 0 else 1)]) ∧ Below w.heap.size w w' := by
  obtain ⟨-, -, v, h3, -, -⟩ := h
  have hlt := h3.lt
  have h30 : World.cell? w ⟨b, 0, none⟩ = some (.int .i64 n) := Blk.cell h3 0
  have h3f0 : World.frozen? w ⟨b, 0, none⟩ = false := Blk.free h3 0
  have h31 : World.cell? w ⟨b, 1, none⟩ = some (v) := Blk.cell h3 1
  have h3f1 : World.frozen? w ⟨b, 1, none⟩ = false := Blk.free h3 1
  clear h3 h31 h3f0 h3f1
  cases hr : rightB n a c with
  | true =>
    have H := Aside0.mk (rightB_true hr)
    clear hr
    have hd1 : decide (c < 1) = false := by have := H.out; simp; omega
    have hd2 : decide (a < 0) = false := by have := H.out; simp; omega
    have hd3 : decide (n < a) = false := by have := H.out; simp; omega
    have hd4 : decide (n - a < c) = false := by have := H.out; simp; omega
    have hw1 : IntKind.i64.wrap (n - a) = n - a := IntWalk.i64_in _ (by have := H.out; omega)
    go_enter Try.func27, Try.ntmps27
    go_wp2_with fail
    go_quiet (fail)
    have hb1 := H.out
    clear hw1
    go_wp2_with fail
    refine bodyPost_ret (v := .tuple #[.agg #[.int .i64 a, .int .i64 (a + c)], .int .i64 0]) (by simp [results, Try.results27, go_sem]) rfl ⟨rfl, ?_⟩
    exact ((pw_below_drewN (below_alloc (below_alloc (Below.refl _ _) _) _) _).setCell (by simp) _).setCell (by simp) _
  | false =>
    rcases rightB_false hr with h1 | ⟨h1, h2⟩ | ⟨h1, h2, h4⟩ | ⟨h1, h2, h4, h5⟩
    · clear hr
      have hd1 : decide (c < 1) = true := by simpa using h1
      (go_enter Try.func27, Try.ntmps27; go_wp2_with fail; go_quiet (fail); go_wp2_with fail; refine bodyPost_ret (v := .tuple #[.agg #[.int .i64 0, .int .i64 0], .int .i64 1]) (by simp [results, Try.results27, go_sem]) rfl ⟨rfl, ?_⟩; first | exact pw_below_drewN (below_alloc (below_alloc (Below.refl _ _) _) _) _ | exact ((pw_below_drewN (below_alloc (below_alloc (Below.refl _ _) _) _) _).setCell (by simp) _).setCell (by simp) _)
    · clear hr
      have hd1 : decide (c < 1) = false := by simpa using h1
      have hd2 : decide (a < 0) = true := by simpa using h2
      (go_enter Try.func27, Try.ntmps27; go_wp2_with fail; go_quiet (fail); go_wp2_with fail; refine bodyPost_ret (v := .tuple #[.agg #[.int .i64 0, .int .i64 0], .int .i64 1]) (by simp [results, Try.results27, go_sem]) rfl ⟨rfl, ?_⟩; first | exact pw_below_drewN (below_alloc (below_alloc (Below.refl _ _) _) _) _ | exact ((pw_below_drewN (below_alloc (below_alloc (Below.refl _ _) _) _) _).setCell (by simp) _).setCell (by simp) _)
    · clear hr
      have hd1 : decide (c < 1) = false := by simpa using h1
      have hd2 : decide (a < 0) = false := by simpa using h2
      have hd3 : decide (n < a) = true := by simpa using h4
      (go_enter Try.func27, Try.ntmps27; go_wp2_with fail; go_quiet (fail); go_wp2_with fail; refine bodyPost_ret (v := .tuple #[.agg #[.int .i64 0, .int .i64 0], .int .i64 1]) (by simp [results, Try.results27, go_sem]) rfl ⟨rfl, ?_⟩; first | exact pw_below_drewN (below_alloc (below_alloc (Below.refl _ _) _) _) _ | exact ((pw_below_drewN (below_alloc (below_alloc (Below.refl _ _) _) _) _).setCell (by simp) _).setCell (by simp) _)
    · clear hr
      have hd1 : decide (c < 1) = false := by simpa using h1
      have hd2 : decide (a < 0) = false := by simpa using h2
      have hd3 : decide (n < a) = false := by simpa using h4
      have hd4 : decide (n - a < c) = true := by simpa using h5
      have hw1 : IntKind.i64.wrap (n - a) = n - a := IntWalk.i64_in _ (by omega)
      (go_enter Try.func27, Try.ntmps27; go_wp2_with fail; go_quiet (fail); go_wp2_with fail; refine bodyPost_ret (v := .tuple #[.agg #[.int .i64 0, .int .i64 0], .int .i64 1]) (by simp [results, Try.results27, go_sem]) rfl ⟨rfl, ?_⟩; first | exact pw_below_drewN (below_alloc (below_alloc (Below.refl _ _) _) _) _ | exact ((pw_below_drewN (below_alloc (below_alloc (Below.refl _ _) _) _) _).setCell (by simp) _).setCell (by simp) _)
end Go.Proofs.Ytdcccimdgbkniaa.Mine
