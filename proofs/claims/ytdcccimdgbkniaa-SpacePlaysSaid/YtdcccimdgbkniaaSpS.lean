/- space: Same of a list and itself. -/
import Derived.Test.YtdcccimdgbkniaaSpB2
import Derived.Test.YtdcccimdgbkniaaPSpacePlaysx1
import Derived.Deep.QuietTactic
import Derived.BigQuiet
set_option linter.unusedSimpArgs false
set_option linter.unusedVariables false
namespace Go.Proofs.Ytdcccimdgbkniaa.Mine
open Go.RowKit Go.Maps Go.Proofs.YtdcccimdgbkniaaW.PrintWords Go.Proofs.YtdcccimdgbkniaaW.PrintLast Go.Proofs.YtdcccimdgbkniaaW.PrintMore Go.Proofs.Ytdcccimdgbkniaa.Turn Go.Proofs.Ytdcccimdgbkniaa.PSpacePlays

theorem run_neq32 (w : World) (x0 x1 : Int) : (binOp .neq 32 (.agg #[.int .i64 x0, .int .i64 x1]) (.agg #[.int .i64 x0, .int .i64 x1])).run Try.prog w = .ok (.bool false) w := by
  have h := eqA32 9998 w x0 x0 x1 x1
  simp only [binOp]
  simp [Op.equal, Op.maxDepth, h]

set_option maxHeartbeats 2000000 in
theorem same_any {w : World} {v1 v2 : Value} {l : List R2} (h1 : Reads w v1 l) (h2 : Reads w v2 l) (hl : l.length ≤ 4611686018427387904) :
    Calls Try.prog 18 #[v1, v2] w fun e w' => e = .returned (.bool true) ∧ Below w.heap.size w w' := by
  have H1 := Aside0.mk h1
  have H2 := Aside0.mk h2
  obtain ⟨A, c, rfl, hc, hc2, -⟩ := h1
  obtain ⟨A2, c2, rfl, hc3, hc4, -⟩ := h2
  have hz : ((l.length : Int) != (l.length : Int)) = false := by simp
  go_enter Try.func18, Try.ntmps18
  go_wp2
  go_loopw [5] (fun i wr => ∃ k : Nat, k ≤ l.length ∧ i = .int .i64 k ∧ Aside0 (Below w.heap.size w wr)) (fun i _ => l.length - (intOf i).toNat)
  case atStart => exact ⟨0, Nat.zero_le _, rfl, ⟨Below.refl _ _⟩⟩
  case round =>
    obtain ⟨k, hk, rfl, HB⟩ := hrel
    by_cases hlt : k < l.length
    · obtain ⟨A', c', he, -, -, hcell⟩ := H1.out.below HB.out
      cases he
      obtain ⟨g, o, rfl, hg, y0, y1⟩ := hcell k hlt
      obtain ⟨A', c', he, -, -, hcell2⟩ := H2.out.below HB.out
      cases he
      obtain ⟨g2, o2, rfl, hg2, z0, z1⟩ := hcell2 k hlt
      clear hcell hcell2
      generalize l[k] = x at *
      obtain ⟨xa, xe⟩ := x
      simp only at y0 y1 z0 z1
      have hn := fun w => run_neq32 w xa xe
      have hb0 : (0 : Int) ≤ (k : Int) := by omega
      have hb1 : (k : Int) < (l.length : Int) := by omega
      go_wp2_with fail
      go_quiet (fail)
      clear y0 y1 z0 z1 hn
      go_wp2_with fail
      go_roundw
      case rel => exact ⟨k + 1, by omega, by go_num, ⟨pw_below_drewN HB.out _⟩⟩
      case measure => simp [intOf]; omega
    · go_wp2_with fail
      go_ret
      exact ⟨rfl, HB.out⟩
end Go.Proofs.Ytdcccimdgbkniaa.Mine
