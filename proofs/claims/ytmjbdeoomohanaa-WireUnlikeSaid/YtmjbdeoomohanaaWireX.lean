/- wire: the law's Great. -/
import Derived.Test.YtmjbdeoomohanaaWireU
set_option linter.unusedSimpArgs false
set_option linter.unusedVariables false
namespace Go.Proofs.Ytmjbdeoomohanaa.Mine
open Go.RowKit Go.Maps Go.Proofs.YtmjbdeoomohanaaW.PrintWords Go.Proofs.YtmjbdeoomohanaaW.PrintLast Go.Proofs.YtmjbdeoomohanaaW.PrintMore Go.Proofs.Ytmjbdeoomohanaa.PWirePacks Go.Proofs.Ytmjbdeoomohanaa.Turn

/-- Some answer. -/
def SomeBool (w : World) (e : Ending) (w' : World) : Prop := ∃ c : Bool, e = .returned (.bool c) ∧ Below w.heap.size w w'

set_option maxHeartbeats 4000000 in
theorem great_any (m : Msg) (cs : Array Value) (w : World) {ok : Nat → Prop} (ha : ArgF w ok m cs) (hl : m.log.length ≤ 4611686018427387904) (hbl : m.blocks.length ≤ 4611686018427387904) :
    Calls Try.prog 8 #[.agg cs] w (SomeBool w) := by
  obtain ⟨A5, c5, A8, c8, A13, c13, rfl, -, -, -, f5, f8, f13⟩ := ha
  have hx1 := Blk.new w (mcells m A5 c5 A8 c8 A13 c13) 29
  have HF5 := Aside0.mk (Kd.C_alloc (Kd.F_now f5) (.cells (mcells m A5 c5 A8 c8 A13 c13) 29))
  have HF13 := Aside0.mk (Kd.C_alloc (Kd.F_now f13) (.cells (mcells m A5 c5 A8 c8 A13 c13) 29))
  have HB := Aside0.mk (below_alloc (Below.refl w.heap.size w) (.cells (mcells m A5 c5 A8 c8 A13 c13) 29))
  have p5 : (w.alloc (.cells (mcells m A5 c5 A8 c8 A13 c13) 29)).cell? ⟨w.heap.size, 5, none⟩ = some (.slice A5 m.log.length c5) := (hx1.cell 5).trans rfl
  have p8 : (w.alloc (.cells (mcells m A5 c5 A8 c8 A13 c13) 29)).cell? ⟨w.heap.size, 8, none⟩ = some (.slice A8 m.body.length c8) := (hx1.cell 8).trans rfl
  have p13 : (w.alloc (.cells (mcells m A5 c5 A8 c8 A13 c13) 29)).cell? ⟨w.heap.size, 13, none⟩ = some (.slice A13 m.blocks.length c13) := (hx1.cell 13).trans rfl
  have hlt := hx1.lt
  clear f5 f8 f13 hx1
  obtain ⟨x0, x1, x2, x3, x4, x5, x6, x7, x8, x9, x10, x11, x12, x13⟩ := m
  unfold mcells at *
  simp only at HF5 HF13 HB p5 p8 p13 hlt hl hbl ⊢
  go_enter Try.func8, Try.ntmps8
  go_wp2_with fail
  generalize w.alloc (.cells #[.int .u8 x0, .int .u64 x1, .int .u64 x2, .int .i64 x3, .int .i64 x4, .slice A5 x5.length c5, .int .u64 x6, .int .u64 x7, .slice A8 x8.length c8, .int .u64 x9, .int .u8 x10, .int .u32 x11, .int .i64 x12, .slice A13 x13.length c13] 29) = W at *
  go_loopw [3, 4] (fun n i wr => ∃ (k : Nat) (s : Int), k ≤ x5.length ∧ i = .int .i64 k ∧ n = .int .i64 s ∧ Drawn0 W wr) (fun _ i _ => x5.length - (intOf i).toNat)
  case atStart => exact ⟨0, _, Nat.zero_le _, rfl, rfl, Drawn0.refl _⟩
  case round =>
    obtain ⟨k, s, hk, rfl, rfl, ⟨m1, rfl⟩⟩ := hrel
    by_cases hgo : k < x5.length ∧ k ≤ 200
    · obtain ⟨hlt, h200⟩ := hgo
      obtain ⟨ad, A2, c2, e, y0, y1, y2, hl2, hB2⟩ := at_T44 HF5.out (k : Int) (by omega) (by omega)
      cases e
      rw [Int.toNat_natCast] at y0 y1 y2
      clear hB2
      go_wp2
      try go_quiet (fail)
      try go_wp2
      go_roundw
      case rel => exact ⟨k + 1, _, by omega, by go_num, rfl, by repeat (first | exact Drawn0.refl _ | apply Drawn0.step)⟩
      case measure => simp [intOf]; omega
    · by_cases hlt : k < x5.length
      all_goals
        try have h200 : ¬ k ≤ 200 := fun h => hgo ⟨hlt, h⟩
        clear hgo
        go_wp2_with fail
        go_loopw [3, 5] (fun n i wr => ∃ (k : Nat) (s : Int), k ≤ x13.length ∧ i = .int .i64 k ∧ n = .int .i64 s ∧ Drawn0 W wr) (fun _ i _ => x13.length - (intOf i).toNat)
        case atStart => exact ⟨0, _, Nat.zero_le _, rfl, rfl, ⟨m1, rfl⟩⟩
        case round =>
          obtain ⟨k2, s2, hk2, rfl, rfl, ⟨m2, rfl⟩⟩ := hrel
          clear hlt
          try clear h200
          by_cases hlt : k2 < x13.length ∧ s2 ≤ 262144
          · obtain ⟨hlt, h18⟩ := hlt
            obtain ⟨ad, A2, c2, e, y0, hl2, hB2⟩ := at_L2 HF13.out (k2 : Int) (by omega) (by omega)
            cases e
            rw [Int.toNat_natCast] at y0
            clear hB2
            go_wp2
            try go_quiet (fail)
            try go_wp2
            go_roundw
            case rel => exact ⟨k2 + 1, _, by omega, by go_num, rfl, by repeat (first | exact Drawn0.refl _ | apply Drawn0.step)⟩
            case measure => simp [intOf]; omega
          · by_cases hlt2 : k2 < x13.length
            all_goals
              try have h18 : ¬ s2 ≤ 262144 := fun h => hlt ⟨hlt2, h⟩
              clear hlt
              go_wp2
              all_goals
                try go_quiet (fail)
                try go_wp2
              all_goals
                go_ret
                exact ⟨_, rfl, below_then HB.out HB.out.size (by simpa using Drawn0.below (w := W) (by repeat (first | exact Drawn0.refl _ | apply Drawn0.step)))⟩
end Go.Proofs.Ytmjbdeoomohanaa.Mine
