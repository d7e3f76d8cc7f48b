/- Contracts of Send. -/
import Derived.Test.YtikfelmmelkioaaAirC
import Derived.Deep.RegionLaw
set_option linter.unusedSimpArgs false
set_option linter.unusedVariables false
namespace Go.Proofs.Ytikfelmmelkioaa.Mine
open Go.RowKit Go.Maps Go.Proofs.YtikfelmmelkioaaW.PrintWords Go.Proofs.YtikfelmmelkioaaW.PrintLast Go.Proofs.YtikfelmmelkioaaW.PrintMore Go.Proofs.Ytikfelmmelkioaa.PAirOnce Go.Proofs.Ytikfelmmelkioaa.Turn

theorem info24 : (Try.prog.info? 24).map (fun i => (i.zero, i.size, i.bytes)) = some (some (.agg #[(.int .i64 0), (.int .i64 0), (.slice none 0 0)]), 3, 40) := by kernel_rfl

set_option maxHeartbeats 1000000 in
theorem send_nil (f t : Int) (A : Option Addr) (m c : Nat) (w : World) :
    Calls Try.prog 8 #[.pointer none, .agg #[.int .i64 f, .int .i64 t, .slice A m c]] w fun e w' => e = .returned (.int .i64 8) ∧ Below w.heap.size w w' := by
  go_enter Try.func8, Try.ntmps8
  go_wp2
  go_ret
  exact ⟨rfl, below_alloc (Below.refl _ _) _⟩

theorem AirRep.cell0 {w : World} {F : Nat → Prop} {b : Nat} {n : Int} {L : List S24} {D : DataW Unit} {M : Nat} (h : AirRep w F b n L D M) : w.cell? ⟨b, 0, none⟩ = some (.int .i64 n) := by
  obtain ⟨v, bm, h1, _⟩ := h
  exact Blk.cell h1 0

set_option maxHeartbeats 2000000 in
theorem send_bad {w : World} {F : Nat → Prop} {b : Nat} {n : Int} {L : List S24} {D : DataW Unit} {M : Nat} (h : AirRep w F b n L D M) (f t : Int) (A : Option Addr) (m c : Nat) (hb : (bad n f || bad n t) = true) :
    Calls Try.prog 8 #[.pointer (some ⟨b, 0, none⟩), .agg #[.int .i64 f, .int .i64 t, .slice A m c]] w fun e w' => e = .returned (.int .i64 1) ∧ Below w.heap.size w w' := by
  have HC := Aside0.mk h.cell0
  have hbn : b < w.heap.size := World.block_lt_of_cell? w _ h.cell0
  have HB := Aside0.mk hb
  clear hb h
  go_enter Try.func8, Try.ntmps8
  go_wp2_with fail
  have hb0 := below_alloc (below_alloc (Below.refl w.heap.size w) (.cells #[.int .i64 f, .int .i64 t, .slice A m c] 24)) (.cells #[.int .i64 f, .int .i64 t] 3)
  have HB0 := Aside0.mk hb0
  clear hb0
  have hp := pair_reads (w.alloc (.cells #[.int .i64 f, .int .i64 t, .slice A m c] 24)) f t
  rw [World.size_alloc] at hp
  have HP := Aside0.mk hp
  clear hp
  refine (parties_any _ 2 f t n b _ HP.out ((HB0.out.cell (p := ⟨b, 0, none⟩) hbn).trans HC.out)).mono ?_
  rintro e w1 ⟨rfl, hb⟩
  rw [HB.out]
  have HB2 := Aside0.mk (HB0.out.trans (hb.mono HB0.out.size))
  clear hb
  go_wp2
  go_ret
  exact ⟨rfl, HB2.out⟩
end Go.Proofs.Ytikfelmmelkioaa.Mine
