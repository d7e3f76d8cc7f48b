/- the law PackPairs. -/
import Derived.Test.YtopehfjohifpnaaDoorPkI
set_option linter.unusedSimpArgs false
set_option linter.unusedVariables false
namespace Go.Proofs.YtopehfjohifpnaaDoor.Mine
open Go.RowKit Go.Maps Go.Shelf Go.Proofs.YtopehfjohifpnaaDoorW.PrintWords Go.Proofs.YtopehfjohifpnaaDoorW.PrintLast Go.Proofs.YtopehfjohifpnaaDoorW.PrintMore Go.Proofs.YtopehfjohifpnaaDoor.Turn Go.Proofs.YtopehfjohifpnaaDoor.PPackPairs

theorem pairs_len (p : ByteArray) (k m t : Int) (b : Nat) (q : ByteArray) : (pairsF p k m t b q).1.length ≤ 2 := by
  unfold pairsF pairsL
  split
  · simp
  · split <;> split <;> simp
theorem check_a : checkF ⟨#[97]⟩ = (0, 0) := by kernel_rfl
theorem pairs_a : pairsF ⟨#[97]⟩ 0 0 0 0 ⟨#[]⟩ = ([], 1) := by
  have : mayF ⟨#[97]⟩ 0 0 0 0 ⟨#[]⟩ = 1 := by unfold mayF; rw [check_a]; rfl
  unfold pairsF
  rw [this]
  rfl

set_option maxRecDepth 100000 in
set_option maxHeartbeats 4000000 in
theorem packPairs_any (p : ByteArray) (k m t : Int) (A : Option Addr) (l : List Int) (c : Nat) (q : ByteArray) (i : Int) (w : World) (hm : w.cell? ⟨1, 0, none⟩ = some (.int .i64 i)) (hr : Kd.C (Kd.int .u8) w A l.length l) (hc : l.length ≤ c) :
    Calls Tryd.prog 3 #[.agg #[.string p, .int .u8 k, .int .i64 m, .int .i64 t, .slice A l.length c, .string q]] w fun e w' => e = .returned (.bool true) ∧ Below w.heap.size w w' := by
  have hlt : 1 < w.heap.size := Lib.lt_of_cell (a := ⟨1, 0, none⟩) hm
  have hP := fun W hm => pairs_any p k m t A l.length c q i W hm
  have hQ := fun W hr => tabularyref12_Pairs.calls 7000 p k m t A c l q (pairsF p k m t l.length q).1 (pairsF p k m t l.length q).2 W hr hc (pairs_f p k m t l q 7000 (by omega))
  have hA := fun W hm => pairs_any ⟨#[97]⟩ 0 0 0 none 0 0 ⟨#[]⟩ i W hm
  rw [pairs_a] at hA
  have hpl := pairs_len p k m t l.length q
  generalize pairsF p k m t l.length q = pf at *
  obtain ⟨L, e0⟩ := pf
  dsimp only at hP hQ hpl hA
  have hx0 := Blk.new w #[.string p, .int .u8 k, .int .i64 m, .int .i64 t, .slice A l.length c, .string q] 25
  have HR := Aside0.mk hr
  clear hr
  go_enter Tryd.func3, Tryd.ntmps3
  go_wp2_with (first | (go_at_call 6; refine (hP _ (cell_alloc_l _ hm)).mono ?_; rintro e w1 ⟨A1, c1, rfl, hC1, hB1⟩; have hx1 := (hB1.block _ hx0.lt).trans hx0; have hl1 := Blk.lt hx1; have b0 := (Blk.cell hx1 0).trans rfl; have b1 := (Blk.cell hx1 1).trans rfl; have b2 := (Blk.cell hx1 2).trans rfl; have b3 := (Blk.cell hx1 3).trans rfl; have b4 := (Blk.cell hx1 4).trans rfl; have b5 := (Blk.cell hx1 5).trans rfl; have HB1 : Aside0 (Below w.heap.size w w1) := ⟨(below_alloc (Below.refl _ w) _).trans (hB1.mono (by simp))⟩; have HC1 := Aside0.mk hC1; clear hC1) | (go_at_call 7; refine (hQ _ (Kd.C_below HR.out HB1.out)).mono ?_; rintro e w2 ⟨v2, rfl, hR2, hB2⟩; obtain ⟨A2, c2, rfl, hc2, hC2⟩ := Kd.R_reads hR2; have HB2 : Aside0 (Below w.heap.size w w2) := ⟨HB1.out.trans (hB2.mono HB1.out.size)⟩; have HC2 := Aside0.mk hC2; have HC3 := Aside0.mk (Kd.C_below HC1.out hB2); clear hC2 hR2 hB2))
  have hLl : L.length ≤ 2 := hpl
  go_loopw [7] (fun v wr => ∃ a : Nat, a ≤ L.length ∧ v = .int .i64 a ∧ Aside0 (Below w.heap.size w wr) ∧ Aside0 (Kd.C k33 wr A1 L.length L) ∧ Aside0 (Kd.C k33 wr A2 L.length L)) (fun v _ => L.length - (intOf v).toNat)
  case atStart => exact ⟨0, Nat.zero_le _, rfl, HB2, HC3, HC2⟩
  case round =>
    obtain ⟨a, ha, rfl, HB4, HC4, HC5⟩ := hrel
    clear HC1 HC2 HC3 HB2 HB1 hQ hP hx1 b0 b1 b2 b3 b4 b5
    by_cases hal : a < L.length
    · obtain ⟨ad1, e1, hy0, hy1⟩ := at_T33 HC4.out (a : Int) (by omega) (by omega)
      obtain ⟨ad2, e2, hz0, hz1⟩ := at_T33 HC5.out (a : Int) (by omega) (by omega)
      subst e1
      subst e2
      generalize rd_T33 L (a : Int) = x at *
      rw [Int.toNat_natCast] at hy0 hy1 hz0 hz1
      go_wp2_with fail
      go_region
      go_wp2_with fail
      go_roundw
      case rel => exact ⟨a + 1, by omega, by go_num, ⟨HB4.out.trans ((Below.refl _ _).drew.mono HB4.out.size)⟩, ⟨Kd.C_below HC4.out (Below.refl _ _).drew⟩, ⟨Kd.C_below HC5.out (Below.refl _ _).drew⟩⟩
      case measure => simp [intOf]; omega
    · obtain rfl : a = L.length := by omega
      have hm2 := (HB4.out.cell (p := ⟨1, 0, none⟩) hlt).trans hm
      go_wp2_with (go_at_call 6; refine (hA _ hm2).mono ?_; rintro e w6 ⟨A6, c6, rfl, hC6, hB6⟩)
      go_ret
      exact ⟨rfl, HB4.out.trans (hB6.mono HB4.out.size)⟩
end Go.Proofs.YtopehfjohifpnaaDoor.Mine
