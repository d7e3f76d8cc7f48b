/- The law AirFull: an air takes 4096 datagrams and no more. -/
import Derived.Test.YtikfelmmelkioaaAirW
set_option linter.unusedSimpArgs false
set_option linter.unusedVariables false
namespace Go.Proofs.Ytikfelmmelkioaa.Mine
open Go.RowKit Go.Maps Go.Proofs.YtikfelmmelkioaaW.PrintWords Go.Proofs.YtikfelmmelkioaaW.PrintLast Go.Proofs.YtikfelmmelkioaaW.PrintMore Go.Proofs.Ytikfelmmelkioaa.PAirOnce Go.Proofs.Ytikfelmmelkioaa.Turn

def reps (k : Nat) (l : List Int) : List S24 := List.replicate k ⟨1, 0, l⟩
theorem reps_len (k : Nat) (l : List Int) : (reps k l).length = k := by simp [reps]
theorem reps_rd (k : Nat) (l : List Int) (i : Nat) (h : i < k) : rd_T24 (reps k l) i = ⟨1, 0, l⟩ := by
  unfold rd_T24 reps
  rw [List.getD_eq_getElem?_getD, Int.toNat_natCast, List.getElem?_replicate, if_pos h]
  rfl
theorem reps_more (k : Nat) (l : List Int) : reps k l ++ [⟨1, 0, l⟩] = reps (k + 1) l := by simp [reps, List.replicate_succ']
theorem reps_less (k : Nat) (l : List Int) (i : Nat) (h : i < k) : (reps k l).eraseIdx i = reps (k - 1) l := by
  unfold reps
  rw [List.eraseIdx_replicate, if_pos h]
theorem reps_small (k : Nat) (l : List Int) (h : l.length ≤ 16) : ∀ x ∈ reps k l, x.f2.length ≤ 140737488355328 := by
  intro x hx
  obtain ⟨_, rfl⟩ := List.mem_replicate.1 hx
  show l.length ≤ _
  omega
theorem bad_ends : (bad 2 1 || bad 2 0) = false := by decide

theorem send_more {w : World} {F : Nat → Prop} {b k : Nat} {l : List Int} (h : AirRep w F b 2 (reps k l) (.map []) 0) (hk : k < 4096) (hl : l.length ≤ 16) (A : Option Addr) (c : Nat) (hr : Kd.C (Kd.int .u8) w A l.length l) :
    Calls Try.prog 8 #[.pointer (some ⟨b, 0, none⟩), .agg #[.int .i64 1, .int .i64 0, .slice A l.length c]] w fun e w' => ∃ F', e = .returned (.int .i64 0) ∧ AirRep w' F' b 2 (reps (k + 1) l) (.map []) 0 ∧ Turned F w w' ∧ ∀ q, F' q → F q ∨ (w.heap.size ≤ q ∧ q < w'.heap.size) := by
  rw [← reps_more]
  exact send_step h 1 0 A l c bad_ends (by omega) (by decide) (by decide) (has_empty _) (by rw [reps_len]; exact hk) hr
theorem double_more {w : World} {F : Nat → Prop} {b k : Nat} {l : List Int} (h : AirRep w F b 2 (reps k l) (.map []) 0) (hk : k < 4096) (hl : l.length ≤ 16) (i : Nat) (hi : i < k) :
    Calls Try.prog 12 #[.pointer (some ⟨b, 0, none⟩), .int .i64 i] w fun e w' => ∃ F', e = .returned (.bool true) ∧ AirRep w' F' b 2 (reps (k + 1) l) (.map []) 0 ∧ Turned F w w' ∧ ∀ q, F' q → F q ∨ (w.heap.size ≤ q ∧ q < w'.heap.size) := by
  have hz := double_step h i (by rw [reps_len]; exact hi) (reps_small k l hl) (by rw [reps_len]; exact hk)
  rw [reps_rd k l i hi, reps_more] at hz
  exact hz

set_option maxHeartbeats 4000000 in
set_option maxRecDepth 100000 in
theorem full_any (A : Option Addr) (c : Nat) (l : List Int) (ds : Bool) (w : World) (hc : l.length ≤ c) (hr : Kd.C (Kd.int .u8) w A l.length l) (hm : l.length ≤ 140737488355328) :
    Calls Try.prog 4 #[.slice A l.length c, .bool ds] w fun e w' => e = .returned (.bool true) ∧ Below w.heap.size w w' := by
  have HR := Aside0.mk hr
  have HC := Aside0.mk hc
  clear hr hc
  by_cases hl : l.length ≤ 16
  · go_enter Try.func4, Try.ntmps4
    go_wp2_with fail
    refine (new_any 2 (by omega) (by omega) _).mono ?_
    rintro e w1 ⟨b, F1, rfl, hA1, hF1, hB1⟩
    have HB1 := Aside0.mk (below_alloc hB1 (.cells #[.int .i64 1, .int .i64 0, .slice A l.length c] 24))
    have HBl : Aside0 (Blk (w1.alloc (.cells #[.int .i64 1, .int .i64 0, .slice A l.length c] 24)) w1.heap.size #[.int .i64 1, .int .i64 0, .slice A l.length c] 24 ∧ ¬ F1 w1.heap.size) := ⟨Blk.new _ _ _, fun hk => by
      obtain ⟨v, bm, -, -, -, -, -, h6⟩ := hA1
      have := h6 _ hk
      omega⟩
    have HA1 : Aside0 (AirRep (w1.alloc (.cells #[.int .i64 1, .int .i64 0, .slice A l.length c] 24)) F1 b 2 (reps 0 l) (.map []) 0) := ⟨hA1.below (below_alloc (Below.refl _ _) _)⟩
    have HF1 := Aside0.mk hF1
    have hB : w.heap.size ≤ w1.heap.size := hB1.size
    clear hA1 hF1 hB1
    go_wp2_with fail
    go_loopw [8] (fun i wr => ∃ (k : Nat) (F : Nat → Prop), k ≤ 4096 ∧ i = .int .i64 k ∧ Aside0 (AirRep wr F b 2 (reps k l) (.map []) 0) ∧ Aside0 (∀ q, F q → w.heap.size ≤ q) ∧ Aside0 (Below w.heap.size w wr) ∧ Aside0 (Blk wr w1.heap.size #[.int .i64 1, .int .i64 0, .slice A l.length c] 24 ∧ ¬ F w1.heap.size)) (fun i _ => 4096 - (intOf i).toNat)
    case atStart => exact ⟨0, F1, by omega, rfl, HA1, HF1, HB1, HBl⟩
    case round =>
      obtain ⟨k, F, hk, rfl, HA, HF, HB, HX⟩ := hrel
      clear HA1 HF1 HB1 HBl
      by_cases hlt : k < 4096
      · by_cases hd : ds = true ∧ 0 < k
        · obtain ⟨rfl, hd2⟩ := hd
          obtain ⟨j, rfl⟩ : ∃ j, k = j + 1 := ⟨k - 1, by omega⟩
          have hj : ((j + 1 : Nat) : Int) - 1 = (j : Int) := by omega
          have hw : IntKind.i64.wrap (((j + 1 : Nat) : Int) - 1) = (j : Int) := by rw [hj]; exact IntWalk.i64_in _ (by omega)
          go_wp2_with fail
          refine (double_more HA.out hlt hl j (by omega)).mono ?_
          rintro e w2 ⟨F2, rfl, hA2, hT2, hF2⟩
          have HA2 := Aside0.mk hA2
          have HF2 : Aside0 (∀ q, F2 q → w.heap.size ≤ q) := ⟨fun q hq => (hF2 q hq).elim (fun h => HF.out q h) (fun h => Nat.le_trans HB.out.size h.1)⟩
          have HB2 := Aside0.mk (below_turned HB.out hT2 HB.out.size HF.out)
          have HX2 : Aside0 (Blk w2 w1.heap.size #[.int .i64 1, .int .i64 0, .slice A l.length c] 24 ∧ ¬ F2 w1.heap.size) := ⟨hT2.blk HX.out.1 HX.out.2, fun hk => (hF2 _ hk).elim HX.out.2 (fun h => by have := HX.out.1.lt; omega)⟩
          clear hA2 hT2 hF2 hj hw
          go_wp2_with fail
          go_roundw
          case rel => exact ⟨j + 1 + 1, F2, by omega, by go_num, HA2, HF2, HB2, HX2⟩
          case measure => simp [intOf]; omega
        · have hxx := HX.out.1
          have hxx0 : World.cell? wr ⟨w1.heap.size, 0, none⟩ = some (.int .i64 1) := Blk.cell hxx 0
          have hxxf0 : World.frozen? wr ⟨w1.heap.size, 0, none⟩ = false := Blk.free hxx 0
          have hxx1 : World.cell? wr ⟨w1.heap.size, 1, none⟩ = some (.int .i64 0) := Blk.cell hxx 1
          have hxxf1 : World.frozen? wr ⟨w1.heap.size, 1, none⟩ = false := Blk.free hxx 1
          have hxx2 : World.cell? wr ⟨w1.heap.size, 2, none⟩ = some (.slice A l.length c) := Blk.cell hxx 2
          have hxxf2 : World.frozen? wr ⟨w1.heap.size, 2, none⟩ = false := Blk.free hxx 2
          clear hxx
          have HR2 := Aside0.mk (Kd.C_below HR.out HB.out)
          rcases Bool.eq_false_or_eq_true ds with rfl | rfl
          · obtain rfl : k = 0 := by
              rcases Nat.eq_zero_or_pos k with h | h
              · exact h
              · exact absurd ⟨rfl, h⟩ hd
            clear hd
            go_wp2_with fail
            refine (send_more HA.out hlt hl A c HR2.out).mono ?_
            rintro e w2 ⟨F2, rfl, hA2, hT2, hF2⟩
            have HA2 := Aside0.mk hA2
            have HF2 : Aside0 (∀ q, F2 q → w.heap.size ≤ q) := ⟨fun q hq => (hF2 q hq).elim (fun h => HF.out q h) (fun h => Nat.le_trans HB.out.size h.1)⟩
            have HB2 := Aside0.mk (below_turned HB.out hT2 HB.out.size HF.out)
            have HX2 : Aside0 (Blk w2 w1.heap.size #[.int .i64 1, .int .i64 0, .slice A l.length c] 24 ∧ ¬ F2 w1.heap.size) := ⟨hT2.blk HX.out.1 HX.out.2, fun hk => (hF2 _ hk).elim HX.out.2 (fun h => by have := HX.out.1.lt; omega)⟩
            clear hA2 hT2 hF2
            go_wp2_with fail
            go_roundw
            case rel => exact ⟨_, F2, by omega, by go_num, HA2, HF2, HB2, HX2⟩
            case measure => first | (simp [intOf]; done) | (simp [intOf]; omega)
          · clear hd
            go_wp2_with fail
            refine (send_more HA.out hlt hl A c HR2.out).mono ?_
            rintro e w2 ⟨F2, rfl, hA2, hT2, hF2⟩
            have HA2 := Aside0.mk hA2
            have HF2 : Aside0 (∀ q, F2 q → w.heap.size ≤ q) := ⟨fun q hq => (hF2 q hq).elim (fun h => HF.out q h) (fun h => Nat.le_trans HB.out.size h.1)⟩
            have HB2 := Aside0.mk (below_turned HB.out hT2 HB.out.size HF.out)
            have HX2 : Aside0 (Blk w2 w1.heap.size #[.int .i64 1, .int .i64 0, .slice A l.length c] 24 ∧ ¬ F2 w1.heap.size) := ⟨hT2.blk HX.out.1 HX.out.2, fun hk => (hF2 _ hk).elim HX.out.2 (fun h => by have := HX.out.1.lt; omega)⟩
            clear hA2 hT2 hF2
            go_wp2_with fail
            go_roundw
            case rel => exact ⟨_, F2, by omega, by go_num, HA2, HF2, HB2, HX2⟩
            case measure => first | (simp [intOf]; done) | (simp [intOf]; omega)
      · obtain rfl : k = 4096 := by omega
        have hxx := HX.out.1
        have hxx0 : World.cell? wr ⟨w1.heap.size, 0, none⟩ = some (.int .i64 1) := Blk.cell hxx 0
        have hxxf0 : World.frozen? wr ⟨w1.heap.size, 0, none⟩ = false := Blk.free hxx 0
        have hxx1 : World.cell? wr ⟨w1.heap.size, 1, none⟩ = some (.int .i64 0) := Blk.cell hxx 1
        have hxxf1 : World.frozen? wr ⟨w1.heap.size, 1, none⟩ = false := Blk.free hxx 1
        have hxx2 : World.cell? wr ⟨w1.heap.size, 2, none⟩ = some (.slice A l.length c) := Blk.cell hxx 2
        have hxxf2 : World.frozen? wr ⟨w1.heap.size, 2, none⟩ = false := Blk.free hxx 2
        clear hxx hlt
        go_wp2_with fail
        refine (send_full HA.out 1 0 A l c bad_ends (by omega) (by decide) (by decide) (has_empty _) (by rw [reps_len]; omega)).mono ?_
        rintro e w2 ⟨rfl, hb2⟩
        have HA2 := Aside0.mk (HA.out.below hb2)
        have HB2 := Aside0.mk (below_then HB.out HB.out.size hb2)
        clear hb2
        go_wp2_with fail
        refine (double_full HA2.out 0 (by omega) (by rw [reps_len]; omega) (reps_small _ l hl) (by rw [reps_len]; omega)).mono ?_
        rintro e w3 ⟨rfl, hb3⟩
        have HA3 := Aside0.mk (HA2.out.below hb3)
        have HB3 := Aside0.mk (below_then HB2.out HB2.out.size hb3)
        clear hb3
        go_wp2_with fail
        refine (count_any HA3.out).mono ?_
        rw [reps_len]
        rintro e w' ⟨rfl, rfl⟩
        go_wp2_with fail
        refine (lose_ok HA3.out 7 (by rw [reps_len]; omega)).mono ?_
        rintro e w4 ⟨rfl, hA4, hT4⟩
        rw [reps_less 4096 l 7 (by omega)] at hA4
        have HA4 := Aside0.mk (show AirRep w4 F b 2 (reps 4095 l) (.map []) 0 from hA4)
        have HB4 := Aside0.mk (below_turned HB3.out hT4 HB3.out.size HF.out)
        clear hA4 hT4
        go_wp2_with fail
        refine (double_more HA4.out (by omega) hl 0 (by omega)).mono ?_
        rintro e w5 ⟨F5, rfl, hA5, hT5, hF5⟩
        have HA5 := Aside0.mk hA5
        have HB5 := Aside0.mk (below_turned HB4.out hT5 HB4.out.size HF.out)
        clear hA5 hT5 hF5
        go_wp2_with fail
        refine (count_any HA5.out).mono ?_
        rw [reps_len]
        rintro e w' ⟨rfl, rfl⟩
        go_wp2_with fail
        refine (wakes_any _).mono ?_
        rintro e w6 ⟨rfl, hb6⟩
        have HB6 := Aside0.mk (below_then HB5.out HB5.out.size hb6)
        clear hb6
        go_wp2_with fail
        go_ret
        exact ⟨rfl, HB6.out⟩
  · go_enter Try.func4, Try.ntmps4
    go_wp2_with fail
    refine (new_any 2 (by omega) (by omega) _).mono ?_
    rintro e w1 ⟨b, F1, rfl, hA1, hF1, hB1⟩
    have HB1 := Aside0.mk hB1
    clear hA1 hF1 hB1
    go_wp2_with fail
    refine (wakes_any _).mono ?_
    rintro e w6 ⟨rfl, hb6⟩
    have HB6 := Aside0.mk (below_then HB1.out HB1.out.size hb6)
    clear hb6
    go_wp2_with fail
    go_ret
    exact ⟨rfl, HB6.out⟩
end Go.Proofs.Ytikfelmmelkioaa.Mine
