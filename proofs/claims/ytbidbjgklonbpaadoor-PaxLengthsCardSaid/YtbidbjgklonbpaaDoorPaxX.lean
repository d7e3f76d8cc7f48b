/- pax: PaxLengths. -/
import Derived.Test.YtbidbjgklonbpaaDoorPaxT
set_option linter.unusedSimpArgs false
set_option linter.unusedVariables false
namespace Go.Proofs.YtbidbjgklonbpaaDoor.Mine
open Go.RowKit Go.Maps Go.Proofs.YtbidbjgklonbpaaDoorW.PrintWords Go.Proofs.YtbidbjgklonbpaaDoorW.PrintLast Go.Proofs.YtbidbjgklonbpaaDoorW.PrintMore Go.Proofs.YtbidbjgklonbpaaDoor.Turn Go.Proofs.YtbidbjgklonbpaaDoor.PPaxGets

def sd (n : Nat) : Nat := if n = 0 then 0 else Lib.nDigits n
theorem sd_succ {n : Nat} (h : 0 < n) : sd n = sd (n / 10) + 1 := by
  unfold sd
  rw [if_neg (by omega)]
  by_cases h1 : n < 10
  · rw [if_pos (by omega), Lib.nDigits_small h1]
  · rw [if_neg (by omega), Lib.nDigits_big h1]
theorem sd_le {n : Nat} (h : n < 10000000000000000000) : sd n ≤ 19 := by
  unfold sd
  split
  · omega
  · exact nDigits_le (k := 19) (by omega) (by omega)
set_option maxHeartbeats 1000000 in
theorem said_any (n : Nat) (hn : n ≤ 9223372036854775807) (x : Int) (hx : x = n) (w : World) : Calls Tryd.prog 27 #[.int .i64 x] w fun e w' => e = .returned (.int .i64 (sd n)) ∧ w' = w := by
  subst hx
  have HS0 := Aside0.mk (sd_le (n := n) (by omega))
  go_enter Tryd.func27, Tryd.ntmps27
  go_wp2_with fail
  go_loopw [0, 3] (fun v0 v3 wr => ∃ a b : Nat, v0 = .int .i64 a ∧ v3 = .int .i64 b ∧ a ≤ n ∧ Aside0 (b + sd a = sd n) ∧ wr = w) (fun v0 _ _ => (intOf v0).toNat)
  case atStart => exact ⟨n, 0, rfl, rfl, Nat.le_refl _, ⟨by omega⟩, rfl⟩
  case round =>
    obtain ⟨a, b, rfl, rfl, ha, HS, rfl⟩ := hrel
    have hb19 : b ≤ 19 := by have := HS.out; have := HS0.out; omega
    by_cases h0 : 0 < a
    · have HS1 : Aside0 (b + 1 + sd (a / 10) = sd n) := ⟨by rw [← HS.out, sd_succ h0]; omega⟩
      have hq : Int.tdiv (a : Int) 10 = ((a / 10 : Nat) : Int) := by rw [Int.tdiv_eq_ediv_of_nonneg (by omega)]; omega
      go_wp2_with fail
      go_roundw
      case rel => exact ⟨a / 10, b + 1, by go_num, by go_num, by omega, HS1, trivial⟩
      case measure => simp [intOf]; omega
    · obtain rfl : a = 0 := by omega
      have HB : Aside0 ((b : Int) = (sd n : Int)) := ⟨by have := HS.out; rw [← this]; simp [sd]⟩
      go_wp2_with fail
      go_ret
      exact ⟨by rw [HB.out]; rfl, rfl⟩
theorem said_is (n m : Nat) (hs : sd n = m) (hn : n ≤ 9223372036854775807) (x : Int) (hx : x = n) (w : World) : Calls Tryd.prog 27 #[.int .i64 x] w fun e w' => e = .returned (.int .i64 m) ∧ w' = w := by
  subst hs
  exact said_any n hn x hx w

set_option maxHeartbeats 4000000 in
set_option maxRecDepth 100000 in
theorem lengths_any (k v : ByteArray) (more : Int) (hm0 : 0 ≤ more ∧ more < 256) (hk : k.size ≤ 140737488351232) (hv : v.size ≤ 140737488351232) (w : World) (ht : Tab w) (hm : MaxL w) :
    Calls Tryd.prog 7 #[.agg #[.string k, .string v], .int .u8 more] w fun e w' => e = .returned (.bool true) ∧ Below w.heap.size w w' := by
  have HT := Aside0.mk ht
  have HM := Aside0.mk hm
  have HB0 := Aside0.mk (below_alloc (Below.refl w.heap.size w) (.cells #[.string k, .string v] 23))
  have HX0 := Aside0.mk (Blk.new w #[.string k, .string v] 23)
  obtain ⟨d, hd⟩ := size_ex (3 + k.size + v.size) (by omega)
  obtain ⟨e, he⟩ := size_ex (3 + k.size + v.size + 1) (by omega)
  have hde := size_next hd he
  have HD := Aside0.mk hd
  have HE := Aside0.mk he
  have hd1 := hd.1
  have hd2 := hd.2.1
  have HSN : Aside0 (sd (3 + k.size + v.size + d) = d) := ⟨by unfold sd; rw [if_neg (by omega)]; exact hd.2.2.1⟩
  have HSJ : Aside0 (∀ j, 1 ≤ j → j < d → sd (3 + k.size + v.size + j) ≠ j) := ⟨fun j h1 h2 => by unfold sd; rw [if_neg (by omega)]; exact hd.2.2.2 j h1 h2⟩
  have HFIT : Aside0 (fitN k v = 0 → (recV k v d).length = 3 + k.size + v.size + d) := ⟨fun h => by unfold recV; rw [if_pos h, recL_length hd]⟩
  have HREC := Aside0.mk (fun W h => record_any k v hk hv HD.out W h)
  unfold EndsRec at HREC
  generalize recV k v d = R at *
  generalize fitN k v = f at *
  clear ht hm hd he
  go_enter Tryd.func7, Tryd.ntmps7
  go_wp2_with fail
  refine (awake_any _ (HT.out.below HB0.out) (HM.out.below HB0.out)).mono ?_
  rintro e1 w1 ⟨rfl, hb1⟩
  have HB1 := Aside0.mk (below_step HB0.out hb1)
  have HX1 := Aside0.mk (show Blk w1 w.heap.size #[.string k, .string v] 23 from (hb1.block _ HX0.out.lt).trans HX0.out)
  have hx1 := HX1.out
  have hl1 := hx1.lt
  have hx10 : World.cell? w1 ⟨w.heap.size, 0, none⟩ = some (.string k) := Blk.cell hx1 0
  have hx11 : World.cell? w1 ⟨w.heap.size, 1, none⟩ = some (.string v) := Blk.cell hx1 1
  clear hb1 hx1
  go_wp2_with fail
  refine (size_any k v hk (by omega) HD.out w1 (HT.out.below HB1.out)).mono ?_
  rintro e2 w2 ⟨rfl, hb2⟩
  have HB2 := Aside0.mk (below_step HB1.out hb2)
  have HX2 := Aside0.mk (show Blk w2 w.heap.size #[.string k, .string v] 23 from (hb2.block _ HX1.out.lt).trans HX1.out)
  have hx2 := HX2.out
  have hl2 := hx2.lt
  have hx20 : World.cell? w2 ⟨w.heap.size, 0, none⟩ = some (.string k) := Blk.cell hx2 0
  have hx21 : World.cell? w2 ⟨w.heap.size, 1, none⟩ = some (.string v) := Blk.cell hx2 1
  clear hb2 hx2
  go_wp2_with fail
  refine (said_is (3 + k.size + v.size + d) d HSN.out (by omega) _ (by omega) w2).mono ?_
  rintro e3 w3 ⟨rfl, hw3⟩
  subst hw3
  have hc1 : ((3 + (k.size : Int) + (v.size : Int) + (d : Int)) != (3 + (k.size : Int) + (v.size : Int) + (d : Int))) = false := by simp
  go_wp2_with fail
  clear hc1
  go_loopw [7] (fun v7 wr => ∃ j : Nat, 1 ≤ j ∧ j ≤ d ∧ v7 = .int .i64 (3 + (k.size : Int) + (v.size : Int) + (j : Int)) ∧ wr = w3) (fun v7 _ => (3 + k.size + v.size + d) - (intOf v7).toNat)
  case atStart => exact ⟨1, by omega, by omega, by go_num, rfl⟩
  case round =>
    obtain ⟨j, hj1, hj2, rfl, hwr⟩ := hrel
    subst hwr
    by_cases hlt : j < d
    · have hne := HSJ.out j hj1 hlt
      obtain ⟨q, hq⟩ : ∃ q, sd (3 + k.size + v.size + j) = q := ⟨_, rfl⟩
      rw [hq] at hne
      have HQ := Aside0.mk hq
      have hq19 : q ≤ 19 := by rw [← hq]; exact sd_le (by omega)
      clear hq
      go_wp2_with fail
      refine (said_is (3 + k.size + v.size + j) q HQ.out (by omega) _ (by omega) _).mono ?_
      rintro e4 w4 ⟨rfl, hw4⟩
      subst hw4
      have hc1 : ((3 + (k.size : Int) + (v.size : Int) + (j : Int)) == (3 + (k.size : Int) + (v.size : Int) + (q : Int))) = false := by rw [beq_eq_false_iff_ne]; omega
      go_wp2_with fail
      go_roundw
      case rel => exact ⟨j + 1, by omega, by omega, by go_num, trivial⟩
      case measure => simp [intOf]; omega
    · obtain rfl : j = d := by omega
      obtain ⟨t, hts⟩ : ∃ t, v ++ strOfNums [more] = t := ⟨_, rfl⟩
      have htz : t.size = v.size + 1 := by rw [← hts, ByteArray.size_append, strN_size]; rfl
      have HROW := Aside0.mk (row_u8 (heap_new wr (.cells #[.int .u8 more] 5)) [more] rfl (by simp))
      have hadd : ∀ W, (Op.stringOp .add v (strOfNums [more])).run Tryd.prog W = .ok (.string t) W := fun W => by
        have e2 : (strOfNums [more]).size = 1 := by rw [strN_size]; simp
        rw [← hts]
        exact run_string_add_sum W v (strOfNums [more]) (by omega)
      have hcv : (convert 24 9 (.slice (some ⟨wr.heap.size, 0, none⟩) 1 1)).run Tryd.prog (wr.alloc (.cells #[.int .u8 more] 5)) = .ok (.string (strOfNums [more])) (wr.alloc (.cells #[.int .u8 more] 5)) := Kd.C_string Tryd.underlying24 Tryd.underlying5 Tryd.underlying9 HROW.out
      have HB3 := Aside0.mk (below_alloc HB2.out (.cells #[.int .u8 more] 5))
      have HX3 := Aside0.mk (HX2.out.alloc (.cells #[.int .u8 more] 5))
      clear hts
      go_wp2_with fail
      refine (size_any k t hk (by omega) (show SizeIs (3 + k.size + t.size) e from (show 3 + k.size + v.size + 1 = 3 + k.size + t.size by omega) ▸ HE.out) _ (HT.out.below HB3.out)).mono ?_
      rintro e5 w5 ⟨rfl, hb5⟩
      have HB5 := Aside0.mk (below_step HB3.out hb5)
      have hx5 : Blk w5 w.heap.size #[.string k, .string v] 23 := (hb5.block _ HX3.out.lt).trans HX3.out
      have hl5 := hx5.lt
      have hx50 : World.cell? w5 ⟨w.heap.size, 0, none⟩ = some (.string k) := Blk.cell hx5 0
      have hx51 : World.cell? w5 ⟨w.heap.size, 1, none⟩ = some (.string v) := Blk.cell hx5 1
      clear hb5 hx5 hcv hadd
      go_wp2_with fail
      refine (HREC.out w5 (HT.out.below HB5.out)).mono ?_
      rintro e6 w6 ⟨A6, c6, rfl, ho6, hb6⟩
      have HB6 := Aside0.mk (below_step HB5.out hb6)
      clear hb6 ho6
      by_cases h0 : f = 0
      · subst h0
        have hRl := HFIT.out rfl
        have c3 : ((R.length : Int) == (3 + (k.size : Int) + (v.size : Int) + (j : Int))) = true := by rw [beq_iff_eq]; omega
        go_wp2_with fail
        go_ret
        exact ⟨rfl, HB6.out⟩
      · have hne : (f == 0) = false := beq_eq_false_iff_ne.2 h0
        have hne2 : (f != 0) = true := bne_iff_ne.2 h0
        go_wp2_with fail
        go_ret
        exact ⟨rfl, HB6.out⟩
end Go.Proofs.YtbidbjgklonbpaaDoor.Mine
