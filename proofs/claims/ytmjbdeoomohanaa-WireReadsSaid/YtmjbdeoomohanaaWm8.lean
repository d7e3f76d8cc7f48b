import Derived.Test.YtmjbdeoomohanaaWm7
import Derived.Deep.WholeRow
import Derived.Test.YtmjbdeoomohanaaWm5
import Derived.Lib.Bytes

/- wire: the document's Check (printed by wip/gen/wireRe.py). -/
set_option linter.unusedSimpArgs false
set_option linter.unusedVariables false
namespace Go.Proofs.Ytmjbdeoomohanaa.Mine
open Go.RowKit Go.Maps Go.Proofs.YtmjbdeoomohanaaW.PrintWords Go.Proofs.YtmjbdeoomohanaaW.PrintLast Go.Proofs.YtmjbdeoomohanaaW.PrintMore Go.Proofs.Ytmjbdeoomohanaa.PWirePacks Go.Proofs.Ytmjbdeoomohanaa.Turn

theorem store58 (w : World) (c : Array Value) (hc : c.size = 13) (f : Nat → Bool) : Sem.run Try.prog (storeCells ⟨w.heap.size, 0, none⟩ (boolsV f).toList) (w.alloc (.cells c 58)) = .ok () (w.alloc (.cells (boolsV f) 58)) :=
  run_storeCells_new (P := Try.prog) w 58 c (boolsV f) (by rw [show (boolsV f).size = 13 from rfl]; kernel_rfl) hc (by simp [boolsV, Value.oneCell'])
set_option maxHeartbeats 16000000 in
set_option maxRecDepth 100000 in
theorem checkR_any {w : World} {m : Msg} {cs : Array Value} {ok : Nat → Prop} (hm : ArgF w ok m cs) (hr : RgM m) : Calls Try.prog 16 #[.agg cs] w fun e w' => e = .returned (.int .i64 (chk m)) ∧ Below w.heap.size w w' := by
  obtain ⟨A5, c5, A8, c8, A13, c13, rfl, h1, h2, h3, f5, f8, f13⟩ := hm
  have HM := Aside0.mk (show ArgF w ok m (mcells m A5 c5 A8 c8 A13 c13) from ⟨A5, c5, A8, c8, A13, c13, rfl, h1, h2, h3, f5, f8, f13⟩)
  have HF5 := Aside0.mk (Kd.F_now f5)
  have HF13 := Aside0.mk (Kd.F_now f13)
  have HC := Aside0.mk (chk.eq_def m)
  have HZ := Aside0.mk (has_zero m.ty hr.ty.1 hr.ty.2)
  have HT := Aside0.mk hr.ty
  have HLN := Aside0.mk (show m.log.length ≤ 4611686018427387904 ∧ m.blocks.length ≤ 4611686018427387904 from ⟨hr.log.1, hr.blocks.1⟩)
  have HSL := Aside0.mk (show (setL m).length = 13 from rfl)
  obtain ⟨R, hR⟩ : ∃ R, chk m = R := ⟨_, rfl⟩
  rw [hR] at HC ⊢
  clear hR
  have HH := Aside0.mk (fun (W : World) => hasR_any m.ty hr.ty.1 hr.ty.2 W)
  have HSET := Aside0.mk (fun (W : World) (hb : Below w.heap.size w W) => setR_any ((HM.out.below hb)))
  obtain ⟨h, hh⟩ : ∃ h, hasB m.ty = h := ⟨_, rfl⟩
  obtain ⟨s, hs⟩ : ∃ s, setL m = s := ⟨_, rfl⟩
  have HL := Aside0.mk (longBad.eq_def m)
  have HNB := Aside0.mk (numBad.eq_def m)
  obtain ⟨LB, hLB⟩ : ∃ x, longBad m = x := ⟨_, rfl⟩
  obtain ⟨NB, hNB⟩ : ∃ x, numBad m = x := ⟨_, rfl⟩
  rw [hLB] at HL HC
  rw [hNB] at HNB HC
  clear hLB hNB
  rw [hh] at HC HZ HH
  rw [hs] at HC HSET HSL
  clear hh hs
  obtain ⟨hf, hhf⟩ : ∃ f, f = h.testBit := ⟨_, rfl⟩
  obtain ⟨sf, hsf⟩ : ∃ f, f = (fun i => s.getD i false) := ⟨_, rfl⟩
  have HY := Aside0.mk (show (∀ k, k < 13 → sf k = true → hf k = false → badF s h = true) from fun k hk a b => badF_yes hk (by rw [hsf] at a; exact a) (by rw [hhf] at b; exact b))
  have HN := Aside0.mk (show (∀ j, j < 13 → (sf j && !hf j) = false) → badF s h = false from fun q => badF_no HSL.out (fun j hj => by have := q j hj; rw [hsf, hhf] at this; exact this))
  rw [← hhf] at HH
  rw [← hsf] at HSET
  clear hhf hsf
  obtain ⟨x0, x1, x2, x3, x4, x5, x6, x7, x8, x9, x10, x11, x12, x13⟩ := m
  unfold mcells at *
  simp only at HM HF5 HF13 HC HZ HT HLN HH HSET HL HNB ⊢
  have HX := Aside0.mk (Blk.new w #[.int .u8 x0, .int .u64 x1, .int .u64 x2, .int .i64 x3, .int .i64 x4, .slice A5 x5.length c5, .int .u64 x6, .int .u64 x7, .slice A8 x8.length c8, .int .u64 x9, .int .u8 x10, .int .u32 x11, .int .i64 x12, .slice A13 x13.length c13] 29)
  have HA := Aside0.mk (below_alloc (Below.refl w.heap.size w) (.cells #[.int .u8 x0, .int .u64 x1, .int .u64 x2, .int .i64 x3, .int .i64 x4, .slice A5 x5.length c5, .int .u64 x6, .int .u64 x7, .slice A8 x8.length c8, .int .u64 x9, .int .u8 x10, .int .u32 x11, .int .i64 x12, .slice A13 x13.length c13] 29))
  clear hr h1 h2 h3 f5 f8 f13
  obtain ⟨ht0, ht1⟩ := HT.out
  by_cases hz : x0 < 1 ∨ 14 < x0
  · have HR : Aside0 (R = 1) := ⟨by rw [HC.out, if_pos (HZ.out.2 hz)]⟩
    have hb : Aside0 (Below w.heap.size w (w.alloc (.cells #[.int .u8 x0, .int .u64 x1, .int .u64 x2, .int .i64 x3, .int .i64 x4, .slice A5 x5.length c5, .int .u64 x6, .int .u64 x7, .slice A8 x8.length c8, .int .u64 x9, .int .u8 x10, .int .u32 x11, .int .i64 x12, .slice A13 x13.length c13] 29))) := HA
    rcases hz with hz | hz
    all_goals
      go_enter Try.func16, Try.ntmps16
      go_wp2_with fail
      all_goals
        go_ret
        exact ⟨by rw [HR.out]; rfl, HA.out⟩
  have hz1 : ¬ x0 < 1 := fun h => hz (.inl h)
  have hz2 : ¬ 14 < x0 := fun h => hz (.inr h)
  have HC2 : Aside0 (R = if badF s h = true then 6 else if NB = true then 1 else if LB = true then 2 else if x13.any oddB = true then 6 else 0) := ⟨by rw [HC.out, if_neg (fun e => hz (HZ.out.1 e))]⟩
  clear HC hz HZ
  go_enter Try.func16, Try.ntmps16
  go_wp2_with fail
  refine (HH.out _).mono ?_
  rintro e w1 ⟨rfl, hb1⟩
  have HB1 := Aside0.mk (below_step HA.out hb1)
  have hx1 : Blk w1 w.heap.size #[.int .u8 x0, .int .u64 x1, .int .u64 x2, .int .i64 x3, .int .i64 x4, .slice A5 x5.length c5, .int .u64 x6, .int .u64 x7, .slice A8 x8.length c8, .int .u64 x9, .int .u8 x10, .int .u32 x11, .int .i64 x12, .slice A13 x13.length c13] 29 := (hb1.block _ HX.out.lt).trans HX.out
  have HX1 := Aside0.mk hx1
  have hx10 : World.cell? w1 ⟨w.heap.size, 0, none⟩ = some (.int .u8 x0) := Blk.cell hx1 0
  have hx11 : World.cell? w1 ⟨w.heap.size, 1, none⟩ = some (.int .u64 x1) := Blk.cell hx1 1
  have hx12 : World.cell? w1 ⟨w.heap.size, 2, none⟩ = some (.int .u64 x2) := Blk.cell hx1 2
  have hx13 : World.cell? w1 ⟨w.heap.size, 3, none⟩ = some (.int .i64 x3) := Blk.cell hx1 3
  have hx14 : World.cell? w1 ⟨w.heap.size, 4, none⟩ = some (.int .i64 x4) := Blk.cell hx1 4
  have hx15 : World.cell? w1 ⟨w.heap.size, 5, none⟩ = some (.slice A5 x5.length c5) := Blk.cell hx1 5
  have hx16 : World.cell? w1 ⟨w.heap.size, 6, none⟩ = some (.int .u64 x6) := Blk.cell hx1 6
  have hx17 : World.cell? w1 ⟨w.heap.size, 7, none⟩ = some (.int .u64 x7) := Blk.cell hx1 7
  have hx18 : World.cell? w1 ⟨w.heap.size, 8, none⟩ = some (.slice A8 x8.length c8) := Blk.cell hx1 8
  have hx19 : World.cell? w1 ⟨w.heap.size, 9, none⟩ = some (.int .u64 x9) := Blk.cell hx1 9
  have hx110 : World.cell? w1 ⟨w.heap.size, 10, none⟩ = some (.int .u8 x10) := Blk.cell hx1 10
  have hx111 : World.cell? w1 ⟨w.heap.size, 11, none⟩ = some (.int .u32 x11) := Blk.cell hx1 11
  have hx112 : World.cell? w1 ⟨w.heap.size, 12, none⟩ = some (.int .i64 x12) := Blk.cell hx1 12
  have hx113 : World.cell? w1 ⟨w.heap.size, 13, none⟩ = some (.slice A13 x13.length c13) := Blk.cell hx1 13
  have hlt1 := hx1.lt
  clear hb1 hx1
  go_wp2_with fail
  rw [store58 _ _ (by rfl)]
  simp only [Result.andThen]
  go_wp2_with fail
  refine (HSET.out _ (below_alloc HB1.out _)).mono ?_
  rintro e w2 ⟨rfl, hb2⟩
  have HB2 := Aside0.mk (below_step (below_alloc HB1.out _) hb2)
  have hy2 : Blk w2 w1.heap.size (boolsV hf) 58 := (hb2.block _ (Blk.new w1 (boolsV hf) 58).lt).trans (Blk.new w1 (boolsV hf) 58)
  have HY2 := Aside0.mk hy2
  have hxa := HX1.out.alloc (.cells (boolsV hf) 58)
  have hx2 : Blk w2 w.heap.size #[.int .u8 x0, .int .u64 x1, .int .u64 x2, .int .i64 x3, .int .i64 x4, .slice A5 x5.length c5, .int .u64 x6, .int .u64 x7, .slice A8 x8.length c8, .int .u64 x9, .int .u8 x10, .int .u32 x11, .int .i64 x12, .slice A13 x13.length c13] 29 := (hb2.block _ hxa.lt).trans hxa
  have HX2 := Aside0.mk hx2
  clear hb2 hy2 hxa hx2
  go_wp2_with fail
  rw [store58 _ _ (by rfl)]
  simp only [Result.andThen]
  go_wp2_with fail
  have hy3 := HY2.out.alloc (.cells (boolsV sf) 58)
  have hx3 := HX2.out.alloc (.cells (boolsV sf) 58)
  have hs3 := Blk.new w2 (boolsV sf) 58
  have HB3 := Aside0.mk (below_alloc HB2.out (.cells (boolsV sf) 58))
  generalize w2.alloc (.cells (boolsV sf) 58) = w3 at *
  have HX3 := Aside0.mk hx3
  have HY3 := Aside0.mk hy3
  have HS3 := Aside0.mk hs3
  have hlx := hx3.lt
  have hly := hy3.lt
  have hls := hs3.lt
  have hx30 : World.cell? w3 ⟨w.heap.size, 0, none⟩ = some (.int .u8 x0) := Blk.cell hx3 0
  have hx31 : World.cell? w3 ⟨w.heap.size, 1, none⟩ = some (.int .u64 x1) := Blk.cell hx3 1
  have hx32 : World.cell? w3 ⟨w.heap.size, 2, none⟩ = some (.int .u64 x2) := Blk.cell hx3 2
  have hx33 : World.cell? w3 ⟨w.heap.size, 3, none⟩ = some (.int .i64 x3) := Blk.cell hx3 3
  have hx34 : World.cell? w3 ⟨w.heap.size, 4, none⟩ = some (.int .i64 x4) := Blk.cell hx3 4
  have hx35 : World.cell? w3 ⟨w.heap.size, 5, none⟩ = some (.slice A5 x5.length c5) := Blk.cell hx3 5
  have hx36 : World.cell? w3 ⟨w.heap.size, 6, none⟩ = some (.int .u64 x6) := Blk.cell hx3 6
  have hx37 : World.cell? w3 ⟨w.heap.size, 7, none⟩ = some (.int .u64 x7) := Blk.cell hx3 7
  have hx38 : World.cell? w3 ⟨w.heap.size, 8, none⟩ = some (.slice A8 x8.length c8) := Blk.cell hx3 8
  have hx39 : World.cell? w3 ⟨w.heap.size, 9, none⟩ = some (.int .u64 x9) := Blk.cell hx3 9
  have hx310 : World.cell? w3 ⟨w.heap.size, 10, none⟩ = some (.int .u8 x10) := Blk.cell hx3 10
  have hx311 : World.cell? w3 ⟨w.heap.size, 11, none⟩ = some (.int .u32 x11) := Blk.cell hx3 11
  have hx312 : World.cell? w3 ⟨w.heap.size, 12, none⟩ = some (.int .i64 x12) := Blk.cell hx3 12
  have hx313 : World.cell? w3 ⟨w.heap.size, 13, none⟩ = some (.slice A13 x13.length c13) := Blk.cell hx3 13
  clear hy3 hx3 hs3 HX1 HX2 HY2 HB1 HB2 HX HA HSET HH HM
  go_loop [5] (fun i => ∃ k : Nat, k ≤ 13 ∧ i = .int .i64 k ∧ Aside0 (∀ j, j < k → (sf j && !hf j) = false)) (fun i => 13 - (intOf i).toNat)
  case atStart => exact ⟨0, Nat.zero_le _, rfl, ⟨fun j hj => absurd hj (Nat.not_lt_zero j)⟩⟩
  case round =>
    obtain ⟨k, hk, rfl, HK⟩ := hrel
    by_cases hlt : k < 13
    · have ch : w3.cell? ⟨w1.heap.size, k, none⟩ = some (.bool (hf k)) := (HY3.out.cell k).trans (boolsV_at hf hlt)
      have cs : w3.cell? ⟨w2.heap.size, k, none⟩ = some (.bool (sf k)) := (HS3.out.cell k).trans (boolsV_at sf hlt)
      have HP := Aside0.mk (HY.out k hlt)
      have HK1 : Aside0 ((sf k && !hf k) = false → ∀ j, j < k + 1 → (sf j && !hf j) = false) := ⟨fun h j hj => by
        by_cases e : j = k
        · rw [e]; exact h
        · exact HK.out j (by omega)⟩
      generalize sf k = q at *
      generalize hf k = p at *
      cases q <;> cases p
      case true.false =>
        have HR : Aside0 (R = 6) := ⟨by rw [HC2.out, if_pos (HP.out rfl rfl)]⟩
        go_wp2_with fail
        go_ret
        exact ⟨by rw [HR.out]; rfl, HB3.out⟩
      all_goals
        go_wp2_with fail
        go_round
        case rel => exact ⟨k + 1, by omega, by go_num, ⟨HK1.out rfl⟩⟩
        case measure => simp [intOf]; omega
    · have HBF : Aside0 (badF s h = false) := ⟨HN.out (fun j hj => HK.out j (by omega))⟩
      clear HK
      have hk13 : k = 13 := by omega
      subst hk13
      have HC3 : Aside0 (R = if NB = true then 1 else if LB = true then 2 else if x13.any oddB = true then 6 else 0) := ⟨by rw [HC2.out, HBF.out]; rfl⟩
      clear HC2 HBF hlt hk
      cases NB with
      | true =>
        have HR : Aside0 (R = 1) := ⟨by rw [HC3.out]; rfl⟩
        have hnb := HNB.out
        simp only [Bool.or_eq_true, Bool.true_eq, decide_eq_true_eq] at hnb
        have HHH := Aside0.mk hnb
        clear hnb
        go_wp2_with fail
        all_goals first
          | (exfalso; have := HHH.out; omega)
          | (go_ret; exact ⟨by rw [HR.out]; rfl, HB3.out⟩)
          | skip
        done
      | false =>
        have hnb := HNB.out
        simp only [Bool.false_eq, Bool.or_eq_false_iff, decide_eq_false_iff_not] at hnb
        obtain ⟨⟨⟨⟨⟨n0, n1⟩, n2⟩, n3⟩, n4⟩, n5⟩ := hnb
        by_cases hl3 : 64 < x5.length ∨ 2048 < x8.length ∨ 4096 < x13.length
        · have HR : Aside0 (R = 2) := ⟨by
            have hLB : LB = true := by
              rw [HL.out]
              rcases hl3 with q | q | q <;> simp [q]
            rw [HC3.out, hLB]
            rfl⟩
          have HHH := Aside0.mk hl3
          clear hl3
          go_wp2_with fail
          all_goals first
            | (exfalso; have := HHH.out; omega)
            | (go_ret; exact ⟨by rw [HR.out]; rfl, HB3.out⟩)
            | skip
          done
        · have hl5 : ¬ (64 < (x5.length : Int)) := by omega
          have hl8 : ¬ (2048 < (x8.length : Int)) := by omega
          have hl13 : ¬ (4096 < (x13.length : Int)) := by omega
          have HL2 : Aside0 (LB = x5.any longE) := ⟨by
            rw [HL.out]
            simp only [show decide (64 < x5.length) = false from decide_eq_false (by omega), show decide (2048 < x8.length) = false from decide_eq_false (by omega), show decide (4096 < x13.length) = false from decide_eq_false (by omega), Bool.false_or]⟩
          clear hl3
          go_wp2_with fail
          have HC5 := Aside0.mk (Kd.C_below HF5.out HB3.out)
          have HC13 := Aside0.mk (Kd.C_below HF13.out HB3.out)
          go_loop [6] (fun i => ∃ k : Nat, k ≤ x5.length ∧ i = .int .i64 k ∧ Aside0 (x5.any longE = (x5.drop k).any longE)) (fun i => x5.length - (intOf i).toNat)
          case atStart => exact ⟨0, Nat.zero_le _, rfl, ⟨rfl⟩⟩
          case round =>
            obtain ⟨k, hk, rfl, HI⟩ := hrel
            by_cases hlt : k < x5.length
            · obtain ⟨ad, A2, c2, e, y0, y1, y2, hl2, hB2⟩ := at_T44 HC5.out (k : Int) (by omega) (by omega)
              cases e
              rw [Int.toNat_natCast] at y0 y1 y2
              clear hB2
              have hx2 : rd_T44 x5 (k : Int) = x5[k] := by
                unfold rd_T44
                rw [List.getD_eq_getElem?_getD, Int.toNat_natCast, List.getElem?_eq_getElem hlt]
                rfl
              have hdr : x5.drop k = x5[k] :: x5.drop (k + 1) := List.drop_eq_getElem_cons hlt
              rw [← hx2] at hdr
              clear hx2
              generalize rd_T44 x5 (k : Int) = x at *
              have han : (ad.add (k * 3)).block < w3.heap.size := World.block_lt_of_cell? w3 _ y0
              by_cases hq : 2048 < x.f2.length
              · have HLB : Aside0 (LB = true) := ⟨by rw [HL2.out, HI.out, hdr, List.any_cons, show longE x = true from decide_eq_true hq]; rfl⟩
                have HR : Aside0 (R = 2) := ⟨by rw [HC3.out, HLB.out]; rfl⟩
                clear hdr
                go_wp2_with fail
                go_ret
                exact ⟨by rw [HR.out]; rfl, HB3.out⟩
              · have HI2 : Aside0 (x5.any longE = (x5.drop (k + 1)).any longE) := ⟨by rw [HI.out, hdr, List.any_cons, show longE x = false from decide_eq_false hq]; rfl⟩
                clear hdr
                go_wp2_with fail
                go_round
                case rel => exact ⟨k + 1, by omega, by go_num, HI2⟩
                case measure => simp [intOf]; omega
            · have hkl : k = x5.length := by omega
              subst hkl
              have HLB : Aside0 (LB = false) := ⟨by rw [HL2.out, HI.out, List.drop_length]; rfl⟩
              have HC4 : Aside0 (R = if x13.any oddB = true then 6 else 0) := ⟨by rw [HC3.out, HLB.out]; rfl⟩
              clear HC3 hlt hk HI HC5
              go_wp2_with fail
              go_loop [7] (fun i => ∃ k : Nat, k ≤ x13.length ∧ i = .int .i64 k ∧ Aside0 (x13.any oddB = (x13.drop k).any oddB)) (fun i => x13.length - (intOf i).toNat)
              case atStart => exact ⟨0, Nat.zero_le _, rfl, ⟨rfl⟩⟩
              case round =>
                obtain ⟨k, hk, rfl, HI⟩ := hrel
                by_cases hlt : k < x13.length
                · obtain ⟨ad, A2, c2, e, y0, hl2, hB2⟩ := at_L2 HC13.out (k : Int) (by omega) (by omega)
                  cases e
                  rw [Int.toNat_natCast] at y0
                  clear hB2
                  have hx2 : rd_L2 x13 (k : Int) = x13[k] := by
                    unfold rd_L2
                    rw [List.getD_eq_getElem?_getD, Int.toNat_natCast, List.getElem?_eq_getElem hlt]
                    rfl
                  have hdr : x13.drop k = x13[k] :: x13.drop (k + 1) := List.drop_eq_getElem_cons hlt
                  rw [← hx2] at hdr
                  clear hx2
                  generalize rd_L2 x13 (k : Int) = x at *
                  have han : (ad.add k).block < w3.heap.size := World.block_lt_of_cell? w3 _ y0
                  by_cases hq : x.length = 128
                  · have HI2 : Aside0 (x13.any oddB = (x13.drop (k + 1)).any oddB) := ⟨by rw [HI.out, hdr, List.any_cons, show oddB x = false from by unfold oddB; rw [decide_eq_true hq]; rfl]; rfl⟩
                    clear hdr
                    go_wp2_with fail
                    go_round
                    case rel => exact ⟨k + 1, by omega, by go_num, HI2⟩
                    case measure => simp [intOf]; omega
                  · have hq2 : ((x.length : Int) != 128) = true := bne_iff_ne.2 (by omega)
                    have HR : Aside0 (R = 6) := ⟨by rw [HC4.out, HI.out, hdr, List.any_cons, show oddB x = true from by unfold oddB; rw [decide_eq_false hq]; rfl]; rfl⟩
                    clear hdr
                    go_wp2_with fail
                    go_ret
                    exact ⟨by rw [HR.out]; rfl, HB3.out⟩
                · have hkl : k = x13.length := by omega
                  subst hkl
                  have HR : Aside0 (R = 0) := ⟨by rw [HC4.out, HI.out, List.drop_length]; rfl⟩
                  go_wp2_with fail
                  go_ret
                  exact ⟨by rw [HR.out]; rfl, HB3.out⟩
end Go.Proofs.Ytmjbdeoomohanaa.Mine

/- wire: the document's Same; the law's Great. -/
set_option linter.unusedSimpArgs false
set_option linter.unusedVariables false
namespace Go.Proofs.Ytmjbdeoomohanaa.Mine
open Go.RowKit Go.Maps Go.Proofs.YtmjbdeoomohanaaW.PrintWords Go.Proofs.YtmjbdeoomohanaaW.PrintLast Go.Proofs.YtmjbdeoomohanaaW.PrintMore Go.Proofs.Ytmjbdeoomohanaa.PWirePacks Go.Proofs.Ytmjbdeoomohanaa.Turn

def allEq {α : Type} (eq : α → α → Bool) : List α → List α → Bool
  | [], [] => true
  | x :: xs, y :: ys => eq x y && allEq eq xs ys
  | _, _ => false
theorem allEq_iff {α : Type} {eq : α → α → Bool} : ∀ {a b : List α}, (∀ x ∈ a, ∀ y ∈ b, (eq x y = true ↔ x = y)) → (allEq eq a b = true ↔ a = b)
  | [], [], _ => by simp [allEq]
  | x :: xs, [], _ => by simp [allEq]
  | [], y :: ys, _ => by simp [allEq]
  | x :: xs, y :: ys, h => by
    have h1 := h x List.mem_cons_self y List.mem_cons_self
    have h2 := allEq_iff (eq := eq) (a := xs) (b := ys) (fun x hx y hy => h x (List.mem_cons_of_mem _ hx) y (List.mem_cons_of_mem _ hy))
    simp only [allEq, Bool.and_eq_true, h1, h2, List.cons.injEq]
/-- Two strings of bytes. -/
def strEq (a b : List Int) : Bool := (strOfNums a).toList == (strOfNums b).toList
theorem byte_inj : ∀ {a b : List Int}, Byt a → Byt b → a.map (fun n => UInt8.ofNat n.toNat) = b.map (fun n => UInt8.ofNat n.toNat) → a = b
  | [], [], _, _, _ => rfl
  | [], y :: ys, _, _, h => by simp at h
  | x :: xs, [], _, _, h => by simp at h
  | x :: xs, y :: ys, ha, hb, h => by
    simp only [List.map_cons, List.cons.injEq] at h
    have h1 := congrArg UInt8.toNat h.1
    have hx := ha x List.mem_cons_self
    have hy := hb y List.mem_cons_self
    rw [UInt8.toNat_ofNat', UInt8.toNat_ofNat', Nat.mod_eq_of_lt (by omega), Nat.mod_eq_of_lt (by omega)] at h1
    rw [show x = y by omega, byte_inj (fun z hz => ha z (List.mem_cons_of_mem _ hz)) (fun z hz => hb z (List.mem_cons_of_mem _ hz)) h.2]
theorem strEq_iff {a b : List Int} (ha : Byt a) (hb : Byt b) : strEq a b = true ↔ a = b := by
  unfold strEq
  rw [beq_iff_eq, Lib.strOfNums_toList, Lib.strOfNums_toList]
  exact ⟨fun h => byte_inj ha hb h, fun h => by rw [h]⟩

def eqE (x y : S44) : Bool := (x.f0 == y.f0) && (x.f1 == y.f1) && strEq x.f2 y.f2
def sameL (a b : List S44) : Bool := (a.length == b.length) && allEq eqE a b
theorem rd44 (l : List S44) {k : Nat} (hk : k < l.length) : rd_T44 l (k : Int) = l[k] := by
  unfold rd_T44
  rw [List.getD_eq_getElem?_getD, Int.toNat_natCast, List.getElem?_eq_getElem hk]
  rfl
theorem allEq_step {α : Type} {eq : α → α → Bool} {a b : List α} {k : Nat} (ha : k < a.length) (hb : k < b.length) : allEq eq (a.drop k) (b.drop k) = (eq a[k] b[k] && allEq eq (a.drop (k + 1)) (b.drop (k + 1))) := by
  rw [List.drop_eq_getElem_cons ha, List.drop_eq_getElem_cons hb, allEq]

set_option maxHeartbeats 4000000 in
theorem sameLog_any (A0 A1 : Option Addr) (c0 c1 : Nat) (l0 l1 : List S44) (w : World) (hl0 : l0.length ≤ 4611686018427387904) (hr0 : Kd.C k44 w A0 l0.length l0) (hr1 : Kd.C k44 w A1 l1.length l1) :
    Calls Try.prog 27 #[.slice A0 l0.length c0, .slice A1 l1.length c1] w fun e w' => e = .returned (.bool (sameL l0 l1)) ∧ Drawn0 w w' := by
  have HR0 := Aside0.mk hr0
  have HR1 := Aside0.mk hr1
  have HS := Aside0.mk (sameL.eq_def l0 l1)
  generalize sameL l0 l1 = X at HS ⊢
  clear hr0 hr1
  cases hq : (l0.length == l1.length) with
  | false =>
    have HX : Aside0 (X = false) := ⟨by rw [HS.out, hq]; rfl⟩
    have hq1 : ((l0.length : Int) != (l1.length : Int)) = true := by
      have := beq_eq_false_iff_ne.1 hq
      exact bne_iff_ne.2 (by omega)
    clear hq HS
    go_enter Try.func27, Try.ntmps27
    go_wp2
    go_ret
    exact ⟨by rw [HX.out]; rfl, Drawn0.refl _⟩
  | true =>
    have HX : Aside0 (X = allEq eqE (l0.drop 0) (l1.drop 0)) := ⟨by rw [HS.out, hq]; rfl⟩
    have hlen : l0.length = l1.length := by simpa using hq
    have HLEN := Aside0.mk hlen
    have hq1 : ((l0.length : Int) != (l1.length : Int)) = false := by
      rw [hlen]
      exact bne_eq_false_iff_eq.2 rfl
    clear hq HS hlen
    go_enter Try.func27, Try.ntmps27
    go_wp2
    go_loopw [5] (fun i wr => ∃ k : Nat, k ≤ l0.length ∧ i = .int .i64 k ∧ Aside0 (X = allEq eqE (l0.drop k) (l1.drop k)) ∧ Drawn0 w wr) (fun i _ => l0.length - (intOf i).toNat)
    case atStart => exact ⟨0, Nat.zero_le _, rfl, HX, Drawn0.refl _⟩
    case round =>
      clear HX hq1
      obtain ⟨k, hk, rfl, HX, ⟨m1, rfl⟩⟩ := hrel
      by_cases hlt : k < l0.length
      · obtain ⟨ad, A2, c2, e, x0, x1, x2, hl2, hB2⟩ := at_T44 HR0.out (k : Int) (by omega) (by omega)
        cases e
        obtain ⟨bd, A3, c3, e, y0, y1, y2, hl3, hB3⟩ := at_T44 HR1.out (k : Int) (by omega) (by have := HLEN.out; omega)
        cases e
        rw [Int.toNat_natCast] at x0 x1 x2 y0 y1 y2
        have hlt1 : k < l1.length := by have := HLEN.out; omega
        have HXS : Aside0 (X = (eqE (rd_T44 l0 k) (rd_T44 l1 k) && allEq eqE (l0.drop (k + 1)) (l1.drop (k + 1)))) := ⟨by rw [HX.out, allEq_step hlt hlt1, rd44 l0 hlt, rd44 l1 hlt1]⟩
        generalize rd_T44 l0 (k : Int) = x at *
        generalize rd_T44 l1 (k : Int) = y at *
        have hcv1 := fun n => Kd.C_string (P := Try.prog) (A := A2) (c := c2) Try.underlying24 Try.underlying5 Try.underlying9 (Kd.C_drewN hB2 n)
        have hcv2 := fun n => Kd.C_string (P := Try.prog) (A := A3) (c := c3) Try.underlying24 Try.underlying5 Try.underlying9 (Kd.C_drewN hB3 n)
        clear hB2 hB3 HX
        have hlt2 : decide ((k : Int) < (l1.length : Int)) = true := by simpa using hlt1
        cases q0 : (x.f0 == y.f0) with
        | false =>
          have HY : Aside0 (X = false) := ⟨by rw [HXS.out, eqE, q0]; rfl⟩
          have q0' : (x.f0 != y.f0) = true := by rw [bne, q0]; rfl
          clear HXS
          go_wp2
          go_quiet (fail)
          try go_wp2
          go_ret
          exact ⟨by rw [HY.out]; rfl, by repeat (first | exact Drawn0.refl _ | apply Drawn0.step)⟩
        | true =>
          have q0' : (x.f0 != y.f0) = false := by rw [bne, q0]; rfl
          cases q1 : (x.f1 == y.f1) with
          | false =>
            have HY : Aside0 (X = false) := ⟨by rw [HXS.out, eqE, q0, q1]; rfl⟩
            have q1' : (x.f1 != y.f1) = true := by rw [bne, q1]; rfl
            clear HXS
            go_wp2
            go_quiet (fail)
            try go_wp2
            go_ret
            exact ⟨by rw [HY.out]; rfl, by repeat (first | exact Drawn0.refl _ | apply Drawn0.step)⟩
          | true =>
            have q1' : (x.f1 != y.f1) = false := by rw [bne, q1]; rfl
            cases q2 : ((strOfNums x.f2).toList == (strOfNums y.f2).toList) with
            | false =>
              have HY : Aside0 (X = false) := ⟨by rw [HXS.out, eqE, q0, q1, strEq, q2]; rfl⟩
              have q2' : ((strOfNums x.f2).toList != (strOfNums y.f2).toList) = true := by rw [bne, q2]; rfl
              clear HXS
              go_wp2
              go_quiet (fail)
              try go_wp2
              go_ret
              exact ⟨by rw [HY.out]; rfl, by repeat (first | exact Drawn0.refl _ | apply Drawn0.step)⟩
            | true =>
              have HY : Aside0 (X = allEq eqE (l0.drop (k + 1)) (l1.drop (k + 1))) := ⟨by rw [HXS.out, eqE, q0, q1, strEq, q2]; rfl⟩
              have q2' : ((strOfNums x.f2).toList != (strOfNums y.f2).toList) = false := by rw [bne, q2]; rfl
              clear HXS
              go_wp2
              go_quiet (fail)
              try go_wp2
              go_roundw
              case rel => exact ⟨k + 1, by omega, by go_num, HY, by repeat (first | exact Drawn0.refl _ | apply Drawn0.step)⟩
              case measure => simp [intOf]; omega
      · have HY : Aside0 (X = true) := ⟨by
          rw [HX.out, List.drop_eq_nil_of_le (by omega), List.drop_eq_nil_of_le (by have := HLEN.out; omega)]
          rfl⟩
        clear HX
        go_wp2
        go_ret
        exact ⟨by rw [HY.out]; rfl, by repeat (first | exact Drawn0.refl _ | apply Drawn0.step)⟩
end Go.Proofs.Ytmjbdeoomohanaa.Mine
