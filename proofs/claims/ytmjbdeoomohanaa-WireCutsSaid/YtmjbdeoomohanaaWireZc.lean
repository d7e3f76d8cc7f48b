/- wire: WireCuts. -/
import Derived.Test.YtmjbdeoomohanaaWireZ
set_option linter.unusedSimpArgs false
set_option linter.unusedVariables false
namespace Go.Proofs.Ytmjbdeoomohanaa.Mine
open Go.RowKit Go.Maps Go.Proofs.YtmjbdeoomohanaaW.PrintWords Go.Proofs.YtmjbdeoomohanaaW.PrintLast Go.Proofs.YtmjbdeoomohanaaW.PrintMore Go.Proofs.Ytmjbdeoomohanaa.PWirePacks Go.Proofs.Ytmjbdeoomohanaa.Turn

theorem parse_cut {m : Msg} (h : GoodM m) (r : RgM m) {p : Nat} (hp : p < (enc m).length) : parseS ((enc m).take p) = .error 201 :=
  parse_short h r _ ((enc m).drop p) (List.take_append_drop p _).symm (fun e => by
    have := congrArg List.length e
    rw [List.length_drop, List.length_nil] at this
    omega)
theorem enc_pos (m : Msg) : 0 < (enc m).length := by simp [enc]
theorem tmod_bound (cut : Int) (n : Nat) (h0 : 0 < n) : -(n : Int) < cut.tmod n ∧ cut.tmod n < n := by
  have h3 := Int.emod_nonneg cut (show (n : Int) ≠ 0 by omega)
  have h4 := Int.emod_lt_of_pos cut (show (0 : Int) < n by omega)
  rw [Int.tmod_eq_emod]
  split
  · omega
  · rename_i h
    have : cut % (n : Int) ≠ 0 := fun e => h (.inr (Int.dvd_of_emod_eq_zero e))
    omega
theorem cut_in (cut : Int) (n : Nat) (h0 : 0 < n) (hn : n ≤ 16777216) : ∃ p : Nat, p < n ∧ (wrap64 (cut.tmod n + n)).tmod n = p := by
  have h1 := tmod_bound cut n h0
  have hw : wrap64 (cut.tmod n + n) = cut.tmod n + n := by unfold wrap64; omega
  rw [hw, Int.tmod_eq_emod_of_nonneg (by omega)]
  have h3 := Int.emod_nonneg (cut.tmod n + n) (show (n : Int) ≠ 0 by omega)
  have h4 := Int.emod_lt_of_pos (cut.tmod n + n) (show (0 : Int) < n by omega)
  exact ⟨((cut.tmod n + n) % n).toNat, by omega, by omega⟩

set_option maxHeartbeats 8000000 in
set_option maxRecDepth 100000 in
theorem wireCuts_any {w : World} {m : Msg} {cs : Array Value} (hm : ArgF w (fun k => k < w.heap.size) m cs) (hr : RgM m) (cut : Int) (A : Option Addr) (c : Nat) (l : List Int) (hl : l.length ≤ c) (hC : Kd.C (Kd.int .u8) w A l.length l) (hb : Byt l) :
    Calls Try.prog 6 #[.agg cs, .int .i64 cut, .slice A l.length c] w fun e w' => e = .returned (.bool true) ∧ Below w.heap.size w w' := by
  obtain ⟨u0, u1, u2, u3, u4, u5, u6, u7, u8, u9, u10, u11, u12, u13, rfl⟩ := arg14 hm
  have HR := Aside0.mk hr
  have HL := Aside0.mk hl
  have HC := Aside0.mk hC
  have HBY := Aside0.mk hb
  have HB0 := Aside0.mk (below_alloc (Below.refl w.heap.size w) (.cells #[u0, u1, u2, u3, u4, u5, u6, u7, u8, u9, u10, u11, u12, u13] 29))
  have HM0 := Aside0.mk ((hm.below HB0.out).mono (fun k hk => hk.2))
  have HX0 := Aside0.mk (Blk.new w #[u0, u1, u2, u3, u4, u5, u6, u7, u8, u9, u10, u11, u12, u13] 29)
  clear hr hl hC hb hm
  go_enter Try.func6, Try.ntmps6
  go_wp2_with fail
  refine (great_any m _ _ HM0.out (by have := HR.out.log.1; omega) HR.out.blocks.1).mono ?_
  rintro e w1 ⟨q, rfl, hb1⟩
  have HB1 := Aside0.mk (below_step HB0.out hb1)
  have HM1 := Aside0.mk ((HM0.out.below hb1).mono (fun k hk => hk.1))
  have hx1 : Blk w1 w.heap.size #[u0, u1, u2, u3, u4, u5, u6, u7, u8, u9, u10, u11, u12, u13] 29 := (hb1.block _ HX0.out.lt).trans HX0.out
  have HX1 := Aside0.mk hx1
  have hx10 : World.cell? w1 ⟨w.heap.size, 0, none⟩ = some (u0) := Blk.cell hx1 0
  have hx11 : World.cell? w1 ⟨w.heap.size, 1, none⟩ = some (u1) := Blk.cell hx1 1
  have hx12 : World.cell? w1 ⟨w.heap.size, 2, none⟩ = some (u2) := Blk.cell hx1 2
  have hx13 : World.cell? w1 ⟨w.heap.size, 3, none⟩ = some (u3) := Blk.cell hx1 3
  have hx14 : World.cell? w1 ⟨w.heap.size, 4, none⟩ = some (u4) := Blk.cell hx1 4
  have hx15 : World.cell? w1 ⟨w.heap.size, 5, none⟩ = some (u5) := Blk.cell hx1 5
  have hx16 : World.cell? w1 ⟨w.heap.size, 6, none⟩ = some (u6) := Blk.cell hx1 6
  have hx17 : World.cell? w1 ⟨w.heap.size, 7, none⟩ = some (u7) := Blk.cell hx1 7
  have hx18 : World.cell? w1 ⟨w.heap.size, 8, none⟩ = some (u8) := Blk.cell hx1 8
  have hx19 : World.cell? w1 ⟨w.heap.size, 9, none⟩ = some (u9) := Blk.cell hx1 9
  have hx110 : World.cell? w1 ⟨w.heap.size, 10, none⟩ = some (u10) := Blk.cell hx1 10
  have hx111 : World.cell? w1 ⟨w.heap.size, 11, none⟩ = some (u11) := Blk.cell hx1 11
  have hx112 : World.cell? w1 ⟨w.heap.size, 12, none⟩ = some (u12) := Blk.cell hx1 12
  have hx113 : World.cell? w1 ⟨w.heap.size, 13, none⟩ = some (u13) := Blk.cell hx1 13
  have hlt1 := hx1.lt
  clear hb1 hx1
  cases q with
  | true =>
    go_wp2_with fail
    refine (wakes_any _).mono ?_
    rintro e w2 ⟨rfl, hb2⟩
    have HB2 := Aside0.mk (below_step HB1.out hb2)
    clear hb2
    go_wp2_with fail
    go_ret
    exact ⟨rfl, HB2.out⟩
  | false =>
    by_cases h18 : 4096 < l.length
    · have h18' : decide ((4096 : Int) < (l.length : Int)) = true := by simp; omega
      clear h18
      go_wp2_with fail
      refine (wakes_any _).mono ?_
      rintro e w2 ⟨rfl, hb2⟩
      have HB2 := Aside0.mk (below_step HB1.out hb2)
      clear hb2
      go_wp2_with fail
      go_ret
      exact ⟨rfl, HB2.out⟩
    · have HL18 : Aside0 (l.length ≤ 4096) := ⟨by omega⟩
      clear h18
      have h18' : decide ((4096 : Int) < (l.length : Int)) = false := by have := HL18.out; simp; omega
      by_cases hch : chk m = 0
      · have HG := Aside0.mk ((chk_good m).1 hch)
        clear hch
        have HAL := Aside0.mk (pack_all HG.out HR.out)
        have HPB := Aside0.mk (parse_back HG.out HR.out l)
        have HCT := Aside0.mk (fun p => parse_cut HG.out HR.out (p := p))
        have HEL := Aside0.mk (enc_len HG.out HR.out)
        have HEP := Aside0.mk (enc_pos m)
        have HEB := Aside0.mk (enc_bytes HG.out HR.out)
        generalize enc m = bs at *
        go_wp2_with fail
        refine (pack_yes (HM1.out.mono (fun k hk => Nat.lt_of_lt_of_le hk HB1.out.size)) HR.out HG.out HAL.out).mono ?_
        rintro e w2 ⟨A2, c2, rfl, hc2, hF2, hb2⟩
        have HB2 := Aside0.mk (below_step HB1.out hb2)
        have HC2 := Aside0.mk (Kd.F_now hF2)
        have HL2 := Aside0.mk hc2
        obtain ⟨p, hp, hpe⟩ := cut_in cut bs.length HEP.out HEL.out
        have HP := Aside0.mk hp
        have hpc : p ≤ c2 := by omega
        have hbz : ¬ bs.length = 0 := by have := HEP.out; omega
        have hbz2 : ¬ (bs.length : Int) = 0 := by omega
        have hbn : ((bs.length : Int) == 0) = false := beq_eq_false_iff_ne.2 (by have := HEP.out; omega)
        clear hb2 hF2 hc2 hp HG HAL HM1 HX1 HX0 HM0 hx10 hx11 hx12 hx13 hx14 hx15 hx16 hx17 hx18 hx19 hx110 hx111 hx112 hx113 hlt1
        go_wp2_with fail
        have hpl : (bs.take p).length = p := by rw [List.length_take]; have := HP.out; omega
        have HPR := Aside0.mk (parse_any (w := w2) (A := A2) (c := c2) (l := bs.take p) (by rw [hpl]; exact hpc) (by rw [hpl]; have := HP.out; have := HEL.out; omega) (HEB.out.take p) (Kd.C_take HC2.out (Nat.le_of_lt HP.out)))
        rw [hpl, HCT.out p HP.out] at HPR
        refine HPR.out.mono ?_
        rintro e w3 ⟨hb3, cs3, rfl, hm3⟩
        have HB3 := Aside0.mk (below_step HB2.out hb3)
        have HC3 := Aside0.mk (Kd.C_below HC2.out hb3)
        have HCM := Aside0.mk (Kd.C_below HC.out HB3.out)
        have hm4 := hm3
        obtain ⟨B5, d5, B8, d8, B13, d13, rfl, -⟩ := hm4
        clear hb3 hm3 HPR HCT hpe hpl
        simp only [mcells, zM, List.length_nil]
        have HCB := Aside0.mk (Kd.C_alloc (Kd.C_alloc HC3.out (.cells #[.int .u8 0, .int .u64 0, .int .u64 0, .int .i64 0, .int .i64 0, .slice B5 0 d5, .int .u64 0, .int .u64 0, .slice B8 0 d8, .int .u64 0, .int .u8 0, .int .u32 0, .int .i64 0, .slice B13 0 d13] 29)) (.cells #[] 5))
        have HCL := Aside0.mk (Kd.C_alloc (Kd.C_alloc HCM.out (.cells #[.int .u8 0, .int .u64 0, .int .u64 0, .int .i64 0, .int .i64 0, .slice B5 0 d5, .int .u64 0, .int .u64 0, .slice B8 0 d8, .int .u64 0, .int .u8 0, .int .u32 0, .int .i64 0, .slice B13 0 d13] 29)) (.cells #[] 5))
        have HBW := Aside0.mk (below_alloc (below_alloc (Below.refl w3.heap.size w3) (.cells #[.int .u8 0, .int .u64 0, .int .u64 0, .int .i64 0, .int .i64 0, .slice B5 0 d5, .int .u64 0, .int .u64 0, .slice B8 0 d8, .int .u64 0, .int .u8 0, .int .u32 0, .int .i64 0, .slice B13 0 d13] 29)) (.cells #[] 5))
        have hro := R_empty (Kd.int .u8) 5 (w3.alloc (.cells #[.int .u8 0, .int .u64 0, .int .u64 0, .int .i64 0, .int .i64 0, .slice B5 0 d5, .int .u64 0, .int .u64 0, .slice B8 0 d8, .int .u64 0, .int .u8 0, .int .u32 0, .int .i64 0, .slice B13 0 d13] 29)) w3.heap.size (by simp)
        rw [show (w3.alloc (.cells #[.int .u8 0, .int .u64 0, .int .u64 0, .int .i64 0, .int .i64 0, .slice B5 0 d5, .int .u64 0, .int .u64 0, .slice B8 0 d8, .int .u64 0, .int .u8 0, .int .u32 0, .int .i64 0, .slice B13 0 d13] 29)).heap.size = w3.heap.size + 1 by simp] at hro
        have HRO := Aside0.mk hro
        have hbx : Blk ((w3.alloc (.cells #[.int .u8 0, .int .u64 0, .int .u64 0, .int .i64 0, .int .i64 0, .slice B5 0 d5, .int .u64 0, .int .u64 0, .slice B8 0 d8, .int .u64 0, .int .u8 0, .int .u32 0, .int .i64 0, .slice B13 0 d13] 29)).alloc (.cells #[] 5)) w3.heap.size #[.int .u8 0, .int .u64 0, .int .u64 0, .int .i64 0, .int .i64 0, .slice B5 0 d5, .int .u64 0, .int .u64 0, .slice B8 0 d8, .int .u64 0, .int .u8 0, .int .u32 0, .int .i64 0, .slice B13 0 d13] 29 := (Blk.new w3 #[.int .u8 0, .int .u64 0, .int .u64 0, .int .i64 0, .int .i64 0, .slice B5 0 d5, .int .u64 0, .int .u64 0, .slice B8 0 d8, .int .u64 0, .int .u8 0, .int .u32 0, .int .i64 0, .slice B13 0 d13] 29).alloc _
        have HBX := Aside0.mk hbx
        have hsz : w3.heap.size + 2 = ((w3.alloc (.cells #[.int .u8 0, .int .u64 0, .int .u64 0, .int .i64 0, .int .i64 0, .slice B5 0 d5, .int .u64 0, .int .u64 0, .slice B8 0 d8, .int .u64 0, .int .u8 0, .int .u32 0, .int .i64 0, .slice B13 0 d13] 29)).alloc (.cells #[] 5)).heap.size := by simp
        have HSZ := Aside0.mk hsz
        clear hro hbx hsz
        go_wp2_with first
          | (at_builtin; refine Kd.R_append_rows (Kd.int .u8) (w0 := w3) w3.heap.size rfl (.tmp 51) (.tmp 52) 24 5 (.int .u8 0) 1 rfl Try.underlying24 info5 rfl (by decide) (by omega) (.slice (some ⟨w3.heap.size + 1, 0, none⟩) 0 0) ([] : List Int) bs A2 _ c2 (fun _ => True) (fun _ => False) rfl rfl HRO.out HCB.out (fun _ _ h => h) (fun _ h => h.elim) (fun _ _ => trivial) HBW.out HBW.out.size (by simp; have := HEL.out; omega) ?_; intro v1 w5 ho hb hg hat; rw [List.nil_append] at ho; obtain ⟨A5, e5, rfl, he5, -⟩ := Kd.R_reads ho; have HO5 := Aside0.mk ho; have HB5 := Aside0.mk hb; have HG5 := Aside0.mk hg; have HCL5 := Aside0.mk (Kd.C_below HCM.out hb); clear ho hb hg hat)
          | (at_builtin; refine Kd.R_append_rows (Kd.int .u8) (w0 := w3) w3.heap.size rfl (.tmp 53) (.tmp 54) 24 5 (.int .u8 0) 1 rfl Try.underlying24 info5 rfl (by decide) (by omega) (.slice A5 bs.length e5) bs l A _ c (fun _ => True) (fun _ => False) rfl rfl HO5.out HCL5.out (fun _ _ h => h) (fun _ h => h.elim) (fun _ _ => trivial) HB5.out HB5.out.size (by have := HEL.out; have := HL18.out; omega) ?_; intro v1 w6 ho hb hg hat; obtain ⟨A6, e6, rfl, he6, hC6⟩ := Kd.R_reads ho; have HB6 := Aside0.mk hb; have HG6 := Aside0.mk hg; have HC6 := Aside0.mk hC6; have HE6 := Aside0.mk he6; clear ho hb hg hat hC6 he6)
        have hpa := parse_any (w := w6) (A := A6) (c := e6) (l := bs ++ l) HE6.out (by rw [List.length_append]; have := HEL.out; have := HL18.out; omega) (fun x hx => (List.mem_append.1 hx).elim (HEB.out x) (HBY.out x)) HC6.out
        rw [HPB.out, List.length_append] at hpa
        have HPA := Aside0.mk hpa
        clear hpa HPB
        refine HPA.out.mono ?_
        clear HPA
        by_cases hl0 : 0 < l.length
        · rw [if_pos hl0]
          rintro e w7 ⟨hb7, cs7, rfl, hm7⟩
          have HB7 := Aside0.mk (below_step (below_then HB3.out HB3.out.size HB6.out) hb7)
          obtain ⟨C5, g5, C8, g8, C13, g13, rfl, -⟩ := hm7
          have hl1 : decide ((0 : Int) < (l.length : Int)) = true := by simp; omega
          have hl2 : ((l.length : Int) == 0) = false := beq_eq_false_iff_ne.2 (by omega)
          clear hb7
          simp only [mcells, zM, List.length_nil]
          go_wp2_with fail
          refine (wakes_any _).mono ?_
          rintro e w8 ⟨rfl, hb8⟩
          have HB8 := Aside0.mk (below_step (below_alloc HB7.out _) hb8)
          clear hb8
          go_wp2_with fail
          go_ret
          exact ⟨rfl, HB8.out⟩
        · rw [if_neg hl0]
          rintro e w7 ⟨hb7, cs7, rfl, hm7⟩
          have HB7 := Aside0.mk (below_step (below_then HB3.out HB3.out.size HB6.out) hb7)
          obtain ⟨C5, g5, C8, g8, C13, g13, rfl, -⟩ := hm7
          have hl1 : decide ((0 : Int) < (l.length : Int)) = false := decide_eq_false (by omega)
          have hl2 : ((l.length : Int) == 0) = true := by
            have : l.length = 0 := by omega
            rw [this]
            rfl
          clear hb7
          simp only [mcells]
          go_wp2_with fail
          refine (wakes_any _).mono ?_
          rintro e w8 ⟨rfl, hb8⟩
          have HB8 := Aside0.mk (below_step (below_alloc HB7.out _) hb8)
          clear hb8
          go_wp2_with fail
          go_ret
          exact ⟨rfl, HB8.out⟩
      · have HE := Aside0.mk hch
        obtain ⟨E, hE⟩ : ∃ E, chk m = E := ⟨_, rfl⟩
        have HCE := Aside0.mk hE
        rw [hE] at HE
        have HNE := Aside0.mk (fun (e : Int) (h : E = e) (h0 : e = 0) => HE.out (h.trans h0))
        have e1 : (E != 0) = true := bne_iff_ne.2 HE.out
        clear hch hE
        go_wp2_with fail
        refine (pack_no HM1.out HR.out HCE.out HE.out).mono ?_
        rintro e w2 ⟨rfl, hb2⟩
        have HB2 := Aside0.mk (below_step HB1.out hb2)
        clear hb2 hx10 hx11 hx12 hx13 hx14 hx15 hx16 hx17 hx18 hx19 hx110 hx111 hx112 hx113 hlt1
        go_wp2_with fail
        refine (wakes_any _).mono ?_
        rintro e w3 ⟨rfl, hb3⟩
        have HB3 := Aside0.mk (below_step HB2.out hb3)
        clear hb3
        go_wp2_with fail
        go_ret
        exact ⟨rfl, HB3.out⟩
end Go.Proofs.Ytmjbdeoomohanaa.Mine
