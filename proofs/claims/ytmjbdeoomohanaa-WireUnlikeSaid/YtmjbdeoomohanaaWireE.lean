/- wire: Check. -/
import Derived.Test.YtmjbdeoomohanaaWireD
set_option linter.unusedSimpArgs false
set_option linter.unusedVariables false
namespace Go.Proofs.Ytmjbdeoomohanaa.Mine
open Go.RowKit Go.Maps Go.Proofs.YtmjbdeoomohanaaW.PrintWords Go.Proofs.YtmjbdeoomohanaaW.PrintLast Go.Proofs.YtmjbdeoomohanaaW.PrintMore Go.Proofs.Ytmjbdeoomohanaa.PWirePacks Go.Proofs.Ytmjbdeoomohanaa.Turn

def hasB (t : Int) : Nat := (hasN t).toNat
theorem hasN_nat (t : Int) : hasN t = (hasB t : Int) ∧ hasB t < 8192 := by
  have h : ∀ k : Nat, 0 ≤ ([0, 29, 5, 1, 27, 25, 1, 224, 224, 4864, 2816, 256, 6912, 5376, 3328] : List Int).getD k 0 ∧ ([0, 29, 5, 1, 27, 25, 1, 224, 224, 4864, 2816, 256, 6912, 5376, 3328] : List Int).getD k 0 < 8192 := by
    intro k
    by_cases hk : k < 15
    · have : k = 0 ∨ k = 1 ∨ k = 2 ∨ k = 3 ∨ k = 4 ∨ k = 5 ∨ k = 6 ∨ k = 7 ∨ k = 8 ∨ k = 9 ∨ k = 10 ∨ k = 11 ∨ k = 12 ∨ k = 13 ∨ k = 14 := by omega
      rcases this with rfl | rfl | rfl | rfl | rfl | rfl | rfl | rfl | rfl | rfl | rfl | rfl | rfl | rfl | rfl <;> decide
    · rw [List.getD_eq_getElem?_getD, List.getElem?_eq_none (by simp; omega)]
      decide
  have := h t.toNat
  unfold hasB hasN
  omega
def numBad (m : Msg) : Bool := decide (m.op < 0) || decide (64 < m.op) || decide (m.commit < 0) || decide (64 < m.commit) || decide (m.code < 0) || decide (65535 < m.code)
def longBad (m : Msg) : Bool := decide (64 < m.log.length) || decide (2048 < m.body.length) || decide (4096 < m.blocks.length) || m.log.any longE
/-- What Check says. -/
def chk (m : Msg) : Int :=
  if hasB m.ty = 0 then 1 else if badF (setL m) (hasB m.ty) then 6 else if numBad m then 1 else if longBad m then 2 else if m.blocks.any oddB then 6 else 0

set_option maxHeartbeats 8000000 in
set_option maxRecDepth 100000 in
theorem check_any (m : Msg) (A5 : Option Addr) (c5 : Nat) (A8 : Option Addr) (c8 : Nat) (A13 : Option Addr) (c13 : Nat) (w : World) (h0 : 0 ≤ m.ty) (h1 : m.ty ≤ 255)
    (hl5 : m.log.length ≤ 4611686018427387904) (hr5 : Kd.C k44 w A5 m.log.length m.log) (hl8 : m.body.length ≤ 4611686018427387904) (hl13 : m.blocks.length ≤ 4611686018427387904) (hr13 : Kd.C (Kd.slice 5 (Kd.int .u8)) w A13 m.blocks.length m.blocks) :
    Calls Try.prog 12 #[.agg (mcells m A5 c5 A8 c8 A13 c13)] w fun e w' => e = .returned (.int .i64 (chk m)) ∧ Below w.heap.size w w' := by
  have HR5 := Aside0.mk hr5
  have HR13 := Aside0.mk hr13
  clear hr5 hr13
  have HC := Aside0.mk (chk.eq_def m)
  obtain ⟨R, hR⟩ : ∃ R, chk m = R := ⟨_, rfl⟩
  rw [hR] at HC ⊢
  clear hR
  have HHN := Aside0.mk (hasN_nat m.ty)
  obtain ⟨h, hh⟩ : ∃ h, hasB m.ty = h := ⟨_, rfl⟩
  rw [hh] at HC HHN
  clear hh
  obtain ⟨S, hS⟩ : ∃ S, setN m = S := ⟨_, rfl⟩
  have HB := Aside0.mk (setN_bad m h (by have := HHN.out.2; omega))
  have HS := Aside0.mk (fun (w : World) => set_any m A5 c5 A8 c8 A13 c13 w)
  rw [hS] at HB HS
  clear hS
  have HH := Aside0.mk (fun (w : World) => has_any m.ty h0 h1 w)
  rw [HHN.out.1] at HH
  have HL := Aside0.mk (longBad.eq_def m)
  have HNB := Aside0.mk (numBad.eq_def m)
  obtain ⟨LB, hLB⟩ : ∃ x, longBad m = x := ⟨_, rfl⟩
  obtain ⟨NB, hNB⟩ : ∃ x, numBad m = x := ⟨_, rfl⟩
  obtain ⟨BF, hBF⟩ : ∃ x, badF (setL m) h = x := ⟨_, rfl⟩
  rw [hLB] at HL HC
  rw [hNB] at HNB HC
  rw [hBF] at HB HC
  clear hLB hNB hBF
  obtain ⟨ty, view, normal, op, commit, log, client, seq, body, key, shard, stripe, code, blocks⟩ := m
  unfold mcells at HS ⊢
  simp only at HR5 HR13 HC HS HH HL HNB HB hl5 hl8 hl13 ⊢
  have HX := Aside0.mk (Blk.new w #[.int .u8 ty, .int .u64 view, .int .u64 normal, .int .i64 op, .int .i64 commit, .slice A5 log.length c5, .int .u64 client, .int .u64 seq, .slice A8 body.length c8, .int .u64 key, .int .u8 shard, .int .u32 stripe, .int .i64 code, .slice A13 blocks.length c13] 29)
  have HA := Aside0.mk (below_alloc (Below.refl w.heap.size w) (.cells #[.int .u8 ty, .int .u64 view, .int .u64 normal, .int .i64 op, .int .i64 commit, .slice A5 log.length c5, .int .u64 client, .int .u64 seq, .slice A8 body.length c8, .int .u64 key, .int .u8 shard, .int .u32 stripe, .int .i64 code, .slice A13 blocks.length c13] 29))
  go_enter Try.func12, Try.ntmps12
  go_wp2_with fail
  refine (HH.out _).mono ?_
  rintro e w1 ⟨rfl, hb⟩
  have HB1 := Aside0.mk (below_step HA.out hb)
  have hx1 : Blk w1 w.heap.size _ 29 := (hb.block _ HX.out.lt).trans HX.out
  have HX1 := Aside0.mk hx1
  have hxl1 := hx1.lt
  have hx10 : World.cell? w1 ⟨w.heap.size, 0, none⟩ = some (.int .u8 ty) := Blk.cell hx1 0
  have hx11 : World.cell? w1 ⟨w.heap.size, 1, none⟩ = some (.int .u64 view) := Blk.cell hx1 1
  have hx12 : World.cell? w1 ⟨w.heap.size, 2, none⟩ = some (.int .u64 normal) := Blk.cell hx1 2
  have hx13 : World.cell? w1 ⟨w.heap.size, 3, none⟩ = some (.int .i64 op) := Blk.cell hx1 3
  have hx14 : World.cell? w1 ⟨w.heap.size, 4, none⟩ = some (.int .i64 commit) := Blk.cell hx1 4
  have hx15 : World.cell? w1 ⟨w.heap.size, 5, none⟩ = some (.slice A5 log.length c5) := Blk.cell hx1 5
  have hx16 : World.cell? w1 ⟨w.heap.size, 6, none⟩ = some (.int .u64 client) := Blk.cell hx1 6
  have hx17 : World.cell? w1 ⟨w.heap.size, 7, none⟩ = some (.int .u64 seq) := Blk.cell hx1 7
  have hx18 : World.cell? w1 ⟨w.heap.size, 8, none⟩ = some (.slice A8 body.length c8) := Blk.cell hx1 8
  have hx19 : World.cell? w1 ⟨w.heap.size, 9, none⟩ = some (.int .u64 key) := Blk.cell hx1 9
  have hx110 : World.cell? w1 ⟨w.heap.size, 10, none⟩ = some (.int .u8 shard) := Blk.cell hx1 10
  have hx111 : World.cell? w1 ⟨w.heap.size, 11, none⟩ = some (.int .u32 stripe) := Blk.cell hx1 11
  have hx112 : World.cell? w1 ⟨w.heap.size, 12, none⟩ = some (.int .i64 code) := Blk.cell hx1 12
  have hx113 : World.cell? w1 ⟨w.heap.size, 13, none⟩ = some (.slice A13 blocks.length c13) := Blk.cell hx1 13
  clear hb hx1
  by_cases hz : h = 0
  · have HR : Aside0 (R = 1) := ⟨by rw [HC.out, if_pos hz]⟩
    have hz1 : ((h : Int) == 0) = true := by rw [hz]; rfl
    clear hz
    go_wp2_with fail
    go_ret
    exact ⟨by rw [HR.out]; rfl, HB1.out⟩
  have hz1 : ((h : Int) == 0) = false := beq_eq_false_iff_ne.2 (by omega)
  cases BF with
  | true =>
    have HR : Aside0 (R = 6) := ⟨by rw [HC.out, if_neg hz]; rfl⟩
    have hb1 := HB.out
    go_wp2_with (go_at_call 22; refine (HS.out _).mono ?_; rintro e w2 ⟨rfl, hb⟩; have HB2 := Aside0.mk (below_step HB1.out hb); clear hb)
    go_ret
    exact ⟨by rw [HR.out]; rfl, HB2.out⟩
  | false =>
    have hb1 := HB.out
    cases NB with
    | true =>
      have HR : Aside0 (R = 1) := ⟨by rw [HC.out, if_neg hz]; rfl⟩
      have hnb := HNB.out
      simp only [Bool.or_eq_true, Bool.true_eq, decide_eq_true_eq] at hnb
      have HHH := Aside0.mk hnb
      clear hnb
      go_wp2_with (go_at_call 22; refine (HS.out _).mono ?_; rintro e w2 ⟨rfl, hb⟩; have HB2 := Aside0.mk (below_step HB1.out hb); have hx2 : Blk w2 w.heap.size _ 29 := (hb.block _ HX1.out.lt).trans HX1.out; have hxl2 := hx2.lt; have p3 := (hx2.cell 3).trans rfl; have p4 := (hx2.cell 4).trans rfl; have p12 := (hx2.cell 12).trans rfl; clear hb hx2)
      all_goals first
        | (exfalso; have := HHH.out; omega)
        | (go_ret; exact ⟨by rw [HR.out]; rfl, HB2.out⟩)
        | skip
      done
    | false =>
      have hnb := HNB.out
      simp only [Bool.false_eq, Bool.or_eq_false_iff, decide_eq_false_iff_not] at hnb
      obtain ⟨⟨⟨⟨⟨n0, n1⟩, n2⟩, n3⟩, n4⟩, n5⟩ := hnb
      have HR23 := Aside0.mk (fun (w2 : World) (hb : Below w.heap.size w w2) => any23_any A5 c5 log w2 hl5 (Kd.C_below HR5.out hb))
      have HR25 := Aside0.mk (fun (w2 : World) (hb : Below w.heap.size w w2) => any25_any A13 c13 blocks w2 hl13 (Kd.C_below HR13.out hb))
      obtain ⟨L, hL⟩ : ∃ x, log.any longE = x := ⟨_, rfl⟩
      obtain ⟨O, hO⟩ : ∃ x, blocks.any oddB = x := ⟨_, rfl⟩
      rw [hL] at HR23 HL
      rw [hO] at HR25 HC
      clear hL hO
      cases LB with
      | true =>
        have HR : Aside0 (R = 2) := ⟨by rw [HC.out, if_neg hz]; rfl⟩
        have hnb := HL.out
        simp only [Bool.or_eq_true, Bool.true_eq, decide_eq_true_eq] at hnb
        have hcond : (decide (64 < (log.length : Int)) || decide (2048 < (body.length : Int)) || decide (4096 < (blocks.length : Int)) || L) = true := by
          simp only [Bool.or_eq_true, decide_eq_true_eq]
          rcases hnb with ((q | q) | q) | q
          · exact Or.inl (Or.inl (Or.inl (by omega)))
          · exact Or.inl (Or.inl (Or.inr (by omega)))
          · exact Or.inl (Or.inr (by omega))
          · exact Or.inr q
        clear hnb
        go_wp2_with (first
          | (go_at_call 22; refine (HS.out _).mono ?_; rintro e w2 ⟨rfl, hb⟩; have HB2 := Aside0.mk (below_step HB1.out hb); have hx2 : Blk w2 w.heap.size _ 29 := (hb.block _ HX1.out.lt).trans HX1.out; have HX2 := Aside0.mk hx2; have hxl2 := hx2.lt; have p3 : w2.cell? { block := w.heap.size, off := 3 } = some (.int .i64 op) := (hx2.cell 3).trans rfl; have p4 : w2.cell? { block := w.heap.size, off := 4 } = some (.int .i64 commit) := (hx2.cell 4).trans rfl; have p5 : w2.cell? { block := w.heap.size, off := 5 } = some (.slice A5 log.length c5) := (hx2.cell 5).trans rfl; have p8 : w2.cell? { block := w.heap.size, off := 8 } = some (.slice A8 body.length c8) := (hx2.cell 8).trans rfl; have p12 : w2.cell? { block := w.heap.size, off := 12 } = some (.int .i64 code) := (hx2.cell 12).trans rfl; have p13 : w2.cell? { block := w.heap.size, off := 13 } = some (.slice A13 blocks.length c13) := (hx2.cell 13).trans rfl; clear hb hx2)
          | (go_at_call 23; refine (HR23.out _ HB2.out).mono ?_; rintro e w3 ⟨rfl, hb⟩; have HB3 := Aside0.mk (below_step HB2.out hb); clear hb))
        all_goals first
          | (go_ret; first | exact ⟨by rw [HR.out]; rfl, HB3.out⟩ | exact ⟨by rw [HR.out]; rfl, HB2.out⟩)
          | skip
        done
      | false =>
        have hnb := HL.out
        simp only [Bool.false_eq, Bool.or_eq_false_iff, decide_eq_false_iff_not] at hnb
        obtain ⟨⟨⟨m0, m1⟩, m2⟩, rfl⟩ := hnb
        have HR : Aside0 (R = if O then 6 else 0) := ⟨by rw [HC.out, if_neg hz]; cases O <;> rfl⟩
        go_wp2_with (first
          | (go_at_call 22; refine (HS.out _).mono ?_; rintro e w2 ⟨rfl, hb⟩; have HB2 := Aside0.mk (below_step HB1.out hb); have hx2 : Blk w2 w.heap.size _ 29 := (hb.block _ HX1.out.lt).trans HX1.out; have HX2 := Aside0.mk hx2; have hxl2 := hx2.lt; have p3 : w2.cell? { block := w.heap.size, off := 3 } = some (.int .i64 op) := (hx2.cell 3).trans rfl; have p4 : w2.cell? { block := w.heap.size, off := 4 } = some (.int .i64 commit) := (hx2.cell 4).trans rfl; have p5 : w2.cell? { block := w.heap.size, off := 5 } = some (.slice A5 log.length c5) := (hx2.cell 5).trans rfl; have p8 : w2.cell? { block := w.heap.size, off := 8 } = some (.slice A8 body.length c8) := (hx2.cell 8).trans rfl; have p12 : w2.cell? { block := w.heap.size, off := 12 } = some (.int .i64 code) := (hx2.cell 12).trans rfl; have p13 : w2.cell? { block := w.heap.size, off := 13 } = some (.slice A13 blocks.length c13) := (hx2.cell 13).trans rfl; clear hb hx2)
          | (go_at_call 23; refine (HR23.out _ HB2.out).mono ?_; rintro e w3 ⟨rfl, hb⟩; have HB3 := Aside0.mk (below_step HB2.out hb); have hx2 : Blk w3 w.heap.size _ 29 := (hb.block _ HX2.out.lt).trans HX2.out; have hxl3 := hx2.lt; have q13 : w3.cell? { block := w.heap.size, off := 13 } = some (.slice A13 blocks.length c13) := (hx2.cell 13).trans rfl; clear hb hx2)
          | (go_at_call 25; refine (HR25.out _ HB3.out).mono ?_; rintro e w4 ⟨rfl, hb⟩; have HB4 := Aside0.mk (below_step HB3.out hb); clear hb; cases O))
        all_goals first
          | (go_ret; exact ⟨by rw [HR.out]; rfl, HB4.out⟩)
          | skip
        done
end Go.Proofs.Ytmjbdeoomohanaa.Mine
