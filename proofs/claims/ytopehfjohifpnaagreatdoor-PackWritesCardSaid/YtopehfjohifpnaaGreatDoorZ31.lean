import Derived.Test.YtopehfjohifpnaaGreatDoorZ30
import Derived.Test.YtopehfjohifpnaaGreatDoorZ4
section
set_option linter.unusedSimpArgs false
set_option linter.unusedVariables false
namespace Go.Proofs.YtopehfjohifpnaaGreatDoor.Mine
open Go.RowKit Go.Shelf Go.Proofs.YtopehfjohifpnaaGreatDoorW.PrintWords Go.Proofs.YtopehfjohifpnaaGreatDoorW.PrintLast Go.Proofs.YtopehfjohifpnaaGreatDoorW.PrintMore Go.Proofs.YtopehfjohifpnaaGreatDoor.Turn Go.Proofs.YtopehfjohifpnaaGreatDoor.Doc
set_option maxRecDepth 100000 in
set_option maxHeartbeats 8000000 in
theorem lentI_any (A : Option Addr) (c : Nat) (l : List S43) (w : World) (hl : l.length + 1 < 1759218604441) (hb : ∀ i, i < l.length → (itm l i).f4.length + 1 < 140737488355328) (hr : Kd.C k43 w A l.length l) :
    Calls Tryz.prog 8 #[.slice A l.length c] w fun e w' => ∃ A' c', e = .returned (.slice A' l.length c') ∧ l.length + 1 ≤ c' ∧ Kd.C kM w' A' (l.length + 1) (lentL l ++ [(markI, [])]) ∧ Below w.heap.size w w' := by
  have HR := Aside0.mk hr
  have HBO := Aside0.mk hb
  clear hr hb
  obtain ⟨i05, hi05, _⟩ := info_parts info5
  obtain ⟨i0I, hi0I, _⟩ := info_parts info43
  go_enter Tryz.func8, Tryz.ntmps8
  go_wp2_with fail
  go_loopw [3, 4] (fun v u X => ∃ i : Nat, i ≤ l.length ∧ u = .int .i64 i ∧ Aside0 (Kd.R kM 43 X w.heap.size (fun _ => True) v (lentL (l.take i))) ∧ Aside0 (Below w.heap.size w X)) (fun _ u _ => l.length - (intOf u).toNat)
  case atStart => exact ⟨0, Nat.zero_le _, rfl, ⟨Kd.R_nil _ _ _ _ _⟩, ⟨Below.refl _ _⟩⟩
  case round =>
    rename World => X
    obtain ⟨i, hi, rfl, HO, HB⟩ := hrel
    by_cases hlt : i < l.length
    · obtain ⟨ad, A4, c4, e, g0, g1, g2, g3, g4, g5, h6, h7⟩ := cells_I (Kd.C_below HR.out HB.out) hlt
      subst e
      have hbd := HBO.out i hlt
      have hbl := World.block_lt_of_cell? _ _ g0
      have HTK : Aside0 (lentL (l.take i) ++ [(itm l i, [201])] = lentL (l.take (i + 1))) := ⟨by
        have h1 : itm l i = l[i] := by unfold itm; rw [List.getD_eq_getElem?_getD, List.getElem?_eq_getElem hlt]; rfl
        rw [List.take_succ_eq_append_getElem hlt, h1, lentL, lentL, List.map_append]
        rfl⟩
      have hlL : (lentL (l.take i)).length = i := by rw [lentL, List.length_map, List.length_take]; omega
      obtain ⟨x, hx⟩ : ∃ x, itm l i = x := ⟨_, rfl⟩
      rw [hx] at g0 g1 g2 g3 g4 g5 h6 h7 hbd HTK
      obtain ⟨L0, hL0⟩ : ∃ L0, lentL (l.take i) = L0 := ⟨_, rfl⟩
      rw [hL0] at HO HTK hlL
      clear hx hL0
      obtain ⟨p, k, m, t, bd, q⟩ := x
      simp only at g0 g1 g2 g3 g4 g5 h6 h7 hbd
      have HOX := Aside0.mk (Kd.R_bound HO.out)
      have HC := Aside0.mk h7
      have hx0 := Blk.new X #[.string p, .int .u8 k, .int .i64 m, .int .i64 t, .slice A4 bd.length c4, .string q] 43
      have HB0 := Aside0.mk (below_alloc (Below.refl _ X) (.cells #[.string p, .int .u8 k, .int .i64 m, .int .i64 t, .slice A4 bd.length c4, .string q] 43))
      obtain ⟨g, hg⟩ : ∃ g, X.heap.size = g := ⟨_, rfl⟩
      rw [hg] at hx0
      have HG := Aside0.mk hg
      have c0 := (Blk.cell hx0 0).trans rfl
      have c4' : (X.alloc (.cells #[.string p, .int .u8 k, .int .i64 m, .int .i64 t, .slice A4 bd.length c4, .string q] 43)).cell? ⟨g, 4, none⟩ = some (.slice A4 bd.length c4) := (Blk.cell hx0 4).trans rfl
      have hlt0 := hx0.lt
      have HX0 := Aside0.mk hx0
      clear hx0 h7 HO
      go_upto_region 8 with (fail)
      clear g0 g1 g2 g3 g4 g5 hg
      generalize X.alloc (.cells #[.string p, .int .u8 k, .int .i64 m, .int .i64 t, .slice A4 bd.length c4, .string q] 43) = X1 at *
      have HC1 := Aside0.mk (Kd.C_below HC.out HB0.out)
      go_upto_region 11 with (first | (at_builtin; refine Kd.R_append_rows (Kd.int .u8) (w0 := X) X.heap.size rfl (.tmp 21) (.tmp 23) 24 5 (.int .u8 0) 1 rfl Tryz.underlying24 info5 rfl (by decide) (by omega) (.slice none 0 0) ([] : List Int) bd A4 bd.length c4 (fun _ => True) (fun _ => False) rfl rfl (Kd.R_nil _ _ _ _ _) HC1.out (fun _ _ h => h) (fun _ h => h.elim) (fun _ _ => trivial) HB0.out HB0.out.size (by simp only [List.length_nil]; omega) ?_; intro v2 X2 ho hb hgr hat; rw [List.nil_append] at ho; obtain ⟨A6, c6, rfl⟩ := Kd.R_slice ho; have HO2 := Aside0.mk ho; have HB2 := Aside0.mk hb; have HX2 : Aside0 (Blk X2 g #[.string p, .int .u8 k, .int .i64 m, .int .i64 t, .slice A4 bd.length c4, .string q] 43) := ⟨((none_below hgr).block _ HX0.out.lt).trans HX0.out⟩; clear ho hb hgr hat) | (at_builtin; refine Kd.R_append (Kd.int .u8) (w0 := X) X.heap.size rfl (.tmp 25) (.tmp 26) 24 5 (.int .u8 0) 1 rfl Tryz.underlying24 info5 rfl (by decide) (by omega) (.slice A6 bd.length c6) bd 201 [.int .u8 201] (fun _ => True) (fun _ => False) rfl rfl rfl (fun _ hk => hk.elim) (fun _ _ => trivial) HO2.out HB2.out HB2.out.size (by omega) ?_; intro v3 X3 ho hb hgr hat; have hx3 : Blk X3 g #[.string p, .int .u8 k, .int .i64 m, .int .i64 t, .slice A4 bd.length c4, .string q] 43 := (hgr.block _ HX2.out.lt (fun e => Kd.R_ne HO2.out HX2.out (by decide) e)).trans HX2.out; obtain ⟨L3, hL3⟩ : ∃ L3, bd ++ [201] = L3 := ⟨_, rfl⟩; rw [hL3] at ho; have HL3 := Aside0.mk hL3; have HN3 : Aside0 (L3.length = bd.length + 1) := ⟨by rw [← hL3]; simp⟩; obtain ⟨A7, c7, e7, hc7, hC7⟩ := Kd.R_reads ho; subst e7; have HC7 := Aside0.mk hc7; have HO3 := Aside0.mk ho; have HB3 := Aside0.mk hb; have hcut7 : ∀ W : World, (Instr.slice 24 (.slice A7 L3.length c7) none (some (.int .i64 bd.length)) none).run Tryz.prog W = .ok (.slice A7 bd.length c7) W := (fun W => by have h := cut_to (P := Tryz.prog) 24 5 .i64 Tryz.underlying24 hi05 A7 L3.length c7 (bd.length : Int) (by omega) (by rw [HN3.out]; omega) hc7 W; rwa [Int.toNat_natCast] at h); have HX3 := Aside0.mk hx3; have k3 : X3.cell? ⟨g, 4, none⟩ = some (.slice A4 bd.length c4) := (Blk.cell hx3 4).trans rfl; have kf3 : X3.frozen? ⟨g, 4, none⟩ = false := Blk.free hx3 4; have kl3 := hx3.lt; clear ho hb hgr hat hL3 hC7 hc7 hx3))
      have HX4 : Aside0 (Blk (X3.setCell ⟨g, 4, none⟩ (.slice A7 bd.length c7)) g #[.string p, .int .u8 k, .int .i64 m, .int .i64 t, .slice A7 bd.length c7, .string q] 43) := ⟨(HX3.out.set 4 (.slice A7 bd.length c7)).trans rfl⟩
      have HB4 : Aside0 (Below X.heap.size X (X3.setCell ⟨g, 4, none⟩ (.slice A7 bd.length c7))) := ⟨HB3.out.setCell (p := ⟨g, 4, none⟩) (Nat.le_of_eq HG.out) _⟩
      have HO4 : Aside0 (RB (X3.setCell ⟨g, 4, none⟩ (.slice A7 bd.length c7)) X.heap.size (.slice A7 L3.length c7) L3) := ⟨Kd.R_set HO3.out HX3.out (by decide) 4 _⟩
      clear k3 kf3 kl3 HX3 HO3 HB3 hcut7 HX2 HO2 HB2 HX0 HB0 c0 c4' hlt0
      generalize X3.setCell ⟨g, 4, none⟩ (.slice A7 bd.length c7) = X4 at *
      have d0 : X4.cell? ⟨g, 0, none⟩ = some (.string p) := (Blk.cell HX4.out 0).trans rfl
      have d1 : X4.cell? ⟨g, 1, none⟩ = some (.int .u8 k) := (Blk.cell HX4.out 1).trans rfl
      have d2 : X4.cell? ⟨g, 2, none⟩ = some (.int .i64 m) := (Blk.cell HX4.out 2).trans rfl
      have d3 : X4.cell? ⟨g, 3, none⟩ = some (.int .i64 t) := (Blk.cell HX4.out 3).trans rfl
      have d4 : X4.cell? ⟨g, 4, none⟩ = some (.slice A7 bd.length c7) := (Blk.cell HX4.out 4).trans rfl
      have d5 : X4.cell? ⟨g, 5, none⟩ = some (.string q) := (Blk.cell HX4.out 5).trans rfl
      have dl := HX4.out.lt
      have HOO := Aside0.mk (Kd.R_mono (ok' := fun _ => True) (Kd.R_below HOX.out HB4.out) (fun _ _ => trivial))
      have HBT := Aside0.mk (below_step HB.out HB4.out)
      have HM4 : Aside0 (kM.M X4 w.heap.size (fun k => X.heap.size ≤ k) (⟨p, k, m, t, bd, q⟩, [201]) [.string p, .int .u8 k, .int .i64 m, .int .i64 t, .slice A7 bd.length c7, .string q]) := ⟨kM_mkM X4 w.heap.size _ ⟨p, k, m, t, bd, q⟩ [201] (by
        show Kd.R (Kd.int .u8) 5 X4 w.heap.size _ (.slice A7 (bd ++ [201]).length c7) (bd ++ [201])
        rw [HL3.out]
        exact Kd.R_lower (Kd.R_mono (Kd.R_bound HO4.out) (fun k hk => hk.2.1)) HB.out.size)⟩
      have hok : ∀ k, X.heap.size ≤ k → True ∧ some k ≠ u3.ownBlock := fun k hk => ⟨trivial, fun e => by
        have := (HOX.out.1 k e.symm).2.2.1
        omega⟩
      go_wp2_with (at_builtin; refine Kd.R_append kM (w0 := w) w.heap.size rfl (.tmp 32) (.tmp 34) 22 43 (.agg #[(.string ⟨#[]⟩), (.int .u8 0), (.int .i64 0), (.int .i64 0), (.slice none 0 0), (.string ⟨#[]⟩)]) 80 rfl Tryz.underlying22 info43 rfl (by decide) (by omega) u3 L0 (⟨p, k, m, t, bd, q⟩, [201]) [.string p, .int .u8 k, .int .i64 m, .int .i64 t, .slice A7 bd.length c7, .string q] (fun _ => True) (fun k => X.heap.size ≤ k) rfl rfl HM4.out hok (fun _ _ => trivial) HOO.out HBT.out HBT.out.size (by omega) ?_; intro v5 X5 ho hb hgr hat; rw [HTK.out] at ho; have HO5 := Aside0.mk ho; have HB5 := Aside0.mk hb; clear ho hb hgr hat)
      go_roundw
      case rel => exact ⟨i + 1, by omega, by go_num, HO5, HB5⟩
      case measure => simp [intOf]; omega
    · obtain rfl : i = l.length := by omega
      rw [List.take_length] at HO
      have hlL : (lentL l).length = l.length := by rw [lentL, List.length_map]
      obtain ⟨L0, hL0⟩ : ∃ L0, lentL l = L0 := ⟨_, rfl⟩
      rw [hL0] at HO hlL
      have HLL := Aside0.mk hL0
      have HLN := Aside0.mk hlL
      have hlB : (L0.length + 1) * 80 ≤ 140737488355328 := by rw [hlL]; omega
      clear hL0 hlL
      go_wp2_with (at_builtin; refine Kd.R_append kM (w0 := w) w.heap.size rfl (.tmp 36) (.tmp 38) 22 43 (.agg #[(.string ⟨#[]⟩), (.int .u8 0), (.int .i64 0), (.int .i64 0), (.slice none 0 0), (.string ⟨#[]⟩)]) 80 rfl Tryz.underlying22 info43 rfl (by decide) (by omega) u3 L0 (markI, []) [.string ⟨#[109, 97, 114, 107]⟩, .int .u8 0, .int .i64 0, .int .i64 0, .slice none 0 0, .string ⟨#[]⟩] (fun _ => True) (fun _ => False) rfl rfl (kM_mkM _ _ _ markI [] (A4 := none) (c4 := 0) (Kd.R_nil _ _ _ _ _)) (fun _ h => h.elim) (fun _ _ => trivial) HO.out HB.out HB.out.size hlB ?_; intro v5 X5 ho hb hgr hat; obtain ⟨L5, hL5⟩ : ∃ L5, L0 ++ [(markI, [])] = L5 := ⟨_, rfl⟩; rw [hL5] at ho; have HL5 := Aside0.mk hL5; have HN5 : Aside0 (L5.length = l.length + 1) := ⟨by rw [← hL5, List.length_append, HLN.out]; rfl⟩; obtain ⟨A7, c7, e7, hc7, hC7⟩ := Kd.R_reads ho; subst e7; have HC7 := Aside0.mk hc7; have HCC := Aside0.mk hC7; have HB5 := Aside0.mk hb; have hcut7 : ∀ W : World, (Instr.slice 22 (.slice A7 L5.length c7) none (some (.int .i64 l.length)) none).run Tryz.prog W = .ok (.slice A7 l.length c7) W := (fun W => by have h := cut_to (P := Tryz.prog) 22 43 .i64 Tryz.underlying22 hi0I A7 L5.length c7 (l.length : Int) (by omega) (by rw [HN5.out]; omega) hc7 W; rwa [Int.toNat_natCast] at h); clear ho hb hgr hat hL5 hC7 hc7)
      go_ret
      refine ⟨A7, c7, rfl, by have := HC7.out; rw [HN5.out] at this; exact this, ?_, HB5.out⟩
      rw [HLL.out, HL5.out, ← HN5.out]
      exact HCC.out
end Go.Proofs.YtopehfjohifpnaaGreatDoor.Mine
end
section
namespace Go.Proofs.YtopehfjohifpnaaGreatDoor.Doc
open Go.RowKit Go.Proofs.YtopehfjohifpnaaGreatDoorW.PrintWords Go.Proofs.YtopehfjohifpnaaGreatDoorW.PrintLast Go.Proofs.YtopehfjohifpnaaGreatDoorW.PrintMore
attribute [local go_sem] max2_int min2_int max_two min_two max_three min_three max_four min_four
set_option linter.unusedVariables false
set_option linter.unusedSimpArgs false
def tabularylaw12_same.l0 : Nat → List Int → List Int → Int → Option (Bool)
 | 0, _, _, _ => none
 | k + 1, x0, x1, x5 => if x5 < (x0.length : Int) then (if 0 ≤ x5 then (if x5 < (x1.length : Int) then (if (rd x0 x5) = (rd x1 x5) then (tabularylaw12_same.l0 k x0 x1 (wrap64 (x5 + 1))) else (some false)) else (none)) else (none)) else (some true)
def tabularylaw12_same.f (k : Nat) (l0 : List Int) (l1 : List Int) : Option (Bool) := if (l0.length : Int) = (l1.length : Int) then (tabularylaw12_same.l0 k l0 l1 0) else (some false)
theorem tabularylaw12_same.mono_l : ∀ k, (∀ y0 y1 y2, LeO (tabularylaw12_same.l0 k y0 y1 y2) (tabularylaw12_same.l0 (k + 1) y0 y1 y2))
 | 0 => fun _ _ _ r h => by simp [tabularylaw12_same.l0] at h
 | k + 1 => by
  have ih0 := tabularylaw12_same.mono_l k
  ·intro y0 y1 y2
   unfold tabularylaw12_same.l0
   repeat' first
   | (with_reducible exact ih0 _ _ _)
   | (with_reducible exact LeO.refl _)
   | (with_reducible exact LeO.none _)
   | (with_reducible refine LeO.ite ?_ ?_)
   | (with_reducible refine LeO.bind ?_ (fun _ => ?_))
theorem tabularylaw12_same.mono : ∀ a0 a1 k, LeO (tabularylaw12_same.f k a0 a1) (tabularylaw12_same.f (k + 1) a0 a1) := by
 intro a0 a1 k
 have ih0 := tabularylaw12_same.mono_l k
 unfold tabularylaw12_same.f
 repeat' first
   | (with_reducible exact ih0 _ _ _)
   | (with_reducible exact LeO.refl _)
   | (with_reducible exact LeO.none _)
   | (with_reducible refine LeO.ite ?_ ?_)
   | (with_reducible refine LeO.bind ?_ (fun _ => ?_))
set_option maxHeartbeats 8000000 in
set_option maxRecDepth 100000 in
theorem tabularylaw12_same.calls (k : Nat) (A0 : Option Addr) (c0 : Nat) (l0 : List Int) (A1 : Option Addr) (c1 : Nat) (l1 : List Int) (r : Bool) (w : World) (hr0 : Kd.C (Kd.int .u8) w A0 l0.length l0) (hc0 : l0.length ≤ c0) (hr1 : Kd.C (Kd.int .u8) w A1 l1.length l1) (hc1 : l1.length ≤ c1) (h : tabularylaw12_same.f k l0 l1 = some r) :
  Calls Tryz.prog 12 #[.slice A0 l0.length c0, .slice A1 l1.length c1] w fun e w' => e = .returned (.bool r) ∧ Drawn0 w w' := by
 have HR0 := Aside0.mk hr0
 have HC0 := Aside0.mk hc0
 clear hr0 hc0
 have HR1 := Aside0.mk hr1
 have HC1 := Aside0.mk hc1
 clear hr1 hc1
 have H : (if (l0.length : Int) = (l1.length : Int) then (tabularylaw12_same.l0 k l0 l1 0) else (some false)) = some r := h
 clear h
 by_cases c3 : (l0.length : Int) = (l1.length : Int)
 ·rw [if_pos c3] at H
  have c3b0 : ((l0.length : Int) == (l1.length : Int)) = true := beq_iff_eq.mpr c3
  have c3b1 : ((l0.length : Int) != (l1.length : Int)) = false := bne_eq_false_iff_eq.mpr c3
  have c3b2 : (l0.length == l1.length) = true := by first | simpa using c3 | (simp at c3 ⊢; omega)
  clear c3
  have H' := Aside0.mk H
  clear H
  go_enter Tryz.func12, Tryz.ntmps12
  go_wp2
  repeat (go_quiet (fail); try go_wp2)
  go_loopg [5] k (fun kq v5 w' => ∃ (x5_1 : Int), v5 = .int .i64 x5_1 ∧ Aside0 (tabularylaw12_same.l0 kq l0 l1 x5_1 = some r) ∧ Aside0 (kq ≤ k) ∧ Drawn0 w w')
  case atStart => exact ⟨(0), (by first | rfl | (simp; done) | (simp [*]; done)), H', ⟨Nat.le_refl _⟩, by repeat (first | exact Drawn0.refl _ | apply Drawn0.step)⟩
  case round =>
   clear H'
   try clear c1
   try clear p2
   try clear c3
   try clear c3b0
   try clear c3b1
   try clear c3b2
   obtain ⟨x5_1, rfl, HA, HK1, ⟨m1, rfl⟩⟩ := hrel
   cases gk with
   | zero => exact absurd HA.out (by simp [tabularylaw12_same.l0])
   | succ k1 =>
    have H := HA.out
    clear HA
    simp only [tabularylaw12_same.l0] at H
    by_cases c4 : x5_1 < (l0.length : Int)
    ·rw [if_pos c4] at H
     have c4b0 : decide (x5_1 < (l0.length : Int)) = true := decide_eq_true c4
     clear c4
     by_cases c5 : 0 ≤ x5_1
     ·rw [if_pos c5] at H
      have c5b0 : decide (0 ≤ x5_1) = true := decide_eq_true c5
      clear c5
      by_cases c6 : x5_1 < (l1.length : Int)
      ·rw [if_pos c6] at H
       have c6b0 : decide (x5_1 < (l1.length : Int)) = true := decide_eq_true c6
       clear c6
       by_cases c7 : (rd l0 x5_1) = (rd l1 x5_1)
       ·rw [if_pos c7] at H
        have c7b0 : ((rd l0 x5_1) == (rd l1 x5_1)) = true := beq_iff_eq.mpr c7
        have c7b1 : ((rd l0 x5_1) != (rd l1 x5_1)) = false := bne_eq_false_iff_eq.mpr c7
        clear c7
        have H' := Aside0.mk H
        clear H
        have p419 : 0 ≤ (x5_1 : Int) := of_decide_eq_true (as_)
        have q419 : x5_1 < (l0.length : Int) := of_decide_eq_true (as_)
        obtain ⟨ad419, e419, hx419_0⟩ := Kd.at_int HR0.out x5_1 p419 q419
        cases e419
        replace p419 := eq_true p419
        replace q419 := eq_true q419
        have p420 : 0 ≤ (x5_1 : Int) := of_decide_eq_true (as_)
        have q420 : x5_1 < (l1.length : Int) := of_decide_eq_true (as_)
        obtain ⟨ad420, e420, hx420_0⟩ := Kd.at_int HR1.out x5_1 p420 q420
        cases e420
        replace p420 := eq_true p420
        replace q420 := eq_true q420
        go_wp2
        repeat (go_quiet (fail); try go_wp2)
        go_roundg k1
        case measure => have := HK1.out; omega
        case rel => exact ⟨(wrap64 (x5_1 + 1)), (by first | rfl | (simp; done) | (simp [*]; done)), H', ⟨by have := HK1.out; omega⟩, by repeat (first | exact Drawn0.refl _ | apply Drawn0.step)⟩
       ·rw [if_neg c7] at H
        have c7b0 : ((rd l0 x5_1) == (rd l1 x5_1)) = false := beq_eq_false_iff_ne.mpr c7
        have c7b1 : ((rd l0 x5_1) != (rd l1 x5_1)) = true := bne_iff_ne.mpr c7
        obtain rfl := Option.some.inj H
        have p419 : 0 ≤ (x5_1 : Int) := of_decide_eq_true (as_)
        have q419 : x5_1 < (l0.length : Int) := of_decide_eq_true (as_)
        obtain ⟨ad419, e419, hx419_0⟩ := Kd.at_int HR0.out x5_1 p419 q419
        cases e419
        replace p419 := eq_true p419
        replace q419 := eq_true q419
        have p420 : 0 ≤ (x5_1 : Int) := of_decide_eq_true (as_)
        have q420 : x5_1 < (l1.length : Int) := of_decide_eq_true (as_)
        obtain ⟨ad420, e420, hx420_0⟩ := Kd.at_int HR1.out x5_1 p420 q420
        cases e420
        replace p420 := eq_true p420
        replace q420 := eq_true q420
        go_wp2
        repeat (go_quiet (fail); try go_wp2)
        go_ret
        exact ⟨by first | rfl | (simp; done) | (simp [*]; done), by repeat (first | exact Drawn0.refl _ | apply Drawn0.step)⟩
      ·rw [if_neg c6] at H
       exact absurd H (by simp)
     ·rw [if_neg c5] at H
      exact absurd H (by simp)
    ·rw [if_neg c4] at H
     have c4b0 : decide (x5_1 < (l0.length : Int)) = false := decide_eq_false c4
     clear c4
     obtain rfl := Option.some.inj H
     go_wp2
     repeat (go_quiet (fail); try go_wp2)
     go_ret
     exact ⟨by first | rfl | (simp; done) | (simp [*]; done), by repeat (first | exact Drawn0.refl _ | apply Drawn0.step)⟩
 ·rw [if_neg c3] at H
  have c3b0 : ((l0.length : Int) == (l1.length : Int)) = false := beq_eq_false_iff_ne.mpr c3
  have c3b1 : ((l0.length : Int) != (l1.length : Int)) = true := bne_iff_ne.mpr c3
  have c3b2 : (l0.length == l1.length) = false := by first | simpa using c3 | (simp at c3 ⊢; omega)
  obtain rfl := Option.some.inj H
  go_enter Tryz.func12, Tryz.ntmps12
  go_wp2
  repeat (go_quiet (fail); try go_wp2)
  go_ret
  exact ⟨by first | rfl | (simp; done) | (simp [*]; done), by repeat (first | exact Drawn0.refl _ | apply Drawn0.step)⟩
end Go.Proofs.YtopehfjohifpnaaGreatDoor.Doc
end
section
set_option linter.unusedSimpArgs false
set_option linter.unusedVariables false
namespace Go.Proofs.YtopehfjohifpnaaGreatDoor.Mine
open Go.RowKit Go.Shelf Go.Proofs.YtopehfjohifpnaaGreatDoorW.PrintWords Go.Proofs.YtopehfjohifpnaaGreatDoorW.PrintLast Go.Proofs.YtopehfjohifpnaaGreatDoorW.PrintMore Go.Proofs.YtopehfjohifpnaaGreatDoor.Turn Go.Proofs.YtopehfjohifpnaaGreatDoor.Doc
theorem same_l (l : List Int) (hl : l.length ≤ 1000000) : ∀ (n K i : Nat), l.length - i = n → i ≤ l.length → n < K → tabularylaw12_same.l0 K l l (i : Int) = some true := by
  intro n
  induction n with
  | zero =>
    intro K i h hi hK
    obtain ⟨K, rfl⟩ : ∃ k, K = k + 1 := ⟨K - 1, by omega⟩
    unfold tabularylaw12_same.l0
    rw [if_neg (by omega)]
  | succ n ih =>
    intro K i h hi hK
    obtain ⟨K, rfl⟩ : ∃ k, K = k + 1 := ⟨K - 1, by omega⟩
    unfold tabularylaw12_same.l0
    rw [if_pos (by omega), if_pos (by omega), if_pos (by omega), if_pos rfl]
    have h1 : wrap64 ((i : Int) + 1) = ((i + 1 : Nat) : Int) := by rw [wrap_id (by omega) (by omega)]; rfl
    rw [h1]
    exact ih K (i + 1) (by omega) (by omega) (by omega)
theorem same_any (A1 A2 : Option Addr) (c1 c2 : Nat) (l : List Int) (hl : l.length ≤ 1000000) (h1 : l.length ≤ c1) (h2 : l.length ≤ c2) (w : World) (hC1 : Kd.C (Kd.int .u8) w A1 l.length l) (hC2 : Kd.C (Kd.int .u8) w A2 l.length l) :
    Calls Tryz.prog 12 #[.slice A1 l.length c1, .slice A2 l.length c2] w fun e w' => e = .returned (.bool true) ∧ Below w.heap.size w w' := by
  refine (tabularylaw12_same.calls 1000001 A1 c1 l A2 c2 l true w hC1 h1 hC2 h2 ?_).mono ?_
  · unfold tabularylaw12_same.f
    rw [if_pos rfl]
    exact same_l l hl l.length 1000001 0 (by omega) (Nat.zero_le _) (by omega)
  · rintro e w' ⟨rfl, n, rfl⟩
    exact ⟨rfl, pw_below_drewN (Below.refl _ _) n⟩
set_option maxRecDepth 100000 in
set_option maxHeartbeats 8000000 in
theorem sameI_any (A1 A2 : Option Addr) (c1 c2 : Nat) (l : List S43) (w : World) (hr1 : Kd.C k43 w A1 l.length l) (hr2 : Kd.C k43 w A2 l.length l) :
    Calls Tryz.prog 34 #[.slice A1 l.length c1, .slice A2 l.length c2] w fun e w' => e = .returned (.bool true) ∧ Below w.heap.size w w' := by
  have HR1 := Aside0.mk hr1
  have HR2 := Aside0.mk hr2
  have hln := hr1.2.1
  clear hr1 hr2
  go_enter Tryz.func34, Tryz.ntmps34
  go_wp2_with fail
  go_loopw [5] (fun u X => ∃ i : Nat, i ≤ l.length ∧ u = .int .i64 i ∧ Aside0 (Below w.heap.size w X)) (fun u _ => l.length - (intOf u).toNat)
  case atStart => exact ⟨0, Nat.zero_le _, rfl, ⟨Below.refl _ _⟩⟩
  case round =>
    rename World => X
    obtain ⟨i, hi, rfl, HB⟩ := hrel
    by_cases hlt : i < l.length
    · obtain ⟨ad, A4, c4, e, g0, g1, g2, g3, g4, g5, h6, h7⟩ := cells_I (Kd.C_below HR1.out HB.out) hlt
      subst e
      obtain ⟨ad', A4', c4', e, g0', g1', g2', g3', g4', g5', h6', h7'⟩ := cells_I (Kd.C_below HR2.out HB.out) hlt
      subst e
      have hbl := World.block_lt_of_cell? _ _ g0
      have hbl' := World.block_lt_of_cell? _ _ g0'
      obtain ⟨x, hx⟩ : ∃ x, itm l i = x := ⟨_, rfl⟩
      rw [hx] at g0 g1 g2 g3 g4 g5 h6 h7 g0' g1' g2' g3' g4' g5' h6' h7'
      clear hx
      obtain ⟨p, k, m, t, bd, q⟩ := x
      simp only at g0 g1 g2 g3 g4 g5 h6 h7 g0' g1' g2' g3' g4' g5' h6' h7'
      have HC1 := Aside0.mk h7
      have HC2 := Aside0.mk h7'
      clear h6 h6' h7 h7'
      have hsz : (X.alloc (.cells #[.string p, .int .u8 k, .int .i64 m, .int .i64 t, .slice A4 bd.length c4, .string q] 43)).heap.size = X.heap.size + 1 := Array.size_push ..
      have HX6 : Aside0 (Blk ((X.alloc (.cells #[.string p, .int .u8 k, .int .i64 m, .int .i64 t, .slice A4 bd.length c4, .string q] 43)).alloc (.cells #[.string p, .int .u8 k, .int .i64 m, .int .i64 t, .slice A4' bd.length c4', .string q] 43)) X.heap.size #[.string p, .int .u8 k, .int .i64 m, .int .i64 t, .slice A4 bd.length c4, .string q] 43) := ⟨(Blk.new X _ _).alloc _⟩
      have HX7 : Aside0 (Blk ((X.alloc (.cells #[.string p, .int .u8 k, .int .i64 m, .int .i64 t, .slice A4 bd.length c4, .string q] 43)).alloc (.cells #[.string p, .int .u8 k, .int .i64 m, .int .i64 t, .slice A4' bd.length c4', .string q] 43)) (X.heap.size + 1) #[.string p, .int .u8 k, .int .i64 m, .int .i64 t, .slice A4' bd.length c4', .string q] 43) := ⟨by have h := Blk.new (X.alloc (.cells #[.string p, .int .u8 k, .int .i64 m, .int .i64 t, .slice A4 bd.length c4, .string q] 43)) #[.string p, .int .u8 k, .int .i64 m, .int .i64 t, .slice A4' bd.length c4', .string q] 43; rw [hsz] at h; exact h⟩
      have HB2 : Aside0 (Below X.heap.size X ((X.alloc (.cells #[.string p, .int .u8 k, .int .i64 m, .int .i64 t, .slice A4 bd.length c4, .string q] 43)).alloc (.cells #[.string p, .int .u8 k, .int .i64 m, .int .i64 t, .slice A4' bd.length c4', .string q] 43))) := ⟨below_alloc (below_alloc (Below.refl _ X) _) _⟩
      have HSZ := Aside0.mk hsz
      clear hsz
      go_upto_region 8 with (fail)
      clear g0 g1 g2 g3 g4 g5 g0' g1' g2' g3' g4' g5' hbl hbl'
      have HB3 := Aside0.mk (below_step HB.out HB2.out)
      have cv1 := Kd.C_string (P := Tryz.prog) (src := 24) (dst := 9) (c := c4) Tryz.underlying24 Tryz.underlying5 Tryz.underlying9 (Kd.C_below HC1.out HB2.out)
      have cv2 := Kd.C_string (P := Tryz.prog) (src := 24) (dst := 9) (c := c4') Tryz.underlying24 Tryz.underlying5 Tryz.underlying9 (Kd.C_below HC2.out HB2.out)
      generalize (X.alloc (.cells #[.string p, .int .u8 k, .int .i64 m, .int .i64 t, .slice A4 bd.length c4, .string q] 43)).alloc (.cells #[.string p, .int .u8 k, .int .i64 m, .int .i64 t, .slice A4' bd.length c4', .string q] 43) = X2 at *
      have e6 := HX6.out.lt
      have e7 := HX7.out.lt
      have d0 : X2.cell? ⟨X.heap.size, 0, none⟩ = some (.string p) := (Blk.cell HX6.out 0).trans rfl
      have f0 : X2.cell? ⟨X.heap.size + 1, 0, none⟩ = some (.string p) := (Blk.cell HX7.out 0).trans rfl
      have d1 : X2.cell? ⟨X.heap.size, 1, none⟩ = some (.int .u8 k) := (Blk.cell HX6.out 1).trans rfl
      have f1 : X2.cell? ⟨X.heap.size + 1, 1, none⟩ = some (.int .u8 k) := (Blk.cell HX7.out 1).trans rfl
      have d2 : X2.cell? ⟨X.heap.size, 2, none⟩ = some (.int .i64 m) := (Blk.cell HX6.out 2).trans rfl
      have f2 : X2.cell? ⟨X.heap.size + 1, 2, none⟩ = some (.int .i64 m) := (Blk.cell HX7.out 2).trans rfl
      have d3 : X2.cell? ⟨X.heap.size, 3, none⟩ = some (.int .i64 t) := (Blk.cell HX6.out 3).trans rfl
      have f3 : X2.cell? ⟨X.heap.size + 1, 3, none⟩ = some (.int .i64 t) := (Blk.cell HX7.out 3).trans rfl
      have d4 : X2.cell? ⟨X.heap.size, 4, none⟩ = some (.slice A4 bd.length c4) := (Blk.cell HX6.out 4).trans rfl
      have f4 : X2.cell? ⟨X.heap.size + 1, 4, none⟩ = some (.slice A4' bd.length c4') := (Blk.cell HX7.out 4).trans rfl
      have d5 : X2.cell? ⟨X.heap.size, 5, none⟩ = some (.string q) := (Blk.cell HX6.out 5).trans rfl
      have f5 : X2.cell? ⟨X.heap.size + 1, 5, none⟩ = some (.string q) := (Blk.cell HX7.out 5).trans rfl
      generalize strOfNums bd = sb at *
      go_wp2_with fail
      go_roundw
      case rel => exact ⟨i + 1, by omega, by go_num, HB3⟩
      case measure => simp [intOf]; omega
    · obtain rfl : i = l.length := by omega
      go_wp2_with fail
      go_ret
      exact ⟨rfl, HB.out⟩
end Go.Proofs.YtopehfjohifpnaaGreatDoor.Mine
end
section
set_option linter.unusedSimpArgs false
set_option linter.unusedVariables false
namespace Go.Proofs.YtopehfjohifpnaaGreatDoor.Mine
open Go.RowKit Go.Shelf Go.Proofs.YtopehfjohifpnaaGreatDoorW.PrintWords Go.Proofs.YtopehfjohifpnaaGreatDoorW.PrintLast Go.Proofs.YtopehfjohifpnaaGreatDoorW.PrintMore Go.Proofs.YtopehfjohifpnaaGreatDoor.Turn Go.Proofs.YtopehfjohifpnaaGreatDoor.Doc
theorem cut_up {P : Program} (t e : TypeId) (kh : IntKind) {i : TypeInfo} (ht : P.underlying t = some (.slice e)) (hi : P.info? e = some i) (A : Option Addr) (n c : Nat) (j : Int) (h0 : 0 ≤ j) (hc : j ≤ c) :
    ∀ W : World, (Instr.slice t (.slice A n c) none (some (.int kh j)) none).run P W = .ok (.slice A j.toNat c) W := by
  intro W
  have hel : P.elem t = e := by simp [Program.elem, ht]
  have hu : P.underlying t = some (.slice (P.elem t)) := by rw [hel]; exact ht
  have ha : (A.map fun x => x.add 0) = A := by cases A <;> simp [Addr.add]
  rw [run_slice_h W t A n c hu kh j h0 (by omega), hel]
  simp [sizeOf, typeInfo, hi, sliced, Result.andThen, ha]
theorem lent_at {w : World} {A : Option Addr} {l : List S43} {y : S43 × List Int} (h : Kd.C kM w A (l.length + 1) (lentL l ++ [y])) {i : Nat} (hi : i < l.length) :
    ∃ ad a4 c4, A = some ad ∧ w.cell? ⟨(ad.add (i * 6)).block, (ad.add (i * 6)).off + 4, none⟩ = some (.slice (some a4) (itm l i).f4.length c4) ∧ (itm l i).f4.length + 1 ≤ c4 ∧ (itm l i).f4.length + 1 ≤ 9223372036854775807 ∧ w.cell? (a4.add (itm l i).f4.length) = some (.int .u8 201) := by
  obtain ⟨ad, cs, e, _, hK, hc0⟩ := Kd.C_get h (itm l i, [201]) (i : Int) (by omega) (by omega)
  rw [Int.toNat_natCast] at hK hc0
  have h1 : itm l i = l[i] := by unfold itm; rw [List.getD_eq_getElem?_getD, List.getElem?_eq_getElem hi]; rfl
  have hg : (lentL l ++ [y]).getD i (itm l i, [201]) = (itm l i, [201]) := by
    rw [List.getD_eq_getElem?_getD, List.getElem?_append_left (by rw [lentL, List.length_map]; exact hi), lentL, List.getElem?_map, List.getElem?_eq_getElem hi, h1]
    rfl
  rw [hg] at hK
  obtain ⟨A4, c4, rfl, hl, hC⟩ := kM_open hK
  simp only at hl hC
  have hc : ∀ j u, _ → w.cell? (ad.add (i * 6 + j)) = some u := hc0
  have hll : ((itm l i).f4 ++ [201]).length = (itm l i).f4.length + 1 := by simp
  obtain ⟨a4, cs4, e4, hz4, hK4, hc4⟩ := Kd.C_get hC 0 ((itm l i).f4.length : Int) (by omega) (by rw [hll]; omega)
  rw [Int.toNat_natCast] at hK4 hc4
  have hk : cs4 = [.int .u8 201] := by
    have hv : ((itm l i).f4 ++ [201]).getD (itm l i).f4.length 0 = 201 := by simp [List.getD_eq_getElem?_getD]
    rw [hv] at hK4
    exact hK4
  subst hk e4
  refine ⟨ad, a4, c4, e, ?_, by omega, by have := hC.2.1; omega, ?_⟩
  · rw [← add_field _ _ 4 (by omega)]; exact hc 4 _ rfl
  · have h9 := hc4 0 _ rfl
    rwa [show (Kd.int .u8).sz = 1 from rfl, Nat.mul_one, Nat.add_zero] at h9
theorem lent_mark {w : World} {A : Option Addr} {l : List S43} (h : Kd.C kM w A (l.length + 1) (lentL l ++ [(markI, [])])) : ∃ ad, A = some ad ∧ w.cell? (ad.add (l.length * 6)) = some (.string ⟨#[109, 97, 114, 107]⟩) := by
  obtain ⟨ad, cs, e, _, hK, hc0⟩ := Kd.C_get h (markI, []) (l.length : Int) (by omega) (by omega)
  rw [Int.toNat_natCast] at hK hc0
  have hg : (lentL l ++ [(markI, [])]).getD l.length (markI, []) = (markI, []) := by
    rw [List.getD_eq_getElem?_getD, List.getElem?_append_right (by rw [lentL, List.length_map]; exact Nat.le_refl _), lentL, List.length_map, Nat.sub_self]
    rfl
  rw [hg] at hK
  obtain ⟨A4, c4, rfl, hl, hC⟩ := kM_open hK
  have hc : ∀ j u, _ → w.cell? (ad.add (l.length * 6 + j)) = some u := hc0
  exact ⟨ad, e, hc 0 _ rfl⟩
set_option maxRecDepth 100000 in
set_option maxHeartbeats 8000000 in
theorem keptI_any (A A2 : Option Addr) (c c2 : Nat) (l : List S43) (hc : l.length + 1 ≤ c) (w : World) (hr1 : Kd.C kM w A (l.length + 1) (lentL l ++ [(markI, [])])) (hr2 : Kd.C k43 w A2 l.length l) :
    Calls Tryz.prog 13 #[.slice A l.length c, .slice A2 l.length c2] w fun e w' => e = .returned (.bool true) ∧ Below w.heap.size w w' := by
  have HR1 := Aside0.mk hr1
  have HR2 := Aside0.mk hr2
  have hln := hr1.2.1
  have hr0 : Kd.C k43 w A l.length l := lent_C (rest := [(markI, [])]) (by rw [List.length_append, lentL, List.length_map]; exact hr1)
  have HR0 := Aside0.mk hr0
  have HC := Aside0.mk hc
  obtain ⟨i05, hi05, _⟩ := info_parts info5
  obtain ⟨i0I, hi0I, _⟩ := info_parts info43
  clear hr1 hr2 hr0 hc
  go_enter Tryz.func13, Tryz.ntmps13
  go_wp2_with fail
  go_loopw [5] (fun u X => ∃ i : Nat, i ≤ l.length ∧ u = .int .i64 i ∧ Aside0 (Below w.heap.size w X)) (fun u _ => l.length - (intOf u).toNat)
  case atStart => exact ⟨0, Nat.zero_le _, rfl, ⟨Below.refl _ _⟩⟩
  case round =>
    rename World => X
    obtain ⟨i, hi, rfl, HB⟩ := hrel
    by_cases hlt : i < l.length
    · obtain ⟨ad, a4, c4, e, g4, h4, hnn, g201⟩ := lent_at (Kd.C_below HR1.out HB.out) hlt
      subst e
      have hbl := World.block_lt_of_cell? _ _ g4
      have hbl2 := World.block_lt_of_cell? _ _ g201
      generalize (itm l i).f4.length = n at *
      have hcut : ∀ W : World, (Instr.slice 24 (.slice (some a4) n c4) none (some (.int .i64 ((n : Int) + 1))) none).run Tryz.prog W = .ok (.slice (some a4) (n + 1) c4) W := fun W => cut_up (P := Tryz.prog) 24 5 .i64 Tryz.underlying24 hi05 (some a4) n c4 ((n : Int) + 1) (by omega) (by omega) W
      go_wp2_with fail
      go_roundw
      case rel => exact ⟨i + 1, by omega, by go_num, HB⟩
      case measure => simp [intOf]; omega
    · obtain rfl : i = l.length := by omega
      obtain ⟨ad, e, gm⟩ := lent_mark (Kd.C_below HR1.out HB.out)
      subst e
      have HSA := Aside0.mk (sameI_any (some ad) A2 c c2 l X (Kd.C_below HR0.out HB.out) (Kd.C_below HR2.out HB.out))
      go_wp2_with fail
      refine HSA.out.mono ?_
      rintro e X2 ⟨rfl, hb⟩
      have hcc := HC.out
      have gm2 : X2.cell? (ad.add (l.length * 6)) = some (.string ⟨#[109, 97, 114, 107]⟩) := pw_cell_below hb gm
      have HB2 := Aside0.mk (below_step HB.out hb)
      have hbl := World.block_lt_of_cell? _ _ gm2
      clear hb gm HSA
      have hcut : ∀ W : World, (Instr.slice 22 (.slice (some ad) l.length c) none (some (.int .i64 ((l.length : Int) + 1))) none).run Tryz.prog W = .ok (.slice (some ad) (l.length + 1) c) W := fun W => cut_up (P := Tryz.prog) 22 43 .i64 Tryz.underlying22 hi0I (some ad) l.length c ((l.length : Int) + 1) (by omega) (by omega) W
      go_wp2_with fail
      go_ret
      exact ⟨rfl, HB2.out⟩
end Go.Proofs.YtopehfjohifpnaaGreatDoor.Mine
end
section
set_option linter.unusedSimpArgs false
set_option linter.unusedVariables false
namespace Go.Proofs.YtopehfjohifpnaaGreatDoor.Mine
open Go.RowKit Go.Shelf Go.Proofs.YtopehfjohifpnaaGreatDoorW.PrintWords Go.Proofs.YtopehfjohifpnaaGreatDoorW.PrintLast Go.Proofs.YtopehfjohifpnaaGreatDoorW.PrintMore Go.Proofs.YtopehfjohifpnaaGreatDoor.Turn Go.Proofs.YtopehfjohifpnaaGreatDoor.Doc
theorem volG_len (l : List S43) : ∀ (m i : Nat) (acc : List Int), acc.length + 1024 ≤ 131072 → (volG l m i acc).1.length ≤ 131072
  | 0, i, acc, h => by
    show (acc ++ zs 1024).length ≤ 131072
    rw [List.length_append, zs_length]
    exact h
  | m + 1, i, acc, h => by
    show (if 131072 < (acc ++ piecesF (itm l i)).length + 1024 then (([], (i : Int), 2) : List Int × Int × Int) else volG l m (i + 1) (acc ++ piecesF (itm l i))).1.length ≤ 131072
    split
    · simp
    · rename_i h2
      exact volG_len l m (i + 1) _ (by omega)
theorem writeF_len (l : List S43) : (writeF l).1.length ≤ 131072 := by
  unfold writeF
  split
  · simp
  · exact volG_len l _ _ _ (by simp)
set_option maxRecDepth 100000 in
set_option maxHeartbeats 8000000 in
theorem packWrites_any (A : Option Addr) (c : Nat) (l : List S43) (i0 : Int) (w : World) (hl : l.length + 1 < 1759218604441) (hb : ∀ i, i < l.length → (itm l i).f4.length + 1 < 140737488355328) (hc : l.length ≤ c) (hr : Kd.C k43 w A l.length l) (hV : Vars w i0) :
    Calls Tryz.prog 3 #[.slice A l.length c] w fun e w' => e = .returned (.bool true) ∧ Below w.heap.size w w' := by
  have HR := Aside0.mk hr
  have HV := Aside0.mk hV
  have HLE := Aside0.mk (lentI_any A c l w hl hb hr)
  have HW1 : Aside0 (∀ (A' : Option Addr) (c' : Nat) (X : World), Kd.C k43 X A' l.length l → Vars X i0 → Calls Tryz.prog 9 #[.slice A' l.length c'] X (EndsWrite X (writeF l))) := ⟨fun A' c' X h h2 => write_any A' c' l i0 X h h2⟩
  have HW2 : Aside0 (∀ (A' : Option Addr) (c' : Nat) (X : World), Kd.C k43 X A' l.length l → Vars X i0 → Calls Tryz.prog 10 #[.slice A' l.length c'] X (fun e w' => e = .returned (.tuple #[.int .i64 (writeF l).1.length, .int .i64 (writeF l).2.2]) ∧ Below X.heap.size X w')) := ⟨fun A' c' X h h2 => sizeW_any A' c' l i0 X h h2⟩
  have HW3 : Aside0 (∀ (X : World), Kd.C k43 X A l.length l → Calls Tryz.prog 11 #[.slice A l.length c] X (EndsWriteR X (writeF l))) := ⟨fun X h => writeR_any A c l hc X h⟩
  have HRL := Aside0.mk (writeF_len l)
  generalize writeF l = R at *
  obtain ⟨vb, va, ve⟩ := R
  unfold EndsWrite EndsWriteR at *
  simp only at HW1 HW2 HW3 HRL
  clear hr hV hb
  go_enter Tryz.func3, Tryz.ntmps3
  go_wp2_with fail
  refine HLE.out.mono ?_
  rintro e w1 ⟨A1, c1, rfl, hc1, hC1, hb1⟩
  have HC1 := Aside0.mk hC1
  have HI1 := Aside0.mk (lent_C (w := w1) (A := A1) (l := l) (rest := [(markI, [])]) (by rw [List.length_append, lentL, List.length_map]; exact hC1))
  have HB1 := Aside0.mk hb1
  have HCC1 := Aside0.mk hc1
  clear hC1 hb1 hc1 HLE
  go_wp2_with fail
  refine (HW1.out A1 c1 w1 HI1.out (HV.out.below HB1.out)).mono ?_
  rintro e w2 ⟨A2, c2, rfl, ho2, hb2⟩
  obtain ⟨A2', c2', e2, hc2, hC2⟩ := Kd.R_reads ho2
  cases e2
  have HB2 := Aside0.mk (below_step HB1.out hb2)
  have HC2 := Aside0.mk (Kd.C_below HC1.out hb2)
  have HI2 := Aside0.mk (Kd.C_below HI1.out hb2)
  have HV2 := Aside0.mk hC2
  have HCC2 := Aside0.mk hc2
  clear ho2 hb2 hC2 hc2 HC1 HI1 HB1 HW1
  go_wp2_with fail
  refine (HW2.out A1 c1 w2 HI2.out (HV.out.below HB2.out)).mono ?_
  rintro e w3 ⟨rfl, hb3⟩
  have HB3 := Aside0.mk (below_step HB2.out hb3)
  have HC3 := Aside0.mk (Kd.C_below HC2.out hb3)
  have HV3 := Aside0.mk (Kd.C_below HV2.out hb3)
  clear hb3 HC2 HI2 HB2 HW2 HV2
  go_wp2_with fail
  refine (HW3.out w3 (Kd.C_below HR.out HB3.out)).mono ?_
  rintro e w4 ⟨A4, c4, rfl, hc4, hC4, hb4⟩
  have HB4 := Aside0.mk (below_step HB3.out hb4)
  have HC4 := Aside0.mk (Kd.C_below HC3.out hb4)
  have HV4 := Aside0.mk (Kd.C_below HV3.out hb4)
  have HX4 := Aside0.mk hC4
  have HCC4 := Aside0.mk hc4
  clear hb4 HC3 HB3 HW3 HV3 hC4 hc4
  go_wp2_with fail
  refine (same_any A2 A4 c2 c4 vb (by have := HRL.out; omega) HCC2.out HCC4.out w4 HV4.out HX4.out).mono ?_
  rintro e w5 ⟨rfl, hb5⟩
  have HB5 := Aside0.mk (below_step HB4.out hb5)
  have HC5 := Aside0.mk (Kd.C_below HC4.out hb5)
  clear hb5 HC4 HB4 HV4 HX4
  go_wp2_with fail
  refine (keptI_any A1 A c1 c l HCC1.out w5 HC5.out (Kd.C_below HR.out HB5.out)).mono ?_
  rintro e w6 ⟨rfl, hb6⟩
  have HB6 := Aside0.mk (below_step HB5.out hb6)
  clear hb6
  go_wp2_with fail
  go_ret
  exact ⟨rfl, HB6.out⟩
end Go.Proofs.YtopehfjohifpnaaGreatDoor.Mine
end
