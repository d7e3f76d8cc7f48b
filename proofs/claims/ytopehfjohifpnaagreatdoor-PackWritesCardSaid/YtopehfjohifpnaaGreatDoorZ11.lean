import Derived.Test.YtopehfjohifpnaaGreatDoorZ4
section
namespace Go.Proofs.YtopehfjohifpnaaGreatDoor.Doc
open Go.RowKit Go.Proofs.YtopehfjohifpnaaGreatDoorW.PrintWords Go.Proofs.YtopehfjohifpnaaGreatDoorW.PrintLast Go.Proofs.YtopehfjohifpnaaGreatDoorW.PrintMore
attribute [local go_sem] max2_int min2_int max_two min_two max_three min_three max_four min_four
set_option linter.unusedVariables false
set_option linter.unusedSimpArgs false
def tabularyref10_nul.l0 : Nat → ByteArray → Int → Option (Bool)
 | 0, _, _ => none
 | k + 1, x0, x3 => if x3 < (x0.size : Int) then (if 0 ≤ x3 then (if (bt x0 x3) = 0 then (some true) else (tabularyref10_nul.l0 k x0 (wrap64 (x3 + 1)))) else (none)) else (some false)
def tabularyref10_nul.f (k : Nat) (a0 : ByteArray) : Option (Bool) := tabularyref10_nul.l0 k a0 0
theorem tabularyref10_nul.mono_l : ∀ k, (∀ y0 y1, LeO (tabularyref10_nul.l0 k y0 y1) (tabularyref10_nul.l0 (k + 1) y0 y1))
 | 0 => fun _ _ r h => by simp [tabularyref10_nul.l0] at h
 | k + 1 => by
  have ih0 := tabularyref10_nul.mono_l k
  ·intro y0 y1
   unfold tabularyref10_nul.l0
   repeat' first
   | (with_reducible exact ih0 _ _)
   | (with_reducible exact LeO.refl _)
   | (with_reducible exact LeO.none _)
   | (with_reducible refine LeO.ite ?_ ?_)
   | (with_reducible refine LeO.bind ?_ (fun _ => ?_))
theorem tabularyref10_nul.mono : ∀ a0 k, LeO (tabularyref10_nul.f k a0) (tabularyref10_nul.f (k + 1) a0) := by
 intro a0 k
 have ih0 := tabularyref10_nul.mono_l k
 unfold tabularyref10_nul.f
 repeat' first
   | (with_reducible exact ih0 _ _)
   | (with_reducible exact LeO.refl _)
   | (with_reducible exact LeO.none _)
   | (with_reducible refine LeO.ite ?_ ?_)
   | (with_reducible refine LeO.bind ?_ (fun _ => ?_))
set_option maxHeartbeats 8000000 in
set_option maxRecDepth 100000 in
theorem tabularyref10_nul.calls (k : Nat) (a0 : ByteArray) (r : Bool) (w : World) (h : tabularyref10_nul.f k a0 = some r) :
  Calls Tryz.prog 105 #[.string a0] w fun e w' => e = .returned (.bool r) ∧ Drawn0 w w' := by
 have H : (tabularyref10_nul.l0 k a0 0) = some r := h
 clear h
 have H' := Aside0.mk H
 clear H
 go_enter Tryz.func105, Tryz.ntmps105
 go_wp2
 go_loopg [3] k (fun kq v3 w' => ∃ (x3_1 : Int), v3 = .int .i64 x3_1 ∧ Aside0 (tabularyref10_nul.l0 kq a0 x3_1 = some r) ∧ Aside0 (kq ≤ k) ∧ Drawn0 w w')
 case atStart => exact ⟨(0), (by first | rfl | (simp; done) | (simp [*]; done)), H', ⟨Nat.le_refl _⟩, by repeat (first | exact Drawn0.refl _ | apply Drawn0.step)⟩
 case round =>
  clear H'
  try clear c1
  obtain ⟨x3_1, rfl, HA, HK1, ⟨m1, rfl⟩⟩ := hrel
  cases gk with
  | zero => exact absurd HA.out (by simp [tabularyref10_nul.l0])
  | succ k1 =>
   have H := HA.out
   clear HA
   simp only [tabularyref10_nul.l0] at H
   by_cases c2 : x3_1 < (a0.size : Int)
   ·rw [if_pos c2] at H
    have c2b0 : decide (x3_1 < (a0.size : Int)) = true := decide_eq_true c2
    clear c2
    by_cases c3 : 0 ≤ x3_1
    ·rw [if_pos c3] at H
     have c3b0 : decide (0 ≤ x3_1) = true := decide_eq_true c3
     clear c3
     by_cases c5 : (bt a0 x3_1) = 0
     ·rw [if_pos c5] at H
      have c5b0 : ((bt a0 x3_1) == 0) = true := beq_iff_eq.mpr c5
      have c5b1 : ((bt a0 x3_1) != 0) = false := bne_eq_false_iff_eq.mpr c5
      clear c5
      obtain rfl := Option.some.inj H
      have p4 : 0 ≤ (x3_1 : Int) := of_decide_eq_true (as_)
      have q4 : x3_1 < (a0.size : Int) := of_decide_eq_true (as_)
      have hx4 := bt_at a0 x3_1
      replace p4 := eq_true p4
      replace q4 := eq_true q4
      go_wp2
      go_ret
      exact ⟨by first | rfl | (simp; done) | (simp [*]; done), by repeat (first | exact Drawn0.refl _ | apply Drawn0.step)⟩
     ·rw [if_neg c5] at H
      have c5b0 : ((bt a0 x3_1) == 0) = false := beq_eq_false_iff_ne.mpr c5
      have c5b1 : ((bt a0 x3_1) != 0) = true := bne_iff_ne.mpr c5
      have H' := Aside0.mk H
      clear H
      have p4 : 0 ≤ (x3_1 : Int) := of_decide_eq_true (as_)
      have q4 : x3_1 < (a0.size : Int) := of_decide_eq_true (as_)
      have hx4 := bt_at a0 x3_1
      replace p4 := eq_true p4
      replace q4 := eq_true q4
      go_wp2
      go_roundg k1
      case measure => have := HK1.out; omega
      case rel => exact ⟨(wrap64 (x3_1 + 1)), (by first | rfl | (simp; done) | (simp [*]; done)), H', ⟨by have := HK1.out; omega⟩, by repeat (first | exact Drawn0.refl _ | apply Drawn0.step)⟩
    ·rw [if_neg c3] at H
     exact absurd H (by simp)
   ·rw [if_neg c2] at H
    have c2b0 : decide (x3_1 < (a0.size : Int)) = false := decide_eq_false c2
    clear c2
    obtain rfl := Option.some.inj H
    go_wp2
    go_ret
    exact ⟨by first | rfl | (simp; done) | (simp [*]; done), by repeat (first | exact Drawn0.refl _ | apply Drawn0.step)⟩
mutual
def tabularyref10_May.j0 : Nat → Bool → ByteArray → ByteArray → Int → Int → Int → Int → ByteArray → Option (Int)
 | 0, _, _, _, _, _, _, _, _ => none
 | k + 1, x25, x295000, x295001, x295002, x295003, x295004, x295005, x295006 => if x25 = true then (some 102) else (if (x295000.size : Int) > 100 then (tabularyref10_May.j1 k true x295000 x295001 x295002 x295003 x295004 x295005 x295006) else (if (x295006.size : Int) > 100 then (tabularyref10_May.j1 k true x295000 x295001 x295002 x295003 x295004 x295005 x295006) else (tabularyref10_May.j1 k (decide ((x295001.size : Int) > 155)) x295000 x295001 x295002 x295003 x295004 x295005 x295006)))
def tabularyref10_May.j1 : Nat → Bool → ByteArray → ByteArray → Int → Int → Int → Int → ByteArray → Option (Int)
 | 0, _, _, _, _, _, _, _, _ => none
 | k + 1, x41, x295000, x295001, x295002, x295003, x295004, x295005, x295006 => if x41 = true then (some 2) else ((tabularyref10_nul.f k x295000).bind fun t295 => (if t295 = true then (tabularyref10_May.j2 k true x295000 x295001 x295002 x295003 x295004 x295005 x295006) else ((tabularyref10_nul.f k x295006).bind fun t296 => (if t296 = true then (tabularyref10_May.j2 k true x295000 x295001 x295002 x295003 x295004 x295005 x295006) else ((tabularyref10_nul.f k x295001).bind fun t297 => (tabularyref10_May.j2 k t297 x295000 x295001 x295002 x295003 x295004 x295005 x295006))))))
def tabularyref10_May.j2 : Nat → Bool → ByteArray → ByteArray → Int → Int → Int → Int → ByteArray → Option (Int)
 | 0, _, _, _, _, _, _, _, _ => none
 | k + 1, x54, x295000, x295001, x295002, x295003, x295004, x295005, x295006 => if x54 = true then (some 82) else (if x295002 < 0 then (some 1) else (if x295002 > 4095 then (some 1) else (if x295003 < 0 then (some 1) else (if x295003 > 8589934591 then (some 1) else (if x295004 < 0 then (some 1) else (if x295004 > 1099511627776 then (some 1) else (some 0)))))))
end
def tabularyref10_May.f (k : Nat) (a0_0 : ByteArray) (a0_1 : ByteArray) (a0_2 : Int) (a0_3 : Int) (a0_4 : Int) (a0_5 : Int) (a0_6 : ByteArray) : Option (Int) := if a0_5 = 48 then (tabularyref10_May.j0 k false a0_0 a0_1 a0_2 a0_3 a0_4 a0_5 a0_6) else (if a0_5 = 49 then (tabularyref10_May.j0 k false a0_0 a0_1 a0_2 a0_3 a0_4 a0_5 a0_6) else (if a0_5 = 50 then (tabularyref10_May.j0 k false a0_0 a0_1 a0_2 a0_3 a0_4 a0_5 a0_6) else (if a0_5 = 53 then (tabularyref10_May.j0 k false a0_0 a0_1 a0_2 a0_3 a0_4 a0_5 a0_6) else (tabularyref10_May.j0 k (a0_5 != 120) a0_0 a0_1 a0_2 a0_3 a0_4 a0_5 a0_6))))
theorem tabularyref10_May.mono_l : ∀ k, (∀ y0 y1 y2 y3 y4 y5 y6 y7, LeO (tabularyref10_May.j0 k y0 y1 y2 y3 y4 y5 y6 y7) (tabularyref10_May.j0 (k + 1) y0 y1 y2 y3 y4 y5 y6 y7)) ∧ (∀ y0 y1 y2 y3 y4 y5 y6 y7, LeO (tabularyref10_May.j1 k y0 y1 y2 y3 y4 y5 y6 y7) (tabularyref10_May.j1 (k + 1) y0 y1 y2 y3 y4 y5 y6 y7)) ∧ (∀ y0 y1 y2 y3 y4 y5 y6 y7, LeO (tabularyref10_May.j2 k y0 y1 y2 y3 y4 y5 y6 y7) (tabularyref10_May.j2 (k + 1) y0 y1 y2 y3 y4 y5 y6 y7))
 | 0 => ⟨fun _ _ _ _ _ _ _ _ r h => by simp [tabularyref10_May.j0] at h, fun _ _ _ _ _ _ _ _ r h => by simp [tabularyref10_May.j1] at h, fun _ _ _ _ _ _ _ _ r h => by simp [tabularyref10_May.j2] at h⟩
 | k + 1 => by
  obtain ⟨ih0, ih1, ih2⟩ := tabularyref10_May.mono_l k
  refine ⟨?_, ?_, ?_⟩
  ·intro y0 y1 y2 y3 y4 y5 y6 y7
   unfold tabularyref10_May.j0
   repeat' first
   | (with_reducible exact ih0 _ _ _ _ _ _ _ _)
   | (with_reducible exact ih1 _ _ _ _ _ _ _ _)
   | (with_reducible exact ih2 _ _ _ _ _ _ _ _)
   | (with_reducible exact tabularyref10_nul.mono _ _)
   | (with_reducible exact LeO.refl _)
   | (with_reducible exact LeO.none _)
   | (with_reducible refine LeO.ite ?_ ?_)
   | (with_reducible refine LeO.bind ?_ (fun _ => ?_))
  ·intro y0 y1 y2 y3 y4 y5 y6 y7
   unfold tabularyref10_May.j1
   repeat' first
   | (with_reducible exact ih0 _ _ _ _ _ _ _ _)
   | (with_reducible exact ih1 _ _ _ _ _ _ _ _)
   | (with_reducible exact ih2 _ _ _ _ _ _ _ _)
   | (with_reducible exact tabularyref10_nul.mono _ _)
   | (with_reducible exact LeO.refl _)
   | (with_reducible exact LeO.none _)
   | (with_reducible refine LeO.ite ?_ ?_)
   | (with_reducible refine LeO.bind ?_ (fun _ => ?_))
  ·intro y0 y1 y2 y3 y4 y5 y6 y7
   unfold tabularyref10_May.j2
   repeat' first
   | (with_reducible exact ih0 _ _ _ _ _ _ _ _)
   | (with_reducible exact ih1 _ _ _ _ _ _ _ _)
   | (with_reducible exact ih2 _ _ _ _ _ _ _ _)
   | (with_reducible exact tabularyref10_nul.mono _ _)
   | (with_reducible exact LeO.refl _)
   | (with_reducible exact LeO.none _)
   | (with_reducible refine LeO.ite ?_ ?_)
   | (with_reducible refine LeO.bind ?_ (fun _ => ?_))
theorem tabularyref10_May.mono : ∀ a0 a1 a2 a3 a4 a5 a6 k, LeO (tabularyref10_May.f k a0 a1 a2 a3 a4 a5 a6) (tabularyref10_May.f (k + 1) a0 a1 a2 a3 a4 a5 a6) := by
 intro a0 a1 a2 a3 a4 a5 a6 k
 obtain ⟨ih0, ih1, ih2⟩ := tabularyref10_May.mono_l k
 unfold tabularyref10_May.f
 repeat' first
   | (with_reducible exact ih0 _ _ _ _ _ _ _ _)
   | (with_reducible exact ih1 _ _ _ _ _ _ _ _)
   | (with_reducible exact ih2 _ _ _ _ _ _ _ _)
   | (with_reducible exact tabularyref10_nul.mono _ _)
   | (with_reducible exact LeO.refl _)
   | (with_reducible exact LeO.none _)
   | (with_reducible refine LeO.ite ?_ ?_)
   | (with_reducible refine LeO.bind ?_ (fun _ => ?_))
set_option maxHeartbeats 8000000 in
set_option maxRecDepth 100000 in
theorem tabularyref10_May.calls (k : Nat) (a0_0 : ByteArray) (a0_1 : ByteArray) (a0_2 : Int) (a0_3 : Int) (a0_4 : Int) (a0_5 : Int) (a0_6 : ByteArray) (r : Int) (w : World) (h : tabularyref10_May.f k a0_0 a0_1 a0_2 a0_3 a0_4 a0_5 a0_6 = some r) :
  Calls Tryz.prog 84 #[.agg #[.string a0_0, .string a0_1, .int .i64 a0_2, .int .i64 a0_3, .int .i64 a0_4, .int .u8 a0_5, .string a0_6]] w fun e w' => e = .returned (.int .i64 r) ∧ Below w.heap.size w w' := by
 have hu68 := Tryz.underlying68
 have HB := Aside0.mk (Below.refl w.heap.size w)
 have H : (if a0_5 = 48 then (tabularyref10_May.j0 k false a0_0 a0_1 a0_2 a0_3 a0_4 a0_5 a0_6) else (if a0_5 = 49 then (tabularyref10_May.j0 k false a0_0 a0_1 a0_2 a0_3 a0_4 a0_5 a0_6) else (if a0_5 = 50 then (tabularyref10_May.j0 k false a0_0 a0_1 a0_2 a0_3 a0_4 a0_5 a0_6) else (if a0_5 = 53 then (tabularyref10_May.j0 k false a0_0 a0_1 a0_2 a0_3 a0_4 a0_5 a0_6) else (tabularyref10_May.j0 k (a0_5 != 120) a0_0 a0_1 a0_2 a0_3 a0_4 a0_5 a0_6))))) = some r := h
 clear h
 have HC2 := Aside0.mk H
 clear H
 go_enter Tryz.func84, Tryz.ntmps84
 go_upto_region 1 with (first | ((with_reducible refine gate_dst (N := 1) rfl ?_); (try (refine gate_guard (by rfl) ?_; dsimp only)); refine box_event ?hg (N := 1) ?hd (cs := #[.string a0_0, .string a0_1, .int .i64 a0_2, .int .i64 a0_3, .int .i64 a0_4, .int .u8 a0_5, .string a0_6]) (t := 68) ?hr ?_; (case hd => rfl); (case hg => rfl); (case hr => first | (go_simp; done) | (go_simp; rfl)); intro gb294 hg w3 hbox hb; have n0_ := Aside0.mk (below_step (hb_) hb); have n1_ := Aside0.mk (hbox); have n2_ := Aside0.mk ((by rw [hg]; exact (below_size (hb_)) : w.heap.size ≤ gb294)); have n3_ := Aside0.mk ((by rw [hg]; exact (below_size (hb_)) : w.heap.size ≤ gb294)); clear HB; have HB := n0_; have BK294 := n1_; have GW294 := n2_; have GE294 := n3_; clear n0_ n1_ n2_ n3_; clear hb hbox hg))
 (try simp only [Act.put, List.setIfInBounds_toArray, List.set_cons_zero, List.set_cons_succ])
 go_cut [25] (fun v25 wc => ∃ (kq : Nat) (x25_1 : Bool), v25 = .bool x25_1 ∧ Aside0 (tabularyref10_May.j0 kq x25_1 a0_0 a0_1 a0_2 a0_3 a0_4 a0_5 a0_6 = some r) ∧ Aside0 (kq ≤ k) ∧ Aside0 (wc.heap[gb294]? = some (.cells #[.string a0_0, .string a0_1, .int .i64 a0_2, .int .i64 a0_3, .int .i64 a0_4, .int .u8 a0_5, .string a0_6] 68 (0, 0))) ∧ Aside0 (Below w.heap.size w wc))
 case first =>
  have H := HC2.out
  clear HC2
  by_cases c4 : a0_5 = 48
  ·rw [if_pos c4] at H
   have c4b0 : (a0_5 == 48) = true := beq_iff_eq.mpr c4
   have c4b1 : (a0_5 != 48) = false := bne_eq_false_iff_eq.mpr c4
   clear c4
   (first | rw [c4b0] | (simp only [i64_w, i32_w]; rw [c4b0]) | skip)
   have H' := Aside0.mk H
   clear H
   have hcz5_0 : w3.cell? ⟨gb294, 0, none⟩ = some (.string a0_0) := (blk_cell BK294.out 0).trans rfl
   have hcz5_1 : w3.cell? ⟨gb294, 1, none⟩ = some (.string a0_1) := (blk_cell BK294.out 1).trans rfl
   have hcz5_2 : w3.cell? ⟨gb294, 2, none⟩ = some (.int .i64 a0_2) := (blk_cell BK294.out 2).trans rfl
   have hcz5_3 : w3.cell? ⟨gb294, 3, none⟩ = some (.int .i64 a0_3) := (blk_cell BK294.out 3).trans rfl
   have hcz5_4 : w3.cell? ⟨gb294, 4, none⟩ = some (.int .i64 a0_4) := (blk_cell BK294.out 4).trans rfl
   have hcz5_5 : w3.cell? ⟨gb294, 5, none⟩ = some (.int .u8 a0_5) := (blk_cell BK294.out 5).trans rfl
   have hcz5_6 : w3.cell? ⟨gb294, 6, none⟩ = some (.string a0_6) := (blk_cell BK294.out 6).trans rfl
   have hfz5_0 := blk_frozen BK294.out 0
   have hfz5_1 := blk_frozen BK294.out 1
   have hfz5_2 := blk_frozen BK294.out 2
   have hfz5_3 := blk_frozen BK294.out 3
   have hfz5_4 := blk_frozen BK294.out 4
   have hfz5_5 := blk_frozen BK294.out 5
   have hfz5_6 := blk_frozen BK294.out 6
   go_wp2
   go_meet
   case rel => exact ⟨_, (false), (by first | rfl | (simp; done) | (simp [*]; done)), H', ⟨by first | omega | exact Nat.le_refl _⟩, ⟨by (with_reducible repeat (first | refine blk_drewN ?_ _ | refine blk_drew ?_ | refine blk_alloc ?_ _)); exact BK294.out⟩, ⟨by repeat (first | (with_reducible first | exact HB.out | apply below_alloc | apply pw_below_drewN | apply below_drew1 | refine below_set ?_ GE294.out) | exact HB.out)⟩⟩
  ·rw [if_neg c4] at H
   have c4b0 : (a0_5 == 48) = false := beq_eq_false_iff_ne.mpr c4
   have c4b1 : (a0_5 != 48) = true := bne_iff_ne.mpr c4
   (first | rw [c4b0] | (simp only [i64_w, i32_w]; rw [c4b0]) | skip)
   by_cases c6 : a0_5 = 49
   ·rw [if_pos c6] at H
    have c6b0 : (a0_5 == 49) = true := beq_iff_eq.mpr c6
    have c6b1 : (a0_5 != 49) = false := bne_eq_false_iff_eq.mpr c6
    clear c6
    have H' := Aside0.mk H
    clear H
    have hcz7_0 : w3.cell? ⟨gb294, 0, none⟩ = some (.string a0_0) := (blk_cell BK294.out 0).trans rfl
    have hcz7_1 : w3.cell? ⟨gb294, 1, none⟩ = some (.string a0_1) := (blk_cell BK294.out 1).trans rfl
    have hcz7_2 : w3.cell? ⟨gb294, 2, none⟩ = some (.int .i64 a0_2) := (blk_cell BK294.out 2).trans rfl
    have hcz7_3 : w3.cell? ⟨gb294, 3, none⟩ = some (.int .i64 a0_3) := (blk_cell BK294.out 3).trans rfl
    have hcz7_4 : w3.cell? ⟨gb294, 4, none⟩ = some (.int .i64 a0_4) := (blk_cell BK294.out 4).trans rfl
    have hcz7_5 : w3.cell? ⟨gb294, 5, none⟩ = some (.int .u8 a0_5) := (blk_cell BK294.out 5).trans rfl
    have hcz7_6 : w3.cell? ⟨gb294, 6, none⟩ = some (.string a0_6) := (blk_cell BK294.out 6).trans rfl
    have hfz7_0 := blk_frozen BK294.out 0
    have hfz7_1 := blk_frozen BK294.out 1
    have hfz7_2 := blk_frozen BK294.out 2
    have hfz7_3 := blk_frozen BK294.out 3
    have hfz7_4 := blk_frozen BK294.out 4
    have hfz7_5 := blk_frozen BK294.out 5
    have hfz7_6 := blk_frozen BK294.out 6
    go_wp2
    go_meet
    case rel => exact ⟨_, (false), (by first | rfl | (simp; done) | (simp [*]; done)), H', ⟨by first | omega | exact Nat.le_refl _⟩, ⟨by (with_reducible repeat (first | refine blk_drewN ?_ _ | refine blk_drew ?_ | refine blk_alloc ?_ _)); exact BK294.out⟩, ⟨by repeat (first | (with_reducible first | exact HB.out | apply below_alloc | apply pw_below_drewN | apply below_drew1 | refine below_set ?_ GE294.out) | exact HB.out)⟩⟩
   ·rw [if_neg c6] at H
    have c6b0 : (a0_5 == 49) = false := beq_eq_false_iff_ne.mpr c6
    have c6b1 : (a0_5 != 49) = true := bne_iff_ne.mpr c6
    by_cases c8 : a0_5 = 50
    ·rw [if_pos c8] at H
     have c8b0 : (a0_5 == 50) = true := beq_iff_eq.mpr c8
     have c8b1 : (a0_5 != 50) = false := bne_eq_false_iff_eq.mpr c8
     clear c8
     have H' := Aside0.mk H
     clear H
     have hcz9_0 : w3.cell? ⟨gb294, 0, none⟩ = some (.string a0_0) := (blk_cell BK294.out 0).trans rfl
     have hcz9_1 : w3.cell? ⟨gb294, 1, none⟩ = some (.string a0_1) := (blk_cell BK294.out 1).trans rfl
     have hcz9_2 : w3.cell? ⟨gb294, 2, none⟩ = some (.int .i64 a0_2) := (blk_cell BK294.out 2).trans rfl
     have hcz9_3 : w3.cell? ⟨gb294, 3, none⟩ = some (.int .i64 a0_3) := (blk_cell BK294.out 3).trans rfl
     have hcz9_4 : w3.cell? ⟨gb294, 4, none⟩ = some (.int .i64 a0_4) := (blk_cell BK294.out 4).trans rfl
     have hcz9_5 : w3.cell? ⟨gb294, 5, none⟩ = some (.int .u8 a0_5) := (blk_cell BK294.out 5).trans rfl
     have hcz9_6 : w3.cell? ⟨gb294, 6, none⟩ = some (.string a0_6) := (blk_cell BK294.out 6).trans rfl
     have hfz9_0 := blk_frozen BK294.out 0
     have hfz9_1 := blk_frozen BK294.out 1
     have hfz9_2 := blk_frozen BK294.out 2
     have hfz9_3 := blk_frozen BK294.out 3
     have hfz9_4 := blk_frozen BK294.out 4
     have hfz9_5 := blk_frozen BK294.out 5
     have hfz9_6 := blk_frozen BK294.out 6
     go_wp2
     go_meet
     case rel => exact ⟨_, (false), (by first | rfl | (simp; done) | (simp [*]; done)), H', ⟨by first | omega | exact Nat.le_refl _⟩, ⟨by (with_reducible repeat (first | refine blk_drewN ?_ _ | refine blk_drew ?_ | refine blk_alloc ?_ _)); exact BK294.out⟩, ⟨by repeat (first | (with_reducible first | exact HB.out | apply below_alloc | apply pw_below_drewN | apply below_drew1 | refine below_set ?_ GE294.out) | exact HB.out)⟩⟩
    ·rw [if_neg c8] at H
     have c8b0 : (a0_5 == 50) = false := beq_eq_false_iff_ne.mpr c8
     have c8b1 : (a0_5 != 50) = true := bne_iff_ne.mpr c8
     by_cases c10 : a0_5 = 53
     ·rw [if_pos c10] at H
      have c10b0 : (a0_5 == 53) = true := beq_iff_eq.mpr c10
      have c10b1 : (a0_5 != 53) = false := bne_eq_false_iff_eq.mpr c10
      clear c10
      have H' := Aside0.mk H
      clear H
      have hcz11_0 : w3.cell? ⟨gb294, 0, none⟩ = some (.string a0_0) := (blk_cell BK294.out 0).trans rfl
      have hcz11_1 : w3.cell? ⟨gb294, 1, none⟩ = some (.string a0_1) := (blk_cell BK294.out 1).trans rfl
      have hcz11_2 : w3.cell? ⟨gb294, 2, none⟩ = some (.int .i64 a0_2) := (blk_cell BK294.out 2).trans rfl
      have hcz11_3 : w3.cell? ⟨gb294, 3, none⟩ = some (.int .i64 a0_3) := (blk_cell BK294.out 3).trans rfl
      have hcz11_4 : w3.cell? ⟨gb294, 4, none⟩ = some (.int .i64 a0_4) := (blk_cell BK294.out 4).trans rfl
      have hcz11_5 : w3.cell? ⟨gb294, 5, none⟩ = some (.int .u8 a0_5) := (blk_cell BK294.out 5).trans rfl
      have hcz11_6 : w3.cell? ⟨gb294, 6, none⟩ = some (.string a0_6) := (blk_cell BK294.out 6).trans rfl
      have hfz11_0 := blk_frozen BK294.out 0
      have hfz11_1 := blk_frozen BK294.out 1
      have hfz11_2 := blk_frozen BK294.out 2
      have hfz11_3 := blk_frozen BK294.out 3
      have hfz11_4 := blk_frozen BK294.out 4
      have hfz11_5 := blk_frozen BK294.out 5
      have hfz11_6 := blk_frozen BK294.out 6
      go_wp2
      go_meet
      case rel => exact ⟨_, (false), (by first | rfl | (simp; done) | (simp [*]; done)), H', ⟨by first | omega | exact Nat.le_refl _⟩, ⟨by (with_reducible repeat (first | refine blk_drewN ?_ _ | refine blk_drew ?_ | refine blk_alloc ?_ _)); exact BK294.out⟩, ⟨by repeat (first | (with_reducible first | exact HB.out | apply below_alloc | apply pw_below_drewN | apply below_drew1 | refine below_set ?_ GE294.out) | exact HB.out)⟩⟩
     ·rw [if_neg c10] at H
      have c10b0 : (a0_5 == 53) = false := beq_eq_false_iff_ne.mpr c10
      have c10b1 : (a0_5 != 53) = true := bne_iff_ne.mpr c10
      have H' := Aside0.mk H
      clear H
      have hcz12_0 : w3.cell? ⟨gb294, 0, none⟩ = some (.string a0_0) := (blk_cell BK294.out 0).trans rfl
      have hcz12_1 : w3.cell? ⟨gb294, 1, none⟩ = some (.string a0_1) := (blk_cell BK294.out 1).trans rfl
      have hcz12_2 : w3.cell? ⟨gb294, 2, none⟩ = some (.int .i64 a0_2) := (blk_cell BK294.out 2).trans rfl
      have hcz12_3 : w3.cell? ⟨gb294, 3, none⟩ = some (.int .i64 a0_3) := (blk_cell BK294.out 3).trans rfl
      have hcz12_4 : w3.cell? ⟨gb294, 4, none⟩ = some (.int .i64 a0_4) := (blk_cell BK294.out 4).trans rfl
      have hcz12_5 : w3.cell? ⟨gb294, 5, none⟩ = some (.int .u8 a0_5) := (blk_cell BK294.out 5).trans rfl
      have hcz12_6 : w3.cell? ⟨gb294, 6, none⟩ = some (.string a0_6) := (blk_cell BK294.out 6).trans rfl
      have hfz12_0 := blk_frozen BK294.out 0
      have hfz12_1 := blk_frozen BK294.out 1
      have hfz12_2 := blk_frozen BK294.out 2
      have hfz12_3 := blk_frozen BK294.out 3
      have hfz12_4 := blk_frozen BK294.out 4
      have hfz12_5 := blk_frozen BK294.out 5
      have hfz12_6 := blk_frozen BK294.out 6
      go_wp2
      go_meet
      case rel => exact ⟨_, ((a0_5 != 120)), (by first | rfl | (simp; done) | (simp [*]; done)), H', ⟨by first | omega | exact Nat.le_refl _⟩, ⟨by (with_reducible repeat (first | refine blk_drewN ?_ _ | refine blk_drew ?_ | refine blk_alloc ?_ _)); exact BK294.out⟩, ⟨by repeat (first | (with_reducible first | exact HB.out | apply below_alloc | apply pw_below_drewN | apply below_drew1 | refine below_set ?_ GE294.out) | exact HB.out)⟩⟩
 case rest =>
  clear HC2
  try clear c1
  try clear p2
  try clear c4
  try clear c4b0
  try clear c4b1
  try clear c6
  try clear c6b0
  try clear c6b1
  try clear c8
  try clear c8b0
  try clear c8b1
  try clear c10
  try clear c10b0
  try clear c10b1
  try clear hcz11_0
  try clear hcz11_1
  try clear hcz11_2
  try clear hcz11_3
  try clear hcz11_4
  try clear hcz11_5
  try clear hcz11_6
  try clear hcz12_0
  try clear hcz12_1
  try clear hcz12_2
  try clear hcz12_3
  try clear hcz12_4
  try clear hcz12_5
  try clear hcz12_6
  try clear hcz5_0
  try clear hcz5_1
  try clear hcz5_2
  try clear hcz5_3
  try clear hcz5_4
  try clear hcz5_5
  try clear hcz5_6
  try clear hcz7_0
  try clear hcz7_1
  try clear hcz7_2
  try clear hcz7_3
  try clear hcz7_4
  try clear hcz7_5
  try clear hcz7_6
  try clear hcz9_0
  try clear hcz9_1
  try clear hcz9_2
  try clear hcz9_3
  try clear hcz9_4
  try clear hcz9_5
  try clear hcz9_6
  try clear hfz11_0
  try clear hfz11_1
  try clear hfz11_2
  try clear hfz11_3
  try clear hfz11_4
  try clear hfz11_5
  try clear hfz11_6
  try clear hfz12_0
  try clear hfz12_1
  try clear hfz12_2
  try clear hfz12_3
  try clear hfz12_4
  try clear hfz12_5
  try clear hfz12_6
  try clear hfz5_0
  try clear hfz5_1
  try clear hfz5_2
  try clear hfz5_3
  try clear hfz5_4
  try clear hfz5_5
  try clear hfz5_6
  try clear hfz7_0
  try clear hfz7_1
  try clear hfz7_2
  try clear hfz7_3
  try clear hfz7_4
  try clear hfz7_5
  try clear hfz7_6
  try clear hfz9_0
  try clear hfz9_1
  try clear hfz9_2
  try clear hfz9_3
  try clear hfz9_4
  try clear hfz9_5
  try clear hfz9_6
  obtain ⟨kq, x25_1, rfl, HA, HJ1, BK294, HB⟩ := hcut
  cases kq with
  | zero => exact absurd HA.out (by simp [tabularyref10_May.j0])
  | succ kj1 =>
   have H := HA.out
   clear HA
   simp only [tabularyref10_May.j0] at H
   by_cases c13 : x25_1 = true
   ·subst c13
    have H1 : (some 102) = some r := by rw [if_pos rfl] at H; exact H
    clear H
    have H := H1
    clear H1
    obtain rfl := Option.some.inj H
    go_wp2
    go_ret
    exact ⟨er_, by repeat (first | (with_reducible first | exact HB.out | apply below_alloc | apply pw_below_drewN | apply below_drew1 | refine below_set ?_ GE294.out) | exact HB.out)⟩
   ·replace c13 := Bool.eq_false_iff.mpr c13
    subst c13
    have H1 : (if (a0_0.size : Int) > 100 then (tabularyref10_May.j1 kj1 true a0_0 a0_1 a0_2 a0_3 a0_4 a0_5 a0_6) else (if (a0_6.size : Int) > 100 then (tabularyref10_May.j1 kj1 true a0_0 a0_1 a0_2 a0_3 a0_4 a0_5 a0_6) else (tabularyref10_May.j1 kj1 (decide ((a0_1.size : Int) > 155)) a0_0 a0_1 a0_2 a0_3 a0_4 a0_5 a0_6))) = some r := by rw [if_neg (show ¬ (false = true) by decide)] at H; exact H
    clear H
    have H := H1
    clear H1
    have HC14 := Aside0.mk H
    clear H
    go_upto_region 3 with (fail)
    go_cut [41] (fun v41 wc => ∃ (kq : Nat) (x41_13 : Bool), v41 = .bool x41_13 ∧ Aside0 (tabularyref10_May.j1 kq x41_13 a0_0 a0_1 a0_2 a0_3 a0_4 a0_5 a0_6 = some r) ∧ Aside0 (kq ≤ kj1) ∧ Aside0 (wc.heap[gb294]? = some (.cells #[.string a0_0, .string a0_1, .int .i64 a0_2, .int .i64 a0_3, .int .i64 a0_4, .int .u8 a0_5, .string a0_6] 68 (0, 0))) ∧ Aside0 (Below w.heap.size w wc))
    case first =>
     have H := HC14.out
     clear HC14
     by_cases c15 : (a0_0.size : Int) > 100
     ·rw [if_pos c15] at H
      have c15b0 : decide (100 < (a0_0.size : Int)) = true := decide_eq_true c15
      have c15b1 : decide (100 < a0_0.size) = true := decide_eq_true (by omega)
      clear c15
      (first | rw [c15b0] | (simp only [i64_w, i32_w]; rw [c15b0]) | skip)
      have H' := Aside0.mk H
      clear H
      have hcz16_0 : wc.cell? ⟨gb294, 0, none⟩ = some (.string a0_0) := (blk_cell BK294.out 0).trans rfl
      have hcz16_1 : wc.cell? ⟨gb294, 1, none⟩ = some (.string a0_1) := (blk_cell BK294.out 1).trans rfl
      have hcz16_2 : wc.cell? ⟨gb294, 2, none⟩ = some (.int .i64 a0_2) := (blk_cell BK294.out 2).trans rfl
      have hcz16_3 : wc.cell? ⟨gb294, 3, none⟩ = some (.int .i64 a0_3) := (blk_cell BK294.out 3).trans rfl
      have hcz16_4 : wc.cell? ⟨gb294, 4, none⟩ = some (.int .i64 a0_4) := (blk_cell BK294.out 4).trans rfl
      have hcz16_5 : wc.cell? ⟨gb294, 5, none⟩ = some (.int .u8 a0_5) := (blk_cell BK294.out 5).trans rfl
      have hcz16_6 : wc.cell? ⟨gb294, 6, none⟩ = some (.string a0_6) := (blk_cell BK294.out 6).trans rfl
      have hfz16_0 := blk_frozen BK294.out 0
      have hfz16_1 := blk_frozen BK294.out 1
      have hfz16_2 := blk_frozen BK294.out 2
      have hfz16_3 := blk_frozen BK294.out 3
      have hfz16_4 := blk_frozen BK294.out 4
      have hfz16_5 := blk_frozen BK294.out 5
      have hfz16_6 := blk_frozen BK294.out 6
      go_wp2
      go_meet
      case rel => exact ⟨_, (true), (by first | rfl | (simp; done) | (simp [*]; done)), H', ⟨by have := HJ1.out; first | omega | exact Nat.le_refl _⟩, ⟨by (with_reducible repeat (first | refine blk_drewN ?_ _ | refine blk_drew ?_ | refine blk_alloc ?_ _)); exact BK294.out⟩, ⟨by repeat (first | (with_reducible first | exact HB.out | apply below_alloc | apply pw_below_drewN | apply below_drew1 | refine below_set ?_ GE294.out) | exact HB.out)⟩⟩
     ·rw [if_neg c15] at H
      have c15b0 : decide (100 < (a0_0.size : Int)) = false := decide_eq_false c15
      have c15b1 : decide (100 < a0_0.size) = false := decide_eq_false (by omega)
      clear c15
      (first | rw [c15b0] | (simp only [i64_w, i32_w]; rw [c15b0]) | skip)
      by_cases c17 : (a0_6.size : Int) > 100
      ·rw [if_pos c17] at H
       have c17b0 : decide (100 < (a0_6.size : Int)) = true := decide_eq_true c17
       have c17b1 : decide (100 < a0_6.size) = true := decide_eq_true (by omega)
       clear c17
       have H' := Aside0.mk H
       clear H
       have hcz18_0 : wc.cell? ⟨gb294, 0, none⟩ = some (.string a0_0) := (blk_cell BK294.out 0).trans rfl
       have hcz18_1 : wc.cell? ⟨gb294, 1, none⟩ = some (.string a0_1) := (blk_cell BK294.out 1).trans rfl
       have hcz18_2 : wc.cell? ⟨gb294, 2, none⟩ = some (.int .i64 a0_2) := (blk_cell BK294.out 2).trans rfl
       have hcz18_3 : wc.cell? ⟨gb294, 3, none⟩ = some (.int .i64 a0_3) := (blk_cell BK294.out 3).trans rfl
       have hcz18_4 : wc.cell? ⟨gb294, 4, none⟩ = some (.int .i64 a0_4) := (blk_cell BK294.out 4).trans rfl
       have hcz18_5 : wc.cell? ⟨gb294, 5, none⟩ = some (.int .u8 a0_5) := (blk_cell BK294.out 5).trans rfl
       have hcz18_6 : wc.cell? ⟨gb294, 6, none⟩ = some (.string a0_6) := (blk_cell BK294.out 6).trans rfl
       have hfz18_0 := blk_frozen BK294.out 0
       have hfz18_1 := blk_frozen BK294.out 1
       have hfz18_2 := blk_frozen BK294.out 2
       have hfz18_3 := blk_frozen BK294.out 3
       have hfz18_4 := blk_frozen BK294.out 4
       have hfz18_5 := blk_frozen BK294.out 5
       have hfz18_6 := blk_frozen BK294.out 6
       go_wp2
       go_meet
       case rel => exact ⟨_, (true), (by first | rfl | (simp; done) | (simp [*]; done)), H', ⟨by have := HJ1.out; first | omega | exact Nat.le_refl _⟩, ⟨by (with_reducible repeat (first | refine blk_drewN ?_ _ | refine blk_drew ?_ | refine blk_alloc ?_ _)); exact BK294.out⟩, ⟨by repeat (first | (with_reducible first | exact HB.out | apply below_alloc | apply pw_below_drewN | apply below_drew1 | refine below_set ?_ GE294.out) | exact HB.out)⟩⟩
      ·rw [if_neg c17] at H
       have c17b0 : decide (100 < (a0_6.size : Int)) = false := decide_eq_false c17
       have c17b1 : decide (100 < a0_6.size) = false := decide_eq_false (by omega)
       clear c17
       have H' := Aside0.mk H
       clear H
       have hcz19_0 : wc.cell? ⟨gb294, 0, none⟩ = some (.string a0_0) := (blk_cell BK294.out 0).trans rfl
       have hcz19_1 : wc.cell? ⟨gb294, 1, none⟩ = some (.string a0_1) := (blk_cell BK294.out 1).trans rfl
       have hcz19_2 : wc.cell? ⟨gb294, 2, none⟩ = some (.int .i64 a0_2) := (blk_cell BK294.out 2).trans rfl
       have hcz19_3 : wc.cell? ⟨gb294, 3, none⟩ = some (.int .i64 a0_3) := (blk_cell BK294.out 3).trans rfl
       have hcz19_4 : wc.cell? ⟨gb294, 4, none⟩ = some (.int .i64 a0_4) := (blk_cell BK294.out 4).trans rfl
       have hcz19_5 : wc.cell? ⟨gb294, 5, none⟩ = some (.int .u8 a0_5) := (blk_cell BK294.out 5).trans rfl
       have hcz19_6 : wc.cell? ⟨gb294, 6, none⟩ = some (.string a0_6) := (blk_cell BK294.out 6).trans rfl
       have hfz19_0 := blk_frozen BK294.out 0
       have hfz19_1 := blk_frozen BK294.out 1
       have hfz19_2 := blk_frozen BK294.out 2
       have hfz19_3 := blk_frozen BK294.out 3
       have hfz19_4 := blk_frozen BK294.out 4
       have hfz19_5 := blk_frozen BK294.out 5
       have hfz19_6 := blk_frozen BK294.out 6
       go_wp2
       go_meet
       case rel => exact ⟨_, (decide ((a0_1.size : Int) > 155)), (by first | rfl | (simp; done) | (simp [*]; done)), H', ⟨by have := HJ1.out; first | omega | exact Nat.le_refl _⟩, ⟨by (with_reducible repeat (first | refine blk_drewN ?_ _ | refine blk_drew ?_ | refine blk_alloc ?_ _)); exact BK294.out⟩, ⟨by repeat (first | (with_reducible first | exact HB.out | apply below_alloc | apply pw_below_drewN | apply below_drew1 | refine below_set ?_ GE294.out) | exact HB.out)⟩⟩
    case rest =>
     clear HC14
     try clear c1
     try clear p2
     try clear c4
     try clear c4b0
     try clear c4b1
     try clear c6
     try clear c6b0
     try clear c6b1
     try clear c8
     try clear c8b0
     try clear c8b1
     try clear c10
     try clear c10b0
     try clear c10b1
     try clear c13
     try clear c15
     try clear c15b0
     try clear c15b1
     try clear c17
     try clear c17b0
     try clear c17b1
     try clear hcz11_0
     try clear hcz11_1
     try clear hcz11_2
     try clear hcz11_3
     try clear hcz11_4
     try clear hcz11_5
     try clear hcz11_6
     try clear hcz12_0
     try clear hcz12_1
     try clear hcz12_2
     try clear hcz12_3
     try clear hcz12_4
     try clear hcz12_5
     try clear hcz12_6
     try clear hcz16_0
     try clear hcz16_1
     try clear hcz16_2
     try clear hcz16_3
     try clear hcz16_4
     try clear hcz16_5
     try clear hcz16_6
     try clear hcz18_0
     try clear hcz18_1
     try clear hcz18_2
     try clear hcz18_3
     try clear hcz18_4
     try clear hcz18_5
     try clear hcz18_6
     try clear hcz19_0
     try clear hcz19_1
     try clear hcz19_2
     try clear hcz19_3
     try clear hcz19_4
     try clear hcz19_5
     try clear hcz19_6
     try clear hcz5_0
     try clear hcz5_1
     try clear hcz5_2
     try clear hcz5_3
     try clear hcz5_4
     try clear hcz5_5
     try clear hcz5_6
     try clear hcz7_0
     try clear hcz7_1
     try clear hcz7_2
     try clear hcz7_3
     try clear hcz7_4
     try clear hcz7_5
     try clear hcz7_6
     try clear hcz9_0
     try clear hcz9_1
     try clear hcz9_2
     try clear hcz9_3
     try clear hcz9_4
     try clear hcz9_5
     try clear hcz9_6
     try clear hfz11_0
     try clear hfz11_1
     try clear hfz11_2
     try clear hfz11_3
     try clear hfz11_4
     try clear hfz11_5
     try clear hfz11_6
     try clear hfz12_0
     try clear hfz12_1
     try clear hfz12_2
     try clear hfz12_3
     try clear hfz12_4
     try clear hfz12_5
     try clear hfz12_6
     try clear hfz16_0
     try clear hfz16_1
     try clear hfz16_2
     try clear hfz16_3
     try clear hfz16_4
     try clear hfz16_5
     try clear hfz16_6
     try clear hfz18_0
     try clear hfz18_1
     try clear hfz18_2
     try clear hfz18_3
     try clear hfz18_4
     try clear hfz18_5
     try clear hfz18_6
     try clear hfz19_0
     try clear hfz19_1
     try clear hfz19_2
     try clear hfz19_3
     try clear hfz19_4
     try clear hfz19_5
     try clear hfz19_6
     try clear hfz5_0
     try clear hfz5_1
     try clear hfz5_2
     try clear hfz5_3
     try clear hfz5_4
     try clear hfz5_5
     try clear hfz5_6
     try clear hfz7_0
     try clear hfz7_1
     try clear hfz7_2
     try clear hfz7_3
     try clear hfz7_4
     try clear hfz7_5
     try clear hfz7_6
     try clear hfz9_0
     try clear hfz9_1
     try clear hfz9_2
     try clear hfz9_3
     try clear hfz9_4
     try clear hfz9_5
     try clear hfz9_6
     try clear p2
     obtain ⟨kq, x41_13, rfl, HA, HJ13, BK294, HB⟩ := hcut
     cases kq with
     | zero => exact absurd HA.out (by simp [tabularyref10_May.j1])
     | succ kj13 =>
      have H := HA.out
      clear HA
      simp only [tabularyref10_May.j1] at H
      by_cases c20 : x41_13 = true
      ·subst c20
       have H1 : (some 2) = some r := by rw [if_pos rfl] at H; exact H
       clear H
       have H := H1
       clear H1
       obtain rfl := Option.some.inj H
       go_wp2
       go_ret
       exact ⟨er_, by repeat (first | (with_reducible first | exact HB.out | apply below_alloc | apply pw_below_drewN | apply below_drew1 | refine below_set ?_ GE294.out) | exact HB.out)⟩
      ·replace c20 := Bool.eq_false_iff.mpr c20
       subst c20
       have H1 : ((tabularyref10_nul.f kj13 a0_0).bind fun t295 => (if t295 = true then (tabularyref10_May.j2 kj13 true a0_0 a0_1 a0_2 a0_3 a0_4 a0_5 a0_6) else ((tabularyref10_nul.f kj13 a0_6).bind fun t296 => (if t296 = true then (tabularyref10_May.j2 kj13 true a0_0 a0_1 a0_2 a0_3 a0_4 a0_5 a0_6) else ((tabularyref10_nul.f kj13 a0_1).bind fun t297 => (tabularyref10_May.j2 kj13 t297 a0_0 a0_1 a0_2 a0_3 a0_4 a0_5 a0_6)))))) = some r := by rw [if_neg (show ¬ (false = true) by decide)] at H; exact H
       clear H
       have H := H1
       clear H1
       have HC21 := Aside0.mk H
       clear H
       go_upto_region 5 with (fail)
       go_cut [54] (fun v54 wc => ∃ (kq : Nat) (x54_20 : Bool), v54 = .bool x54_20 ∧ Aside0 (tabularyref10_May.j2 kq x54_20 a0_0 a0_1 a0_2 a0_3 a0_4 a0_5 a0_6 = some r) ∧ Aside0 (kq ≤ kj13) ∧ Aside0 (wc.heap[gb294]? = some (.cells #[.string a0_0, .string a0_1, .int .i64 a0_2, .int .i64 a0_3, .int .i64 a0_4, .int .u8 a0_5, .string a0_6] 68 (0, 0))) ∧ Aside0 (Below w.heap.size w wc))
       case first =>
        have H := HC21.out
        clear HC21
        replace H := Option.bind_eq_some_iff.mp H
        obtain ⟨t295, A220, H⟩ := H
        replace H : (if t295 = true then (tabularyref10_May.j2 kj13 true a0_0 a0_1 a0_2 a0_3 a0_4 a0_5 a0_6) else ((tabularyref10_nul.f kj13 a0_6).bind fun t296 => (if t296 = true then (tabularyref10_May.j2 kj13 true a0_0 a0_1 a0_2 a0_3 a0_4 a0_5 a0_6) else ((tabularyref10_nul.f kj13 a0_1).bind fun t297 => (tabularyref10_May.j2 kj13 t297 a0_0 a0_1 a0_2 a0_3 a0_4 a0_5 a0_6))))) = some r := H
        have A22 := Aside0.mk A220
        clear A220
        by_cases c23 : t295 = true
        ·subst c23
         have H1 : (tabularyref10_May.j2 kj13 true a0_0 a0_1 a0_2 a0_3 a0_4 a0_5 a0_6) = some r := by rw [if_pos rfl] at H; exact H
         clear H
         have H := H1
         clear H1
         have H' := Aside0.mk H
         clear H
         have hcz24_0 : wc.cell? ⟨gb294, 0, none⟩ = some (.string a0_0) := (blk_cell BK294.out 0).trans rfl
         have hcz24_1 : wc.cell? ⟨gb294, 1, none⟩ = some (.string a0_1) := (blk_cell BK294.out 1).trans rfl
         have hcz24_2 : wc.cell? ⟨gb294, 2, none⟩ = some (.int .i64 a0_2) := (blk_cell BK294.out 2).trans rfl
         have hcz24_3 : wc.cell? ⟨gb294, 3, none⟩ = some (.int .i64 a0_3) := (blk_cell BK294.out 3).trans rfl
         have hcz24_4 : wc.cell? ⟨gb294, 4, none⟩ = some (.int .i64 a0_4) := (blk_cell BK294.out 4).trans rfl
         have hcz24_5 : wc.cell? ⟨gb294, 5, none⟩ = some (.int .u8 a0_5) := (blk_cell BK294.out 5).trans rfl
         have hcz24_6 : wc.cell? ⟨gb294, 6, none⟩ = some (.string a0_6) := (blk_cell BK294.out 6).trans rfl
         have hfz24_0 := blk_frozen BK294.out 0
         have hfz24_1 := blk_frozen BK294.out 1
         have hfz24_2 := blk_frozen BK294.out 2
         have hfz24_3 := blk_frozen BK294.out 3
         have hfz24_4 := blk_frozen BK294.out 4
         have hfz24_5 := blk_frozen BK294.out 5
         have hfz24_6 := blk_frozen BK294.out 6
         go_wp2_with (first | ((with_reducible refine gate_callee (f := 105) rfl ?_); refine goesL_ (some 44) rfl rfl Tryz.func105 (by kernel_rfl) rfl #[.string a0_0] rfl (by (try simp only [List.map_toArray, List.map_cons, List.map_nil]); first | done | rfl | (simp only [List.length_drop, List.length_take]; rfl)) ?_; (with_reducible refine (tabularyref10_nul.calls kj13 a0_0 true _ A22.out).mono ?_); rintro e w' ⟨rfl, ⟨nd, rfl⟩⟩; refine ⟨_, rfl, ?_⟩))
         go_meet
         case rel => exact ⟨_, (true), (by first | rfl | (simp; done) | (simp [*]; done)), H', ⟨by have := HJ1.out; have := HJ13.out; first | omega | exact Nat.le_refl _⟩, ⟨by (with_reducible repeat (first | refine blk_drewN ?_ _ | refine blk_drew ?_ | refine blk_alloc ?_ _)); exact BK294.out⟩, ⟨by repeat (first | (with_reducible first | exact HB.out | apply below_alloc | apply pw_below_drewN | apply below_drew1 | refine below_set ?_ GE294.out) | exact HB.out)⟩⟩
        ·replace c23 := Bool.eq_false_iff.mpr c23
         subst c23
         have H1 : ((tabularyref10_nul.f kj13 a0_6).bind fun t296 => (if t296 = true then (tabularyref10_May.j2 kj13 true a0_0 a0_1 a0_2 a0_3 a0_4 a0_5 a0_6) else ((tabularyref10_nul.f kj13 a0_1).bind fun t297 => (tabularyref10_May.j2 kj13 t297 a0_0 a0_1 a0_2 a0_3 a0_4 a0_5 a0_6)))) = some r := by rw [if_neg (show ¬ (false = true) by decide)] at H; exact H
         clear H
         have H := H1
         clear H1
         replace H := Option.bind_eq_some_iff.mp H
         obtain ⟨t296, A250, H⟩ := H
         replace H : (if t296 = true then (tabularyref10_May.j2 kj13 true a0_0 a0_1 a0_2 a0_3 a0_4 a0_5 a0_6) else ((tabularyref10_nul.f kj13 a0_1).bind fun t297 => (tabularyref10_May.j2 kj13 t297 a0_0 a0_1 a0_2 a0_3 a0_4 a0_5 a0_6))) = some r := H
         have A25 := Aside0.mk A250
         clear A250
         by_cases c26 : t296 = true
         ·subst c26
          have H1 : (tabularyref10_May.j2 kj13 true a0_0 a0_1 a0_2 a0_3 a0_4 a0_5 a0_6) = some r := by rw [if_pos rfl] at H; exact H
          clear H
          have H := H1
          clear H1
          have H' := Aside0.mk H
          clear H
          have hcz27_0 : wc.cell? ⟨gb294, 0, none⟩ = some (.string a0_0) := (blk_cell BK294.out 0).trans rfl
          have hcz27_1 : wc.cell? ⟨gb294, 1, none⟩ = some (.string a0_1) := (blk_cell BK294.out 1).trans rfl
          have hcz27_2 : wc.cell? ⟨gb294, 2, none⟩ = some (.int .i64 a0_2) := (blk_cell BK294.out 2).trans rfl
          have hcz27_3 : wc.cell? ⟨gb294, 3, none⟩ = some (.int .i64 a0_3) := (blk_cell BK294.out 3).trans rfl
          have hcz27_4 : wc.cell? ⟨gb294, 4, none⟩ = some (.int .i64 a0_4) := (blk_cell BK294.out 4).trans rfl
          have hcz27_5 : wc.cell? ⟨gb294, 5, none⟩ = some (.int .u8 a0_5) := (blk_cell BK294.out 5).trans rfl
          have hcz27_6 : wc.cell? ⟨gb294, 6, none⟩ = some (.string a0_6) := (blk_cell BK294.out 6).trans rfl
          have hfz27_0 := blk_frozen BK294.out 0
          have hfz27_1 := blk_frozen BK294.out 1
          have hfz27_2 := blk_frozen BK294.out 2
          have hfz27_3 := blk_frozen BK294.out 3
          have hfz27_4 := blk_frozen BK294.out 4
          have hfz27_5 := blk_frozen BK294.out 5
          have hfz27_6 := blk_frozen BK294.out 6
          go_wp2_with (first | ((with_reducible refine gate_callee (f := 105) rfl ?_); refine goesL_ (some 44) rfl rfl Tryz.func105 (by kernel_rfl) rfl #[.string a0_0] rfl (by (try simp only [List.map_toArray, List.map_cons, List.map_nil]); first | done | rfl | (simp only [List.length_drop, List.length_take]; rfl)) ?_; (with_reducible refine (tabularyref10_nul.calls kj13 a0_0 false _ A22.out).mono ?_); rintro e w' ⟨rfl, ⟨nd, rfl⟩⟩; refine ⟨_, rfl, ?_⟩) | (go_at_call 105; (with_reducible refine (tabularyref10_nul.calls kj13 a0_6 true _ A25.out).mono ?_); rintro e w' ⟨rfl, ⟨nd, rfl⟩⟩))
          go_meet
          case rel => exact ⟨_, (true), (by first | rfl | (simp; done) | (simp [*]; done)), H', ⟨by have := HJ1.out; have := HJ13.out; first | omega | exact Nat.le_refl _⟩, ⟨by (with_reducible repeat (first | refine blk_drewN ?_ _ | refine blk_drew ?_ | refine blk_alloc ?_ _)); exact BK294.out⟩, ⟨by repeat (first | (with_reducible first | exact HB.out | apply below_alloc | apply pw_below_drewN | apply below_drew1 | refine below_set ?_ GE294.out) | exact HB.out)⟩⟩
         ·replace c26 := Bool.eq_false_iff.mpr c26
          subst c26
          have H1 : ((tabularyref10_nul.f kj13 a0_1).bind fun t297 => (tabularyref10_May.j2 kj13 t297 a0_0 a0_1 a0_2 a0_3 a0_4 a0_5 a0_6)) = some r := by rw [if_neg (show ¬ (false = true) by decide)] at H; exact H
          clear H
          have H := H1
          clear H1
          replace H := Option.bind_eq_some_iff.mp H
          obtain ⟨t297, A280, H⟩ := H
          replace H : (tabularyref10_May.j2 kj13 t297 a0_0 a0_1 a0_2 a0_3 a0_4 a0_5 a0_6) = some r := H
          have A28 := Aside0.mk A280
          clear A280
          have H' := Aside0.mk H
          clear H
          have hcz29_0 : wc.cell? ⟨gb294, 0, none⟩ = some (.string a0_0) := (blk_cell BK294.out 0).trans rfl
          have hcz29_1 : wc.cell? ⟨gb294, 1, none⟩ = some (.string a0_1) := (blk_cell BK294.out 1).trans rfl
          have hcz29_2 : wc.cell? ⟨gb294, 2, none⟩ = some (.int .i64 a0_2) := (blk_cell BK294.out 2).trans rfl
          have hcz29_3 : wc.cell? ⟨gb294, 3, none⟩ = some (.int .i64 a0_3) := (blk_cell BK294.out 3).trans rfl
          have hcz29_4 : wc.cell? ⟨gb294, 4, none⟩ = some (.int .i64 a0_4) := (blk_cell BK294.out 4).trans rfl
          have hcz29_5 : wc.cell? ⟨gb294, 5, none⟩ = some (.int .u8 a0_5) := (blk_cell BK294.out 5).trans rfl
          have hcz29_6 : wc.cell? ⟨gb294, 6, none⟩ = some (.string a0_6) := (blk_cell BK294.out 6).trans rfl
          have hfz29_0 := blk_frozen BK294.out 0
          have hfz29_1 := blk_frozen BK294.out 1
          have hfz29_2 := blk_frozen BK294.out 2
          have hfz29_3 := blk_frozen BK294.out 3
          have hfz29_4 := blk_frozen BK294.out 4
          have hfz29_5 := blk_frozen BK294.out 5
          have hfz29_6 := blk_frozen BK294.out 6
          go_wp2_with (first | ((with_reducible refine gate_callee (f := 105) rfl ?_); refine goesL_ (some 44) rfl rfl Tryz.func105 (by kernel_rfl) rfl #[.string a0_0] rfl (by (try simp only [List.map_toArray, List.map_cons, List.map_nil]); first | done | rfl | (simp only [List.length_drop, List.length_take]; rfl)) ?_; (with_reducible refine (tabularyref10_nul.calls kj13 a0_0 false _ A22.out).mono ?_); rintro e w' ⟨rfl, ⟨nd, rfl⟩⟩; refine ⟨_, rfl, ?_⟩) | (go_at_call 105; (with_reducible refine (tabularyref10_nul.calls kj13 a0_6 false _ A25.out).mono ?_); rintro e w' ⟨rfl, ⟨nd, rfl⟩⟩) | (go_at_call 105; (with_reducible refine (tabularyref10_nul.calls kj13 a0_1 t297 _ A28.out).mono ?_); rintro e w' ⟨rfl, ⟨nd, rfl⟩⟩))
          go_meet
          case rel => exact ⟨_, (t297), (by first | rfl | (simp; done) | (simp [*]; done)), H', ⟨by have := HJ1.out; have := HJ13.out; first | omega | exact Nat.le_refl _⟩, ⟨by (with_reducible repeat (first | refine blk_drewN ?_ _ | refine blk_drew ?_ | refine blk_alloc ?_ _)); exact BK294.out⟩, ⟨by repeat (first | (with_reducible first | exact HB.out | apply below_alloc | apply pw_below_drewN | apply below_drew1 | refine below_set ?_ GE294.out) | exact HB.out)⟩⟩
       case rest =>
        clear HC21
        try clear c1
        try clear c2
        try clear p2
        try clear c4
        try clear c4b0
        try clear c4b1
        try clear c6
        try clear c6b0
        try clear c6b1
        try clear c8
        try clear c8b0
        try clear c8b1
        try clear c10
        try clear c10b0
        try clear c10b1
        try clear c13
        try clear c15
        try clear c15b0
        try clear c15b1
        try clear c17
        try clear c17b0
        try clear c17b1
        try clear c20
        try clear c23
        try clear c26
        try clear hcz11_0
        try clear hcz11_1
        try clear hcz11_2
        try clear hcz11_3
        try clear hcz11_4
        try clear hcz11_5
        try clear hcz11_6
        try clear hcz12_0
        try clear hcz12_1
        try clear hcz12_2
        try clear hcz12_3
        try clear hcz12_4
        try clear hcz12_5
        try clear hcz12_6
        try clear hcz16_0
        try clear hcz16_1
        try clear hcz16_2
        try clear hcz16_3
        try clear hcz16_4
        try clear hcz16_5
        try clear hcz16_6
        try clear hcz18_0
        try clear hcz18_1
        try clear hcz18_2
        try clear hcz18_3
        try clear hcz18_4
        try clear hcz18_5
        try clear hcz18_6
        try clear hcz19_0
        try clear hcz19_1
        try clear hcz19_2
        try clear hcz19_3
        try clear hcz19_4
        try clear hcz19_5
        try clear hcz19_6
        try clear hcz24_0
        try clear hcz24_1
        try clear hcz24_2
        try clear hcz24_3
        try clear hcz24_4
        try clear hcz24_5
        try clear hcz24_6
        try clear hcz27_0
        try clear hcz27_1
        try clear hcz27_2
        try clear hcz27_3
        try clear hcz27_4
        try clear hcz27_5
        try clear hcz27_6
        try clear hcz29_0
        try clear hcz29_1
        try clear hcz29_2
        try clear hcz29_3
        try clear hcz29_4
        try clear hcz29_5
        try clear hcz29_6
        try clear hcz5_0
        try clear hcz5_1
        try clear hcz5_2
        try clear hcz5_3
        try clear hcz5_4
        try clear hcz5_5
        try clear hcz5_6
        try clear hcz7_0
        try clear hcz7_1
        try clear hcz7_2
        try clear hcz7_3
        try clear hcz7_4
        try clear hcz7_5
        try clear hcz7_6
        try clear hcz9_0
        try clear hcz9_1
        try clear hcz9_2
        try clear hcz9_3
        try clear hcz9_4
        try clear hcz9_5
        try clear hcz9_6
        try clear hfz11_0
        try clear hfz11_1
        try clear hfz11_2
        try clear hfz11_3
        try clear hfz11_4
        try clear hfz11_5
        try clear hfz11_6
        try clear hfz12_0
        try clear hfz12_1
        try clear hfz12_2
        try clear hfz12_3
        try clear hfz12_4
        try clear hfz12_5
        try clear hfz12_6
        try clear hfz16_0
        try clear hfz16_1
        try clear hfz16_2
        try clear hfz16_3
        try clear hfz16_4
        try clear hfz16_5
        try clear hfz16_6
        try clear hfz18_0
        try clear hfz18_1
        try clear hfz18_2
        try clear hfz18_3
        try clear hfz18_4
        try clear hfz18_5
        try clear hfz18_6
        try clear hfz19_0
        try clear hfz19_1
        try clear hfz19_2
        try clear hfz19_3
        try clear hfz19_4
        try clear hfz19_5
        try clear hfz19_6
        try clear hfz24_0
        try clear hfz24_1
        try clear hfz24_2
        try clear hfz24_3
        try clear hfz24_4
        try clear hfz24_5
        try clear hfz24_6
        try clear hfz27_0
        try clear hfz27_1
        try clear hfz27_2
        try clear hfz27_3
        try clear hfz27_4
        try clear hfz27_5
        try clear hfz27_6
        try clear hfz29_0
        try clear hfz29_1
        try clear hfz29_2
        try clear hfz29_3
        try clear hfz29_4
        try clear hfz29_5
        try clear hfz29_6
        try clear hfz5_0
        try clear hfz5_1
        try clear hfz5_2
        try clear hfz5_3
        try clear hfz5_4
        try clear hfz5_5
        try clear hfz5_6
        try clear hfz7_0
        try clear hfz7_1
        try clear hfz7_2
        try clear hfz7_3
        try clear hfz7_4
        try clear hfz7_5
        try clear hfz7_6
        try clear hfz9_0
        try clear hfz9_1
        try clear hfz9_2
        try clear hfz9_3
        try clear hfz9_4
        try clear hfz9_5
        try clear hfz9_6
        try clear p2
        obtain ⟨kq, x54_20, rfl, HA, HJ20, BK294, HB⟩ := hcut
        cases kq with
        | zero => exact absurd HA.out (by simp [tabularyref10_May.j2])
        | succ kj20 =>
         have H := HA.out
         clear HA
         simp only [tabularyref10_May.j2] at H
         by_cases c30 : x54_20 = true
         ·subst c30
          have H1 : (some 82) = some r := by rw [if_pos rfl] at H; exact H
          clear H
          have H := H1
          clear H1
          obtain rfl := Option.some.inj H
          go_wp2
          go_ret
          exact ⟨er_, by repeat (first | (with_reducible first | exact HB.out | apply below_alloc | apply pw_below_drewN | apply below_drew1 | refine below_set ?_ GE294.out) | exact HB.out)⟩
         ·replace c30 := Bool.eq_false_iff.mpr c30
          subst c30
          have H1 : (if a0_2 < 0 then (some 1) else (if a0_2 > 4095 then (some 1) else (if a0_3 < 0 then (some 1) else (if a0_3 > 8589934591 then (some 1) else (if a0_4 < 0 then (some 1) else (if a0_4 > 1099511627776 then (some 1) else (some 0))))))) = some r := by rw [if_neg (show ¬ (false = true) by decide)] at H; exact H
          clear H
          have H := H1
          clear H1
          by_cases c31 : a0_2 < 0
          ·rw [if_pos c31] at H
           have c31b0 : decide (a0_2 < 0) = true := decide_eq_true c31
           clear c31
           obtain rfl := Option.some.inj H
           have hcz32_0 : wc.cell? ⟨gb294, 0, none⟩ = some (.string a0_0) := (blk_cell BK294.out 0).trans rfl
           have hcz32_1 : wc.cell? ⟨gb294, 1, none⟩ = some (.string a0_1) := (blk_cell BK294.out 1).trans rfl
           have hcz32_2 : wc.cell? ⟨gb294, 2, none⟩ = some (.int .i64 a0_2) := (blk_cell BK294.out 2).trans rfl
           have hcz32_3 : wc.cell? ⟨gb294, 3, none⟩ = some (.int .i64 a0_3) := (blk_cell BK294.out 3).trans rfl
           have hcz32_4 : wc.cell? ⟨gb294, 4, none⟩ = some (.int .i64 a0_4) := (blk_cell BK294.out 4).trans rfl
           have hcz32_5 : wc.cell? ⟨gb294, 5, none⟩ = some (.int .u8 a0_5) := (blk_cell BK294.out 5).trans rfl
           have hcz32_6 : wc.cell? ⟨gb294, 6, none⟩ = some (.string a0_6) := (blk_cell BK294.out 6).trans rfl
           have hfz32_0 := blk_frozen BK294.out 0
           have hfz32_1 := blk_frozen BK294.out 1
           have hfz32_2 := blk_frozen BK294.out 2
           have hfz32_3 := blk_frozen BK294.out 3
           have hfz32_4 := blk_frozen BK294.out 4
           have hfz32_5 := blk_frozen BK294.out 5
           have hfz32_6 := blk_frozen BK294.out 6
           go_wp2
           go_ret
           exact ⟨er_, by repeat (first | (with_reducible first | exact HB.out | apply below_alloc | apply pw_below_drewN | apply below_drew1 | refine below_set ?_ GE294.out) | exact HB.out)⟩
          ·rw [if_neg c31] at H
           have c31b0 : decide (a0_2 < 0) = false := decide_eq_false c31
           clear c31
           by_cases c33 : a0_2 > 4095
           ·rw [if_pos c33] at H
            have c33b0 : decide (4095 < a0_2) = true := decide_eq_true c33
            clear c33
            obtain rfl := Option.some.inj H
            have hcz34_0 : wc.cell? ⟨gb294, 0, none⟩ = some (.string a0_0) := (blk_cell BK294.out 0).trans rfl
            have hcz34_1 : wc.cell? ⟨gb294, 1, none⟩ = some (.string a0_1) := (blk_cell BK294.out 1).trans rfl
            have hcz34_2 : wc.cell? ⟨gb294, 2, none⟩ = some (.int .i64 a0_2) := (blk_cell BK294.out 2).trans rfl
            have hcz34_3 : wc.cell? ⟨gb294, 3, none⟩ = some (.int .i64 a0_3) := (blk_cell BK294.out 3).trans rfl
            have hcz34_4 : wc.cell? ⟨gb294, 4, none⟩ = some (.int .i64 a0_4) := (blk_cell BK294.out 4).trans rfl
            have hcz34_5 : wc.cell? ⟨gb294, 5, none⟩ = some (.int .u8 a0_5) := (blk_cell BK294.out 5).trans rfl
            have hcz34_6 : wc.cell? ⟨gb294, 6, none⟩ = some (.string a0_6) := (blk_cell BK294.out 6).trans rfl
            have hfz34_0 := blk_frozen BK294.out 0
            have hfz34_1 := blk_frozen BK294.out 1
            have hfz34_2 := blk_frozen BK294.out 2
            have hfz34_3 := blk_frozen BK294.out 3
            have hfz34_4 := blk_frozen BK294.out 4
            have hfz34_5 := blk_frozen BK294.out 5
            have hfz34_6 := blk_frozen BK294.out 6
            go_wp2
            go_ret
            exact ⟨er_, by repeat (first | (with_reducible first | exact HB.out | apply below_alloc | apply pw_below_drewN | apply below_drew1 | refine below_set ?_ GE294.out) | exact HB.out)⟩
           ·rw [if_neg c33] at H
            have c33b0 : decide (4095 < a0_2) = false := decide_eq_false c33
            clear c33
            by_cases c35 : a0_3 < 0
            ·rw [if_pos c35] at H
             have c35b0 : decide (a0_3 < 0) = true := decide_eq_true c35
             clear c35
             obtain rfl := Option.some.inj H
             have hcz36_0 : wc.cell? ⟨gb294, 0, none⟩ = some (.string a0_0) := (blk_cell BK294.out 0).trans rfl
             have hcz36_1 : wc.cell? ⟨gb294, 1, none⟩ = some (.string a0_1) := (blk_cell BK294.out 1).trans rfl
             have hcz36_2 : wc.cell? ⟨gb294, 2, none⟩ = some (.int .i64 a0_2) := (blk_cell BK294.out 2).trans rfl
             have hcz36_3 : wc.cell? ⟨gb294, 3, none⟩ = some (.int .i64 a0_3) := (blk_cell BK294.out 3).trans rfl
             have hcz36_4 : wc.cell? ⟨gb294, 4, none⟩ = some (.int .i64 a0_4) := (blk_cell BK294.out 4).trans rfl
             have hcz36_5 : wc.cell? ⟨gb294, 5, none⟩ = some (.int .u8 a0_5) := (blk_cell BK294.out 5).trans rfl
             have hcz36_6 : wc.cell? ⟨gb294, 6, none⟩ = some (.string a0_6) := (blk_cell BK294.out 6).trans rfl
             have hfz36_0 := blk_frozen BK294.out 0
             have hfz36_1 := blk_frozen BK294.out 1
             have hfz36_2 := blk_frozen BK294.out 2
             have hfz36_3 := blk_frozen BK294.out 3
             have hfz36_4 := blk_frozen BK294.out 4
             have hfz36_5 := blk_frozen BK294.out 5
             have hfz36_6 := blk_frozen BK294.out 6
             go_wp2
             go_ret
             exact ⟨er_, by repeat (first | (with_reducible first | exact HB.out | apply below_alloc | apply pw_below_drewN | apply below_drew1 | refine below_set ?_ GE294.out) | exact HB.out)⟩
            ·rw [if_neg c35] at H
             have c35b0 : decide (a0_3 < 0) = false := decide_eq_false c35
             clear c35
             by_cases c37 : a0_3 > 8589934591
             ·rw [if_pos c37] at H
              have c37b0 : decide (8589934591 < a0_3) = true := decide_eq_true c37
              clear c37
              obtain rfl := Option.some.inj H
              have hcz38_0 : wc.cell? ⟨gb294, 0, none⟩ = some (.string a0_0) := (blk_cell BK294.out 0).trans rfl
              have hcz38_1 : wc.cell? ⟨gb294, 1, none⟩ = some (.string a0_1) := (blk_cell BK294.out 1).trans rfl
              have hcz38_2 : wc.cell? ⟨gb294, 2, none⟩ = some (.int .i64 a0_2) := (blk_cell BK294.out 2).trans rfl
              have hcz38_3 : wc.cell? ⟨gb294, 3, none⟩ = some (.int .i64 a0_3) := (blk_cell BK294.out 3).trans rfl
              have hcz38_4 : wc.cell? ⟨gb294, 4, none⟩ = some (.int .i64 a0_4) := (blk_cell BK294.out 4).trans rfl
              have hcz38_5 : wc.cell? ⟨gb294, 5, none⟩ = some (.int .u8 a0_5) := (blk_cell BK294.out 5).trans rfl
              have hcz38_6 : wc.cell? ⟨gb294, 6, none⟩ = some (.string a0_6) := (blk_cell BK294.out 6).trans rfl
              have hfz38_0 := blk_frozen BK294.out 0
              have hfz38_1 := blk_frozen BK294.out 1
              have hfz38_2 := blk_frozen BK294.out 2
              have hfz38_3 := blk_frozen BK294.out 3
              have hfz38_4 := blk_frozen BK294.out 4
              have hfz38_5 := blk_frozen BK294.out 5
              have hfz38_6 := blk_frozen BK294.out 6
              go_wp2
              go_ret
              exact ⟨er_, by repeat (first | (with_reducible first | exact HB.out | apply below_alloc | apply pw_below_drewN | apply below_drew1 | refine below_set ?_ GE294.out) | exact HB.out)⟩
             ·rw [if_neg c37] at H
              have c37b0 : decide (8589934591 < a0_3) = false := decide_eq_false c37
              clear c37
              by_cases c39 : a0_4 < 0
              ·rw [if_pos c39] at H
               have c39b0 : decide (a0_4 < 0) = true := decide_eq_true c39
               clear c39
               obtain rfl := Option.some.inj H
               have hcz40_0 : wc.cell? ⟨gb294, 0, none⟩ = some (.string a0_0) := (blk_cell BK294.out 0).trans rfl
               have hcz40_1 : wc.cell? ⟨gb294, 1, none⟩ = some (.string a0_1) := (blk_cell BK294.out 1).trans rfl
               have hcz40_2 : wc.cell? ⟨gb294, 2, none⟩ = some (.int .i64 a0_2) := (blk_cell BK294.out 2).trans rfl
               have hcz40_3 : wc.cell? ⟨gb294, 3, none⟩ = some (.int .i64 a0_3) := (blk_cell BK294.out 3).trans rfl
               have hcz40_4 : wc.cell? ⟨gb294, 4, none⟩ = some (.int .i64 a0_4) := (blk_cell BK294.out 4).trans rfl
               have hcz40_5 : wc.cell? ⟨gb294, 5, none⟩ = some (.int .u8 a0_5) := (blk_cell BK294.out 5).trans rfl
               have hcz40_6 : wc.cell? ⟨gb294, 6, none⟩ = some (.string a0_6) := (blk_cell BK294.out 6).trans rfl
               have hfz40_0 := blk_frozen BK294.out 0
               have hfz40_1 := blk_frozen BK294.out 1
               have hfz40_2 := blk_frozen BK294.out 2
               have hfz40_3 := blk_frozen BK294.out 3
               have hfz40_4 := blk_frozen BK294.out 4
               have hfz40_5 := blk_frozen BK294.out 5
               have hfz40_6 := blk_frozen BK294.out 6
               go_wp2
               go_ret
               exact ⟨er_, by repeat (first | (with_reducible first | exact HB.out | apply below_alloc | apply pw_below_drewN | apply below_drew1 | refine below_set ?_ GE294.out) | exact HB.out)⟩
              ·rw [if_neg c39] at H
               have c39b0 : decide (a0_4 < 0) = false := decide_eq_false c39
               clear c39
               by_cases c41 : a0_4 > 1099511627776
               ·rw [if_pos c41] at H
                have c41b0 : decide (1099511627776 < a0_4) = true := decide_eq_true c41
                clear c41
                obtain rfl := Option.some.inj H
                have hcz42_0 : wc.cell? ⟨gb294, 0, none⟩ = some (.string a0_0) := (blk_cell BK294.out 0).trans rfl
                have hcz42_1 : wc.cell? ⟨gb294, 1, none⟩ = some (.string a0_1) := (blk_cell BK294.out 1).trans rfl
                have hcz42_2 : wc.cell? ⟨gb294, 2, none⟩ = some (.int .i64 a0_2) := (blk_cell BK294.out 2).trans rfl
                have hcz42_3 : wc.cell? ⟨gb294, 3, none⟩ = some (.int .i64 a0_3) := (blk_cell BK294.out 3).trans rfl
                have hcz42_4 : wc.cell? ⟨gb294, 4, none⟩ = some (.int .i64 a0_4) := (blk_cell BK294.out 4).trans rfl
                have hcz42_5 : wc.cell? ⟨gb294, 5, none⟩ = some (.int .u8 a0_5) := (blk_cell BK294.out 5).trans rfl
                have hcz42_6 : wc.cell? ⟨gb294, 6, none⟩ = some (.string a0_6) := (blk_cell BK294.out 6).trans rfl
                have hfz42_0 := blk_frozen BK294.out 0
                have hfz42_1 := blk_frozen BK294.out 1
                have hfz42_2 := blk_frozen BK294.out 2
                have hfz42_3 := blk_frozen BK294.out 3
                have hfz42_4 := blk_frozen BK294.out 4
                have hfz42_5 := blk_frozen BK294.out 5
                have hfz42_6 := blk_frozen BK294.out 6
                go_wp2
                go_ret
                exact ⟨er_, by repeat (first | (with_reducible first | exact HB.out | apply below_alloc | apply pw_below_drewN | apply below_drew1 | refine below_set ?_ GE294.out) | exact HB.out)⟩
               ·rw [if_neg c41] at H
                have c41b0 : decide (1099511627776 < a0_4) = false := decide_eq_false c41
                clear c41
                obtain rfl := Option.some.inj H
                have hcz43_0 : wc.cell? ⟨gb294, 0, none⟩ = some (.string a0_0) := (blk_cell BK294.out 0).trans rfl
                have hcz43_1 : wc.cell? ⟨gb294, 1, none⟩ = some (.string a0_1) := (blk_cell BK294.out 1).trans rfl
                have hcz43_2 : wc.cell? ⟨gb294, 2, none⟩ = some (.int .i64 a0_2) := (blk_cell BK294.out 2).trans rfl
                have hcz43_3 : wc.cell? ⟨gb294, 3, none⟩ = some (.int .i64 a0_3) := (blk_cell BK294.out 3).trans rfl
                have hcz43_4 : wc.cell? ⟨gb294, 4, none⟩ = some (.int .i64 a0_4) := (blk_cell BK294.out 4).trans rfl
                have hcz43_5 : wc.cell? ⟨gb294, 5, none⟩ = some (.int .u8 a0_5) := (blk_cell BK294.out 5).trans rfl
                have hcz43_6 : wc.cell? ⟨gb294, 6, none⟩ = some (.string a0_6) := (blk_cell BK294.out 6).trans rfl
                have hfz43_0 := blk_frozen BK294.out 0
                have hfz43_1 := blk_frozen BK294.out 1
                have hfz43_2 := blk_frozen BK294.out 2
                have hfz43_3 := blk_frozen BK294.out 3
                have hfz43_4 := blk_frozen BK294.out 4
                have hfz43_5 := blk_frozen BK294.out 5
                have hfz43_6 := blk_frozen BK294.out 6
                go_wp2
                go_ret
                exact ⟨er_, by repeat (first | (with_reducible first | exact HB.out | apply below_alloc | apply pw_below_drewN | apply below_drew1 | refine below_set ?_ GE294.out) | exact HB.out)⟩
end Go.Proofs.YtopehfjohifpnaaGreatDoor.Doc
end
