import Derived.Test.YtopehfjohifpnaaGreatDoorZ4
import Derived.Test.YtopehfjohifpnaaGreatDoorZ5
import Derived.Test.YtopehfjohifpnaaGreatDoorZ15
import Derived.Test.YtopehfjohifpnaaGreatDoorZ9
import Derived.Deep.QuietTactic
import Derived.BigQuiet
section
namespace Go.Proofs.YtopehfjohifpnaaGreatDoor.Doc
open Go.RowKit Go.Proofs.YtopehfjohifpnaaGreatDoorW.PrintWords Go.Proofs.YtopehfjohifpnaaGreatDoorW.PrintLast Go.Proofs.YtopehfjohifpnaaGreatDoorW.PrintMore
attribute [local go_sem] max2_int min2_int max_two min_two max_three min_three max_four min_four
set_option linter.unusedVariables false
set_option linter.unusedSimpArgs false
def tabularyref08_Up.f (k : Nat) (a0 : ByteArray) : Option (ByteArray) := (tabularyref08_Pieces.f k a0).bind fun t236 => (if 0 ≤ (wrap64 ((t236.length : Int) - 1)) then (if (wrap64 ((t236.length : Int) - 1)) < (t236.length : Int) then (if ((rd_T137 t236 (wrap64 ((t236.length : Int) - 1))).f0) = 0 then (some (⟨#[]⟩ : ByteArray)) else (if 0 ≤ (wrap64 (((rd_T137 t236 (wrap64 ((t236.length : Int) - 1))).f0) - 1)) then (if (wrap64 (((rd_T137 t236 (wrap64 ((t236.length : Int) - 1))).f0) - 1)) ≤ (a0.size : Int) then (some (a0.extract 0 ((wrap64 (((rd_T137 t236 (wrap64 ((t236.length : Int) - 1))).f0) - 1)) : Int).toNat)) else (none)) else (none))) else (none)) else (none))
theorem tabularyref08_Up.mono : ∀ a0 k, LeO (tabularyref08_Up.f k a0) (tabularyref08_Up.f (k + 1) a0) := by
 intro a0 k
 unfold tabularyref08_Up.f
 repeat' first
   | (with_reducible exact tabularyref08_Pieces.mono _ _)
   | (with_reducible exact LeO.refl _)
   | (with_reducible exact LeO.none _)
   | (with_reducible refine LeO.ite ?_ ?_)
   | (with_reducible refine LeO.bind ?_ (fun _ => ?_))
set_option maxHeartbeats 8000000 in
set_option maxRecDepth 100000 in
theorem tabularyref08_Up.calls (k : Nat) (a0 : ByteArray) (r : ByteArray) (w : World) (h : tabularyref08_Up.f k a0 = some r) :
  Calls Tryz.prog 57 #[.string a0] w fun e w' => e = .returned (.string r) ∧ Below w.heap.size w w' := by
 have HB := Aside0.mk (Below.refl w.heap.size w)
 have H : ((tabularyref08_Pieces.f k a0).bind fun t236 => (if 0 ≤ (wrap64 ((t236.length : Int) - 1)) then (if (wrap64 ((t236.length : Int) - 1)) < (t236.length : Int) then (if ((rd_T137 t236 (wrap64 ((t236.length : Int) - 1))).f0) = 0 then (some (⟨#[]⟩ : ByteArray)) else (if 0 ≤ (wrap64 (((rd_T137 t236 (wrap64 ((t236.length : Int) - 1))).f0) - 1)) then (if (wrap64 (((rd_T137 t236 (wrap64 ((t236.length : Int) - 1))).f0) - 1)) ≤ (a0.size : Int) then (some (a0.extract 0 ((wrap64 (((rd_T137 t236 (wrap64 ((t236.length : Int) - 1))).f0) - 1)) : Int).toNat)) else (none)) else (none))) else (none)) else (none))) = some r := h
 clear h
 replace H := Option.bind_eq_some_iff.mp H
 obtain ⟨t236, A20, H⟩ := H
 replace H : (if 0 ≤ (wrap64 ((t236.length : Int) - 1)) then (if (wrap64 ((t236.length : Int) - 1)) < (t236.length : Int) then (if ((rd_T137 t236 (wrap64 ((t236.length : Int) - 1))).f0) = 0 then (some (⟨#[]⟩ : ByteArray)) else (if 0 ≤ (wrap64 (((rd_T137 t236 (wrap64 ((t236.length : Int) - 1))).f0) - 1)) then (if (wrap64 (((rd_T137 t236 (wrap64 ((t236.length : Int) - 1))).f0) - 1)) ≤ (a0.size : Int) then (some (a0.extract 0 ((wrap64 (((rd_T137 t236 (wrap64 ((t236.length : Int) - 1))).f0) - 1)) : Int).toNat)) else (none)) else (none))) else (none)) else (none)) = some r := H
 have A2 := Aside0.mk A20
 clear A20
 obtain ⟨ji3, hji3⟩ : ∃ j_ : Int, (wrap64 ((t236.length : Int) - 1)) = j_ := ⟨_, rfl⟩
 replace H : (if 0 ≤ (ji3) then (if (ji3) < (t236.length : Int) then (if ((rd_T137 t236 (ji3)).f0) = 0 then (some (⟨#[]⟩ : ByteArray)) else (if 0 ≤ (wrap64 (((rd_T137 t236 (ji3)).f0) - 1)) then (if (wrap64 (((rd_T137 t236 (ji3)).f0) - 1)) ≤ (a0.size : Int) then (some (a0.extract 0 ((wrap64 (((rd_T137 t236 (ji3)).f0) - 1)) : Int).toNat)) else (none)) else (none))) else (none)) else (none)) = some r := by first | (rw [hji3] at H; exact H) | (simp only [hji3] at H ⊢; exact H)
 (try rw [hji3] at A2)
 have hji3w : (IntKind.i64.wrap ((t236.length : Int) - 1)) = ji3 := (i64_w _).trans hji3
 by_cases c4 : 0 ≤ (ji3)
 ·rw [if_pos c4] at H
  have c4b0 : decide (0 ≤ (ji3)) = true := decide_eq_true c4
  clear c4
  by_cases c5 : (ji3) < (t236.length : Int)
  ·rw [if_pos c5] at H
   have c5b0 : decide ((ji3) < (t236.length : Int)) = true := decide_eq_true c5
   clear c5
   by_cases c6 : ((rd_T137 t236 (ji3)).f0) = 0
   ·rw [if_pos c6] at H
    have c6b0 : (((rd_T137 t236 (ji3)).f0) == 0) = true := beq_iff_eq.mpr c6
    have c6b1 : (((rd_T137 t236 (ji3)).f0) != 0) = false := bne_eq_false_iff_eq.mpr c6
    clear c6
    obtain rfl := Option.some.inj H
    go_enter Tryz.func57, Tryz.ntmps57
    go_wp2_with (first | ((with_reducible refine gate_callee (f := 82) rfl ?_); refine goesL_ (some 6) rfl rfl Tryz.func82 (by kernel_rfl) rfl #[.string a0] rfl (by (try simp only [List.map_toArray, List.map_cons, List.map_nil]); first | done | rfl | (simp only [List.length_drop, List.length_take]; rfl)) ?_; (with_reducible refine (tabularyref08_Pieces.calls k a0 t236 _ A2.out).mono ?_); rintro e w7 ⟨v237, rfl, ho0, hb⟩; refine ⟨_, rfl, ?_⟩; have n0_ := Aside0.mk (Kd.R_lower ho0 (below_size (hb_))); have n1_ := Aside0.mk (below_step (hb_) hb); clear HB; have HO238 := n0_; have HB := n1_; clear n0_ n1_; (try clear hb); (try clear hb2); (try clear hk); (try clear hi); (try clear ho0); obtain ⟨Ao8, co8, eo8⟩ := Kd.R_slice HO238.out; subst eo8; have p239 : 0 ≤ ((ji3) : Int) := of_decide_eq_true (as_); have q239 : (ji3) < (t236.length : Int) := of_decide_eq_true (as_); obtain ⟨ad239, e239, hx239_0, hx239_1⟩ := at_T137 (Kd.R_reads' HO238.out).2.2 (ji3) p239 q239; cases e239; replace p239 := eq_true p239; replace q239 := eq_true q239))
    go_ret
    exact ⟨by first | rfl | (simp [errW_none, errW_some] <;> rfl) | (simp only [← hji3]; first | rfl | (simp [errW_none, errW_some] <;> rfl)) | (simp [*, errW_none, errW_some] <;> rfl), hb_⟩
   ·rw [if_neg c6] at H
    have c6b0 : (((rd_T137 t236 (ji3)).f0) == 0) = false := beq_eq_false_iff_ne.mpr c6
    have c6b1 : (((rd_T137 t236 (ji3)).f0) != 0) = true := bne_iff_ne.mpr c6
    obtain ⟨ji9, hji9⟩ : ∃ j_ : Int, (wrap64 (((rd_T137 t236 (ji3)).f0) - 1)) = j_ := ⟨_, rfl⟩
    replace H : (if 0 ≤ (ji9) then (if (ji9) ≤ (a0.size : Int) then (some (a0.extract 0 ((ji9) : Int).toNat)) else (none)) else (none)) = some r := by first | (rw [hji9] at H; exact H) | (simp only [hji9] at H ⊢; exact H)
    (try rw [hji9] at A2)
    have hji9w : (IntKind.i64.wrap (((rd_T137 t236 (ji3)).f0) - 1)) = ji9 := (i64_w _).trans hji9
    by_cases c10 : 0 ≤ (ji9)
    ·rw [if_pos c10] at H
     have c10b0 := eq_true c10
     have c10b1 : decide (0 ≤ (ji9)) = true := decide_eq_true c10
     clear c10
     by_cases c11 : (ji9) ≤ (a0.size : Int)
     ·rw [if_pos c11] at H
      have c11b0 := eq_true c11
      have c11b1 : decide ((ji9) ≤ (a0.size : Int)) = true := decide_eq_true c11
      clear c11
      obtain rfl := Option.some.inj H
      go_enter Tryz.func57, Tryz.ntmps57
      go_wp2_with (first | ((with_reducible refine gate_callee (f := 82) rfl ?_); refine goesL_ (some 6) rfl rfl Tryz.func82 (by kernel_rfl) rfl #[.string a0] rfl (by (try simp only [List.map_toArray, List.map_cons, List.map_nil]); first | done | rfl | (simp only [List.length_drop, List.length_take]; rfl)) ?_; (with_reducible refine (tabularyref08_Pieces.calls k a0 t236 _ A2.out).mono ?_); rintro e w12 ⟨v237, rfl, ho0, hb⟩; refine ⟨_, rfl, ?_⟩; have n0_ := Aside0.mk (Kd.R_lower ho0 (below_size (hb_))); have n1_ := Aside0.mk (below_step (hb_) hb); clear HB; have HO238 := n0_; have HB := n1_; clear n0_ n1_; (try clear hb); (try clear hb2); (try clear hk); (try clear hi); (try clear ho0); obtain ⟨Ao13, co13, eo13⟩ := Kd.R_slice HO238.out; subst eo13; have p239 : 0 ≤ ((ji3) : Int) := of_decide_eq_true (as_); have q239 : (ji3) < (t236.length : Int) := of_decide_eq_true (as_); obtain ⟨ad239, e239, hx239_0, hx239_1⟩ := at_T137 (Kd.R_reads' HO238.out).2.2 (ji3) p239 q239; cases e239; replace p239 := eq_true p239; replace q239 := eq_true q239))
      go_ret
      exact ⟨by first | rfl | (simp [errW_none, errW_some] <;> rfl) | (simp only [← hji3, ← hji9]; first | rfl | (simp [errW_none, errW_some] <;> rfl)) | (simp [*, errW_none, errW_some] <;> rfl), hb_⟩
     ·rw [if_neg c11] at H
      exact absurd H (by simp)
    ·rw [if_neg c10] at H
     exact absurd H (by simp)
  ·rw [if_neg c5] at H
   exact absurd H (by simp)
 ·rw [if_neg c4] at H
  exact absurd H (by simp)
def tabularyref11_has.l0 : Nat → List (S43) → ByteArray → Int → Int → Option (Bool)
 | 0, _, _, _, _ => none
 | k + 1, x0, x1, x2, x7 => if x7 < (x0.length : Int) then (if 0 ≤ x7 then (if ((rd_T43 x0 x7).f0).toList = x1.toList then (if ((rd_T43 x0 x7).f1) = x2 then (some true) else (tabularyref11_has.l0 k x0 x1 x2 (wrap64 (x7 + 1)))) else (tabularyref11_has.l0 k x0 x1 x2 (wrap64 (x7 + 1)))) else (none)) else (some false)
def tabularyref11_has.f (k : Nat) (l0 : List (S43)) (a1 : ByteArray) (a2 : Int) : Option (Bool) := tabularyref11_has.l0 k l0 a1 a2 0
theorem tabularyref11_has.mono_l : ∀ k, (∀ y0 y1 y2 y3, LeO (tabularyref11_has.l0 k y0 y1 y2 y3) (tabularyref11_has.l0 (k + 1) y0 y1 y2 y3))
 | 0 => fun _ _ _ _ r h => by simp [tabularyref11_has.l0] at h
 | k + 1 => by
  have ih0 := tabularyref11_has.mono_l k
  ·intro y0 y1 y2 y3
   unfold tabularyref11_has.l0
   repeat' first
   | (with_reducible exact ih0 _ _ _ _)
   | (with_reducible exact LeO.refl _)
   | (with_reducible exact LeO.none _)
   | (with_reducible refine LeO.ite ?_ ?_)
   | (with_reducible refine LeO.bind ?_ (fun _ => ?_))
theorem tabularyref11_has.mono : ∀ a0 a1 a2 k, LeO (tabularyref11_has.f k a0 a1 a2) (tabularyref11_has.f (k + 1) a0 a1 a2) := by
 intro a0 a1 a2 k
 have ih0 := tabularyref11_has.mono_l k
 unfold tabularyref11_has.f
 repeat' first
   | (with_reducible exact ih0 _ _ _ _)
   | (with_reducible exact LeO.refl _)
   | (with_reducible exact LeO.none _)
   | (with_reducible refine LeO.ite ?_ ?_)
   | (with_reducible refine LeO.bind ?_ (fun _ => ?_))
set_option maxHeartbeats 8000000 in
set_option maxRecDepth 100000 in
theorem tabularyref11_has.calls (k : Nat) (A0 : Option Addr) (c0 : Nat) (l0 : List (S43)) (a1 : ByteArray) (a2 : Int) (r : Bool) (w : World) (hr0 : Kd.C k43 w A0 l0.length l0) (hc0 : l0.length ≤ c0) (h : tabularyref11_has.f k l0 a1 a2 = some r) :
  Calls Tryz.prog 58 #[.slice A0 l0.length c0, .string a1, .int .u8 a2] w fun e w' => e = .returned (.bool r) ∧ Drawn0 w w' := by
 have HR0 := Aside0.mk hr0
 have HC0 := Aside0.mk hc0
 clear hr0 hc0
 have H : (tabularyref11_has.l0 k l0 a1 a2 0) = some r := h
 clear h
 have H' := Aside0.mk H
 clear H
 go_enter Tryz.func58, Tryz.ntmps58
 go_wp2
 go_loopg [7] k (fun kq v7 w' => ∃ (x7_1 : Int), v7 = .int .i64 x7_1 ∧ Aside0 (tabularyref11_has.l0 kq l0 a1 a2 x7_1 = some r) ∧ Aside0 (kq ≤ k) ∧ Drawn0 w w')
 case atStart => exact ⟨(0), (by first | rfl | (simp; done) | (simp [*]; done)), H', ⟨Nat.le_refl _⟩, by repeat (first | exact Drawn0.refl _ | apply Drawn0.step)⟩
 case round =>
  clear H'
  try clear p2
  obtain ⟨x7_1, rfl, HA, HK1, ⟨m1, rfl⟩⟩ := hrel
  cases gk with
  | zero => exact absurd HA.out (by simp [tabularyref11_has.l0])
  | succ k1 =>
   have H := HA.out
   clear HA
   simp only [tabularyref11_has.l0] at H
   by_cases c4 : x7_1 < (l0.length : Int)
   ·rw [if_pos c4] at H
    have c4b0 : decide (x7_1 < (l0.length : Int)) = true := decide_eq_true c4
    clear c4
    by_cases c5 : 0 ≤ x7_1
    ·rw [if_pos c5] at H
     have c5b0 : decide (0 ≤ x7_1) = true := decide_eq_true c5
     clear c5
     by_cases c6 : ((rd_T43 l0 x7_1).f0).toList = a1.toList
     ·rw [if_pos c6] at H
      have c6b0 : (((rd_T43 l0 x7_1).f0).toList == a1.toList) = true := beq_iff_eq.mpr c6
      have c6b1 : (((rd_T43 l0 x7_1).f0).toList != a1.toList) = false := bne_eq_false_iff_eq.mpr c6
      clear c6
      by_cases c7 : ((rd_T43 l0 x7_1).f1) = a2
      ·rw [if_pos c7] at H
       have c7b0 : (((rd_T43 l0 x7_1).f1) == a2) = true := beq_iff_eq.mpr c7
       have c7b1 : (((rd_T43 l0 x7_1).f1) != a2) = false := bne_eq_false_iff_eq.mpr c7
       clear c7
       obtain rfl := Option.some.inj H
       have p240 : 0 ≤ (x7_1 : Int) := of_decide_eq_true (as_)
       have q240 : x7_1 < (l0.length : Int) := of_decide_eq_true (as_)
       obtain ⟨ad240, A240_4, c240_4, e240, hx240_0, hx240_1, hx240_2, hx240_3, hx240_4, hx240_5, hl240_4, hi240_4⟩ := at_T43 HR0.out x7_1 p240 q240
       cases e240
       have HR240_4 := Aside0.mk hi240_4
       have HC240_4 := Aside0.mk hl240_4
       clear hi240_4 hl240_4
       replace p240 := eq_true p240
       replace q240 := eq_true q240
       have p241 : 0 ≤ (x7_1 : Int) := of_decide_eq_true (as_)
       have q241 : x7_1 < (l0.length : Int) := of_decide_eq_true (as_)
       obtain ⟨ad241, A241_4, c241_4, e241, hx241_0, hx241_1, hx241_2, hx241_3, hx241_4, hx241_5, hl241_4, hi241_4⟩ := at_T43 HR0.out x7_1 p241 q241
       obtain rfl : ad240 = ad241 := (by injection e241)
       have HR241_4 := Aside0.mk hi241_4
       have HC241_4 := Aside0.mk hl241_4
       clear hi241_4 hl241_4
       replace p241 := eq_true p241
       replace q241 := eq_true q241
       have ea_ := Option.some.inj (hx240_4.symm.trans hx241_4)
       injection ea_ with ea_ en_ ec_
       subst ea_
       subst ec_
       clear en_
       go_wp2
       go_ret
       exact ⟨by first | rfl | (simp; done) | (simp [*]; done), by repeat (first | exact Drawn0.refl _ | apply Drawn0.step)⟩
      ·rw [if_neg c7] at H
       have c7b0 : (((rd_T43 l0 x7_1).f1) == a2) = false := beq_eq_false_iff_ne.mpr c7
       have c7b1 : (((rd_T43 l0 x7_1).f1) != a2) = true := bne_iff_ne.mpr c7
       have H' := Aside0.mk H
       clear H
       have p240 : 0 ≤ (x7_1 : Int) := of_decide_eq_true (as_)
       have q240 : x7_1 < (l0.length : Int) := of_decide_eq_true (as_)
       obtain ⟨ad240, A240_4, c240_4, e240, hx240_0, hx240_1, hx240_2, hx240_3, hx240_4, hx240_5, hl240_4, hi240_4⟩ := at_T43 HR0.out x7_1 p240 q240
       cases e240
       have HR240_4 := Aside0.mk hi240_4
       have HC240_4 := Aside0.mk hl240_4
       clear hi240_4 hl240_4
       replace p240 := eq_true p240
       replace q240 := eq_true q240
       have p241 : 0 ≤ (x7_1 : Int) := of_decide_eq_true (as_)
       have q241 : x7_1 < (l0.length : Int) := of_decide_eq_true (as_)
       obtain ⟨ad241, A241_4, c241_4, e241, hx241_0, hx241_1, hx241_2, hx241_3, hx241_4, hx241_5, hl241_4, hi241_4⟩ := at_T43 HR0.out x7_1 p241 q241
       obtain rfl : ad240 = ad241 := (by injection e241)
       have HR241_4 := Aside0.mk hi241_4
       have HC241_4 := Aside0.mk hl241_4
       clear hi241_4 hl241_4
       replace p241 := eq_true p241
       replace q241 := eq_true q241
       have ea_ := Option.some.inj (hx240_4.symm.trans hx241_4)
       injection ea_ with ea_ en_ ec_
       subst ea_
       subst ec_
       clear en_
       go_wp2
       go_roundg k1
       case measure => have := HK1.out; omega
       case rel => exact ⟨(wrap64 (x7_1 + 1)), (by first | rfl | (simp; done) | (simp [*]; done)), H', ⟨by have := HK1.out; omega⟩, by repeat (first | exact Drawn0.refl _ | apply Drawn0.step)⟩
     ·rw [if_neg c6] at H
      have c6b0 : (((rd_T43 l0 x7_1).f0).toList == a1.toList) = false := beq_eq_false_iff_ne.mpr c6
      have c6b1 : (((rd_T43 l0 x7_1).f0).toList != a1.toList) = true := bne_iff_ne.mpr c6
      have H' := Aside0.mk H
      clear H
      have p240 : 0 ≤ (x7_1 : Int) := of_decide_eq_true (as_)
      have q240 : x7_1 < (l0.length : Int) := of_decide_eq_true (as_)
      obtain ⟨ad240, A240_4, c240_4, e240, hx240_0, hx240_1, hx240_2, hx240_3, hx240_4, hx240_5, hl240_4, hi240_4⟩ := at_T43 HR0.out x7_1 p240 q240
      cases e240
      have HR240_4 := Aside0.mk hi240_4
      have HC240_4 := Aside0.mk hl240_4
      clear hi240_4 hl240_4
      replace p240 := eq_true p240
      replace q240 := eq_true q240
      go_wp2
      go_roundg k1
      case measure => have := HK1.out; omega
      case rel => exact ⟨(wrap64 (x7_1 + 1)), (by first | rfl | (simp; done) | (simp [*]; done)), H', ⟨by have := HK1.out; omega⟩, by repeat (first | exact Drawn0.refl _ | apply Drawn0.step)⟩
    ·rw [if_neg c5] at H
     exact absurd H (by simp)
   ·rw [if_neg c4] at H
    have c4b0 : decide (x7_1 < (l0.length : Int)) = false := decide_eq_false c4
    clear c4
    obtain rfl := Option.some.inj H
    go_wp2
    go_ret
    exact ⟨by first | rfl | (simp; done) | (simp [*]; done), by repeat (first | exact Drawn0.refl _ | apply Drawn0.step)⟩
end Go.Proofs.YtopehfjohifpnaaGreatDoor.Doc
end
section
set_option linter.unusedSimpArgs false
set_option linter.unusedVariables false
namespace Go.Proofs.YtopehfjohifpnaaGreatDoor.Mine
open Go.RowKit Go.Shelf Go.Proofs.YtopehfjohifpnaaGreatDoorW.PrintWords Go.Proofs.YtopehfjohifpnaaGreatDoorW.PrintLast Go.Proofs.YtopehfjohifpnaaGreatDoorW.PrintMore Go.Proofs.YtopehfjohifpnaaGreatDoor.Turn Go.Proofs.YtopehfjohifpnaaGreatDoor.Doc
def cmpB (x y : ByteArray) : Int := if Op.bytesLess x.toList y.toList = true then -1 else if Op.bytesLess y.toList x.toList = true then 1 else 0
def cmpP : List ByteArray → List ByteArray → Int
  | [], [] => 0
  | [], _ :: _ => -1
  | _ :: _, [] => 1
  | x :: l, y :: m => if cmpB x y = 0 then cmpP l m else cmpB x y
def txG (s : ByteArray) (p : Nat) : List ByteArray := (pcG s (s.size - p) p p).map (·.f1)
def cmpF (a b : ByteArray) : Int := cmpP (txG a 0) (txG b 0)
theorem txG_last (s : ByteArray) (p : Nat) (hp : p ≤ s.size) (h : Lib.indexByte (s.extract p s.size).data.toList 47 < 0) : txG s p = [s.extract p s.size] := by
  unfold txG; rw [pcs_last s p hp h]; rfl
theorem txG_more (s : ByteArray) (p n : Nat) (hp : p ≤ s.size) (h : Lib.indexByte (s.extract p s.size).data.toList 47 = n) : p + n < s.size ∧ txG s p = s.extract p (p + n) :: txG s (p + n + 1) := by
  obtain ⟨h1, h2⟩ := pcs_more s p n hp h
  refine ⟨h1, ?_⟩
  unfold txG; rw [h2]; rfl
theorem less_swap : ∀ (a b : List UInt8), (Op.bytesLess a b || a == b) = !(Op.bytesLess b a)
  | [], [] => rfl
  | [], b :: y => rfl
  | a :: x, [] => rfl
  | a :: x, b :: y => by
    have ih := less_swap x y
    unfold Op.bytesLess
    rcases Nat.lt_trichotomy a.toNat b.toNat with h | h | h
    · have h1 : decide (a < b) = true := decide_eq_true (UInt8.lt_iff_toNat_lt.2 h)
      have h2 : decide (b < a) = false := decide_eq_false (fun e => by have := UInt8.lt_iff_toNat_lt.1 e; omega)
      have h3 : (b == a) = false := beq_eq_false_iff_ne.2 (fun e => by rw [e] at h; omega)
      rw [h1, h2, h3]
      simp
    · obtain rfl : a = b := UInt8.toNat_inj.1 h
      have h2 : decide (a < a) = false := decide_eq_false (fun e => by have := UInt8.lt_iff_toNat_lt.1 e; omega)
      rw [h2, List.cons_beq_cons]
      simp only [beq_self_eq_true, Bool.false_or, Bool.true_and]
      exact ih
    · have h1 : decide (a < b) = false := decide_eq_false (fun e => by have := UInt8.lt_iff_toNat_lt.1 e; omega)
      have h2 : decide (b < a) = true := decide_eq_true (UInt8.lt_iff_toNat_lt.2 h)
      have h3 : (a == b) = false := beq_eq_false_iff_ne.2 (fun e => by rw [e] at h; omega)
      rw [h1, h2, h3, List.cons_beq_cons, h3]
      simp
theorem cmpB_rg (x y : ByteArray) : cmpB x y = -1 ∨ cmpB x y = 0 ∨ cmpB x y = 1 := by
  unfold cmpB
  split
  · exact .inl rfl
  · split
    · exact .inr (.inr rfl)
    · exact .inr (.inl rfl)
theorem isNaN_any (x : ByteArray) (w : World) : Calls Tryz.prog 95 #[.string x] w fun e w' => e = .returned (.bool false) ∧ w' = w := by
  go_enter Tryz.func95, Tryz.ntmps95
  go_wp2_with fail
  go_ret
  exact ⟨by simp, rfl⟩
set_option maxRecDepth 100000 in
theorem cmpS_any (x y : ByteArray) (w : World) : Calls Tryz.prog 76 #[.string x, .string y] w fun e w' => e = .returned (.int .i64 (cmpB x y)) ∧ Below w.heap.size w w' := by
  have hc : cmpB x y = if Op.bytesLess x.toList y.toList = true then -1 else if Op.bytesLess y.toList x.toList = true then 1 else 0 := rfl
  generalize cmpB x y = r at *
  have HC := Aside0.mk hc
  clear hc
  go_enter Tryz.func76, Tryz.ntmps76
  go_wp2_with (go_at_call 95; refine (isNaN_any _ _).mono ?_; rintro e w' ⟨rfl, rfl⟩)
  · have h : Op.bytesLess x.toList y.toList = true := by assumption
    go_ret
    exact ⟨by rw [HC.out, if_pos h]; rfl, Below.refl _ _⟩
  · have h : Op.bytesLess x.toList y.toList = false := by assumption
    have h1 : (!(x.toList == y.toList)) = true := by assumption
    have h2 : Op.bytesLess y.toList x.toList = true := by
      have h3 := less_swap x.toList y.toList
      rw [h, Bool.false_or] at h3
      rw [h3] at h1
      simpa using h1
    go_ret
    exact ⟨by rw [HC.out, if_neg (by rw [h]; simp), if_pos h2]; rfl, Below.refl _ _⟩
  · have h : Op.bytesLess x.toList y.toList = false := by assumption
    have h1 : (!(x.toList == y.toList)) = false := by assumption
    have h2 : Op.bytesLess y.toList x.toList = false := by
      have h3 := less_swap x.toList y.toList
      rw [h, Bool.false_or] at h3
      rw [h3] at h1
      simpa using h1
    go_ret
    exact ⟨by rw [HC.out, if_neg (by rw [h]; simp), if_neg (by rw [h2]; simp)]; rfl, Below.refl _ _⟩
theorem ext_size (s : ByteArray) (p : Nat) (hp : p ≤ s.size) : (s.extract p s.size).size = s.size - p := by rw [ByteArray.size_extract]; omega
theorem sl_to (s : ByteArray) (p n : Nat) (h : p + n ≤ s.size) (W : World) : (Instr.slice 9 (.string (s.extract p s.size)) none (some (.int .i64 (n : Int))) none).run Tryz.prog W = .ok (.string (s.extract p (p + n))) W := by
  have hz := ext_size s p (by omega)
  rw [run_slice_string_h W 9 _ Tryz.underlying9 .i64 (n : Int) (by omega) (by omega)]
  rw [Int.toNat_natCast, ByteArray.extract_extract]
  congr 3
  omega
theorem sl_from (s : ByteArray) (p n : Nat) (h : p + n + 1 ≤ s.size) (W : World) : (Instr.slice 9 (.string (s.extract p s.size)) (some (.int .i64 ((n : Int) + 1))) none none).run Tryz.prog W = .ok (.string (s.extract (p + n + 1) s.size)) W := by
  have hz := ext_size s p (by omega)
  rw [run_slice_string_l W 9 _ Tryz.underlying9 .i64 ((n : Int) + 1) (by omega) (by omega)]
  rw [show ((n : Int) + 1).toNat = n + 1 by omega, ByteArray.extract_extract, hz]
  congr 3
  omega
theorem cmpP_cons (x y : ByteArray) (l m : List ByteArray) : cmpP (x :: l) (y :: m) = if cmpB x y = 0 then cmpP l m else cmpB x y := by rw [cmpP]
theorem txG_ne (s : ByteArray) (p : Nat) : ∃ x l, txG s p = x :: l := by
  unfold txG
  have : ∀ m f i, ∃ x l, (pcG s m f i).map (·.f1) = x :: l := by
    intro m
    induction m with
    | zero => intro f i; exact ⟨_, _, rfl⟩
    | succ m ih =>
      intro f i
      unfold pcG
      split
      · exact ⟨_, _, rfl⟩
      · exact ih f (i + 1)
  exact this _ _ _
set_option maxRecDepth 100000 in
set_option maxHeartbeats 4000000 in
theorem compare_any (a b : ByteArray) (ha : a.size ≤ 4611686018427387904) (hb : b.size ≤ 4611686018427387904) (w : World) : Calls Tryz.prog 49 #[.string a, .string b] w fun e w' => e = .returned (.int .i64 (cmpF a b)) ∧ Below w.heap.size w w' := by
  have hC := fun x y W => cmpS_any x y W
  have HC0 : Aside0 (cmpF a b = cmpP (txG a 0) (txG b 0)) := ⟨rfl⟩
  generalize cmpF a b = r at *
  go_enter Tryz.func49, Tryz.ntmps49
  go_wp2_with fail
  go_loopw [0, 1] (fun u v W => ∃ p q : Nat, p ≤ a.size ∧ q ≤ b.size ∧ u = .string (a.extract p a.size) ∧ v = .string (b.extract q b.size) ∧ Aside0 (r = cmpP (txG a p) (txG b q)) ∧ Aside0 (Below w.heap.size w W)) (fun u _ _ => match u with | .string s => s.size | _ => 0)
  case atStart => exact ⟨0, 0, Nat.zero_le _, Nat.zero_le _, by simp, by simp, HC0, ⟨Below.refl _ _⟩⟩
  case round =>
    obtain ⟨p, q, hp, hq, rfl, rfl, HR, HB⟩ := hrel
    obtain ⟨i, hi⟩ : ∃ i, Lib.indexByte (a.extract p a.size).data.toList 47 = i := ⟨_, rfl⟩
    obtain ⟨k, hk⟩ : ∃ k, Lib.indexByte (b.extract q b.size).data.toList 47 = k := ⟨_, rfl⟩
    have hi1 : -1 ≤ i := by rw [← hi]; exact Lib.indexByte_ge _ _
    have hk1 : -1 ≤ k := by rw [← hk]; exact Lib.indexByte_ge _ _
    have hIA : ∀ W, Calls Tryz.prog 75 #[.string (a.extract p a.size), .int .u8 47] W fun e W' => e = .returned (.int .i64 i) ∧ W' = W := fun W => by rw [← hi]; exact Tryz.strings_IndexByte _ _ _
    have hIB : ∀ W, Calls Tryz.prog 75 #[.string (b.extract q b.size), .int .u8 47] W fun e W' => e = .returned (.int .i64 k) ∧ W' = W := fun W => by rw [← hk]; exact Tryz.strings_IndexByte _ _ _
    rcases Int.lt_or_le i 0 with hneg | hpos
    · rcases Int.lt_or_le k 0 with kneg | kpos
      · have ha2 := txG_last a p hp (by omega)
        rw [ha2] at HR
        have hb2 := txG_last b q hq (by omega)
        rw [hb2] at HR
        have hcS := fun W => hC (a.extract p a.size) (b.extract q b.size) W
        rw [cmpP_cons] at HR
        have hrg := cmpB_rg (a.extract p a.size) (b.extract q b.size)
        generalize cmpB (a.extract p a.size) (b.extract q b.size) = c at *
        have HR2 : Aside0 (r = if c = 0 then 0 else c) := ⟨by rw [HR.out]; rfl⟩
        clear hi hk hC ha2 hb2 HR
        go_wp2_with (first | (go_at_call 75; refine (hIA _).mono ?_; rintro e w' ⟨rfl, rfl⟩) | (go_at_call 75; refine (hIB _).mono ?_; rintro e w' ⟨rfl, rfl⟩) | (go_at_call 76; refine (hcS _).mono ?_; rintro e w2 ⟨rfl, hb⟩; have HB2 := Aside0.mk (below_step HB.out hb); clear hb))
        · have h : (c != 0) = true := by assumption
          go_ret
          exact ⟨by rw [HR2.out, if_neg (bne_iff_ne.1 h)]; rfl, HB2.out⟩
        · have h : (c != 0) = false := by assumption
          go_ret
          exact ⟨by rw [HR2.out, if_pos (by simpa using h)]; rfl, HB2.out⟩
      · have ha2 := txG_last a p hp (by omega)
        rw [ha2] at HR
        obtain ⟨m, rfl⟩ : ∃ m : Nat, k = m := ⟨k.toNat, by omega⟩
        obtain ⟨hb1, hb2⟩ := txG_more b q m hq hk
        have hsb := sl_to b q m (by omega)
        have hfb := sl_from b q m (by omega)
        rw [hb2] at HR
        have hcS := fun W => hC (a.extract p a.size) (b.extract q (q + m)) W
        rw [cmpP_cons] at HR
        have hrg := cmpB_rg (a.extract p a.size) (b.extract q (q + m))
        generalize cmpB (a.extract p a.size) (b.extract q (q + m)) = c at *
        obtain ⟨y0, m0, hy0⟩ := txG_ne b (q + m + 1)
        have HR2 : Aside0 (r = if c = 0 then -1 else c) := ⟨by rw [HR.out]; rw [hy0]; rfl⟩
        clear hi hk hC ha2 hb2 HR hy0
        go_wp2_with (first | (go_at_call 75; refine (hIA _).mono ?_; rintro e w' ⟨rfl, rfl⟩) | (go_at_call 75; refine (hIB _).mono ?_; rintro e w' ⟨rfl, rfl⟩) | (go_at_call 76; refine (hcS _).mono ?_; rintro e w2 ⟨rfl, hb⟩; have HB2 := Aside0.mk (below_step HB.out hb); clear hb))
        · have h : (c != 0) = true := by assumption
          go_ret
          exact ⟨by rw [HR2.out, if_neg (bne_iff_ne.1 h)]; rfl, HB2.out⟩
        · have h : (c != 0) = false := by assumption
          go_ret
          exact ⟨by rw [HR2.out, if_pos (by simpa using h)]; rfl, HB2.out⟩
    · rcases Int.lt_or_le k 0 with kneg | kpos
      · obtain ⟨n, rfl⟩ : ∃ n : Nat, i = n := ⟨i.toNat, by omega⟩
        obtain ⟨ha1, ha2⟩ := txG_more a p n hp hi
        have hsa := sl_to a p n (by omega)
        have hfa := sl_from a p n (by omega)
        rw [ha2] at HR
        have hb2 := txG_last b q hq (by omega)
        rw [hb2] at HR
        have hcS := fun W => hC (a.extract p (p + n)) (b.extract q b.size) W
        rw [cmpP_cons] at HR
        have hrg := cmpB_rg (a.extract p (p + n)) (b.extract q b.size)
        generalize cmpB (a.extract p (p + n)) (b.extract q b.size) = c at *
        obtain ⟨x0, l0, hx0⟩ := txG_ne a (p + n + 1)
        have HR2 : Aside0 (r = if c = 0 then 1 else c) := ⟨by rw [HR.out]; rw [hx0]; rfl⟩
        clear hi hk hC ha2 hb2 HR hx0
        go_wp2_with (first | (go_at_call 75; refine (hIA _).mono ?_; rintro e w' ⟨rfl, rfl⟩) | (go_at_call 75; refine (hIB _).mono ?_; rintro e w' ⟨rfl, rfl⟩) | (go_at_call 76; refine (hcS _).mono ?_; rintro e w2 ⟨rfl, hb⟩; have HB2 := Aside0.mk (below_step HB.out hb); clear hb))
        · have h : (c != 0) = true := by assumption
          go_ret
          exact ⟨by rw [HR2.out, if_neg (bne_iff_ne.1 h)]; rfl, HB2.out⟩
        · have h : (c != 0) = false := by assumption
          go_ret
          exact ⟨by rw [HR2.out, if_pos (by simpa using h)]; rfl, HB2.out⟩
      · obtain ⟨n, rfl⟩ : ∃ n : Nat, i = n := ⟨i.toNat, by omega⟩
        obtain ⟨ha1, ha2⟩ := txG_more a p n hp hi
        have hsa := sl_to a p n (by omega)
        have hfa := sl_from a p n (by omega)
        rw [ha2] at HR
        obtain ⟨m, rfl⟩ : ∃ m : Nat, k = m := ⟨k.toNat, by omega⟩
        obtain ⟨hb1, hb2⟩ := txG_more b q m hq hk
        have hsb := sl_to b q m (by omega)
        have hfb := sl_from b q m (by omega)
        rw [hb2] at HR
        have hcS := fun W => hC (a.extract p (p + n)) (b.extract q (q + m)) W
        rw [cmpP_cons] at HR
        have hrg := cmpB_rg (a.extract p (p + n)) (b.extract q (q + m))
        generalize cmpB (a.extract p (p + n)) (b.extract q (q + m)) = c at *
        obtain ⟨x0, l0, hx0⟩ := txG_ne a (p + n + 1)
        obtain ⟨y0, m0, hy0⟩ := txG_ne b (q + m + 1)
        have HR2 := HR
        clear hi hk hC ha2 hb2 HR hx0 hy0
        go_wp2_with (first | (go_at_call 75; refine (hIA _).mono ?_; rintro e w' ⟨rfl, rfl⟩) | (go_at_call 75; refine (hIB _).mono ?_; rintro e w' ⟨rfl, rfl⟩) | (go_at_call 76; refine (hcS _).mono ?_; rintro e w2 ⟨rfl, hb⟩; have HB2 := Aside0.mk (below_step HB.out hb); clear hb))
        · have h : (c != 0) = true := by assumption
          go_ret
          exact ⟨by rw [HR2.out, if_neg (bne_iff_ne.1 h)]; rfl, HB2.out⟩
        · have h : (c != 0) = false := by assumption
          go_region
          all_goals
            go_wp2_with fail
            go_roundw
            case rel => exact ⟨p + n + 1, q + m + 1, by omega, by omega, rfl, rfl, ⟨by rw [HR2.out, if_pos (by simpa using h)]⟩, ⟨below_drew HB2.out⟩⟩
            case measure => simp only [ext_size a _ (show p + n + 1 ≤ a.size by omega), ext_size a p hp]; omega
end Go.Proofs.YtopehfjohifpnaaGreatDoor.Mine
end
section
set_option linter.unusedSimpArgs false
set_option linter.unusedVariables false
namespace Go.Proofs.YtopehfjohifpnaaGreatDoor.Doc
open Go.RowKit Go.Shelf Go.Proofs.YtopehfjohifpnaaGreatDoorW.PrintWords Go.Proofs.YtopehfjohifpnaaGreatDoorW.PrintLast Go.Proofs.YtopehfjohifpnaaGreatDoorW.PrintMore Go.Proofs.YtopehfjohifpnaaGreatDoor.Turn Go.Proofs.YtopehfjohifpnaaGreatDoor.Mine
theorem drop_hd {α : Type} (l : List α) (i : Nat) (h : i < l.length) : l.drop i = l[i] :: l.drop (i + 1) := List.drop_eq_getElem_cons h
theorem cmpP_nil_left (m : List ByteArray) : cmpP [] m = if m.length = 0 then 0 else -1 := by cases m <;> rfl
theorem cmpP_nil_right (l : List ByteArray) : cmpP l [] = if l.length = 0 then 0 else 1 := by cases l <;> rfl
def tabularyref08_Compare.f (k : Nat) (a b : ByteArray) : Option Int := if a.size ≤ 1000 ∧ b.size ≤ 1000 then some (cmpF a b) else none
theorem tabularyref08_Compare.mono : ∀ a0 a1 k, LeO (tabularyref08_Compare.f k a0 a1) (tabularyref08_Compare.f (k + 1) a0 a1) := by
  intro a0 a1 k
  unfold tabularyref08_Compare.f
  exact LeO.refl _
set_option maxRecDepth 100000 in
set_option maxHeartbeats 1000000 in
theorem tabularyref08_Compare.calls (k : Nat) (a0 : ByteArray) (a1 : ByteArray) (r : Int) (w : World) (h : tabularyref08_Compare.f k a0 a1 = some r) :
    Calls Tryz.prog 56 #[.string a0, .string a1] w fun e w' => e = .returned (.int .i64 r) ∧ Below w.heap.size w w' := by
  have hz : a0.size ≤ 1000 ∧ a1.size ≤ 1000 := by
    unfold tabularyref08_Compare.f at h
    split at h
    · assumption
    · cases h
  have hr : r = cmpP ((pcs a0).map (·.f1)) ((pcs a1).map (·.f1)) := by
    unfold tabularyref08_Compare.f at h
    rw [if_pos hz] at h
    have h2 := (Option.some.inj h).symm
    rw [h2]
    rfl
  clear h
  have hp0 := fun W => tabularyref08_Pieces.calls 2000 a0 _ W (pieces_f a0 hz.1 2000 (by omega))
  have hp1 := fun W => tabularyref08_Pieces.calls 2000 a1 _ W (pieces_f a1 hz.2 2000 (by omega))
  have hl0 : (pcs a0).length ≤ 1001 := by have := pcG_len a0 a0.size 0 0; unfold pcs; omega
  have hl1 : (pcs a1).length ≤ 1001 := by have := pcG_len a1 a1.size 0 0; unfold pcs; omega
  obtain ⟨x, hx⟩ : ∃ x, pcs a0 = x := ⟨_, rfl⟩
  obtain ⟨y, hy⟩ : ∃ y, pcs a1 = y := ⟨_, rfl⟩
  rw [hx] at hp0 hl0 hr
  rw [hy] at hp1 hl1 hr
  clear hx hy
  have HR0 : Aside0 (r = cmpP ((x.drop 0).map (·.f1)) ((y.drop 0).map (·.f1))) := ⟨by rw [List.drop_zero, List.drop_zero]; exact hr⟩
  clear hr
  go_enter Tryz.func56, Tryz.ntmps56
  go_wp2_with (first | (go_at_call 82; with_reducible refine (hp0 _).mono ?_; rintro e w1 ⟨v1, rfl, ho1, hb1⟩; obtain ⟨A1, c1, rfl, hc1, hC1⟩ := Kd.R_reads ho1; have HC1 := Aside0.mk hC1; have HB1 := Aside0.mk hb1; clear hC1 hb1 ho1) | (go_at_call 82; with_reducible refine (hp1 _).mono ?_; rintro e w2 ⟨v2, rfl, ho2, hb2⟩; obtain ⟨A2, c2, rfl, hc2, hC2⟩ := Kd.R_reads ho2; have HC2 := Aside0.mk hC2; have HC3 := Aside0.mk (Kd.C_below HC1.out hb2); have HB2 := Aside0.mk (below_step HB1.out hb2); clear hC2 hb2 ho2))
  clear hp0 hp1 HC1 HB1
  go_loopw [7] (fun v W => ∃ n : Nat, n ≤ x.length ∧ n ≤ y.length ∧ v = .int .i64 n ∧ Aside0 (r = cmpP ((x.drop n).map (·.f1)) ((y.drop n).map (·.f1))) ∧ Aside0 (Below w.heap.size w W) ∧ Aside0 (Kd.C k137 W A1 x.length x) ∧ Aside0 (Kd.C k137 W A2 y.length y)) (fun v _ => x.length - (intOf v).toNat)
  case atStart => exact ⟨0, Nat.zero_le _, Nat.zero_le _, rfl, HR0, HB2, HC3, HC2⟩
  case round =>
    clear HR0 HB2 HC3 HC2
    obtain ⟨n, hx, hy, rfl, HR, HB, HX, HY⟩ := hrel
    by_cases h1 : n < x.length
    · by_cases h2 : n < y.length
      · have hd1 : decide (n < x.length) = true := decide_eq_true h1
        have hd2 : decide (n < y.length) = true := decide_eq_true h2
        obtain ⟨ad, e1, hx0, hx1⟩ := at_T137 HX.out (n : Int) (by omega) (by omega)
        obtain ⟨bd, e2, hy0, hy1⟩ := at_T137 HY.out (n : Int) (by omega) (by omega)
        subst e1
        subst e2
        have e3 : rd_T137 x (n : Int) = x[n] := by unfold rd_T137; rw [Int.toNat_natCast, List.getD_eq_getElem?_getD, List.getElem?_eq_getElem h1]; rfl
        have e4 : rd_T137 y (n : Int) = y[n] := by unfold rd_T137; rw [Int.toNat_natCast, List.getD_eq_getElem?_getD, List.getElem?_eq_getElem h2]; rfl
        rw [e3, Int.toNat_natCast] at hx0 hx1
        rw [e4, Int.toNat_natCast] at hy0 hy1
        have HR2 : Aside0 (r = if cmpB x[n].f1 y[n].f1 = 0 then cmpP ((x.drop (n + 1)).map (·.f1)) ((y.drop (n + 1)).map (·.f1)) else cmpB x[n].f1 y[n].f1) := ⟨by rw [HR.out, drop_hd x n h1, drop_hd y n h2, List.map_cons, List.map_cons, cmpP_cons]⟩
        have hcb : cmpB x[n].f1 y[n].f1 = if Op.bytesLess x[n].f1.toList y[n].f1.toList = true then -1 else if Op.bytesLess y[n].f1.toList x[n].f1.toList = true then 1 else 0 := rfl
        have hsw := less_swap x[n].f1.toList y[n].f1.toList
        have hb3 := World.block_lt_of_cell? _ _ hx0
        generalize x[n].f1 = X at *
        generalize y[n].f1 = Y at *
        generalize cmpB X Y = c at *
        have HCB := Aside0.mk hcb
        have HSW := Aside0.mk hsw
        clear HR e3 e4 hcb hsw
        cases hlt : Op.bytesLess X.toList Y.toList with
        | true =>
          have HRA : Aside0 (r = -1) := ⟨by
            have h5 : c = -1 := by rw [HCB.out, if_pos hlt]
            rw [HR2.out, h5]; rfl⟩
          go_wp2_with fail
          go_region
          go_wp2_with fail
          go_ret
          exact ⟨by rw [HRA.out]; rfl, below_drew HB.out⟩
        | false =>
          have hsw := HSW.out
          rw [hlt, Bool.false_or] at hsw
          cases hgt : Op.bytesLess Y.toList X.toList with
          | true =>
            have HRA : Aside0 (r = 1) := ⟨by
              have h5 : c = 1 := by rw [HCB.out, if_neg (by rw [hlt]; simp), if_pos hgt]
              rw [HR2.out, h5]; rfl⟩
            rw [hgt] at hsw
            have hne : ¬ X.toList = Y.toList := by simpa using hsw
            go_wp2_with fail
            go_region
            go_wp2_with fail
            go_region
            go_wp2_with fail
            go_ret
            exact ⟨by rw [HRA.out]; rfl, below_drew (below_drew HB.out)⟩
          | false =>
            have HRA : Aside0 (r = cmpP ((x.drop (n + 1)).map (·.f1)) ((y.drop (n + 1)).map (·.f1))) := ⟨by
              have h5 : c = 0 := by rw [HCB.out, if_neg (by rw [hlt]; simp), if_neg (by rw [hgt]; simp)]
              rw [HR2.out, if_pos h5]⟩
            rw [hgt] at hsw
            have heq : X.toList = Y.toList := by simpa using hsw
            rw [heq] at hlt
            go_wp2_with fail
            go_region
            go_wp2_with fail
            go_region
            go_wp2_with fail
            go_roundw
            case rel => exact ⟨n + 1, by omega, by omega, by go_num, HRA, ⟨below_drew (below_drew HB.out)⟩, ⟨Kd.C_drewN HX.out 2⟩, ⟨Kd.C_drewN HY.out 2⟩⟩
            case measure => simp [intOf]; omega
      · have hd2 : decide (n < y.length) = false := decide_eq_false h2
        have hd1 : decide (n < x.length) = true := decide_eq_true h1
        have HRA : Aside0 (r = 1) := ⟨by rw [HR.out, List.drop_eq_nil_of_le (show y.length ≤ n by omega), List.map_nil, cmpP_nil_right, if_neg (by rw [List.length_map, List.length_drop]; omega)]⟩
        have he : n = y.length := by omega
        subst he
        go_wp2_with fail
        go_ret
        exact ⟨by rw [HRA.out]; rfl, HB.out⟩
    · have hd1 : decide (n < x.length) = false := decide_eq_false h1
      have he : n = x.length := by omega
      subst he
      have HRA : Aside0 (r = if x.length < y.length then -1 else 0) := ⟨by
        rw [HR.out, List.drop_eq_nil_of_le (Nat.le_refl _), List.map_nil, cmpP_nil_left, List.length_map, List.length_drop]
        by_cases h3 : x.length < y.length
        · rw [if_neg (by omega), if_pos h3]
        · rw [if_pos (by omega), if_neg h3]⟩
      by_cases h3 : x.length < y.length
      · go_wp2_with fail
        go_ret
        exact ⟨by rw [HRA.out, if_pos h3]; rfl, HB.out⟩
      · have h4 : ¬ y.length < x.length := by omega
        go_wp2_with fail
        go_ret
        exact ⟨by rw [HRA.out, if_neg h3]; rfl, HB.out⟩
theorem tabularyref08_Compare.is (K : Nat) {a b : ByteArray} (ha : a.size ≤ 1000) (hb : b.size ≤ 1000) : tabularyref08_Compare.f K a b = some (cmpF a b) := by
  unfold tabularyref08_Compare.f
  rw [if_pos ⟨ha, hb⟩]
end Go.Proofs.YtopehfjohifpnaaGreatDoor.Doc
end
