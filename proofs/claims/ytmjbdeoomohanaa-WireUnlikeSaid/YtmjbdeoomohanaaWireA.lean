/- wire: which fields a type has; the two looks through a list. -/
import Derived.Test.YtmjbdeoomohanaaCopy
import Derived.Test.YtmjbdeoomohanaaPWirePacksx0
set_option linter.unusedSimpArgs false
set_option linter.unusedVariables false
namespace Go.Proofs.Ytmjbdeoomohanaa.Mine
open Go.RowKit Go.Maps Go.Proofs.YtmjbdeoomohanaaW.PrintWords Go.Proofs.YtmjbdeoomohanaaW.PrintLast Go.Proofs.YtmjbdeoomohanaaW.PrintMore Go.Proofs.Ytmjbdeoomohanaa.PWirePacks Go.Proofs.Ytmjbdeoomohanaa.Turn

def hasN (t : Int) : Int := ([0, 29, 5, 1, 27, 25, 1, 224, 224, 4864, 2816, 256, 6912, 5376, 3328] : List Int).getD t.toNat 0
theorem has_small (t : Int) (h : 15 ≤ t) : hasN t = 0 := by
  unfold hasN
  rw [List.getD_eq_getElem?_getD, List.getElem?_eq_none (by simp; omega)]
  rfl

set_option maxHeartbeats 1000000 in
theorem has_any (t : Int) (h0 : 0 ≤ t) (h1 : t ≤ 255) (w : World) : Calls Try.prog 21 #[.int .u8 t] w fun e w' => e = .returned (.int .i64 (hasN t)) ∧ Below w.heap.size w w' := by
  by_cases h : 15 ≤ t
  · have HH := Aside0.mk (has_small t h)
    have hw : IntKind.i64.wrap t = t := IntWalk.i64_in _ (by omega)
    go_enter Try.func21, Try.ntmps21
    go_wp2
    go_ret
    exact ⟨by rw [HH.out]; rfl, below_alloc (Below.refl _ _) _⟩
  · have hd : t = 0 ∨ t = 1 ∨ t = 2 ∨ t = 3 ∨ t = 4 ∨ t = 5 ∨ t = 6 ∨ t = 7 ∨ t = 8 ∨ t = 9 ∨ t = 10 ∨ t = 11 ∨ t = 12 ∨ t = 13 ∨ t = 14 := by omega
    rcases hd with rfl | rfl | rfl | rfl | rfl | rfl | rfl | rfl | rfl | rfl | rfl | rfl | rfl | rfl | rfl <;>
      (go_enter Try.func21, Try.ntmps21
       go_wp2
       go_ret
       exact ⟨rfl, below_alloc (Below.refl _ _) _⟩)

/-- The place of the first that is so, from i on; -1: there is none. -/
def firstAt {α : Type} (so : α → Bool) (l : List α) (i : Nat) : Int :=
  if h : i < l.length then (if so l[i] then i else firstAt so l (i + 1)) else -1
termination_by l.length - i
theorem first_any {α : Type} (so : α → Bool) (l : List α) : decide (0 ≤ firstAt so l 0) = l.any so := by
  have key : ∀ m i, i + m = l.length → decide (0 ≤ firstAt so l i) = (l.drop i).any so := by
    intro m
    induction m with
    | zero =>
      intro i hi
      rw [firstAt, dif_neg (by omega), List.drop_eq_nil_of_le (by omega)]
      rfl
    | succ m ih =>
      intro i hi
      rw [firstAt, dif_pos (show i < l.length by omega), List.drop_eq_getElem_cons (show i < l.length by omega), List.any_cons]
      cases h : so l[i] with
      | true => simp
      | false => simpa using ih (i + 1) (by omega)
  simpa using key l.length 0 (by omega)

def longE (x : S44) : Bool := decide (x.f2.length > 2048)
def oddB (b : List Int) : Bool := !decide (b.length = 128)
set_option maxHeartbeats 1000000 in
theorem longE_any (p q : Int) (A : Option Addr) (m : Nat) (c : Nat) (w : World) : Calls Try.prog 24 #[.agg #[.int .u64 p, .int .u64 q, .slice A m c]] w fun e w' => e = .returned (.bool (decide (m > 2048))) ∧ Below w.heap.size w w' := by
  go_enter Try.func24, Try.ntmps24
  go_wp2
  go_ret
  exact ⟨by congr 2; simp; omega, below_alloc (Below.refl _ _) _⟩
set_option maxHeartbeats 1000000 in
theorem oddB_any (A : Option Addr) (m : Nat) (c : Nat) (w : World) : Calls Try.prog 26 #[.slice A m c] w fun e w' => e = .returned (.bool (!decide (m = 128))) ∧ w = w' := by
  go_enter Try.func26, Try.ntmps26
  go_wp2
  go_ret
  refine ⟨?_, rfl⟩
  congr 2
  by_cases h : m = 128
  · subst h; simp
  · simp [h]; omega

set_option maxHeartbeats 2000000 in
theorem index50_any (A : Option Addr) (c : Nat) (l : List S44) (w : World) (hl : l.length ≤ 4611686018427387904) (hr : Kd.C k44 w A l.length l) :
    Calls Try.prog 50 #[.slice A l.length c, .func (.func 24) #[] #[]] w fun e w' => e = .returned (.int .i64 (firstAt longE l 0)) ∧ Below w.heap.size w w' := by
  have HR := Aside0.mk hr
  clear hr
  go_enter Try.func50, Try.ntmps50
  go_wp2
  go_loopw [8] (fun i wr => ∃ k : Nat, k ≤ l.length ∧ i = .int .i64 k ∧ Aside0 (firstAt longE l 0 = firstAt longE l k) ∧ Aside0 (Below w.heap.size w wr)) (fun i _ => l.length - (intOf i).toNat)
  case atStart => exact ⟨0, Nat.zero_le _, rfl, ⟨rfl⟩, ⟨Below.refl _ _⟩⟩
  case round =>
    obtain ⟨k, hk, rfl, HI, HB⟩ := hrel
    by_cases hlt : k < l.length
    · have HC := Kd.C_below HR.out HB.out
      obtain ⟨ad, A2, c2, e, y0, y1, y2, hl2, hB2⟩ := at_T44 HC (k : Int) (by omega) (by omega)
      cases e
      rw [Int.toNat_natCast] at y0 y1 y2
      clear hB2
      have hx2 : rd_T44 l (k : Int) = l[k] := by
        unfold rd_T44
        rw [List.getD_eq_getElem?_getD, Int.toNat_natCast, List.getElem?_eq_getElem hlt]
        rfl
      generalize rd_T44 l (k : Int) = x at *
      have han : (ad.add (k * 3)).block < wr.heap.size := World.block_lt_of_cell? wr _ y0
      cases hq : longE x with
      | true =>
        have HI2 : firstAt longE l k = k := by rw [firstAt, dif_pos hlt, ← hx2, if_pos hq]
        have HI3 := Aside0.mk HI2
        have HQ := Aside0.mk hq
        clear HI2 hx2 hq HC
        go_wp2_with (go_at_call 24; refine (longE_any x.f0 x.f1 A2 x.f2.length c2 _).mono ?_; rintro e w' ⟨rfl, hb⟩; rw [show decide (x.f2.length > 2048) = _ from HQ.out]; have HB2 := Aside0.mk (below_then HB.out HB.out.size hb); clear hb)
        go_ret
        exact ⟨by rw [HI.out, HI3.out]; rfl, HB2.out⟩
      | false =>
        have HI2 : firstAt longE l k = firstAt longE l (k + 1) := by rw [firstAt, dif_pos hlt, ← hx2, if_neg (by rw [hq]; simp)]
        have HI3 := Aside0.mk HI2
        have HQ := Aside0.mk hq
        clear HI2 hx2 hq HC
        go_wp2_with (go_at_call 24; refine (longE_any x.f0 x.f1 A2 x.f2.length c2 _).mono ?_; rintro e w' ⟨rfl, hb⟩; rw [show decide (x.f2.length > 2048) = _ from HQ.out]; have HB2 := Aside0.mk (below_then HB.out HB.out.size hb); clear hb)
        go_roundw
        case rel => exact ⟨k + 1, by omega, by go_num, ⟨HI.out.trans HI3.out⟩, HB2⟩
        case measure => simp [intOf]; omega
    · have HI2 : firstAt longE l k = -1 := by rw [firstAt, dif_neg hlt]
      have HI3 := Aside0.mk HI2
      clear HI2
      go_wp2
      go_ret
      exact ⟨by rw [HI.out, HI3.out]; rfl, HB.out⟩

set_option maxHeartbeats 2000000 in
theorem index51_any (A : Option Addr) (c : Nat) (l : List (List Int)) (w : World) (hl : l.length ≤ 4611686018427387904) (hr : Kd.C (Kd.slice 5 (Kd.int .u8)) w A l.length l) :
    Calls Try.prog 51 #[.slice A l.length c, .func (.func 26) #[] #[]] w fun e w' => e = .returned (.int .i64 (firstAt oddB l 0)) ∧ Below w.heap.size w w' := by
  have HR := Aside0.mk hr
  clear hr
  go_enter Try.func51, Try.ntmps51
  go_wp2
  go_loopw [8] (fun i wr => ∃ k : Nat, k ≤ l.length ∧ i = .int .i64 k ∧ Aside0 (firstAt oddB l 0 = firstAt oddB l k) ∧ Aside0 (Below w.heap.size w wr)) (fun i _ => l.length - (intOf i).toNat)
  case atStart => exact ⟨0, Nat.zero_le _, rfl, ⟨rfl⟩, ⟨Below.refl _ _⟩⟩
  case round =>
    obtain ⟨k, hk, rfl, HI, HB⟩ := hrel
    by_cases hlt : k < l.length
    · have HC := Kd.C_below HR.out HB.out
      obtain ⟨ad, A2, c2, e, y0, hl2, hB2⟩ := at_L2 HC (k : Int) (by omega) (by omega)
      cases e
      rw [Int.toNat_natCast] at y0
      clear hB2
      have hx2 : rd_L2 l (k : Int) = l[k] := by
        unfold rd_L2
        rw [List.getD_eq_getElem?_getD, Int.toNat_natCast, List.getElem?_eq_getElem hlt]
        rfl
      generalize rd_L2 l (k : Int) = x at *
      have han : (ad.add (k)).block < wr.heap.size := World.block_lt_of_cell? wr _ y0
      cases hq : oddB x with
      | true =>
        have HI2 : firstAt oddB l k = k := by rw [firstAt, dif_pos hlt, ← hx2, if_pos hq]
        have HI3 := Aside0.mk HI2
        have HQ := Aside0.mk hq
        clear HI2 hx2 hq HC
        go_wp2_with (go_at_call 26; refine (oddB_any A2 x.length c2 _).mono ?_; rintro e w' ⟨rfl, rfl⟩; rw [show (!decide (x.length = 128)) = _ from HQ.out]; have HB2 := HB)
        go_ret
        exact ⟨by rw [HI.out, HI3.out]; rfl, HB2.out⟩
      | false =>
        have HI2 : firstAt oddB l k = firstAt oddB l (k + 1) := by rw [firstAt, dif_pos hlt, ← hx2, if_neg (by rw [hq]; simp)]
        have HI3 := Aside0.mk HI2
        have HQ := Aside0.mk hq
        clear HI2 hx2 hq HC
        go_wp2_with (go_at_call 26; refine (oddB_any A2 x.length c2 _).mono ?_; rintro e w' ⟨rfl, rfl⟩; rw [show (!decide (x.length = 128)) = _ from HQ.out]; have HB2 := HB)
        go_roundw
        case rel => exact ⟨k + 1, by omega, by go_num, ⟨HI.out.trans HI3.out⟩, HB2⟩
        case measure => simp [intOf]; omega
    · have HI2 : firstAt oddB l k = -1 := by rw [firstAt, dif_neg hlt]
      have HI3 := Aside0.mk HI2
      clear HI2
      go_wp2
      go_ret
      exact ⟨by rw [HI.out, HI3.out]; rfl, HB.out⟩

set_option maxHeartbeats 1000000 in
theorem any23_any (A : Option Addr) (c : Nat) (l : List S44) (w : World) (hl : l.length ≤ 4611686018427387904) (hr : Kd.C k44 w A l.length l) :
    Calls Try.prog 23 #[.slice A l.length c, .func (.func 24) #[] #[]] w fun e w' => e = .returned (.bool (l.any longE)) ∧ Below w.heap.size w w' := by
  have HR := Aside0.mk hr
  clear hr
  have HF := Aside0.mk (first_any longE l)
  go_enter Try.func23, Try.ntmps23
  go_wp2_with (go_at_call 50; refine (index50_any A c l _ hl HR.out).mono ?_; rintro e w' ⟨rfl, hb⟩; have HB2 := Aside0.mk hb; clear hb)
  go_ret
  exact ⟨by rw [← HF.out]; rfl, HB2.out⟩

set_option maxHeartbeats 1000000 in
theorem any25_any (A : Option Addr) (c : Nat) (l : List (List Int)) (w : World) (hl : l.length ≤ 4611686018427387904) (hr : Kd.C (Kd.slice 5 (Kd.int .u8)) w A l.length l) :
    Calls Try.prog 25 #[.slice A l.length c, .func (.func 26) #[] #[]] w fun e w' => e = .returned (.bool (l.any oddB)) ∧ Below w.heap.size w w' := by
  have HR := Aside0.mk hr
  clear hr
  have HF := Aside0.mk (first_any oddB l)
  go_enter Try.func25, Try.ntmps25
  go_wp2_with (go_at_call 51; refine (index51_any A c l _ hl HR.out).mono ?_; rintro e w' ⟨rfl, hb⟩; have HB2 := Aside0.mk hb; clear hb)
  go_ret
  exact ⟨by rw [← HF.out]; rfl, HB2.out⟩
end Go.Proofs.Ytmjbdeoomohanaa.Mine
