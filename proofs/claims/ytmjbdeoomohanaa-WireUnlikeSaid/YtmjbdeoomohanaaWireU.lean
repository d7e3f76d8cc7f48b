/- wire: the document's Same; the law's Great. -/
import Derived.Test.YtmjbdeoomohanaaWireT
import Derived.Lib.Bytes
set_option linter.unusedSimpArgs false
set_option linter.unusedVariables false
namespace Go.Proofs.Ytmjbdeoomohanaa.Mine
open Go.RowKit Go.Maps Go.Proofs.YtmjbdeoomohanaaW.PrintWords Go.Proofs.YtmjbdeoomohanaaW.PrintLast Go.Proofs.YtmjbdeoomohanaaW.PrintMore Go.Proofs.Ytmjbdeoomohanaa.PWirePacks Go.Proofs.Ytmjbdeoomohanaa.Turn

def allEq {α : Type} (eq : α → α → Bool) : List α → List α → Bool
  | [], [] => true
  | x :: xs, y :: ys => eq x y && allEq eq xs ys
  | _, _ => false
theorem allEq_iff {α : Type} {eq : α → α → Bool} : ∀ {a b : List α}, (∀ x ∈ a, ∀ y ∈ b, (eq x y = true ↔ x = y)) → (allEq eq a b = true ↔ a = b)
  | [], [], _ => by simp [allEq]
  | x :: xs, [], _ => by simp [allEq]
  | [], y :: ys, _ => by simp [allEq]
  | x :: xs, y :: ys, h => by
    have h1 := h x List.mem_cons_self y List.mem_cons_self
    have h2 := allEq_iff (eq := eq) (a := xs) (b := ys) (fun x hx y hy => h x (List.mem_cons_of_mem _ hx) y (List.mem_cons_of_mem _ hy))
    simp only [allEq, Bool.and_eq_true, h1, h2, List.cons.injEq]
/-- Two strings of bytes. -/
def strEq (a b : List Int) : Bool := (strOfNums a).toList == (strOfNums b).toList
theorem byte_inj : ∀ {a b : List Int}, Byt a → Byt b → a.map (fun n => UInt8.ofNat n.toNat) = b.map (fun n => UInt8.ofNat n.toNat) → a = b
  | [], [], _, _, _ => rfl
  | [], y :: ys, _, _, h => by simp at h
  | x :: xs, [], _, _, h => by simp at h
  | x :: xs, y :: ys, ha, hb, h => by
    simp only [List.map_cons, List.cons.injEq] at h
    have h1 := congrArg UInt8.toNat h.1
    have hx := ha x List.mem_cons_self
    have hy := hb y List.mem_cons_self
    rw [UInt8.toNat_ofNat', UInt8.toNat_ofNat', Nat.mod_eq_of_lt (by omega), Nat.mod_eq_of_lt (by omega)] at h1
    rw [show x = y by omega, byte_inj (fun z hz => ha z (List.mem_cons_of_mem _ hz)) (fun z hz => hb z (List.mem_cons_of_mem _ hz)) h.2]
theorem strEq_iff {a b : List Int} (ha : Byt a) (hb : Byt b) : strEq a b = true ↔ a = b := by
  unfold strEq
  rw [beq_iff_eq, Lib.strOfNums_toList, Lib.strOfNums_toList]
  exact ⟨fun h => byte_inj ha hb h, fun h => by rw [h]⟩

def eqE (x y : S44) : Bool := (x.f0 == y.f0) && (x.f1 == y.f1) && strEq x.f2 y.f2
def sameL (a b : List S44) : Bool := (a.length == b.length) && allEq eqE a b
theorem rd44 (l : List S44) {k : Nat} (hk : k < l.length) : rd_T44 l (k : Int) = l[k] := by
  unfold rd_T44
  rw [List.getD_eq_getElem?_getD, Int.toNat_natCast, List.getElem?_eq_getElem hk]
  rfl
theorem allEq_step {α : Type} {eq : α → α → Bool} {a b : List α} {k : Nat} (ha : k < a.length) (hb : k < b.length) : allEq eq (a.drop k) (b.drop k) = (eq a[k] b[k] && allEq eq (a.drop (k + 1)) (b.drop (k + 1))) := by
  rw [List.drop_eq_getElem_cons ha, List.drop_eq_getElem_cons hb, allEq]

set_option maxHeartbeats 4000000 in
theorem sameLog_any (A0 A1 : Option Addr) (c0 c1 : Nat) (l0 l1 : List S44) (w : World) (hl0 : l0.length ≤ 4611686018427387904) (hr0 : Kd.C k44 w A0 l0.length l0) (hr1 : Kd.C k44 w A1 l1.length l1) :
    Calls Try.prog 27 #[.slice A0 l0.length c0, .slice A1 l1.length c1] w fun e w' => e = .returned (.bool (sameL l0 l1)) ∧ Drawn0 w w' := by
  have HR0 := Aside0.mk hr0
  have HR1 := Aside0.mk hr1
  have HS := Aside0.mk (sameL.eq_def l0 l1)
  generalize sameL l0 l1 = X at HS ⊢
  clear hr0 hr1
  cases hq : (l0.length == l1.length) with
  | false =>
    have HX : Aside0 (X = false) := ⟨by rw [HS.out, hq]; rfl⟩
    have hq1 : ((l0.length : Int) != (l1.length : Int)) = true := by
      have := beq_eq_false_iff_ne.1 hq
      exact bne_iff_ne.2 (by omega)
    clear hq HS
    go_enter Try.func27, Try.ntmps27
    go_wp2
    go_ret
    exact ⟨by rw [HX.out]; rfl, Drawn0.refl _⟩
  | true =>
    have HX : Aside0 (X = allEq eqE (l0.drop 0) (l1.drop 0)) := ⟨by rw [HS.out, hq]; rfl⟩
    have hlen : l0.length = l1.length := by simpa using hq
    have HLEN := Aside0.mk hlen
    have hq1 : ((l0.length : Int) != (l1.length : Int)) = false := by
      rw [hlen]
      exact bne_eq_false_iff_eq.2 rfl
    clear hq HS hlen
    go_enter Try.func27, Try.ntmps27
    go_wp2
    go_loopw [5] (fun i wr => ∃ k : Nat, k ≤ l0.length ∧ i = .int .i64 k ∧ Aside0 (X = allEq eqE (l0.drop k) (l1.drop k)) ∧ Drawn0 w wr) (fun i _ => l0.length - (intOf i).toNat)
    case atStart => exact ⟨0, Nat.zero_le _, rfl, HX, Drawn0.refl _⟩
    case round =>
      clear HX hq1
      obtain ⟨k, hk, rfl, HX, ⟨m1, rfl⟩⟩ := hrel
      by_cases hlt : k < l0.length
      · obtain ⟨ad, A2, c2, e, x0, x1, x2, hl2, hB2⟩ := at_T44 HR0.out (k : Int) (by omega) (by omega)
        cases e
        obtain ⟨bd, A3, c3, e, y0, y1, y2, hl3, hB3⟩ := at_T44 HR1.out (k : Int) (by omega) (by have := HLEN.out; omega)
        cases e
        rw [Int.toNat_natCast] at x0 x1 x2 y0 y1 y2
        have hlt1 : k < l1.length := by have := HLEN.out; omega
        have HXS : Aside0 (X = (eqE (rd_T44 l0 k) (rd_T44 l1 k) && allEq eqE (l0.drop (k + 1)) (l1.drop (k + 1)))) := ⟨by rw [HX.out, allEq_step hlt hlt1, rd44 l0 hlt, rd44 l1 hlt1]⟩
        generalize rd_T44 l0 (k : Int) = x at *
        generalize rd_T44 l1 (k : Int) = y at *
        have hcv1 := fun n => Kd.C_string (P := Try.prog) (A := A2) (c := c2) Try.underlying24 Try.underlying5 Try.underlying9 (Kd.C_drewN hB2 n)
        have hcv2 := fun n => Kd.C_string (P := Try.prog) (A := A3) (c := c3) Try.underlying24 Try.underlying5 Try.underlying9 (Kd.C_drewN hB3 n)
        clear hB2 hB3 HX
        have hlt2 : decide ((k : Int) < (l1.length : Int)) = true := by simpa using hlt1
        cases q0 : (x.f0 == y.f0) with
        | false =>
          have HY : Aside0 (X = false) := ⟨by rw [HXS.out, eqE, q0]; rfl⟩
          have q0' : (x.f0 != y.f0) = true := by rw [bne, q0]; rfl
          clear HXS
          go_wp2
          go_quiet (fail)
          try go_wp2
          go_ret
          exact ⟨by rw [HY.out]; rfl, by repeat (first | exact Drawn0.refl _ | apply Drawn0.step)⟩
        | true =>
          have q0' : (x.f0 != y.f0) = false := by rw [bne, q0]; rfl
          cases q1 : (x.f1 == y.f1) with
          | false =>
            have HY : Aside0 (X = false) := ⟨by rw [HXS.out, eqE, q0, q1]; rfl⟩
            have q1' : (x.f1 != y.f1) = true := by rw [bne, q1]; rfl
            clear HXS
            go_wp2
            go_quiet (fail)
            try go_wp2
            go_ret
            exact ⟨by rw [HY.out]; rfl, by repeat (first | exact Drawn0.refl _ | apply Drawn0.step)⟩
          | true =>
            have q1' : (x.f1 != y.f1) = false := by rw [bne, q1]; rfl
            cases q2 : ((strOfNums x.f2).toList == (strOfNums y.f2).toList) with
            | false =>
              have HY : Aside0 (X = false) := ⟨by rw [HXS.out, eqE, q0, q1, strEq, q2]; rfl⟩
              have q2' : ((strOfNums x.f2).toList != (strOfNums y.f2).toList) = true := by rw [bne, q2]; rfl
              clear HXS
              go_wp2
              go_quiet (fail)
              try go_wp2
              go_ret
              exact ⟨by rw [HY.out]; rfl, by repeat (first | exact Drawn0.refl _ | apply Drawn0.step)⟩
            | true =>
              have HY : Aside0 (X = allEq eqE (l0.drop (k + 1)) (l1.drop (k + 1))) := ⟨by rw [HXS.out, eqE, q0, q1, strEq, q2]; rfl⟩
              have q2' : ((strOfNums x.f2).toList != (strOfNums y.f2).toList) = false := by rw [bne, q2]; rfl
              clear HXS
              go_wp2
              go_quiet (fail)
              try go_wp2
              go_roundw
              case rel => exact ⟨k + 1, by omega, by go_num, HY, by repeat (first | exact Drawn0.refl _ | apply Drawn0.step)⟩
              case measure => simp [intOf]; omega
      · have HY : Aside0 (X = true) := ⟨by
          rw [HX.out, List.drop_eq_nil_of_le (by omega), List.drop_eq_nil_of_le (by have := HLEN.out; omega)]
          rfl⟩
        clear HX
        go_wp2
        go_ret
        exact ⟨by rw [HY.out]; rfl, by repeat (first | exact Drawn0.refl _ | apply Drawn0.step)⟩
end Go.Proofs.Ytmjbdeoomohanaa.Mine
