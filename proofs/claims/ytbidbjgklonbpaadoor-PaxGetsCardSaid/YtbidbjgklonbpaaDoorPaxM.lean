/- pax: ref's long. -/
import Derived.Test.YtbidbjgklonbpaaDoorPaxL0
import Derived.Test.YtbidbjgklonbpaaDoorPaxCop2
set_option linter.unusedSimpArgs false
set_option linter.unusedVariables false
namespace Go.Proofs.YtbidbjgklonbpaaDoor.Mine
open Go.RowKit Go.Maps Go.Proofs.YtbidbjgklonbpaaDoorW.PrintWords Go.Proofs.YtbidbjgklonbpaaDoorW.PrintLast Go.Proofs.YtbidbjgklonbpaaDoorW.PrintMore Go.Proofs.YtbidbjgklonbpaaDoor.Turn Go.Proofs.YtbidbjgklonbpaaDoor.PPaxGets

def badH (l : List Int) : Prop := lead l 5 = 0 ∨ 4 < lead l 5 ∨ l.getD 0 0 = 48 ∨ lead l 5 = l.length ∨ l.getD (lead l 5) 0 ≠ 32
instance (l : List Int) : Decidable (badH l) := by unfold badH; infer_instance
def longS (l : List Int) : Int × Int := if badH l then (0, 0) else ((numN l (lead l 5) : Int), (lead l 5 : Int))
theorem rd_nat (l : List Int) (d : Nat) : rd l (d : Int) = l.getD d 0 := by unfold rd; rw [Int.toNat_natCast]

theorem long_l0 (l : List Int) (hl : l.length ≤ 1152921504606846976) : ∀ (m d : Nat), d + m = 4 → d ≤ l.length → (∀ i, i < d → isD (l.getD i 0) = true) → (1 ≤ d → l.getD 0 0 ≠ 48) → tabularyref09_long.l0 (2 * m + 2) l (numN l d) d = some (longS l) := by
  intro m
  induction m with
  | zero => 
    intro d hdm hdl hd h48
    have hd4 : d = 4 := by omega
    by_cases hg : d < l.length ∧ isD (l.getD d 0) = true
    · have hx := hg.2
      simp only [isD, Bool.and_eq_true, decide_eq_true_eq] at hx
      have hlead : lead l 5 = 5 := lead_eq 5 l 5 (Nat.le_refl _) (by omega) (fun i hi => by
        by_cases h : i = d
        · rw [h]; exact hg.2
        · exact hd i (by omega)) (.inl rfl)
      simp only [tabularyref09_long.l0, tabularyref09_long.j1]
      rw [if_pos (by omega), if_pos (by omega), rd_nat, if_pos hx.1, if_pos (decide_eq_true hx.2), if_pos (by omega)]
      rw [longS, if_pos (.inr (.inl (by omega)))]
    · have hlead : lead l 5 = d := lead_eq 5 l d (by omega) hdl hd (by
        by_cases h : d = l.length
        · exact .inr (.inl h)
        · refine .inr (.inr ?_)
          cases hb : isD (l.getD d 0)
          · rfl
          · exact absurd ⟨by omega, hb⟩ hg)
      have hj : tabularyref09_long.j1 (2 * 0 + 1) l (numN l d) d false = some (longS l) := by
        simp only [tabularyref09_long.j1]
        rw [if_neg (by simp), if_neg (by omega)]
        by_cases h1 : d = l.length
        · rw [if_pos (by omega), longS, if_pos (.inr (.inr (.inr (.inl (by omega)))))]
        · rw [if_neg (by omega), if_pos (by omega), if_pos (by omega), rd_nat]
          by_cases h2 : l.getD d 0 = 32
          · rw [if_pos h2, longS, if_neg, hlead]
            rw [badH, hlead]
            rintro (h | h | h | h | h)
            · omega
            · omega
            · exact h48 (by omega) h
            · exact h1 h
            · exact h h2
          · rw [if_neg h2, longS, if_pos (.inr (.inr (.inr (.inr (by rw [hlead]; exact h2)))))]
      show tabularyref09_long.l0 (2 * 0 + 1 + 1) l (numN l d) d = _
      unfold tabularyref09_long.l0
      by_cases h1 : d < l.length
      · rw [if_pos (by omega), if_pos (by omega), rd_nat]
        by_cases h2 : l.getD d 0 ≥ 48
        · rw [if_pos h2, show decide (l.getD d 0 ≤ 57) = false from decide_eq_false (fun h3 => hg ⟨h1, by simp only [isD, Bool.and_eq_true, decide_eq_true_eq]; exact ⟨h2, h3⟩⟩)]
          exact hj
        · rw [if_neg h2]
          exact hj
      · rw [if_neg (by omega)]
        exact hj
  | succ m ih =>
    intro d hdm hdl hd h48
    have hk : 2 * (m + 1) + 2 = 2 * m + 2 + 1 + 1 := by omega
    by_cases hg : d < l.length ∧ isD (l.getD d 0) = true
    · have hx := hg.2
      simp only [isD, Bool.and_eq_true, decide_eq_true_eq] at hx
      have hd2 : ∀ i, i < d + 1 → isD (l.getD i 0) = true := fun i hi => by
        by_cases h : i = d
        · rw [h]; exact hg.2
        · exact hd i (by omega)
      have hlt := numN_lt hdl hd
      have hp : 10 ^ d ≤ 10 ^ 4 := Nat.pow_le_pow_right (by decide) (by omega)
      have hs := numN_succ hg.1 hd2
      have hw : wrap64 ((wrap64 ((wrap64 (10 * (numN l d : Int))) + (wrap64 (l.getD d 0)))) - 48) = (numN l (d + 1) : Int) := by
        rw [wrap_id (x := 10 * (numN l d : Int)) (by omega) (by omega), wrap_id (x := l.getD d 0) (by omega) (by omega), wrap_id (x := 10 * (numN l d : Int) + l.getD d 0) (by omega) (by omega), wrap_id (by omega) (by omega)]
        omega
      have hw2 : wrap64 ((d : Int) + 1) = ((d + 1 : Nat) : Int) := by rw [wrap_id (by omega) (by omega)]; omega
      rw [hk]
      simp only [tabularyref09_long.l0, tabularyref09_long.j1]
      rw [if_pos (by omega), if_pos (by omega), rd_nat, if_pos hx.1, if_pos (decide_eq_true hx.2), if_neg (by omega)]
      by_cases h0 : d = 0
      · rw [if_pos (by omega), if_pos (by omega), show rd l 0 = l.getD 0 0 from rfl]
        by_cases h8 : l.getD 0 0 = 48
        · rw [if_pos h8, longS, if_pos (.inr (.inr (.inl h8)))]
        · rw [if_neg h8, if_pos (by omega), if_pos (by omega), hw, hw2]
          exact ih (d + 1) (by omega) (by omega) hd2 (fun _ => h8)
      · rw [if_neg (by omega), if_pos (by omega), if_pos (by omega), hw, hw2]
        exact ih (d + 1) (by omega) (by omega) hd2 (fun _ => h48 (by omega))
    · have hlead : lead l 5 = d := lead_eq 5 l d (by omega) hdl hd (by
        by_cases h : d = l.length
        · exact .inr (.inl h)
        · refine .inr (.inr ?_)
          cases hb : isD (l.getD d 0)
          · rfl
          · exact absurd ⟨by omega, hb⟩ hg)
      have hj : tabularyref09_long.j1 (2 * m + 2 + 1) l (numN l d) d false = some (longS l) := by
        simp only [tabularyref09_long.j1]
        rw [if_neg (by simp)]
        by_cases h0 : d = 0
        · rw [if_pos (by omega), longS, if_pos (.inl (by omega))]
        rw [if_neg (by omega)]
        by_cases h1 : d = l.length
        · rw [if_pos (by omega), longS, if_pos (.inr (.inr (.inr (.inl (by omega)))))]
        · rw [if_neg (by omega), if_pos (by omega), if_pos (by omega), rd_nat]
          by_cases h2 : l.getD d 0 = 32
          · rw [if_pos h2, longS, if_neg, hlead]
            rw [badH, hlead]
            rintro (h | h | h | h | h)
            · omega
            · omega
            · exact h48 (by omega) h
            · exact h1 h
            · exact h h2
          · rw [if_neg h2, longS, if_pos (.inr (.inr (.inr (.inr (by rw [hlead]; exact h2)))))]
      rw [hk]
      unfold tabularyref09_long.l0
      by_cases h1 : d < l.length
      · rw [if_pos (by omega), if_pos (by omega), rd_nat]
        by_cases h2 : l.getD d 0 ≥ 48
        · rw [if_pos h2, show decide (l.getD d 0 ≤ 57) = false from decide_eq_false (fun h3 => hg ⟨h1, by simp only [isD, Bool.and_eq_true, decide_eq_true_eq]; exact ⟨h2, h3⟩⟩)]
          exact hj
        · rw [if_neg h2]
          exact hj
      · rw [if_neg (by omega)]
        exact hj
theorem long_any (A : Option Addr) (c : Nat) (l : List Int) (hl : l.length ≤ 1152921504606846976) (hc : l.length ≤ c) (w : World) (hr : Kd.C (Kd.int .u8) w A l.length l) :
    Calls Tryd.prog 54 #[.slice A l.length c] w fun e w' => e = .returned (.tuple #[.int .i64 (longS l).1, .int .i64 (longS l).2]) ∧ Below w.heap.size w w' :=
  (tabularyref09_long.calls 10 A c l _ _ w hr hc (long_l0 l hl 4 0 rfl (by omega) (fun i hi => by omega) (fun h => by omega))).mono fun e w' ⟨h1, h2⟩ => ⟨h1, h2.below⟩
end Go.Proofs.YtbidbjgklonbpaaDoor.Mine
