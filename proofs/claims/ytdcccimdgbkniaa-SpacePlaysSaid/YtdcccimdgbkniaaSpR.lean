/- space: what Give does, plainly. -/
import Derived.Test.YtdcccimdgbkniaaSpQ
import Derived.Test.YtdcccimdgbkniaaSpI
set_option linter.unusedSimpArgs false
set_option linter.unusedVariables false
namespace Go.Proofs.Ytdcccimdgbkniaa.Mine
open Go.RowKit

def Apart (r x : R2) : Prop := x.2 ≤ r.1 ∨ r.2 ≤ x.1
theorem soG_false {x r : R2} : soG x r = false ↔ Apart r x := by
  unfold soG soA Apart
  by_cases h1 : x.2 ≤ r.1 <;> by_cases h2 : r.2 ≤ x.1 <;> simp [h1, h2]
theorem give_spec (n : Int) (l : List R2) (a c : Int) :
    (rightB n a c = false ∧ giveE n l a c = 1 ∧ giveL n l a c = l) ∨
    (rightB n a c = true ∧ giveE n l a c = 4 ∧ giveL n l a c = l ∧ ∃ r ∈ l, ¬ Apart r (a, a + c)) ∨
    (rightB n a c = true ∧ giveE n l a c = 0 ∧ giveL n l a c = mergeL l (a, a + c) (giveI l (a, a + c)) ∧ ∀ r ∈ l, Apart r (a, a + c)) := by
  cases hr : rightB n a c with
  | false => exact .inl ⟨rfl, by rw [giveE, hr]; rfl, by rw [giveL, hr]; rfl⟩
  | true =>
    rcases firstAt_spec (soG (a, a + c)) l l.length 0 (by omega) with ⟨h2, h3⟩ | ⟨k, h2, _, hk, h4, h5⟩
    · refine .inr (.inr ⟨rfl, by rw [giveE, hr, h2]; rfl, by rw [giveL, hr, h2]; rfl, fun r hr => ?_⟩)
      obtain ⟨j, hj, rfl⟩ := List.getElem_of_mem hr
      exact soG_false.1 (h3 j (by omega) hj)
    · exact .inr (.inl ⟨rfl, by rw [giveE, hr, h2, if_pos rfl, if_neg (by omega)], by rw [giveL, hr, h2, if_pos rfl, if_neg (by omega)], l[k], List.getElem_mem hk, fun h => by rw [soG_false.2 h] at h4; cases h4⟩)
theorem giveI_spec {l : List R2} {x : R2} : giveI l x ≤ l.length ∧ (∀ j, (h : j < l.length) → j < giveI l x → l[j].1 < x.2) ∧ ((h : giveI l x < l.length) → x.2 ≤ l[giveI l x].1) := by
  rcases firstAt_spec (soB x) l l.length 0 (by omega) with ⟨h2, h3⟩ | ⟨k, h2, _, hk, h4, h5⟩
  · have e : giveI l x = l.length := by rw [giveI, h2]; rfl
    rw [e]
    refine ⟨Nat.le_refl _, fun j h _ => ?_, fun h => absurd h (Nat.lt_irrefl _)⟩
    have := h3 j (by omega) h
    simp [soB] at this
    omega
  · have e : giveI l x = k := by rw [giveI, h2, if_neg (by omega), Int.toNat_natCast]
    refine ⟨by omega, fun j h hj => ?_, fun h => ?_⟩
    · have := h5 j (by omega) (by omega)
      simp [soB] at this
      omega
    · have h6 : l[giveI l x] = l[k] := by congr 1
      rw [h6]
      simpa [soB] using h4

theorem getD_at {l : List R2} {i : Nat} (h : i < l.length) : l.getD i (0, 0) = l[i] := by
  rw [List.getD_eq_getElem?_getD, List.getElem?_eq_getElem h]; rfl

theorem merge_good {n : Int} {l : List R2} {x : R2} (h : Good n 0 l) (h1 : 0 ≤ x.1) (h2 : x.1 < x.2) (h3 : x.2 ≤ n) (hap : ∀ r ∈ l, Apart r x) :
    Good n 0 (mergeL l x (giveI l x)) ∧ ∀ i, covL (mergeL l x (giveI l x)) i = covL l i + ind x.1 x.2 i := by
  obtain ⟨g1, g2, g3⟩ := giveI_spec (l := l) (x := x)
  generalize giveI l x = i at *
  have hbef : ∀ r ∈ l.take i, r.2 ≤ x.1 := fun r hr => by
    obtain ⟨j, hj, rfl⟩ := List.getElem_of_mem hr
    have hjl : j < l.length := by rw [List.length_take] at hj; omega
    have hji : j < i := by rw [List.length_take] at hj; omega
    have e : (l.take i)[j] = l[j] := List.getElem_take
    rw [e]
    have := g2 j hjl hji
    rcases hap _ (List.getElem_mem hjl) with h | h <;> omega
  have hl : l = l.take i ++ l.drop i := (List.take_append_drop i l).symm
  have hg := h
  rw [hl, good_append] at hg
  obtain ⟨hA, hB⟩ := hg
  -- the right neighbour
  have hR : ∃ R : List R2, ∃ e : Int, x.2 ≤ e ∧ l.drop (if rightM l x i then i + 1 else i) = R ∧ (if rightM l x i then (l.getD i (0, 0)).2 else x.2) = e ∧ Good n (e + 1) R ∧ e ≤ n ∧ ∀ j, covL (l.drop i) j + ind x.1 x.2 j = covL R j + ind x.1 e j := by
    by_cases hi : i < l.length
    · have hd := List.drop_eq_getElem_cons hi
      have hq := g3 hi
      rw [hd] at hB
      obtain ⟨b1, b2, b3, b4⟩ := hB
      by_cases he : l[i].1 = x.2
      · have hm : rightM l x i = true := by rw [rightM, getD_at hi]; simp [hi, he]
        rw [hm]
        refine ⟨_, _, ?_, rfl, rfl, ?_, ?_, fun j => ?_⟩
        · rw [if_pos rfl, getD_at hi]; omega
        · rw [if_pos rfl, if_pos rfl, getD_at hi]; exact b4
        · rw [if_pos rfl, getD_at hi]; exact b3
        · rw [if_pos rfl, if_pos rfl, getD_at hi, hd]
          have := ind_split (a := x.1) (b := x.2) (c := l[i].2) (by omega) (by omega) j
          simp only [covL, he]
          omega
      · have hm : rightM l x i = false := by rw [rightM, getD_at hi]; simp [he]
        rw [hm]
        refine ⟨_, _, Int.le_refl _, rfl, rfl, ?_, h3, fun j => rfl⟩
        simp only [Bool.false_eq_true, if_false]
        rw [hd]
        exact ⟨by omega, b2, b3, b4⟩
    · have hm : rightM l x i = false := by rw [rightM]; simp [hi]
      rw [hm]
      refine ⟨_, _, Int.le_refl _, rfl, rfl, ?_, h3, fun j => rfl⟩
      simp only [Bool.false_eq_true, if_false]
      rw [List.drop_eq_nil_of_le (by omega)]
      trivial
  obtain ⟨R, e, r1, r2, r3, r4, r5, r6⟩ := hR
  have hL : ∃ L : List R2, ∃ s : Int, l.take (if leftM l x i then i - 1 else i) = L ∧ (if leftM l x i then (l.getD (i - 1) (0, 0)).1 else x.1) = s ∧ Good n 0 L ∧ endOf 0 L ≤ s ∧ s ≤ x.1 ∧ ∀ j, covL (l.take i) j + ind x.1 e j = covL L j + ind s e j := by
    by_cases h0 : 0 < i
    · have hp : i - 1 < l.length := by omega
      have ht : l.take i = l.take (i - 1) ++ [l[i - 1]] := by
        have := List.take_succ_eq_append_getElem hp
        rwa [show i - 1 + 1 = i by omega] at this
      have hpe := hbef l[i - 1] (by rw [ht]; exact List.mem_append_right _ (List.mem_singleton.2 rfl))
      rw [ht, good_append] at hA
      obtain ⟨a1, a2, a3, a4, -⟩ := hA
      by_cases he : l[i - 1].2 = x.1
      · have hm : leftM l x i = true := by rw [leftM, getD_at hp]; simp [h0, he]
        rw [hm]
        refine ⟨_, _, rfl, rfl, ?_, ?_, ?_, fun j => ?_⟩
        · rw [if_pos rfl]; exact a1
        · rw [if_pos rfl, if_pos rfl, getD_at hp]; exact a2
        · rw [if_pos rfl, getD_at hp]; omega
        · rw [if_pos rfl, if_pos rfl, getD_at hp, ht, covL_append]
          have := ind_split (a := l[i - 1].1) (b := x.1) (c := e) (by omega) (by omega) j
          simp only [covL, he]
          omega
      · have hm : leftM l x i = false := by rw [leftM, getD_at hp]; simp [he]
        rw [hm]
        refine ⟨_, _, rfl, rfl, ?_, ?_, Int.le_refl _, fun j => rfl⟩
        · simp only [Bool.false_eq_true, if_false]
          rw [ht, good_append]
          exact ⟨a1, a2, a3, a4, trivial⟩
        · simp only [Bool.false_eq_true, if_false]
          rw [ht, endOf_append]
          simp only [endOf]
          omega
    · obtain rfl : i = 0 := by omega
      have hm : leftM l x 0 = false := by simp [leftM]
      rw [hm]
      refine ⟨[], x.1, by simp, by simp, trivial, h1, Int.le_refl _, fun j => by simp⟩
  obtain ⟨L, s, l1, l2, l3, l4, l5, l6⟩ := hL
  rw [mergeL, l1, l2, r2, r3]
  constructor
  · rw [List.append_assoc, good_append]
    exact ⟨l3, l4, by show s < e; omega, r5, r4⟩
  · intro j
    rw [covL_append, covL_append]
    have q1 := l6 j
    have q2 := r6 j
    have q3 : covL l j = covL (l.take i) j + covL (l.drop i) j := by rw [← covL_append, List.take_append_drop]
    simp only [covL]
    omega
theorem give_good {n : Int} {l : List R2} (h : Good n 0 l) (a c : Int) : Good n 0 (giveL n l a c) := by
  rcases give_spec n l a c with ⟨_, _, e⟩ | ⟨_, _, e, _⟩ | ⟨h1, _, e, h2⟩
  · rw [e]; exact h
  · rw [e]; exact h
  · rw [e]
    have h4 := rightB_true h1
    exact (merge_good h (by show 0 ≤ a; omega) (by show a < a + c; omega) (by show a + c ≤ n; omega) h2).1
end Go.Proofs.Ytdcccimdgbkniaa.Mine
