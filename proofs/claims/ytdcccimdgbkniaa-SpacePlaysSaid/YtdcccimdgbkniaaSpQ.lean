/- space: what Take, Hold and Give do, plainly. -/
import Derived.Test.YtdcccimdgbkniaaSpP
set_option linter.unusedSimpArgs false
set_option linter.unusedVariables false
namespace Go.Proofs.Ytdcccimdgbkniaa.Mine
open Go.RowKit

theorem take_spec {n : Int} {l : List R2} (h : Good n 0 l) (c : Int) :
    (c < 1 ∧ takeE l c = 1 ∧ takeV l c = 0 ∧ takeL l c = l) ∨
    (1 ≤ c ∧ takeE l c = 3 ∧ takeV l c = 0 ∧ takeL l c = l ∧ ∀ r ∈ l, r.2 - r.1 < c) ∨
    (1 ≤ c ∧ takeE l c = 0 ∧ ∃ k, ∃ hk : k < l.length, takeV l c = l[k].1 ∧ c ≤ l[k].2 - l[k].1 ∧ takeL l c = cutL l k (l[k].1, l[k].1 + c) ∧ ∀ j, (hj : j < k) → l[j].2 - l[j].1 < c) := by
  by_cases h1 : c < 1
  · exact .inl ⟨h1, if_pos h1, if_pos h1, if_pos h1⟩
  rcases firstAt_spec (soT c) l l.length 0 (by omega) with ⟨h2, h3⟩ | ⟨k, h2, _, hk, h4, h5⟩
  · refine .inr (.inl ⟨by omega, by rw [takeE, if_neg h1, h2]; rfl, by rw [takeV, if_neg h1, h2]; rfl, by rw [takeL, if_neg h1, h2]; rfl, fun r hr => ?_⟩)
    obtain ⟨j, hj, rfl⟩ := List.getElem_of_mem hr
    have := h3 j (by omega) hj
    simp [soT] at this
    omega
  · have hV : takeV l c = l[k].1 := by rw [takeV, if_neg h1, h2, if_neg (by omega), Int.toNat_natCast, List.getD_eq_getElem?_getD, List.getElem?_eq_getElem hk]; rfl
    refine .inr (.inr ⟨by omega, by rw [takeE, if_neg h1, h2, if_neg (by omega)], k, hk, hV, by simpa [soT] using h4, by rw [takeL, if_neg h1, h2, if_neg (by omega), Int.toNat_natCast, hV], fun j hj => ?_⟩)
    have := h5 j (by omega) hj
    simp [soT] at this
    omega
theorem hold_spec {n : Int} {l : List R2} (h : Good n 0 l) (a c : Int) :
    (rightB n a c = false ∧ holdE n l a c = 1 ∧ holdL n l a c = l) ∨
    (rightB n a c = true ∧ holdE n l a c = 5 ∧ holdL n l a c = l ∧ ∀ r ∈ l, ¬ (r.1 ≤ a ∧ a + c ≤ r.2)) ∨
    (rightB n a c = true ∧ holdE n l a c = 0 ∧ ∃ k, ∃ hk : k < l.length, l[k].1 ≤ a ∧ a + c ≤ l[k].2 ∧ holdL n l a c = cutL l k (a, a + c)) := by
  cases hr : rightB n a c with
  | false => exact .inl ⟨rfl, by rw [holdE, hr]; rfl, by rw [holdL, hr]; rfl⟩
  | true =>
    rcases firstAt_spec (soH (a, a + c)) l l.length 0 (by omega) with ⟨h2, h3⟩ | ⟨k, h2, _, hk, h4, h5⟩
    · refine .inr (.inl ⟨rfl, by rw [holdE, hr, h2]; rfl, by rw [holdL, hr, h2]; rfl, fun r hr => ?_⟩)
      obtain ⟨j, hj, rfl⟩ := List.getElem_of_mem hr
      have := h3 j (by omega) hj
      simp [soH] at this
      omega
    · have h6 : l[k].1 ≤ a ∧ a + c ≤ l[k].2 := by simpa [soH] using h4
      exact .inr (.inr ⟨rfl, by rw [holdE, hr, h2, if_pos rfl, if_neg (by omega)], k, hk, h6.1, h6.2, by rw [holdL, hr, h2, if_pos rfl, if_neg (by omega), Int.toNat_natCast]⟩)
theorem take_good {n : Int} {l : List R2} (h : Good n 0 l) (c : Int) : Good n 0 (takeL l c) := by
  rcases take_spec h c with ⟨_, _, _, e⟩ | ⟨_, _, _, e, _⟩ | ⟨h1, _, k, hk, _, h2, e, _⟩
  · rw [e]; exact h
  · rw [e]; exact h
  · rw [e]; exact (cut_good (x := (l[k].1, l[k].1 + c)) h hk (Int.le_refl _) (by show l[k].1 < l[k].1 + c; omega) (by show l[k].1 + c ≤ l[k].2; omega)).1
theorem hold_good {n : Int} {l : List R2} (h : Good n 0 l) (a c : Int) : Good n 0 (holdL n l a c) := by
  rcases hold_spec h a c with ⟨_, _, e⟩ | ⟨_, _, e, _⟩ | ⟨h1, _, k, hk, h2, h3, e⟩
  · rw [e]; exact h
  · rw [e]; exact h
  · rw [e]; exact (cut_good h hk h2 (by have := rightB_true h1; show a < a + c; omega) h3).1

theorem sumC_cons (r : R2) (l : List R2) : sumC (r :: l) = r.2 + sumC l := by
  have h : ∀ (l : List R2) (s : Int), l.foldl (fun a r => a + r.2) s = s + sumC l := by
    intro l
    induction l with
    | nil => intro s; simp [sumC]
    | cons x l ih =>
      intro s
      change l.foldl (fun a r => a + r.2) (s + x.2) = s + l.foldl (fun a r => a + r.2) (0 + x.2)
      rw [ih, ih (0 + x.2)]
      omega
  rw [sumC, List.foldl_cons, h]; omega
theorem good_sum {n : Int} : ∀ {l : List R2} {lo : Int}, Good n lo l → 0 ≤ sumC (runL l) ∧ sumC (runL l) ≤ max 0 (n - lo)
  | [], lo, _ => by simp [runL, sumC]; omega
  | r :: l, lo, h => by
    have := good_sum h.2.2.2
    have h1 := h.1
    have h2 := h.2.1
    have h3 := h.2.2.1
    rw [runL, List.map_cons, sumC_cons]
    change 0 ≤ r.2 - r.1 + sumC (runL l) ∧ r.2 - r.1 + sumC (runL l) ≤ _
    omega
theorem good_sums {n : Int} {l : List R2} (h : Good n 0 l) (hn : n ≤ 65536) : ∀ k, k ≤ l.length → 0 ≤ sumC ((runL l).take k) ∧ sumC ((runL l).take k) ≤ 65536 := by
  intro k hk
  have h2 : Good n 0 (l.take k) := by
    rw [← List.take_append_drop k l, good_append] at h
    exact h.1
  have := good_sum h2
  rw [show (runL l).take k = runL (l.take k) by rw [runL, runL, List.map_take]]
  omega
theorem free_good (n : Int) (hn : 0 ≤ n) : Good n 0 (freeL n) := by
  unfold freeL
  split
  · exact ⟨Int.le_refl _, by simpa, Int.le_refl _, trivial⟩
  · trivial
theorem free_cov (n : Int) (i : Int) : covL (freeL n) i = ind 0 n i := by
  unfold freeL
  split
  · simp [covL]
  · rw [ind_empty (by omega)]; rfl
end Go.Proofs.Ytdcccimdgbkniaa.Mine
