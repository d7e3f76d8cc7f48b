/- space: plain laws of free runs: order, cells, first places. -/
import Derived.Test.YtdcccimdgbkniaaSpH
set_option linter.unusedSimpArgs false
set_option linter.unusedVariables false
namespace Go.Proofs.Ytdcccimdgbkniaa.Mine
open Go.RowKit

/-- Runs in order, none of them empty, a cell at least between two of them. -/
def Good (n : Int) : Int → List R2 → Prop
  | _, [] => True
  | lo, r :: l => lo ≤ r.1 ∧ r.1 < r.2 ∧ r.2 ≤ n ∧ Good n (r.2 + 1) l
def endOf : Int → List R2 → Int
  | lo, [] => lo
  | _, r :: l => endOf (r.2 + 1) l
theorem Good.weak {n lo lo' : Int} {l : List R2} (h : Good n lo l) (hl : lo' ≤ lo) : Good n lo' l := by
  cases l with
  | nil => trivial
  | cons r l => exact ⟨by have := h.1; omega, h.2⟩
theorem good_append {n : Int} : ∀ {l1 l2 : List R2} {lo : Int}, Good n lo (l1 ++ l2) ↔ Good n lo l1 ∧ Good n (endOf lo l1) l2
  | [], l2, lo => by simp [Good, endOf]
  | r :: l1, l2, lo => by
    simp only [List.cons_append, Good, endOf]
    rw [good_append]
    simp only [and_assoc]
theorem endOf_append : ∀ (l1 l2 : List R2) (lo : Int), endOf lo (l1 ++ l2) = endOf (endOf lo l1) l2
  | [], _, _ => rfl
  | r :: l1, l2, lo => by simp only [List.cons_append, endOf]; exact endOf_append l1 l2 _
theorem endOf_le {n : Int} : ∀ {l : List R2} {lo : Int}, Good n lo l → lo ≤ n + 1 → lo ≤ endOf lo l ∧ endOf lo l ≤ n + 1
  | [], lo, _, h => ⟨Int.le_refl _, h⟩
  | r :: l, lo, h, _ => by
    have := endOf_le h.2.2.2 (by have := h.2.2.1; omega)
    have h1 := h.1
    have h2 := h.2.1
    simp only [endOf]
    omega
theorem good_mem {n : Int} : ∀ {l : List R2} {lo : Int}, Good n lo l → ∀ r ∈ l, lo ≤ r.1 ∧ r.1 < r.2 ∧ r.2 ≤ n
  | [], _, _, r, hr => by cases hr
  | x :: l, lo, h, r, hr => by
    rcases List.mem_cons.1 hr with rfl | hr
    · exact ⟨h.1, h.2.1, h.2.2.1⟩
    · have := good_mem h.2.2.2 r hr
      have h1 := h.1
      have h2 := h.2.1
      omega
theorem good_small {n : Int} {l : List R2} (h : Good n 0 l) (hn : n ≤ 65536) : Small l := fun r hr => by
  have := good_mem h r hr
  omega
theorem good_len {n : Int} : ∀ {l : List R2} {lo : Int}, Good n lo l → (l.length : Int) ≤ max 0 (n - lo)
  | [], lo, _ => by simp; omega
  | r :: l, lo, h => by
    have := good_len h.2.2.2
    have h1 := h.1
    have h2 := h.2.1
    have h3 := h.2.2.1
    simp only [List.length_cons, Int.natCast_add, Int.natCast_one]
    omega
theorem good_length {n : Int} {l : List R2} (h : Good n 0 l) (hn : n ≤ 65536) : l.length ≤ 65536 := by
  have := good_len h
  omega
theorem split_at {l : List R2} {i : Nat} (h : i < l.length) : l = l.take i ++ l[i] :: l.drop (i + 1) := by
  rw [← List.drop_eq_getElem_cons h, List.take_append_drop]

/-- Is a cell in a run? How many of some runs hold it? -/
def ind (a e i : Int) : Nat := if a ≤ i ∧ i < e then 1 else 0
def covL : List R2 → Int → Nat
  | [], _ => 0
  | r :: l, i => ind r.1 r.2 i + covL l i
theorem covL_append : ∀ (l1 l2 : List R2) (i : Int), covL (l1 ++ l2) i = covL l1 i + covL l2 i
  | [], _, _ => by simp [covL]
  | r :: l1, l2, i => by simp only [List.cons_append, covL, covL_append l1 l2 i]; omega
theorem ind_split {a b c : Int} (h1 : a ≤ b) (h2 : b ≤ c) (i : Int) : ind a c i = ind a b i + ind b c i := by
  unfold ind
  by_cases ha : a ≤ i <;> by_cases hb : i < b <;> by_cases hc : i < c <;> by_cases hd : b ≤ i <;> simp [ha, hb, hc, hd] <;> omega
theorem ind_empty {a b : Int} (h : b ≤ a) (i : Int) : ind a b i = 0 := by
  unfold ind
  rw [if_neg (by omega)]
theorem good_cov {n : Int} : ∀ {l : List R2} {lo : Int}, Good n lo l → ∀ i, (i < lo → covL l i = 0) ∧ covL l i ≤ 1 ∧ (n ≤ i → covL l i = 0)
  | [], _, _, i => by simp [covL]
  | r :: l, lo, h, i => by
    obtain ⟨h1, h2, h3⟩ := good_cov h.2.2.2 i
    have g1 := h.1
    have g2 := h.2.1
    have g3 := h.2.2.1
    unfold covL ind
    refine ⟨fun hi => ?_, ?_, fun hi => ?_⟩
    · rw [if_neg (by omega), h1 (by omega)]
    · split
      · rw [h1 (by omega)]; omega
      · omega
    · rw [if_neg (by omega), h3 hi]
theorem cov_mem : ∀ {l : List R2} {r : R2}, r ∈ l → ∀ i, r.1 ≤ i → i < r.2 → 1 ≤ covL l i
  | x :: l, r, h, i, h1, h2 => by
    rcases List.mem_cons.1 h with rfl | h
    · unfold covL ind; rw [if_pos ⟨h1, h2⟩]; omega
    · have := cov_mem h i h1 h2
      unfold covL; omega
theorem mem_cov : ∀ {l : List R2} {i : Int}, 1 ≤ covL l i → ∃ r ∈ l, r.1 ≤ i ∧ i < r.2
  | x :: l, i, h => by
    unfold covL ind at h
    split at h
    · exact ⟨x, List.mem_cons_self, by omega⟩
    · obtain ⟨r, h1, h2⟩ := mem_cov (l := l) (i := i) (by omega)
      exact ⟨r, List.mem_cons_of_mem _ h1, h2⟩
  | [], i, h => by simp [covL] at h

/-- Two lists of runs in order that hold the same cells are one. -/
theorem good_ext {n : Int} : ∀ {l l' : List R2} {lo : Int}, Good n lo l → Good n lo l' → (∀ i, covL l i = covL l' i) → l = l'
  | [], [], _, _, _, _ => rfl
  | [], r :: l', lo, _, h', hc => by
    have := hc r.1
    have g := h'.2.1
    unfold covL covL ind at this
    rw [if_pos (by omega)] at this
    omega
  | r :: l, [], lo, h, _, hc => by
    have := hc r.1
    have g := h.2.1
    unfold covL covL ind at this
    rw [if_pos (by omega)] at this
    omega
  | r :: l, r' :: l', lo, h, h', hc => by
    obtain ⟨a1, a2, a3, a4⟩ := h
    obtain ⟨b1, b2, b3, b4⟩ := h'
    have e1 : r.1 = r'.1 := by
      have c1 := hc r.1
      have c2 := hc r'.1
      have z1 := (good_cov b4 r.1).1
      have z2 := (good_cov a4 r'.1).1
      unfold covL ind at c1 c2
      rw [if_pos (by omega)] at c1
      rw [if_pos (show r'.1 ≤ r'.1 ∧ r'.1 < r'.2 by omega)] at c2
      split at c1 <;> split at c2 <;> omega
    have e2 : r.2 = r'.2 := by
      have c1 := hc r.2
      have c2 := hc r'.2
      have z1 := (good_cov a4 r.2).1 (by omega)
      have z2 := (good_cov b4 r'.2).1 (by omega)
      unfold covL ind at c1 c2
      rw [if_neg (by omega), z1] at c1
      rw [if_neg (show ¬ (r'.1 ≤ r'.2 ∧ r'.2 < r'.2) by omega), z2] at c2
      split at c1 <;> split at c2 <;> omega
    obtain rfl : r = r' := Prod.ext e1 e2
    rw [good_ext a4 b4 (fun i => by have := hc i; unfold covL at this; omega)]

/-- A stretch of free cells lies in one run. -/
theorem free_in_run {n : Int} : ∀ {l : List R2} {lo a e : Int}, Good n lo l → a < e → (∀ i, a ≤ i → i < e → 1 ≤ covL l i) → ∃ k, ∃ h : k < l.length, l[k].1 ≤ a ∧ e ≤ l[k].2
  | [], lo, a, e, _, hae, hc => by have := hc a (by omega) hae; simp [covL] at this
  | r :: l, lo, a, e, h, hae, hc => by
    obtain ⟨a1, a2, a3, a4⟩ := h
    by_cases h1 : r.2 ≤ a
    · obtain ⟨k, hk, h2, h3⟩ := free_in_run (l := l) a4 hae (fun i hi1 hi2 => by
        have := hc i hi1 hi2
        unfold covL ind at this
        rw [if_neg (by omega)] at this
        omega)
      exact ⟨k + 1, by simp; omega, by simpa using h2, by simpa using h3⟩
    · by_cases h2 : r.1 ≤ a
      · refine ⟨0, by simp, by simpa using h2, ?_⟩
        simp only [List.getElem_cons_zero]
        by_cases h3 : e ≤ r.2
        · exact h3
        · have := hc r.2 (by omega) (by omega)
          unfold covL ind at this
          rw [if_neg (by omega), (good_cov a4 r.2).1 (by omega)] at this
          omega
      · have := hc a (by omega) hae
        unfold covL ind at this
        rw [if_neg (by omega), (good_cov a4 a).1 (by omega)] at this
        omega

/-- What is cut out of a run. -/
theorem cut_good {n : Int} {l : List R2} {k : Nat} {x : R2} (h : Good n 0 l) (hk : k < l.length) (h1 : l[k].1 ≤ x.1) (h2 : x.1 < x.2) (h3 : x.2 ≤ l[k].2) : Good n 0 (cutL l k x) ∧ ∀ i, covL l i = covL (cutL l k x) i + ind x.1 x.2 i := by
  have hs := split_at hk
  have hc : cutL l k x = l.take k ++ leftL l[k] x ++ l.drop (k + 1) := by rw [cutL, List.getD_eq_getElem?_getD, List.getElem?_eq_getElem hk]; rfl
  rw [hc]
  rw [hs] at h
  generalize l[k] = f at *
  generalize l.take k = A at *
  generalize l.drop (k + 1) = B at *
  obtain ⟨fa, fe⟩ := f
  obtain ⟨xa, xe⟩ := x
  simp only at *
  rw [good_append] at h
  obtain ⟨g1, g2, g3, g4, g5⟩ := h
  simp only at g2 g3 g4 g5
  constructor
  · rw [List.append_assoc, good_append]
    refine ⟨g1, ?_⟩
    unfold leftL
    simp only
    by_cases c1 : fa < xa <;> by_cases c2 : xe < fe
    · rw [if_pos c1, if_pos c2]
      exact ⟨g2, c1, by simp only; omega, by simp only; omega, c2, g4, g5⟩
    · rw [if_pos c1, if_neg c2]
      exact ⟨g2, c1, by simp only; omega, g5.weak (by simp only; omega)⟩
    · rw [if_neg c1, if_pos c2]
      exact ⟨by simp only; omega, c2, g4, g5⟩
    · rw [if_neg c1, if_neg c2]
      exact g5.weak (by omega)
  · intro i
    rw [hs, covL_append, covL_append, covL_append]
    have e1 := ind_split (a := fa) (b := xa) (c := fe) (by omega) (by omega) i
    have e2 := ind_split (a := xa) (b := xe) (c := fe) (by omega) (by omega) i
    have e3 : covL (leftL (fa, fe) (xa, xe)) i = ind fa xa i + ind xe fe i := by
      unfold leftL
      simp only
      by_cases c1 : fa < xa <;> by_cases c2 : xe < fe
      · rw [if_pos c1, if_pos c2]; simp [covL]
      · rw [if_pos c1, if_neg c2, ind_empty (a := xe) (b := fe) (by omega)]; simp [covL]
      · rw [if_neg c1, if_pos c2, ind_empty (a := fa) (b := xa) (by omega)]; simp [covL]
      · rw [if_neg c1, if_neg c2, ind_empty (a := xe) (b := fe) (by omega), ind_empty (a := fa) (b := xa) (by omega)]; simp [covL]
    rw [e3]
    simp only [covL]
    omega
end Go.Proofs.Ytdcccimdgbkniaa.Mine
