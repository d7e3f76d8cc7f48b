/- space: plain laws of the first place, and of giving back. -/
import Derived.Test.YtdcccimdgbkniaaSpR
set_option linter.unusedSimpArgs false
set_option linter.unusedVariables false
namespace Go.Proofs.Ytdcccimdgbkniaa.Mine
open Go.RowKit

theorem modm {m : Int} (hm0 : 0 < m) (hm1 : m ≤ 1048576) (n : Int) : 0 ≤ (wrap64 (n.tmod m + m)).tmod m ∧ (wrap64 (n.tmod m + m)).tmod m < m := by
  have h1 : -m < n.tmod m ∧ n.tmod m < m := by
    refine ⟨?_, Int.tmod_lt_of_pos n hm0⟩
    have := Int.tmod_lt_of_pos (-n) hm0
    rw [Int.neg_tmod] at this
    omega
  have h2 : wrap64 (n.tmod m + m) = n.tmod m + m := by unfold wrap64; omega
  rw [h2]
  exact ⟨Int.tmod_nonneg _ (by omega), Int.tmod_lt_of_pos _ hm0⟩

theorem apart_of_cov {l : List R2} {r x : R2} (hr : r ∈ l) (h1 : r.1 < r.2) (h2 : x.1 < x.2) (hc : ∀ i, covL l i + ind x.1 x.2 i ≤ 1) : Apart r x := by
  by_cases h3 : x.2 ≤ r.1
  · exact .inl h3
  by_cases h4 : r.2 ≤ x.1
  · exact .inr h4
  exfalso
  have h5 := cov_mem hr (max r.1 x.1) (by omega) (by omega)
  have h6 := hc (max r.1 x.1)
  unfold ind at h6
  rw [if_pos (by omega)] at h6
  omega
/-- Giving what is not free: it is taken up, and the cells are more by just these. -/
theorem give_ok {n : Int} {l : List R2} {a c : Int} (h : Good n 0 l) (h1 : 0 ≤ a) (h2 : 1 ≤ c) (h3 : a + c ≤ n) (hc : ∀ i, covL l i + ind a (a + c) i ≤ 1) :
    giveE n l a c = 0 ∧ Good n 0 (giveL n l a c) ∧ ∀ i, covL (giveL n l a c) i = covL l i + ind a (a + c) i := by
  have hr : rightB n a c = true := by simp [rightB]; omega
  have hap : ∀ r ∈ l, Apart r (a, a + c) := fun r hr => apart_of_cov hr (good_mem h r hr).2.1 (by show a < a + c; omega) hc
  rcases give_spec n l a c with ⟨e, _⟩ | ⟨_, _, _, r, hr2, hn⟩ | ⟨_, e, eL, _⟩
  · rw [hr] at e; cases e
  · exact absurd (hap r hr2) hn
  · obtain ⟨g1, g2⟩ := merge_good h (show 0 ≤ (a, a + c).1 from h1) (by show a < a + c; omega) (show (a, a + c).2 ≤ n from h3) hap
    rw [eL]
    exact ⟨e, g1, g2⟩
theorem take_back {n : Int} {l : List R2} {k : Nat} {c : Int} (h : Good n 0 l) (hk : k < l.length) (h1 : 1 ≤ c) (h2 : c ≤ l[k].2 - l[k].1) :
    giveE n (cutL l k (l[k].1, l[k].1 + c)) l[k].1 c = 0 ∧ giveL n (cutL l k (l[k].1, l[k].1 + c)) l[k].1 c = l := by
  have hm := good_mem h _ (List.getElem_mem hk)
  obtain ⟨g1, g2⟩ := cut_good (x := (l[k].1, l[k].1 + c)) h hk (Int.le_refl _) (by show l[k].1 < l[k].1 + c; omega) (by show l[k].1 + c ≤ l[k].2; omega)
  have hc : ∀ i, covL (cutL l k (l[k].1, l[k].1 + c)) i + ind l[k].1 (l[k].1 + c) i ≤ 1 := fun i => by
    have := g2 i
    have h3 := (good_cov h i).2.1
    simp only at this
    omega
  obtain ⟨q1, q2, q3⟩ := give_ok (a := l[k].1) (c := c) g1 (by omega) h1 (by omega) hc
  exact ⟨q1, good_ext q2 h (fun i => by rw [q3 i]; exact (g2 i).symm)⟩
theorem good_getElem_lt {n : Int} : ∀ {l : List R2} {lo : Int}, Good n lo l → ∀ i j, (hi : i < l.length) → (hj : j < l.length) → i < j → l[i].2 < l[j].1
  | [], _, _, i, _, hi, _, _ => by simp at hi
  | r :: l, lo, h, 0, j + 1, hi, hj, _ => by
    have hj2 : j < l.length := by simpa using hj
    have := good_mem h.2.2.2 l[j] (List.getElem_mem hj2)
    simp only [List.getElem_cons_zero, List.getElem_cons_succ]
    omega
  | r :: l, lo, h, i + 1, j + 1, hi, hj, hij => by
    simp only [List.getElem_cons_succ]
    exact good_getElem_lt h.2.2.2 i j (by simpa using hi) (by simpa using hj) (by omega)
theorem hold_before {n : Int} {l : List R2} {k : Nat} {c i : Int} (h : Good n 0 l) (hk : k < l.length) (h1 : 1 ≤ c) (hf : ∀ j, (hj : j < k) → (l[j]'(by omega)).2 - (l[j]'(by omega)).1 < c) (hi : i < l[k].1) :
    (holdE n l i c = 1 ∨ holdE n l i c = 5) ∧ holdL n l i c = l := by
  rcases hold_spec h i c with ⟨_, e, eL⟩ | ⟨_, e, eL, _⟩ | ⟨_, e, j, hj, h2, h3, _⟩
  · exact ⟨.inl e, eL⟩
  · exact ⟨.inr e, eL⟩
  · exfalso
    rcases Nat.lt_trichotomy j k with hjk | rfl | hjk
    · have := hf j hjk; omega
    · omega
    · have := good_getElem_lt h k j hk hj hjk
      have := good_mem h _ (List.getElem_mem hk)
      omega
theorem hold_first {n : Int} {l : List R2} {k : Nat} {c : Int} (h : Good n 0 l) (hk : k < l.length) (h1 : 1 ≤ c) (h2 : c ≤ l[k].2 - l[k].1) : holdE n l l[k].1 c = 0 := by
  have hm := good_mem h _ (List.getElem_mem hk)
  have hr : rightB n l[k].1 c = true := by simp [rightB]; omega
  rcases hold_spec h l[k].1 c with ⟨e, _⟩ | ⟨_, _, _, e⟩ | ⟨_, e, _⟩
  · rw [hr] at e; cases e
  · exact absurd ⟨Int.le_refl _, by omega⟩ (e _ (List.getElem_mem hk))
  · exact e
end Go.Proofs.Ytdcccimdgbkniaa.Mine
