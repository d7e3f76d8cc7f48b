/- space: the runs and the document's cells tell the same, plainly. -/
import Derived.Test.YtdcccimdgbkniaaSpV
import Derived.Test.YtdcccimdgbkniaaSpO
set_option linter.unusedSimpArgs false
set_option linter.unusedVariables false
namespace Go.Proofs.Ytdcccimdgbkniaa.Mine
open Go.RowKit

structure Rel (n : Nat) (L : List R2) (t : List Bool) : Prop where
  good : Good n 0 L
  len : t.length = n
  cov : ∀ i : Int, covL L i = if 0 ≤ i ∧ i < n ∧ t.getD i.toNat false = false then 1 else 0
theorem rel_start (n : Nat) : Rel n (freeL n) (List.replicate n false) := ⟨free_good n (by omega), by simp, fun i => by
  rw [free_cov]
  unfold ind
  by_cases h : 0 ≤ i ∧ i < n
  · rw [if_pos h, if_pos ⟨h.1, h.2, by rw [List.getD_eq_getElem?_getD, List.getElem?_replicate]; split <;> rfl⟩]
  · rw [if_neg h, if_neg (fun h2 => h ⟨h2.1, h2.2.1⟩)]⟩
section
variable {n : Nat} {L : List R2} {t : List Bool}
theorem Rel.runs (h : Rel n L t) : runsTo t t.length = runL L := by
  obtain ⟨L', h1, h2, h3⟩ := runsTo_spec t t.length
  rw [h.len] at h2 h3
  rw [h1, good_ext h2 h.good (fun i => by rw [h3 i, h.cov i])]
theorem cntF_take (t : List Bool) {k : Nat} (h : k < t.length) : cntF (t.take (k + 1)) = cntF (t.take k) + if t.getD k false = false then 1 else 0 := by
  rw [List.take_succ_eq_append_getElem h, cntF, List.countP_append, List.getD_eq_getElem?_getD, List.getElem?_eq_getElem h]
  unfold cntF
  cases t[k] <;> simp
theorem Rel.free (h : Rel n L t) : (cntF t : Int) = sumC (runL L) := by
  have h1 := cntN_cov (N := n) (A := runL L) (fun r hr => by
    obtain ⟨x, hx, rfl⟩ := List.mem_map.1 hr
    have := good_mem h.good x hx
    show 0 ≤ x.1 ∧ 1 ≤ x.2 - x.1 ∧ x.1 + (x.2 - x.1) ≤ (n : Int)
    omega)
  rw [eR_run] at h1
  rw [← h1]
  have h2 : ∀ k, k ≤ n → cntN (covL L) k = cntF (t.take k) := by
    intro k
    induction k with
    | zero => intro _; rfl
    | succ k ih =>
      intro hk
      rw [cntN, ih (by omega), cntF_take t (by rw [h.len]; omega), h.cov k]
      congr 1
      by_cases hg : t.getD k false = false
      · rw [if_pos ⟨by omega, by omega, by rw [Int.toNat_natCast]; exact hg⟩, if_pos hg]
      · rw [if_neg (fun h2 => hg (by have := h2.2.2; rwa [Int.toNat_natCast] at this)), if_neg hg]
  have h3 := h2 n (Nat.le_refl _)
  rw [← h.len, List.take_length, h.len] at h3
  rw [h3]
theorem allB_iff {a c : Nat} {v : Bool} : allB t a c v = true ↔ ∀ k, k < c → t.getD (a + k) false = v := by
  unfold allB
  rw [List.all_eq_true]
  constructor
  · intro h k hk
    simpa using h k (by simpa using hk)
  · intro h k hk
    simpa using h k (by simpa using hk)
theorem Rel.all_free (h : Rel n L t) {a c : Nat} (hac : a + c ≤ n) : allB t a c false = true ↔ ∀ i : Int, (a : Int) ≤ i → i < a + c → 1 ≤ covL L i := by
  rw [allB_iff]
  constructor
  · intro h1 i hi1 hi2
    have := h1 (i.toNat - a) (by omega)
    rw [show a + (i.toNat - a) = i.toNat by omega] at this
    rw [h.cov i, if_pos ⟨by omega, by omega, this⟩]
    omega
  · intro h1 k hk
    have := h1 ((a + k : Nat) : Int) (by omega) (by omega)
    rw [h.cov] at this
    split at this
    · rename_i h2
      have := h2.2.2
      rwa [Int.toNat_natCast] at this
    · omega
theorem Rel.all_taken (h : Rel n L t) {a c : Nat} (hac : a + c ≤ n) : allB t a c true = true ↔ ∀ i : Int, (a : Int) ≤ i → i < a + c → covL L i = 0 := by
  rw [allB_iff]
  constructor
  · intro h1 i hi1 hi2
    have := h1 (i.toNat - a) (by omega)
    rw [show a + (i.toNat - a) = i.toNat by omega] at this
    rw [h.cov i, if_neg (fun h2 => by rw [h2.2.2] at this; cases this)]
  · intro h1 k hk
    have := h1 ((a + k : Nat) : Int) (by omega) (by omega)
    rw [h.cov] at this
    split at this
    · omega
    · rename_i h2
      cases hg : t.getD (a + k) false with
      | true => rfl
      | false => exact absurd ⟨by omega, by omega, by rw [Int.toNat_natCast]; exact hg⟩ h2
theorem putB_getD {a c : Nat} {v : Bool} (h : a + c ≤ t.length) (i : Nat) : (putB t a c v).getD i false = if a ≤ i ∧ i < a + c then v else t.getD i false := by
  rw [List.getD_eq_getElem?_getD, putB_get h, List.getD_eq_getElem?_getD]
  split <;> rfl
theorem Rel.taken (h : Rel n L t) {a c : Nat} (hac : a + c ≤ n) {L' : List R2} (hg : Good n 0 L') (hcov : ∀ i, covL L i = covL L' i + ind a (a + c) i) : Rel n L' (putB t a c true) :=
  ⟨hg, by rw [putB_length (by rw [h.len]; exact hac), h.len], fun i => by
    have h1 := hcov i
    have h2 := h.cov i
    rw [putB_getD (by rw [h.len]; exact hac)]
    unfold ind at h1
    by_cases hi : (a : Int) ≤ i ∧ i < (a : Int) + c
    · rw [if_pos hi] at h1
      rw [if_pos (show a ≤ i.toNat ∧ i.toNat < a + c by omega)]
      split at h2 <;> simp <;> omega
    · rw [if_neg hi] at h1
      by_cases h0 : 0 ≤ i
      · rw [if_neg (show ¬ (a ≤ i.toNat ∧ i.toNat < a + c) by omega)]
        omega
      · rw [if_neg (fun h3 => h0 h3.1)] at h2 ⊢
        omega⟩
theorem Rel.given (h : Rel n L t) {a c : Nat} (hac : a + c ≤ n) {L' : List R2} (hg : Good n 0 L') (hz : ∀ i : Int, (a : Int) ≤ i → i < a + c → covL L i = 0) (hcov : ∀ i, covL L' i = covL L i + ind a (a + c) i) : Rel n L' (putB t a c false) :=
  ⟨hg, by rw [putB_length (by rw [h.len]; exact hac), h.len], fun i => by
    have h1 := hcov i
    have h2 := h.cov i
    rw [putB_getD (by rw [h.len]; exact hac)]
    unfold ind at h1
    by_cases hi : (a : Int) ≤ i ∧ i < (a : Int) + c
    · have h3 := hz i hi.1 hi.2
      rw [if_pos hi] at h1
      rw [if_pos (show a ≤ i.toNat ∧ i.toNat < a + c by omega), if_pos ⟨by omega, by omega, rfl⟩]
      omega
    · rw [if_neg hi] at h1
      by_cases h0 : 0 ≤ i
      · rw [if_neg (show ¬ (a ≤ i.toNat ∧ i.toNat < a + c) by omega)]
        omega
      · rw [if_neg (fun h3 => h0 h3.1)] at h2 ⊢
        omega⟩
theorem rfind_spec {c : Nat} : ∀ m at_, at_ + m = t.length + 1 → (rfind t c at_ = none ∧ ∀ j, at_ ≤ j → j + c ≤ t.length → allB t j c false = false) ∨ ∃ k, rfind t c at_ = some k ∧ at_ ≤ k ∧ k + c ≤ t.length ∧ allB t k c false = true ∧ ∀ j, at_ ≤ j → j < k → allB t j c false = false := by
  intro m
  induction m with
  | zero => intro at_ h; exact .inl ⟨by rw [rfind, if_neg (by omega)], fun j h1 h2 => by omega⟩
  | succ m ih =>
    intro at_ h
    rw [rfind]
    by_cases h1 : at_ + c ≤ t.length
    · rw [if_pos h1]
      cases hq : allB t at_ c false with
      | true => exact .inr ⟨at_, by simp, Nat.le_refl _, h1, hq, fun j h2 h3 => by omega⟩
      | false =>
        simp only [Bool.false_eq_true, if_false]
        rcases ih (at_ + 1) (by omega) with ⟨h2, h3⟩ | ⟨k, h2, h3, h4, h5, h6⟩
        · refine .inl ⟨h2, fun j h4 h5 => ?_⟩
          rcases Nat.eq_or_lt_of_le h4 with rfl | h4
          · exact hq
          · exact h3 j h4 h5
        · refine .inr ⟨k, h2, by omega, h4, h5, fun j h7 h8 => ?_⟩
          rcases Nat.eq_or_lt_of_le h7 with rfl | h7
          · exact hq
          · exact h6 j h7 h8
    · rw [if_neg h1]
      exact .inl ⟨rfl, fun j h2 h3 => by omega⟩

theorem Rel.take (h : Rel n L t) (c : Int) : takeV L c = rtakeV t c ∧ takeE L c = rtakeE t c ∧ Rel n (takeL L c) (rtakeT t c) := by
  rcases take_spec h.good c with ⟨h1, e1, e2, e3⟩ | ⟨h1, e1, e2, e3, h2⟩ | ⟨h1, e1, k, hk, e2, h2, e3, h3⟩
  · rw [e1, e2, e3, rtakeV, rtakeE, rtakeT, if_pos h1, if_pos h1, if_pos h1]
    exact ⟨rfl, rfl, h⟩
  · have hn : ¬ c < 1 := by omega
    have hnone : rfind t c.toNat 0 = none := by
      rcases rfind_spec (t := t) (c := c.toNat) (t.length + 1) 0 (by omega) with ⟨q, _⟩ | ⟨k, q1, q2, q3, q4, _⟩
      · exact q
      · exfalso
        rw [h.len] at q3
        obtain ⟨j, hj, r1, r2⟩ := free_in_run (a := k) (e := k + c) h.good (by omega) (fun i hi1 hi2 => (h.all_free q3).1 q4 i hi1 (by omega))
        have := h2 _ (List.getElem_mem hj)
        omega
    rw [e1, e2, e3, rtakeV, rtakeE, rtakeT, if_neg hn, if_neg hn, if_neg hn, hnone]
    exact ⟨rfl, rfl, h⟩
  · have hn : ¬ c < 1 := by omega
    have hm := good_mem h.good _ (List.getElem_mem hk)
    obtain ⟨V, hV⟩ : ∃ V : Nat, L[k].1 = V := ⟨L[k].1.toNat, by omega⟩
    rw [hV] at h2 e2 e3 hm
    have hVc : V + c.toNat ≤ n := by omega
    have hall : allB t V c.toNat false = true := (h.all_free hVc).2 (fun i hi1 hi2 => cov_mem (List.getElem_mem hk) i (by omega) (by omega))
    have hsome : rfind t c.toNat 0 = some V := by
      rcases rfind_spec (t := t) (c := c.toNat) (t.length + 1) 0 (by omega) with ⟨_, q⟩ | ⟨k', q1, q2, q3, q4, q5⟩
      · have := q V (by omega) (by rw [h.len]; exact hVc)
        rw [hall] at this; cases this
      · rw [q1]
        congr 1
        rcases Nat.lt_trichotomy k' V with hlt | heq | hgt
        · exfalso
          rw [h.len] at q3
          obtain ⟨j, hj, r1, r2⟩ := free_in_run (a := k') (e := k' + c) h.good (by omega) (fun i hi1 hi2 => (h.all_free q3).1 q4 i hi1 (by omega))
          rcases Nat.lt_trichotomy j k with hjk | rfl | hjk
          · have := h3 j hjk; omega
          · omega
          · have := good_getElem_lt h.good k j hk hj hjk; omega
        · exact heq
        · have := q5 V (by omega) hgt
          rw [hall] at this; cases this
    obtain ⟨g1, g2⟩ := cut_good (x := ((V : Int), (V : Int) + c)) h.good hk (by simp only; omega) (by simp only; omega) (by simp only; omega)
    rw [e1, e2, e3, rtakeV, rtakeE, rtakeT, if_neg hn, if_neg hn, if_neg hn, hsome]
    refine ⟨rfl, rfl, h.taken hVc g1 (fun i => ?_)⟩
    have := g2 i
    simp only at this
    rwa [show ((V : Int) + (c.toNat : Int)) = (V : Int) + c by omega]
theorem Rel.hold (h : Rel n L t) (a c : Int) : holdE n L a c = rholdE t a c ∧ Rel n (holdL n L a c) (rholdT t a c) := by
  unfold rholdE rholdT
  rw [h.len]
  rcases hold_spec h.good a c with ⟨hr, e1, e2⟩ | ⟨hr, e1, e2, h1⟩ | ⟨hr, e1, k, hk, h1, h2, e2⟩
  · rw [hr, e1, e2]; exact ⟨rfl, h⟩
  · have hb := rightB_true hr
    have hac : a.toNat + c.toNat ≤ n := by omega
    have hf : allB t a.toNat c.toNat false = false := by
      cases hq : allB t a.toNat c.toNat false with
      | false => rfl
      | true =>
        obtain ⟨j, hj, r1, r2⟩ := free_in_run (a := a) (e := a + c) h.good (by omega) (fun i hi1 hi2 => (h.all_free hac).1 hq i (by omega) (by omega))
        exact absurd ⟨r1, r2⟩ (h1 _ (List.getElem_mem hj))
    rw [hr, e1, e2, hf]; exact ⟨rfl, h⟩
  · have hb := rightB_true hr
    have hac : a.toNat + c.toNat ≤ n := by omega
    have hf : allB t a.toNat c.toNat false = true := (h.all_free hac).2 (fun i hi1 hi2 => cov_mem (List.getElem_mem hk) i (by omega) (by omega))
    obtain ⟨g1, g2⟩ := cut_good (x := (a, a + c)) h.good hk h1 (by simp only; omega) h2
    rw [hr, e1, e2, hf]
    refine ⟨rfl, h.taken hac g1 (fun i => ?_)⟩
    have := g2 i
    simp only at this
    rwa [show ((a.toNat : Int)) = a by omega, show ((c.toNat : Int)) = c by omega]
theorem Rel.give (h : Rel n L t) (a c : Int) : giveE n L a c = rgiveE t a c ∧ Rel n (giveL n L a c) (rgiveT t a c) := by
  unfold rgiveE rgiveT
  rw [h.len]
  rcases give_spec n L a c with ⟨hr, e1, e2⟩ | ⟨hr, e1, e2, r, hrm, h1⟩ | ⟨hr, e1, e2, h1⟩
  · rw [hr, e1, e2]; exact ⟨rfl, h⟩
  · have hb := rightB_true hr
    have hac : a.toNat + c.toNat ≤ n := by omega
    have hm := good_mem h.good r hrm
    have hf : allB t a.toNat c.toNat true = false := by
      cases hq : allB t a.toNat c.toNat true with
      | false => rfl
      | true =>
        exfalso
        apply h1
        by_cases h3 : a + c ≤ r.1
        · exact .inl h3
        by_cases h4 : r.2 ≤ a
        · exact .inr h4
        have := (h.all_taken hac).1 hq (max a r.1) (by omega) (by omega)
        have h5 := cov_mem hrm (max a r.1) (by omega) (by omega)
        omega
    rw [hr, e1, e2, hf]; exact ⟨rfl, h⟩
  · have hb := rightB_true hr
    have hac : a.toNat + c.toNat ≤ n := by omega
    have hz : ∀ i : Int, a ≤ i → i < a + c → covL L i = 0 := fun i hi1 hi2 => by
      rcases Nat.eq_zero_or_pos (covL L i) with h0 | h0
      · exact h0
      · obtain ⟨r, hrm, r1, r2⟩ := mem_cov h0
        rcases h1 r hrm with h3 | h3 <;> simp only at h3 <;> omega
    have hf : allB t a.toNat c.toNat true = true := (h.all_taken hac).2 (fun i hi1 hi2 => hz i (by omega) (by omega))
    obtain ⟨g1, g2⟩ := merge_good (x := (a, a + c)) h.good (by simp only; omega) (by simp only; omega) (by simp only; omega) h1
    rw [hr, e1, e2, hf]
    refine ⟨rfl, h.given hac g1 (fun i hi1 hi2 => hz i (by omega) (by omega)) (fun i => ?_)⟩
    have := g2 i
    simp only at this
    rwa [show ((a.toNat : Int)) = a by omega, show ((c.toNat : Int)) = c by omega]
end
end Go.Proofs.Ytdcccimdgbkniaa.Mine
