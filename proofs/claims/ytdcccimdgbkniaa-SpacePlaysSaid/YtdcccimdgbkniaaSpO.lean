/- space: plain laws of what is held and what is free: together they make up all cells. -/
import Derived.Test.YtdcccimdgbkniaaSpN
set_option linter.unusedSimpArgs false
set_option linter.unusedVariables false
namespace Go.Proofs.Ytdcccimdgbkniaa.Mine
open Go.RowKit

def eR (r : R2) : R2 := (r.1, r.1 + r.2)
theorem eR_run (l : List R2) : (runL l).map eR = l := by
  rw [runL, List.map_map]
  conv => rhs; rw [← List.map_id l]
  apply List.map_congr_left
  rintro ⟨a, e⟩ _
  show (a, a + (e - a)) = (a, e)
  congr 1
  omega
/-- What is held (place, count) and what is free make up all cells, each once. -/
structure Part (n : Int) (L H : List R2) : Prop where
  good : Good n 0 L
  pos : ∀ r ∈ H, 1 ≤ r.2
  cov : ∀ i, covL L i + covL (H.map eR) i = ind 0 n i
theorem part_start (n : Int) (hn : 0 ≤ n) : Part n (freeL n) [] := ⟨free_good n hn, fun r hr => (List.not_mem_nil hr).elim, fun i => by rw [free_cov]; rfl⟩
theorem Part.add {n : Int} {L L' H : List R2} {a c : Int} (h : Part n L H) (hg : Good n 0 L') (hc : 1 ≤ c) (hcov : ∀ i, covL L i = covL L' i + ind a (a + c) i) : Part n L' (H ++ [(a, c)]) :=
  ⟨hg, fun r hr => by
    rcases List.mem_append.1 hr with hr | hr
    · exact h.pos r hr
    · rw [List.mem_singleton.1 hr]; exact hc,
   fun i => by
    have h1 := h.cov i
    have h2 := hcov i
    rw [List.map_append, covL_append]
    simp only [List.map_cons, List.map_nil, covL, eR]
    omega⟩
theorem ind_le (a e i : Int) : ind a e i ≤ 1 := by unfold ind; split <;> omega
theorem part_take {n : Int} {L H : List R2} {c : Int} (h : Part n L H) (he : takeE L c = 0) : Part n (takeL L c) (H ++ [(takeV L c, c)]) := by
  rcases take_spec h.good c with ⟨_, e, _⟩ | ⟨_, e, _⟩ | ⟨h1, _, k, hk, hV, h2, hL, _⟩
  · rw [e] at he; cases he
  · rw [e] at he; cases he
  · obtain ⟨g1, g2⟩ := cut_good (x := (L[k].1, L[k].1 + c)) h.good hk (Int.le_refl _) (by show L[k].1 < L[k].1 + c; omega) (by show L[k].1 + c ≤ L[k].2; omega)
    rw [hL, hV]
    exact h.add g1 h1 g2
theorem part_hold {n : Int} {L H : List R2} {a c : Int} (h : Part n L H) (he : holdE n L a c = 0) : Part n (holdL n L a c) (H ++ [(a, c)]) := by
  rcases hold_spec h.good a c with ⟨_, e, _⟩ | ⟨_, e, _⟩ | ⟨hr, _, k, hk, h1, h2, hL⟩
  · rw [e] at he; cases he
  · rw [e] at he; cases he
  · have hb := rightB_true hr
    obtain ⟨g1, g2⟩ := cut_good (x := (a, a + c)) h.good hk h1 (by show a < a + c; omega) h2
    rw [hL]
    exact h.add g1 hb.1 g2
theorem take_none {l : List R2} {n c : Int} (h : Good n 0 l) (he : takeE l c ≠ 0) : takeL l c = l := by
  rcases take_spec h c with ⟨_, _, _, e⟩ | ⟨_, _, _, e, _⟩ | ⟨_, e, _⟩
  · exact e
  · exact e
  · exact absurd e he
theorem hold_none {l : List R2} {n a c : Int} (h : Good n 0 l) (he : holdE n l a c ≠ 0) : holdL n l a c = l := by
  rcases hold_spec h a c with ⟨_, _, e⟩ | ⟨_, _, e, _⟩ | ⟨_, e, _⟩
  · exact e
  · exact e
  · exact absurd e he
/-- A held run taken out: the last one takes its place. -/
def dropH (H : List R2) (k : Nat) : List R2 := (H.set k (H.getD (H.length - 1) (0, 0))).take (H.length - 1)
theorem dropH_cov {H : List R2} {k : Nat} (hk : k < H.length) : (∀ r ∈ dropH H k, r ∈ H) ∧ ∀ i, covL ((dropH H k).map eR) i + covL [eR H[k]] i = covL (H.map eR) i := by
  have hl : H.length - 1 < H.length := by omega
  have hlast : H.getD (H.length - 1) (0, 0) = H[H.length - 1] := by rw [List.getD_eq_getElem?_getD, List.getElem?_eq_getElem hl]; rfl
  have hH : H = H.take (H.length - 1) ++ [H[H.length - 1]] := by
    have := List.take_succ_eq_append_getElem hl
    rw [show H.length - 1 + 1 = H.length by omega, List.take_length] at this
    exact this
  by_cases he : k = H.length - 1
  · subst he
    have hd : dropH H (H.length - 1) = H.take (H.length - 1) := by rw [dropH, hlast, List.set_getElem_self]
    rw [hd]
    refine ⟨fun r hr => List.mem_of_mem_take hr, fun i => ?_⟩
    have : covL (H.map eR) i = covL ((H.take (H.length - 1) ++ [H[H.length - 1]]).map eR) i := by rw [← hH]
    rw [this, List.map_append, covL_append]
    rfl
  · have hk2 : k < (H.take (H.length - 1)).length := by rw [List.length_take]; omega
    have hd : dropH H k = (H.take (H.length - 1)).set k H[H.length - 1] := by rw [dropH, hlast, List.take_set]
    have hg : (H.take (H.length - 1))[k] = H[k] := List.getElem_take
    rw [hd]
    constructor
    · intro r hr
      rcases List.mem_or_eq_of_mem_set hr with h | rfl
      · exact List.mem_of_mem_take h
      · exact List.getElem_mem hl
    · intro i
      have e1 : covL (H.map eR) i = covL ((H.take (H.length - 1) ++ [H[H.length - 1]]).map eR) i := by rw [← hH]
      rw [e1]
      generalize H[H.length - 1] = y at *
      rw [← hg]
      generalize H.take (H.length - 1) = T at *
      have e2 : T = T.take k ++ T[k] :: T.drop (k + 1) := split_at hk2
      have e3 : T.set k y = T.take k ++ y :: T.drop (k + 1) := List.set_eq_take_append_cons_drop.trans (by rw [if_pos hk2])
      have e4 : covL (T.map eR) i = covL ((T.take k ++ T[k] :: T.drop (k + 1)).map eR) i := by rw [← e2]
      rw [e3, List.map_append (l₁ := T), covL_append, e4]
      simp only [List.map_append, List.map_cons, List.map_nil, covL_append, covL]
      omega
theorem mem_covE {H : List R2} {r : R2} (h : r ∈ H) (i : Int) : ind r.1 (r.1 + r.2) i ≤ covL (H.map eR) i := by
  unfold ind
  split
  · exact cov_mem (List.mem_map_of_mem h) i (by assumption : _ ∧ _).1 (by assumption : _ ∧ _).2
  · omega
theorem Part.in_ {n : Int} {L H : List R2} (h : Part n L H) {r : R2} (hr : r ∈ H) : 0 ≤ r.1 ∧ 1 ≤ r.2 ∧ r.1 + r.2 ≤ n := by
  have h1 := h.pos r hr
  have c1 := h.cov r.1
  have c2 := h.cov (r.1 + r.2 - 1)
  have m1 := mem_covE hr r.1
  have m2 := mem_covE hr (r.1 + r.2 - 1)
  unfold ind at m1 m2 c1 c2
  rw [if_pos (by omega)] at m1 m2
  split at c1 <;> split at c2 <;> omega
theorem part_give {n : Int} {L H : List R2} {k : Nat} (h : Part n L H) (hk : k < H.length) : giveE n L H[k].1 H[k].2 = 0 ∧ Part n (giveL n L H[k].1 H[k].2) (dropH H k) := by
  have hm := List.getElem_mem hk
  obtain ⟨h1, h2, h3⟩ := h.in_ hm
  obtain ⟨q1, q2, q3⟩ := give_ok h.good h1 h2 h3 (fun i => by
    have a1 := h.cov i
    have a2 := mem_covE hm i
    have a3 := ind_le 0 n i
    omega)
  obtain ⟨d1, d2⟩ := dropH_cov hk
  refine ⟨q1, q2, fun r hr => h.pos r (d1 r hr), fun i => ?_⟩
  have a1 := h.cov i
  have a2 := d2 i
  have a3 := q3 i
  simp only [covL, eR] at a2
  omega

/-- All runs, held and free: what the theorem says of them. -/
theorem Part.all {n : Int} {L H : List R2} (h : Part n L H) : (∀ r ∈ H ++ runL L, 1 ≤ r.2) ∧ ∀ i, covL ((H ++ runL L).map eR) i = ind 0 n i := by
  constructor
  · intro r hr
    rcases List.mem_append.1 hr with hr | hr
    · exact h.pos r hr
    · obtain ⟨x, hx, rfl⟩ := List.mem_map.1 hr
      have := good_mem h.good x hx
      show 1 ≤ x.2 - x.1
      omega
  · intro i
    rw [List.map_append, covL_append, eR_run]
    have := h.cov i
    omega
section
variable {n : Int} {A : List R2} (hp : ∀ r ∈ A, 1 ≤ r.2) (hc : ∀ i, covL (A.map eR) i = ind 0 n i)
include hp hc
theorem all_in {r : R2} (hr : r ∈ A) : 0 ≤ r.1 ∧ 1 ≤ r.2 ∧ r.1 + r.2 ≤ n := by
  have h1 := hp r hr
  have c1 := hc r.1
  have c2 := hc (r.1 + r.2 - 1)
  have m1 := mem_covE hr r.1
  have m2 := mem_covE hr (r.1 + r.2 - 1)
  unfold ind at m1 m2 c1 c2
  rw [if_pos (by omega)] at m1 m2
  split at c1 <;> split at c2 <;> omega
theorem all_apart {a b : Nat} (ha : a < A.length) (hb : b < a) : ¬ (A[a].1 < A[b].1 + A[b].2 ∧ A[b].1 < A[a].1 + A[a].2) := by
  rintro ⟨h1, h2⟩
  have p1 := hp _ (List.getElem_mem ha)
  have p2 := hp _ (List.getElem_mem (show b < A.length by omega))
  have hx := hc (max A[a].1 A[b].1)
  have e1 := split_at ha
  have e2 : covL (A.map eR) (max A[a].1 A[b].1) = covL ((A.take a ++ A[a] :: A.drop (a + 1)).map eR) (max A[a].1 A[b].1) := by rw [← e1]
  have hm : A[b] ∈ A.take a := by
    have hb2 : b < (A.take a).length := by rw [List.length_take]; omega
    have : (A.take a)[b] = A[b] := List.getElem_take
    rw [← this]
    exact List.getElem_mem hb2
  have m1 := mem_covE hm (max A[a].1 A[b].1)
  have a3 := ind_le 0 n (max A[a].1 A[b].1)
  rw [List.map_append, covL_append] at e2
  simp only [List.map_cons, covL, eR] at e2
  unfold ind at m1 e2
  rw [if_pos (by omega)] at m1
  rw [if_pos (show A[a].1 ≤ max A[a].1 A[b].1 ∧ max A[a].1 A[b].1 < A[a].1 + A[a].2 by omega)] at e2
  unfold ind at hx a3
  omega
end
def cntN (f : Int → Nat) : Nat → Nat
  | 0 => 0
  | m + 1 => cntN f m + f m
theorem cntN_ind {a e : Int} (ha : 0 ≤ a) (hae : a ≤ e) : ∀ m : Nat, (cntN (ind a e) m : Int) = min e m - min a m
  | 0 => by simp [cntN]; omega
  | m + 1 => by
    have := cntN_ind ha hae m
    unfold cntN ind
    unfold ind at this
    split <;> omega
theorem cntN_add (f g : Int → Nat) : ∀ m, cntN (fun i => f i + g i) m = cntN f m + cntN g m
  | 0 => rfl
  | m + 1 => by simp only [cntN, cntN_add f g m]; omega
theorem cntN_cov {N : Nat} : ∀ {A : List R2}, (∀ r ∈ A, 0 ≤ r.1 ∧ 1 ≤ r.2 ∧ r.1 + r.2 ≤ (N : Int)) → (cntN (covL (A.map eR)) N : Int) = sumC A
  | [], _ => by
    have : ∀ m, cntN (covL (([] : List R2).map eR)) m = 0 := by
      intro m
      induction m with
      | zero => rfl
      | succ m ih => rw [cntN, ih]; rfl
    rw [this]; rfl
  | r :: A, h => by
    have ih := cntN_cov (A := A) (fun x hx => h x (List.mem_cons_of_mem _ hx))
    have hr := h r List.mem_cons_self
    have e : cntN (covL ((r :: A).map eR)) N = cntN (ind r.1 (r.1 + r.2)) N + cntN (covL (A.map eR)) N := cntN_add _ _ N
    have e2 := cntN_ind hr.1 (show r.1 ≤ r.1 + r.2 by omega) N
    rw [e, sumC_cons]
    omega
theorem all_sum {n : Int} {A : List R2} (hn : 0 ≤ n) (hp : ∀ r ∈ A, 1 ≤ r.2) (hc : ∀ i, covL (A.map eR) i = ind 0 n i) : sumC A = n := by
  obtain ⟨N, rfl⟩ : ∃ N : Nat, n = N := ⟨n.toNat, by omega⟩
  rw [← cntN_cov (N := N) (fun r hr => all_in hp hc hr)]
  have e : covL (A.map eR) = ind 0 (N : Int) := funext hc
  rw [e, cntN_ind (Int.le_refl 0) hn]
  omega
theorem sum_bound {M : Int} : ∀ {A : List R2}, (∀ r ∈ A, 0 ≤ r.2 ∧ r.2 ≤ M) → 0 ≤ sumC A ∧ sumC A ≤ M * A.length
  | [], _ => by simp [sumC]
  | r :: A, h => by
    have ih := sum_bound (A := A) (fun x hx => h x (List.mem_cons_of_mem _ hx))
    have hr := h r List.mem_cons_self
    rw [sumC_cons, List.length_cons]
    have : M * ((A.length + 1 : Nat) : Int) = M * A.length + M := by rw [Int.natCast_add, Int.natCast_one, Int.mul_add, Int.mul_one]
    omega
theorem dropH_length {H : List R2} {k : Nat} : (dropH H k).length = H.length - 1 := by simp [dropH]
end Go.Proofs.Ytdcccimdgbkniaa.Mine
