/- pax: the plain law of laying a list over another one. -/
import Derived.Test.YtbidbjgklonbpaaDoorPaxS
import Derived.Sort.KeysCollected
import Derived.Maps.Views
import Derived.Maps.Own
import Derived.Maps.OwnSet
set_option linter.unusedSimpArgs false
set_option linter.unusedVariables false
namespace Go.Proofs.YtbidbjgklonbpaaDoor.Mine
open Go.RowKit Go.Maps Go.Proofs.YtbidbjgklonbpaaDoorW.PrintWords Go.Proofs.YtbidbjgklonbpaaDoorW.PrintLast Go.Proofs.YtbidbjgklonbpaaDoorW.PrintMore Go.Proofs.YtbidbjgklonbpaaDoor.Turn Go.Proofs.YtbidbjgklonbpaaDoor.PPaxGets

theorem less_iff : ∀ a b : List UInt8, Op.bytesLess a b = true ↔ a < b
  | [], [] => by simp [Op.bytesLess]
  | a :: x, [] => by simp [Op.bytesLess]
  | [], b :: y => by simp [Op.bytesLess]
  | a :: x, b :: y => by
    rw [Op.bytesLess, List.cons_lt_cons_iff, Bool.or_eq_true, Bool.and_eq_true, decide_eq_true_iff, beq_iff_eq, less_iff x y]
def kB (p : S23) : List UInt8 := p.f0.data.toList
theorem kB_toList (p : S23) : p.f0.toList = kB p := Lib.toList_data _
theorem kB_inj {p q : S23} (h : kB p = kB q) : p.f0 = q.f0 := ByteArray.ext (Array.ext' h)
theorem lt_asym {a b : List UInt8} (h : a < b) (h2 : b < a) : False := List.lt_irrefl a (List.lt_trans h h2)
def Srt (l : List S23) : Prop := l.Pairwise (fun p q => kB p < kB q)
theorem good_srt {l : List S23} (h : Good l) : Srt l := by
  have hlt : ∀ j i, i < j → ∀ hj : j < l.length, ∀ hi : i < l.length, kB l[i] < kB l[j] := by
    intro j
    induction j with
    | zero => intro i h; omega
    | succ j ih =>
      intro i hij hj hi
      have h2 := (h (j + 1) hj).2 (by omega)
      have e1 : rdP l (j + 1) = l[j + 1] := by unfold rdP; rw [List.getD_eq_getElem?_getD, List.getElem?_eq_getElem hj]; rfl
      have e2 : rdP l (j + 1 - 1) = l[j] := by unfold rdP; rw [List.getD_eq_getElem?_getD, show j + 1 - 1 = j from rfl, List.getElem?_eq_getElem (by omega)]; rfl
      rw [e1, e2, kB_toList, kB_toList, less_iff] at h2
      rcases Nat.lt_or_ge i j with hlt | hge
      · exact List.lt_trans (ih i hlt (by omega) hi) h2
      · obtain rfl : i = j := by omega
        exact h2
  exact List.pairwise_iff_getElem.2 fun i j hi hj hij => hlt j i hij hj hi
theorem srt_good {l : List S23} (hs : Srt l) (hf : ∀ p ∈ l, fitN p.f0 p.f1 = 0) : Good l := by
  intro i hi
  have e1 : rdP l i = l[i] := by unfold rdP; rw [List.getD_eq_getElem?_getD, List.getElem?_eq_getElem hi]; rfl
  refine ⟨by rw [e1]; exact hf _ (List.getElem_mem hi), fun h0 => ?_⟩
  have e2 : rdP l (i - 1) = l[i - 1] := by unfold rdP; rw [List.getD_eq_getElem?_getD, List.getElem?_eq_getElem (by omega)]; rfl
  rw [e1, e2, kB_toList, kB_toList, less_iff]
  exact List.pairwise_iff_getElem.1 hs (i - 1) i (by omega) hi (by omega)
theorem good_fit {l : List S23} (h : Good l) : ∀ p ∈ l, fitN p.f0 p.f1 = 0 := by
  intro p hp
  obtain ⟨i, hi, rfl⟩ := List.getElem_of_mem hp
  have := (h i hi).1
  have e1 : rdP l i = l[i] := by unfold rdP; rw [List.getD_eq_getElem?_getD, List.getElem?_eq_getElem hi]; rfl
  rwa [e1] at this
theorem srt_uniq {l : List S23} (hs : Srt l) {p q : S23} (hp : p ∈ l) (hq : q ∈ l) (h : kB p = kB q) : p = q := by
  induction l with
  | nil => cases hp
  | cons x l ih =>
    obtain ⟨h1, h2⟩ := List.pairwise_cons.1 hs
    rcases List.mem_cons.1 hp with e1 | hp'
    · rcases List.mem_cons.1 hq with e2 | hq'
      · rw [e1, e2]
      · exact absurd (by have := h1 q hq'; rw [← h, e1] at this; exact this) (List.lt_irrefl (kB x))
    · rcases List.mem_cons.1 hq with e2 | hq'
      · exact absurd (by have := h1 p hp'; rw [h, e2] at this; exact this) (List.lt_irrefl (kB x))
      · exact ih h2 hp' hq'
theorem srt_ext {a b : List S23} (ha : Srt a) (hb : Srt b) (h : ∀ p, p ∈ a ↔ p ∈ b) : a = b := by
  have nd : ∀ {l : List S23}, Srt l → l.Nodup := fun hs => List.Pairwise.imp (fun {p q} hlt e => by subst e; exact List.lt_irrefl _ hlt) hs
  exact List.Perm.eq_of_pairwise (le := fun p q => kB p < kB q) (fun p q _ _ h1 h2 => (lt_asym h1 h2).elim) ha hb ((List.perm_ext_iff_of_nodup (nd ha) (nd hb)).2 h)

/-- m laid over l. -/
def mg : List S23 → List S23 → List S23
  | [], m => m
  | x :: l, [] => x :: l
  | x :: l, y :: m => if Op.bytesLess (kB x) (kB y) = true then x :: mg l (y :: m) else if kB x = kB y then y :: mg l m else y :: mg (x :: l) m
termination_by l m => l.length + m.length
theorem mg_nil (l : List S23) : mg l [] = l := by cases l <;> simp [mg]
theorem nil_mg (m : List S23) : mg [] m = m := by simp [mg]
theorem mg_mem_le (l m : List S23) : ∀ p, p ∈ mg l m → p ∈ l ∨ p ∈ m := by
  induction l, m using mg.induct with
  | case1 m => intro p hp; rw [nil_mg] at hp; exact .inr hp
  | case2 x l => intro p hp; rw [mg_nil] at hp; exact .inl hp
  | case3 x l y m h ih =>
    intro p hp
    rw [mg, if_pos h] at hp
    rcases List.mem_cons.1 hp with rfl | hp
    · exact .inl (List.mem_cons_self ..)
    · rcases ih p hp with h | h
      · exact .inl (List.mem_cons_of_mem _ h)
      · exact .inr h
  | case4 x l y m h h2 ih =>
    intro p hp
    rw [mg, if_neg h, if_pos h2] at hp
    rcases List.mem_cons.1 hp with rfl | hp
    · exact .inr (List.mem_cons_self ..)
    · rcases ih p hp with h | h
      · exact .inl (List.mem_cons_of_mem _ h)
      · exact .inr (List.mem_cons_of_mem _ h)
  | case5 x l y m h h2 ih =>
    intro p hp
    rw [mg, if_neg h, if_neg h2] at hp
    rcases List.mem_cons.1 hp with rfl | hp
    · exact .inr (List.mem_cons_self ..)
    · rcases ih p hp with h | h
      · exact .inl h
      · exact .inr (List.mem_cons_of_mem _ h)
theorem lt_of_not {a b : List UInt8} (h : ¬ Op.bytesLess a b = true) (h2 : a ≠ b) : b < a := by
  rw [less_iff] at h
  have hle : b ≤ a := h
  rcases List.le_iff_lt_or_eq.1 hle with h3 | h3
  · exact h3
  · exact absurd h3.symm h2
theorem mg_srt (l m : List S23) : Srt l → Srt m → Srt (mg l m) := by
  induction l, m using mg.induct with
  | case1 m => intro _ h; rw [nil_mg]; exact h
  | case2 x l => intro h _; rw [mg_nil]; exact h
  | case3 x l y m h ih =>
    intro hl hm
    rw [mg, if_pos h]
    obtain ⟨l1, l2⟩ := List.pairwise_cons.1 hl
    obtain ⟨m1, m2⟩ := List.pairwise_cons.1 hm
    rw [less_iff] at h
    refine List.pairwise_cons.2 ⟨fun p hp => ?_, ih l2 hm⟩
    rcases mg_mem_le _ _ p hp with hp | hp
    · exact l1 p hp
    · rcases List.mem_cons.1 hp with rfl | hp
      · exact h
      · exact List.lt_trans h (m1 p hp)
  | case4 x l y m h h2 ih =>
    intro hl hm
    rw [mg, if_neg h, if_pos h2]
    obtain ⟨l1, l2⟩ := List.pairwise_cons.1 hl
    obtain ⟨m1, m2⟩ := List.pairwise_cons.1 hm
    refine List.pairwise_cons.2 ⟨fun p hp => ?_, ih l2 m2⟩
    rcases mg_mem_le _ _ p hp with hp | hp
    · rw [← h2]; exact l1 p hp
    · exact m1 p hp
  | case5 x l y m h h2 ih =>
    intro hl hm
    rw [mg, if_neg h, if_neg h2]
    obtain ⟨l1, l2⟩ := List.pairwise_cons.1 hl
    obtain ⟨m1, m2⟩ := List.pairwise_cons.1 hm
    have h3 := lt_of_not h h2
    refine List.pairwise_cons.2 ⟨fun p hp => ?_, ih hl m2⟩
    rcases mg_mem_le _ _ p hp with hp | hp
    · rcases List.mem_cons.1 hp with rfl | hp
      · exact h3
      · exact List.lt_trans h3 (l1 p hp)
    · exact m1 p hp
/-- What is laid over stays; of what was there, whatever no key hides. -/
theorem mg_mem (l m : List S23) : Srt l → Srt m → ∀ p, p ∈ mg l m ↔ p ∈ m ∨ (p ∈ l ∧ ∀ q ∈ m, kB q ≠ kB p) := by
  induction l, m using mg.induct with
  | case1 m => intro _ _ p; rw [nil_mg]; simp
  | case2 x l => intro _ _ p; rw [mg_nil]; simp
  | case3 x l y m h ih =>
    intro hl hm p
    rw [mg, if_pos h]
    obtain ⟨l1, l2⟩ := List.pairwise_cons.1 hl
    obtain ⟨m1, m2⟩ := List.pairwise_cons.1 hm
    rw [less_iff] at h
    rw [List.mem_cons, ih l2 hm p, List.mem_cons (a := p) (b := x)]
    constructor
    · rintro (rfl | h1 | ⟨h1, h2⟩)
      · refine .inr ⟨.inl rfl, fun q hq e => ?_⟩
        rcases List.mem_cons.1 hq with rfl | hq
        · exact List.lt_irrefl _ (e ▸ h)
        · exact List.lt_irrefl _ (e ▸ (List.lt_trans h (m1 q hq)))
      · exact .inl h1
      · exact .inr ⟨.inr h1, h2⟩
    · rintro (h1 | ⟨rfl | h1, h2⟩)
      · exact .inr (.inl h1)
      · exact .inl rfl
      · exact .inr (.inr ⟨h1, h2⟩)
  | case4 x l y m h h2 ih =>
    intro hl hm p
    rw [mg, if_neg h, if_pos h2]
    obtain ⟨l1, l2⟩ := List.pairwise_cons.1 hl
    obtain ⟨m1, m2⟩ := List.pairwise_cons.1 hm
    rw [List.mem_cons, ih l2 m2 p, List.mem_cons (a := p) (b := y), List.mem_cons (a := p) (b := x)]
    constructor
    · rintro (rfl | h1 | ⟨h1, h3⟩)
      · exact .inl (.inl rfl)
      · exact .inl (.inr h1)
      · refine .inr ⟨.inr h1, fun q hq e => ?_⟩
        rcases List.mem_cons.1 hq with rfl | hq
        · exact List.lt_irrefl (kB p) (by have := l1 p h1; rw [h2, e] at this; exact this)
        · exact h3 q hq e
    · rintro ((rfl | h1) | ⟨rfl | h1, h3⟩)
      · exact .inl rfl
      · exact .inr (.inl h1)
      · exact absurd h2.symm (h3 y (List.mem_cons_self ..))
      · exact .inr (.inr ⟨h1, fun q hq => h3 q (List.mem_cons_of_mem _ hq)⟩)
  | case5 x l y m h h2 ih =>
    intro hl hm p
    rw [mg, if_neg h, if_neg h2]
    obtain ⟨l1, l2⟩ := List.pairwise_cons.1 hl
    obtain ⟨m1, m2⟩ := List.pairwise_cons.1 hm
    have h3 := lt_of_not h h2
    rw [List.mem_cons, ih hl m2 p, List.mem_cons (a := p) (b := y)]
    constructor
    · rintro (rfl | h1 | ⟨h1, h4⟩)
      · exact .inl (.inl rfl)
      · exact .inl (.inr h1)
      · refine .inr ⟨h1, fun q hq e => ?_⟩
        rcases List.mem_cons.1 hq with rfl | hq
        · rcases List.mem_cons.1 h1 with rfl | h1
          · exact h2 e.symm
          · exact List.lt_irrefl _ (e ▸ (List.lt_trans h3 (l1 p h1)))
        · exact h4 q hq e
    · rintro ((rfl | h1) | ⟨h1, h4⟩)
      · exact .inl rfl
      · exact .inr (.inl h1)
      · exact .inr (.inr ⟨h1, fun q hq => h4 q (List.mem_cons_of_mem _ hq)⟩)
theorem mg_keys {l m : List S23} (hl : Srt l) (hm : Srt m) (k : List UInt8) : k ∈ (mg l m).map kB ↔ k ∈ l.map kB ∨ k ∈ m.map kB := by
  simp only [List.mem_map]
  constructor
  · rintro ⟨p, hp, rfl⟩
    rcases mg_mem_le _ _ p hp with h | h
    · exact .inl ⟨p, h, rfl⟩
    · exact .inr ⟨p, h, rfl⟩
  · rintro (⟨p, hp, rfl⟩ | ⟨p, hp, rfl⟩)
    · by_cases h : ∃ q ∈ m, kB q = kB p
      · obtain ⟨q, hq, e⟩ := h
        exact ⟨q, (mg_mem l m hl hm q).2 (.inl hq), e⟩
      · exact ⟨p, (mg_mem l m hl hm p).2 (.inr ⟨hp, fun q hq e => h ⟨q, hq, e⟩⟩), rfl⟩
    · exact ⟨p, (mg_mem l m hl hm p).2 (.inl hp), rfl⟩
theorem mg_assoc {l m n : List S23} (hl : Srt l) (hm : Srt m) (hn : Srt n) : mg (mg l m) n = mg l (mg m n) := by
  refine srt_ext (mg_srt _ _ (mg_srt _ _ hl hm) hn) (mg_srt _ _ hl (mg_srt _ _ hm hn)) fun p => ?_
  rw [mg_mem _ _ (mg_srt _ _ hl hm) hn, mg_mem _ _ hl hm, mg_mem _ _ hl (mg_srt _ _ hm hn), mg_mem _ _ hm hn]
  constructor
  · rintro (h | ⟨h | ⟨h, h2⟩, h3⟩)
    · exact .inl (.inl h)
    · exact .inl (.inr ⟨h, h3⟩)
    · refine .inr ⟨h, fun q hq => ?_⟩
      rcases mg_mem_le _ _ q hq with h4 | h4
      · exact h2 q h4
      · exact h3 q h4
  · rintro ((h | ⟨h, h3⟩) | ⟨h, h2⟩)
    · exact .inl h
    · exact .inr ⟨.inl h, h3⟩
    · have hk : ∀ k : List UInt8, k ∈ m.map kB ∨ k ∈ n.map kB → k ≠ kB p := fun k hk => by
        have := (mg_keys hm hn k).2 hk
        obtain ⟨q, hq, rfl⟩ := List.mem_map.1 this
        exact h2 q hq
      exact .inr ⟨.inr ⟨h, fun q hq => hk _ (.inl (List.mem_map_of_mem hq))⟩, fun q hq => hk _ (.inr (List.mem_map_of_mem hq))⟩
theorem mg_fit {l m : List S23} (hl : ∀ p ∈ l, fitN p.f0 p.f1 = 0) (hm : ∀ p ∈ m, fitN p.f0 p.f1 = 0) : ∀ p ∈ mg l m, fitN p.f0 p.f1 = 0 := by
  intro p hp
  rcases mg_mem_le _ _ p hp with h | h
  · exact hl p h
  · exact hm p h

/-! The map that is filled. -/
/-- The last pair of a list that has a key. -/
def lastP (ps : List S23) (k : List UInt8) : Option S23 := ps.foldl (fun a p => if kB p = k then some p else a) none
theorem lastP_snoc (ps : List S23) (p : S23) (k : List UInt8) : lastP (ps ++ [p]) k = if kB p = k then some p else lastP ps k := by
  unfold lastP
  rw [List.foldl_append]
  rfl
theorem lastP_none (k : List UInt8) : ∀ ps : List S23, (∀ p ∈ ps, kB p ≠ k) → ∀ a, ps.foldl (fun a p => if kB p = k then some p else a) a = a
  | [], _, a => rfl
  | p :: ps, h, a => by
    rw [List.foldl_cons, if_neg (h p (List.mem_cons_self ..))]
    exact lastP_none k ps (fun q hq => h q (List.mem_cons_of_mem _ hq)) a
theorem lastP_srt {k : List UInt8} : ∀ (ps : List S23), Srt ps → ∀ p ∈ ps, kB p = k → ∀ a, ps.foldl (fun a p => if kB p = k then some p else a) a = some p
  | [], _, p, hp, _, _ => by cases hp
  | x :: ps, hs, p, hp, hk, a => by
    obtain ⟨h1, h2⟩ := List.pairwise_cons.1 hs
    rcases List.mem_cons.1 hp with rfl | hp
    · rw [List.foldl_cons, if_pos hk]
      exact lastP_none k ps (fun q hq e => by have := h1 q hq; rw [e, hk] at this; exact List.lt_irrefl _ this) _
    · rw [List.foldl_cons]
      exact lastP_srt ps h2 p hp hk _
theorem lastP_mg {l m : List S23} (hl : Srt l) (hm : Srt m) {p : S23} (hp : p ∈ mg l m) : lastP (l ++ m) (kB p) = some p := by
  unfold lastP
  rw [List.foldl_append]
  rcases (mg_mem l m hl hm p).1 hp with h | ⟨h, h2⟩
  · exact lastP_srt m hm p h rfl _
  · rw [lastP_none _ m h2]
    exact lastP_srt l hl p h rfl _
/-- What the keys' sorted row is. -/
theorem keys_perm {l m : List S23} (hl : Srt l) (hm : Srt m) {ss : List (List UInt8)} (hp : ss.Perm ((mg l m).map kB)) : ss.mergeSort (fun x y => decide (x ≤ y)) = (mg l m).map kB := by
  have hs := mg_srt l m hl hm
  have tr : ∀ a b c : List UInt8, leB a b = true → leB b c = true → leB a c = true := fun a b c h1 h2 => by simp only [leB, decide_eq_true_eq] at *; exact List.le_trans h1 h2
  have tot : ∀ a b : List UInt8, (leB a b || leB b a) = true := fun a b => by simp only [leB, Bool.or_eq_true, decide_eq_true_eq]; exact List.le_total a b
  refine List.Perm.eq_of_pairwise (le := fun a b => leB a b = true) (fun a b _ _ h1 h2 => ?_) (List.pairwise_mergeSort tr tot ss) (List.pairwise_map.2 (hs.imp fun {p q} h => by simp only [leB, decide_eq_true_eq]; exact List.le_iff_lt_or_eq.2 (.inl h))) ((List.mergeSort_perm ss leB).trans hp)
  simp only [leB, decide_eq_true_eq] at h1 h2
  exact List.le_antisymm h1 h2
theorem keys_nodup {l m : List S23} (hl : Srt l) (hm : Srt m) : ((mg l m).map kB).Nodup := List.pairwise_map.2 ((mg_srt l m hl hm).imp fun {p q} h e => by rw [e] at h; exact List.lt_irrefl _ h)

/-! How a pair reads as a map's element; what the map holds. -/
def dP (a b : ByteArray) : DataW Unit := .agg [.lit (.string a.data.toList), .lit (.string b.data.toList)]
def pairE (v : Value) : Option (DataW Unit × List MemPlace) := match v with
  | .agg xs => match xs.toList with
    | [.string a, .string b] => some (dP a b, [])
    | _ => none
  | _ => none
theorem pairE_mk (a b : ByteArray) : pairE (.agg #[.string a, .string b]) = some (dP a b, []) := rfl
theorem pairE_inv {v : Value} {d : DataW Unit} {ps : List MemPlace} (h : pairE v = some (d, ps)) : ∃ a b, v = .agg #[.string a, .string b] ∧ d = dP a b := by
  unfold pairE at h
  split at h
  · rename_i xs
    split at h
    · rename_i a b hxs
      cases h
      exact ⟨a, b, by rw [← Array.toArray_toList (xs := xs), hxs], rfl⟩
    · cases h
  · cases h
theorem dP_inj {a b c d : ByteArray} (h : dP a b = dP c d) : a = c ∧ b = d := by
  unfold dP at h
  injection h with h
  injection h with h1 h2
  injection h2 with h2 _
  injection h1 with h1
  injection h1 with h1
  injection h2 with h2
  injection h2 with h2
  exact ⟨ByteArray.ext (Array.ext' h1), ByteArray.ext (Array.ext' h2)⟩
theorem isKey_str (b : List UInt8) : WideAt.IsKeyLit (.string b) := by simp [WideAt.IsKeyLit]
def KV (D : DataW Unit) (ps : List S23) : Prop := Tidy D ∧ (∀ k, has D (.string k) = decide (k ∈ ps.map kB)) ∧ ∀ k z, D.atKey (.string k) z = match lastP ps k with
  | some p => dP p.f0 p.f1
  | none => z
theorem KV.start : KV (.map []) [] := ⟨tidy_empty, fun k => by rw [has_eq]; rfl, fun k z => rfl⟩
theorem KV.put {D : DataW Unit} {ps : List S23} (h : KV D ps) (p : S23) : KV (D.put (.string (kB p)) (dP p.f0 p.f1)) (ps ++ [p]) := by
  obtain ⟨h1, h2, h3⟩ := h
  refine ⟨h1.put (isKey_str _) _, fun k => ?_, fun k z => ?_⟩
  · by_cases e : k = kB p
    · subst e
      rw [has_put_same h1.isMap (isKey_str _)]
      simp
    · rw [has_put_other (fun h => e (by injection h)), h2 k]
      simp [e]
  · rw [lastP_snoc]
    by_cases e : k = kB p
    · subst e
      rw [atKey_put_same h1.isMap (isKey_str _), if_pos rfl]
    · rw [atKey_put_other (fun h => e (by injection h)), h3 k z, if_neg (fun h => e h.symm)]
theorem KV.perm {D : DataW Unit} {l m : List S23} (h : KV D (l ++ m)) (hl : Srt l) (hm : Srt m) {w : World} {b n : Nat} (ho : w.ownsMap Tryd.prog 9 pairE b n D) : ((mg l m).map kB).Perm (strKeys D) := by
  obtain ⟨h1, h2, h3⟩ := h
  obtain ⟨es, rfl, hk⟩ := ho.keysOf
  obtain ⟨es', e, hp⟩ := h1
  injection e with e
  subst e
  refine perm_strKeys hp (fun p hp' => ?_) (keys_nodup hl hm) (fun x => ?_)
  · obtain ⟨v, hv⟩ := hk p hp'
    obtain ⟨x, _, e, _⟩ := Maps.keyOf_str Tryd.underlying9 hv
    exact ⟨x, e⟩
  · rw [h2 x, decide_eq_true_iff, mg_keys hl hm, List.map_append, List.mem_append]
theorem strKeys_len {D : DataW Unit} (h : Tidy D) : (strKeys D).length = Maps.size D := by
  obtain ⟨es, rfl, _⟩ := h
  show (es.map _).length = es.length
  simp
theorem KV.size {D : DataW Unit} {l m : List S23} (h : KV D (l ++ m)) (hl : Srt l) (hm : Srt m) {w : World} {b n : Nat} (ho : w.ownsMap Tryd.prog 9 pairE b n D) : Maps.size D = (mg l m).length := by
  have := (h.perm hl hm ho).length_eq
  rw [List.length_map, strKeys_len h.1] at this
  exact this.symm
theorem KV.at {D : DataW Unit} {l m : List S23} (h : KV D (l ++ m)) (hl : Srt l) (hm : Srt m) {p : S23} (hp : p ∈ mg l m) (z : DataW Unit) : D.atKey (.string (kB p)) z = dP p.f0 p.f1 := by
  rw [h.2.2, lastP_mg hl hm hp]

/-- What Over gives. -/
noncomputable def overF (l m : List S23) : List S23 × Int := if (putF l).2.2 ≠ 0 then ([], (putF l).2.2) else if (putF m).2.2 ≠ 0 then ([], (putF m).2.2) else if 64 < (mg l m).length then ([], 3) else (mg l m, 0)
theorem overF_len (l m : List S23) : (overF l m).1.length ≤ 64 := by
  unfold overF
  split
  · simp
  · split
    · simp
    · split
      · simp
      · simp only; omega
theorem over_good {l m : List S23} (h : (overF l m).2 = 0) : Good l ∧ Good m ∧ l.length ≤ 64 ∧ m.length ≤ 64 ∧ (overF l m) = (mg l m, 0) ∧ Good (mg l m) ∧ (mg l m).length ≤ 64 := by
  unfold overF at h ⊢
  split at h
  · rename_i h1; exact absurd h h1
  · rename_i h1
    split at h
    · rename_i h2; exact absurd h h2
    · rename_i h2
      split at h
      · cases h
      · rename_i h3
        have h1' : (putF l).2.2 = 0 := by rcases Int.lt_trichotomy (putF l).2.2 0 with e | e | e <;> first | exact e | exact absurd (by omega) h1
        have h2' : (putF m).2.2 = 0 := by rcases Int.lt_trichotomy (putF m).2.2 0 with e | e | e <;> first | exact e | exact absurd (by omega) h2
        obtain ⟨a1, a2⟩ := putF_ok h1'
        obtain ⟨b1, b2⟩ := putF_ok h2'
        rw [if_neg h1, if_neg h2, if_neg h3]
        exact ⟨a2, b2, a1, b1, rfl, srt_good (mg_srt _ _ (good_srt a2) (good_srt b2)) (mg_fit (good_fit a2) (good_fit b2)), by omega⟩
end Go.Proofs.YtbidbjgklonbpaaDoor.Mine
