import Derived.Test.YtopehfjohifpnaaDoorZ15
import Derived.Test.YtopehfjohifpnaaDoorZ3
section
set_option linter.unusedSimpArgs false
set_option linter.unusedVariables false
namespace Go.Proofs.YtopehfjohifpnaaDoor.Mine
open Go.RowKit Go.Shelf Go.Proofs.YtopehfjohifpnaaDoorW.PrintWords Go.Proofs.YtopehfjohifpnaaDoorW.PrintLast Go.Proofs.YtopehfjohifpnaaDoorW.PrintMore Go.Proofs.YtopehfjohifpnaaDoor.Turn Go.Proofs.YtopehfjohifpnaaDoor.Doc
theorem idx_mem : ∀ {l : List UInt8}, ¬ 0 ≤ Lib.indexByte l 0 → l.contains 0 = false
  | [], _ => rfl
  | x :: l, h => by
    rw [idx_cons] at h
    have hg := Lib.indexByte_ge l 0
    by_cases hx : (x == 0) = true
    · rw [if_pos hx] at h; exact absurd (Int.le_refl 0) h
    · rw [if_neg hx] at h
      have hx2 : (0 == x) = false := beq_eq_false_iff_ne.2 (fun e => hx (beq_iff_eq.2 e.symm))
      rw [List.contains_cons, hx2, Bool.false_or]
      refine idx_mem (fun h0 => h ?_)
      rw [if_neg (by rw [beq_iff_eq]; omega)]
      omega
theorem part_ok {x : ByteArray} (h : (partE x).2 = 0) : nulB x = false ∧ x.size ≠ 0 := by
  unfold partE at h
  split at h
  · exact absurd h (by decide)
  · rename_i h0
    split at h
    · exact absurd h (by decide)
    · split at h
      · exact absurd h (by decide)
      · split at h
        · exact absurd h (by show ¬ (82 : Int) = 0; decide)
        · rename_i h1
          exact ⟨idx_mem h1, h0⟩
theorem chk_all : ∀ {l : List S95}, (chk l).2 = 0 → ∀ p ∈ l, (partE p.f1).2 = 0
  | [], _, p, hp => by cases hp
  | q :: l, h, p, hp => by
    unfold chk at h
    by_cases hq : (partE q.f1).2 = 0
    · rw [if_pos hq] at h
      rcases List.mem_cons.1 hp with rfl | h2
      · exact hq
      · exact chk_all h p h2
    · rw [if_neg hq] at h; exact absurd h hq
theorem ext_list (s : ByteArray) (a b : Nat) : (s.extract a b).data.toList = (s.data.toList.drop a).take (b - a) := by
  rw [ByteArray.data_extract, Array.toList_extract, List.extract_eq_take_drop]
theorem nul_get {s : ByteArray} (h : nulB s = false) (j : Nat) : s.data.toList[j]? ≠ some 0 := fun e => by
  unfold nulB at h
  rw [List.contains_iff_mem.2 (List.mem_of_getElem? e)] at h
  cases h
theorem pcG_nul (s : ByteArray) : ∀ (m f i : Nat), i + m = s.size → f ≤ i → (∀ p ∈ pcG s m f i, nulB p.f1 = false) → ∀ j, f ≤ j → j < s.size → s.data.toList[j]? ≠ some 0
  | 0, f, i, hi, hf, h, j, h1, h2 => by
    have := nul_get (h _ (List.mem_singleton.2 rfl)) (j - f)
    rwa [tail_get s f _ (by omega), show f + (j - f) = j by omega] at this
  | m + 1, f, i, hi, hf, h, j, h1, h2 => by
    have hp : pcG s (m + 1) f i = if bt s i = 47 then ⟨f, s.extract f i⟩ :: pcG s m (i + 1) (i + 1) else pcG s m f (i + 1) := rfl
    rw [hp] at h
    by_cases hb : bt s i = 47
    · rw [if_pos hb] at h
      rcases Nat.lt_trichotomy j i with h3 | h3 | h3
      · have := nul_get (h _ List.mem_cons_self) (j - f)
        simp only at this
        rwa [ext_list, List.getElem?_take, if_pos (by omega), List.getElem?_drop, show f + (j - f) = j by omega] at this
      · subst h3
        rw [(bt_eq s j h2).1 hb]
        decide
      · exact pcG_nul s m (i + 1) (i + 1) (by omega) (Nat.le_refl _) (fun p hp => h p (List.mem_cons_of_mem _ hp)) j (by omega) h2
    · rw [if_neg hb] at h
      exact pcG_nul s m f (i + 1) (by omega) (by omega) h j h1 h2
theorem path_ok {s : ByteArray} (h : (checkF s).2 = 0) : nulB s = false ∧ s.size ≤ 400 ∧ s.size ≠ 0 ∧ bt s 0 ≠ 47 := by
  unfold checkF at h
  by_cases hs : 400 < s.size
  · rw [if_pos hs] at h; exact absurd h (by decide)
  rw [if_neg hs] at h
  have ha := chk_all h
  have hn : s.size ≠ 0 := fun h0 => by
    have h1 := (part_ok (ha ⟨(0 : Nat), s.extract 0 s.size⟩ (by unfold pcs; rw [h0]; unfold pcG; rw [h0]; exact List.mem_singleton.2 rfl))).2
    exact h1 (by show (s.extract 0 s.size).size = 0; rw [ByteArray.size_extract]; omega)
  refine ⟨?_, by omega, hn, fun h0 => ?_⟩
  · have key := pcG_nul s s.size 0 0 (by omega) (Nat.le_refl _) (fun p hp => (part_ok (ha p hp)).1)
    unfold nulB
    cases hc : s.data.toList.contains 0 with
    | false => rfl
    | true =>
      obtain ⟨j, hj⟩ := List.mem_iff_getElem?.1 (List.contains_iff_mem.1 hc)
      have hlt : j < s.size := by rw [Lib.size_eq]; exact (List.getElem?_eq_some_iff.1 hj).1
      exact absurd hj (key j (Nat.zero_le _) hlt)
  · obtain ⟨m, hm⟩ : ∃ m, s.size = m + 1 := ⟨s.size - 1, by omega⟩
    have h1 := (part_ok (ha ⟨(0 : Nat), s.extract 0 0⟩ (by
      unfold pcs
      rw [hm]
      show _ ∈ (if bt s 0 = 47 then ⟨(0 : Nat), s.extract 0 0⟩ :: pcG s m 1 1 else pcG s m 0 1)
      rw [if_pos h0]
      exact List.mem_cons_self))).2
    exact h1 (by show (s.extract 0 0).size = 0; rw [ByteArray.size_extract]; omega)
theorem ext_nul {s : ByteArray} (h : nulB s = false) (a b : Nat) : nulB (s.extract a b) = false := by
  unfold nulB at *
  cases hc : (s.extract a b).data.toList.contains 0 with
  | false => rfl
  | true =>
    have h1 := List.contains_iff_mem.1 hc
    rw [ext_list] at h1
    rw [List.contains_iff_mem.2 (List.mem_of_mem_drop (List.mem_of_mem_take h1))] at h
    cases h
theorem split_cases {s : ByteArray} (h : (checkF s).2 = 0) : (splitF s = (NoB, s, 0) ∧ s.size ≤ 100) ∨ (splitF s = (NoB, NoB, 2) ∧ 100 < s.size) ∨
    (∃ k, 0 < k ∧ k ≤ 155 ∧ k < s.size ∧ s.size - k - 1 ≤ 100 ∧ splitF s = (s.extract 0 k, s.extract (k + 1) s.size, 0) ∧ s.data.toList = (s.extract 0 k).data.toList ++ 47 :: (s.extract (k + 1) s.size).data.toList) := by
  obtain ⟨h1, h2, h3, h4⟩ := path_ok h
  unfold splitF
  rw [if_neg (fun e => e h)]
  by_cases hs : s.size ≤ 100
  · rw [if_pos hs]; exact .inl ⟨rfl, hs⟩
  rw [if_neg hs]
  by_cases hk : splitN s < 0 ∨ 100 < (s.size : Int) - splitN s - 1
  · rw [if_pos hk]; exact .inr (.inl ⟨rfl, by omega⟩)
  rw [if_neg hk]
  refine .inr (.inr ?_)
  rcases Lib.lastIdx_spec s 47 (min s.size 156) with ⟨e, _⟩ | ⟨i, hi, e, hb, _⟩
  · exact absurd (.inl (by unfold splitN; rw [e]; omega)) hk
  · have e' : splitN s = i := e
    rw [e'] at hk ⊢
    have hb2 : bt s i = 47 := by rw [bt_bang s i (by omega)]; exact hb
    have hi0 : 0 < i := by
      rcases Nat.eq_zero_or_pos i with h0 | h0
      · subst h0; exact absurd hb2 h4
      · exact h0
    refine ⟨i, hi0, by omega, by omega, by omega, rfl, ?_⟩
    have hlt : i < s.data.toList.length := by rw [← Lib.size_eq]; omega
    have hg := (bt_eq s i (by omega)).1 hb2
    rw [List.getElem?_eq_getElem hlt] at hg
    have a : (s.data.toList.drop (i + 1)).take (s.size - (i + 1)) = s.data.toList.drop (i + 1) := List.take_of_length_le (by rw [List.length_drop, ← Lib.size_eq]; omega)
    rw [ext_list, ext_list, List.drop_zero, Nat.sub_zero, a, ← Option.some.inj hg, ← List.drop_eq_getElem_cons hlt, List.take_append_drop]
theorem may_num {x : S25} (h : mayX x = 0) : (0 ≤ x.f2 ∧ x.f2 ≤ 4095) ∧ 0 ≤ x.f3 ∧ x.f3 ≤ 1099511627776 := by
  obtain ⟨h1, -, -⟩ := may_t h
  unfold mayX mayF at h
  rw [if_neg (c := (checkF x.f0).2 ≠ 0) (fun e => e h1)] at h
  obtain ⟨h2, h3⟩ := key0 (by decide) h
  have a1 : (if x.f1 = 3 then 0 else 1099511627776 : Int) ≤ 1099511627776 := by split <;> omega
  have a2 : (if x.f1 = 3 ∨ x.f1 = 4 then 0 else 4095 : Int) ≤ 4095 := by split <;> omega
  omega
theorem may_q2 {x : S25} (h : mayX x = 0) : nulB x.f5 = false := by
  obtain ⟨h1, h2, h3⟩ := may_t h
  unfold mayT at h3
  obtain ⟨c1, h3⟩ := key0 (by decide) h3
  obtain ⟨c2, h3⟩ := key0 (by decide) h3
  by_cases k3 : x.f1 = 3
  · rw [if_pos k3] at h3
    exact (path_ok h3).1
  · rw [if_neg k3] at h3
    by_cases k4 : x.f1 = 4
    · rw [if_pos k4] at h3
      unfold leadE at h3
      rw [if_neg (c := (checkF x.f0).2 ≠ 0) (fun e => e h1)] at h3
      exact idx_mem (key0 (by decide) (key0 (by decide) (key0 (by decide) h3).2).2).1
    · have h0 : x.f5.size = 0 := by
        rcases Nat.eq_zero_or_pos x.f5.size with h | h
        · exact h
        · exact absurd ⟨by omega, by omega⟩ c2
      unfold nulB
      rw [List.eq_nil_of_length_eq_zero (l := x.f5.data.toList) (by rw [← Lib.size_eq]; exact h0)]
      rfl
theorem own_good {x : S25} (h : mayX x = 0) : GoodH (splitF x.f0).2.1 (splitF x.f0).1 x.f2 x.f4.length x.f3 (typF x.f1) (lkF x.f5) := by
  obtain ⟨h1, h2, -⟩ := may_t h
  obtain ⟨n1, n2, n3⟩ := may_num h
  obtain ⟨p1, p2, p3, p4⟩ := path_ok h1
  have hb := may_body h
  have hq := may_q2 h
  have hty : typF x.f1 = 48 ∨ typF x.f1 = 49 ∨ typF x.f1 = 50 ∨ typF x.f1 = 53 ∨ typF x.f1 = 120 := by
    unfold typF
    split
    · omega
    · split
      · omega
      · split <;> omega
  have hl : (lkF x.f5).size ≤ 100 ∧ nulB (lkF x.f5) = false := by
    unfold lkF
    split
    · exact ⟨by decide, by decide⟩
    · exact ⟨by omega, hq⟩
  rcases split_cases h1 with ⟨e, hs⟩ | ⟨e, hs⟩ | ⟨k, k0, k1, k2, k3, e, _⟩
  · rw [e]; exact ⟨hty, hs, hl.1, by show NoB.size ≤ 155; decide, p1, hl.2, by show nulB NoB = false; decide, n1, by omega, by omega⟩
  · rw [e]; exact ⟨hty, by decide, hl.1, by decide, by decide, hl.2, by decide, n1, by omega, by omega⟩
  · rw [e]; exact ⟨hty, by simp only [ByteArray.size_extract]; omega, hl.1, by simp only [ByteArray.size_extract]; omega, ext_nul p1 _ _, hl.2, ext_nul p1 _ _, n1, by omega, by omega⟩
theorem may_of {nm pf lk : ByteArray} {md sz tm ty : Int} (h : GoodH nm pf md sz tm ty lk) : mayH nm pf md sz tm ty lk = 0 := by
  unfold mayH
  have h1 := h.hty
  have h2 := h.hnm
  have h3 := h.hlk
  have h4 := h.hpf
  have h5 := h.hmd
  have h6 := h.hsz
  have h7 := h.htm
  rw [if_neg (fun e => e h1), if_neg (by omega), if_neg (by rw [h.nnul, h.lnul, h.pnul]; simp), if_neg (by omega)]
theorem ownH_eq {x : S25} (h : mayX x = 0) : (ownH x).1 = layF (splitF x.f0).2.1 (splitF x.f0).1 x.f2 x.f4.length x.f3 (typF x.f1) (lkF x.f5) := by
  unfold ownH putH
  rw [if_pos (may_of (own_good h))]
theorem ofNat_digit (n : Nat) (h : n < 10) : ((UInt8.ofNat (48 + n)).toNat : Int) = 48 + n := by simp; omega
theorem decL_one {n : Nat} (h : n < 10) : decL n = [48 + (n : Int)] := by
  unfold decL
  rw [Lib.decDigits_one h]
  simp only [List.map_cons, List.map_nil]
  rw [ofNat_digit n h]
theorem decL_more {n : Nat} (h : 10 ≤ n) : decL n = decL (n / 10) ++ [48 + ((n % 10 : Nat) : Int)] := by
  unfold decL
  rw [Lib.decDigits.eq_def, dif_neg (by omega), List.map_append]
  simp only [List.map_cons, List.map_nil]
  rw [ofNat_digit _ (by omega)]
theorem decL_ne (n : Nat) : decL n ≠ [] := fun e => by
  have h1 := decL_length n
  have h2 := nDigits_pos n
  rw [e] at h1
  simp at h1
  omega
theorem decL_inj (n : Nat) : ∀ m, decL n = decL m → n = m := by
  induction n using Nat.strongRecOn with
  | _ n ih =>
    intro m h
    rcases Nat.lt_or_ge n 10 with h1 | h1
    · rcases Nat.lt_or_ge m 10 with h2 | h2
      · rw [decL_one h1, decL_one h2] at h
        injection h with h3
        omega
      · rw [decL_one h1, decL_more h2] at h
        have := List.append_inj' (s₁ := []) (t₁ := [48 + (n : Int)]) h rfl
        exact absurd this.1.symm (decL_ne _)
    · rcases Nat.lt_or_ge m 10 with h2 | h2
      · rw [decL_one h2, decL_more h1] at h
        have := List.append_inj' (s₂ := []) (t₂ := [48 + (m : Int)]) h rfl
        exact absurd this.1 (decL_ne _)
      · rw [decL_more h1, decL_more h2] at h
        obtain ⟨a, b⟩ := List.append_inj' h rfl
        have := ih (n / 10) (by omega) (m / 10) a
        injection b with b
        omega
theorem decL_rg (n : Nat) : ∀ x ∈ decL n, x ≠ 32 := by
  induction n using Nat.strongRecOn with
  | _ n ih =>
    intro x hx
    rcases Nat.lt_or_ge n 10 with h1 | h1
    · rw [decL_one h1, List.mem_singleton] at hx; omega
    · rw [decL_more h1] at hx
      rcases List.mem_append.1 hx with h2 | h2
      · exact ih (n / 10) (by omega) x h2
      · rw [List.mem_singleton] at h2; omega
theorem before_sp : ∀ (a b x y : List Int), (∀ c ∈ a, c ≠ 32) → (∀ c ∈ b, c ≠ 32) → a ++ 32 :: x = b ++ 32 :: y → a = b ∧ x = y
  | [], [], _, _, _, _, h => ⟨rfl, by injection h⟩
  | [], c :: b, x, y, _, hb, h => by
    have h' : (32 : Int) :: x = c :: (b ++ 32 :: y) := h
    injection h' with h1 h2
    exact absurd h1.symm (hb c List.mem_cons_self)
  | c :: a, [], x, y, ha, _, h => by
    have h' : c :: (a ++ 32 :: x) = 32 :: y := h
    injection h' with h1 h2
    exact absurd h1 (ha c List.mem_cons_self)
  | c :: a, d :: b, x, y, ha, hb, h => by
    have h' : c :: (a ++ 32 :: x) = d :: (b ++ 32 :: y) := h
    injection h' with h1 h2
    obtain ⟨e1, e2⟩ := before_sp a b x y (fun z hz => ha z (List.mem_cons_of_mem _ hz)) (fun z hz => hb z (List.mem_cons_of_mem _ hz)) h2
    exact ⟨by rw [h1, e1], e2⟩
def KeyP (k : ByteArray) : Prop := k = KLink ∨ k = KPath
theorem rec_inj {k v k' v' : ByteArray} {t t' : List Int} (hk : KeyP k) (hk' : KeyP k') (hv : v.size ≤ 1000) (hv' : v'.size ≤ 1000) (h : recP ⟨k, v⟩ ++ t = recP ⟨k', v'⟩ ++ t') : k = k' ∧ v = v' ∧ t = t' := by
  have s1 : k.size ≤ 8 := by rcases hk with rfl | rfl <;> decide
  have s2 : k'.size ≤ 8 := by rcases hk' with rfl | rfl <;> decide
  have d1 := dOf_is (n := 3 + k.size + v.size) (by omega)
  have d2 := dOf_is (n := 3 + k'.size + v'.size) (by omega)
  unfold recP recL at h
  simp only at h
  generalize dOf (3 + k.size + v.size) = d at *
  generalize dOf (3 + k'.size + v'.size) = d' at *
  simp only [List.append_assoc, List.singleton_append] at h
  obtain ⟨e1, e2⟩ := before_sp _ _ _ _ (decL_rg _) (decL_rg _) h
  have eN := decL_inj _ _ e1
  have ed : d = d' := by rw [← d1.2.2.1, ← d2.2.2.1, eN]
  have fin : ∀ {t t' : List Int}, v.size = v'.size → bytesOf v ++ (10 :: t) = bytesOf v' ++ (10 :: t') → v = v' ∧ t = t' := fun hz hh => by
    obtain ⟨a, b⟩ := List.append_inj hh (by rw [bytesOf_length, bytesOf_length, hz])
    exact ⟨bytesOf_inj a, by injection b⟩
  have lk : bytesOf KLink = [108, 105, 110, 107, 112, 97, 116, 104] := by decide
  have lp : bytesOf KPath = [112, 97, 116, 104] := by decide
  have z1 : KLink.size = 8 := by decide
  have z2 : KPath.size = 4 := by decide
  rcases hk with rfl | rfl <;> rcases hk' with rfl | rfl
  · exact ⟨rfl, fin (by omega) (by have e3 := List.append_cancel_left e2; injection e3)⟩
  · rw [lk, lp] at e2
    simp at e2
  · rw [lk, lp] at e2
    simp at e2
  · exact ⟨rfl, fin (by omega) (by have e3 := List.append_cancel_left e2; injection e3)⟩
theorem recP_ne (p : S33) (t : List Int) : recP p ++ t ≠ [] := fun e => by
  have := congrArg List.length e
  unfold recP recL at this
  simp at this
theorem fit_key {k v : ByteArray} (hk : KeyP k) (hv : v.size ≤ 1000) : fitN k v = 0 := by
  unfold fitN
  have h1 : ¬ (k.size = 0 ∨ 32 < k.size ∨ badK k.data.toList = true) := by rcases hk with rfl | rfl <;> decide
  rw [if_neg h1, if_neg (by omega)]
theorem putF_one (x : S33) (h : fitN x.f0 x.f1 = 0) : putF [x] = (recP x, 0, 0) := by
  unfold putF
  rw [if_neg (by simp)]
  show (if fitN x.f0 x.f1 ≠ 0 then _ else if (decide (0 < 0) && _) = true then _ else _) = _
  rw [if_neg (fun e => e h), if_neg (by simp)]
  rfl
theorem putF_two (x y : S33) (h : fitN x.f0 x.f1 = 0) (h2 : fitN y.f0 y.f1 = 0) (hl : Op.bytesLess x.f0.toList y.f0.toList = true) : putF [x, y] = (recP x ++ recP y, 0, 0) := by
  unfold putF
  rw [if_neg (by simp)]
  show (if fitN x.f0 x.f1 ≠ 0 then _ else if (decide (0 < 0) && _) = true then _ else if fitN y.f0 y.f1 ≠ 0 then _ else if (decide (0 < 1) && !(Op.bytesLess x.f0.toList y.f0.toList)) = true then _ else _) = _
  rw [if_neg (fun e => e h), if_neg (by simp), if_neg (fun e => e h2), if_neg (by rw [hl]; simp)]
  rfl
theorem put_pairs {p q : ByteArray} (hp : p.size ≤ 1000) (hq : q.size ≤ 1000) : (putF (pairsL p q)).1 = (if 100 < q.size then recP ⟨KLink, q⟩ else []) ++ (if (splitF p).2.2 ≠ 0 then recP ⟨KPath, p⟩ else []) := by
  have f1 := fit_key (k := KLink) (.inl rfl) hq
  have f2 := fit_key (k := KPath) (.inr rfl) hp
  unfold pairsL
  by_cases c1 : 100 < q.size
  · rw [if_pos c1, if_pos c1]
    by_cases c2 : (splitF p).2.2 ≠ 0
    · rw [if_pos c2, if_pos c2]
      show (putF [⟨KLink, q⟩, ⟨KPath, p⟩]).1 = _
      rw [putF_two _ _ f1 f2 (by rw [Lib.toList_data, Lib.toList_data]; show Op.bytesLess KLink.data.toList KPath.data.toList = true; decide)]
    · rw [if_neg c2, if_neg c2, List.append_nil, List.append_nil, putF_one _ f1]
  · rw [if_neg c1, if_neg c1]
    by_cases c2 : (splitF p).2.2 ≠ 0
    · rw [if_pos c2, if_pos c2]
      show (putF [⟨KPath, p⟩]).1 = _
      rw [putF_one _ f2]
      rfl
    · rw [if_neg c2, if_neg c2]
      rfl
theorem pairs_inj {p q p' q' : ByteArray} (hp : p.size ≤ 1000) (hq : q.size ≤ 1000) (hp' : p'.size ≤ 1000) (hq' : q'.size ≤ 1000) (h : (putF (pairsL p q)).1 = (putF (pairsL p' q')).1) :
    ((100 < q.size ∧ 100 < q'.size ∧ q = q') ∨ (¬ 100 < q.size ∧ ¬ 100 < q'.size)) ∧ (((splitF p).2.2 ≠ 0 ∧ (splitF p').2.2 ≠ 0 ∧ p = p') ∨ ((splitF p).2.2 = 0 ∧ (splitF p').2.2 = 0)) := by
  rw [put_pairs hp hq, put_pairs hp' hq'] at h
  have kl : KeyP KLink := .inl rfl
  have kp : KeyP KPath := .inr rfl
  have kne : KLink ≠ KPath := fun e => by have := congrArg ByteArray.size e; revert this; decide
  have tail : ∀ {b b' : Prop} [Decidable b] [Decidable b'], (if b then recP ⟨KPath, p⟩ else []) = (if b' then recP ⟨KPath, p'⟩ else []) → (b ∧ b' ∧ p = p') ∨ (¬ b ∧ ¬ b') := fun {b b'} _ _ hh => by
    by_cases c1 : b
    · by_cases c2 : b'
      · rw [if_pos c1, if_pos c2] at hh
        exact .inl ⟨c1, c2, (rec_inj (t := []) (t' := []) kp kp hp hp' (by rw [List.append_nil, List.append_nil]; exact hh)).2.1⟩
      · rw [if_pos c1, if_neg c2] at hh
        exact absurd (by rw [List.append_nil]; exact hh) (recP_ne ⟨KPath, p⟩ [])
    · by_cases c2 : b'
      · rw [if_neg c1, if_pos c2] at hh
        exact absurd (by rw [List.append_nil]; exact hh.symm) (recP_ne ⟨KPath, p'⟩ [])
      · exact .inr ⟨c1, c2⟩
  have tail2 := fun hh => tail (b := (splitF p).2.2 ≠ 0) (b' := (splitF p').2.2 ≠ 0) hh
  have fin : ((splitF p).2.2 ≠ 0 ∧ (splitF p').2.2 ≠ 0 ∧ p = p') ∨ (¬ (splitF p).2.2 ≠ 0 ∧ ¬ (splitF p').2.2 ≠ 0) → ((splitF p).2.2 ≠ 0 ∧ (splitF p').2.2 ≠ 0 ∧ p = p') ∨ ((splitF p).2.2 = 0 ∧ (splitF p').2.2 = 0) := fun hh => hh.elim .inl (fun e => .inr ⟨Decidable.not_not.1 e.1, Decidable.not_not.1 e.2⟩)
  by_cases c1 : 100 < q.size
  · rw [if_pos c1] at h
    by_cases c2 : 100 < q'.size
    · rw [if_pos c2] at h
      obtain ⟨-, e2, e3⟩ := rec_inj kl kl hq hq' h
      exact ⟨.inl ⟨c1, c2, e2⟩, fin (tail2 e3)⟩
    · rw [if_neg c2, List.nil_append] at h
      by_cases c3 : (splitF p').2.2 ≠ 0
      · rw [if_pos c3] at h
        exact absurd (rec_inj kl kp hq hp' (h.trans (List.append_nil _).symm)).1 kne
      · rw [if_neg c3] at h
        exact absurd h (recP_ne _ _)
  · rw [if_neg c1, List.nil_append] at h
    by_cases c2 : 100 < q'.size
    · rw [if_pos c2] at h
      by_cases c3 : (splitF p).2.2 ≠ 0
      · rw [if_pos c3] at h
        exact absurd (rec_inj kp kl hp hq' ((List.append_nil _).trans h)).1 (fun e => kne e.symm)
      · rw [if_neg c3] at h
        exact absurd h.symm (recP_ne _ _)
    · rw [if_neg c2, List.nil_append] at h
      exact ⟨.inr ⟨c1, c2⟩, fin (tail2 h)⟩
theorem fill_512 {l : List Int} (h : l.length = 512) : fillL l = l := by unfold fillL; rw [h]; simp [zs]
theorem fill_inj {a b r s : List Int} (hl : a.length = b.length) (h : fillL a ++ r = fillL b ++ s) : a = b ∧ r = s := by
  unfold fillL at h
  rw [List.append_assoc, List.append_assoc, hl] at h
  obtain ⟨h1, h2⟩ := List.append_inj h hl
  exact ⟨h1, (List.append_inj h2 rfl).2⟩
theorem more_good {n : Nat} (h : n ≤ 70400) : GoodH MoreB NoB 0 (n : Int) 0 120 NoB := ⟨by omega, by decide, by decide, by decide, by decide, by decide, by decide, by omega, by omega, by omega⟩
theorem moreL_nil : moreL [] = [] := by unfold moreL; rw [if_pos rfl]
theorem moreL_eq {L : List S33} (h : L ≠ []) : moreL L = layF MoreB NoB 0 (putF L).1.length 0 120 NoB ++ fillL (putF L).1 := by
  have hg := more_good (putF_len L)
  unfold moreL putH
  rw [if_neg h, if_pos (may_of hg), fill_512 (layF_len hg)]
theorem pairs_eq {x : S25} (h : mayX x = 0) : (pairsF x.f0 x.f1 x.f2 x.f3 x.f4.length x.f5).1 = pairsL x.f0 x.f5 := by
  unfold pairsF
  rw [if_neg (fun e => e h)]
theorem pieces_eq {x : S25} (h : mayX x = 0) : piecesF x = moreL (pairsL x.f0 x.f5) ++ (layF (splitF x.f0).2.1 (splitF x.f0).1 x.f2 x.f4.length x.f3 (typF x.f1) (lkF x.f5) ++ fillL x.f4) := by
  unfold piecesF
  rw [pairs_eq h, ownH_eq h, fill_512 (layF_len (own_good h))]
theorem typF_rg (k : Int) : typF k ≠ 120 ∧ typF k ≠ 0 := by
  unfold typF
  split
  · omega
  · split
    · omega
    · split <;> omega
theorem typF_inj {a b : Int} (ha : 1 ≤ a ∧ a ≤ 4) (hb : 1 ≤ b ∧ b ≤ 4) (h : typF a = typF b) : a = b := by
  have h1 : a = 1 ∨ a = 2 ∨ a = 3 ∨ a = 4 := by omega
  have h2 : b = 1 ∨ b = 2 ∨ b = 3 ∨ b = 4 := by omega
  rcases h1 with rfl | rfl | rfl | rfl <;> rcases h2 with rfl | rfl | rfl | rfl <;> first | rfl | exact absurd h (by decide)
theorem pieces_type {x : S25} (h : mayX x = 0) (r : List Int) : (piecesF x ++ r).getD 156 0 ≠ 0 := by
  rw [pieces_eq h]
  by_cases hL : pairsL x.f0 x.f5 = []
  · rw [hL, moreL_nil, List.nil_append, List.append_assoc, layF_type (own_good h)]
    exact (typF_rg _).2
  · rw [moreL_eq hL, List.append_assoc, List.append_assoc, layF_type (more_good (putF_len _))]
    decide
theorem own_inj {x y : S25} {r s : List Int} (hx : mayX x = 0) (hy : mayX y = 0) (hP : ((100 < x.f5.size ∧ 100 < y.f5.size ∧ x.f5 = y.f5) ∨ (¬ 100 < x.f5.size ∧ ¬ 100 < y.f5.size)) ∧ (((splitF x.f0).2.2 ≠ 0 ∧ (splitF y.f0).2.2 ≠ 0 ∧ x.f0 = y.f0) ∨ ((splitF x.f0).2.2 = 0 ∧ (splitF y.f0).2.2 = 0)))
    (h : layF (splitF x.f0).2.1 (splitF x.f0).1 x.f2 x.f4.length x.f3 (typF x.f1) (lkF x.f5) ++ (fillL x.f4 ++ r) = layF (splitF y.f0).2.1 (splitF y.f0).1 y.f2 y.f4.length y.f3 (typF y.f1) (lkF y.f5) ++ (fillL y.f4 ++ s)) : x = y ∧ r = s := by
  have gx := own_good hx
  have gy := own_good hy
  obtain ⟨h1, h2⟩ := List.append_inj h ((layF_len gx).trans (layF_len gy).symm)
  obtain ⟨e1, e2, e3, e4, e5, e6, e7⟩ := layF_inj gx gy h1
  obtain ⟨e8, e9⟩ := fill_inj (by omega) h2
  have ek := typF_inj (may_t hx).2.1 (may_t hy).2.1 e6
  have eq : x.f5 = y.f5 := by
    rcases hP.1 with ⟨_, _, e⟩ | ⟨a, b⟩
    · exact e
    · unfold lkF at e7
      rwa [if_neg a, if_neg b] at e7
  have ep : x.f0 = y.f0 := by
    rcases hP.2 with ⟨_, _, e⟩ | ⟨a, b⟩
    · exact e
    · rcases split_cases (may_t hx).1 with ⟨c, _⟩ | ⟨c, _⟩ | ⟨k, k0, k1, k2, k3, c, cl⟩
      · rcases split_cases (may_t hy).1 with ⟨d, _⟩ | ⟨d, _⟩ | ⟨j, j0, j1, j2, j3, d, dl⟩
        · rw [c, d] at e1; exact e1
        · rw [d] at b; exact absurd b (by decide)
        · rw [c, d] at e2
          have := congrArg ByteArray.size e2
          simp only [ByteArray.size_extract] at this
          have hz : NoB.size = 0 := rfl
          omega
      · rw [c] at a; exact absurd a (by decide)
      · rcases split_cases (may_t hy).1 with ⟨d, _⟩ | ⟨d, _⟩ | ⟨j, j0, j1, j2, j3, d, dl⟩
        · rw [c, d] at e2
          have := congrArg ByteArray.size e2
          simp only [ByteArray.size_extract] at this
          have hz : NoB.size = 0 := rfl
          omega
        · rw [d] at b; exact absurd b (by decide)
        · rw [c, d] at e1 e2
          simp only at e1 e2
          rw [e1, e2, ← dl] at cl
          exact ByteArray.ext (Array.ext' cl)
  refine ⟨?_, e9⟩
  obtain ⟨a0, a1, a2, a3, a4, a5⟩ := x
  obtain ⟨b0, b1, b2, b3, b4, b5⟩ := y
  simp only at e3 e5 e8 ek eq ep
  subst e3 e5 e8 ek eq ep
  rfl
theorem pieces_inj {x y : S25} {r s : List Int} (hx : mayX x = 0) (hy : mayX y = 0) (h : piecesF x ++ r = piecesF y ++ s) : x = y ∧ r = s := by
  have hpx := may_path hx
  have hqx := may_q hx
  have hpy := may_path hy
  have hqy := may_q hy
  have noP : ∀ {p q : ByteArray}, pairsL p q = [] → ¬ 100 < q.size ∧ (splitF p).2.2 = 0 := fun {p q} hh => by
    unfold pairsL at hh
    obtain ⟨a, b⟩ := List.append_eq_nil_iff.1 hh
    refine ⟨fun c => ?_, Decidable.not_not.1 fun c => ?_⟩
    · rw [if_pos c] at a; cases a
    · rw [if_pos c] at b; cases b
  have ht : (piecesF x ++ r).getD 156 0 = (piecesF y ++ s).getD 156 0 := by rw [h]
  rw [pieces_eq hx, pieces_eq hy] at h ht
  by_cases lx : pairsL x.f0 x.f5 = []
  · by_cases ly : pairsL y.f0 y.f5 = []
    · rw [lx, ly, moreL_nil, List.nil_append, List.nil_append, List.append_assoc, List.append_assoc] at h
      exact own_inj hx hy ⟨.inr ⟨(noP lx).1, (noP ly).1⟩, .inr ⟨(noP lx).2, (noP ly).2⟩⟩ h
    · rw [lx, moreL_eq ly, moreL_nil, List.nil_append, List.append_assoc, layF_type (own_good hx), List.append_assoc, List.append_assoc, layF_type (more_good (putF_len _))] at ht
      exact absurd ht (typF_rg _).1
  · by_cases ly : pairsL y.f0 y.f5 = []
    · rw [ly, moreL_eq lx, moreL_nil, List.nil_append, List.append_assoc, List.append_assoc, layF_type (more_good (putF_len _)), List.append_assoc, layF_type (own_good hy)] at ht
      exact absurd ht.symm (typF_rg _).1
    · rw [moreL_eq lx, moreL_eq ly] at h
      have gx := more_good (putF_len (pairsL x.f0 x.f5))
      have gy := more_good (putF_len (pairsL y.f0 y.f5))
      simp only [List.append_assoc] at h
      obtain ⟨h1, h2⟩ := List.append_inj h ((layF_len gx).trans (layF_len gy).symm)
      obtain ⟨-, -, -, e4, -, -, -⟩ := layF_inj gx gy h1
      obtain ⟨e8, e9⟩ := fill_inj (by omega) h2
      exact own_inj hx hy (pairs_inj (by omega) (by omega) (by omega) (by omega) e8) e9
noncomputable def flatP (l : List S25) : List Int := (l.map piecesF).flatten
theorem zs_at (n i : Nat) : (zs n).getD i 0 = 0 := by
  unfold zs
  rw [List.getD_eq_getElem?_getD, List.getElem?_replicate]
  split <;> rfl
set_option maxRecDepth 100000 in
theorem vol_eq (l : List S25) : ∀ (m i : Nat) (acc : List Int), i + m = l.length → (volG l m i acc).2.2 = 0 → (volG l m i acc).1 = acc ++ (flatP (l.drop i) ++ zs 1024) ∧ (acc.length + 1024 ≤ 131072 → (acc ++ (flatP (l.drop i) ++ zs 1024)).length ≤ 131072)
  | 0, i, acc, hi, h => by
    rw [List.drop_eq_nil_of_le (by omega)]
    exact ⟨rfl, fun h => by simp only [flatP, List.map_nil, List.flatten_nil, List.nil_append, List.length_append, zs_length]; exact h⟩
  | m + 1, i, acc, hi, h => by
    have e : volG l (m + 1) i acc = if 131072 < (acc ++ piecesF (itm l i)).length + 1024 then ([], (i : Int), 2) else volG l m (i + 1) (acc ++ piecesF (itm l i)) := rfl
    rw [e] at h ⊢
    by_cases hb : 131072 < (acc ++ piecesF (itm l i)).length + 1024
    · rw [if_pos hb] at h; exact absurd h (by show ¬ (2 : Int) = 0; decide)
    · rw [if_neg hb] at h ⊢
      obtain ⟨h1, h2⟩ := vol_eq l m (i + 1) _ (by omega) h
      have hlt : i < l.length := by omega
      have e2 : flatP (l.drop i) = piecesF (itm l i) ++ flatP (l.drop (i + 1)) := by
        rw [List.drop_eq_getElem_cons hlt, itm_at hlt]
        rfl
      rw [List.append_assoc, ← List.append_assoc (piecesF (itm l i)), ← e2] at h1 h2
      exact ⟨h1, fun _ => h2 (by omega)⟩
set_option maxRecDepth 100000 in
theorem vol_err (l : List S25) : ∀ (m i : Nat) (acc : List Int), (volG l m i acc).2.2 ≠ 0 → (volG l m i acc).1 = []
  | 0, i, acc, h => absurd rfl h
  | m + 1, i, acc, h => by
    have e : volG l (m + 1) i acc = if 131072 < (acc ++ piecesF (itm l i)).length + 1024 then ([], (i : Int), 2) else volG l m (i + 1) (acc ++ piecesF (itm l i)) := rfl
    rw [e] at h ⊢
    by_cases hb : 131072 < (acc ++ piecesF (itm l i)).length + 1024
    · rw [if_pos hb]
    · rw [if_neg hb] at h ⊢
      exact vol_err l m (i + 1) _ h
theorem write_err {l : List S25} (h : (writeF l).2.2 ≠ 0) : (writeF l).1 = [] := by
  unfold writeF at h ⊢
  by_cases hc : (checkT l).2 = 0
  · rw [if_neg (fun e => e hc)] at h ⊢
    exact vol_err l _ _ _ h
  · rw [if_pos hc]
theorem write_ok {l : List S25} (h : (writeF l).2.2 = 0) : (checkT l).2 = 0 ∧ (writeF l).1 = flatP l ++ zs 1024 ∧ (flatP l ++ zs 1024).length ≤ 131072 ∧ (volG l l.length 0 []).2.2 = 0 := by
  unfold writeF at h ⊢
  by_cases hc : (checkT l).2 = 0
  · rw [if_neg (fun e => e hc)] at h ⊢
    obtain ⟨h1, h2⟩ := vol_eq l l.length 0 [] (by omega) h
    rw [List.drop_zero, List.nil_append] at h1 h2
    exact ⟨hc, h1, h2 (by simp), h⟩
  · rw [if_pos hc] at h; exact absurd h hc
theorem flat_inj : ∀ {l u : List S25}, (∀ x ∈ l, mayX x = 0) → (∀ x ∈ u, mayX x = 0) → flatP l ++ zs 1024 = flatP u ++ zs 1024 → l = u
  | [], [], _, _, _ => rfl
  | [], y :: u, _, hu, h => by
    have h' : zs 1024 = (piecesF y ++ flatP u) ++ zs 1024 := h
    have h2 := congrArg (fun l => l.getD 156 0) h'
    simp only [List.append_assoc] at h2
    exact absurd h2.symm (by rw [zs_at]; exact pieces_type (hu y List.mem_cons_self) _)
  | x :: l, [], hl, _, h => by
    have h' : (piecesF x ++ flatP l) ++ zs 1024 = zs 1024 := h
    have h2 := congrArg (fun l => l.getD 156 0) h'
    simp only [List.append_assoc] at h2
    exact absurd h2 (by rw [zs_at]; exact pieces_type (hl x List.mem_cons_self) _)
  | x :: l, y :: u, hl, hu, h => by
    have h' : (piecesF x ++ flatP l) ++ zs 1024 = (piecesF y ++ flatP u) ++ zs 1024 := h
    rw [List.append_assoc, List.append_assoc] at h'
    obtain ⟨e1, e2⟩ := pieces_inj (hl x List.mem_cons_self) (hu y List.mem_cons_self) h'
    rw [e1, flat_inj (fun z hz => hl z (List.mem_cons_of_mem _ hz)) (fun z hz => hu z (List.mem_cons_of_mem _ hz)) e2]
theorem check_mem {l : List S25} (h : (checkT l).2 = 0) : ∀ x ∈ l, mayX x = 0 := fun x hx => by
  obtain ⟨i, hi⟩ := List.mem_iff_getElem?.1 hx
  obtain ⟨hlt, e⟩ := List.getElem?_eq_some_iff.1 hi
  have := (checkT_ok h).2 i hlt
  rwa [itm_at hlt, e] at this
theorem write_inj {l u : List S25} (hl : (writeF l).2.2 = 0) (hu : (writeF u).2.2 = 0) (h : (writeF l).1 = (writeF u).1) : l = u := by
  obtain ⟨a1, a2, -, -⟩ := write_ok hl
  obtain ⟨b1, b2, -, -⟩ := write_ok hu
  rw [a2, b2] at h
  exact flat_inj (check_mem a1) (check_mem b1) h
theorem itm_take {l : List S25} {c j : Nat} (h : j < c) : itm (l.take c) j = itm l j := by unfold itm; rw [List.getD_eq_getElem?_getD, List.getD_eq_getElem?_getD, List.getElem?_take, if_pos h]
theorem checkG_take (l : List S25) (c r : Nat) : ∀ (m i : Nat), i + m = c → (checkG l (m + r) i).2 = 0 → (checkG (l.take c) m i).2 = 0
  | 0, i, _, _ => rfl
  | m + 1, i, hc, h => by
    have e : ∀ (t : List S25) (n : Nat), checkG t (n + 1) i = if mayX (itm t i) ≠ 0 then ((i : Int), mayX (itm t i)) else
      if 0 < i ∧ cmpF (itm t (i - 1)).f0 (itm t i).f0 ≠ -1 then ((i : Int), 111) else
      if (upF (itm t i).f0).size ≠ 0 ∧ hasF (t.take i) (upF (itm t i).f0) 2 = false then ((i : Int), 112) else
      if (itm t i).f1 = 3 ∧ hasF (t.take i) (itm t i).f5 1 = false then ((i : Int), 113) else checkG t n (i + 1) := fun _ _ => rfl
    rw [show m + 1 + r = (m + r) + 1 by omega, e] at h
    rw [e, itm_take (by omega), itm_take (by omega), List.take_take, Nat.min_eq_left (by omega)]
    by_cases c0 : mayX (itm l i) = 0
    · rw [if_neg (c := mayX (itm l i) ≠ 0) (fun e => e c0)] at h ⊢
      by_cases c1 : 0 < i ∧ cmpF (itm l (i - 1)).f0 (itm l i).f0 ≠ -1
      · rw [if_pos c1] at h; exact absurd h (by show ¬ (111 : Int) = 0; decide)
      rw [if_neg c1] at h ⊢
      by_cases c2 : (upF (itm l i).f0).size ≠ 0 ∧ hasF (l.take i) (upF (itm l i).f0) 2 = false
      · rw [if_pos c2] at h; exact absurd h (by show ¬ (112 : Int) = 0; decide)
      rw [if_neg c2] at h ⊢
      by_cases c3 : (itm l i).f1 = 3 ∧ hasF (l.take i) (itm l i).f5 1 = false
      · rw [if_pos c3] at h; exact absurd h (by show ¬ (113 : Int) = 0; decide)
      rw [if_neg c3] at h ⊢
      exact checkG_take l c r m (i + 1) (by omega) h
    · rw [if_pos c0] at h; exact absurd h c0
theorem checkT_take {l : List S25} (h : (checkT l).2 = 0) (c : Nat) (hc : c ≤ l.length) : (checkT (l.take c)).2 = 0 := by
  unfold checkT at h ⊢
  by_cases hb : 256 < l.length
  · rw [if_pos hb] at h; exact absurd h (by decide)
  rw [if_neg hb] at h
  have hl : (l.take c).length = c := by rw [List.length_take]; omega
  rw [hl, if_neg (by omega)]
  exact checkG_take l c (l.length - c) c 0 (by omega) (by rw [show c + (l.length - c) = l.length by omega]; exact h)
set_option maxRecDepth 100000 in
theorem vol_take (l : List S25) (c r : Nat) : ∀ (m i : Nat) (acc : List Int), i + m = c → (volG l (m + r) i acc).2.2 = 0 → (volG (l.take c) m i acc).2.2 = 0
  | 0, i, acc, _, _ => rfl
  | m + 1, i, acc, hc, h => by
    have e : ∀ (t : List S25) (n : Nat), volG t (n + 1) i acc = if 131072 < (acc ++ piecesF (itm t i)).length + 1024 then ([], (i : Int), 2) else volG t n (i + 1) (acc ++ piecesF (itm t i)) := fun _ _ => rfl
    rw [show m + 1 + r = (m + r) + 1 by omega, e] at h
    rw [e, itm_take (by omega)]
    by_cases hb : 131072 < (acc ++ piecesF (itm l i)).length + 1024
    · rw [if_pos hb] at h; exact absurd h (by show ¬ (2 : Int) = 0; decide)
    · rw [if_neg hb] at h ⊢
      exact vol_take l c r m (i + 1) _ (by omega) h
theorem write_take {l : List S25} (h : (writeF l).2.2 = 0) (c : Nat) (hc : c ≤ l.length) : (writeF (l.take c)).2.2 = 0 := by
  obtain ⟨h1, -, -, h2⟩ := write_ok h
  have hl : (l.take c).length = c := by rw [List.length_take]; omega
  unfold writeF
  rw [if_neg (fun e => e (checkT_take h1 c hc)), hl]
  exact vol_take l c (l.length - c) c 0 [] (by omega) (by rw [show c + (l.length - c) = l.length by omega]; exact h2)
theorem flat_take (l : List S25) (c : Nat) : flatP l = flatP (l.take c) ++ flatP (l.drop c) := by
  unfold flatP
  rw [← List.flatten_append, ← List.map_append, List.take_append_drop]
end Go.Proofs.YtopehfjohifpnaaDoor.Mine
end
section
set_option linter.unusedSimpArgs false
set_option linter.unusedVariables false
namespace Go.Proofs.YtopehfjohifpnaaDoor.Mine
open Go.RowKit Go.Shelf Go.Proofs.YtopehfjohifpnaaDoorW.PrintWords Go.Proofs.YtopehfjohifpnaaDoorW.PrintLast Go.Proofs.YtopehfjohifpnaaDoorW.PrintMore Go.Proofs.YtopehfjohifpnaaDoor.Turn Go.Proofs.YtopehfjohifpnaaDoor.Doc
set_option maxRecDepth 100000 in
set_option maxHeartbeats 8000000 in
theorem sizeW_any (A : Option Addr) (c : Nat) (l : List S25) (i0 : Int) (w : World) (hr : Kd.C k25 w A l.length l) (hV : Vars w i0) :
    Calls Tryd.prog 12 #[.slice A l.length c] w fun e w' => e = .returned (.tuple #[.int .i64 (writeF l).1.length, .int .i64 (writeF l).2.2]) ∧ Below w.heap.size w w' := by
  have HWA := Aside0.mk (write_any A c l i0 w hr hV)
  generalize writeF l = R at *
  obtain ⟨vb, va, ve⟩ := R
  unfold EndsWrite at HWA
  simp only at HWA ⊢
  clear hr hV
  go_enter Tryd.func12, Tryd.ntmps12
  go_wp2_with fail
  refine HWA.out.mono ?_
  rintro e w1 ⟨A1, c1, rfl, ho, hb⟩
  have HB := Aside0.mk hb
  clear ho hb HWA
  go_wp2_with fail
  go_ret2
  exact ⟨rfl, HB.out⟩
end Go.Proofs.YtopehfjohifpnaaDoor.Mine
end
