/- pax: the plain law of records: one record, there and back. -/
import Derived.Test.YtbidbjgklonbpaaDoorPaxL0
import Derived.Lib.IndexBytes
import Derived.Lib.IndexLaws
set_option linter.unusedSimpArgs false
set_option linter.unusedVariables false
namespace Go.Proofs.YtbidbjgklonbpaaDoor.Mine
open Go.RowKit Go.Maps Go.Proofs.YtbidbjgklonbpaaDoorW.PrintWords Go.Proofs.YtbidbjgklonbpaaDoorW.PrintLast Go.Proofs.YtbidbjgklonbpaaDoorW.PrintMore Go.Proofs.YtbidbjgklonbpaaDoor.Turn Go.Proofs.YtbidbjgklonbpaaDoor.PPaxGets

theorem bytes_of_bytesOf (s : ByteArray) : Lib.bytesOf (bytesOf s) = s.data.toList := by
  unfold Lib.bytesOf bytesOf
  rw [List.map_map]
  conv => rhs; rw [← List.map_id s.data.toList]
  refine List.map_congr_left fun x _ => ?_
  simp
theorem str_bytes (s : ByteArray) : strOfNums (bytesOf s) = s := by
  apply ByteArray.ext
  apply Array.ext'
  rw [strOfNums_data]
  exact bytes_of_bytesOf s
theorem bytes_str {l : List Int} (h : ∀ x ∈ l, 0 ≤ x ∧ x < 256) : bytesOf (strOfNums l) = l := by
  unfold bytesOf
  rw [strOfNums_data, List.map_map]
  conv => rhs; rw [← List.map_id l]
  refine List.map_congr_left fun x hx => ?_
  have := h x hx
  simp
  omega
theorem bytesOf_rg (s : ByteArray) : ∀ x ∈ bytesOf s, 0 ≤ x ∧ x < 256 := by
  intro x hx
  unfold bytesOf at hx
  obtain ⟨b, _, rfl⟩ := List.mem_map.1 hx
  have := b.toNat_lt
  omega
theorem strN_size (l : List Int) : (strOfNums l).size = l.length := by
  show (l.map _).toArray.size = _
  simp
theorem ofNat_digit (n : Nat) (h : n < 10) : ((UInt8.ofNat (48 + n)).toNat : Int) = 48 + n := by simp; omega
theorem dec_dig (n : Nat) : ∀ x ∈ decL n, isD x = true := by
  unfold decL
  induction n using Nat.strongRecOn with
  | _ n ih =>
    intro x hx
    rw [Lib.decDigits.eq_def] at hx
    split at hx
    · rename_i h
      simp only [List.map_cons, List.map_nil, List.mem_singleton] at hx
      subst hx
      rw [ofNat_digit n h]
      simp [isD]; omega
    · rename_i h
      rw [List.map_append, List.mem_append] at hx
      rcases hx with hx | hx
      · exact ih (n / 10) (by omega) x hx
      · simp only [List.map_cons, List.map_nil, List.mem_singleton] at hx
        subst hx
        rw [ofNat_digit (n % 10) (by omega)]
        simp [isD]; omega
theorem dec_head (n : Nat) (h1 : 1 ≤ n) (t : List Int) : (decL n ++ t).getD 0 0 ≠ 48 := by
  have hm : ∀ n, 1 ≤ n → ∃ x s, decL n = x :: s ∧ x ≠ 48 := by
    intro n
    unfold decL
    induction n using Nat.strongRecOn with
    | _ n ih =>
      intro h1
      rw [Lib.decDigits.eq_def]
      split
      · rename_i h
        refine ⟨_, [], rfl, ?_⟩
        show ((UInt8.ofNat (48 + n)).toNat : Int) ≠ 48
        rw [ofNat_digit n h]
        omega
      · rename_i h
        obtain ⟨x, s, e, hx⟩ := ih (n / 10) (by omega) (by omega)
        rw [List.map_append, e]
        exact ⟨x, _, rfl, hx⟩
  obtain ⟨x, s, e, hx⟩ := hm n h1
  rw [e]
  simpa using hx
theorem dec_from (n : Nat) : Lib.decFrom 0 (Lib.decDigits n) = some n := by
  induction n using Nat.strongRecOn with
  | _ n ih =>
    rw [Lib.decDigits.eq_def]
    split
    · rename_i h
      have : (UInt8.ofNat (48 + n)).toNat = 48 + n := by simp; omega
      simp only [Lib.decFrom, Lib.digitVal, this]
      rw [if_pos (by omega)]
      simp only [Option.some.injEq]
      omega
    · rename_i h
      have ih := ih (n / 10) (by omega)
      have hb : (UInt8.ofNat (48 + n % 10)).toNat = 48 + n % 10 := by simp; omega
      have hd : Lib.digitVal (UInt8.ofNat (48 + n % 10)) = some (n % 10) := by
        unfold Lib.digitVal
        rw [hb, if_pos (by omega)]
        simp
      have ht := Lib.decFrom_take (Lib.decDigits (n / 10) ++ [UInt8.ofNat (48 + n % 10)]) (Lib.decDigits (n / 10)).length 0 (n / 10) _ (n % 10) (by rw [List.take_left']; exact ih; rfl) (by simp) hd
      rw [List.take_of_length_le (by simp)] at ht
      rw [ht]
      exact congrArg some (by omega)
theorem dec_num (n : Nat) (t : List Int) : numN (decL n ++ t) (decL n).length = n := by
  unfold numN
  rw [List.take_left']
  · have : Lib.bytesOf (decL n) = Lib.decDigits n := by
      unfold Lib.bytesOf decL
      rw [List.map_map]
      conv => rhs; rw [← List.map_id (Lib.decDigits n)]
      refine List.map_congr_left fun x _ => ?_
      simp
    rw [this, dec_from]
    rfl
  · rfl
theorem dec_lead (n : Nat) (hn : Lib.nDigits n ≤ 4) (t : List Int) (ht : t = [] ∨ isD (t.getD 0 0) = false) : lead (decL n ++ t) 5 = (decL n).length := by
  have hl := decL_length n
  refine lead_eq 5 _ _ (by omega) (by simp) (fun i hi => ?_) ?_
  · rw [List.getD_eq_getElem?_getD, List.getElem?_append_left hi, List.getElem?_eq_getElem hi]
    exact dec_dig n _ (List.getElem_mem hi)
  · rcases ht with rfl | ht
    · right; left; simp
    · right; right
      rw [List.getD_eq_getElem?_getD, List.getElem?_append_right (Nat.le_refl _), Nat.sub_self, ← List.getD_eq_getElem?_getD]
      exact ht
theorem index_bytes (k v : ByteArray) (h : badK k.data.toList = false) : Lib.index (Lib.bytesOf (bytesOf k ++ [61] ++ bytesOf v)) [61] = k.size := by
  have e : Lib.bytesOf (bytesOf k ++ [61] ++ bytesOf v) = k.data.toList ++ [61] ++ v.data.toList := by
    have : ∀ a b, Lib.bytesOf (a ++ b) = Lib.bytesOf a ++ Lib.bytesOf b := fun a b => by simp [Lib.bytesOf]
    rw [this, this, bytes_of_bytesOf, bytes_of_bytesOf]
    rfl
  rw [e, Lib.index_one, Lib.size_eq]
  generalize k.data.toList = l at h
  induction l with
  | nil => rfl
  | cons b l ih =>
    have hbk : badK (b :: l) = ((b == 0 || (b == 10 || b == 61)) || badK l) := rfl
    rw [hbk, Bool.or_eq_false_iff] at h
    have hb : (b == 61) = false := by
      have := h.1
      simp only [Bool.or_eq_false_iff] at this
      exact this.2.2
    have ih := ih h.2
    show Lib.indexByte (b :: (l ++ [61] ++ v.data.toList)) 61 = _
    unfold Lib.indexByte
    rw [hb, ih]
    simp

theorem rec_parts {k v : ByteArray} (h : fitN k v = 0) : ∃ N d, d = Lib.nDigits N ∧ d ≤ 4 ∧ 1 ≤ d ∧ N = 3 + k.size + v.size + dOf (3 + k.size + v.size) ∧ d = dOf (3 + k.size + v.size) ∧ recP ⟨k, v⟩ = decL N ++ (32 :: (bytesOf k ++ [61] ++ bytesOf v ++ [10])) := by
  have hs := fit_small h
  have hd := dOf_is (n := 3 + k.size + v.size) (by omega)
  refine ⟨_, _, hd.2.2.1.symm, ?_, hd.1, rfl, rfl, ?_⟩
  · have := (nDigits_lt 4 (3 + k.size + v.size + dOf (3 + k.size + v.size)) (by omega)).2 (by have := hd.2.1; omega)
    rw [hd.2.2.1] at this
    exact this
  · unfold recP recL
    simp
theorem badK_fit {k v : ByteArray} (h : fitN k v = 0) : badK k.data.toList = false := by
  unfold fitN at h
  split at h
  · cases h
  · rename_i h1
    cases hb : badK k.data.toList with
    | true => exact absurd (.inr (.inr hb)) h1
    | false => rfl

theorem recP_length {k v : ByteArray} (h : fitN k v = 0) : (recP ⟨k, v⟩).length = 3 + k.size + v.size + dOf (3 + k.size + v.size) := by
  have hs := fit_small h
  have hd := dOf_is (n := 3 + k.size + v.size) (by omega)
  exact recL_length hd
/-- What was put is got. -/
theorem one_back {k v : ByteArray} (h : fitN k v = 0) (t : List Int) : oneL (recP ⟨k, v⟩ ++ t) = .ok (k, v, (recP ⟨k, v⟩).length) := by
  obtain ⟨N, d, h1, h2, h3, h4, h5, h6⟩ := rec_parts h
  have hlen := recP_length h
  rw [← h4] at hlen
  have hs := fit_small h
  have hdl : (decL N).length = d := by rw [decL_length, h1]
  have hN1 : 1 ≤ N := by omega
  have e0 : recP ⟨k, v⟩ ++ t = decL N ++ (32 :: (bytesOf k ++ [61] ++ bytesOf v ++ [10] ++ t)) := by rw [h6]; simp
  have eL := dec_lead N (by omega) (32 :: (bytesOf k ++ [61] ++ bytesOf v ++ [10] ++ t)) (.inr rfl)
  have eN := dec_num N (32 :: (bytesOf k ++ [61] ++ bytesOf v ++ [10] ++ t))
  have eH := dec_head N hN1 (32 :: (bytesOf k ++ [61] ++ bytesOf v ++ [10] ++ t))
  have eS : (recP ⟨k, v⟩ ++ t).getD d 0 = 32 := by
    rw [e0, ← hdl, List.getD_eq_getElem?_getD, List.getElem?_append_right (Nat.le_refl _), Nat.sub_self]
    rfl
  rw [← e0, hdl] at eL eN
  rw [← e0] at eH
  have htl : (recP ⟨k, v⟩ ++ t).length = N + t.length := by rw [List.length_append, hlen]
  unfold oneL
  rw [eL, eN, if_neg (by rw [eS]; simp only [ne_eq, not_true_eq_false, or_false]; rintro (h | h | h | h) <;> first | omega | exact eH h)]
  unfold oneN
  have hend : (recP ⟨k, v⟩ ++ t).getD (N - 1) 0 = 10 := by
    have e1 : recP ⟨k, v⟩ = (decL N ++ (32 :: (bytesOf k ++ [61] ++ bytesOf v))) ++ [10] := by rw [h6]; simp
    have l1 : (decL N ++ (32 :: (bytesOf k ++ [61] ++ bytesOf v))).length = N - 1 := by
      have := hlen
      rw [e1, List.length_append, List.length_singleton] at this
      omega
    rw [e1, List.append_assoc, List.getD_eq_getElem?_getD, List.getElem?_append_right (by omega), l1, Nat.sub_self]
    rfl
  rw [if_neg (by rw [hend]; omega)]
  have hbody : ((recP ⟨k, v⟩ ++ t).take (N - 1)).drop (d + 1) = bytesOf k ++ [61] ++ bytesOf v := by
    have e1 : recP ⟨k, v⟩ ++ t = (decL N ++ [32]) ++ ((bytesOf k ++ [61] ++ bytesOf v) ++ (10 :: t)) := by rw [h6]; simp
    have l2 : (decL N ++ [32]).length = d + 1 := by rw [List.length_append, hdl]; rfl
    have l3 : (bytesOf k ++ [61] ++ bytesOf v).length = N - 1 - (d + 1) := by
      simp only [List.length_append, bytesOf_length, List.length_singleton]
      omega
    rw [List.drop_take, e1, List.drop_left' l2, List.take_left' l3]
  rw [hbody]
  unfold oneB
  rw [index_bytes k v (badK_fit h), if_neg (by omega), Int.toNat_natCast]
  have t1 : (bytesOf k ++ [61] ++ bytesOf v).take k.size = bytesOf k := by
    rw [List.append_assoc, List.take_left' (bytesOf_length k)]
  have t2 : (bytesOf k ++ [61] ++ bytesOf v).drop (k.size + 1) = bytesOf v := by
    rw [List.drop_left' (by simp [bytesOf_length])]
  rw [t1, t2, str_bytes, str_bytes]
  unfold oneP
  rw [if_neg (by rw [h]; simp), ← h4, if_neg (by simp), hlen]

/-- A record that is cut is none. -/
theorem one_cut {k v : ByteArray} (h : fitN k v = 0) (c : Nat) (h1c : 1 ≤ c) (hc : c < (recP ⟨k, v⟩).length) : oneL ((recP ⟨k, v⟩).take c) = .error 90 := by
  obtain ⟨N, d, h1, h2, h3, h4, h5, h6⟩ := rec_parts h
  have hlen := recP_length h
  rw [← h4] at hlen
  have hdl : (decL N).length = d := by rw [decL_length, h1]
  have hcl : ((recP ⟨k, v⟩).take c).length = c := by rw [List.length_take]; omega
  unfold oneL
  by_cases hcd : c ≤ d
  · have e1 : (recP ⟨k, v⟩).take c = (decL N).take c := by rw [h6, List.take_append_of_le_length (by omega)]
    have eL : lead ((recP ⟨k, v⟩).take c) 5 = c := by
      refine lead_eq 5 _ _ (by omega) (by omega) (fun i hi => ?_) (.inr (.inl hcl.symm))
      rw [e1, List.getD_eq_getElem?_getD, List.getElem?_take_of_lt hi, List.getElem?_eq_getElem (by omega)]
      exact dec_dig N _ (List.getElem_mem _)
    rw [if_pos (by rw [eL, hcl]; exact .inr (.inr (.inr (.inl rfl))))]
  · have e1 : (recP ⟨k, v⟩).take c = decL N ++ (32 :: (bytesOf k ++ [61] ++ bytesOf v ++ [10])).take (c - d) := by
      rw [h6, List.take_append, List.take_of_length_le (by omega), hdl]
    obtain ⟨e, he⟩ : ∃ e, c - d = e + 1 := ⟨c - d - 1, by omega⟩
    rw [he, List.take_succ_cons] at e1
    have eL := dec_lead N (by omega) (32 :: (bytesOf k ++ [61] ++ bytesOf v ++ [10]).take e) (.inr rfl)
    have eN := dec_num N (32 :: (bytesOf k ++ [61] ++ bytesOf v ++ [10]).take e)
    rw [← e1, hdl] at eL eN
    rw [eL, eN]
    split
    · rfl
    · unfold oneN
      rw [if_pos (.inl (by omega))]

/-- What was got is what was put. -/
theorem dec_of_num {l : List Int} (h0 : l.getD 0 0 ≠ 48) : ∀ {d : Nat}, d + 1 ≤ l.length → (∀ i, i < d + 1 → isD (l.getD i 0) = true) → l.take (d + 1) = decL (numN l (d + 1))
  | 0, h, hd => by
    rw [numN_succ (by omega) hd, numN_zero]
    have hx := hd 0 (by omega)
    cases l with
    | nil => simp at h
    | cons x l =>
      simp only [List.getD_cons_zero, isD, Bool.and_eq_true, decide_eq_true_eq] at hx h0 ⊢
      unfold decL
      rw [Lib.decDigits_one (by omega)]
      simp only [List.take_succ_cons, List.take_zero, List.map_cons, List.map_nil, List.cons.injEq, and_true]
      rw [ofNat_digit _ (by omega)]
      omega
  | d + 1, h, hd => by
    have ih := dec_of_num h0 (d := d) (by omega) (fun i hi => hd i (by omega))
    have hp := numN_pos h0 (d := d) (by omega) (fun i hi => hd i (by omega))
    rw [numN_succ (by omega) hd]
    have hx := hd (d + 1) (by omega)
    have hlt : d + 1 < l.length := by omega
    rw [List.getD_eq_getElem?_getD, List.getElem?_eq_getElem hlt, Option.getD_some] at hx ⊢
    rw [List.take_succ_eq_append_getElem hlt, ih]
    simp only [isD, Bool.and_eq_true, decide_eq_true_eq] at hx
    generalize numN l (d + 1) = q at *
    have hq : decL (q * 10 + (l[d + 1].toNat - 48)) = decL q ++ [l[d + 1]] := by
      unfold decL
      rw [Lib.decDigits.eq_def, dif_neg (by omega), List.map_append]
      rw [show (q * 10 + (l[d + 1].toNat - 48)) / 10 = q by omega]
      simp only [List.map_cons, List.map_nil]
      rw [ofNat_digit _ (by omega)]
      congr 2
      omega
    rw [hq]
theorem index_split {s : List UInt8} {j : Nat} (h : Lib.index s [61] = j) : j < s.length ∧ s = s.take j ++ [61] ++ s.drop (j + 1) := by
  rw [Lib.index_one] at h
  have h1 := (Lib.indexByte_some h).1
  have hlt : j < s.length := by
    rcases Nat.lt_or_ge j s.length with h | h
    · exact h
    · rw [List.getElem?_eq_none h] at h1; cases h1
  rw [List.getElem?_eq_getElem hlt] at h1
  refine ⟨hlt, ?_⟩
  have e := List.take_append_drop j s
  rw [List.drop_eq_getElem_cons hlt, Option.some.inj h1] at e
  rw [List.append_assoc]
  exact e.symm
theorem one_forth {l : List Int} (hb : ∀ x ∈ l, 0 ≤ x ∧ x < 256) {k v : ByteArray} {n : Nat} (h : oneL l = .ok (k, v, n)) : fitN k v = 0 ∧ n = (recP ⟨k, v⟩).length ∧ l = recP ⟨k, v⟩ ++ l.drop n := by
  unfold oneL at h
  split at h
  · cases h
  · rename_i h0
    unfold oneN at h
    split at h
    · cases h
    · rename_i h1
      unfold oneB at h
      split at h
      · cases h
      · rename_i h2
        unfold oneP at h
        split at h
        · cases h
        · rename_i h3
          split at h
          · cases h
          · rename_i h4
            injection h with h
            injection h with hk h
            injection h with hv hn
            obtain ⟨g1, g2, g3⟩ := lead_dig 5 l
            obtain ⟨d, hd⟩ : ∃ d, lead l 5 = d + 1 := ⟨lead l 5 - 1, by have : lead l 5 ≠ 0 := fun e => h0 (.inl e); omega⟩
            have hd4 : d + 1 ≤ 4 := by have : ¬ 4 < lead l 5 := fun e => h0 (.inr (.inl e)); omega
            have hz : l.getD 0 0 ≠ 48 := fun e => h0 (.inr (.inr (.inl e)))
            have hnl : d + 1 ≠ l.length := fun e => h0 (.inr (.inr (.inr (.inl (by rw [hd]; exact e)))))
            have hbl : l.getD (d + 1) 0 = 32 := by
              rcases Int.lt_trichotomy (l.getD (d + 1) 0) 32 with e | e | e
              · exact absurd (.inr (.inr (.inr (.inr (by rw [hd]; omega))))) h0
              · exact e
              · exact absurd (.inr (.inr (.inr (.inr (by rw [hd]; omega))))) h0
            rw [hd] at g2 g3 hn hk hv h1 h2 h3 h4
            rw [hn] at hk hv h1 h2 h3 h4
            have hdec := dec_of_num hz g2 g3
            rw [hn] at hdec
            have hnle : n ≤ l.length := by have : ¬ l.length < n := fun e => h1 (.inl e); omega
            have hend : l.getD (n - 1) 0 = 10 := by
              rcases Int.lt_trichotomy (l.getD (n - 1) 0) 10 with e | e | e
              · exact absurd (.inr (by omega)) h1
              · exact e
              · exact absurd (.inr (by omega)) h1
            rw [hk, hv] at h3 h4
            have hfit : fitN k v = 0 := by
              rcases fit_rg k v with e | e | e
              · exact absurd (by rw [e]; decide) h3
              · exact absurd (by rw [e]; decide) h3
              · exact e
            have hsz : 3 + k.size + v.size + dOf (3 + k.size + v.size) = n := by
              rcases Nat.lt_trichotomy (3 + k.size + v.size + dOf (3 + k.size + v.size)) n with e | e | e
              · exact absurd (by omega) h4
              · exact e
              · exact absurd (by omega) h4
            obtain ⟨N, dd, r1, r2, r3, r4, r5, r6⟩ := rec_parts hfit
            have hNn : N = n := by rw [r4]; exact hsz
            subst hNn
            have hrl : (recP ⟨k, v⟩).length = N := by rw [recP_length hfit]; exact hsz
            refine ⟨hfit, hrl.symm, ?_⟩
            have hdd : dd = d + 1 := by
              have := congrArg List.length hdec
              rw [decL_length, List.length_take] at this
              omega
            obtain ⟨body, hbody⟩ : ∃ body, (l.take (N - 1)).drop (d + 1 + 1) = body := ⟨_, rfl⟩
            rw [hbody] at hk hv h2
            obtain ⟨j, hj⟩ : ∃ j : Nat, Lib.index (Lib.bytesOf body) [61] = j := ⟨(Lib.index (Lib.bytesOf body) [61]).toNat, by omega⟩
            rw [hj, Int.toNat_natCast] at hk hv
            obtain ⟨s1, s2⟩ := index_split hj
            have hbb : ∀ x ∈ body, 0 ≤ x ∧ x < 256 := fun x hx => by
              rw [← hbody] at hx
              exact hb x (List.mem_of_mem_take (List.mem_of_mem_drop hx))
            have hbl2 : j < body.length := by simpa [Lib.bytesOf] using s1
            have hbody2 : body = bytesOf k ++ [61] ++ bytesOf v := by
              rw [← hk, ← hv, bytes_str (fun x hx => hbb x (List.mem_of_mem_take hx)), bytes_str (fun x hx => hbb x (List.mem_of_mem_drop hx))]
              have e := List.take_append_drop j body
              rw [List.drop_eq_getElem_cons hbl2] at e
              have hx : body[j] = 61 := by
                have h61 := (Lib.indexByte_some (by rw [← Lib.index_one]; exact hj)).1
                unfold Lib.bytesOf at h61
                rw [List.getElem?_map, List.getElem?_eq_getElem hbl2] at h61
                simp only [Option.map_some, Option.some.injEq] at h61
                have hr := hbb _ (List.getElem_mem hbl2)
                have := congrArg UInt8.toNat h61
                simp at this
                omega
              rw [hx] at e
              rw [List.append_assoc]
              exact e.symm
            have hNd : d + 1 + 1 ≤ N - 1 := by
              have : body.length ≤ N - 1 - (d + 1 + 1) := by rw [← hbody, List.length_drop, List.length_take]; omega
              omega
            have e1 : l.take N = l.take (N - 1) ++ [10] := by
              have hlt : N - 1 < l.length := by omega
              have := List.take_succ_eq_append_getElem hlt
              rw [show N - 1 + 1 = N by omega] at this
              rw [this]
              rw [List.getD_eq_getElem?_getD, List.getElem?_eq_getElem hlt, Option.getD_some] at hend
              rw [hend]
            have e2 : l.take (N - 1) = (l.take (d + 1) ++ [32]) ++ body := by
              have hlt : d + 1 < l.length := by omega
              have e := List.take_append_drop (d + 1 + 1) (l.take (N - 1))
              rw [hbody, List.take_take, Nat.min_eq_left (by omega), List.take_succ_eq_append_getElem hlt] at e
              rw [List.getD_eq_getElem?_getD, List.getElem?_eq_getElem hlt, Option.getD_some] at hbl
              rw [hbl] at e
              exact e.symm
            have e3 : l.take N = recP ⟨k, v⟩ := by
              rw [e1, e2, hdec, hbody2, r6]
              simp
            rw [← e3]
            exact (List.take_append_drop N l).symm
end Go.Proofs.YtbidbjgklonbpaaDoor.Mine
/- pax: the plain law of lists of records, there and back. -/
set_option linter.unusedSimpArgs false
set_option linter.unusedVariables false
namespace Go.Proofs.YtbidbjgklonbpaaDoor.Mine
open Go.RowKit Go.Maps Go.Proofs.YtbidbjgklonbpaaDoorW.PrintWords Go.Proofs.YtbidbjgklonbpaaDoorW.PrintLast Go.Proofs.YtbidbjgklonbpaaDoorW.PrintMore Go.Proofs.YtbidbjgklonbpaaDoor.Turn Go.Proofs.YtbidbjgklonbpaaDoor.PPaxGets

/-- May the i-th pair stand there? -/
def GoodAt (l : List S23) (i : Nat) : Prop := fitN (rdP l i).f0 (rdP l i).f1 = 0 ∧ (0 < i → Op.bytesLess (rdP l (i - 1)).f0.toList (rdP l i).f0.toList = true)
def Good (l : List S23) : Prop := ∀ i, i < l.length → GoodAt l i
theorem good_put (l : List S23) : ∀ (m i : Nat) (acc : List Int), i + m = l.length → (∀ j, i ≤ j → j < l.length → GoodAt l j) → putG l m i acc = (acc ++ ((l.drop i).map recP).flatten, 0, 0)
  | 0, i, acc, h, _ => by
    rw [List.drop_eq_nil_of_le (by omega)]
    simp [putG]
  | m + 1, i, acc, h, hg => by
    have hi : i < l.length := by omega
    obtain ⟨h1, h2⟩ := hg i (Nat.le_refl _) hi
    have hx : rdP l i = l[i] := by unfold rdP; rw [List.getD_eq_getElem?_getD, List.getElem?_eq_getElem hi]; rfl
    unfold putG
    rw [if_neg (by rw [h1]; simp), if_neg (by
      by_cases h0 : 0 < i
      · rw [h2 h0]; simp
      · simp [h0])]
    rw [good_put l m (i + 1) _ (by omega) (fun j h3 h4 => hg j (by omega) h4), List.drop_eq_getElem_cons hi, hx, List.map_cons, List.flatten_cons, List.append_assoc]
theorem put_good (l : List S23) : ∀ (m i : Nat) (acc L : List Int) (x : Int), i + m = l.length → putG l m i acc = (L, x, 0) → (∀ j, i ≤ j → j < l.length → GoodAt l j)
  | 0, i, acc, L, x, h, _, j, h1, h2 => by omega
  | m + 1, i, acc, L, x, h, hp, j, h1, h2 => by
    unfold putG at hp
    split at hp
    · rename_i hf
      simp only [Prod.mk.injEq] at hp
      exact absurd hp.2.2 hf
    · rename_i hf
      split at hp
      · simp at hp
      · rename_i ho
        rcases Nat.lt_or_ge i j with hj | hj
        · exact put_good l m (i + 1) _ L x (by omega) hp j (by omega) h2
        · obtain rfl : i = j := by omega
          refine ⟨?_, fun h0 => ?_⟩
          · rcases fit_rg (rdP l i).f0 (rdP l i).f1 with e | e | e
            · exact absurd (by rw [e]; decide) hf
            · exact absurd (by rw [e]; decide) hf
            · exact e
          · cases hb : Op.bytesLess (rdP l (i - 1)).f0.toList (rdP l i).f0.toList with
            | true => rfl
            | false => exact absurd (by simp [h0, hb]) ho
theorem putF_good {l : List S23} (h64 : l.length ≤ 64) (hg : Good l) : putF l = ((l.map recP).flatten, 0, 0) := by
  unfold putF
  rw [if_neg (by omega), good_put l l.length 0 [] (by omega) (fun j _ h => hg j h)]
  simp
theorem putF_ok {l : List S23} (h : (putF l).2.2 = 0) : l.length ≤ 64 ∧ Good l := by
  unfold putF at h
  split at h
  · cases h
  · rename_i h1
    exact ⟨by omega, fun i hi => put_good l l.length 0 [] _ _ (by omega) (Prod.ext rfl (Prod.ext rfl h)) i (Nat.zero_le _) hi⟩
theorem putG_err (l : List S23) : ∀ (m i : Nat) (acc : List Int), i + m = l.length → (putG l m i acc).2.2 ≠ 0 → (putG l m i acc).1 = []
  | 0, i, acc, h, hp => by exact absurd rfl hp
  | m + 1, i, acc, h, hp => by
    unfold putG at hp ⊢
    split
    · rfl
    · rename_i hf
      rw [if_neg hf] at hp
      split
      · rfl
      · rename_i ho
        rw [if_neg ho] at hp
        exact putG_err l m (i + 1) _ (by omega) hp
theorem putF_err {l : List S23} (h : (putF l).2.2 ≠ 0) : (putF l).1 = [] := by
  unfold putF at h ⊢
  split
  · rfl
  · rename_i h1
    rw [if_neg h1] at h
    exact putG_err l l.length 0 [] (by omega) h

theorem recP_pos {k v : ByteArray} (h : fitN k v = 0) : 4 ≤ (recP ⟨k, v⟩).length := by
  rw [recP_length h]
  have hs := fit_small h
  have := (dOf_is (n := 3 + k.size + v.size) (by omega)).1
  omega
theorem rdP_take {l : List S23} {i j : Nat} (h : j < i) : rdP (l.take i) j = rdP l j := by
  unfold rdP
  rw [List.getD_eq_getElem?_getD, List.getD_eq_getElem?_getD, List.getElem?_take_of_lt h]
/-- What was put is got. -/
theorem good_get {l : List S23} (h64 : l.length ≤ 64) (hg : Good l) : ∀ (m i f : Nat) (pre : List Int), i + m = l.length → m + 1 ≤ f → getG (pre ++ ((l.drop i).map recP).flatten) f pre.length (l.take i) = (l, 0, 0)
  | 0, i, f, pre, h, hf => by
    obtain ⟨f, rfl⟩ : ∃ f', f = f' + 1 := ⟨f - 1, by omega⟩
    rw [List.drop_eq_nil_of_le (by omega), List.take_of_length_le (by omega)]
    unfold getG
    rw [if_pos (by simp)]
  | m + 1, i, f, pre, h, hf => by
    obtain ⟨f, rfl⟩ : ∃ f', f = f' + 1 := ⟨f - 1, by omega⟩
    have hi : i < l.length := by omega
    have hx : rdP l i = l[i] := by unfold rdP; rw [List.getD_eq_getElem?_getD, List.getElem?_eq_getElem hi]; rfl
    obtain ⟨h1, h2⟩ := hg i hi
    rw [hx] at h1 h2
    have hpos := recP_pos h1
    have hone := one_back h1 ((l.drop (i + 1)).map recP).flatten
    have ih := good_get h64 hg m (i + 1) f (pre ++ recP l[i]) (by omega) (by omega)
    rw [List.drop_eq_getElem_cons hi, List.map_cons, List.flatten_cons]
    rw [List.append_assoc, List.length_append] at ih
    have ht : l.take (i + 1) = l.take i ++ [l[i]] := List.take_succ_eq_append_getElem hi
    generalize l[i] = p at *
    obtain ⟨k, v⟩ := p
    replace h1 : fitN k v = 0 := h1
    replace h2 : 0 < i → Op.bytesLess (rdP l (i - 1)).f0.toList k.toList = true := h2
    replace hpos : 4 ≤ (recP ⟨k, v⟩).length := hpos
    replace hone : oneL (recP ⟨k, v⟩ ++ ((l.drop (i + 1)).map recP).flatten) = .ok (k, v, (recP ⟨k, v⟩).length) := hone
    unfold getG
    rw [if_neg (by simp only [List.length_append]; omega), if_neg (by rw [List.length_take]; omega), List.drop_left' rfl, hone]
    have ho : outOf (l.take i) k = false := by
      unfold outOf
      by_cases h0 : 0 < i
      · have hl : (l.take i).length = i := by rw [List.length_take]; omega
        rw [hl, rdP_take (by omega), h2 h0]
        simp
      · have : i = 0 := by omega
        subst this
        simp
    simp only [ho, Bool.false_eq_true, if_false]
    rw [← ht]
    exact ih
theorem put_get {l : List S23} (h : (putF l).2.2 = 0) : getF (putF l).1 = (l, 0, 0) := by
  obtain ⟨h64, hg⟩ := putF_ok h
  rw [putF_good h64 hg]
  have := good_get h64 hg l.length 0 66 [] (by omega) (by omega)
  exact this
theorem good_snoc {acc : List S23} {k v : ByteArray} (h : Good acc) (hf : fitN k v = 0) (ho : outOf acc k = false) : Good (acc ++ [⟨k, v⟩]) := by
  intro i hi
  rw [List.length_append, List.length_singleton] at hi
  have hrd : ∀ j, j < acc.length → rdP (acc ++ [⟨k, v⟩]) j = rdP acc j := fun j hj => by
    unfold rdP
    rw [List.getD_eq_getElem?_getD, List.getD_eq_getElem?_getD, List.getElem?_append_left hj]
  rcases Nat.lt_or_ge i acc.length with hlt | hge
  · obtain ⟨h1, h2⟩ := h i hlt
    refine ⟨by rw [hrd i hlt]; exact h1, fun h0 => ?_⟩
    rw [hrd i hlt, hrd (i - 1) (by omega)]
    exact h2 h0
  · obtain rfl : i = acc.length := by omega
    have hlast : rdP (acc ++ [⟨k, v⟩]) acc.length = ⟨k, v⟩ := by unfold rdP; simp
    refine ⟨by rw [hlast]; exact hf, fun h0 => ?_⟩
    rw [hlast, hrd _ (by omega)]
    unfold outOf at ho
    rw [decide_eq_true h0, Bool.true_and] at ho
    simpa using ho
theorem get_good {L : List Int} (hb : ∀ x ∈ L, 0 ≤ x ∧ x < 256) : ∀ (m a : Nat) (acc l : List S23) (x : Int), getG L m a acc = (l, x, 0) → Good acc → acc.length ≤ 64 → acc.length + m = 66 → a ≤ L.length → (acc.map recP).flatten = L.take a → Good l ∧ l.length ≤ 64 ∧ (l.map recP).flatten = L
  | 0, a, acc, l, x, h, hg, h64, hm, ha, hp => by omega
  | m + 1, a, acc, l, x, h, hg, h64, hm, ha, hp => by
    unfold getG at h
    split at h
    · rename_i h1
      simp only [Prod.mk.injEq] at h
      obtain ⟨rfl, -, -⟩ := h
      rw [List.take_of_length_le h1] at hp
      exact ⟨hg, h64, hp⟩
    · rename_i h1
      split at h
      · simp at h
      · rename_i h2
        split at h
        · rename_i c hc
          simp only [Prod.mk.injEq] at h
          exfalso
          rw [h.2.2] at hc
          unfold oneL at hc
          split at hc
          · cases hc
          · unfold oneN at hc
            split at hc
            · cases hc
            · unfold oneB at hc
              split at hc
              · cases hc
              · unfold oneP at hc
                split at hc
                · rename_i hf
                  injection hc with hc
                  exact hf hc
                · split at hc
                  · cases hc
                  · cases hc
        · rename_i k v n hc
          split at h
          · simp at h
          · rename_i ho
            obtain ⟨f1, f2, f3⟩ := one_forth (fun x hx => hb x (List.mem_of_mem_drop hx)) hc
            have hn := (oneL_ok hc).2.1
            rw [List.length_drop] at hn
            refine get_good hb m (a + n) _ l x h (good_snoc hg f1 (by simpa using ho)) (by rw [List.length_append, List.length_singleton]; omega) (by rw [List.length_append, List.length_singleton]; omega) (by omega) ?_
            rw [List.map_append, List.flatten_append, hp, List.take_add]
            congr 1
            rw [f3, f2, List.take_left' rfl]
            simp
theorem get_put {L : List Int} (hb : ∀ x ∈ L, 0 ≤ x ∧ x < 256) (h : (getF L).2.2 = 0) : (putF (getF L).1) = (L, 0, 0) := by
  obtain ⟨g1, g2, g3⟩ := get_good hb 66 0 [] (getF L).1 (getF L).2.1 (Prod.ext rfl (Prod.ext rfl h)) (fun i hi => absurd hi (by simp)) (by simp) (by simp) (by omega) (by simp)
  rw [putF_good g2 g1, g3]
theorem getG_err (L : List Int) : ∀ (m a : Nat) (acc : List S23), (getG L m a acc).2.2 ≠ 0 → a ≤ L.length → (getG L m a acc).1 = [] ∧ 0 ≤ (getG L m a acc).2.1 ∧ (getG L m a acc).2.1 ≤ L.length
  | 0, a, acc, h, _ => by exact absurd rfl h
  | m + 1, a, acc, h, ha => by
    unfold getG at h ⊢
    split
    · rename_i h1
      rw [if_pos h1] at h
      exact absurd rfl h
    · rename_i h1
      rw [if_neg h1] at h
      split
      · exact ⟨rfl, by simp only; omega, by simp only; omega⟩
      · rename_i h2
        rw [if_neg h2] at h
        split
        · exact ⟨rfl, by simp only; omega, by simp only; omega⟩
        · rename_i k v n hc
          rw [hc] at h
          simp only at h
          split
          · exact ⟨rfl, by simp only; omega, by simp only; omega⟩
          · rename_i ho
            rw [if_neg ho] at h
            have hn := (oneL_ok hc).2.1
            rw [List.length_drop] at hn
            exact getG_err L m (a + n) _ h (by omega)
theorem getF_err {L : List Int} (h : (getF L).2.2 ≠ 0) : (getF L).1 = [] ∧ 0 ≤ (getF L).2.1 ∧ (getF L).2.1 ≤ L.length := getG_err L 66 0 [] h (Nat.zero_le _)
/-- A record that is cut is none. -/
theorem get_cut {k v : ByteArray} (h : fitN k v = 0) (c : Nat) (h1 : 1 ≤ c) (hc : c < (recP ⟨k, v⟩).length) : getF ((recP ⟨k, v⟩).take c) = ([], 0, 90) := by
  unfold getF getG
  rw [if_neg (by rw [List.length_take]; omega), if_neg (by simp), List.drop_zero, one_cut h c h1 hc]
  rfl
/-- Byte for byte. -/
theorem recP_rg (p : S23) : ∀ x ∈ recP p, 0 ≤ x ∧ x < 256 := by
  intro x hx
  unfold recP recL at hx
  simp only [List.mem_append, List.mem_singleton] at hx
  rcases hx with ((((hx | hx) | hx) | hx) | hx) | hx
  · have := dec_dig _ x hx
    simp only [isD, Bool.and_eq_true, decide_eq_true_eq] at this
    omega
  · omega
  · exact bytesOf_rg _ x hx
  · omega
  · exact bytesOf_rg _ x hx
  · omega
theorem putG_rg (l : List S23) : ∀ (m i : Nat) (acc : List Int), (∀ x ∈ acc, 0 ≤ x ∧ x < 256) → ∀ x ∈ (putG l m i acc).1, 0 ≤ x ∧ x < 256
  | 0, i, acc, h => h
  | m + 1, i, acc, h => by
    unfold putG
    split
    · simp
    · split
      · simp
      · exact putG_rg l m (i + 1) _ (fun x hx => by
          rcases List.mem_append.1 hx with h1 | h1
          · exact h x h1
          · exact recP_rg _ x h1)
theorem putF_rg (l : List S23) : ∀ x ∈ (putF l).1, 0 ≤ x ∧ x < 256 := by
  unfold putF
  split
  · simp
  · exact putG_rg l _ _ _ (by simp)
end Go.Proofs.YtbidbjgklonbpaaDoor.Mine
/- pax: the plain law of lengths; the examples. -/
set_option linter.unusedSimpArgs false
set_option linter.unusedVariables false
namespace Go.Proofs.YtbidbjgklonbpaaDoor.Mine
open Go.RowKit Go.Maps Go.Proofs.YtbidbjgklonbpaaDoorW.PrintWords Go.Proofs.YtbidbjgklonbpaaDoorW.PrintLast Go.Proofs.YtbidbjgklonbpaaDoorW.PrintMore Go.Proofs.YtbidbjgklonbpaaDoor.Turn Go.Proofs.YtbidbjgklonbpaaDoor.PPaxGets

theorem nDigits_mono {a b : Nat} (h : a ≤ b) : Lib.nDigits a ≤ Lib.nDigits b := by
  have h1 := nDigits_pos b
  have hb := (nDigits_lt (Lib.nDigits b) b h1).1 (Nat.le_refl _)
  exact (nDigits_lt (Lib.nDigits b) a h1).2 (by omega)
theorem size_low {n d : Nat} (h : SizeIs n d) : ∀ k, 1 ≤ k → k < d → k < Lib.nDigits (n + k)
  | 0, h1, _ => by omega
  | k + 1, h1, h2 => by
    have hne := h.2.2.2 (k + 1) h1 h2
    rcases Nat.eq_zero_or_pos k with rfl | hk
    · have := nDigits_pos (n + (0 + 1)); omega
    · have ih := size_low h k hk (by omega)
      have := nDigits_mono (show n + k ≤ n + (k + 1) by omega)
      omega
theorem size_uniq {n d e : Nat} (h : SizeIs n d) (h' : SizeIs n e) : d = e := by
  rcases Nat.lt_trichotomy d e with h1 | h1 | h1
  · exact absurd h.2.2.1 (h'.2.2.2 d h.1 h1)
  · exact h1
  · exact absurd h'.2.2.1 (h.2.2.2 e h'.1 h1)
/-- A byte more makes a record longer by one or two. -/
theorem size_next {n d e : Nat} (h : SizeIs n d) (h' : SizeIs (n + 1) e) : d ≤ e ∧ e ≤ d + 1 := by
  constructor
  · rcases Nat.lt_or_ge e d with h1 | h1
    · have h2 := size_low h e h'.1 h1
      have h3 := nDigits_mono (show n + e ≤ n + 1 + e by omega)
      have := h'.2.2.1
      omega
    · exact h1
  · rcases Nat.lt_or_ge (d + 1) e with h1 | h1
    · have a := h'.2.2.2 d h.1 (by omega)
      have b := h'.2.2.2 (d + 1) (by omega) h1
      have c1 := nDigits_mono (show n + d ≤ n + 1 + d by omega)
      have c2 := nDigits_mono (show n + 1 + d ≤ n + 1 + (d + 1) by omega)
      have hd := h.2.2.1
      have hlt := (nDigits_lt d (n + d) h.1).1 (by omega)
      have hp := Nat.one_le_pow d 10 (by omega)
      have := (nDigits_lt (d + 1) (n + 1 + (d + 1)) (by omega)).2 (by rw [Nat.pow_succ]; omega)
      omega
    · exact h1
theorem dOf_eq {n d : Nat} (h : SizeIs n d) (hn : n < 100000000000000000) : dOf n = d := size_uniq (dOf_is hn) h
theorem nDigits_ge {k n : Nat} (h1 : 1 ≤ k) (h : 10 ^ k ≤ n) : k < Lib.nDigits n := by
  rcases Nat.lt_or_ge k (Lib.nDigits n) with h2 | h2
  · exact h2
  · have := (nDigits_lt k n h1).1 h2; omega
theorem nDigits_le {k n : Nat} (h1 : 1 ≤ k) (h : n < 10 ^ k) : Lib.nDigits n ≤ k := (nDigits_lt k n h1).2 h
theorem dOf_one {n : Nat} (h : n + 1 < 10) : dOf n = 1 :=
  dOf_eq ⟨Nat.le_refl _, by omega, by have := nDigits_le (k := 1) (n := n + 1) (by omega) (by omega); have := nDigits_pos (n + 1); omega, fun k h1 h2 => by omega⟩ (by omega)
theorem dOf_two {n : Nat} (h0 : 9 ≤ n) (h : n + 2 < 100) : dOf n = 2 :=
  dOf_eq ⟨by omega, by omega, by have := nDigits_le (k := 2) (n := n + 2) (by omega) (by omega); have := nDigits_ge (k := 1) (n := n + 2) (by omega) (by omega); omega, fun k h1 h2 => by
    obtain rfl : k = 1 := by omega
    have := nDigits_ge (k := 1) (n := n + 1) (by omega) (by omega)
    omega⟩ (by omega)
theorem dOf_three {n : Nat} (h0 : 98 ≤ n) (h : n + 3 < 1000) : dOf n = 3 :=
  dOf_eq ⟨by omega, by omega, by have := nDigits_le (k := 3) (n := n + 3) (by omega) (by omega); have := nDigits_ge (k := 2) (n := n + 3) (by omega) (by omega); omega, fun k h1 h2 => by
    rcases Nat.lt_or_ge k 2 with h3 | h3
    · obtain rfl : k = 1 := by omega
      have := nDigits_ge (k := 1) (n := n + 1) (by omega) (by omega)
      omega
    · obtain rfl : k = 2 := by omega
      have := nDigits_ge (k := 2) (n := n + 2) (by omega) (by omega)
      omega⟩ (by omega)
theorem decL_one {n : Nat} (h : n < 10) : decL n = [48 + (n : Int)] := by
  unfold decL
  rw [Lib.decDigits_one h]
  simp only [List.map_cons, List.map_nil]
  rw [ofNat_digit n h]
theorem decL_more {n : Nat} (h : 10 ≤ n) : decL n = decL (n / 10) ++ [48 + ((n % 10 : Nat) : Int)] := by
  unfold decL
  rw [Lib.decDigits.eq_def, dif_neg (by omega), List.map_append]
  simp only [List.map_cons, List.map_nil]
  rw [ofNat_digit _ (by omega)]

def sA : ByteArray := ⟨#[97]⟩
def sB : ByteArray := ⟨#[98]⟩
def sC : ByteArray := ⟨#[99]⟩
def sD : ByteArray := ⟨#[100]⟩
def sPath : ByteArray := ⟨#[112, 97, 116, 104]⟩
def sAB : ByteArray := ⟨#[97, 47, 98]⟩
theorem rec_six (k v : UInt8) : recP ⟨⟨#[k]⟩, ⟨#[v]⟩⟩ = [54, 32, (k.toNat : Int), 61, (v.toNat : Int), 10] := by
  have e : 3 + (⟨#[k]⟩ : ByteArray).size + (⟨#[v]⟩ : ByteArray).size = 5 := rfl
  unfold recP
  rw [show dOf (3 + (⟨⟨#[k]⟩, ⟨#[v]⟩⟩ : S23).f0.size + (⟨⟨#[k]⟩, ⟨#[v]⟩⟩ : S23).f1.size) = 1 from by show dOf 5 = 1; exact dOf_one (by omega)]
  unfold recL
  rw [show 3 + (⟨⟨#[k]⟩, ⟨#[v]⟩⟩ : S23).f0.size + (⟨⟨#[k]⟩, ⟨#[v]⟩⟩ : S23).f1.size + 1 = 6 from rfl, decL_one (by omega)]
  rfl
theorem rec_path : recP ⟨sPath, sAB⟩ = [49, 50, 32, 112, 97, 116, 104, 61, 97, 47, 98, 10] := by
  unfold recP
  rw [show dOf (3 + (⟨sPath, sAB⟩ : S23).f0.size + (⟨sPath, sAB⟩ : S23).f1.size) = 2 from by show dOf 10 = 2; exact dOf_two (by omega) (by omega)]
  unfold recL
  rw [show 3 + (⟨sPath, sAB⟩ : S23).f0.size + (⟨sPath, sAB⟩ : S23).f1.size + 2 = 12 from rfl, decL_more (by omega), decL_one (by omega)]
  rfl
theorem good_two : Good [⟨sA, sB⟩, ⟨sC, sD⟩] := by
  intro i hi
  match i, hi with
  | 0, _ => exact ⟨rfl, fun h => by omega⟩
  | 1, _ => exact ⟨rfl, fun _ => by show Op.bytesLess sA.toList sC.toList = true; rw [Lib.toList_data, Lib.toList_data]; rfl⟩
theorem get_two : getF [54, 32, 97, 61, 98, 10, 54, 32, 99, 61, 100, 10] = ([⟨sA, sB⟩, ⟨sC, sD⟩], 0, 0) := by
  have h := putF_good (l := [⟨sA, sB⟩, ⟨sC, sD⟩]) (by simp) good_two
  have e : ([⟨sA, sB⟩, ⟨sC, sD⟩].map recP).flatten = [54, 32, 97, 61, 98, 10, 54, 32, 99, 61, 100, 10] := by
    have e1 : recP ⟨sA, sB⟩ = [54, 32, 97, 61, 98, 10] := rec_six 97 98
    have e2 : recP ⟨sC, sD⟩ = [54, 32, 99, 61, 100, 10] := rec_six 99 100
    simp only [List.map_cons, List.map_nil, e1, e2]
    rfl
  have h2 := put_get (l := [⟨sA, sB⟩, ⟨sC, sD⟩]) (by rw [h])
  rw [h, e] at h2
  exact h2
theorem get_x : getF [54, 32, 97, 61, 98, 10, 120] = ([], 6, 90) := by
  have e1 : recP ⟨sA, sB⟩ = [54, 32, 97, 61, 98, 10] := rec_six 97 98
  have h1 := one_back (k := sA) (v := sB) rfl [120]
  rw [e1] at h1
  have e2 : [(54 : Int), 32, 97, 61, 98, 10] ++ [120] = [54, 32, 97, 61, 98, 10, 120] := rfl
  rw [e2] at h1
  unfold getF getG
  rw [if_neg (by simp), if_neg (by simp), List.drop_zero, h1]
  simp only
  rw [show outOf [] sA = false from rfl]
  simp only [Bool.false_eq_true, if_false]
  unfold getG
  rw [if_neg (by simp), if_neg (by simp)]
  rw [show ([(54 : Int), 32, 97, 61, 98, 10, 120]).drop (0 + [(54 : Int), 32, 97, 61, 98, 10].length) = [120] from rfl]
  unfold oneL
  rw [if_pos (.inl rfl)]
  rfl
end Go.Proofs.YtbidbjgklonbpaaDoor.Mine
