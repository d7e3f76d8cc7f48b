import Derived.Test.YtopehfjohifpnaaGreatDoorZ6
import Derived.Test.YtopehfjohifpnaaGreatDoorZ7
import Derived.Test.YtopehfjohifpnaaGreatDoorZ8
import Derived.BigQuiet
import Derived.Laws.CopyRow
import Derived.Lib.BufferWrite
import Derived.Laws.IdiomCopy
import Derived.Test.YtopehfjohifpnaaGreatDoorZ4
section
set_option linter.unusedSimpArgs false
set_option linter.unusedVariables false
namespace Go.Proofs.YtopehfjohifpnaaGreatDoor.Mine
open Go.RowKit Go.Shelf Go.Proofs.YtopehfjohifpnaaGreatDoorW.PrintWords Go.Proofs.YtopehfjohifpnaaGreatDoorW.PrintLast Go.Proofs.YtopehfjohifpnaaGreatDoorW.PrintMore Go.Proofs.YtopehfjohifpnaaGreatDoor.Turn Go.Proofs.YtopehfjohifpnaaGreatDoor.Doc
def digs (b : Nat) : Nat → Nat → List Int
  | 0, _ => []
  | k + 1, n => digs b k (n / b) ++ [((n % b : Nat) : Int)]
theorem digs_length (b : Nat) : ∀ k n, (digs b k n).length = k
  | 0, _ => rfl
  | k + 1, n => by unfold digs; rw [List.length_append, digs_length b k]; rfl
theorem digs_cons (b : Nat) : ∀ k n, digs b (k + 1) n = ((n / b ^ k % b : Nat) : Int) :: digs b k n
  | 0, n => by unfold digs; simp [digs]
  | k + 1, n => by
    rw [digs, digs_cons b k (n / b)]
    show _ = _ :: (digs b k (n / b) ++ _)
    rw [Nat.div_div_eq_div_mul, ← Nat.pow_succ']
    rfl
theorem digs_mem (b : Nat) (hb : 0 < b) : ∀ k n, ∀ x ∈ digs b k n, 0 ≤ x ∧ x < b
  | 0, _, x, hx => by cases hx
  | k + 1, n, x, hx => by
    unfold digs at hx
    rcases List.mem_append.1 hx with h | h
    · exact digs_mem b hb k _ x h
    · rw [List.mem_singleton.1 h]
      have := Nat.mod_lt n hb
      omega
def octD (k n : Nat) : List Int := (digs 8 k n).map (48 + ·)
theorem octD_length (k n : Nat) : (octD k n).length = k := by unfold octD; rw [List.length_map, digs_length]
def octF (n : Int) (w : Nat) : List Int × Int :=
  if n < 0 then ([], 1) else if n < 8 ^ (w - 1) then (octD (w - 1) n.toNat ++ [0], 0) else
  if n.toNat / 256 ^ (w - 1) = 0 then (128 :: digs 256 (w - 1) n.toNat, 0) else ([], 2)
theorem octF_length {n : Int} {w : Nat} (hw : 1 ≤ w) (h : (octF n w).2 = 0) : (octF n w).1.length = w := by
  unfold octF at h ⊢
  by_cases h0 : n < 0
  · rw [if_pos h0] at h; cases h
  · rw [if_neg h0] at h ⊢
    by_cases h1 : n < 8 ^ (w - 1)
    · rw [if_pos h1, List.length_append, octD_length, List.length_singleton]; omega
    · rw [if_neg h1] at h ⊢
      by_cases h2 : n.toNat / 256 ^ (w - 1) = 0
      · rw [if_pos h2, List.length_cons, digs_length]; omega
      · rw [if_neg h2] at h; cases h
theorem octF_le (n : Int) (w : Nat) (hw : 1 ≤ w) : (octF n w).1.length ≤ w := by
  unfold octF
  split
  · simp
  · split
    · simp only [List.length_append, octD_length, List.length_singleton]; omega
    · split
      · simp only [List.length_cons, digs_length]; omega
      · simp
theorem octF_byte (n : Int) (w : Nat) : ∀ x ∈ (octF n w).1, 0 ≤ x ∧ x < 256 := by
  intro x hx
  unfold octF at hx
  split at hx
  · cases hx
  · split at hx
    · rcases List.mem_append.1 hx with h | h
      · unfold octD at h
        obtain ⟨y, hy, rfl⟩ := List.mem_map.1 h
        have := digs_mem 8 (by omega) _ _ y hy
        omega
      · rw [List.mem_singleton.1 h]; omega
    · split at hx
      · rcases List.mem_cons.1 hx with h | h
        · rw [h]; omega
        · have := digs_mem 256 (by omega) _ _ x h
          omega
      · cases hx
theorem and7 (n : Int) : Go.bits .and .i64 n 7 = n % 8 := by
  have h7 : (BitVec.ofInt 64 7).toNat = 2 ^ 3 - 1 := by decide
  have key : (BitVec.ofInt 64 n &&& BitVec.ofInt 64 7).toNat = (n % ((2 ^ 64 : Nat) : Int)).toNat % 2 ^ 3 := by
    rw [BitVec.toNat_and, BitVec.toNat_ofInt, h7, Nat.and_two_pow_sub_one_eq_mod]
  show IntKind.i64.wrap ((BitVec.ofInt 64 n &&& BitVec.ofInt 64 7).toNat : Nat) = n % 8
  rw [key, IntKind.wrap_i64]
  omega
theorem set_rep (i : Nat) (x : Int) (suf : List Int) : (List.replicate (i + 1) (0 : Int) ++ suf).set i x = List.replicate i 0 ++ x :: suf := by
  rw [List.replicate_succ', List.append_assoc, List.set_append_right _ _ (by simp)]
  simp
theorem put_l0 : ∀ (i : Nat) (K n : Nat) (suf : List Int), i + 1 ≤ K → i ≤ 1000 → octal_Put.l0 K (n : Int) (List.replicate i 0 ++ suf) ((i : Int) - 1) = some (octD i n ++ suf, 0)
  | 0, K, n, suf, hK, hi => by
    obtain ⟨K, rfl⟩ : ∃ K', K = K' + 1 := ⟨K - 1, by omega⟩
    rw [octal_Put.l0.eq_2, if_neg (by omega)]
    rfl
  | i + 1, K, n, suf, hK, hi => by
    obtain ⟨K, rfl⟩ : ∃ K', K = K' + 1 := ⟨K - 1, by omega⟩
    have e0 : ((i + 1 : Nat) : Int) - 1 = (i : Int) := by omega
    rw [octal_Put.l0.eq_2, e0, if_pos (by omega), if_pos (by omega), if_pos (by rw [List.length_append, List.length_replicate]; omega), and7, Int.toNat_natCast, set_rep, wrap_id (by omega) (by omega)]
    have ed : (n : Int) / 8 = ((n / 8 : Nat) : Int) := by omega
    have em : (48 + (n : Int) % 8 % 256) % 256 = 48 + ((n % 8 : Nat) : Int) := by omega
    rw [ed, em, put_l0 i K (n / 8) _ (by omega) (by omega)]
    unfold octD
    rw [digs, List.map_append, List.append_assoc]
    rfl
theorem put_l1 : ∀ (i : Nat) (K n : Nat) (suf : List Int), i + 1 ≤ K → i ≤ 1000 → octal_Put.l1 K (n : Int) (List.replicate (i + 1) 0 ++ suf) (i : Int) = some (if n / 256 ^ i = 0 then (128 :: (digs 256 i n ++ suf), 0) else ([], 2))
  | 0, K, n, suf, hK, hi => by
    obtain ⟨K, rfl⟩ : ∃ K', K = K' + 1 := ⟨K - 1, by omega⟩
    rw [octal_Put.l1.eq_2, if_neg (by omega), Nat.pow_zero, Nat.div_one]
    by_cases h : n = 0
    · rw [if_pos (by omega), if_pos (by rw [List.length_append, List.length_replicate]; omega), if_pos h]
      rfl
    · rw [if_neg (by omega), if_neg h]
  | i + 1, K, n, suf, hK, hi => by
    obtain ⟨K, rfl⟩ : ∃ K', K = K' + 1 := ⟨K - 1, by omega⟩
    rw [octal_Put.l1.eq_2, if_pos (by omega), if_pos (by omega), if_pos (by rw [List.length_append, List.length_replicate]; omega), Int.toNat_natCast, set_rep, wrap_id (by omega) (by omega)]
    have ed : (n : Int) / 256 = ((n / 256 : Nat) : Int) := by omega
    have em : (n : Int) % 256 = ((n % 256 : Nat) : Int) := by omega
    rw [ed, em, show ((i + 1 : Nat) : Int) - 1 = (i : Int) by omega, put_l1 i K (n / 256) _ (by omega) (by omega), Nat.div_div_eq_div_mul, ← Nat.pow_succ']
    rw [digs, List.append_assoc]
    rfl
def W3 (w : Nat) : Prop := w = 7 ∨ w = 8 ∨ w = 12
theorem most_w {w : Nat} (hw : W3 w) : octal_Most.f (w : Int) = some ((8 : Int) ^ (w - 1) - 1) := by
  rcases hw with rfl | rfl | rfl <;> kernel_rfl
theorem field_w {w : Nat} (hw : W3 w) : octal_field.f (w : Int) = some true := by
  rcases hw with rfl | rfl | rfl <;> rfl
theorem octPut_f (n : Int) {w : Nat} (hw : W3 w) (K : Nat) (hK : 20 ≤ K) : octal_Put.f K n (w : Int) = some (octF n w) := by
  obtain ⟨K, rfl⟩ : ∃ K', K = K' + 1 := ⟨K - 1, by omega⟩
  have hwr : 2 ≤ w ∧ w ≤ 12 := by rcases hw with rfl | rfl | rfl <;> omega
  have hcast : ((8 ^ (w - 1) : Nat) : Int) = (8 : Int) ^ (w - 1) := by simp
  unfold octal_Put.f
  rw [field_w hw, Option.bind_some, if_pos rfl, octal_Put.j0.eq_2]
  unfold octF
  by_cases h0 : n < 0
  · rw [if_pos (decide_eq_true h0), if_pos h0]
  · rw [if_neg (by simpa using h0), if_neg h0, if_pos (by omega), if_pos (by omega), Option.bind_some, most_w hw, Option.bind_some]
    obtain ⟨m, rfl⟩ : ∃ m : Nat, n = m := ⟨n.toNat, by omega⟩
    simp only [Int.toNat_natCast]
    by_cases h1 : (m : Int) < 8 ^ (w - 1)
    · rw [if_pos (by omega), if_pos h1, wrap_id (by omega) (by omega), show List.replicate w (0 : Int) = List.replicate (w - 1) 0 ++ [0] by rw [← List.replicate_succ', Nat.sub_add_cancel (by omega)], show (w : Int) - 2 = ((w - 1 : Nat) : Int) - 1 by omega]
      exact put_l0 (w - 1) K m [0] (by omega) (by omega)
    · rw [if_neg (by omega), if_neg h1, wrap_id (by omega) (by omega), show List.replicate w (0 : Int) = List.replicate (w - 1 + 1) 0 ++ [] by rw [List.append_nil, Nat.sub_add_cancel (by omega)], show (w : Int) - 1 = ((w - 1 : Nat) : Int) by omega]
      have := put_l1 (w - 1) K m [] (by omega) (by omega)
      rw [List.append_nil (digs 256 (w - 1) m)] at this
      exact this
theorem mostR_w {w : Nat} (hw : W3 w) (K : Nat) (hK : 20 ≤ K) : tabularyref07_Most.f K (w : Int) = some ((8 : Int) ^ (w - 1) - 1) := by
  have h : tabularyref07_Most.f 20 (w : Int) = some ((8 : Int) ^ (w - 1) - 1) := by rcases hw with rfl | rfl | rfl <;> kernel_rfl
  exact at_rounds (g := fun k => tabularyref07_Most.f k (w : Int)) (tabularyref07_Most.mono (w : Int)) hK h
theorem plain_l0 (w n : Nat) (hw : w ≤ 12) (hn : n ≤ 9223372036854775807) : ∀ (r K i : Nat) (acc : List Int), r + 1 ≤ K → i + r = w → acc.length + r ≤ 1000 → tabularyref07_plain.l0 K (n : Int) (w : Int) acc (if r = 0 then 1 else ((8 ^ (r - 1) : Nat) : Int)) (i : Int) = some (acc ++ octD r n ++ [0])
  | 0, K, i, acc, hK, hi, ha => by
    obtain ⟨K, rfl⟩ : ∃ K', K = K' + 1 := ⟨K - 1, by omega⟩
    rw [tabularyref07_plain.l0.eq_2, if_neg (by omega), if_pos (by omega)]
    simp [octD, digs]
  | r + 1, K, i, acc, hK, hi, ha => by
    obtain ⟨K, rfl⟩ : ∃ K', K = K' + 1 := ⟨K - 1, by omega⟩
    have hp : 8 ^ r ≤ 8 ^ 12 := Nat.pow_le_pow_right (by omega) (by omega)
    have hp0 : 0 < 8 ^ r := Nat.pow_pos (by omega)
    have hd : octD (r + 1) n = (48 + ((n / 8 ^ r % 8 : Nat) : Int)) :: octD r n := by unfold octD; rw [digs_cons]; rfl
    have hq : n / 8 ^ r ≤ n := Nat.div_le_self _ _
    have e1 : Int.tdiv (n : Int) ((8 ^ r : Nat) : Int) = ((n / 8 ^ r : Nat) : Int) := by rw [Int.tdiv_eq_ediv_of_nonneg (by omega)]; rfl
    generalize n / 8 ^ r = q at *
    have e2 : Int.tdiv ((8 ^ r : Nat) : Int) 8 = ((8 ^ r / 8 : Nat) : Int) := by rw [Int.tdiv_eq_ediv_of_nonneg (by omega)]; rfl
    have e3 : Int.tmod (q : Int) 8 = ((q % 8 : Nat) : Int) := by rw [Int.tmod_eq_emod_of_nonneg (by omega)]; rfl
    rw [if_neg (Nat.succ_ne_zero r), Nat.add_sub_cancel, tabularyref07_plain.l0.eq_2, if_pos (c := (i : Int) < (w : Int)) (by omega), if_neg (c := ((8 ^ r : Nat) : Int) = 0) (by omega), if_pos (c := acc.length < 140737488355328) (by omega), Option.bind_some, e1, wrap_id (x := (q : Int)) (by omega) (by omega), e3, e2, wrap_id (x := ((8 ^ r / 8 : Nat) : Int)) (by omega) (by omega)]
    rw [wrap_id (x := (48 + ((q % 8 : Nat) : Int))) (by omega) (by omega), show (48 + ((q % 8 : Nat) : Int)) % 256 = 48 + ((q % 8 : Nat) : Int) by omega, wrap_id (x := (i : Int) + 1) (by omega) (by omega), show (i : Int) + 1 = ((i + 1 : Nat) : Int) by omega]
    have ih := plain_l0 w n hw hn r K (i + 1) (acc ++ [48 + ((q % 8 : Nat) : Int)]) (by omega) (by omega) (by rw [List.length_append, List.length_singleton]; omega)
    rw [hd]
    rw [show acc ++ (48 + ((q % 8 : Nat) : Int)) :: octD r n ++ [0] = acc ++ [48 + ((q % 8 : Nat) : Int)] ++ octD r n ++ [0] by simp, ← ih]
    cases r with
    | zero => rw [if_pos (by rfl)]; rfl
    | succ r =>
      have e4 : 8 ^ (r + 1) / 8 = 8 ^ r := by rw [Nat.pow_succ, Nat.mul_div_cancel _ (by omega)]
      have h8 : 0 < 8 ^ r := Nat.pow_pos (by omega)
      rw [e4, if_neg (by omega), if_neg (Nat.succ_ne_zero r), Nat.add_sub_cancel]
theorem putR_l0 (w : Nat) (hw : 1 ≤ w ∧ w ≤ 12) : ∀ (r K i n : Nat) (acc : List Int), 2 * r + acc.length + 30 ≤ K → i + r = w → acc.length + r ≤ 100 → n ≤ 9223372036854775807 → tabularyref07_Put.l0 K (n : Int) (w : Int) acc (i : Int) = some (if n / 256 ^ r = 0 then (128 :: (digs 256 r n ++ acc.reverse), 0) else ([], 2))
  | 0, K, i, n, acc, hK, hi, ha, hn => by
    obtain ⟨K, rfl⟩ : ∃ K', K = K' + 1 := ⟨K - 1, by omega⟩
    have hl1 : ∀ (m K : Nat) (done : List Int), m + 1 ≤ K → m ≤ acc.length → done.length + m ≤ 1000 → tabularyref07_Put.l1 K acc done ((m : Int) - 1) = some (done ++ (acc.take m).reverse, 0) := by
      intro m
      induction m with
      | zero =>
        intro K done hK hm hd
        obtain ⟨K, rfl⟩ : ∃ K', K = K' + 1 := ⟨K - 1, by omega⟩
        rw [tabularyref07_Put.l1.eq_2, if_neg (by omega)]
        simp
      | succ m ih =>
        intro K done hK hm hd
        obtain ⟨K, rfl⟩ : ∃ K', K = K' + 1 := ⟨K - 1, by omega⟩
        have e0 : ((m + 1 : Nat) : Int) - 1 = (m : Int) := by omega
        have er : rd acc (m : Int) = acc[m] := by unfold rd; rw [Int.toNat_natCast, List.getD_eq_getElem?_getD, List.getElem?_eq_getElem (by omega)]; rfl
        rw [tabularyref07_Put.l1.eq_2, e0, if_pos (by omega), if_pos (by omega), if_pos (by omega), if_pos (by omega), wrap_id (by omega) (by omega), er, ih K _ (by omega) (by omega) (by rw [List.length_append, List.length_singleton]; omega), List.take_succ_eq_append_getElem (by omega)]
        rw [List.reverse_append, List.append_assoc]
        rfl
    rw [tabularyref07_Put.l0.eq_2, if_neg (by omega), Nat.pow_zero, Nat.div_one]
    by_cases h : n = 0
    · rw [if_neg (by omega), if_pos h, wrap_id (by omega) (by omega), hl1 acc.length K [128] (by omega) (Nat.le_refl _) (by simp; omega), List.take_length]
      rfl
    · rw [if_pos (by omega), if_neg h]
  | r + 1, K, i, n, acc, hK, hi, ha, hn => by
    obtain ⟨K, rfl⟩ : ∃ K', K = K' + 1 := ⟨K - 1, by omega⟩
    have e1 : Int.tdiv (n : Int) 256 = ((n / 256 : Nat) : Int) := by rw [Int.tdiv_eq_ediv_of_nonneg (by omega)]; rfl
    have e3 : Int.tmod (n : Int) 256 % 256 = ((n % 256 : Nat) : Int) := by rw [Int.tmod_eq_emod_of_nonneg (by omega)]; omega
    rw [tabularyref07_Put.l0.eq_2, if_pos (by omega), if_pos (by omega), e1, wrap_id (x := ((n / 256 : Nat) : Int)) (by omega) (by omega), e3, wrap_id (x := (i : Int) + 1) (by omega) (by omega), show (i : Int) + 1 = ((i + 1 : Nat) : Int) by omega, putR_l0 w hw r K (i + 1) (n / 256) _ (by rw [List.length_append, List.length_singleton]; omega) (by omega) (by rw [List.length_append, List.length_singleton]; omega) (by omega), Nat.div_div_eq_div_mul, ← Nat.pow_succ', List.reverse_append]
    rw [digs, List.append_assoc]
    rfl
theorem fieldR_w {w : Nat} (hw : W3 w) : tabularyref07_Field.f (w : Int) = some true := by
  rcases hw with rfl | rfl | rfl <;> rfl
theorem octPutR_f (n : Int) (hn : n ≤ 9223372036854775807) {w : Nat} (hw : W3 w) (K : Nat) (hK : 100 ≤ K) : tabularyref07_Put.f K n (w : Int) = some (octF n w) := by
  obtain ⟨K, rfl⟩ : ∃ K', K = K' + 1 := ⟨K - 1, by omega⟩
  have hwr : 2 ≤ w ∧ w ≤ 12 := by rcases hw with rfl | rfl | rfl <;> omega
  have hcast : ((8 ^ (w - 1) : Nat) : Int) = (8 : Int) ^ (w - 1) := by simp
  have hp : 8 ^ (w - 1) ≤ 8 ^ 12 := Nat.pow_le_pow_right (by omega) (by omega)
  have hp0 : 0 < 8 ^ (w - 1) := Nat.pow_pos (by omega)
  unfold tabularyref07_Put.f
  rw [fieldR_w hw, Option.bind_some, if_pos rfl, tabularyref07_Put.j0.eq_2]
  unfold octF
  by_cases h0 : n < 0
  · rw [if_pos (decide_eq_true h0), if_pos h0]
  · rw [if_neg (by simpa using h0), if_neg h0, mostR_w hw K (by omega), Option.bind_some]
    obtain ⟨m, rfl⟩ : ∃ m : Nat, n = m := ⟨n.toNat, by omega⟩
    simp only [Int.toNat_natCast]
    by_cases h1 : (m : Int) < 8 ^ (w - 1)
    · rw [if_pos (by omega), if_pos h1]
      unfold tabularyref07_plain.f
      rw [mostR_w hw K (by omega), Option.bind_some]
      have e8 : Int.tdiv ((8 ^ (w - 1) : Nat) : Int) 8 = ((8 ^ (w - 1 - 1) : Nat) : Int) := by
        rw [Int.tdiv_eq_ediv_of_nonneg (by omega)]
        have : 8 ^ (w - 1) / 8 = 8 ^ (w - 1 - 1) := by
          rw [show w - 1 = (w - 1 - 1) + 1 by omega, Nat.pow_succ, Nat.mul_div_cancel _ (by omega)]
          rfl
        rw [← this]
        rfl
      have hp20 : 0 < 8 ^ (w - 1 - 1) := Nat.pow_pos (by omega)
      have hp2 : 8 ^ (w - 1 - 1) ≤ 8 ^ 12 := Nat.pow_le_pow_right (by omega) (by omega)
      have h := plain_l0 w m (by omega) (by omega) (w - 1) K 1 [] (by omega) (by omega) (by simp; omega)
      rw [if_neg (by omega)] at h
      rw [← hcast, show ((8 ^ (w - 1) : Nat) : Int) - 1 + 1 = ((8 ^ (w - 1) : Nat) : Int) by omega, wrap_id (x := ((8 ^ (w - 1) : Nat) : Int)) (by omega) (by omega), e8, wrap_id (x := ((8 ^ (w - 1 - 1) : Nat) : Int)) (by omega) (by omega)]
      rw [show (1 : Int) = ((1 : Nat) : Int) from rfl, h]
      rfl
    · rw [if_neg (by omega), if_neg h1]
      have := putR_l0 w (by omega) (w - 1) K 1 m [] (by simp; omega) (by omega) (by simp; omega) (by omega)
      rw [List.reverse_nil, List.append_nil] at this
      exact this
theorem numberR_f (l : List Int) (n : Int) (hn : n ≤ 9223372036854775807) {w : Nat} (hw : W3 w) (hl : l.length ≤ 1000) (K : Nat) (hK : 100 ≤ K) : tabularyref10_number.f K l n (w : Int) = some (l ++ (octF n w).1) := by
  have hle := octF_le n w (by rcases hw with rfl | rfl | rfl <;> omega)
  have hwr : w ≤ 12 := by rcases hw with rfl | rfl | rfl <;> omega
  unfold tabularyref10_number.f
  rw [octPutR_f n hn hw K hK, Option.bind_some, if_pos (by omega)]
end Go.Proofs.YtopehfjohifpnaaGreatDoor.Mine
end
section
namespace Go.Proofs.YtopehfjohifpnaaGreatDoor.Turn
open Go.RowKit Go.Proofs.YtopehfjohifpnaaGreatDoorW.PrintWords
structure Behind (w : World) where
  W : World
  below : Below w.heap.size w W
instance (w : World) : Nonempty (Behind w) := ⟨⟨w, Below.refl _ w⟩⟩
def later (w : World) (x : Behind w) : World := x.W
theorem wp_region_behind {P : Program} {id : Nat} {Q : Exit → Act → World → Prop} {a : Act} {w : World} {l : List Oper} (hm : P.follows .mixedOrders = true) (hB : Region.lexB .any l.toArray = true)
    (h : wpQuiet P l.toArray (fun w' => ∃ x : Behind w, w' = later w x) (fun a' => ∀ w', (∃ x : Behind w, w' = later w x) → Q .normal a' w') l a) : (Code.region id l.toArray true).wp P Q a w :=
  wp_region_quiet (C := fun w' => ∃ x : Behind w, w' = later w x) hm hB ⟨⟨_, below_drew (Below.refl _ w)⟩, rfl⟩ (by simpa using h)
theorem calls_behind {P : Program} {f : FuncId} {args : Array Value} {w : World} {v : Value} (x : Behind w) (h : Calls P f args (later w x) fun e w' => e = .returned v ∧ Below (later w x).heap.size (later w x) w') :
    Calls P f args (later w x) fun e w'' => e = .returned v ∧ ∃ y : Behind w, w'' = later w y :=
  h.mono fun _ w' ⟨he, hb⟩ => ⟨he, ⟨w', below_step x.below hb⟩, rfl⟩
theorem later_cell {w : World} {a : Addr} {v : Value} (h : w.cell? a = some v) (x : Behind w) : (later w x).cell? a = some v := pw_cell_below x.below h
end Go.Proofs.YtopehfjohifpnaaGreatDoor.Turn
end
section
set_option linter.unusedSimpArgs false
set_option linter.unusedVariables false
namespace Go.Proofs.YtopehfjohifpnaaGreatDoor.Mine
open Go.RowKit Go.Shelf Go.Proofs.YtopehfjohifpnaaGreatDoorW.PrintWords Go.Proofs.YtopehfjohifpnaaGreatDoorW.PrintLast Go.Proofs.YtopehfjohifpnaaGreatDoorW.PrintMore Go.Proofs.YtopehfjohifpnaaGreatDoor.Turn Go.Proofs.YtopehfjohifpnaaGreatDoor.Doc
section
variable {P : Program}
end
def Img (w : World) (B : Nat) (L : List Int) : Prop := Blk w B (nums .u8 L).toArray 91 ∧ L.length = 512
def setL (L : List Int) (o : Nat) (vs : List Int) : List Int := L.take o ++ vs ++ L.drop (o + vs.length)
theorem setL_length {L vs : List Int} {o : Nat} (h : o + vs.length ≤ L.length) : (setL L o vs).length = L.length := by simp [setL]; omega
theorem setL_nil (L : List Int) (o : Nat) : setL L o [] = L := by simp [setL]
theorem setL_one (L : List Int) (o : Nat) (x : Int) (h : o < L.length) : setL L o [x] = L.set o x := by
  unfold setL
  rw [List.set_eq_take_append_cons_drop, if_pos h]
  simp
theorem Img.lt {w : World} {B : Nat} {L : List Int} (h : Img w B L) : B < w.heap.size := Blk.lt h.1
theorem Img.cell {w : World} {B : Nat} {L : List Int} (h : Img w B L) {i : Nat} (hi : i < 512) : w.cell? ⟨B, i, none⟩ = some (.int .u8 (L.getD i 0)) := by
  rw [Blk.cell h.1]
  have hl : i < L.length := by rw [h.2]; exact hi
  simp [nums, List.getD_eq_getElem?_getD, List.getElem?_eq_getElem hl]
theorem Img.turn {S : Nat → Prop} {w w' : World} {B : Nat} {L : List Int} (h : Img w B L) (ht : Turned S w w') (hS : ¬ S B) : Img w' B L := ⟨(ht.block B h.lt hS).trans h.1, h.2⟩
theorem Img.below {w w' : World} {B : Nat} {L : List Int} (h : Img w B L) (hb : Below w.heap.size w w') : Img w' B L := ⟨(hb.block B h.lt).trans h.1, h.2⟩
theorem Img.reads {w : World} {B : Nat} {L : List Int} (h : Img w B L) : Kd.C (Kd.int .u8) w (some ⟨B, 0, none⟩) 512 L := by
  refine ⟨h.2, by omega, fun _ => ⟨_, rfl, fun j p hj => ⟨[.int .u8 p], rfl, rfl, fun i u hu => ?_⟩⟩⟩
  match i, hu with
  | 0, hu =>
    simp only [List.getElem?_cons_zero, Option.some.injEq] at hu
    subst hu
    have hjl : j < 512 := by rw [← h.2]; exact (List.getElem?_eq_some_iff.1 hj).1
    have hc := h.cell hjl
    rw [List.getD_eq_getElem?_getD, hj, Option.getD_some] at hc
    rcases Nat.eq_zero_or_pos j with rfl | hj0
    · simpa [Addr.add, Kd.int, Kd.scalar] using hc
    · simpa [Addr.add, Kd.int, Kd.scalar, Nat.ne_of_gt hj0] using hc
  | i + 1, hu => simp at hu
theorem und_img : Tryz.prog.underlying 91 = some (.array (Tryz.prog.arrayLen 91) (Tryz.prog.elem 91)) := by kernel_rfl
theorem len_img : Tryz.prog.arrayLen 91 = 512 := by kernel_rfl
theorem elem_img : Tryz.prog.elem 91 = 5 := by kernel_rfl
theorem size5 (W : World) : (sizeOf 5).run Tryz.prog W = .ok 1 W := by kernel_rfl
theorem cut_img (B o : Nat) (ho : o < 512) (W : World) : (Instr.sliceAt 91 (.pointer (some ⟨B, 0, none⟩)) (some (.int .i64 (o : Int))) none none).run Tryz.prog W = .ok (.slice (some ⟨B, o, none⟩) (512 - o) (512 - o)) W := by
  rw [run_sliceAt_array_l W _ ⟨B, 0, none⟩ und_img .i64 (o : Int) (by omega) (by rw [len_img]; omega), elem_img, size5, len_img]
  simp only [Result.andThen_ok, slicedAt, Int.toNat_natCast]
  rw [if_neg (by omega)]
  congr 3
  unfold Addr.add
  split <;> simp_all
theorem cut_img0 (B : Nat) (W : World) : (Instr.sliceAt 91 (.pointer (some ⟨B, 0, none⟩)) none none none).run Tryz.prog W = .ok (.slice (some ⟨B, 0, none⟩) 512 512) W := by
  rw [run_sliceAt_array_all W _ ⟨B, 0, none⟩ und_img, elem_img, size5, len_img]
  simp only [Result.andThen_ok, slicedAt]
  congr 3
theorem info5s : (Tryz.prog.info? 5).map (·.size) = some 1 := by kernel_rfl
theorem turned_setRow (w : World) (g : Nat) (cs : Array Value) : Turned (Eq g) w (w.setRow g cs) := (Turned.refl _ w).setRow (.inl rfl) cs
theorem copy_img {W : World} {B : Nat} {L xs : List Int} {A : Option Addr} (hI : Img W B L) (ty o c : Nat) (hC : Kd.C (Kd.int .u8) W A xs.length xs) (ho : o + xs.length ≤ 512) :
    ∃ W', (Builtin.copy_ #[24, 24] ty #[.slice (some ⟨B, o, none⟩) (512 - o) (512 - o), .slice A xs.length c]).run Tryz.prog W = .ok (goInt xs.length) W' ∧ Img W' B (setL L o xs) ∧ Turned (Eq B) W W' := by
  rcases Nat.eq_zero_or_pos xs.length with h0 | h0
  · have hx : xs = [] := List.eq_nil_of_length_eq_zero h0
    subst hx
    refine ⟨W, ?_, by rw [setL_nil]; exact hI, Turned.refl _ _⟩
    exact run_copy_none W 24 24 ty 5 _ _ _ _ _ _ Tryz.underlying24 info5s (by simp)
  · obtain ⟨hl, hm, hr⟩ := hC
    obtain ⟨ad, rfl, hcell⟩ := hr h0
    have hcs : ∀ j v, (nums .u8 xs)[j]? = some v → W.cell? (ad.add j) = some v := fun j v hj => by
      unfold nums at hj
      rw [List.getElem?_map] at hj
      cases hq : xs[j]? with
      | none => rw [hq] at hj; cases hj
      | some x =>
        rw [hq] at hj
        cases hj
        obtain ⟨cs, hcs, hcs1, hcs2⟩ := hcell j x hq
        have hcs' : cs = [.int .u8 x] := hcs1
        subst hcs'
        have := hcs2 0 _ rfl
        simpa [Kd.int, Kd.scalar] using this
    have hrun := run_copy_row (P := Tryz.prog) W 24 24 ty 5 B o (512 - o) (512 - o) ad xs.length c (nums .u8 L).toArray 91 (nums .u8 xs) Tryz.underlying24 info5s hI.1 (by rw [nums_length]; exact (Nat.min_eq_left (by omega)).symm) hcs (by rw [nums_length, List.size_toArray, nums_length, hI.2]; exact ho) (by simp [nums, Value.oneCell'])
    rw [nums_length] at hrun
    refine ⟨_, hrun, ⟨?_, by rw [setL_length (by rw [hI.2]; exact ho)]; exact hI.2⟩, turned_setRow _ _ _⟩
    have := setRow_heap W B (nums .u8 L).toArray ((nums .u8 L).toArray.toList.take o ++ nums .u8 xs ++ (nums .u8 L).toArray.toList.drop (o + xs.length)).toArray _ _ hI.1
    rw [Blk, this]
    simp [setL, nums]
theorem copy_img_str {W : World} {B : Nat} {L : List Int} (hI : Img W B L) (ty o : Nat) (s : ByteArray) (ho : o + s.size ≤ 512) :
    ∃ W', (Builtin.copy_ #[24, 9] ty #[.slice (some ⟨B, o, none⟩) (512 - o) (512 - o), .string s]).run Tryz.prog W = .ok (goInt s.size) W' ∧ Img W' B (setL L o (bytesOf s)) ∧ Turned (Eq B) W W' := by
  have hrun := Lib.run_copy_row_string (P := Tryz.prog) W 24 9 ty 5 B o (512 - o) (512 - o) s (nums .u8 L).toArray 91 Tryz.underlying24 info5s hI.1 (by omega) (by rw [List.size_toArray, nums_length, hI.2]; exact ho)
  refine ⟨_, hrun, ⟨?_, by rw [setL_length (by rw [hI.2, bytesOf_length]; exact ho)]; exact hI.2⟩, turned_setRow _ _ _⟩
  have := setRow_heap W B (nums .u8 L).toArray ((nums .u8 L).toArray.toList.take o ++ Lib.byteCells s.data.toList ++ (nums .u8 L).toArray.toList.drop (o + s.size)).toArray _ _ hI.1
  rw [Blk, this]
  have hbl := bytesOf_length s
  simp [setL, nums, hbl]
  simp [Lib.byteCells, bytesOf]
set_option maxRecDepth 100000 in
set_option maxHeartbeats 2000000 in
theorem number_any {B : Nat} {L : List Int} (o w : Nat) (n : Int) (hw : W3 w) (ho : o + w ≤ 512) (W : World) (hI : Img W B L) :
    Calls Tryz.prog 70 #[.pointer (some ⟨B, 0, none⟩), .int .i64 o, .int .i64 w, .int .i64 n] W fun e W' => e = .returned (.tuple #[]) ∧ Img W' B (setL L o (octF n w).1) ∧ Turned (Eq B) W W' := by
  have hP := fun W => octal_Put.calls 20 n (w : Int) (octF n w).1 (octF n w).2 W (octPut_f n hw 20 (Nat.le_refl _))
  have hle := octF_le n w (by rcases hw with rfl | rfl | rfl <;> omega)
  generalize octF n w = r at *
  obtain ⟨xs, e0⟩ := r
  dsimp only at hP hle ⊢
  have HI := Aside0.mk hI
  have hlt := hI.lt
  have hwr : 7 ≤ w := by rcases hw with rfl | rfl | rfl <;> omega
  have hcut := fun W => cut_img B o (by omega) W
  clear hI
  go_enter Tryz.func70, Tryz.ntmps70
  go_wp2_with (first | (go_at_call 74; refine (hP _).mono ?_; rintro e W1 ⟨v1, rfl, ho1, hb1⟩; obtain ⟨A1, c1, rfl, hc1, hC1⟩ := Kd.R_reads ho1; have HI1 := Aside0.mk (HI.out.below hb1); have HB1 := Aside0.mk hb1; have HC1 := Aside0.mk hC1; have hlt1 := Nat.lt_of_lt_of_le hlt hb1.size; clear hC1 hb1 ho1; obtain ⟨W2, hrun, hI2, hT2⟩ := copy_img HI1.out 3 o c1 HC1.out (by omega); have HI2 := Aside0.mk hI2; have HT2 := Aside0.mk ((Turned.of_below HB1.out (Eq B)).then_ hT2 (fun k hk => .inl hk)); clear hI2 hT2))
  refine bodyPost_end (v := .tuple #[]) (by simp [results, Tryz.f70, go_sem]) rfl ?_
  exact ⟨rfl, HI2.out, HT2.out⟩
def sumG (L : List Int) : Nat → Nat → Int → Int
  | 0, _, n => n
  | m + 1, i, n => sumG L m (i + 1) (n + if 148 ≤ i ∧ i < 156 then 32 else L.getD i 0)
def sumH (L : List Int) : Int := sumG L L.length 0 0
def Bytes (L : List Int) : Prop := ∀ x ∈ L, 0 ≤ x ∧ x < 256
theorem Bytes.at {L : List Int} (h : Bytes L) (i : Nat) : 0 ≤ L.getD i 0 ∧ L.getD i 0 < 256 := by
  rw [List.getD_eq_getElem?_getD]
  rcases Nat.lt_or_ge i L.length with hi | hi
  · rw [List.getElem?_eq_getElem hi]; exact h _ (List.getElem_mem hi)
  · rw [List.getElem?_eq_none hi]; simp
theorem sumG_rg {L : List Int} (h : Bytes L) : ∀ m i n, 0 ≤ n → n ≤ sumG L m i n ∧ sumG L m i n ≤ n + 255 * m
  | 0, _, n, h0 => by simp [sumG]
  | m + 1, i, n, h0 => by
    have hb := h.at i
    unfold sumG
    split
    · have := sumG_rg h m (i + 1) (n + 32) (by omega); omega
    · have := sumG_rg h m (i + 1) (n + L.getD i 0) (by omega); omega
set_option maxRecDepth 100000 in
set_option maxHeartbeats 2000000 in
theorem sum_any {B : Nat} {L : List Int} (hb : Bytes L) (W : World) (hI : Img W B L) :
    Calls Tryz.prog 71 #[.pointer (some ⟨B, 0, none⟩)] W fun e W' => e = .returned (.int .i64 (sumH L)) ∧ Below W.heap.size W W' := by
  have HI := Aside0.mk hI
  have HBY := Aside0.mk hb
  have HR : Aside0 (sumH L = sumG L 512 0 0) := ⟨by unfold sumH; rw [hI.2]⟩
  generalize sumH L = r at *
  have hlt := hI.lt
  clear hI hb
  go_enter Tryz.func71, Tryz.ntmps71
  go_wp2_with fail
  go_loopw [3, 7] (fun s v wr => ∃ (i : Nat) (n : Int), i ≤ 512 ∧ 0 ≤ n ∧ n ≤ 255 * i ∧ v = .int .i64 i ∧ s = .int .i64 n ∧ Aside0 (r = sumG L (512 - i) i n) ∧ Aside0 (Below W.heap.size W wr)) (fun _ v _ => 512 - (intOf v).toNat)
  case atStart => exact ⟨0, 0, by omega, by omega, by omega, rfl, rfl, HR, ⟨Below.refl _ _⟩⟩
  case round =>
    clear HR
    obtain ⟨i, n, hi, hn0, hn1, rfl, rfl, HR, HB⟩ := hrel
    by_cases h : i < 512
    · have hc := (HI.out.below HB.out).cell h
      have hby := HBY.out.at i
      have HS : Aside0 (r = sumG L (512 - (i + 1)) (i + 1) (n + if 148 ≤ i ∧ i < 156 then 32 else L.getD i 0)) := ⟨by rw [HR.out, show 512 - i = (512 - (i + 1)) + 1 by omega]; rfl⟩
      generalize L.getD i 0 = x at *
      have hbl := World.block_lt_of_cell? _ _ hc
      clear HR
      go_wp2_with fail
      go_region
      go_wp2_with fail
      · have h1 : 148 ≤ i ∧ i < 156 := ⟨by omega, by omega⟩
        refine ⟨⟨i + 1, n + 32, by omega, by omega, by omega, by go_num, rfl, ⟨by rw [HS.out, if_pos h1]⟩, ⟨below_drew HB.out⟩⟩, ?_⟩
        simp [intOf]; omega
      · have h1 : ¬ (148 ≤ i ∧ i < 156) := by omega
        refine ⟨⟨i + 1, n + x, by omega, by omega, by omega, by go_num, rfl, ⟨by rw [HS.out, if_neg h1]⟩, ⟨below_drew HB.out⟩⟩, ?_⟩
        simp [intOf]; omega
      · have h1 : ¬ (148 ≤ i ∧ i < 156) := by omega
        refine ⟨⟨i + 1, n + x, by omega, by omega, by omega, by go_num, rfl, ⟨by rw [HS.out, if_neg h1]⟩, ⟨below_drew HB.out⟩⟩, ?_⟩
        simp [intOf]; omega
    · obtain rfl : i = 512 := by omega
      have HY : Aside0 (r = n) := ⟨by rw [HR.out]; rfl⟩
      go_wp2_with fail
      go_ret
      exact ⟨by rw [HY.out]; rfl, HB.out⟩
def sealL (L : List Int) : List Int := setL (setL L 148 (octF (sumH L) 7).1) 155 [32]
theorem sumH_rg {L : List Int} (h : Bytes L) (hl : L.length = 512) : 0 ≤ sumH L ∧ sumH L ≤ 130560 := by
  have := sumG_rg h 512 0 0 (by omega)
  unfold sumH
  rw [hl]
  omega
theorem octF_ok7 {n : Int} (h0 : 0 ≤ n) (h1 : n ≤ 130560) : (octF n 7).2 = 0 := by
  unfold octF
  rw [if_neg (by omega), if_pos (by omega)]
set_option maxRecDepth 100000 in
set_option maxHeartbeats 2000000 in
theorem seal_any {B : Nat} {L : List Int} (hb : Bytes L) (W : World) (hI : Img W B L) :
    Calls Tryz.prog 44 #[.pointer (some ⟨B, 0, none⟩)] W fun e W' => e = .returned (.tuple #[]) ∧ Img W' B (sealL L) ∧ Turned (Eq B) W W' := by
  have hS := fun W hI => sum_any hb W hI (B := B)
  have hN := fun W hI => number_any (B := B) (L := L) 148 7 (sumH L) (.inl rfl) (by omega) W hI
  have hrg := sumH_rg hb hI.2
  have HE : Aside0 (sealL L = setL (setL L 148 (octF (sumH L) 7).1) 155 [32]) := ⟨rfl⟩
  have hl2 : (setL L 148 (octF (sumH L) 7).1).length = 512 := by
    rw [setL_length, hI.2]
    rw [octF_length (by omega) (octF_ok7 hrg.1 hrg.2), hI.2]
    omega
  generalize setL L 148 (octF (sumH L) 7).1 = L2 at *
  generalize sealL L = L3 at *
  generalize sumH L = n at *
  have HI := Aside0.mk hI
  clear hI hb
  go_enter Tryz.func44, Tryz.ntmps44
  go_wp2_with (first | (go_at_call 71; refine (hS _ HI.out).mono ?_; rintro e W1 ⟨rfl, hb1⟩; have HI1 := Aside0.mk (HI.out.below hb1); have HB1 := Aside0.mk hb1; clear hb1) | (go_at_call 70; refine (hN _ HI1.out).mono ?_; rintro e W2 ⟨rfl, hI2, hT2⟩; have HI2 := Aside0.mk hI2; have HT2 := Aside0.mk ((Turned.of_below HB1.out (Eq B)).then_ hT2 (fun k hk => .inl hk)); have hc := hI2.cell (i := 155) (by omega); have hfz : W2.frozen? ⟨B, 155, none⟩ = false := Blk.free hI2.1 155; have hlt := hI2.lt; clear hI2 hT2))
  refine bodyPost_end (v := .tuple #[]) (by simp [results, Tryz.f44, go_sem]) rfl ?_
  refine ⟨rfl, ?_, HT2.out.setCell (p := ⟨B, 155, none⟩) (.inl rfl) _⟩
  rw [HE.out, setL_one _ _ _ (by omega)]
  refine ⟨?_, by rw [List.length_set]; exact HI2.out.2⟩
  have := HI2.out.1.set 155 (.int .u8 32)
  unfold Blk at this ⊢
  rw [this]
  simp [nums, List.map_set]
end Go.Proofs.YtopehfjohifpnaaGreatDoor.Mine
end
section
set_option linter.unusedSimpArgs false
set_option linter.unusedVariables false
namespace Go.Proofs.YtopehfjohifpnaaGreatDoor.Mine
open Go.RowKit Go.Proofs.YtopehfjohifpnaaGreatDoorW.PrintWords Go.Proofs.YtopehfjohifpnaaGreatDoorW.PrintLast Go.Proofs.YtopehfjohifpnaaGreatDoorW.PrintMore Go.Proofs.YtopehfjohifpnaaGreatDoor.Doc
theorem run_append_str_at {P : Program} (w : World) (base : Nat) (t u ty e : TypeId) (i : TypeInfo) (ht : P.underlying t = some (.slice e)) (hu : P.underlying u = some .string) (hi : P.info? e = some i) (hz : i.zero = some (.int .u8 0))
    (hsize : i.size = 1) (hby : i.bytes = 1)
    (v : Value) (n : Nat) (xs : List Value) (hown : w.ownsRow base e 1 v n xs) (s : ByteArray)
    (h63 : n + s.size ≤ maxLen) (hbytes : n + s.size ≤ 140737488355328) {v' : Value} {w' : World} (hr0 : (Builtin.append_ #[t, u] ty #[v, .string s]).run P w = .ok v' w') :
    v'.ownBlock = v.ownBlock ∨ ∃ b, v'.ownBlock = some b ∧ w.heap.size ≤ b := by
  have hsmall : n + s.size ≤ 9223372036854775807 := by simp only [maxLen] at h63; omega
  have hxl : xs.length = n := by simpa using hown.1
  rcases hown.2 with ⟨rfl, rfl⟩ | ⟨g, cap, cur, rfl, hbg, hg, hnc, hcm, hcs, htake⟩
  · have hx : xs = [] := List.eq_nil_of_length_eq_zero hxl
    subst hx
    by_cases hm : s.size = 0
    · have hf := Lib.run_firstCells_string (P := P) w 1 s
      rw [hm] at hf
      simp [Builtin.append_, run_underlying ht, run_underlying hu, sizeOf, typeInfo, hi, hsize, Builtin.lenOf, hm, hf] at hr0
      left
      rw [← hr0.1]
    · have hr := run_append_nil_string (P := P) w t u ty e i (.int .u8 0) ht hu hi hz s (by omega) (by omega) (by rw [hby]; omega)
      rw [hr] at hr0
      injection hr0 with h1 h2
      right
      rw [← h1]
      exact ⟨w.heap.size, rfl, Nat.le_refl _⟩
  · by_cases hroom : n + s.size ≤ cap
    · have hcs' : cur.size = cap := by simpa using hcs
      have hr := Lib.run_append_room_string (P := P) w t u ty e i ht hu hi hsize g n cap cur hg s hroom (by omega)
      rw [hr] at hr0
      injection hr0 with h1 h2
      left
      rw [← h1]
      rfl
    · have holds : ∀ j u, xs[j]? = some u → w.cell? ((⟨g, 0, none⟩ : Addr).add j) = some u := hown.cells (g := g) rfl
      have hr := Lib.run_append_grow_string (P := P) w t u ty e i (.int .u8 0) ht hu hi hz ⟨g, 0, none⟩ n cap xs (by rw [hsize]; simpa using hxl) holds s (by omega) (by omega) (by rw [hby]; exact growslice_fits (by omega) (by omega))
      rw [hr] at hr0
      injection hr0 with h1 h2
      right
      rw [← h1]
      exact ⟨w.heap.size, rfl, Nat.le_refl _⟩
section
variable {P : Program} {ops : Array Oper} {rest : List Oper} {o : Oper} {a : Act} {Q : Exit → Act → World → Prop}
theorem append_str_at {w0 W : World} (base : Nat) (hgd : o.guard = none) (s x : Operand) (t u e : TypeId)
    (ho : o.op = .call { callee := .builtin .append, args := #[s, x], argTypes := #[t, u] })
    (ht : P.underlying t = some (.slice e)) (hu : P.underlying u = some .string) (hinfo : (P.info? e).map (fun i => (i.zero, i.size, i.bytes)) = some (some (.int .u8 0), 1, 1))
    (v : Value) (xs : List Int) (y : ByteArray) (hs : a.eval s = v) (hx : a.eval x = .string y)
    (HO : W.ownsRow base e 1 v xs.length (nums .u8 xs)) (HB : Below base w0 W) (hbase : base ≤ W.heap.size) (hl : xs.length + y.size ≤ 140737488355328)
    (h : ∀ v1 w1, w1.ownsRow base e 1 v1 (xs ++ bytesOf y).length (nums .u8 (xs ++ bytesOf y)) → Below base w0 w1 → W.grownBy w1 v.ownBlock → (v1.ownBlock = v.ownBlock ∨ ∃ b, v1.ownBlock = some b ∧ W.heap.size ≤ b) → wpList P ops Q rest (a.put o.dst v1) w1) :
    wpList P ops Q (o :: rest) a W := by
  obtain ⟨i0, hi, hzz⟩ := Option.map_eq_some_iff.1 hinfo
  simp only [Prod.mk.injEq] at hzz
  obtain ⟨hz0, hz1, hz2⟩ := hzz
  refine wpList_plain hgd fun K hK => ?_
  obtain ⟨v', w', hr, h2, h3, h4⟩ := Lib.run_append_own_string (P := P) W base t u o.type e i0 ht hu hi hz0 hz1 hz2 v xs.length (nums .u8 xs) HO y (by simp only [maxLen]; omega) hl hbase
  have hat := run_append_str_at W base t u o.type e i0 ht hu hi hz0 hz1 hz2 v xs.length (nums .u8 xs) HO y (by simp only [maxLen]; omega) hl hr
  unfold Oper.wp execOp
  simp only [ho, resolve, invoke, builtin, Sem.run_bind, Sem.run_pure, Result.andThen_ok, List.map_toArray, List.map_cons, List.map_nil, hs, hx, hr]
  have hl2 : (xs ++ bytesOf y).length = xs.length + y.size := by rw [List.length_append, bytesOf_length]
  have hc : nums .u8 (xs ++ bytesOf y) = nums .u8 xs ++ Lib.strCells y := by
    rw [nums_append]
    congr 1
    simp [nums, bytesOf, Lib.strCells]
  exact hK _ _ (h v' w' (by rw [hl2, hc]; exact h2) (HB.grown h3 hbase (own_base HO)) h3 hat)
end
end Go.Proofs.YtopehfjohifpnaaGreatDoor.Mine
end
