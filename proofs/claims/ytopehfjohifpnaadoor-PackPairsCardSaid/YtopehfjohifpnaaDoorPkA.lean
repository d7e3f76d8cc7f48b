/- name: the pieces of a path, by the document; is a text a path. -/
import Derived.Test.YtopehfjohifpnaaDoorPPackPairsx2
import Derived.Test.YtopehfjohifpnaaDoorShelf
import Derived.Test.YtopehfjohifpnaaDoorTurn
import Derived.Lib.IndexLaws
import Derived.Lib.IndexBytes
import Derived.Lib.OthersKept
set_option linter.unusedSimpArgs false
set_option linter.unusedVariables false
namespace Go.Proofs.YtopehfjohifpnaaDoor.Mine
open Go.RowKit Go.Maps Go.Proofs.YtopehfjohifpnaaDoorW.PrintWords Go.Proofs.YtopehfjohifpnaaDoorW.PrintLast Go.Proofs.YtopehfjohifpnaaDoorW.PrintMore Go.Proofs.YtopehfjohifpnaaDoor.Turn Go.Proofs.YtopehfjohifpnaaDoor.PPackPairs

theorem wrap_id {x : Int} (h0 : -9223372036854775808 ≤ x) (h1 : x ≤ 9223372036854775807) : wrap64 x = x := by unfold wrap64; omega
/-- The pieces from a place on. -/
def pcG (s : ByteArray) : Nat → Nat → Nat → List S95
  | 0, f, i => [⟨f, s.extract f s.size⟩]
  | m + 1, f, i => if bt s i = 47 then ⟨f, s.extract f i⟩ :: pcG s m (i + 1) (i + 1) else pcG s m f (i + 1)
def pcs (s : ByteArray) : List S95 := pcG s s.size 0 0
theorem pcG_len (s : ByteArray) : ∀ m f i, (pcG s m f i).length ≤ m + 1
  | 0, f, i => by simp [pcG]
  | m + 1, f, i => by
    unfold pcG
    split
    · have := pcG_len s m (i + 1) (i + 1); simp; omega
    · have := pcG_len s m f (i + 1); omega
theorem pieces_l0 (s : ByteArray) (hs : s.size ≤ 140737488351232) : ∀ (m K i f : Nat) (out : List S95), m + 1 ≤ K → i + m = s.size → f ≤ i → out.length ≤ i → s.size < 5864062014805 → tabularyref08_Pieces.l0 K s out f i = some (out ++ pcG s m f i)
  | 0, K, i, f, out, hK, hi, hf, ho, hz => by
    obtain ⟨K, rfl⟩ : ∃ K', K = K' + 1 := ⟨K - 1, by omega⟩
    rw [tabularyref08_Pieces.l0.eq_2, if_neg (by omega), if_pos (by omega), if_pos (by omega), if_pos (by omega)]
    rfl
  | m + 1, K, i, f, out, hK, hi, hf, ho, hz => by
    obtain ⟨K, rfl⟩ : ∃ K', K = K' + 1 := ⟨K - 1, by omega⟩
    rw [tabularyref08_Pieces.l0.eq_2, if_pos (by omega), if_pos (by omega)]
    have hw : wrap64 ((i : Int) + 1) = ((i + 1 : Nat) : Int) := by rw [wrap_id (by omega) (by omega)]; rfl
    unfold pcG
    by_cases h : bt s i = 47
    · rw [if_pos h, if_pos (by omega), if_pos (by omega), if_pos (by omega), if_pos (by omega), hw, if_pos h]
      have ih := pieces_l0 s hs m K (i + 1) (i + 1) (out ++ [⟨(f : Int), s.extract f i⟩]) (by omega) (by omega) (Nat.le_refl _) (by simp; omega) hz
      rw [Int.toNat_natCast, Int.toNat_natCast, ih]
      simp
    · rw [if_neg h, hw, if_neg h]
      exact pieces_l0 s hs m K (i + 1) f out (by omega) (by omega) (by omega) (by omega) hz
theorem pieces_f (s : ByteArray) (hs : s.size ≤ 1000) (K : Nat) (hK : s.size + 1 ≤ K) : tabularyref08_Pieces.f K s = some (pcs s) := by
  have := pieces_l0 s (by omega) s.size K 0 0 [] hK (by omega) (Nat.le_refl _) (Nat.le_refl _) (by omega)
  exact this
theorem bt_get (k : ByteArray) (i : Nat) (hi : i < k.size) : ∃ x, k.data.toList[i]? = some x ∧ bt k i = x.toNat := by
  refine ⟨k[i], Lib.data_getElem? k i hi, ?_⟩
  unfold bt
  rw [dif_pos (by simpa using hi)]
  rfl
theorem idx_cons (x : UInt8) (l : List UInt8) : Lib.indexByte (x :: l) 0 = if (x == 0) = true then 0 else if (Lib.indexByte l 0 == -1) = true then -1 else Lib.indexByte l 0 + 1 := rfl
theorem nul_l0 (s : ByteArray) (hs : s.size ≤ 140737488351232) : ∀ (m K i : Nat), m + 1 ≤ K → i + m = s.size → tabularyref08_Nul.l0 K s i = some (if Lib.indexByte (s.data.toList.drop i) 0 = -1 then -1 else Lib.indexByte (s.data.toList.drop i) 0 + i)
  | 0, K, i, hK, hi => by
    obtain ⟨K, rfl⟩ : ∃ K', K = K' + 1 := ⟨K - 1, by omega⟩
    rw [tabularyref08_Nul.l0.eq_2, if_neg (by omega), List.drop_eq_nil_of_le (by rw [← Lib.size_eq]; omega)]
    rfl
  | m + 1, K, i, hK, hi => by
    obtain ⟨K, rfl⟩ : ∃ K', K = K' + 1 := ⟨K - 1, by omega⟩
    have hlt : i < s.data.toList.length := by rw [← Lib.size_eq]; omega
    obtain ⟨x, hx, hb⟩ := bt_get s i (by omega)
    have hxe : s.data.toList[i] = x := by rw [List.getElem?_eq_getElem hlt] at hx; exact Option.some.inj hx
    have hge := Lib.indexByte_ge (s.data.toList.drop (i + 1)) 0
    have ih := fun h1 h2 => nul_l0 s hs m (K) (i + 1) h1 h2
    rw [tabularyref08_Nul.l0.eq_2, if_pos (by omega), if_pos (by omega), hb, List.drop_eq_getElem_cons hlt, hxe]
    by_cases h : x = 0
    · subst h
      have e : Lib.indexByte (0 :: s.data.toList.drop (i + 1)) 0 = 0 := by rw [idx_cons]; rfl
      rw [if_pos (by rfl), e, if_neg (by decide), Int.zero_add]
    · have h1 : (x == 0) = false := beq_eq_false_iff_ne.2 h
      have h2 : ¬ ((x.toNat : Int) = 0) := fun e => by
        have h0 : x.toNat = 0 := by omega
        exact h (UInt8.toNat_inj.1 (h0.trans rfl))
      have e : Lib.indexByte (x :: s.data.toList.drop (i + 1)) 0 = if (Lib.indexByte (s.data.toList.drop (i + 1)) 0 == -1) = true then -1 else Lib.indexByte (s.data.toList.drop (i + 1)) 0 + 1 := by rw [idx_cons, h1]; rfl
      rw [if_neg h2, wrap_id (by omega) (by omega), show (i : Int) + 1 = ((i + 1 : Nat) : Int) by omega, ih (by omega) (by omega), e]
      generalize Lib.indexByte (s.data.toList.drop (i + 1)) 0 = r at *
      by_cases h3 : r = -1
      · subst h3
        rfl
      · have h4 : (r == -1) = false := beq_eq_false_iff_ne.2 h3
        have e2 : (if (r == -1) = true then (-1 : Int) else r + 1) = r + 1 := by rw [h4]; rfl
        rw [if_neg h3, e2, if_neg (by omega)]
        congr 1
        omega
theorem nul_f (s : ByteArray) (hs : s.size ≤ 140737488351232) (K : Nat) (hK : s.size + 1 ≤ K) : tabularyref08_Nul.f K s = some (Lib.indexByte s.data.toList 0) := by
  have := nul_l0 s hs s.size K 0 hK (by omega)
  unfold tabularyref08_Nul.f
  rw [show (0 : Int) = ((0 : Nat) : Int) from rfl, this]
  rw [List.drop_zero]
  split
  · rename_i h; rw [h]
  · simp
/-- What is wrong with a piece, and where in it. -/
def partE (x : ByteArray) : Int × Int := if x.size = 0 then (0, 80) else if 120 < x.size then (0, 2) else if x.toList = [46] ∨ x.toList = [46, 46] then (0, 81) else if 0 ≤ Lib.indexByte x.data.toList 0 then (Lib.indexByte x.data.toList 0, 82) else (0, 0)
theorem toList_nil (x : ByteArray) : x.toList = [] ↔ x.size = 0 := by
  rw [Lib.toList_data, Lib.size_eq]
  exact List.length_eq_zero_iff.symm
theorem part_j0 (x : ByteArray) (hx : x.size ≤ 140737488351232) (K : Nat) (hK : x.size + 2 ≤ K) (b : Bool) : tabularyref08_part.j0 K x b = some (if b = true then (0, 81) else if 0 ≤ Lib.indexByte x.data.toList 0 then (Lib.indexByte x.data.toList 0, 82) else (0, 0)) := by
  obtain ⟨K, rfl⟩ : ∃ K', K = K' + 1 := ⟨K - 1, by omega⟩
  rw [tabularyref08_part.j0.eq_2]
  split
  · rfl
  · rw [nul_f x hx K (by omega), Option.bind_some]
    by_cases h : 0 ≤ Lib.indexByte x.data.toList 0
    · rw [if_pos h, if_pos h]
    · rw [if_neg h, if_neg h]
theorem part_f (x : ByteArray) (hx : x.size ≤ 140737488351232) (K : Nat) (hK : x.size + 2 ≤ K) : tabularyref08_part.f K x = some (partE x) := by
  unfold tabularyref08_part.f partE
  by_cases h0 : x.size = 0
  · rw [if_pos ((toList_nil x).2 h0), if_pos h0]
  · rw [if_neg (fun h => h0 ((toList_nil x).1 h)), if_neg h0]
    by_cases h1 : 120 < x.size
    · rw [if_pos (by omega), if_pos h1]
    · rw [if_neg (by omega), if_neg h1]
      by_cases h2 : x.toList = [46]
      · rw [if_pos h2, part_j0 x hx K hK, if_pos (Or.inl h2)]
        rfl
      · rw [if_neg h2, part_j0 x hx K hK]
        by_cases h3 : x.toList = [46, 46]
        · rw [h3, if_pos (by rfl), if_pos (Or.inr rfl)]
        · have h4 : (x.toList == [46, 46]) = false := beq_eq_false_iff_ne.2 h3
          have h5 : ¬ (x.toList = [46] ∨ x.toList = [46, 46]) := fun h => h.elim h2 h3
          rw [h4, if_neg h5]
          rfl
/-- Is a text a path, or where is it none? -/
def chk : List S95 → Int × Int
  | [] => (0, 0)
  | p :: l => if (partE p.f1).2 = 0 then chk l else (p.f0 + (partE p.f1).1, (partE p.f1).2)
def checkF (s : ByteArray) : Int × Int := if 400 < s.size then (0, 2) else chk (pcs s)
theorem extract_size_le (s : ByteArray) (a b : Nat) : (s.extract a b).size ≤ s.size := by
  rw [ByteArray.size_extract]; omega
theorem pcG_small (s : ByteArray) : ∀ m f i, f ≤ s.size → i + m = s.size → ∀ p ∈ pcG s m f i, p.f1.size ≤ s.size ∧ 0 ≤ p.f0 ∧ p.f0 ≤ s.size
  | 0, f, i, hf, hi, p, hp => by
    simp only [pcG, List.mem_singleton] at hp
    subst hp
    exact ⟨extract_size_le _ _ _, by simp only; omega, by simp only; omega⟩
  | m + 1, f, i, hf, hi, p, hp => by
    unfold pcG at hp
    split at hp
    · rcases List.mem_cons.1 hp with rfl | hp
      · exact ⟨extract_size_le _ _ _, by simp only; omega, by simp only; omega⟩
      · exact pcG_small s m (i + 1) (i + 1) (by omega) (by omega) p hp
    · exact pcG_small s m f (i + 1) (by omega) (by omega) p hp
theorem partE_rg (x : ByteArray) (hx : x.size ≤ 400) : 0 ≤ (partE x).1 ∧ (partE x).1 ≤ 400 := by
  unfold partE
  have : Lib.indexByte x.data.toList 0 ≤ x.size := by
    rw [← Lib.index_one, Lib.size_eq]
    exact Lib.index_le _ _
  split
  · simp
  · split
    · simp
    · split
      · simp
      · split
        · simp only; omega
        · simp
theorem check_l0 (K : Nat) (l : List S95) (hl : ∀ p ∈ l, p.f1.size ≤ 400 ∧ 0 ≤ p.f0 ∧ p.f0 ≤ 400) (hn : l.length ≤ 1000) : ∀ (m F i : Nat), m + 403 ≤ F → i + m = l.length → tabularyref08_Check.l0 F l i = some (chk (l.drop i))
  | 0, F, i, hF, hi => by
    obtain ⟨F, rfl⟩ : ∃ F', F = F' + 1 := ⟨F - 1, by omega⟩
    rw [tabularyref08_Check.l0.eq_2, if_neg (by omega), List.drop_eq_nil_of_le (by omega)]
    rfl
  | m + 1, F, i, hF, hi => by
    obtain ⟨F, rfl⟩ : ∃ F', F = F' + 1 := ⟨F - 1, by omega⟩
    have hlt : i < l.length := by omega
    have hrd : rd_T95 l (i : Int) = l[i] := by unfold rd_T95; rw [Int.toNat_natCast, List.getD_eq_getElem?_getD, List.getElem?_eq_getElem hlt]; rfl
    have hp := hl l[i] (List.getElem_mem hlt)
    have hpr := partE_rg l[i].f1 hp.1
    rw [tabularyref08_Check.l0.eq_2, if_pos (by omega), if_pos (by omega), hrd, part_f _ (by omega) F (by omega), Option.bind_some, List.drop_eq_getElem_cons hlt]
    unfold chk
    split
    · rw [wrap_id (by omega) (by omega), show (i : Int) + 1 = ((i + 1 : Nat) : Int) by omega]
      exact check_l0 K l hl hn m F (i + 1) (by omega) (by omega)
    · rw [wrap_id (by omega) (by omega)]
theorem check_f (s : ByteArray) (K : Nat) (hK : 2000 ≤ K) : tabularyref08_Check.f K s = some (checkF s) := by
  unfold tabularyref08_Check.f checkF
  by_cases h : 400 < s.size
  · rw [if_pos (by omega), if_pos h]
  · rw [if_neg (by omega), if_neg h, pieces_f s (by omega) K (by omega), Option.bind_some]
    have hlen := pcG_len s s.size 0 0
    have := check_l0 K (pcs s) (fun p hp => by have := pcG_small s s.size 0 0 (Nat.zero_le _) (by omega) p hp; omega) (by unfold pcs; omega) (pcs s).length K 0 (by unfold pcs; omega) (by omega)
    rw [List.drop_zero] at this
    exact this

/-! How the code cuts. -/
theorem pcG_skip (s : ByteArray) (f : Nat) : ∀ (d i p : Nat), i + d = p → p ≤ s.size → (∀ j, i ≤ j → j < p → bt s j ≠ 47) → pcG s (s.size - i) f i = pcG s (s.size - p) f p
  | 0, i, p, h, hp, hn => by
    obtain rfl : i = p := by omega
    rfl
  | d + 1, i, p, h, hp, hn => by
    rw [show s.size - i = (s.size - (i + 1)) + 1 by omega]
    show (if bt s i = 47 then _ else _) = _
    rw [if_neg (hn i (Nat.le_refl _) (by omega))]
    exact pcG_skip s f d (i + 1) p (by omega) hp (fun j h1 h2 => hn j (by omega) h2)
theorem tail_get (s : ByteArray) (a k : Nat) (ha : a ≤ s.size) : (s.extract a s.size).data.toList[k]? = s.data.toList[a + k]? := by
  rw [ByteArray.data_extract, Array.toList_extract, List.extract_eq_take_drop]
  rw [List.getElem?_take]
  have : s.data.size = s.size := rfl
  split
  · rw [List.getElem?_drop]
  · rw [List.getElem?_eq_none]
    rw [← Lib.size_eq]
    omega
theorem bt_eq (s : ByteArray) (j : Nat) (hj : j < s.size) : bt s j = 47 ↔ s.data.toList[j]? = some 47 := by
  obtain ⟨x, hx, hb⟩ := bt_get s j hj
  rw [hx, hb]
  constructor
  · intro h
    have : x.toNat = 47 := by omega
    exact congrArg some (UInt8.toNat_inj.1 this)
  · intro h
    rw [Option.some.inj h]
    rfl
theorem pcs_last (s : ByteArray) (a : Nat) (ha : a ≤ s.size) (h : Lib.indexByte (s.extract a s.size).data.toList 47 < 0) : pcG s (s.size - a) a a = [⟨a, s.extract a s.size⟩] := by
  have hn : Lib.indexByte (s.extract a s.size).data.toList 47 = -1 := by
    have := Lib.indexByte_ge (s.extract a s.size).data.toList 47; omega
  rw [pcG_skip s a (s.size - a) a s.size (by omega) (Nat.le_refl _) (fun j h1 h2 => fun e => by
    have h3 := Lib.indexByte_none hn (j - a)
    rw [tail_get s a _ ha, show a + (j - a) = j by omega] at h3
    exact h3 ((bt_eq s j h2).1 e)), Nat.sub_self]
  rfl
theorem pcs_more (s : ByteArray) (a n : Nat) (ha : a ≤ s.size) (h : Lib.indexByte (s.extract a s.size).data.toList 47 = n) : a + n < s.size ∧ pcG s (s.size - a) a a = ⟨a, s.extract a (a + n)⟩ :: pcG s (s.size - (a + n + 1)) (a + n + 1) (a + n + 1) := by
  obtain ⟨h1, h2⟩ := Lib.indexByte_some h
  rw [tail_get s a _ ha] at h1
  have hlt : a + n < s.size := by
    rcases Nat.lt_or_ge (a + n) s.size with h | h
    · exact h
    · rw [List.getElem?_eq_none (by rw [← Lib.size_eq]; omega)] at h1; cases h1
  refine ⟨hlt, ?_⟩
  rw [pcG_skip s a n a (a + n) rfl (by omega) (fun j h3 h4 => fun e => by
    have h5 := h2 (j - a) (by omega)
    rw [tail_get s a _ ha, show a + (j - a) = j by omega] at h5
    exact h5 ((bt_eq s j (by omega)).1 e)), show s.size - (a + n) = (s.size - (a + n + 1)) + 1 by omega]
  show (if bt s (a + n : Nat) = 47 then _ else _) = _
  rw [if_pos ((bt_eq s (a + n) hlt).2 h1)]
end Go.Proofs.YtopehfjohifpnaaDoor.Mine
