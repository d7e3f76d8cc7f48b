import Derived.Test.YtopehfjohifpnaaGreatDoorZ20
import Derived.Test.YtopehfjohifpnaaGreatDoorZ22
import Derived.Maps.Views
import Derived.Maps.Own
import Derived.Maps.OwnSet
import Derived.Maps.OwnOps
import Derived.StringKeys
section
set_option linter.unusedSimpArgs false
set_option linter.unusedVariables false
namespace Go.Proofs.YtopehfjohifpnaaGreatDoor.Mine
open Go.RowKit Go.Shelf Go.Proofs.YtopehfjohifpnaaGreatDoorW.PrintWords Go.Proofs.YtopehfjohifpnaaGreatDoorW.PrintLast Go.Proofs.YtopehfjohifpnaaGreatDoorW.PrintMore Go.Proofs.YtopehfjohifpnaaGreatDoor.Turn Go.Proofs.YtopehfjohifpnaaGreatDoor.Doc
def upN (s : ByteArray) : Int := Lib.lastIdx s 47 s.size
def upF (s : ByteArray) : ByteArray := s.extract 0 (upN s).toNat
theorem upN_rg (s : ByteArray) : -1 ≤ upN s ∧ upN s < (s.size : Int) := by
  unfold upN
  rcases Lib.lastIdx_spec s 47 s.size with ⟨e, _⟩ | ⟨i, hi, e, _⟩ <;> rw [e] <;> omega
theorem pcG_last (s : ByteArray) : ∀ (m f i : Nat), i + m = s.size → Lib.lastIdx s 47 i = (f : Int) - 1 → ∃ l x, pcG s m f i = l ++ [x] ∧ x.f0 = upN s + 1
  | 0, f, i, hi, hl => ⟨[], _, rfl, by
      have : i = s.size := by omega
      subst this
      show (f : Int) = upN s + 1
      unfold upN
      omega⟩
  | m + 1, f, i, hi, hl => by
    unfold pcG
    have hb := bt_bang s i (by omega)
    by_cases h : bt s i = 47
    · rw [if_pos h]
      obtain ⟨l, x, e, hx⟩ := pcG_last s m (i + 1) (i + 1) (by omega) (by rw [Lib.lastIdx_hit s 47 i (by rw [← hb]; exact h)]; omega)
      exact ⟨_ :: l, x, by rw [e]; rfl, hx⟩
    · rw [if_neg h]
      exact pcG_last s m f (i + 1) (by omega) (by rw [Lib.lastIdx_miss s 47 i (by rw [← hb]; exact h)]; exact hl)
theorem up_f (s : ByteArray) (hs : s.size ≤ 1000) (K : Nat) (hK : 1001 ≤ K) : tabularyref08_Up.f K s = some (upF s) := by
  obtain ⟨l, x, e, hx⟩ := pcG_last s s.size 0 0 (by omega) rfl
  have hp : pcs s = l ++ [x] := e
  have hlen := pcG_len s s.size 0 0
  have hrg := upN_rg s
  unfold tabularyref08_Up.f
  rw [pieces_f s hs K (by omega), Option.bind_some]
  have hpl : (pcs s).length ≤ 1001 := by unfold pcs; omega
  have hl : ((pcs s).length : Int) = l.length + 1 := by rw [hp, List.length_append]; rfl
  have hrd : rd_T137 (pcs s) (l.length : Int) = x := by
    unfold rd_T137
    rw [hp, Int.toNat_natCast, List.getD_eq_getElem?_getD, List.getElem?_append_right (Nat.le_refl _), Nat.sub_self]
    rfl
  have hw : wrap64 (((pcs s).length : Int) - 1) = (l.length : Int) := by rw [wrap_id (by omega) (by omega)]; omega
  rw [hw, if_pos (by omega), if_pos (by omega), hrd, hx]
  unfold upF
  by_cases h0 : upN s + 1 = 0
  · rw [if_pos h0, show (upN s).toNat = 0 by omega]
    simp
    rfl
  · rw [if_neg h0, wrap_id (by omega) (by omega), show upN s + 1 - 1 = upN s by omega, if_pos (by omega), if_pos (by omega)]
def itm (l : List S43) (i : Nat) : S43 := l.getD i z43
theorem itm_at {l : List S43} {i : Nat} (h : i < l.length) : itm l i = l[i] := by unfold itm; rw [List.getD_eq_getElem?_getD, List.getElem?_eq_getElem h]; rfl
theorem itm_rd (l : List S43) (i : Nat) : rd_T43 l (i : Int) = itm l i := by unfold rd_T43 itm; rw [Int.toNat_natCast]
def mayX (x : S43) : Int := mayF x.f0 x.f1 x.f2 x.f3 x.f4.length x.f5
def hasF (l : List S43) (p : ByteArray) (k : Int) : Bool := l.any fun x => decide (x.f0 = p ∧ x.f1 = k)
theorem toList_inj {a b : ByteArray} : a.toList = b.toList ↔ a = b := by
  constructor
  · intro h
    rw [Lib.toList_data, Lib.toList_data] at h
    exact ByteArray.ext (Array.ext' h)
  · rintro rfl; rfl
theorem has_l0 (l : List S43) (p : ByteArray) (k : Int) (hl : l.length ≤ 4611686018427387904) : ∀ (m i K : Nat), m + 1 ≤ K → i + m = l.length → tabularyref11_has.l0 K l p k i = some (hasF (l.drop i) p k)
  | 0, i, K, hK, hi => by
    obtain ⟨K, rfl⟩ : ∃ K', K = K' + 1 := ⟨K - 1, by omega⟩
    rw [tabularyref11_has.l0.eq_2, if_neg (by omega), List.drop_eq_nil_of_le (by omega)]
    rfl
  | m + 1, i, K, hK, hi => by
    obtain ⟨K, rfl⟩ : ∃ K', K = K' + 1 := ⟨K - 1, by omega⟩
    have hlt : i < l.length := by omega
    have ih := has_l0 l p k hl m (i + 1) K (by omega) (by omega)
    have hd : hasF (l.drop i) p k = (decide (l[i].f0 = p ∧ l[i].f1 = k) || hasF (l.drop (i + 1)) p k) := by rw [drop_hd l i hlt]; rfl
    rw [tabularyref11_has.l0.eq_2, if_pos (by omega), if_pos (by omega), itm_rd, itm_at hlt, wrap_id (by omega) (by omega), show (i : Int) + 1 = ((i + 1 : Nat) : Int) by omega, ih, hd]
    by_cases h1 : l[i].f0 = p
    · rw [if_pos (toList_inj.2 h1)]
      by_cases h2 : l[i].f1 = k
      · rw [if_pos h2, decide_eq_true ⟨h1, h2⟩]; rfl
      · rw [if_neg h2, decide_eq_false (fun e => h2 e.2)]; rfl
    · rw [if_neg (fun e => h1 (toList_inj.1 e)), decide_eq_false (fun e => h1 e.1)]; rfl
theorem has_f (l : List S43) (p : ByteArray) (k : Int) (hl : l.length ≤ 1000) (K : Nat) (hK : 1001 ≤ K) : tabularyref11_has.f K l p k = some (hasF l p k) := by
  have := has_l0 l p k (by omega) l.length 0 K (by omega) (by omega)
  rw [List.drop_zero] at this
  exact this
def checkG (l : List S43) : Nat → Nat → Int × Int
  | 0, _ => (0, 0)
  | m + 1, i => if mayX (itm l i) ≠ 0 then (i, mayX (itm l i)) else
    if 0 < i ∧ cmpF (itm l (i - 1)).f0 (itm l i).f0 ≠ -1 then (i, 111) else
    if (upF (itm l i).f0).size ≠ 0 ∧ hasF (l.take i) (upF (itm l i).f0) 2 = false then (i, 112) else
    if (itm l i).f1 = 3 ∧ hasF (l.take i) (itm l i).f5 1 = false then (i, 113) else checkG l m (i + 1)
def checkT (l : List S43) : Int × Int := if 256 < l.length then (256, 3) else checkG l l.length 0
theorem may_path {x : S43} (h : mayX x = 0) : x.f0.size ≤ 400 := by
  have hc : (checkF x.f0).2 = 0 := by
    unfold mayX mayF at h
    by_cases h1 : (checkF x.f0).2 = 0
    · exact h1
    · rw [if_pos h1] at h; exact absurd h h1
  rcases Nat.lt_or_ge 400 x.f0.size with h2 | h2
  · unfold checkF at hc; rw [if_pos h2] at hc; cases hc
  · exact h2
theorem check_l0T (l : List S43) (hl : l.length ≤ 256) : ∀ (m i K : Nat), 3 * m + 8000 ≤ K → i + m = l.length → (0 < i → (itm l (i - 1)).f0.size ≤ 400) → tabularyref11_Check.l0 K l i = some (checkG l m i)
  | 0, i, K, hK, hi, hp => by
    obtain ⟨K, rfl⟩ : ∃ K', K = K' + 1 := ⟨K - 1, by omega⟩
    rw [tabularyref11_Check.l0.eq_2, if_neg (by omega)]
    rfl
  | m + 1, i, K, hK, hi, hp => by
    obtain ⟨K, rfl⟩ : ∃ K', K = K' + 3 := ⟨K - 3, by omega⟩
    have hw : wrap64 ((i : Int) + 1) = ((i + 1 : Nat) : Int) := by rw [wrap_id (by omega) (by omega)]; rfl
    have hmay : ∀ K, 7000 ≤ K → tabularyref11_May.f K (itm l i).f0 (itm l i).f1 (itm l i).f2 (itm l i).f3 (itm l i).f4 (itm l i).f5 = some (mayX (itm l i)) := fun K hK => may_f _ _ _ _ _ _ K hK
    show _ = some (if mayX (itm l i) ≠ 0 then _ else _)
    rw [tabularyref11_Check.l0.eq_2, if_pos (by omega), if_pos (by omega), itm_rd, hmay _ (by omega), Option.bind_some]
    by_cases h0 : mayX (itm l i) = 0
    · have hsz := may_path h0
      have ih := check_l0T l hl m (i + 1) K (by omega) (by omega) (fun _ => by rw [Nat.add_sub_cancel]; exact hsz)
      have hj2 : ∀ b, tabularyref11_Check.j2 (K + 1) l i b = some (if b = true then ((i : Int), 112) else if (itm l i).f1 = 3 ∧ hasF (l.take i) (itm l i).f5 1 = false then ((i : Int), 113) else checkG l m (i + 1)) := fun b => by
        rw [tabularyref11_Check.j2.eq_2]
        by_cases hb : b = true
        · rw [if_pos hb, if_pos hb]
        · rw [if_neg hb, if_neg hb, if_pos (by omega), if_pos (by omega), itm_rd]
          by_cases h3 : (itm l i).f1 = 3
          · rw [if_pos h3, if_pos (by omega), Int.toNat_natCast, has_f _ _ _ (by rw [List.length_take]; omega) K (by omega), Option.bind_some, hw, ih]
            cases hasF (l.take i) (itm l i).f5 1 with
            | true => rw [if_pos rfl, if_neg (fun e => by cases e.2)]
            | false => rw [if_neg (by simp), if_pos ⟨h3, rfl⟩]
          · rw [if_neg h3, if_neg (fun e => h3 e.1), hw, ih]
      have hj1 : ∀ b, tabularyref11_Check.j1 (K + 2) l i b = some (if b = true then ((i : Int), 111) else if (upF (itm l i).f0).size ≠ 0 ∧ hasF (l.take i) (upF (itm l i).f0) 2 = false then ((i : Int), 112) else if (itm l i).f1 = 3 ∧ hasF (l.take i) (itm l i).f5 1 = false then ((i : Int), 113) else checkG l m (i + 1)) := fun b => by
        rw [tabularyref11_Check.j1.eq_2]
        by_cases hb : b = true
        · rw [if_pos hb, if_pos hb]
        · rw [if_neg hb, if_neg hb, if_pos (by omega), if_pos (by omega), itm_rd, up_f _ (by omega) _ (by omega), Option.bind_some]
          by_cases h3 : (upF (itm l i).f0).size = 0
          · rw [if_pos ((toList_nil _).2 h3), if_neg (fun e => e.1 h3), hj2]
            rfl
          · rw [if_neg (fun e => h3 ((toList_nil _).1 e)), if_pos (by omega), Int.toNat_natCast, has_f _ _ _ (by rw [List.length_take]; omega) (K + 1) (by omega), Option.bind_some, hj2]
            cases hasF (l.take i) (upF (itm l i).f0) 2 with
            | true => rw [if_neg (c := (!true) = true) (by simp), if_neg (c := _ ∧ true = false) (fun e => by cases e.2)]
            | false => rw [if_pos (c := (!false) = true) rfl, if_pos (c := _ ∧ false = false) ⟨h3, rfl⟩]
      rw [if_pos h0, if_neg (c := mayX (itm l i) ≠ 0) (fun e => e h0)]
      by_cases hi0 : 0 < i
      · have hw1 : wrap64 ((i : Int) - 1) = ((i - 1 : Nat) : Int) := by rw [wrap_id (by omega) (by omega)]; omega
        rw [if_pos (by omega), hw1, if_pos (by omega), if_pos (by omega), itm_rd, tabularyref08_Compare.is _ (by have := hp hi0; omega) (by omega), Option.bind_some, hj1]
        by_cases hc : cmpF (itm l (i - 1)).f0 (itm l i).f0 = -1
        · rw [if_neg (c := (cmpF (itm l (i - 1)).f0 (itm l i).f0 != -1) = true) (by rw [hc]; simp), if_neg (c := 0 < i ∧ cmpF (itm l (i - 1)).f0 (itm l i).f0 ≠ -1) (fun e => e.2 hc)]
        · rw [if_pos (bne_iff_ne.2 hc), if_pos ⟨hi0, hc⟩]
      · rw [if_neg (by omega), hj1]
        rw [if_neg (c := false = true) (by simp), if_neg (c := 0 < i ∧ cmpF (itm l (i - 1)).f0 (itm l i).f0 ≠ -1) (fun e => hi0 e.1)]
    · rw [if_neg h0, if_pos h0]
theorem checkT_f (l : List S43) (K : Nat) (hK : 9000 ≤ K) : tabularyref11_Check.f K l = some (checkT l) := by
  unfold tabularyref11_Check.f checkT
  by_cases h : 256 < l.length
  · rw [if_pos (by omega), if_pos h]
  · rw [if_neg (by omega), if_neg h]
    exact check_l0T l (by omega) l.length 0 K (by omega) (by omega) (fun e => absurd e (by omega))
end Go.Proofs.YtopehfjohifpnaaGreatDoor.Mine
end
section
set_option linter.unusedSimpArgs false
set_option linter.unusedVariables false
namespace Go.Proofs.YtopehfjohifpnaaGreatDoor.Mine
open Go.RowKit Go.Maps Go.Shelf Go.Proofs.YtopehfjohifpnaaGreatDoorW.PrintWords Go.Proofs.YtopehfjohifpnaaGreatDoorW.PrintLast Go.Proofs.YtopehfjohifpnaaGreatDoorW.PrintMore Go.Proofs.YtopehfjohifpnaaGreatDoor.Turn Go.Proofs.YtopehfjohifpnaaGreatDoor.Doc
theorem less_iff : ∀ a b : List UInt8, Op.bytesLess a b = true ↔ a < b
  | [], [] => by simp [Op.bytesLess]
  | a :: x, [] => by simp [Op.bytesLess]
  | [], b :: y => by simp [Op.bytesLess]
  | a :: x, b :: y => by
    rw [Op.bytesLess, List.cons_lt_cons_iff, Bool.or_eq_true, Bool.and_eq_true, decide_eq_true_iff, beq_iff_eq, less_iff x y]
theorem cmpB_lt {x y : ByteArray} : cmpB x y = -1 ↔ x.toList < y.toList := by
  unfold cmpB
  rw [← less_iff]
  by_cases h : Op.bytesLess x.toList y.toList = true
  · rw [if_pos h]; simp [h]
  · rw [if_neg h]
    split <;> simp [h]
theorem cmpB_eq {x y : ByteArray} : cmpB x y = 0 ↔ x = y := by
  unfold cmpB
  rw [← toList_inj]
  by_cases h : Op.bytesLess x.toList y.toList = true
  · rw [if_pos h]
    have := (less_iff _ _).1 h
    constructor
    · intro e; exact absurd e (by decide)
    · intro e; rw [e] at this; exact absurd this (List.lt_irrefl _)
  · rw [if_neg h]
    by_cases h2 : Op.bytesLess y.toList x.toList = true
    · rw [if_pos h2]
      have := (less_iff _ _).1 h2
      constructor
      · intro e; exact absurd e (by decide)
      · intro e; rw [e] at this; exact absurd this (List.lt_irrefl _)
    · rw [if_neg h2]
      refine ⟨fun _ => ?_, fun _ => rfl⟩
      rw [less_iff] at h h2
      exact List.le_antisymm (List.not_lt.1 h2) (List.not_lt.1 h)
theorem cmpB_lt_trans {x y z : ByteArray} (h1 : cmpB x y = -1) (h2 : cmpB y z = -1) : cmpB x z = -1 := cmpB_lt.2 (List.lt_trans (cmpB_lt.1 h1) (cmpB_lt.1 h2))
theorem cmpP_self : ∀ l : List ByteArray, cmpP l l = 0
  | [] => rfl
  | x :: l => by rw [cmpP_cons, if_pos (cmpB_eq.2 rfl)]; exact cmpP_self l
theorem cmpP_trans : ∀ l m n : List ByteArray, cmpP l m = -1 → cmpP m n = -1 → cmpP l n = -1
  | [], [], _, h1, _ => by cases h1
  | [], _ :: _, [], _, h2 => by cases h2
  | [], _ :: _, _ :: _, _, _ => rfl
  | _ :: _, [], _, h1, _ => by cases h1
  | _ :: _, _ :: _, [], _, h2 => by cases h2
  | x :: l, y :: m, z :: n, h1, h2 => by
    rw [cmpP_cons] at h1 h2 ⊢
    by_cases e1 : cmpB x y = 0
    · rw [if_pos e1] at h1
      have e := cmpB_eq.1 e1
      subst e
      by_cases e2 : cmpB x z = 0
      · rw [if_pos e2] at h2 ⊢
        exact cmpP_trans l m n h1 h2
      · rw [if_neg e2] at h2 ⊢
        exact h2
    · rw [if_neg e1] at h1
      by_cases e2 : cmpB y z = 0
      · have e := cmpB_eq.1 e2
        subst e
        rw [if_neg e1]
        exact h1
      · rw [if_neg e2] at h2
        have h3 := cmpB_lt_trans h1 h2
        rw [if_neg (by rw [h3]; decide)]
        exact h3
theorem cmpF_ne {a b : ByteArray} (h : cmpF a b = -1) : a ≠ b := fun e => by
  subst e
  unfold cmpF at h
  rw [cmpP_self] at h
  cases h
theorem cmpF_trans {a b c : ByteArray} (h1 : cmpF a b = -1) (h2 : cmpF b c = -1) : cmpF a c = -1 := cmpP_trans _ _ _ h1 h2
def SrtI (l : List S43) (n : Nat) : Prop := ∀ j, 0 < j → j < n → cmpF (itm l (j - 1)).f0 (itm l j).f0 = -1
theorem SrtI.lt {l : List S43} {n : Nat} (h : SrtI l n) : ∀ d i, i + d + 1 < n → cmpF (itm l i).f0 (itm l (i + d + 1)).f0 = -1
  | 0, i, hi => h (i + 1) (by omega) (by omega)
  | d + 1, i, hi => cmpF_trans (SrtI.lt h d i (by omega)) (h (i + d + 1 + 1) (by omega) (by omega))
theorem SrtI.ne {l : List S43} {n i j : Nat} (h : SrtI l n) (hij : i < j) (hj : j < n) : (itm l i).f0 ≠ (itm l j).f0 := by
  have := h.lt (j - i - 1) i (by omega)
  rw [show i + (j - i - 1) + 1 = j by omega] at this
  exact cmpF_ne this
def bB (p : ByteArray) : List UInt8 := p.data.toList
theorem bB_inj {p q : ByteArray} (h : bB p = bB q) : p = q := ByteArray.ext (Array.ext' h)
def lastK (ps : List S43) (k : ByteArray) : Int := ps.foldl (fun o x => if x.f0 = k then x.f1 else o) 0
theorem lastK_snoc (ps : List S43) (x : S43) (k : ByteArray) : lastK (ps ++ [x]) k = if x.f0 = k then x.f1 else lastK ps k := by
  unfold lastK
  rw [List.foldl_append]
  rfl
theorem hasF_snoc (ps : List S43) (x : S43) (p : ByteArray) (k : Int) : hasF (ps ++ [x]) p k = (hasF ps p k || decide (x.f0 = p ∧ x.f1 = k)) := by
  unfold hasF
  rw [List.any_append]
  simp
theorem hasF_none {ps : List S43} {p : ByteArray} (h : ∀ x ∈ ps, x.f0 ≠ p) (k : Int) : hasF ps p k = false := by
  unfold hasF
  rw [List.any_eq_false]
  intro x hx
  simp [h x hx]
theorem lastK_has (l : List S43) {c : Int} (hc : c ≠ 0) (p : ByteArray) : ∀ i, i ≤ l.length → SrtI l i → (lastK (l.take i) p = c ↔ hasF (l.take i) p c = true)
  | 0, _, _ => by
    rw [List.take_zero]
    show (0 : Int) = c ↔ false = true
    simp [Ne.symm hc]
  | i + 1, hi, hs => by
    have ih := lastK_has l hc p i (by omega) (fun j h1 h2 => hs j h1 (by omega))
    rw [List.take_succ_eq_append_getElem (by omega), lastK_snoc, hasF_snoc]
    by_cases h : l[i].f0 = p
    · rw [if_pos h]
      have hn : hasF (l.take i) p c = false := hasF_none (fun x hx => by
        obtain ⟨j, hj, hxj⟩ := List.getElem_of_mem hx
        rw [List.length_take] at hj
        rw [List.getElem_take] at hxj
        have := hs.ne (i := j) (j := i) (by omega) (by omega)
        rw [itm_at (by omega), itm_at (by omega), h] at this
        rw [← hxj]
        exact this) c
      rw [hn]
      simp [h]
    · rw [if_neg h]
      simp [h, ih]
def dI (a : Int) : DataW Unit := .lit (.int .u8 a)
def kindE (v : Value) : Option (DataW Unit × List MemPlace) := match v with
  | .int .u8 a => some (dI a, [])
  | _ => none
theorem kindE_mk (a : Int) : kindE (.int .u8 a) = some (dI a, []) := rfl
theorem kindE_inv {v : Value} {d : DataW Unit} {ps : List MemPlace} (h : kindE v = some (d, ps)) : ∃ a, v = .int .u8 a ∧ d = dI a := by
  unfold kindE at h
  split at h
  · cases h; exact ⟨_, rfl, rfl⟩
  · cases h
theorem dI_inj {a b : Int} (h : dI a = dI b) : a = b := by
  unfold dI at h
  injection h with h
  injection h
theorem isKey_str (b : List UInt8) : WideAt.IsKeyLit (.string b) := by simp [WideAt.IsKeyLit]
def KM (D : DataW Unit) (ps : List S43) : Prop := Tidy D ∧ ∀ k, D.atKey (.string (bB k)) (dI 0) = dI (lastK ps k)
theorem KM.start : KM (.map []) [] := ⟨tidy_empty, fun k => rfl⟩
theorem KM.put {D : DataW Unit} {ps : List S43} (h : KM D ps) (p : S43) : KM (D.put (.string (bB p.f0)) (dI p.f1)) (ps ++ [p]) := by
  obtain ⟨h1, h3⟩ := h
  refine ⟨h1.put (isKey_str _) _, fun k => ?_⟩
  rw [lastK_snoc]
  by_cases e : p.f0 = k
  · subst e
    rw [atKey_put_same h1.isMap (isKey_str _), if_pos rfl]
  · rw [atKey_put_other (fun h => e (bB_inj (by injection h with h; exact h.symm))), h3 k, if_neg e]
theorem zeroK (w : World) : (zeroValue 41).run Tryz.prog w = .ok (.int .u8 0) w := by kernel_rfl
def CkW (w W : World) (ps : List S43) : Prop := Below w.heap.size w W ∧ ∃ D : DataW Unit, W.ownsMap Tryz.prog 9 kindE w.heap.size ps.length D ∧ KM D ps
theorem ownsM_below {w W : World} {b n : Nat} {D : DataW Unit} (h : w.ownsMap Tryz.prog 9 kindE b n D) (hb : Below w.heap.size w W) : W.ownsMap Tryz.prog 9 kindE b n D := by
  have hlt := h.lt
  obtain ⟨es, clock, h1, h2⟩ := h
  exact ⟨es, clock, (hb.block b hlt).trans h1, h2⟩
theorem CkW.step {w W W' : World} {ps : List S43} (h : CkW w W ps) (hb : Below W.heap.size W W') : CkW w W' ps := by
  obtain ⟨h1, D, h4, h5⟩ := h
  exact ⟨below_step h1 hb, D, ownsM_below h4 hb, h5⟩
theorem CkW.look {w W : World} {ps : List S43} (h : CkW w W ps) (k : ByteArray) (hk : k.size ≤ 400) : (Instr.lookup 99 (.map (some w.heap.size)) (.string k) false).run Tryz.prog W = .ok (.int .u8 (lastK ps k)) W := by
  obtain ⟨h1, D, h4, h5⟩ := h
  have hkey : keyOf Tryz.prog 9 (.string k) = some (.string (bB k)) := WideMaps.keyOf_string_mk Tryz.underlying9 (by unfold maxLen; omega)
  obtain ⟨v, pp, hrun, hv⟩ := h4.lookup (string_keyed Tryz.underlying9) Tryz.underlying99 (zeroK W) (kindE_mk 0) hkey
  rw [h5.2 k] at hv
  obtain ⟨a, hvv, hdd⟩ := kindE_inv hv
  rw [← dI_inj hdd] at hvv
  subst hvv
  exact hrun
theorem CkW.start (w : World) : CkW w (w.alloc (.map #[] 0)) [] := ⟨below_alloc (Below.refl _ _) _, _, World.ownsMap_made w Tryz.prog 9 kindE, KM.start⟩
end Go.Proofs.YtopehfjohifpnaaGreatDoor.Mine
end
section
set_option linter.unusedSimpArgs false
set_option linter.unusedVariables false
namespace Go.Proofs.YtopehfjohifpnaaGreatDoor.Mine
open Go.RowKit Go.Maps Go.Shelf Go.Proofs.YtopehfjohifpnaaGreatDoorW.PrintWords Go.Proofs.YtopehfjohifpnaaGreatDoorW.PrintLast Go.Proofs.YtopehfjohifpnaaGreatDoorW.PrintMore Go.Proofs.YtopehfjohifpnaaGreatDoor.Turn Go.Proofs.YtopehfjohifpnaaGreatDoor.Doc
set_option maxRecDepth 100000 in
theorem up_any (s : ByteArray) (hs : s.size < 4611686018427387904) (w : World) : Calls Tryz.prog 50 #[.string s] w fun e w' => e = .returned (.string (upF s)) ∧ Below w.heap.size w w' := by
  have hrg := upN_rg s
  have hL : ∀ W, Calls Tryz.prog 69 #[.string s, .int .u8 47] W fun e W' => e = .returned (.int .i64 (upN s)) ∧ W' = W := fun W => Tryz.strings_LastIndexByte s 47 hs W
  have hu : upF s = s.extract 0 (max 0 (upN s)).toNat := by
    unfold upF
    congr 1
    omega
  rw [hu]
  generalize upN s = n at *
  clear hu
  have hsl : ∀ W, (Instr.slice 9 (.string s) none (some (.int .i64 (max 0 n))) none).run Tryz.prog W = .ok (.string (s.extract 0 (max 0 n).toNat)) W := fun W => run_slice_string_h W 9 s Tryz.underlying9 .i64 _ (by omega) (by omega)
  go_enter Tryz.func50, Tryz.ntmps50
  go_wp2_with (go_at_call 69; refine (hL _).mono ?_; rintro e w' ⟨rfl, rfl⟩)
  go_ret
  exact ⟨rfl, Below.refl _ _⟩
theorem cmpP_rg : ∀ l m : List ByteArray, cmpP l m = -1 ∨ cmpP l m = 0 ∨ cmpP l m = 1
  | [], [] => .inr (.inl rfl)
  | [], _ :: _ => .inl rfl
  | _ :: _, [] => .inr (.inr rfl)
  | x :: l, y :: m => by
    rw [cmpP_cons]
    split
    · exact cmpP_rg l m
    · exact cmpB_rg x y
theorem may_to {x : S43} (h : mayX x = 0) (h3 : x.f1 = 3) : x.f5.size ≤ 400 := by
  have key : ∀ (a b : Int) (P : Prop) [Decidable P], a ≠ 0 → (if P then a else b) = 0 → b = 0 := fun a b P _ ha h => by
    by_cases hp : P
    · rw [if_pos hp] at h; exact absurd h ha
    · rw [if_neg hp] at h; exact h
  have hc : (checkF x.f5).2 = 0 := by
    unfold mayX mayF at h
    by_cases h1 : (checkF x.f0).2 = 0
    · rw [if_neg (c := (checkF x.f0).2 ≠ 0) (fun e => e h1)] at h
      have h2 := key _ _ _ (by decide) h
      unfold mayT at h2
      have h4 := key _ _ _ (by decide) (key _ _ _ (by decide) h2)
      rw [if_pos h3] at h4
      exact h4
    · rw [if_pos h1] at h; exact absurd h h1
  rcases Nat.lt_or_ge 400 x.f5.size with h2 | h2
  · unfold checkF at hc; rw [if_pos h2] at hc; cases hc
  · exact h2
theorem cells_I {w : World} {A : Option Addr} {l : List S43} (h : Kd.C k43 w A l.length l) {i : Nat} (hi : i < l.length) : ∃ ad A4 c4, A = some ad ∧ w.cell? (ad.add (i * 6)) = some (.string (itm l i).f0) ∧ w.cell? ⟨(ad.add (i * 6)).block, (ad.add (i * 6)).off + 1, none⟩ = some (.int .u8 (itm l i).f1) ∧ w.cell? ⟨(ad.add (i * 6)).block, (ad.add (i * 6)).off + 2, none⟩ = some (.int .i64 (itm l i).f2) ∧ w.cell? ⟨(ad.add (i * 6)).block, (ad.add (i * 6)).off + 3, none⟩ = some (.int .i64 (itm l i).f3) ∧ w.cell? ⟨(ad.add (i * 6)).block, (ad.add (i * 6)).off + 4, none⟩ = some (.slice A4 (itm l i).f4.length c4) ∧ w.cell? ⟨(ad.add (i * 6)).block, (ad.add (i * 6)).off + 5, none⟩ = some (.string (itm l i).f5) ∧ (itm l i).f4.length ≤ c4 ∧ (Kd.int .u8).C w A4 (itm l i).f4.length (itm l i).f4 := by
  obtain ⟨ad, A4, c4, e, h0, h1, h2, h3, h4, h5, h6, h7⟩ := at_T43 h (i : Int) (by omega) (by omega)
  rw [Int.toNat_natCast] at h0 h1 h2 h3 h4 h5
  rw [itm_rd] at h0 h1 h2 h3 h4 h5 h6 h7
  exact ⟨ad, A4, c4, e, h0, h1, h2, h3, h4, h5, h6, h7⟩
set_option maxRecDepth 100000 in
set_option maxHeartbeats 8000000 in
theorem checkT_any (A : Option Addr) (c : Nat) (l : List S43) (i0 : Int) (w : World) (hr : Kd.C k43 w A l.length l) (hm : w.cell? ⟨1, 0, none⟩ = some (.int .i64 i0)) :
    Calls Tryz.prog 28 #[.slice A l.length c] w fun e w' => e = .returned (.tuple #[.int .i64 (checkT l).1, .int .i64 (checkT l).2]) ∧ Below w.heap.size w w' := by
  have HR := Aside0.mk hr
  have HM := Aside0.mk hm
  have hlm : 1 < w.heap.size := Lib.lt_of_cell (a := ⟨1, 0, none⟩) hm
  have HC : Aside0 (checkT l = if 256 < l.length then (256, 3) else checkG l l.length 0) := ⟨rfl⟩
  generalize checkT l = R at *
  clear hr hm
  by_cases hbig : 256 < l.length
  · have HX : Aside0 (R = (256, 3)) := ⟨by rw [HC.out, if_pos hbig]⟩
    go_enter Tryz.func28, Tryz.ntmps28
    go_wp2_with fail
    go_ret2
    exact ⟨by rw [HX.out]; rfl, Below.refl _ _⟩
  have HX : Aside0 (R = checkG l l.length 0) := ⟨by rw [HC.out, if_neg hbig]⟩
  clear HC
  have hmm := @run_makeMap Tryz.prog
  go_enter Tryz.func28, Tryz.ntmps28
  go_wp2_with fail
  have HO0 := Aside0.mk (CkW.start w)
  have hs0 : SrtI l 0 := fun j _ h => absurd h (by omega)
  have HS0 := Aside0.mk hs0
  generalize w.alloc (.map #[] 0) = W0 at *
  clear hmm hs0
  go_loopw [15] (fun v wr => ∃ i : Nat, i ≤ l.length ∧ v = .int .i64 i ∧ Aside0 (R = checkG l (l.length - i) i) ∧ Aside0 (CkW w wr (l.take i)) ∧ Aside0 (SrtI l i) ∧ Aside0 (0 < i → (itm l (i - 1)).f0.size ≤ 400)) (fun v _ => l.length - (intOf v).toNat)
  case atStart => exact ⟨0, Nat.zero_le _, rfl, HX, HO0, HS0, ⟨fun h => absurd h (by omega)⟩⟩
  case round =>
    clear HX HO0 HS0
    obtain ⟨i, hi, rfl, HX, HO, HS, HP⟩ := hrel
    by_cases hlt : i < l.length
    · have hx : R = if mayX (itm l i) ≠ 0 then ((i : Int), mayX (itm l i)) else
          if 0 < i ∧ cmpF (itm l (i - 1)).f0 (itm l i).f0 ≠ -1 then ((i : Int), 111) else
          if (upF (itm l i).f0).size ≠ 0 ∧ hasF (l.take i) (upF (itm l i).f0) 2 = false then ((i : Int), 112) else
          if (itm l i).f1 = 3 ∧ hasF (l.take i) (itm l i).f5 1 = false then ((i : Int), 113) else checkG l (l.length - (i + 1)) (i + 1) := by
        rw [HX.out, show l.length - i = (l.length - (i + 1)) + 1 by omega]
        rfl
      clear HX
      obtain ⟨ad, A4, c4, e, h0, h1, h2, h3, h4, h5, -, -⟩ := cells_I (Kd.C_below HR.out HO.out.1) hlt
      subst e
      have hl6 := World.block_lt_of_cell? _ _ h0
      have hprev : ∀ j : Nat, i = j + 1 → wr.cell? (ad.add (j * 6)) = some (.string (itm l j).f0) := fun j hj => by
        obtain ⟨ad', A4', c4', e', g0, _⟩ := cells_I (Kd.C_below HR.out HO.out.1) (i := j) (by omega)
        cases e'
        exact g0
      have HPREV := Aside0.mk hprev
      have HMAY := Aside0.mk (fun W hm => may_any (itm l i).f0 (itm l i).f1 (itm l i).f2 (itm l i).f3 A4 (itm l i).f4.length c4 (itm l i).f5 i0 W hm)
      have hmx : mayF (itm l i).f0 (itm l i).f1 (itm l i).f2 (itm l i).f3 (itm l i).f4.length (itm l i).f5 = mayX (itm l i) := rfl
      rw [hmx] at HMAY
      have HPATH : Aside0 (mayX (itm l i) = 0 → (itm l i).f0.size ≤ 400) := ⟨may_path⟩
      have HTO : Aside0 (mayX (itm l i) = 0 → (itm l i).f1 = 3 → (itm l i).f5.size ≤ 400) := ⟨may_to⟩
      have HTK : Aside0 (l.take (i + 1) = l.take i ++ [itm l i]) := ⟨by rw [List.take_succ_eq_append_getElem hlt, itm_at hlt]⟩
      have HSX : Aside0 (0 < i → cmpF (itm l (i - 1)).f0 (itm l i).f0 = -1 → SrtI l (i + 1)) := ⟨fun h1 h2 j h3 h4 => by
        rcases Nat.lt_or_ge j i with h5 | h5
        · exact HS.out j h3 h5
        · obtain rfl : j = i := by omega
          exact h2⟩
      have HSX0 : Aside0 (i = 0 → SrtI l (i + 1)) := ⟨fun h1 j h3 h4 => by omega⟩
      have HLK : Aside0 (∀ p c, c ≠ 0 → (lastK (l.take i) p = c ↔ hasF (l.take i) p c = true)) := ⟨fun p c hc => lastK_has l hc p i (by omega) HS.out⟩
      clear hprev hmx
      obtain ⟨x, hxx⟩ : ∃ x, itm l i = x := ⟨_, rfl⟩
      rw [hxx] at hx h0 h1 h2 h3 h4 h5 HMAY HPATH HTO HTK HSX
      have HXX := Aside0.mk hxx
      have HRX := Aside0.mk hx
      clear hx hxx
      obtain ⟨p, k, m, t, bd, q⟩ := x
      simp only at h0 h1 h2 h3 h4 h5 HMAY HPATH HTO HTK HSX HRX
      generalize mayX ⟨p, k, m, t, bd, q⟩ = mx at *
      have HB1 := Aside0.mk HO.out.1
      have HM1 := Aside0.mk ((HB1.out.cell (p := ⟨1, 0, none⟩) hlm).trans HM.out)
      have HO1 := Aside0.mk (HO.out.step (below_alloc (Below.refl _ wr) (.cells #[.string p, .int .u8 k, .int .i64 m, .int .i64 t, .slice A4 bd.length c4, .string q] 43)))
      have HK1 := Aside0.mk (Blk.new wr #[.string p, .int .u8 k, .int .i64 m, .int .i64 t, .slice A4 bd.length c4, .string q] 43)
      clear HO
      go_wp2_with fail
      refine (HMAY.out _ (cell_alloc_l _ HM1.out)).mono ?_
      rintro e w2 ⟨rfl, hb⟩
      have HO2 := Aside0.mk (HO1.out.step hb)
      have hK2 : Blk w2 wr.heap.size #[.string p, .int .u8 k, .int .i64 m, .int .i64 t, .slice A4 bd.length c4, .string q] 43 := (hb.block _ HK1.out.lt).trans HK1.out
      have HP2 : Aside0 (∀ j : Nat, i = j + 1 → w2.cell? (ad.add (j * 6)) = some (.string (itm l j).f0)) := ⟨fun j hj => pw_cell_below hb (cell_alloc_l _ (HPREV.out j hj))⟩
      have hl2 := hK2.lt
      clear hb HPREV HO1 HK1 HM1 HMAY h0 h1 h2 h3 h4 h5
      by_cases hm0 : mx = 0
      · subst hm0
        have hps := HPATH.out rfl
        clear HPATH
        obtain ⟨bad, hbad⟩ : ∃ bad : Bool, decide (0 < i ∧ cmpF (itm l (i - 1)).f0 p ≠ -1) = bad := ⟨_, rfl⟩
        have HBAD := Aside0.mk hbad
        have HK2 := Aside0.mk hK2
        clear hbad
        go_upto_region 10 with (fail)
        go_cut [39] (fun b wx => b = .bool bad ∧ Aside0 (Below w2.heap.size w2 wx))
        case first =>
          have lk0 : ∀ x : Behind w2, (later w2 x).cell? ⟨wr.heap.size, 0, none⟩ = some (.string p) := fun x => later_cell ((Blk.cell hK2 0).trans rfl) x
          have ll := fun x : Behind w2 => Nat.lt_of_lt_of_le hl2 x.below.size
          clear hK2
          cases i with
          | zero =>
            have HQ : Aside0 (bad = false) := ⟨by rw [← HBAD.out]; rfl⟩
            refine wp_region_behind (by kernel_rfl) (by kernel_rfl) ?_
            repeat (go_big_quiet_step (fail))
            refine wpQuiet_nil ?_
            rintro _ ⟨x, rfl⟩
            go_wp2_with fail
            go_meet
            exact ⟨by rw [HQ.out], ⟨x.below⟩⟩
          | succ j =>
            have hsj := HP.out (Nat.succ_pos j)
            rw [Nat.add_sub_cancel] at HBAD hsj
            have hpj := HP2.out j rfl
            have lpj := fun x : Behind w2 => later_cell hpj x
            have hbl := World.block_lt_of_cell? _ _ hpj
            have llj := fun x : Behind w2 => Nat.lt_of_lt_of_le hbl x.below.size
            have hrg := cmpP_rg (txG (itm l j).f0 0) (txG p 0)
            have HCMP := Aside0.mk (fun W => compare_any (itm l j).f0 p (by omega) (by omega) W)
            change cmpF (itm l j).f0 p = -1 ∨ cmpF (itm l j).f0 p = 0 ∨ cmpF (itm l j).f0 p = 1 at hrg
            generalize cmpF (itm l j).f0 p = cj at *
            have HQ : Aside0 (bad = decide (0 ≤ cj)) := ⟨by
              rw [← HBAD.out]
              rcases hrg with rfl | rfl | rfl <;> simp⟩
            have hw1 : IntKind.i64.wrap ((j : Int) + 1 - 1) = (j : Int) := by rw [IntWalk.i64_in _ (by omega)]; omega
            have hw2 : IntKind.i64.wrap (((j + 1 : Nat) : Int) - 1) = (j : Int) := by rw [IntWalk.i64_in _ (by omega)]; omega
            have hdj : decide (0 < j + 1) = true := decide_eq_true (by omega)
            clear hpj hrg HBAD HS HSX HSX0 HLK HTK HXX
            refine wp_region_behind (by kernel_rfl) (by kernel_rfl) ?_
            repeat (go_big_quiet_step (first | (go_at_call 49; exact calls_behind _ (HCMP.out _))))
            refine wpQuiet_nil ?_
            rintro _ ⟨x, rfl⟩
            go_wp2_with fail
            go_meet
            exact ⟨by rw [HQ.out], ⟨x.below⟩⟩
        case rest =>
          obtain ⟨rfl, HBX⟩ := hcut
          have HO3 := Aside0.mk (HO2.out.step HBX.out)
          have hK3 : Blk wc wr.heap.size #[.string p, .int .u8 k, .int .i64 m, .int .i64 t, .slice A4 bd.length c4, .string q] 43 := (HBX.out.block _ HK2.out.lt).trans HK2.out
          have hl3 := hK3.lt
          have c0 : wc.cell? ⟨wr.heap.size, 0, none⟩ = some (.string p) := (Blk.cell hK3 0).trans rfl
          have HK3 := Aside0.mk hK3
          have HRB : Aside0 (R = if bad = true then ((i : Int), 111) else if (upF p).size ≠ 0 ∧ hasF (l.take i) (upF p) 2 = false then ((i : Int), 112) else if k = 3 ∧ hasF (l.take i) q 1 = false then ((i : Int), 113) else checkG l (l.length - (i + 1)) (i + 1)) := ⟨by
            rw [HRX.out, if_neg (fun e => e rfl), ← HBAD.out]
            by_cases hb : 0 < i ∧ cmpF (itm l (i - 1)).f0 p ≠ -1
            · rw [if_pos hb, if_pos (c := decide (0 < i ∧ cmpF (itm l (i - 1)).f0 p ≠ -1) = true) (decide_eq_true hb)]
            · rw [if_neg hb, if_neg (c := decide (0 < i ∧ cmpF (itm l (i - 1)).f0 p ≠ -1) = true) (fun e => hb (of_decide_eq_true e))]⟩
          have HSN : Aside0 (bad = false → SrtI l (i + 1)) := ⟨fun h => by
            rw [h] at HBAD
            have hb := of_decide_eq_false HBAD.out
            rcases Nat.eq_zero_or_pos i with h0 | h0
            · exact HSX0.out h0
            · exact HSX.out h0 (Classical.byContradiction fun hn => hb ⟨h0, hn⟩)⟩
          clear hK2 hK3 HRX HBAD HSX HSX0 HP2 HO2 HK2
          cases bad with
          | true =>
            have HY : Aside0 (R = ((i : Int), 111)) := ⟨by rw [HRB.out, if_pos rfl]⟩
            clear HRB HSN
            go_wp2_with fail
            go_ret2
            exact ⟨by rw [HY.out]; rfl, HO3.out.1⟩
          | false =>
            have HSN2 := Aside0.mk (HSN.out rfl)
            have HRC : Aside0 (R = if (upF p).size ≠ 0 ∧ hasF (l.take i) (upF p) 2 = false then ((i : Int), 112) else if k = 3 ∧ hasF (l.take i) q 1 = false then ((i : Int), 113) else checkG l (l.length - (i + 1)) (i + 1)) := ⟨by rw [HRB.out, if_neg (by simp)]⟩
            have HUP := Aside0.mk (fun W => up_any p (by omega) W)
            have hul : (upF p).size ≤ 400 := by
              unfold upF
              have := extract_size_le p 0 (upN p).toNat
              omega
            generalize upF p = u at *
            clear HRB HSN
            go_wp2_with fail
            refine (HUP.out _).mono ?_
            rintro e w4 ⟨rfl, hb⟩
            have HO4 := Aside0.mk (HO3.out.step hb)
            have hK4 : Blk w4 wr.heap.size #[.string p, .int .u8 k, .int .i64 m, .int .i64 t, .slice A4 bd.length c4, .string q] 43 := (hb.block _ HK3.out.lt).trans HK3.out
            have hl4 := hK4.lt
            have HK4 := Aside0.mk hK4
            have d0 : w4.cell? ⟨wr.heap.size, 0, none⟩ = some (.string p) := (Blk.cell hK4 0).trans rfl
            have d1 : w4.cell? ⟨wr.heap.size, 1, none⟩ = some (.int .u8 k) := (Blk.cell hK4 1).trans rfl
            have d5 : w4.cell? ⟨wr.heap.size, 5, none⟩ = some (.string q) := (Blk.cell hK4 5).trans rfl
            clear hb c0 hK4 HK3 HO3 HUP
            have lku := HO4.out.look u hul
            have hu2 := HLK.out u 2 (by decide)
            have hq1 := HLK.out q 1 (by decide)
            generalize lastK (l.take i) u = ku at *
            generalize hasF (l.take i) u 2 = hu at *
            have HU2 := Aside0.mk hu2
            clear hu2
            by_cases hub : u.size ≠ 0 ∧ hu = false
            · have HY : Aside0 (R = ((i : Int), 112)) := ⟨by rw [HRC.out, if_pos hub]⟩
              have hem : u.toList.isEmpty = false := by
                cases h : u.toList.isEmpty with
                | true => exact absurd (isEmpty_size.1 h) hub.1
                | false => rfl
              have hku : (ku != 2) = true := bne_iff_ne.2 (fun e => by have := HU2.out.1 e; rw [hub.2] at this; cases this)
              clear HRC hq1 HU2 hub
              go_wp2_with fail
              go_ret2
              exact ⟨by rw [HY.out]; rfl, HO4.out.1⟩
            · have HRD : Aside0 (R = if k = 3 ∧ hasF (l.take i) q 1 = false then ((i : Int), 113) else checkG l (l.length - (i + 1)) (i + 1)) := ⟨by rw [HRC.out, if_neg hub]⟩
              have HEM : Aside0 (u.toList.isEmpty = false → ku = 2) := ⟨fun h => HU2.out.2 (by
                cases h2 : hu with
                | true => rfl
                | false => exact absurd ⟨ne0 h, h2⟩ hub)⟩
              clear HRC hub HU2
              go_upto_region 13 with (fail)
              go_cut [51] (fun b wx => b = .bool false ∧ wx = w4)
              case first =>
                cases hem : u.toList.isEmpty with
                | true =>
                  go_wp2_with fail
                  go_meet
                  exact ⟨rfl, rfl⟩
                | false =>
                  have hku := HEM.out hem
                  subst hku
                  go_wp2_with fail
                  go_meet
                  exact ⟨rfl, rfl⟩
              case rest =>
                obtain ⟨rfl, rfl⟩ := hcut
                clear lku HEM
                by_cases h3 : k = 3
                · subst h3
                  have hqs : q.size ≤ 400 := HTO.out (by first | rfl | trivial) (by first | rfl | trivial)
                  have lkq := HO4.out.look q hqs
                  have HQ1 := Aside0.mk hq1
                  clear hq1
                  generalize lastK (l.take i) q = kq at *
                  generalize hasF (l.take i) q 1 = hq at *
                  cases hq with
                  | false =>
                    have HY : Aside0 (R = ((i : Int), 113)) := ⟨by rw [HRD.out, if_pos ⟨rfl, rfl⟩]⟩
                    have hkq : (kq != 1) = true := bne_iff_ne.2 (fun e => by have := HQ1.out.1 e; cases this)
                    clear HRD HQ1
                    go_wp2_with fail
                    go_ret2
                    exact ⟨by rw [HY.out]; rfl, HO4.out.1⟩
                  | true =>
                    have hkq : kq = 1 := HQ1.out.2 rfl
                    subst hkq
                    have HY : Aside0 (R = checkG l (l.length - (i + 1)) (i + 1)) := ⟨by rw [HRD.out, if_neg (fun e => by cases e.2)]⟩
                    clear HRD HQ1
                    obtain ⟨hbel, D, hown, hkm⟩ := HO4.out
                    have HOWN := Aside0.mk hown
                    have HKM := Aside0.mk hkm
                    have HBL := Aside0.mk hbel
                    have hkey : keyOf Tryz.prog 9 (.string p) = some (.string (bB p)) := WideMaps.keyOf_string_mk Tryz.underlying9 (by unfold maxLen; omega)
                    have HKEY := Aside0.mk hkey
                    have HLAW := Aside0.mk (string_keyed Tryz.underlying9)
                    have hln : (l.take i).length ≤ 256 := by rw [List.length_take]; omega
                    clear hown hkm hbel hkey
                    go_wp2_with (at_mapUpdate; refine wpList_mapUpdate_own _ rfl _ _ _ 99 rfl 9 41 HLAW.out Tryz.underlying99 kindE w.heap.size (l.take i).length D rfl HOWN.out (by unfold maxLen; omega) _ _ _ rfl rfl HKEY.out _ [] (kindE_mk 3) ?_; intro w1 hown1 hgrow1; have HO5 : Aside0 (CkW w w1 (l.take (i + 1))) := ⟨⟨HBL.out.grown hgrow1 HBL.out.size (fun j hj => by cases hj; exact Nat.le_refl _), _, (by rw [HTK.out, List.length_append, List.length_singleton]; exact hown1), (by rw [HTK.out]; exact HKM.out.put ⟨p, 3, m, t, bd, q⟩)⟩⟩; clear hown1 hgrow1)
                    go_roundw
                    case rel => exact ⟨i + 1, by omega, by go_num, HY, HO5, HSN2, ⟨fun _ => by rw [Nat.add_sub_cancel, HXX.out]; exact hps⟩⟩
                    case measure => simp [intOf]; omega
                · have hk3 : (k == 3) = false := beq_eq_false_iff_ne.2 h3
                  have HY : Aside0 (R = checkG l (l.length - (i + 1)) (i + 1)) := ⟨by rw [HRD.out, if_neg (fun e => h3 e.1)]⟩
                  clear HRD hq1
                  obtain ⟨hbel, D, hown, hkm⟩ := HO4.out
                  have HOWN := Aside0.mk hown
                  have HKM := Aside0.mk hkm
                  have HBL := Aside0.mk hbel
                  have hkey : keyOf Tryz.prog 9 (.string p) = some (.string (bB p)) := WideMaps.keyOf_string_mk Tryz.underlying9 (by unfold maxLen; omega)
                  have HKEY := Aside0.mk hkey
                  have HLAW := Aside0.mk (string_keyed Tryz.underlying9)
                  have hln : (l.take i).length ≤ 256 := by rw [List.length_take]; omega
                  clear hown hkm hbel hkey
                  go_wp2_with (at_mapUpdate; refine wpList_mapUpdate_own _ rfl _ _ _ 99 rfl 9 41 HLAW.out Tryz.underlying99 kindE w.heap.size (l.take i).length D rfl HOWN.out (by unfold maxLen; omega) _ _ _ rfl rfl HKEY.out _ [] (kindE_mk k) ?_; intro w1 hown1 hgrow1; have HO5 : Aside0 (CkW w w1 (l.take (i + 1))) := ⟨⟨HBL.out.grown hgrow1 HBL.out.size (fun j hj => by cases hj; exact Nat.le_refl _), _, (by rw [HTK.out, List.length_append, List.length_singleton]; exact hown1), (by rw [HTK.out]; exact HKM.out.put ⟨p, k, m, t, bd, q⟩)⟩⟩; clear hown1 hgrow1)
                  go_roundw
                  case rel => exact ⟨i + 1, by omega, by go_num, HY, HO5, HSN2, ⟨fun _ => by rw [Nat.add_sub_cancel, HXX.out]; exact hps⟩⟩
                  case measure => simp [intOf]; omega
      · have hne : (mx != 0) = true := bne_iff_ne.2 hm0
        have HY : Aside0 (R = ((i : Int), mx)) := ⟨by rw [HRX.out, if_pos hm0]⟩
        clear hm0 HRX
        go_wp2_with fail
        go_ret2
        exact ⟨by rw [HY.out]; rfl, HO2.out.1⟩
    · obtain rfl : i = l.length := by omega
      have HY : Aside0 (R = (0, 0)) := ⟨by rw [HX.out, Nat.sub_self]; rfl⟩
      go_wp2_with fail
      go_ret2
      exact ⟨by rw [HY.out]; rfl, HO.out.1⟩
end Go.Proofs.YtopehfjohifpnaaGreatDoor.Mine
end
