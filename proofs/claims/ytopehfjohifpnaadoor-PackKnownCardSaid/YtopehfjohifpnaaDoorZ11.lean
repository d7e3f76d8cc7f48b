import Derived.Test.YtopehfjohifpnaaDoorZ8
import Derived.Test.YtopehfjohifpnaaDoorZ5
import Derived.Deep.QuietTactic
import Derived.BigQuiet
import Derived.Test.YtopehfjohifpnaaDoorZ10
import Derived.Test.YtopehfjohifpnaaDoorZ3
import Derived.Maps.Views
import Derived.Maps.Own
import Derived.Maps.OwnSet
import Derived.Maps.OwnOps
import Derived.StringKeys
section
set_option linter.unusedSimpArgs false
set_option linter.unusedVariables false
namespace Go.Proofs.YtopehfjohifpnaaDoor.Mine
open Go.RowKit Go.Shelf Go.Proofs.YtopehfjohifpnaaDoorW.PrintWords Go.Proofs.YtopehfjohifpnaaDoorW.PrintLast Go.Proofs.YtopehfjohifpnaaDoorW.PrintMore Go.Proofs.YtopehfjohifpnaaDoor.Turn Go.Proofs.YtopehfjohifpnaaDoor.Doc
def cmpB (x y : ByteArray) : Int := if Op.bytesLess x.toList y.toList = true then -1 else if Op.bytesLess y.toList x.toList = true then 1 else 0
def cmpP : List ByteArray → List ByteArray → Int
  | [], [] => 0
  | [], _ :: _ => -1
  | _ :: _, [] => 1
  | x :: l, y :: m => if cmpB x y = 0 then cmpP l m else cmpB x y
def txG (s : ByteArray) (p : Nat) : List ByteArray := (pcG s (s.size - p) p p).map (·.f1)
def cmpF (a b : ByteArray) : Int := cmpP (txG a 0) (txG b 0)
theorem txG_last (s : ByteArray) (p : Nat) (hp : p ≤ s.size) (h : Lib.indexByte (s.extract p s.size).data.toList 47 < 0) : txG s p = [s.extract p s.size] := by
  unfold txG; rw [pcs_last s p hp h]; rfl
theorem txG_more (s : ByteArray) (p n : Nat) (hp : p ≤ s.size) (h : Lib.indexByte (s.extract p s.size).data.toList 47 = n) : p + n < s.size ∧ txG s p = s.extract p (p + n) :: txG s (p + n + 1) := by
  obtain ⟨h1, h2⟩ := pcs_more s p n hp h
  refine ⟨h1, ?_⟩
  unfold txG; rw [h2]; rfl
theorem less_swap : ∀ (a b : List UInt8), (Op.bytesLess a b || a == b) = !(Op.bytesLess b a)
  | [], [] => rfl
  | [], b :: y => rfl
  | a :: x, [] => rfl
  | a :: x, b :: y => by
    have ih := less_swap x y
    unfold Op.bytesLess
    rcases Nat.lt_trichotomy a.toNat b.toNat with h | h | h
    · have h1 : decide (a < b) = true := decide_eq_true (UInt8.lt_iff_toNat_lt.2 h)
      have h2 : decide (b < a) = false := decide_eq_false (fun e => by have := UInt8.lt_iff_toNat_lt.1 e; omega)
      have h3 : (b == a) = false := beq_eq_false_iff_ne.2 (fun e => by rw [e] at h; omega)
      rw [h1, h2, h3]
      simp
    · obtain rfl : a = b := UInt8.toNat_inj.1 h
      have h2 : decide (a < a) = false := decide_eq_false (fun e => by have := UInt8.lt_iff_toNat_lt.1 e; omega)
      rw [h2, List.cons_beq_cons]
      simp only [beq_self_eq_true, Bool.false_or, Bool.true_and]
      exact ih
    · have h1 : decide (a < b) = false := decide_eq_false (fun e => by have := UInt8.lt_iff_toNat_lt.1 e; omega)
      have h2 : decide (b < a) = true := decide_eq_true (UInt8.lt_iff_toNat_lt.2 h)
      have h3 : (a == b) = false := beq_eq_false_iff_ne.2 (fun e => by rw [e] at h; omega)
      rw [h1, h2, h3, List.cons_beq_cons, h3]
      simp
theorem cmpB_rg (x y : ByteArray) : cmpB x y = -1 ∨ cmpB x y = 0 ∨ cmpB x y = 1 := by
  unfold cmpB
  split
  · exact .inl rfl
  · split
    · exact .inr (.inr rfl)
    · exact .inr (.inl rfl)
theorem isNaN_any (x : ByteArray) (w : World) : Calls Tryd.prog 60 #[.string x] w fun e w' => e = .returned (.bool false) ∧ w' = w := by
  go_enter Tryd.func60, Tryd.ntmps60
  go_wp2_with fail
  go_ret
  exact ⟨by simp, rfl⟩
set_option maxRecDepth 100000 in
theorem cmpS_any (x y : ByteArray) (w : World) : Calls Tryd.prog 52 #[.string x, .string y] w fun e w' => e = .returned (.int .i64 (cmpB x y)) ∧ Below w.heap.size w w' := by
  have hc : cmpB x y = if Op.bytesLess x.toList y.toList = true then -1 else if Op.bytesLess y.toList x.toList = true then 1 else 0 := rfl
  generalize cmpB x y = r at *
  have HC := Aside0.mk hc
  clear hc
  go_enter Tryd.func52, Tryd.ntmps52
  go_wp2_with (go_at_call 60; refine (isNaN_any _ _).mono ?_; rintro e w' ⟨rfl, rfl⟩)
  · have h : Op.bytesLess x.toList y.toList = true := by assumption
    go_ret
    exact ⟨by rw [HC.out, if_pos h]; rfl, Below.refl _ _⟩
  · have h : Op.bytesLess x.toList y.toList = false := by assumption
    have h1 : (!(x.toList == y.toList)) = true := by assumption
    have h2 : Op.bytesLess y.toList x.toList = true := by
      have h3 := less_swap x.toList y.toList
      rw [h, Bool.false_or] at h3
      rw [h3] at h1
      simpa using h1
    go_ret
    exact ⟨by rw [HC.out, if_neg (by rw [h]; simp), if_pos h2]; rfl, Below.refl _ _⟩
  · have h : Op.bytesLess x.toList y.toList = false := by assumption
    have h1 : (!(x.toList == y.toList)) = false := by assumption
    have h2 : Op.bytesLess y.toList x.toList = false := by
      have h3 := less_swap x.toList y.toList
      rw [h, Bool.false_or] at h3
      rw [h3] at h1
      simpa using h1
    go_ret
    exact ⟨by rw [HC.out, if_neg (by rw [h]; simp), if_neg (by rw [h2]; simp)]; rfl, Below.refl _ _⟩
theorem ext_size (s : ByteArray) (p : Nat) (hp : p ≤ s.size) : (s.extract p s.size).size = s.size - p := by rw [ByteArray.size_extract]; omega
theorem sl_to (s : ByteArray) (p n : Nat) (h : p + n ≤ s.size) (W : World) : (Instr.slice 9 (.string (s.extract p s.size)) none (some (.int .i64 (n : Int))) none).run Tryd.prog W = .ok (.string (s.extract p (p + n))) W := by
  have hz := ext_size s p (by omega)
  rw [run_slice_string_h W 9 _ Tryd.underlying9 .i64 (n : Int) (by omega) (by omega)]
  rw [Int.toNat_natCast, ByteArray.extract_extract]
  congr 3
  omega
theorem sl_from (s : ByteArray) (p n : Nat) (h : p + n + 1 ≤ s.size) (W : World) : (Instr.slice 9 (.string (s.extract p s.size)) (some (.int .i64 ((n : Int) + 1))) none none).run Tryd.prog W = .ok (.string (s.extract (p + n + 1) s.size)) W := by
  have hz := ext_size s p (by omega)
  rw [run_slice_string_l W 9 _ Tryd.underlying9 .i64 ((n : Int) + 1) (by omega) (by omega)]
  rw [show ((n : Int) + 1).toNat = n + 1 by omega, ByteArray.extract_extract, hz]
  congr 3
  omega
theorem cmpP_cons (x y : ByteArray) (l m : List ByteArray) : cmpP (x :: l) (y :: m) = if cmpB x y = 0 then cmpP l m else cmpB x y := by rw [cmpP]
theorem txG_ne (s : ByteArray) (p : Nat) : ∃ x l, txG s p = x :: l := by
  unfold txG
  have : ∀ m f i, ∃ x l, (pcG s m f i).map (·.f1) = x :: l := by
    intro m
    induction m with
    | zero => intro f i; exact ⟨_, _, rfl⟩
    | succ m ih =>
      intro f i
      unfold pcG
      split
      · exact ⟨_, _, rfl⟩
      · exact ih f (i + 1)
  exact this _ _ _
set_option maxRecDepth 100000 in
set_option maxHeartbeats 4000000 in
theorem compare_any (a b : ByteArray) (ha : a.size ≤ 4611686018427387904) (hb : b.size ≤ 4611686018427387904) (w : World) : Calls Tryd.prog 36 #[.string a, .string b] w fun e w' => e = .returned (.int .i64 (cmpF a b)) ∧ Below w.heap.size w w' := by
  have hC := fun x y W => cmpS_any x y W
  have HC0 : Aside0 (cmpF a b = cmpP (txG a 0) (txG b 0)) := ⟨rfl⟩
  generalize cmpF a b = r at *
  go_enter Tryd.func36, Tryd.ntmps36
  go_wp2_with fail
  go_loopw [0, 1] (fun u v W => ∃ p q : Nat, p ≤ a.size ∧ q ≤ b.size ∧ u = .string (a.extract p a.size) ∧ v = .string (b.extract q b.size) ∧ Aside0 (r = cmpP (txG a p) (txG b q)) ∧ Aside0 (Below w.heap.size w W)) (fun u _ _ => match u with | .string s => s.size | _ => 0)
  case atStart => exact ⟨0, 0, Nat.zero_le _, Nat.zero_le _, by simp, by simp, HC0, ⟨Below.refl _ _⟩⟩
  case round =>
    obtain ⟨p, q, hp, hq, rfl, rfl, HR, HB⟩ := hrel
    obtain ⟨i, hi⟩ : ∃ i, Lib.indexByte (a.extract p a.size).data.toList 47 = i := ⟨_, rfl⟩
    obtain ⟨k, hk⟩ : ∃ k, Lib.indexByte (b.extract q b.size).data.toList 47 = k := ⟨_, rfl⟩
    have hi1 : -1 ≤ i := by rw [← hi]; exact Lib.indexByte_ge _ _
    have hk1 : -1 ≤ k := by rw [← hk]; exact Lib.indexByte_ge _ _
    have hIA : ∀ W, Calls Tryd.prog 43 #[.string (a.extract p a.size), .int .u8 47] W fun e W' => e = .returned (.int .i64 i) ∧ W' = W := fun W => by rw [← hi]; exact Tryd.strings_IndexByte _ _ _
    have hIB : ∀ W, Calls Tryd.prog 43 #[.string (b.extract q b.size), .int .u8 47] W fun e W' => e = .returned (.int .i64 k) ∧ W' = W := fun W => by rw [← hk]; exact Tryd.strings_IndexByte _ _ _
    rcases Int.lt_or_le i 0 with hneg | hpos
    · rcases Int.lt_or_le k 0 with kneg | kpos
      · have ha2 := txG_last a p hp (by omega)
        rw [ha2] at HR
        have hb2 := txG_last b q hq (by omega)
        rw [hb2] at HR
        have hcS := fun W => hC (a.extract p a.size) (b.extract q b.size) W
        rw [cmpP_cons] at HR
        have hrg := cmpB_rg (a.extract p a.size) (b.extract q b.size)
        generalize cmpB (a.extract p a.size) (b.extract q b.size) = c at *
        have HR2 : Aside0 (r = if c = 0 then 0 else c) := ⟨by rw [HR.out]; rfl⟩
        clear hi hk hC ha2 hb2 HR
        go_wp2_with (first | (go_at_call 43; refine (hIA _).mono ?_; rintro e w' ⟨rfl, rfl⟩) | (go_at_call 43; refine (hIB _).mono ?_; rintro e w' ⟨rfl, rfl⟩) | (go_at_call 52; refine (hcS _).mono ?_; rintro e w2 ⟨rfl, hb⟩; have HB2 := Aside0.mk (below_step HB.out hb); clear hb))
        · have h : (c != 0) = true := by assumption
          go_ret
          exact ⟨by rw [HR2.out, if_neg (bne_iff_ne.1 h)]; rfl, HB2.out⟩
        · have h : (c != 0) = false := by assumption
          go_ret
          exact ⟨by rw [HR2.out, if_pos (by simpa using h)]; rfl, HB2.out⟩
      · have ha2 := txG_last a p hp (by omega)
        rw [ha2] at HR
        obtain ⟨m, rfl⟩ : ∃ m : Nat, k = m := ⟨k.toNat, by omega⟩
        obtain ⟨hb1, hb2⟩ := txG_more b q m hq hk
        have hsb := sl_to b q m (by omega)
        have hfb := sl_from b q m (by omega)
        rw [hb2] at HR
        have hcS := fun W => hC (a.extract p a.size) (b.extract q (q + m)) W
        rw [cmpP_cons] at HR
        have hrg := cmpB_rg (a.extract p a.size) (b.extract q (q + m))
        generalize cmpB (a.extract p a.size) (b.extract q (q + m)) = c at *
        obtain ⟨y0, m0, hy0⟩ := txG_ne b (q + m + 1)
        have HR2 : Aside0 (r = if c = 0 then -1 else c) := ⟨by rw [HR.out]; rw [hy0]; rfl⟩
        clear hi hk hC ha2 hb2 HR hy0
        go_wp2_with (first | (go_at_call 43; refine (hIA _).mono ?_; rintro e w' ⟨rfl, rfl⟩) | (go_at_call 43; refine (hIB _).mono ?_; rintro e w' ⟨rfl, rfl⟩) | (go_at_call 52; refine (hcS _).mono ?_; rintro e w2 ⟨rfl, hb⟩; have HB2 := Aside0.mk (below_step HB.out hb); clear hb))
        · have h : (c != 0) = true := by assumption
          go_ret
          exact ⟨by rw [HR2.out, if_neg (bne_iff_ne.1 h)]; rfl, HB2.out⟩
        · have h : (c != 0) = false := by assumption
          go_ret
          exact ⟨by rw [HR2.out, if_pos (by simpa using h)]; rfl, HB2.out⟩
    · rcases Int.lt_or_le k 0 with kneg | kpos
      · obtain ⟨n, rfl⟩ : ∃ n : Nat, i = n := ⟨i.toNat, by omega⟩
        obtain ⟨ha1, ha2⟩ := txG_more a p n hp hi
        have hsa := sl_to a p n (by omega)
        have hfa := sl_from a p n (by omega)
        rw [ha2] at HR
        have hb2 := txG_last b q hq (by omega)
        rw [hb2] at HR
        have hcS := fun W => hC (a.extract p (p + n)) (b.extract q b.size) W
        rw [cmpP_cons] at HR
        have hrg := cmpB_rg (a.extract p (p + n)) (b.extract q b.size)
        generalize cmpB (a.extract p (p + n)) (b.extract q b.size) = c at *
        obtain ⟨x0, l0, hx0⟩ := txG_ne a (p + n + 1)
        have HR2 : Aside0 (r = if c = 0 then 1 else c) := ⟨by rw [HR.out]; rw [hx0]; rfl⟩
        clear hi hk hC ha2 hb2 HR hx0
        go_wp2_with (first | (go_at_call 43; refine (hIA _).mono ?_; rintro e w' ⟨rfl, rfl⟩) | (go_at_call 43; refine (hIB _).mono ?_; rintro e w' ⟨rfl, rfl⟩) | (go_at_call 52; refine (hcS _).mono ?_; rintro e w2 ⟨rfl, hb⟩; have HB2 := Aside0.mk (below_step HB.out hb); clear hb))
        · have h : (c != 0) = true := by assumption
          go_ret
          exact ⟨by rw [HR2.out, if_neg (bne_iff_ne.1 h)]; rfl, HB2.out⟩
        · have h : (c != 0) = false := by assumption
          go_ret
          exact ⟨by rw [HR2.out, if_pos (by simpa using h)]; rfl, HB2.out⟩
      · obtain ⟨n, rfl⟩ : ∃ n : Nat, i = n := ⟨i.toNat, by omega⟩
        obtain ⟨ha1, ha2⟩ := txG_more a p n hp hi
        have hsa := sl_to a p n (by omega)
        have hfa := sl_from a p n (by omega)
        rw [ha2] at HR
        obtain ⟨m, rfl⟩ : ∃ m : Nat, k = m := ⟨k.toNat, by omega⟩
        obtain ⟨hb1, hb2⟩ := txG_more b q m hq hk
        have hsb := sl_to b q m (by omega)
        have hfb := sl_from b q m (by omega)
        rw [hb2] at HR
        have hcS := fun W => hC (a.extract p (p + n)) (b.extract q (q + m)) W
        rw [cmpP_cons] at HR
        have hrg := cmpB_rg (a.extract p (p + n)) (b.extract q (q + m))
        generalize cmpB (a.extract p (p + n)) (b.extract q (q + m)) = c at *
        obtain ⟨x0, l0, hx0⟩ := txG_ne a (p + n + 1)
        obtain ⟨y0, m0, hy0⟩ := txG_ne b (q + m + 1)
        have HR2 := HR
        clear hi hk hC ha2 hb2 HR hx0 hy0
        go_wp2_with (first | (go_at_call 43; refine (hIA _).mono ?_; rintro e w' ⟨rfl, rfl⟩) | (go_at_call 43; refine (hIB _).mono ?_; rintro e w' ⟨rfl, rfl⟩) | (go_at_call 52; refine (hcS _).mono ?_; rintro e w2 ⟨rfl, hb⟩; have HB2 := Aside0.mk (below_step HB.out hb); clear hb))
        · have h : (c != 0) = true := by assumption
          go_ret
          exact ⟨by rw [HR2.out, if_neg (bne_iff_ne.1 h)]; rfl, HB2.out⟩
        · have h : (c != 0) = false := by assumption
          go_region
          all_goals
            go_wp2_with fail
            go_roundw
            case rel => exact ⟨p + n + 1, q + m + 1, by omega, by omega, rfl, rfl, ⟨by rw [HR2.out, if_pos (by simpa using h)]⟩, ⟨below_drew HB2.out⟩⟩
            case measure => simp only [ext_size a _ (show p + n + 1 ≤ a.size by omega), ext_size a p hp]; omega
end Go.Proofs.YtopehfjohifpnaaDoor.Mine
end
section
set_option linter.unusedSimpArgs false
set_option linter.unusedVariables false
namespace Go.Proofs.YtopehfjohifpnaaDoor.Mine
open Go.RowKit Go.Shelf Go.Proofs.YtopehfjohifpnaaDoorW.PrintWords Go.Proofs.YtopehfjohifpnaaDoorW.PrintLast Go.Proofs.YtopehfjohifpnaaDoorW.PrintMore Go.Proofs.YtopehfjohifpnaaDoor.Turn Go.Proofs.YtopehfjohifpnaaDoor.Doc
def upN (s : ByteArray) : Int := Lib.lastIdx s 47 s.size
def upF (s : ByteArray) : ByteArray := s.extract 0 (upN s).toNat
theorem upN_rg (s : ByteArray) : -1 ≤ upN s ∧ upN s < (s.size : Int) := by
  unfold upN
  rcases Lib.lastIdx_spec s 47 s.size with ⟨e, _⟩ | ⟨i, hi, e, _⟩ <;> rw [e] <;> omega
def itm (l : List S25) (i : Nat) : S25 := l.getD i z25
theorem itm_at {l : List S25} {i : Nat} (h : i < l.length) : itm l i = l[i] := by unfold itm; rw [List.getD_eq_getElem?_getD, List.getElem?_eq_getElem h]; rfl
theorem itm_rd (l : List S25) (i : Nat) : rd_T25 l (i : Int) = itm l i := by unfold rd_T25 itm; rw [Int.toNat_natCast]
def mayX (x : S25) : Int := mayF x.f0 x.f1 x.f2 x.f3 x.f4.length x.f5
def hasF (l : List S25) (p : ByteArray) (k : Int) : Bool := l.any fun x => decide (x.f0 = p ∧ x.f1 = k)
theorem toList_inj {a b : ByteArray} : a.toList = b.toList ↔ a = b := by
  constructor
  · intro h
    rw [Lib.toList_data, Lib.toList_data] at h
    exact ByteArray.ext (Array.ext' h)
  · rintro rfl; rfl
def checkG (l : List S25) : Nat → Nat → Int × Int
  | 0, _ => (0, 0)
  | m + 1, i => if mayX (itm l i) ≠ 0 then (i, mayX (itm l i)) else
    if 0 < i ∧ cmpF (itm l (i - 1)).f0 (itm l i).f0 ≠ -1 then (i, 111) else
    if (upF (itm l i).f0).size ≠ 0 ∧ hasF (l.take i) (upF (itm l i).f0) 2 = false then (i, 112) else
    if (itm l i).f1 = 3 ∧ hasF (l.take i) (itm l i).f5 1 = false then (i, 113) else checkG l m (i + 1)
def checkT (l : List S25) : Int × Int := if 256 < l.length then (256, 3) else checkG l l.length 0
theorem may_path {x : S25} (h : mayX x = 0) : x.f0.size ≤ 400 := by
  have hc : (checkF x.f0).2 = 0 := by
    unfold mayX mayF at h
    by_cases h1 : (checkF x.f0).2 = 0
    · exact h1
    · rw [if_pos h1] at h; exact absurd h h1
  rcases Nat.lt_or_ge 400 x.f0.size with h2 | h2
  · unfold checkF at hc; rw [if_pos h2] at hc; cases hc
  · exact h2
end Go.Proofs.YtopehfjohifpnaaDoor.Mine
end
section
set_option linter.unusedSimpArgs false
set_option linter.unusedVariables false
namespace Go.Proofs.YtopehfjohifpnaaDoor.Mine
open Go.RowKit Go.Maps Go.Shelf Go.Proofs.YtopehfjohifpnaaDoorW.PrintWords Go.Proofs.YtopehfjohifpnaaDoorW.PrintLast Go.Proofs.YtopehfjohifpnaaDoorW.PrintMore Go.Proofs.YtopehfjohifpnaaDoor.Turn Go.Proofs.YtopehfjohifpnaaDoor.Doc
theorem less_iff : ∀ a b : List UInt8, Op.bytesLess a b = true ↔ a < b
  | [], [] => by simp [Op.bytesLess]
  | a :: x, [] => by simp [Op.bytesLess]
  | [], b :: y => by simp [Op.bytesLess]
  | a :: x, b :: y => by
    rw [Op.bytesLess, List.cons_lt_cons_iff, Bool.or_eq_true, Bool.and_eq_true, decide_eq_true_iff, beq_iff_eq, less_iff x y]
theorem cmpB_lt {x y : ByteArray} : cmpB x y = -1 ↔ x.toList < y.toList := by
  unfold cmpB
  rw [← less_iff]
  by_cases h : Op.bytesLess x.toList y.toList = true
  · rw [if_pos h]; simp [h]
  · rw [if_neg h]
    split <;> simp [h]
theorem cmpB_eq {x y : ByteArray} : cmpB x y = 0 ↔ x = y := by
  unfold cmpB
  rw [← toList_inj]
  by_cases h : Op.bytesLess x.toList y.toList = true
  · rw [if_pos h]
    have := (less_iff _ _).1 h
    constructor
    · intro e; exact absurd e (by decide)
    · intro e; rw [e] at this; exact absurd this (List.lt_irrefl _)
  · rw [if_neg h]
    by_cases h2 : Op.bytesLess y.toList x.toList = true
    · rw [if_pos h2]
      have := (less_iff _ _).1 h2
      constructor
      · intro e; exact absurd e (by decide)
      · intro e; rw [e] at this; exact absurd this (List.lt_irrefl _)
    · rw [if_neg h2]
      refine ⟨fun _ => ?_, fun _ => rfl⟩
      rw [less_iff] at h h2
      exact List.le_antisymm (List.not_lt.1 h2) (List.not_lt.1 h)
theorem cmpB_lt_trans {x y z : ByteArray} (h1 : cmpB x y = -1) (h2 : cmpB y z = -1) : cmpB x z = -1 := cmpB_lt.2 (List.lt_trans (cmpB_lt.1 h1) (cmpB_lt.1 h2))
theorem cmpP_self : ∀ l : List ByteArray, cmpP l l = 0
  | [] => rfl
  | x :: l => by rw [cmpP_cons, if_pos (cmpB_eq.2 rfl)]; exact cmpP_self l
theorem cmpP_trans : ∀ l m n : List ByteArray, cmpP l m = -1 → cmpP m n = -1 → cmpP l n = -1
  | [], [], _, h1, _ => by cases h1
  | [], _ :: _, [], _, h2 => by cases h2
  | [], _ :: _, _ :: _, _, _ => rfl
  | _ :: _, [], _, h1, _ => by cases h1
  | _ :: _, _ :: _, [], _, h2 => by cases h2
  | x :: l, y :: m, z :: n, h1, h2 => by
    rw [cmpP_cons] at h1 h2 ⊢
    by_cases e1 : cmpB x y = 0
    · rw [if_pos e1] at h1
      have e := cmpB_eq.1 e1
      subst e
      by_cases e2 : cmpB x z = 0
      · rw [if_pos e2] at h2 ⊢
        exact cmpP_trans l m n h1 h2
      · rw [if_neg e2] at h2 ⊢
        exact h2
    · rw [if_neg e1] at h1
      by_cases e2 : cmpB y z = 0
      · have e := cmpB_eq.1 e2
        subst e
        rw [if_neg e1]
        exact h1
      · rw [if_neg e2] at h2
        have h3 := cmpB_lt_trans h1 h2
        rw [if_neg (by rw [h3]; decide)]
        exact h3
theorem cmpF_ne {a b : ByteArray} (h : cmpF a b = -1) : a ≠ b := fun e => by
  subst e
  unfold cmpF at h
  rw [cmpP_self] at h
  cases h
theorem cmpF_trans {a b c : ByteArray} (h1 : cmpF a b = -1) (h2 : cmpF b c = -1) : cmpF a c = -1 := cmpP_trans _ _ _ h1 h2
def SrtI (l : List S25) (n : Nat) : Prop := ∀ j, 0 < j → j < n → cmpF (itm l (j - 1)).f0 (itm l j).f0 = -1
theorem SrtI.lt {l : List S25} {n : Nat} (h : SrtI l n) : ∀ d i, i + d + 1 < n → cmpF (itm l i).f0 (itm l (i + d + 1)).f0 = -1
  | 0, i, hi => h (i + 1) (by omega) (by omega)
  | d + 1, i, hi => cmpF_trans (SrtI.lt h d i (by omega)) (h (i + d + 1 + 1) (by omega) (by omega))
theorem SrtI.ne {l : List S25} {n i j : Nat} (h : SrtI l n) (hij : i < j) (hj : j < n) : (itm l i).f0 ≠ (itm l j).f0 := by
  have := h.lt (j - i - 1) i (by omega)
  rw [show i + (j - i - 1) + 1 = j by omega] at this
  exact cmpF_ne this
def bB (p : ByteArray) : List UInt8 := p.data.toList
theorem bB_inj {p q : ByteArray} (h : bB p = bB q) : p = q := ByteArray.ext (Array.ext' h)
def lastK (ps : List S25) (k : ByteArray) : Int := ps.foldl (fun o x => if x.f0 = k then x.f1 else o) 0
theorem lastK_snoc (ps : List S25) (x : S25) (k : ByteArray) : lastK (ps ++ [x]) k = if x.f0 = k then x.f1 else lastK ps k := by
  unfold lastK
  rw [List.foldl_append]
  rfl
theorem hasF_snoc (ps : List S25) (x : S25) (p : ByteArray) (k : Int) : hasF (ps ++ [x]) p k = (hasF ps p k || decide (x.f0 = p ∧ x.f1 = k)) := by
  unfold hasF
  rw [List.any_append]
  simp
theorem hasF_none {ps : List S25} {p : ByteArray} (h : ∀ x ∈ ps, x.f0 ≠ p) (k : Int) : hasF ps p k = false := by
  unfold hasF
  rw [List.any_eq_false]
  intro x hx
  simp [h x hx]
theorem lastK_has (l : List S25) {c : Int} (hc : c ≠ 0) (p : ByteArray) : ∀ i, i ≤ l.length → SrtI l i → (lastK (l.take i) p = c ↔ hasF (l.take i) p c = true)
  | 0, _, _ => by
    rw [List.take_zero]
    show (0 : Int) = c ↔ false = true
    simp [Ne.symm hc]
  | i + 1, hi, hs => by
    have ih := lastK_has l hc p i (by omega) (fun j h1 h2 => hs j h1 (by omega))
    rw [List.take_succ_eq_append_getElem (by omega), lastK_snoc, hasF_snoc]
    by_cases h : l[i].f0 = p
    · rw [if_pos h]
      have hn : hasF (l.take i) p c = false := hasF_none (fun x hx => by
        obtain ⟨j, hj, hxj⟩ := List.getElem_of_mem hx
        rw [List.length_take] at hj
        rw [List.getElem_take] at hxj
        have := hs.ne (i := j) (j := i) (by omega) (by omega)
        rw [itm_at (by omega), itm_at (by omega), h] at this
        rw [← hxj]
        exact this) c
      rw [hn]
      simp [h]
    · rw [if_neg h]
      simp [h, ih]
def dI (a : Int) : DataW Unit := .lit (.int .u8 a)
def kindE (v : Value) : Option (DataW Unit × List MemPlace) := match v with
  | .int .u8 a => some (dI a, [])
  | _ => none
theorem kindE_mk (a : Int) : kindE (.int .u8 a) = some (dI a, []) := rfl
theorem kindE_inv {v : Value} {d : DataW Unit} {ps : List MemPlace} (h : kindE v = some (d, ps)) : ∃ a, v = .int .u8 a ∧ d = dI a := by
  unfold kindE at h
  split at h
  · cases h; exact ⟨_, rfl, rfl⟩
  · cases h
theorem dI_inj {a b : Int} (h : dI a = dI b) : a = b := by
  unfold dI at h
  injection h with h
  injection h
theorem isKey_str (b : List UInt8) : WideAt.IsKeyLit (.string b) := by simp [WideAt.IsKeyLit]
def KM (D : DataW Unit) (ps : List S25) : Prop := Tidy D ∧ ∀ k, D.atKey (.string (bB k)) (dI 0) = dI (lastK ps k)
theorem KM.start : KM (.map []) [] := ⟨tidy_empty, fun k => rfl⟩
theorem KM.put {D : DataW Unit} {ps : List S25} (h : KM D ps) (p : S25) : KM (D.put (.string (bB p.f0)) (dI p.f1)) (ps ++ [p]) := by
  obtain ⟨h1, h3⟩ := h
  refine ⟨h1.put (isKey_str _) _, fun k => ?_⟩
  rw [lastK_snoc]
  by_cases e : p.f0 = k
  · subst e
    rw [atKey_put_same h1.isMap (isKey_str _), if_pos rfl]
  · rw [atKey_put_other (fun h => e (bB_inj (by injection h with h; exact h.symm))), h3 k, if_neg e]
theorem zeroK (w : World) : (zeroValue 22).run Tryd.prog w = .ok (.int .u8 0) w := by kernel_rfl
def CkW (w W : World) (ps : List S25) : Prop := Below w.heap.size w W ∧ ∃ D : DataW Unit, W.ownsMap Tryd.prog 9 kindE w.heap.size ps.length D ∧ KM D ps
theorem ownsM_below {w W : World} {b n : Nat} {D : DataW Unit} (h : w.ownsMap Tryd.prog 9 kindE b n D) (hb : Below w.heap.size w W) : W.ownsMap Tryd.prog 9 kindE b n D := by
  have hlt := h.lt
  obtain ⟨es, clock, h1, h2⟩ := h
  exact ⟨es, clock, (hb.block b hlt).trans h1, h2⟩
theorem CkW.step {w W W' : World} {ps : List S25} (h : CkW w W ps) (hb : Below W.heap.size W W') : CkW w W' ps := by
  obtain ⟨h1, D, h4, h5⟩ := h
  exact ⟨below_step h1 hb, D, ownsM_below h4 hb, h5⟩
theorem CkW.look {w W : World} {ps : List S25} (h : CkW w W ps) (k : ByteArray) (hk : k.size ≤ 400) : (Instr.lookup 78 (.map (some w.heap.size)) (.string k) false).run Tryd.prog W = .ok (.int .u8 (lastK ps k)) W := by
  obtain ⟨h1, D, h4, h5⟩ := h
  have hkey : keyOf Tryd.prog 9 (.string k) = some (.string (bB k)) := WideMaps.keyOf_string_mk Tryd.underlying9 (by unfold maxLen; omega)
  obtain ⟨v, pp, hrun, hv⟩ := h4.lookup (string_keyed Tryd.underlying9) Tryd.underlying78 (zeroK W) (kindE_mk 0) hkey
  rw [h5.2 k] at hv
  obtain ⟨a, hvv, hdd⟩ := kindE_inv hv
  rw [← dI_inj hdd] at hvv
  subst hvv
  exact hrun
theorem CkW.start (w : World) : CkW w (w.alloc (.map #[] 0)) [] := ⟨below_alloc (Below.refl _ _) _, _, World.ownsMap_made w Tryd.prog 9 kindE, KM.start⟩
end Go.Proofs.YtopehfjohifpnaaDoor.Mine
end
