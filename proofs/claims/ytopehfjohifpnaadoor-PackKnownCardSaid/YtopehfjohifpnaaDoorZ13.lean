import Derived.Test.YtopehfjohifpnaaDoorZ4
import Derived.Test.YtopehfjohifpnaaDoorZ3
import Derived.WalkKit
import Derived.ProofKit
import Derived.Below
import Derived.Lib.Hide
import Derived.Lib.TrimUEq
import Derived.Lib.OthersKept
import Derived.Deep.QuietTactic
import Derived.BigQuiet
import Derived.IntWalk
import Derived.Lib.AppendIntMem
import Derived.Test.YtopehfjohifpnaaDoorZ5
import Derived.Lib.Bytes
import Derived.Lib.AtoiErrMem
section
set_option linter.unusedSimpArgs false
set_option linter.unusedVariables false
namespace Go.Proofs.YtopehfjohifpnaaDoor.Mine
open Go.RowKit Go.Maps Go.Proofs.YtopehfjohifpnaaDoorW.PrintWords Go.Proofs.YtopehfjohifpnaaDoorW.PrintLast Go.Proofs.YtopehfjohifpnaaDoorW.PrintMore Go.Proofs.YtopehfjohifpnaaDoor.Turn Go.Proofs.YtopehfjohifpnaaDoor.Doc
abbrev C3 : ByteArray := { data := #[0, 10, 61] }
theorem c3_get (i : Nat) (hi : i < C3.size) : (C3[i]'hi).toNat < 128 := by
  have hd : i = 0 ∨ i = 1 ∨ i = 2 := by have : C3.size = 3 := rfl; omega
  rcases hd with rfl | rfl | rfl
  · exact (show (0 : UInt8).toNat < 128 by decide)
  · exact (show (10 : UInt8).toNat < 128 by decide)
  · exact (show (61 : UInt8).toNat < 128 by decide)
theorem below_iter (w : World) (s : ByteArray) (pos : Nat) : Below w.heap.size w (w.iter s pos) := by
  unfold World.iter
  exact below_alloc (Below.refl _ _) _
set_option maxHeartbeats 4000000 in
set_option maxRecDepth 100000 in
theorem rune_err (w : World) : Calls Tryd.prog 78 #[.string { data := #[0, 10, 61] }, .int .i32 65533] w fun e w' => e = .returned (.int .i64 (-1)) ∧ Below w.heap.size w w' := by
  go_enter Tryd.func78, Tryd.ntmps78
  go_wp2_with fail
  go_loopg [5, 6] 3 (fun g _ _ wx => ∃ i : Nat, i + g = 3 ∧ wx = w.iter C3 i)
  case atStart => exact ⟨0, by omega, rfl⟩
  case round =>
    obtain ⟨i, hig, rfl⟩ := hrel
    cases gk with
    | zero =>
      obtain rfl : i = 3 := by omega
      have hnx := run_next_end (P := Tryd.prog) w C3 3
      go_wp2
      go_ret
      exact ⟨rfl, below_iter w C3 3⟩
    | succ g =>
      have hi : i < C3.size := by have : C3.size = 3 := rfl; omega
      have h128 := c3_get i hi
      have hnx := fun ty => run_next_ascii (P := Tryd.prog) w C3 i ty hi h128
      generalize C3[i]'hi = x at *
      have hne : ((x.toNat : Int) == 65533) = false := beq_eq_false_iff_ne.2 (by omega)
      go_wp2
      go_roundg g
      case measure => omega
      case rel => exact ⟨i + 1, by omega, rfl⟩
theorem high_last (n : Nat) (h : 128 ≤ n) (h2 : n < 256) : (UInt8.ofNat n).toNat = n := by simp; omega
theorem encode_two {r : Nat} (h : 128 ≤ r) (h2 : r < 2048) : ∃ a b : UInt8, Utf8.encode r = ⟨#[a, b]⟩ ∧ 128 ≤ b.toNat := by
  refine ⟨UInt8.ofNat (0xC0 + r / 64), UInt8.ofNat (0x80 + r % 64), ?_, ?_⟩
  · have hv : Utf8.valid r = true := by unfold Utf8.valid; simp; omega
    unfold Utf8.encode
    rw [if_pos hv]
    simp only [Int.toNat_natCast]
    rw [if_neg (by omega), if_pos h2]
  · rw [high_last _ (by omega) (by omega)]; omega
theorem encode_three {r : Nat} (h : 2048 ≤ r) (h2 : r < 65536) (hv : Utf8.valid r = true) : ∃ a b c : UInt8, Utf8.encode r = ⟨#[a, b, c]⟩ ∧ 128 ≤ c.toNat := by
  refine ⟨UInt8.ofNat (0xE0 + r / 4096), UInt8.ofNat (0x80 + r / 64 % 64), UInt8.ofNat (0x80 + r % 64), ?_, ?_⟩
  · unfold Utf8.encode
    rw [if_pos hv]
    simp only [Int.toNat_natCast]
    rw [if_neg (by omega), if_neg (by omega), if_pos h2]
  · rw [high_last _ (by omega) (by omega)]; omega
theorem encode_four {r : Nat} (h : 65536 ≤ r) (hv : Utf8.valid r = true) : ∃ a b c d : UInt8, Utf8.encode r = ⟨#[a, b, c, d]⟩ := by
  refine ⟨UInt8.ofNat (0xF0 + r / 262144), UInt8.ofNat (0x80 + r / 4096 % 64), UInt8.ofNat (0x80 + r / 64 % 64), UInt8.ofNat (0x80 + r % 64), ?_⟩
  unfold Utf8.encode
  rw [if_pos hv]
  simp only [Int.toNat_natCast]
  rw [if_neg (by omega), if_neg (by omega), if_neg (by omega)]
set_option maxHeartbeats 4000000 in
set_option maxRecDepth 100000 in
theorem rune_four (r : Int) (a b c d : UInt8) (he : Utf8.encode r = ⟨#[a, b, c, d]⟩) (hlv : Lib.validRune r = true) (h0 : 0 ≤ r) (h1 : decide (r < 128) = false) (h2 : (r == 65533) = false) (w : World) : Calls Tryd.prog 78 #[.string { data := #[0, 10, 61] }, .int .i32 r] w fun e w' => e = .returned (.int .i64 (-1)) ∧ Below w.heap.size w w' := by
  go_enter Tryd.func78, Tryd.ntmps78
  go_wp2_with fail
  refine (Tryd.utf8_ValidRune _ _).mono ?_
  rw [hlv]
  rintro e w' ⟨rfl, hw⟩
  rw [hw]
  go_wp2_with fail
  go_step3
  go_wp2_with fail
  go_loop [9] (fun y => y = .int .i64 3) (fun _ => 0)
  case atStart => exact rfl
  case round =>
    obtain rfl := hrel
    go_wp2_with fail
    try rw [Exit.noGoto_ret]
    go_ret
    exact ⟨rfl, Below.refl _ _⟩
theorem index_high : ∀ (l : List UInt8) (b : UInt8), 128 ≤ b.toNat → (∀ x ∈ l, x.toNat < 128) → Lib.indexByte l b = -1
  | [], b, _, _ => rfl
  | x :: l, b, hb, hl => by
    have h1 := hl x (List.mem_cons_self ..)
    have h2 := index_high l b hb (fun y hy => hl y (List.mem_cons_of_mem _ hy))
    unfold Lib.indexByte
    rw [if_neg (fun e => by rw [eq_of_beq e] at h1; omega), h2]
    rfl
set_option maxHeartbeats 4000000 in
set_option maxRecDepth 100000 in
theorem rune_two (r : Int) (a b : UInt8) (he : Utf8.encode r = ⟨#[a, b]⟩) (hb : 128 ≤ b.toNat) (hlv : Lib.validRune r = true) (h0 : 0 ≤ r) (h1 : decide (r < 128) = false) (h2 : (r == 65533) = false) (w : World) : Calls Tryd.prog 78 #[.string { data := #[0, 10, 61] }, .int .i32 r] w fun e w' => e = .returned (.int .i64 (-1)) ∧ Below w.heap.size w w' := by
  go_enter Tryd.func78, Tryd.ntmps78
  go_wp2_with fail
  refine (Tryd.utf8_ValidRune _ _).mono ?_
  rw [hlv]
  rintro e w' ⟨rfl, hw⟩
  rw [hw]
  clear hw hlv
  go_wp2_with fail
  go_step3
  go_wp2_with fail
  go_loop [9] (fun y => y = .int .i64 1) (fun _ => 0)
  case atStart => exact rfl
  case round =>
    obtain rfl := hrel
    have hne : ((({ data := #[0, 10, 61] } : ByteArray)[1].toNat : Int) != (({ data := #[a, b] } : ByteArray)[1]'(show 1 < 2 by decide) |>.toNat : Int)) = true := by
      rw [bne_iff_ne]
      show ((10 : UInt8).toNat : Int) ≠ (b.toNat : Int)
      have : (10 : UInt8).toNat = 10 := rfl
      omega
    have hix : Lib.indexByte [61] (({ data := #[a, b] } : ByteArray)[1]'(show 1 < 2 by decide)) = -1 := index_high [61] b hb (by decide)
    go_wp2_with fail
    go_step3
    go_wp2_with fail
    go_region
    all_goals
      go_wp2_with fail
      go_region_with (go_at_call 43; refine (Tryd.strings_IndexByte _ _ _).mono ?_; rintro e w' ⟨rfl, hw⟩; rw [hw])
    all_goals
      go_wp2_with fail
      rw [Exit.noGoto_ret]
      go_wp2_with fail
      try rw [Exit.noGoto_ret]
      go_ret
      exact ⟨rfl, below_drew (below_drew (Below.refl _ _))⟩
set_option maxHeartbeats 4000000 in
set_option maxRecDepth 100000 in
theorem rune_three (r : Int) (a b c : UInt8) (he : Utf8.encode r = ⟨#[a, b, c]⟩) (hb : 128 ≤ c.toNat) (hlv : Lib.validRune r = true) (h0 : 0 ≤ r) (h1 : decide (r < 128) = false) (h2 : (r == 65533) = false) (w : World) : Calls Tryd.prog 78 #[.string { data := #[0, 10, 61] }, .int .i32 r] w fun e w' => e = .returned (.int .i64 (-1)) ∧ Below w.heap.size w w' := by
  go_enter Tryd.func78, Tryd.ntmps78
  go_wp2_with fail
  refine (Tryd.utf8_ValidRune _ _).mono ?_
  rw [hlv]
  rintro e w' ⟨rfl, hw⟩
  rw [hw]
  clear hw hlv
  go_wp2_with fail
  go_step3
  go_wp2_with fail
  go_loop [9] (fun y => y = .int .i64 2) (fun _ => 0)
  case atStart => exact rfl
  case round =>
    obtain rfl := hrel
    have hne : ((({ data := #[0, 10, 61] } : ByteArray)[2].toNat : Int) != (({ data := #[a, b, c] } : ByteArray)[2]'(show 2 < 3 by decide) |>.toNat : Int)) = true := by
      rw [bne_iff_ne]
      show ((61 : UInt8).toNat : Int) ≠ (c.toNat : Int)
      have : (61 : UInt8).toNat = 61 := rfl
      omega
    have hix : Lib.indexByte [] (({ data := #[a, b, c] } : ByteArray)[2]'(show 2 < 3 by decide)) = -1 := index_high [] c hb (by decide)
    go_wp2_with fail
    go_step3
    go_wp2_with fail
    go_region
    all_goals
      go_wp2_with fail
      go_region_with (go_at_call 43; refine (Tryd.strings_IndexByte _ _ _).mono ?_; rintro e w' ⟨rfl, hw⟩; rw [hw])
    all_goals
      go_wp2_with fail
      rw [Exit.noGoto_ret]
      go_wp2_with fail
      try rw [Exit.noGoto_ret]
      go_ret
      exact ⟨rfl, below_drew (below_drew (Below.refl _ _))⟩
theorem rune_none (r : Int) (h : 128 ≤ r) (hv : Utf8.valid r = true) (w : World) : Calls Tryd.prog 78 #[.string { data := #[0, 10, 61] }, .int .i32 r] w fun e w' => e = .returned (.int .i64 (-1)) ∧ Below w.heap.size w w' := by
  have hb : (r < 55296 ∨ 57344 ≤ r) ∧ r ≤ 1114111 := by
    unfold Utf8.valid at hv
    simp at hv
    omega
  have hlv : Lib.validRune r = true := by unfold Lib.validRune; simp; omega
  by_cases he : r = 65533
  · subst he
    exact rune_err w
  · have h1 : decide (r < 128) = false := decide_eq_false (by omega)
    have h2 : (r == 65533) = false := beq_eq_false_iff_ne.2 he
    obtain ⟨n, rfl⟩ : ∃ n : Nat, r = n := ⟨r.toNat, by omega⟩
    by_cases c2 : n < 2048
    · obtain ⟨a, b, h3, h4⟩ := encode_two (r := n) (by omega) c2
      exact rune_two _ a b h3 h4 hlv (by omega) h1 h2 w
    · by_cases c3 : n < 65536
      · obtain ⟨a, b, c, h3, h4⟩ := encode_three (r := n) (by omega) c3 hv
        exact rune_three _ a b c h3 h4 hlv (by omega) h1 h2 w
      · obtain ⟨a, b, c, d, h3⟩ := encode_four (r := n) (by omega) hv
        exact rune_four _ a b c d h3 hlv (by omega) h1 h2 w
theorem decode_far (s : ByteArray) (i : Nat) (hi : i < s.data.toList.length) (h : 128 ≤ (s.data.toList.getD i 0).toNat) :
    128 ≤ (Utf8.decode s i).1 ∧ Utf8.valid (Utf8.decode s i).1 = true ∧ 1 ≤ (Utf8.decode s i).2 ∧ i + (Utf8.decode s i).2 ≤ s.data.toList.length ∧ ∀ j, i ≤ j → j < i + (Utf8.decode s i).2 → 128 ≤ (s.data.toList.getD j 0).toNat := by
  rw [Lib.decode_N]
  have h1 : (s.data.toList.getD i 0).toNat < 256 := (s.data.toList.getD i 0).toNat_lt
  generalize hl : s.data.toList = l at *
  clear hl
  generalize h0 : (l.getD i 0).toNat = b0 at *
  generalize e1 : (l.getD (i + 1) 0).toNat = b1
  generalize e2 : (l.getD (i + 2) 0).toNat = b2
  generalize e3 : (l.getD (i + 3) 0).toNat = b3
  unfold Lib.decodeN Utf8.valid
  rw [if_neg (by omega)]
  split
  · rename_i hc
    split
    · refine ⟨by simp only; omega, by simp; omega, by simp, by simp only; omega, fun j hj hj2 => ?_⟩
      simp only at hj2
      have hd : j = i ∨ j = i + 1 := by omega
      rcases hd with rfl | rfl <;> omega
    · exact ⟨by simp, by simp, by simp, by simp only; omega, fun j hj hj2 => by simp only at hj2; have e : j = i := (by omega); subst e; omega⟩
  · split
    · rename_i hc
      split
      · refine ⟨by simp only; omega, by simp; omega, by simp, by simp only; omega, fun j hj hj2 => ?_⟩
        simp only at hj2
        have hd : j = i ∨ j = i + 1 ∨ j = i + 2 := by omega
        rcases hd with rfl | rfl | rfl <;> omega
      · exact ⟨by simp, by simp, by simp, by simp only; omega, fun j hj hj2 => by simp only at hj2; have e : j = i := (by omega); subst e; omega⟩
    · split
      · rename_i hc
        split
        · refine ⟨by simp only; omega, by simp; omega, by simp, by simp only; omega, fun j hj hj2 => ?_⟩
          simp only at hj2
          have hd : j = i ∨ j = i + 1 ∨ j = i + 2 ∨ j = i + 3 := by omega
          rcases hd with rfl | rfl | rfl | rfl <;> omega
        · exact ⟨by simp, by simp, by simp, by simp only; omega, fun j hj hj2 => by simp only at hj2; have e : j = i := (by omega); subst e; omega⟩
      · exact ⟨by simp, by simp, by simp, by simp only; omega, fun j hj hj2 => by simp only at hj2; have e : j = i := (by omega); subst e; omega⟩
def badK (l : List UInt8) : Bool := l.any fun c => c == 0 || (c == 10 || c == 61)
theorem c3_index (c : UInt8) : decide (0 ≤ Lib.indexByte C3.data.toList c) = (c == 0 || (c == 10 || c == 61)) := by
  rw [← Lib.contains_iff_indexByte]
  show [(0 : UInt8), 10, 61].contains c = _
  simp only [List.contains_cons, List.contains_nil, Bool.or_false]
theorem bad_far {c : UInt8} (h : 128 ≤ c.toNat) : (c == 0 || (c == 10 || c == 61)) = false := by
  have h0 : c ≠ 0 := fun e => by rw [e] at h; exact absurd h (by decide)
  have h1 : c ≠ 10 := fun e => by rw [e] at h; exact absurd h (by decide)
  have h2 : c ≠ 61 := fun e => by rw [e] at h; exact absurd h (by decide)
  simp [h0, h1, h2]
theorem bad_take {l : List UInt8} {i n : Nat} (h : badK (l.take i) = false) (hn : ∀ j, i ≤ j → j < i + n → j < l.length → (l.getD j 0 == 0 || (l.getD j 0 == 10 || l.getD j 0 == 61)) = false) : badK (l.take (i + n)) = false := by
  unfold badK at *
  rw [List.any_eq_false] at *
  intro x hx
  obtain ⟨j, hj, hxj⟩ := List.getElem_of_mem hx
  rw [List.getElem_take] at hxj
  rw [List.length_take] at hj
  by_cases hji : j < i
  · exact h x (by rw [← hxj]; exact List.mem_iff_getElem.2 ⟨j, by rw [List.length_take]; omega, by rw [List.getElem_take]⟩)
  · have := hn j (by omega) (by omega) (by omega)
    rw [List.getD_eq_getElem?_getD, List.getElem?_eq_getElem (by omega), Option.getD_some, hxj] at this
    rw [this]
    exact Bool.false_ne_true
def EndsA (w : World) (s : ByteArray) (e : Ending) (w' : World) : Prop := (∃ i : Int, e = .returned (.int .i64 i) ∧ decide (0 ≤ i) = badK s.data.toList) ∧ Below w.heap.size w w'
set_option maxHeartbeats 8000000 in
set_option maxRecDepth 1000000 in
theorem any_short (s : ByteArray) (h8 : s.size ≤ 8) (w : World) : Calls Tryd.prog 69 #[.string s, .string { data := #[0, 10, 61] }] w (EndsA w s) := by
  have h8z : decide ((8 : Int) < (s.size : Int)) = false := decide_eq_false (by omega)
  have hsl : s.data.toList.length = s.size := (Lib.size_eq s).symm
  have HSL := Aside0.mk hsl
  clear hsl
  go_enter Tryd.func69, Tryd.ntmps69
  go_wp2_with fail
  refine (Tryd.strings_shouldUseASCIISet _ _).mono ?_
  rintro e w' ⟨rfl, hw⟩
  rw [hw, h8z]
  clear hw
  go_wp2_with fail
  go_loopg [9, 10] s.size (fun g _ _ wx => ∃ i : Nat, i ≤ s.size ∧ s.size ≤ i + g ∧ Aside0 (wx.heap[w.heap.size]? = some (.stringIter s i)) ∧ Aside0 (Below w.heap.size w wx) ∧ Aside0 (badK (s.data.toList.take i) = false))
  case atStart => exact ⟨0, Nat.zero_le _, by omega, ⟨World.iter_heap w s 0⟩, ⟨below_iter w s 0⟩, ⟨rfl⟩⟩
  case round =>
    rename World => wr
    obtain ⟨i, hi, hig, HI, HB, HN⟩ := hrel
    by_cases hlt : i < s.size
    · cases gk with
      | zero => omega
      | succ g =>
      obtain ⟨x, hx⟩ : ∃ x : UInt8, s[i]'hlt = x := ⟨_, rfl⟩
      have hxl : s.data.toList[i]? = some x := by rw [← hx]; exact Lib.data_getElem? s i hlt
      have hxd : s.data.toList.getD i 0 = x := by rw [List.getD_eq_getElem?_getD, hxl]; rfl
      have hil := hlt
      rw [← HSL.out] at hil
      by_cases h128 : x.toNat < 128
      · have hnx := fun ty => Lib.run_next_ascii_at (P := Tryd.prog) wr w.heap.size s i ty HI.out hlt (by rw [hx]; exact h128)
        rw [hx] at hnx
        have HI2 := Aside0.mk (Lib.iterAt_heap wr w.heap.size s i (i + 1) HI.out)
        have HB2 := Aside0.mk (Lib.below_iterAt HB.out (Nat.le_refl w.heap.size) s (i + 1))
        have hcon := c3_index x
        have hback : ((x.toNat : Int)).toNat.toUInt8 = x := by simp
        have HX := Aside0.mk hxd
        have HXL := Aside0.mk hxl
        clear hx hxl hxd
        cases hbx : (x == 0 || (x == 10 || x == 61)) with
        | true =>
          have HBD : Aside0 (badK s.data.toList = true) := ⟨by
            unfold badK
            rw [List.any_eq_true]
            exact ⟨x, List.mem_of_getElem? HXL.out, hbx⟩⟩
          rw [hbx] at hcon
          have hge : (0 : Int) ≤ Lib.indexByte C3.data.toList x := of_decide_eq_true hcon
          clear hcon hbx
          go_wp2_with (go_at_call 78; refine (Tryd.strings_IndexRune_ascii _ _ _ (by omega) (by omega)).mono ?_; rintro e w' ⟨rfl, hw⟩; rw [hw, hback])
          go_ret
          exact ⟨⟨i, rfl, by rw [HBD.out]; exact decide_eq_true (by omega)⟩, HB2.out⟩
        | false =>
          have HN2 : Aside0 (badK (s.data.toList.take (i + 1)) = false) := ⟨bad_take HN.out (fun j h1 h2 h3 => by
            have e : j = i := by omega
            subst e
            rw [HX.out]; exact hbx)⟩
          rw [hbx] at hcon
          have hge : ¬ ((0 : Int) ≤ Lib.indexByte C3.data.toList x) := of_decide_eq_false hcon
          clear hcon hbx
          go_wp2_with (go_at_call 78; refine (Tryd.strings_IndexRune_ascii _ _ _ (by omega) (by omega)).mono ?_; rintro e w' ⟨rfl, hw⟩; rw [hw, hback])
          go_roundg g
          case measure => omega
          case rel => exact ⟨i + 1, by omega, by omega, HI2, HB2, HN2⟩
      · obtain ⟨r1, r2, r3, r4, r5⟩ := decode_far s i hil (by rw [hxd]; omega)
        have hnx := fun ty => Lib.run_next_any_at (P := Tryd.prog) wr w.heap.size s i ty HI.out hlt
        obtain ⟨r, hr⟩ : ∃ r : Int, ((Utf8.decode s i).1 : Int) = r := ⟨_, rfl⟩
        obtain ⟨n, hn⟩ : ∃ n, (Utf8.decode s i).2 = n := ⟨_, rfl⟩
        rw [hr] at r2 hnx
        rw [hn] at r3 r4 r5 hnx
        have hr1 : 128 ≤ r := by omega
        have HI2 := Aside0.mk (Lib.iterAt_heap wr w.heap.size s i (i + n) HI.out)
        have HB2 := Aside0.mk (Lib.below_iterAt HB.out (Nat.le_refl w.heap.size) s (i + n))
        have HN2 : Aside0 (badK (s.data.toList.take (i + n)) = false) := ⟨bad_take HN.out (fun j h1 h2 h3 => bad_far (r5 j h1 h2))⟩
        have HR2 := Aside0.mk r2
        have hkl : w.heap.size < wr.heap.size := by
          have := HI.out
          exact blk_lt this
        have hsz : (wr.iterAt w.heap.size s (i + n)).heap.size = wr.heap.size := Lib.iterAt_size _ _ _ _
        have hin : i + n ≤ s.size := by have := HSL.out; omega
        clear hx hxl hxd r1 r2 r5 hr hn
        go_wp2_with fail
        refine (rune_none r hr1 HR2.out _).mono ?_
        rintro e w5 ⟨rfl, hb5⟩
        have HB5 := Aside0.mk (below_step HB2.out hb5)
        have HI5 : Aside0 (w5.heap[w.heap.size]? = some (.stringIter s (i + n))) := ⟨(hb5.block _ (by rw [hsz]; exact hkl)).trans HI2.out⟩
        clear hb5
        go_wp2_with fail
        go_roundg g
        case measure => omega
        case rel => exact ⟨i + n, hin, by omega, HI5, HB5, HN2⟩
    · have hnx := fun ty => Lib.run_next_end_at (P := Tryd.prog) wr w.heap.size s i ty HI.out hlt
      have HE : Aside0 (badK s.data.toList = false) := ⟨by
        have := HN.out
        rwa [List.take_of_length_le (by rw [HSL.out]; omega)] at this⟩
      go_wp2_with fail
      go_ret
      exact ⟨⟨-1, rfl, by rw [HE.out]; rfl⟩, HB.out⟩
theorem info130 : (Tryd.prog.info? 130).map (fun i => (i.zero, i.size)) = some (some (.agg (Array.replicate 256 (.bool false))), 256) := by kernel_rfl
theorem zero130 (w : World) : (zeroValue 130).run Tryd.prog w = .ok (.agg (Array.replicate 256 (.bool false))) w := by
  obtain ⟨i, hi, hz⟩ := Option.map_eq_some_iff.1 info130
  simp only [Prod.mk.injEq] at hz
  simp [zeroValue, typeInfo, hi, hz.1]
theorem c3_ascii : ∀ (j : Nat) b, C3.data.toList[j]? = some b → b.toNat < 128 := by
  intro j b h
  have hm : b ∈ ([0, 10, 61] : List UInt8) := List.mem_of_getElem? h
  simp at hm
  rcases hm with rfl | rfl | rfl <;> decide
theorem index_bad : ∀ l : List UInt8, decide (0 ≤ Lib.indexAny l C3.data.toList) = badK l
  | [] => rfl
  | x :: l => by
    have ih := index_bad l
    have hc : C3.data.toList.contains x = (x == 0 || (x == 10 || x == 61)) := by rw [Lib.contains_iff_indexByte]; exact c3_index x
    have hg := Lib.indexAny_ge C3.data.toList l
    unfold Lib.indexAny badK
    rw [List.any_cons, hc]
    cases hb : (x == 0 || (x == 10 || x == 61)) with
    | true => simp
    | false =>
      rw [if_neg (by simp), Bool.false_or]
      rw [show (l.any fun c => c == 0 || (c == 10 || c == 61)) = badK l from rfl, ← ih]
      by_cases h : Lib.indexAny l C3.data.toList = -1
      · rw [h]; rfl
      · rw [if_neg (by simpa using h)]
        rw [decide_eq_true (by omega), decide_eq_true (by omega)]
theorem any_long (s : ByteArray) (h8 : 8 < s.size) (hs : s.size < 4294967281) (w : World) : Calls Tryd.prog 69 #[.string s, .string { data := #[0, 10, 61] }] w (EndsA w s) := by
  refine (Tryd.strings_IndexAny_long zero130 s C3 w (by decide) h8 hs (by decide) c3_ascii).mono ?_
  rintro e w' ⟨he, hw⟩
  refine ⟨⟨_, he, ?_⟩, ?_⟩
  · exact index_bad _
  · rw [hw]
    exact below_alloc (below_alloc (Below.refl _ _) _) _
set_option maxHeartbeats 1000000 in
theorem contains_any (s : ByteArray) (hs : s.size < 4294967281) (w : World) : Calls Tryd.prog 61 #[.string s, .string { data := #[0, 10, 61] }] w fun e w' => e = .returned (.bool (badK s.data.toList)) ∧ Below w.heap.size w w' := by
  have hc : Calls Tryd.prog 69 #[.string s, .string { data := #[0, 10, 61] }] w (EndsA w s) := by
    by_cases h8 : 8 < s.size
    · exact any_long s h8 hs w
    · exact any_short s (by omega) w
  have HC := Aside0.mk hc
  clear hc
  go_enter Tryd.func61, Tryd.ntmps61
  go_wp2_with fail
  refine HC.out.mono ?_
  rintro e w' ⟨⟨i, rfl, hi⟩, hb⟩
  have HI := Aside0.mk hi
  have HB := Aside0.mk hb
  clear hi hb
  go_wp2_with fail
  go_ret
  exact ⟨by rw [← HI.out]; rfl, HB.out⟩
def fitN (k v : ByteArray) : Int := if k.size = 0 ∨ 32 < k.size ∨ badK k.data.toList = true then 91 else if 1024 < v.size then 2 else 0
set_option maxHeartbeats 2000000 in
theorem fits_any (k v : ByteArray) (w : World) : Calls Tryd.prog 53 #[.agg #[.string k, .string v]] w fun e w' => e = .returned (.int .i64 (fitN k v)) ∧ Below w.heap.size w w' := by
  have HB0 := Aside0.mk (below_alloc (Below.refl w.heap.size w) (.cells #[.string k, .string v] 33))
  obtain ⟨f, hf⟩ : ∃ f, fitN k v = f := ⟨_, rfl⟩
  rw [hf]
  have HF := Aside0.mk hf
  clear hf
  by_cases h0 : k.size = 0
  · have hk : k = { data := #[] } := by
      rcases k with ⟨⟨l⟩⟩
      have : l.length = 0 := h0
      rw [List.length_eq_zero_iff.1 this]
    subst hk
    have HX : Aside0 (f = 91) := ⟨by rw [← HF.out, fitN, if_pos (.inl rfl)]⟩
    go_enter Tryd.func53, Tryd.ntmps53
    go_wp2_with fail
    go_ret
    exact ⟨by rw [HX.out]; rfl, HB0.out⟩
  · have hemp : k.toList.isEmpty = false := by
      rw [Lib.toList_data]
      cases h : k.data.toList with
      | nil => have := Lib.size_eq k; rw [h, List.length_nil] at this; omega
      | cons _ _ => rfl
    by_cases h1 : 32 < k.size
    · have HX : Aside0 (f = 91) := ⟨by rw [← HF.out, fitN, if_pos (.inr (.inl h1))]⟩
      go_enter Tryd.func53, Tryd.ntmps53
      go_wp2_with fail
      go_ret
      exact ⟨by rw [HX.out]; rfl, HB0.out⟩
    · have HC := Aside0.mk (fun w => contains_any k (by omega) w)
      have hx := Blk.new w #[.string k, .string v] 33
      obtain ⟨b, hb⟩ : ∃ b, badK k.data.toList = b := ⟨_, rfl⟩
      rw [hb] at HC
      cases b with
      | true =>
        have HX : Aside0 (f = 91) := ⟨by rw [← HF.out, fitN, if_pos (.inr (.inr hb))]⟩
        clear hb hx
        go_enter Tryd.func53, Tryd.ntmps53
        go_wp2_with fail
        refine (HC.out _).mono ?_
        rintro e w2 ⟨rfl, hb⟩
        have HB2 := Aside0.mk (below_step HB0.out hb)
        clear hb
        go_wp2_with fail
        go_ret
        exact ⟨by rw [HX.out]; rfl, HB2.out⟩
      | false =>
        have hnot : ¬ (k.size = 0 ∨ 32 < k.size ∨ badK k.data.toList = true) := fun h => h.elim h0 (fun h => h.elim h1 (fun e => by rw [hb] at e; cases e))
        have HX : Aside0 (f = if 1024 < v.size then 2 else 0) := ⟨by rw [← HF.out, fitN, if_neg hnot]⟩
        have HXB := Aside0.mk hx
        clear hb hx hnot
        by_cases h2 : 1024 < v.size
        all_goals
          go_enter Tryd.func53, Tryd.ntmps53
          go_wp2_with fail
          refine (HC.out _).mono ?_
          rintro e w2 ⟨rfl, hb⟩
          have HB2 := Aside0.mk (below_step HB0.out hb)
          have hx2 : Blk w2 w.heap.size #[.string k, .string v] 33 := (hb.block _ HXB.out.lt).trans HXB.out
          have hl2 := hx2.lt
          have hx20 : World.cell? w2 ⟨w.heap.size, 0, none⟩ = some (.string k) := Blk.cell hx2 0
          have hx21 : World.cell? w2 ⟨w.heap.size, 1, none⟩ = some (.string v) := Blk.cell hx2 1
          clear hb hx2
          go_wp2_with fail
          go_ret
          exact ⟨by rw [HX.out]; first | (rw [if_pos h2]; rfl) | (rw [if_neg h2]; rfl), HB2.out⟩
end Go.Proofs.YtopehfjohifpnaaDoor.Mine
end
section
set_option linter.unusedSimpArgs false
set_option linter.unusedVariables false
namespace Go.Proofs.YtopehfjohifpnaaDoor.Mine
open Go.RowKit Go.Maps Go.Proofs.YtopehfjohifpnaaDoorW.PrintWords Go.Proofs.YtopehfjohifpnaaDoorW.PrintLast Go.Proofs.YtopehfjohifpnaaDoorW.PrintMore Go.Proofs.YtopehfjohifpnaaDoor.Turn Go.Proofs.YtopehfjohifpnaaDoor.Doc
theorem size_of (l : List UInt8) : (⟨l.toArray⟩ : ByteArray).size = l.length := List.size_toArray
def Tab (w : World) : Prop := Lib.TabIs Tryd.prog w "internal/strconv.uint64pow10" .u64 Lib.pow10Tab
theorem Tab.below {w w' : World} (h : Tab w) (hb : Below w.heap.size w w') : Tab w' := Lib.tabBelow_of_tabIs h w' hb
def SizeIs (n d : Nat) : Prop := 1 ≤ d ∧ d ≤ 19 ∧ Lib.nDigits (n + d) = d ∧ ∀ k, 1 ≤ k → k < d → Lib.nDigits (n + k) ≠ k
theorem nDigits_lt : ∀ (k n : Nat), 1 ≤ k → (Lib.nDigits n ≤ k ↔ n < 10 ^ k)
  | 0, n, h => by omega
  | k + 1, n, _ => by
    unfold Lib.nDigits
    by_cases h : n < 10
    · rw [dif_pos h]
      refine ⟨fun _ => ?_, fun _ => by omega⟩
      have := Nat.pow_le_pow_right (n := 10) (by omega) (show 1 ≤ k + 1 by omega)
      omega
    · rw [dif_neg h]
      cases k with
      | zero =>
        have h1 : 1 ≤ Lib.nDigits (n / 10) := by unfold Lib.nDigits; split <;> omega
        refine ⟨fun h2 => by omega, fun h2 => by simp at h2; omega⟩
      | succ k =>
        have ih := nDigits_lt (k + 1) (n / 10) (by omega)
        rw [Nat.pow_succ]
        constructor
        · intro h2
          have := ih.1 (by omega)
          omega
        · intro h2
          have := ih.2 (by omega)
          omega
theorem nDigits_pos (n : Nat) : 1 ≤ Lib.nDigits n := by unfold Lib.nDigits; split <;> omega
theorem size_ex (n : Nat) (h : n < 100000000000000000) : ∃ d, SizeIs n d := by
  have hex : ∃ d, 1 ≤ d ∧ d ≤ 19 ∧ Lib.nDigits (n + d) = d := by
    obtain ⟨D, hD⟩ : ∃ D, Lib.nDigits n = D := ⟨_, rfl⟩
    have h1 : 1 ≤ D := by rw [← hD]; exact nDigits_pos n
    have h17 : D ≤ 17 := by rw [← hD]; exact (nDigits_lt 17 n (by omega)).2 (by omega)
    have hlt : n < 10 ^ D := (nDigits_lt D n h1).1 (by omega)
    have hge : ∀ m, n ≤ m → D ≤ Lib.nDigits m := fun m hm => by
      rcases Nat.lt_or_ge 1 D with h2 | h2
      · by_cases h3 : Lib.nDigits m ≤ D - 1
        · have := (nDigits_lt (D - 1) m (by omega)).1 h3
          have := (nDigits_lt (D - 1) n (by omega)).2 (by omega)
          omega
        · omega
      · have := nDigits_pos m; omega
    have hp : D + 1 ≤ 9 * 10 ^ D := by
      have : ∀ k, k + 1 ≤ 9 * 10 ^ k := by
        intro k
        induction k with
        | zero => decide
        | succ k ih => rw [Nat.pow_succ]; omega
      exact this D
    have hup : Lib.nDigits (n + D + 1) ≤ D + 1 := (nDigits_lt (D + 1) _ (by omega)).2 (by rw [Nat.pow_succ]; omega)
    have hup0 : Lib.nDigits (n + D) ≤ D + 1 := (nDigits_lt (D + 1) _ (by omega)).2 (by rw [Nat.pow_succ]; omega)
    by_cases he : Lib.nDigits (n + D) = D
    · exact ⟨D, h1, by omega, he⟩
    · refine ⟨D + 1, by omega, by omega, ?_⟩
      have hg0 := hge (n + D) (by omega)
      have h3 : ¬ n + D < 10 ^ D := fun h4 => by have := (nDigits_lt D _ h1).2 h4; omega
      have h5 : ¬ Lib.nDigits (n + (D + 1)) ≤ D := fun h4 => by have := (nDigits_lt D _ h1).1 h4; omega
      have : n + (D + 1) = n + D + 1 := by omega
      rw [this] at h5 ⊢
      omega
  obtain ⟨d, hd⟩ := hex
  induction d using Nat.strongRecOn with
  | _ d ih =>
    by_cases hm : ∃ k, 1 ≤ k ∧ k < d ∧ Lib.nDigits (n + k) = k
    · obtain ⟨k, h1, h2, h3⟩ := hm
      exact ih k h2 ⟨h1, by omega, h3⟩
    · exact ⟨d, hd.1, hd.2.1, hd.2.2, fun k h1 h2 h3 => hm ⟨k, h1, h2, h3⟩⟩
set_option maxHeartbeats 2000000 in
set_option maxRecDepth 100000 in
theorem size_any (k v : ByteArray) (hk : k.size ≤ 140737488351232) (hv : v.size ≤ 140737488351240) {d : Nat} (hd : SizeIs (3 + k.size + v.size) d) (w : World) (ht : Tab w) :
    Calls Tryd.prog 63 #[.agg #[.string k, .string v]] w fun e w' => e = .returned (.int .i64 (3 + (k.size : Int) + (v.size : Int) + (d : Int))) ∧ Below w.heap.size w w' := by
  have HB0 := Aside0.mk (below_alloc (Below.refl w.heap.size w) (.cells #[.string k, .string v] 33))
  have HT := Aside0.mk ht
  have HD := Aside0.mk hd
  have hd1 := hd.1
  have hd2 := hd.2.1
  clear ht hd
  go_enter Tryd.func63, Tryd.ntmps63
  go_wp2_with fail
  go_loopw [4] (fun i wr => ∃ j : Nat, 1 ≤ j ∧ j ≤ d ∧ i = .int .i64 j ∧ Aside0 (Below w.heap.size w wr) ∧ Aside0 (Tab wr)) (fun i _ => d - (intOf i).toNat)
  case atStart => exact ⟨1, by omega, by omega, rfl, HB0, ⟨HT.out.below HB0.out⟩⟩
  case round =>
    obtain ⟨j, hj1, hj, rfl, HB, HTR⟩ := hrel
    have hlen : (Lib.itoa (3 + (k.size : Int) + (v.size : Int) + (j : Int))).length = Lib.nDigits (3 + k.size + v.size + j) := by
      rw [show (3 + (k.size : Int) + (v.size : Int) + (j : Int)) = ((3 + k.size + v.size + j : Nat) : Int) by omega, Lib.itoa_nonneg, Lib.decDigits_length]
    have HLEN := Aside0.mk hlen
    clear hlen
    go_wp2_with fail
    refine (Tryd.strconv_Itoa _ (by omega) (by omega) _ HTR.out).mono ?_
    rintro e w2 ⟨rfl, k2, os, hw⟩
    have hb2 : Below wr.heap.size wr w2 := by rw [hw]; exact Lib.below_grow _ _ (Nat.le_refl _) _ _
    have HB2 := Aside0.mk (below_step HB.out hb2)
    have HT2 := Aside0.mk (HTR.out.below hb2)
    obtain ⟨s, hs⟩ : ∃ s : ByteArray, { data := (Lib.itoa (3 + (k.size : Int) + (v.size : Int) + (j : Int))).toArray } = s := ⟨_, rfl⟩
    have HS : Aside0 (s.size = Lib.nDigits (3 + k.size + v.size + j)) := ⟨by rw [← hs, ← HLEN.out]; exact size_of _⟩
    rw [hs]
    clear hw hb2 hs HLEN
    by_cases hx : s.size = j
    · have hjd : j = d := by
        have := HD.out.2.2.2 j hj1
        by_cases e : j < d
        · exact absurd (HS.out.symm.trans hx) (this e)
        · omega
      have hne : ((s.size : Int) != (j : Int)) = false := by simp [hx]
      have HJ := Aside0.mk hjd
      clear hjd hx
      go_wp2_with fail
      go_ret
      exact ⟨by rw [← HJ.out]; rfl, HB2.out⟩
    · have hjd : j ≠ d := fun e => hx (by rw [HS.out, e]; exact HD.out.2.2.1)
      have hne : ((s.size : Int) != (j : Int)) = true := by rw [bne_iff_ne]; omega
      have HJ := Aside0.mk hjd
      clear hjd hx
      go_wp2_with fail
      go_roundw
      case rel => exact ⟨j + 1, by omega, by have := HJ.out; omega, by go_num, HB2, HT2⟩
      case measure => have := HJ.out; simp [intOf]; omega
def Own (w : World) (B : Nat) (v : Value) (l : List Int) : Prop := w.ownsRow B 5 1 v l.length (nums .u8 l)
theorem Own.nil (w : World) (B : Nat) : Own w B (.slice none 0 0) [] := own_nil _ _ _ _
theorem Own.below {w w' : World} {B : Nat} {v : Value} {l : List Int} (h : Own w B v l) (hb : Below w.heap.size w w') : Own w' B v l := pw_own_below h hb
theorem Own.type_ne {w : World} {B b t : Nat} {v : Value} {l : List Int} {cs : Array Value} (h : Own w B v l) (hx : Blk w b cs t) (ht : t ≠ 5) : some b ≠ v.ownBlock := fun e => by
  obtain ⟨cells, hc⟩ := own_typed h b e.symm
  have := hx.symm.trans hc
  simp only [Option.some.injEq, Obj.cells.injEq] at this
  exact ht this.2.1
def TabB (B : Nat) (w : World) : Prop := Lib.TabBelow Tryd.prog B w "internal/strconv.uint64pow10" .u64 Lib.pow10Tab
theorem Tab.b {w : World} (h : Tab w) : TabB w.heap.size w := Lib.tabBelow_of_tabIs h
theorem TabB.on {B : Nat} {w w' : World} (h : TabB B w) (hb : Below B w w') : TabB B w' := Lib.TabBelow.on h hb
theorem TabB.tab {B : Nat} {w : World} (h : TabB B w) : Tab w := Lib.TabBelow.here h
def decL (n : Nat) : List Int := (Lib.decDigits n).map fun b => (b.toNat : Int)
theorem decL_length (n : Nat) : (decL n).length = Lib.nDigits n := by rw [decL, List.length_map, Lib.decDigits_length]
def recL (k v : ByteArray) (d : Nat) : List Int := decL (3 + k.size + v.size + d) ++ [32] ++ bytesOf k ++ [61] ++ bytesOf v ++ [10]
theorem recL_length {k v : ByteArray} {d : Nat} (hd : SizeIs (3 + k.size + v.size) d) : (recL k v d).length = 3 + k.size + v.size + d := by
  unfold recL
  simp only [List.length_append, List.length_cons, List.length_nil, bytesOf_length, decL_length, hd.2.2.1]
  omega
theorem nums_dec (n : Nat) : Lib.byteCells (Lib.decDigits n) = nums .u8 (decL n) := by simp [Lib.byteCells, nums, decL]
set_option maxHeartbeats 4000000 in
set_option maxRecDepth 100000 in
theorem lay_any {B : Nat} {v : Value} {l : List Int} (k val : ByteArray) (hk : k.size ≤ 140737488351232) (hv : val.size ≤ 140737488351232) (hfit : l.length + k.size + val.size + 100 ≤ 140737488355328) {d : Nat} (hd : SizeIs (3 + k.size + val.size) d) (w : World) (ht : TabB B w) (hB : B ≤ w.heap.size) (ho : Own w B v l) :
    Calls Tryd.prog 54 #[v, .agg #[.string k, .string val]] w fun e w' => ∃ v', e = .returned v' ∧ Own w' B v' (l ++ recL k val d) ∧ Below B w w' := by
  have hb0 := (below_alloc (Below.refl w.heap.size w) (.cells #[.string k, .string val] 33)).mono hB
  have HB0 := Aside0.mk hb0
  have HD := Aside0.mk hd
  have hd2 := hd.2.1
  have hx0 := Blk.new w #[.string k, .string val] 33
  have HX0 := Aside0.mk hx0
  have HT0 := Aside0.mk (ht.on hb0)
  have HO0 := Aside0.mk (ho.below (below_alloc (Below.refl _ w) (.cells #[.string k, .string val] 33)))
  have hsz0 : (w.alloc (.cells #[.string k, .string val] 33)).heap.size = w.heap.size + 1 := by simp
  have HSZ0 := Aside0.mk hsz0
  clear ho ht hb0 hx0 hsz0 hd
  go_enter Tryd.func54, Tryd.ntmps54
  go_wp2_with fail
  refine (size_any k val hk (by omega) HD.out _ HT0.out.tab).mono ?_
  rintro e w1 ⟨rfl, hb1⟩
  have hB0 : B ≤ (w.alloc (.cells #[.string k, .string val] 33)).heap.size := by rw [HSZ0.out]; omega
  have HB1 := Aside0.mk (HB0.out.trans (hb1.mono hB0))
  have HT1 := Aside0.mk (HT0.out.on (hb1.mono hB0))
  have HO1 := Aside0.mk (HO0.out.below hb1)
  have HX1 : Aside0 (Blk w1 w.heap.size #[.string k, .string val] 33) := ⟨(hb1.block _ HX0.out.lt).trans HX0.out⟩
  have hB1 : B ≤ w1.heap.size := Nat.le_trans hB0 hb1.size
  clear hb1 hB0
  go_wp2_with fail
  refine (Tryd.strconv_AppendInt_10 B l.length _ (by omega) (by omega) v (nums .u8 l) w1 HO1.out hB1 (by omega) HT1.out).mono ?_
  rintro e w2 ⟨v2, rfl, ho2, hb2, hk2⟩
  have hit : Lib.itoa (3 + (k.size : Int) + (val.size : Int) + (d : Int)) = Lib.decDigits (3 + k.size + val.size + d) := by
    rw [show (3 + (k.size : Int) + (val.size : Int) + (d : Int)) = ((3 + k.size + val.size + d : Nat) : Int) by omega, Lib.itoa_nonneg]
  rw [hit, nums_dec, ← nums_append, Lib.decDigits_length, ← decL_length, ← List.length_append] at ho2
  have HO2 : Aside0 (Own w2 B v2 (l ++ decL (3 + k.size + val.size + d))) := ⟨ho2⟩
  have HX2 : Aside0 (Blk w2 w.heap.size #[.string k, .string val] 33) := ⟨hk2 _ _ HX1.out (by simp) (fun c fz e => by cases e)⟩
  have HB2 := Aside0.mk (HB1.out.trans hb2)
  have hB2 : B ≤ w2.heap.size := Nat.le_trans hB1 hb2.size
  have hx2 := HX2.out
  have hx20 : World.cell? w2 ⟨w.heap.size, 0, none⟩ = some (.string k) := Blk.cell hx2 0
  have hx21 : World.cell? w2 ⟨w.heap.size, 1, none⟩ = some (.string val) := Blk.cell hx2 1
  have hxl2 := hx2.lt
  have HREC : Aside0 (l ++ recL k val d = l ++ decL (3 + k.size + val.size + d) ++ [32] ++ bytesOf k ++ [61] ++ bytesOf val ++ [10]) := ⟨by unfold recL; simp only [List.append_assoc]⟩
  have hl1 : (l ++ decL (3 + k.size + val.size + d)).length ≤ l.length + 20 + (0) := by
    rw [List.length_append, decL_length, HD.out.2.2.1]
    omega
  obtain ⟨L1, hL1⟩ : ∃ L1, l ++ decL (3 + k.size + val.size + d) = L1 := ⟨_, rfl⟩
  rw [hL1] at HO2 hl1 HREC
  have HL1 := Aside0.mk hl1
  clear ho2 hb2 hk2 hit hx2 hL1 hl1
  go_wp2_with (first
    | ((with_reducible refine gate_dst (N := 11) rfl ?_); at_builtin; refine print_append_num (w0 := w2) B rfl (.tmp 9) (.tmp 10) 23 5 .u8 1 rfl Tryd.underlying23 info5 (by decide) v2 L1 32 rfl rfl HO2.out (Below.refl _ _) hB2 ?hl ?_; (case hl => (have := HL1.out; omega)); intro v3 w3 ho hb hg hat; obtain ⟨L2, hL2⟩ : ∃ L2, L1 ++ [32] = L2 := ⟨_, rfl⟩; rw [hL2] at ho; have HE2 := Aside0.mk hL2; have HL2 : Aside0 (L2.length ≤ l.length + 20 + (1)) := ⟨by have := HL1.out; rw [← hL2]; simp only [List.length_append, List.length_cons, List.length_nil, bytesOf_length]; omega⟩; clear hL2; have HO3 : Aside0 (Own w3 B v3 L2) := ⟨ho⟩; have HB3 := Aside0.mk (HB2.out.trans hb); have HX3 : Aside0 (Blk w3 w.heap.size #[.string k, .string val] 33) := ⟨(hg.block _ HX2.out.lt (fun e => HO2.out.type_ne HX2.out (by decide) e)).trans HX2.out⟩; have hB3 : B ≤ w3.heap.size := Nat.le_trans hB2 hb.size; have hc30 : World.cell? w3 ⟨w.heap.size, 0, none⟩ = some (.string k) := (HX3.out.cell 0).trans rfl; have hc31 : World.cell? w3 ⟨w.heap.size, 1, none⟩ = some (.string val) := (HX3.out.cell 1).trans rfl; have hxl3 := HX3.out.lt; clear ho hb hg hat)
    | ((with_reducible refine gate_dst (N := 15) rfl ?_); at_builtin; refine print_append_str (w0 := w3) B rfl (.tmp 12) (.tmp 14) 23 9 5 rfl Tryd.underlying23 Tryd.underlying9 info5 v3 L2 k rfl rfl HO3.out (Below.refl _ _) hB3 ?hl ?_; (case hl => (have := HL2.out; omega)); intro v4 w4 ho hb hg; obtain ⟨L3, hL3⟩ : ∃ L3, L2 ++ bytesOf k = L3 := ⟨_, rfl⟩; rw [hL3] at ho; have HE3 := Aside0.mk hL3; have HL3 : Aside0 (L3.length ≤ l.length + 20 + (1 + k.size)) := ⟨by have := HL2.out; rw [← hL3]; simp only [List.length_append, List.length_cons, List.length_nil, bytesOf_length]; omega⟩; clear hL3; have HO4 : Aside0 (Own w4 B v4 L3) := ⟨ho⟩; have HB4 := Aside0.mk (HB3.out.trans hb); have HX4 : Aside0 (Blk w4 w.heap.size #[.string k, .string val] 33) := ⟨(hg.block _ HX3.out.lt (fun e => HO3.out.type_ne HX3.out (by decide) e)).trans HX3.out⟩; have hB4 : B ≤ w4.heap.size := Nat.le_trans hB3 hb.size; have hc40 : World.cell? w4 ⟨w.heap.size, 0, none⟩ = some (.string k) := (HX4.out.cell 0).trans rfl; have hc41 : World.cell? w4 ⟨w.heap.size, 1, none⟩ = some (.string val) := (HX4.out.cell 1).trans rfl; have hxl4 := HX4.out.lt; clear ho hb hg)
    | ((with_reducible refine gate_dst (N := 18) rfl ?_); at_builtin; refine print_append_num (w0 := w4) B rfl (.tmp 16) (.tmp 17) 23 5 .u8 1 rfl Tryd.underlying23 info5 (by decide) v4 L3 61 rfl rfl HO4.out (Below.refl _ _) hB4 ?hl ?_; (case hl => (have := HL3.out; omega)); intro v5 w5 ho hb hg hat; obtain ⟨L4, hL4⟩ : ∃ L4, L3 ++ [61] = L4 := ⟨_, rfl⟩; rw [hL4] at ho; have HE4 := Aside0.mk hL4; have HL4 : Aside0 (L4.length ≤ l.length + 20 + (1 + k.size + 1)) := ⟨by have := HL3.out; rw [← hL4]; simp only [List.length_append, List.length_cons, List.length_nil, bytesOf_length]; omega⟩; clear hL4; have HO5 : Aside0 (Own w5 B v5 L4) := ⟨ho⟩; have HB5 := Aside0.mk (HB4.out.trans hb); have HX5 : Aside0 (Blk w5 w.heap.size #[.string k, .string val] 33) := ⟨(hg.block _ HX4.out.lt (fun e => HO4.out.type_ne HX4.out (by decide) e)).trans HX4.out⟩; have hB5 : B ≤ w5.heap.size := Nat.le_trans hB4 hb.size; have hc50 : World.cell? w5 ⟨w.heap.size, 0, none⟩ = some (.string k) := (HX5.out.cell 0).trans rfl; have hc51 : World.cell? w5 ⟨w.heap.size, 1, none⟩ = some (.string val) := (HX5.out.cell 1).trans rfl; have hxl5 := HX5.out.lt; clear ho hb hg hat)
    | ((with_reducible refine gate_dst (N := 22) rfl ?_); at_builtin; refine print_append_str (w0 := w5) B rfl (.tmp 19) (.tmp 21) 23 9 5 rfl Tryd.underlying23 Tryd.underlying9 info5 v5 L4 val rfl rfl HO5.out (Below.refl _ _) hB5 ?hl ?_; (case hl => (have := HL4.out; omega)); intro v6 w6 ho hb hg; obtain ⟨L5, hL5⟩ : ∃ L5, L4 ++ bytesOf val = L5 := ⟨_, rfl⟩; rw [hL5] at ho; have HE5 := Aside0.mk hL5; have HL5 : Aside0 (L5.length ≤ l.length + 20 + (1 + k.size + 1 + val.size)) := ⟨by have := HL4.out; rw [← hL5]; simp only [List.length_append, List.length_cons, List.length_nil, bytesOf_length]; omega⟩; clear hL5; have HO6 : Aside0 (Own w6 B v6 L5) := ⟨ho⟩; have HB6 := Aside0.mk (HB5.out.trans hb); have HX6 : Aside0 (Blk w6 w.heap.size #[.string k, .string val] 33) := ⟨(hg.block _ HX5.out.lt (fun e => HO5.out.type_ne HX5.out (by decide) e)).trans HX5.out⟩; have hB6 : B ≤ w6.heap.size := Nat.le_trans hB5 hb.size; have hc60 : World.cell? w6 ⟨w.heap.size, 0, none⟩ = some (.string k) := (HX6.out.cell 0).trans rfl; have hc61 : World.cell? w6 ⟨w.heap.size, 1, none⟩ = some (.string val) := (HX6.out.cell 1).trans rfl; have hxl6 := HX6.out.lt; clear ho hb hg)
    | ((with_reducible refine gate_dst (N := 25) rfl ?_); at_builtin; refine print_append_num (w0 := w6) B rfl (.tmp 23) (.tmp 24) 23 5 .u8 1 rfl Tryd.underlying23 info5 (by decide) v6 L5 10 rfl rfl HO6.out (Below.refl _ _) hB6 ?hl ?_; (case hl => (have := HL5.out; omega)); intro v7 w7 ho hb hg hat; obtain ⟨L6, hL6⟩ : ∃ L6, L5 ++ [10] = L6 := ⟨_, rfl⟩; rw [hL6] at ho; have HE6 := Aside0.mk hL6; have HL6 : Aside0 (L6.length ≤ l.length + 20 + (1 + k.size + 1 + val.size + 1)) := ⟨by have := HL5.out; rw [← hL6]; simp only [List.length_append, List.length_cons, List.length_nil, bytesOf_length]; omega⟩; clear hL6; have HO7 : Aside0 (Own w7 B v7 L6) := ⟨ho⟩; have HB7 := Aside0.mk (HB6.out.trans hb); have HX7 : Aside0 (Blk w7 w.heap.size #[.string k, .string val] 33) := ⟨(hg.block _ HX6.out.lt (fun e => HO6.out.type_ne HX6.out (by decide) e)).trans HX6.out⟩; have hB7 : B ≤ w7.heap.size := Nat.le_trans hB6 hb.size; have hc70 : World.cell? w7 ⟨w.heap.size, 0, none⟩ = some (.string k) := (HX7.out.cell 0).trans rfl; have hc71 : World.cell? w7 ⟨w.heap.size, 1, none⟩ = some (.string val) := (HX7.out.cell 1).trans rfl; have hxl7 := HX7.out.lt; clear ho hb hg hat))
  go_ret
  refine ⟨_, rfl, ?_, HB7.out⟩
  rw [HREC.out, HE2.out, HE3.out, HE4.out, HE5.out, HE6.out]
  exact HO7.out
end Go.Proofs.YtopehfjohifpnaaDoor.Mine
end
section
set_option linter.unusedSimpArgs false
set_option linter.unusedVariables false
namespace Go.Proofs.YtopehfjohifpnaaDoor.Mine
open Go.RowKit Go.Maps Go.Proofs.YtopehfjohifpnaaDoorW.PrintWords Go.Proofs.YtopehfjohifpnaaDoorW.PrintLast Go.Proofs.YtopehfjohifpnaaDoorW.PrintMore Go.Proofs.YtopehfjohifpnaaDoor.Turn Go.Proofs.YtopehfjohifpnaaDoor.Doc
theorem fit_small {k v : ByteArray} (h : fitN k v = 0) : k.size ≤ 32 ∧ v.size ≤ 1024 := by
  unfold fitN at h
  split at h
  · cases h
  · rename_i h1
    split at h
    · cases h
    · omega
theorem Own.C {w : World} {B : Nat} {A : Option Addr} {c : Nat} {l : List Int} (h : Own w B (.slice A l.length c) l) : l.length ≤ c ∧ Kd.C (Kd.int .u8) w A l.length l := by
  obtain ⟨A', c', he, hc, hr⟩ := own_reads_of_le (enc := fun x : Int => Value.int .u8 x) (d := 0) h
  cases he
  exact ⟨hc, Kd.C_of_reads hr⟩
theorem Own.size {w : World} {B : Nat} {v : Value} {l : List Int} (h : Own w B v l) : l.length ≤ 9223372036854775807 := by
  obtain ⟨A, c, rfl⟩ := own_slice h
  exact h.C.2.2.1
end Go.Proofs.YtopehfjohifpnaaDoor.Mine
end
