import Derived.Test.YtopehfjohifpnaaGreatDoorZ6
import Derived.Test.YtopehfjohifpnaaGreatDoorZ4
import Derived.WalkKit
import Derived.ProofKit
import Derived.Below
import Derived.Lib.Hide
import Derived.Lib.TrimUEq
import Derived.Lib.OthersKept
import Derived.Deep.QuietTactic
import Derived.BigQuiet
section
set_option linter.unusedSimpArgs false
set_option linter.unusedVariables false
namespace Go.Proofs.YtopehfjohifpnaaGreatDoor.Mine
open Go.RowKit Go.Maps Go.Proofs.YtopehfjohifpnaaGreatDoorW.PrintWords Go.Proofs.YtopehfjohifpnaaGreatDoorW.PrintLast Go.Proofs.YtopehfjohifpnaaGreatDoorW.PrintMore Go.Proofs.YtopehfjohifpnaaGreatDoor.Turn Go.Proofs.YtopehfjohifpnaaGreatDoor.Doc
abbrev C3 : ByteArray := { data := #[0, 10, 61] }
theorem c3_get (i : Nat) (hi : i < C3.size) : (C3[i]'hi).toNat < 128 := by
  have hd : i = 0 ∨ i = 1 ∨ i = 2 := by have : C3.size = 3 := rfl; omega
  rcases hd with rfl | rfl | rfl
  · exact (show (0 : UInt8).toNat < 128 by decide)
  · exact (show (10 : UInt8).toNat < 128 by decide)
  · exact (show (61 : UInt8).toNat < 128 by decide)
theorem below_iter (w : World) (s : ByteArray) (pos : Nat) : Below w.heap.size w (w.iter s pos) := by
  unfold World.iter
  exact below_alloc (Below.refl _ _) _
set_option maxHeartbeats 4000000 in
set_option maxRecDepth 100000 in
theorem rune_err (w : World) : Calls Tryz.prog 124 #[.string { data := #[0, 10, 61] }, .int .i32 65533] w fun e w' => e = .returned (.int .i64 (-1)) ∧ Below w.heap.size w w' := by
  go_enter Tryz.func124, Tryz.ntmps124
  go_wp2_with fail
  go_loopg [5, 6] 3 (fun g _ _ wx => ∃ i : Nat, i + g = 3 ∧ wx = w.iter C3 i)
  case atStart => exact ⟨0, by omega, rfl⟩
  case round =>
    obtain ⟨i, hig, rfl⟩ := hrel
    cases gk with
    | zero =>
      obtain rfl : i = 3 := by omega
      have hnx := run_next_end (P := Tryz.prog) w C3 3
      go_wp2
      go_ret
      exact ⟨rfl, below_iter w C3 3⟩
    | succ g =>
      have hi : i < C3.size := by have : C3.size = 3 := rfl; omega
      have h128 := c3_get i hi
      have hnx := fun ty => run_next_ascii (P := Tryz.prog) w C3 i ty hi h128
      generalize C3[i]'hi = x at *
      have hne : ((x.toNat : Int) == 65533) = false := beq_eq_false_iff_ne.2 (by omega)
      go_wp2
      go_roundg g
      case measure => omega
      case rel => exact ⟨i + 1, by omega, rfl⟩
theorem high_last (n : Nat) (h : 128 ≤ n) (h2 : n < 256) : (UInt8.ofNat n).toNat = n := by simp; omega
theorem encode_two {r : Nat} (h : 128 ≤ r) (h2 : r < 2048) : ∃ a b : UInt8, Utf8.encode r = ⟨#[a, b]⟩ ∧ 128 ≤ b.toNat := by
  refine ⟨UInt8.ofNat (0xC0 + r / 64), UInt8.ofNat (0x80 + r % 64), ?_, ?_⟩
  · have hv : Utf8.valid r = true := by unfold Utf8.valid; simp; omega
    unfold Utf8.encode
    rw [if_pos hv]
    simp only [Int.toNat_natCast]
    rw [if_neg (by omega), if_pos h2]
  · rw [high_last _ (by omega) (by omega)]; omega
theorem encode_three {r : Nat} (h : 2048 ≤ r) (h2 : r < 65536) (hv : Utf8.valid r = true) : ∃ a b c : UInt8, Utf8.encode r = ⟨#[a, b, c]⟩ ∧ 128 ≤ c.toNat := by
  refine ⟨UInt8.ofNat (0xE0 + r / 4096), UInt8.ofNat (0x80 + r / 64 % 64), UInt8.ofNat (0x80 + r % 64), ?_, ?_⟩
  · unfold Utf8.encode
    rw [if_pos hv]
    simp only [Int.toNat_natCast]
    rw [if_neg (by omega), if_neg (by omega), if_pos h2]
  · rw [high_last _ (by omega) (by omega)]; omega
theorem encode_four {r : Nat} (h : 65536 ≤ r) (hv : Utf8.valid r = true) : ∃ a b c d : UInt8, Utf8.encode r = ⟨#[a, b, c, d]⟩ := by
  refine ⟨UInt8.ofNat (0xF0 + r / 262144), UInt8.ofNat (0x80 + r / 4096 % 64), UInt8.ofNat (0x80 + r / 64 % 64), UInt8.ofNat (0x80 + r % 64), ?_⟩
  unfold Utf8.encode
  rw [if_pos hv]
  simp only [Int.toNat_natCast]
  rw [if_neg (by omega), if_neg (by omega), if_neg (by omega)]
set_option maxHeartbeats 4000000 in
set_option maxRecDepth 100000 in
theorem rune_four (r : Int) (a b c d : UInt8) (he : Utf8.encode r = ⟨#[a, b, c, d]⟩) (hlv : Lib.validRune r = true) (h0 : 0 ≤ r) (h1 : decide (r < 128) = false) (h2 : (r == 65533) = false) (w : World) : Calls Tryz.prog 124 #[.string { data := #[0, 10, 61] }, .int .i32 r] w fun e w' => e = .returned (.int .i64 (-1)) ∧ Below w.heap.size w w' := by
  go_enter Tryz.func124, Tryz.ntmps124
  go_wp2_with fail
  refine (Tryz.utf8_ValidRune _ _).mono ?_
  rw [hlv]
  rintro e w' ⟨rfl, hw⟩
  rw [hw]
  go_wp2_with fail
  go_step3
  go_wp2_with fail
  go_loop [9] (fun y => y = .int .i64 3) (fun _ => 0)
  case atStart => exact rfl
  case round =>
    obtain rfl := hrel
    go_wp2_with fail
    try rw [Exit.noGoto_ret]
    go_ret
    exact ⟨rfl, Below.refl _ _⟩
theorem index_high : ∀ (l : List UInt8) (b : UInt8), 128 ≤ b.toNat → (∀ x ∈ l, x.toNat < 128) → Lib.indexByte l b = -1
  | [], b, _, _ => rfl
  | x :: l, b, hb, hl => by
    have h1 := hl x (List.mem_cons_self ..)
    have h2 := index_high l b hb (fun y hy => hl y (List.mem_cons_of_mem _ hy))
    unfold Lib.indexByte
    rw [if_neg (fun e => by rw [eq_of_beq e] at h1; omega), h2]
    rfl
set_option maxHeartbeats 4000000 in
set_option maxRecDepth 100000 in
theorem rune_two (r : Int) (a b : UInt8) (he : Utf8.encode r = ⟨#[a, b]⟩) (hb : 128 ≤ b.toNat) (hlv : Lib.validRune r = true) (h0 : 0 ≤ r) (h1 : decide (r < 128) = false) (h2 : (r == 65533) = false) (w : World) : Calls Tryz.prog 124 #[.string { data := #[0, 10, 61] }, .int .i32 r] w fun e w' => e = .returned (.int .i64 (-1)) ∧ Below w.heap.size w w' := by
  go_enter Tryz.func124, Tryz.ntmps124
  go_wp2_with fail
  refine (Tryz.utf8_ValidRune _ _).mono ?_
  rw [hlv]
  rintro e w' ⟨rfl, hw⟩
  rw [hw]
  clear hw hlv
  go_wp2_with fail
  go_step3
  go_wp2_with fail
  go_loop [9] (fun y => y = .int .i64 1) (fun _ => 0)
  case atStart => exact rfl
  case round =>
    obtain rfl := hrel
    have hne : ((({ data := #[0, 10, 61] } : ByteArray)[1].toNat : Int) != (({ data := #[a, b] } : ByteArray)[1]'(show 1 < 2 by decide) |>.toNat : Int)) = true := by
      rw [bne_iff_ne]
      show ((10 : UInt8).toNat : Int) ≠ (b.toNat : Int)
      have : (10 : UInt8).toNat = 10 := rfl
      omega
    have hix : Lib.indexByte [61] (({ data := #[a, b] } : ByteArray)[1]'(show 1 < 2 by decide)) = -1 := index_high [61] b hb (by decide)
    go_wp2_with fail
    go_step3
    go_wp2_with fail
    go_region
    all_goals
      go_wp2_with fail
      go_region_with (go_at_call 75; refine (Tryz.strings_IndexByte _ _ _).mono ?_; rintro e w' ⟨rfl, hw⟩; rw [hw])
    all_goals
      go_wp2_with fail
      rw [Exit.noGoto_ret]
      go_wp2_with fail
      try rw [Exit.noGoto_ret]
      go_ret
      exact ⟨rfl, below_drew (below_drew (Below.refl _ _))⟩
set_option maxHeartbeats 4000000 in
set_option maxRecDepth 100000 in
theorem rune_three (r : Int) (a b c : UInt8) (he : Utf8.encode r = ⟨#[a, b, c]⟩) (hb : 128 ≤ c.toNat) (hlv : Lib.validRune r = true) (h0 : 0 ≤ r) (h1 : decide (r < 128) = false) (h2 : (r == 65533) = false) (w : World) : Calls Tryz.prog 124 #[.string { data := #[0, 10, 61] }, .int .i32 r] w fun e w' => e = .returned (.int .i64 (-1)) ∧ Below w.heap.size w w' := by
  go_enter Tryz.func124, Tryz.ntmps124
  go_wp2_with fail
  refine (Tryz.utf8_ValidRune _ _).mono ?_
  rw [hlv]
  rintro e w' ⟨rfl, hw⟩
  rw [hw]
  clear hw hlv
  go_wp2_with fail
  go_step3
  go_wp2_with fail
  go_loop [9] (fun y => y = .int .i64 2) (fun _ => 0)
  case atStart => exact rfl
  case round =>
    obtain rfl := hrel
    have hne : ((({ data := #[0, 10, 61] } : ByteArray)[2].toNat : Int) != (({ data := #[a, b, c] } : ByteArray)[2]'(show 2 < 3 by decide) |>.toNat : Int)) = true := by
      rw [bne_iff_ne]
      show ((61 : UInt8).toNat : Int) ≠ (c.toNat : Int)
      have : (61 : UInt8).toNat = 61 := rfl
      omega
    have hix : Lib.indexByte [] (({ data := #[a, b, c] } : ByteArray)[2]'(show 2 < 3 by decide)) = -1 := index_high [] c hb (by decide)
    go_wp2_with fail
    go_step3
    go_wp2_with fail
    go_region
    all_goals
      go_wp2_with fail
      go_region_with (go_at_call 75; refine (Tryz.strings_IndexByte _ _ _).mono ?_; rintro e w' ⟨rfl, hw⟩; rw [hw])
    all_goals
      go_wp2_with fail
      rw [Exit.noGoto_ret]
      go_wp2_with fail
      try rw [Exit.noGoto_ret]
      go_ret
      exact ⟨rfl, below_drew (below_drew (Below.refl _ _))⟩
theorem rune_none (r : Int) (h : 128 ≤ r) (hv : Utf8.valid r = true) (w : World) : Calls Tryz.prog 124 #[.string { data := #[0, 10, 61] }, .int .i32 r] w fun e w' => e = .returned (.int .i64 (-1)) ∧ Below w.heap.size w w' := by
  have hb : (r < 55296 ∨ 57344 ≤ r) ∧ r ≤ 1114111 := by
    unfold Utf8.valid at hv
    simp at hv
    omega
  have hlv : Lib.validRune r = true := by unfold Lib.validRune; simp; omega
  by_cases he : r = 65533
  · subst he
    exact rune_err w
  · have h1 : decide (r < 128) = false := decide_eq_false (by omega)
    have h2 : (r == 65533) = false := beq_eq_false_iff_ne.2 he
    obtain ⟨n, rfl⟩ : ∃ n : Nat, r = n := ⟨r.toNat, by omega⟩
    by_cases c2 : n < 2048
    · obtain ⟨a, b, h3, h4⟩ := encode_two (r := n) (by omega) c2
      exact rune_two _ a b h3 h4 hlv (by omega) h1 h2 w
    · by_cases c3 : n < 65536
      · obtain ⟨a, b, c, h3, h4⟩ := encode_three (r := n) (by omega) c3 hv
        exact rune_three _ a b c h3 h4 hlv (by omega) h1 h2 w
      · obtain ⟨a, b, c, d, h3⟩ := encode_four (r := n) (by omega) hv
        exact rune_four _ a b c d h3 hlv (by omega) h1 h2 w
theorem decode_far (s : ByteArray) (i : Nat) (hi : i < s.data.toList.length) (h : 128 ≤ (s.data.toList.getD i 0).toNat) :
    128 ≤ (Utf8.decode s i).1 ∧ Utf8.valid (Utf8.decode s i).1 = true ∧ 1 ≤ (Utf8.decode s i).2 ∧ i + (Utf8.decode s i).2 ≤ s.data.toList.length ∧ ∀ j, i ≤ j → j < i + (Utf8.decode s i).2 → 128 ≤ (s.data.toList.getD j 0).toNat := by
  rw [Lib.decode_N]
  have h1 : (s.data.toList.getD i 0).toNat < 256 := (s.data.toList.getD i 0).toNat_lt
  generalize hl : s.data.toList = l at *
  clear hl
  generalize h0 : (l.getD i 0).toNat = b0 at *
  generalize e1 : (l.getD (i + 1) 0).toNat = b1
  generalize e2 : (l.getD (i + 2) 0).toNat = b2
  generalize e3 : (l.getD (i + 3) 0).toNat = b3
  unfold Lib.decodeN Utf8.valid
  rw [if_neg (by omega)]
  split
  · rename_i hc
    split
    · refine ⟨by simp only; omega, by simp; omega, by simp, by simp only; omega, fun j hj hj2 => ?_⟩
      simp only at hj2
      have hd : j = i ∨ j = i + 1 := by omega
      rcases hd with rfl | rfl <;> omega
    · exact ⟨by simp, by simp, by simp, by simp only; omega, fun j hj hj2 => by simp only at hj2; have e : j = i := (by omega); subst e; omega⟩
  · split
    · rename_i hc
      split
      · refine ⟨by simp only; omega, by simp; omega, by simp, by simp only; omega, fun j hj hj2 => ?_⟩
        simp only at hj2
        have hd : j = i ∨ j = i + 1 ∨ j = i + 2 := by omega
        rcases hd with rfl | rfl | rfl <;> omega
      · exact ⟨by simp, by simp, by simp, by simp only; omega, fun j hj hj2 => by simp only at hj2; have e : j = i := (by omega); subst e; omega⟩
    · split
      · rename_i hc
        split
        · refine ⟨by simp only; omega, by simp; omega, by simp, by simp only; omega, fun j hj hj2 => ?_⟩
          simp only at hj2
          have hd : j = i ∨ j = i + 1 ∨ j = i + 2 ∨ j = i + 3 := by omega
          rcases hd with rfl | rfl | rfl | rfl <;> omega
        · exact ⟨by simp, by simp, by simp, by simp only; omega, fun j hj hj2 => by simp only at hj2; have e : j = i := (by omega); subst e; omega⟩
      · exact ⟨by simp, by simp, by simp, by simp only; omega, fun j hj hj2 => by simp only at hj2; have e : j = i := (by omega); subst e; omega⟩
def badK (l : List UInt8) : Bool := l.any fun c => c == 0 || (c == 10 || c == 61)
theorem c3_index (c : UInt8) : decide (0 ≤ Lib.indexByte C3.data.toList c) = (c == 0 || (c == 10 || c == 61)) := by
  rw [← Lib.contains_iff_indexByte]
  show [(0 : UInt8), 10, 61].contains c = _
  simp only [List.contains_cons, List.contains_nil, Bool.or_false]
theorem bad_far {c : UInt8} (h : 128 ≤ c.toNat) : (c == 0 || (c == 10 || c == 61)) = false := by
  have h0 : c ≠ 0 := fun e => by rw [e] at h; exact absurd h (by decide)
  have h1 : c ≠ 10 := fun e => by rw [e] at h; exact absurd h (by decide)
  have h2 : c ≠ 61 := fun e => by rw [e] at h; exact absurd h (by decide)
  simp [h0, h1, h2]
theorem bad_take {l : List UInt8} {i n : Nat} (h : badK (l.take i) = false) (hn : ∀ j, i ≤ j → j < i + n → j < l.length → (l.getD j 0 == 0 || (l.getD j 0 == 10 || l.getD j 0 == 61)) = false) : badK (l.take (i + n)) = false := by
  unfold badK at *
  rw [List.any_eq_false] at *
  intro x hx
  obtain ⟨j, hj, hxj⟩ := List.getElem_of_mem hx
  rw [List.getElem_take] at hxj
  rw [List.length_take] at hj
  by_cases hji : j < i
  · exact h x (by rw [← hxj]; exact List.mem_iff_getElem.2 ⟨j, by rw [List.length_take]; omega, by rw [List.getElem_take]⟩)
  · have := hn j (by omega) (by omega) (by omega)
    rw [List.getD_eq_getElem?_getD, List.getElem?_eq_getElem (by omega), Option.getD_some, hxj] at this
    rw [this]
    exact Bool.false_ne_true
def EndsA (w : World) (s : ByteArray) (e : Ending) (w' : World) : Prop := (∃ i : Int, e = .returned (.int .i64 i) ∧ decide (0 ≤ i) = badK s.data.toList) ∧ Below w.heap.size w w'
set_option maxHeartbeats 8000000 in
set_option maxRecDepth 1000000 in
theorem any_short (s : ByteArray) (h8 : s.size ≤ 8) (w : World) : Calls Tryz.prog 113 #[.string s, .string { data := #[0, 10, 61] }] w (EndsA w s) := by
  have h8z : decide ((8 : Int) < (s.size : Int)) = false := decide_eq_false (by omega)
  have hsl : s.data.toList.length = s.size := (Lib.size_eq s).symm
  have HSL := Aside0.mk hsl
  clear hsl
  go_enter Tryz.func113, Tryz.ntmps113
  go_wp2_with fail
  refine (Tryz.strings_shouldUseASCIISet _ _).mono ?_
  rintro e w' ⟨rfl, hw⟩
  rw [hw, h8z]
  clear hw
  go_wp2_with fail
  go_loopg [9, 10] s.size (fun g _ _ wx => ∃ i : Nat, i ≤ s.size ∧ s.size ≤ i + g ∧ Aside0 (wx.heap[w.heap.size]? = some (.stringIter s i)) ∧ Aside0 (Below w.heap.size w wx) ∧ Aside0 (badK (s.data.toList.take i) = false))
  case atStart => exact ⟨0, Nat.zero_le _, by omega, ⟨World.iter_heap w s 0⟩, ⟨below_iter w s 0⟩, ⟨rfl⟩⟩
  case round =>
    rename World => wr
    obtain ⟨i, hi, hig, HI, HB, HN⟩ := hrel
    by_cases hlt : i < s.size
    · cases gk with
      | zero => omega
      | succ g =>
      obtain ⟨x, hx⟩ : ∃ x : UInt8, s[i]'hlt = x := ⟨_, rfl⟩
      have hxl : s.data.toList[i]? = some x := by rw [← hx]; exact Lib.data_getElem? s i hlt
      have hxd : s.data.toList.getD i 0 = x := by rw [List.getD_eq_getElem?_getD, hxl]; rfl
      have hil := hlt
      rw [← HSL.out] at hil
      by_cases h128 : x.toNat < 128
      · have hnx := fun ty => Lib.run_next_ascii_at (P := Tryz.prog) wr w.heap.size s i ty HI.out hlt (by rw [hx]; exact h128)
        rw [hx] at hnx
        have HI2 := Aside0.mk (Lib.iterAt_heap wr w.heap.size s i (i + 1) HI.out)
        have HB2 := Aside0.mk (Lib.below_iterAt HB.out (Nat.le_refl w.heap.size) s (i + 1))
        have hcon := c3_index x
        have hback : ((x.toNat : Int)).toNat.toUInt8 = x := by simp
        have HX := Aside0.mk hxd
        have HXL := Aside0.mk hxl
        clear hx hxl hxd
        cases hbx : (x == 0 || (x == 10 || x == 61)) with
        | true =>
          have HBD : Aside0 (badK s.data.toList = true) := ⟨by
            unfold badK
            rw [List.any_eq_true]
            exact ⟨x, List.mem_of_getElem? HXL.out, hbx⟩⟩
          rw [hbx] at hcon
          have hge : (0 : Int) ≤ Lib.indexByte C3.data.toList x := of_decide_eq_true hcon
          clear hcon hbx
          go_wp2_with (go_at_call 124; refine (Tryz.strings_IndexRune_ascii _ _ _ (by omega) (by omega)).mono ?_; rintro e w' ⟨rfl, hw⟩; rw [hw, hback])
          go_ret
          exact ⟨⟨i, rfl, by rw [HBD.out]; exact decide_eq_true (by omega)⟩, HB2.out⟩
        | false =>
          have HN2 : Aside0 (badK (s.data.toList.take (i + 1)) = false) := ⟨bad_take HN.out (fun j h1 h2 h3 => by
            have e : j = i := by omega
            subst e
            rw [HX.out]; exact hbx)⟩
          rw [hbx] at hcon
          have hge : ¬ ((0 : Int) ≤ Lib.indexByte C3.data.toList x) := of_decide_eq_false hcon
          clear hcon hbx
          go_wp2_with (go_at_call 124; refine (Tryz.strings_IndexRune_ascii _ _ _ (by omega) (by omega)).mono ?_; rintro e w' ⟨rfl, hw⟩; rw [hw, hback])
          go_roundg g
          case measure => omega
          case rel => exact ⟨i + 1, by omega, by omega, HI2, HB2, HN2⟩
      · obtain ⟨r1, r2, r3, r4, r5⟩ := decode_far s i hil (by rw [hxd]; omega)
        have hnx := fun ty => Lib.run_next_any_at (P := Tryz.prog) wr w.heap.size s i ty HI.out hlt
        obtain ⟨r, hr⟩ : ∃ r : Int, ((Utf8.decode s i).1 : Int) = r := ⟨_, rfl⟩
        obtain ⟨n, hn⟩ : ∃ n, (Utf8.decode s i).2 = n := ⟨_, rfl⟩
        rw [hr] at r2 hnx
        rw [hn] at r3 r4 r5 hnx
        have hr1 : 128 ≤ r := by omega
        have HI2 := Aside0.mk (Lib.iterAt_heap wr w.heap.size s i (i + n) HI.out)
        have HB2 := Aside0.mk (Lib.below_iterAt HB.out (Nat.le_refl w.heap.size) s (i + n))
        have HN2 : Aside0 (badK (s.data.toList.take (i + n)) = false) := ⟨bad_take HN.out (fun j h1 h2 h3 => bad_far (r5 j h1 h2))⟩
        have HR2 := Aside0.mk r2
        have hkl : w.heap.size < wr.heap.size := by
          have := HI.out
          exact blk_lt this
        have hsz : (wr.iterAt w.heap.size s (i + n)).heap.size = wr.heap.size := Lib.iterAt_size _ _ _ _
        have hin : i + n ≤ s.size := by have := HSL.out; omega
        clear hx hxl hxd r1 r2 r5 hr hn
        go_wp2_with fail
        refine (rune_none r hr1 HR2.out _).mono ?_
        rintro e w5 ⟨rfl, hb5⟩
        have HB5 := Aside0.mk (below_step HB2.out hb5)
        have HI5 : Aside0 (w5.heap[w.heap.size]? = some (.stringIter s (i + n))) := ⟨(hb5.block _ (by rw [hsz]; exact hkl)).trans HI2.out⟩
        clear hb5
        go_wp2_with fail
        go_roundg g
        case measure => omega
        case rel => exact ⟨i + n, hin, by omega, HI5, HB5, HN2⟩
    · have hnx := fun ty => Lib.run_next_end_at (P := Tryz.prog) wr w.heap.size s i ty HI.out hlt
      have HE : Aside0 (badK s.data.toList = false) := ⟨by
        have := HN.out
        rwa [List.take_of_length_le (by rw [HSL.out]; omega)] at this⟩
      go_wp2_with fail
      go_ret
      exact ⟨⟨-1, rfl, by rw [HE.out]; rfl⟩, HB.out⟩
theorem info165 : (Tryz.prog.info? 165).map (fun i => (i.zero, i.size)) = some (some (.agg (Array.replicate 256 (.bool false))), 256) := by kernel_rfl
theorem zero165 (w : World) : (zeroValue 165).run Tryz.prog w = .ok (.agg (Array.replicate 256 (.bool false))) w := by
  obtain ⟨i, hi, hz⟩ := Option.map_eq_some_iff.1 info165
  simp only [Prod.mk.injEq] at hz
  simp [zeroValue, typeInfo, hi, hz.1]
theorem c3_ascii : ∀ (j : Nat) b, C3.data.toList[j]? = some b → b.toNat < 128 := by
  intro j b h
  have hm : b ∈ ([0, 10, 61] : List UInt8) := List.mem_of_getElem? h
  simp at hm
  rcases hm with rfl | rfl | rfl <;> decide
theorem index_bad : ∀ l : List UInt8, decide (0 ≤ Lib.indexAny l C3.data.toList) = badK l
  | [] => rfl
  | x :: l => by
    have ih := index_bad l
    have hc : C3.data.toList.contains x = (x == 0 || (x == 10 || x == 61)) := by rw [Lib.contains_iff_indexByte]; exact c3_index x
    have hg := Lib.indexAny_ge C3.data.toList l
    unfold Lib.indexAny badK
    rw [List.any_cons, hc]
    cases hb : (x == 0 || (x == 10 || x == 61)) with
    | true => simp
    | false =>
      rw [if_neg (by simp), Bool.false_or]
      rw [show (l.any fun c => c == 0 || (c == 10 || c == 61)) = badK l from rfl, ← ih]
      by_cases h : Lib.indexAny l C3.data.toList = -1
      · rw [h]; rfl
      · rw [if_neg (by simpa using h)]
        rw [decide_eq_true (by omega), decide_eq_true (by omega)]
theorem any_long (s : ByteArray) (h8 : 8 < s.size) (hs : s.size < 4294967281) (w : World) : Calls Tryz.prog 113 #[.string s, .string { data := #[0, 10, 61] }] w (EndsA w s) := by
  refine (Tryz.strings_IndexAny_long zero165 s C3 w (by decide) h8 hs (by decide) c3_ascii).mono ?_
  rintro e w' ⟨he, hw⟩
  refine ⟨⟨_, he, ?_⟩, ?_⟩
  · exact index_bad _
  · rw [hw]
    exact below_alloc (below_alloc (Below.refl _ _) _) _
set_option maxHeartbeats 1000000 in
theorem contains_any (s : ByteArray) (hs : s.size < 4294967281) (w : World) : Calls Tryz.prog 96 #[.string s, .string { data := #[0, 10, 61] }] w fun e w' => e = .returned (.bool (badK s.data.toList)) ∧ Below w.heap.size w w' := by
  have hc : Calls Tryz.prog 113 #[.string s, .string { data := #[0, 10, 61] }] w (EndsA w s) := by
    by_cases h8 : 8 < s.size
    · exact any_long s h8 hs w
    · exact any_short s (by omega) w
  have HC := Aside0.mk hc
  clear hc
  go_enter Tryz.func96, Tryz.ntmps96
  go_wp2_with fail
  refine HC.out.mono ?_
  rintro e w' ⟨⟨i, rfl, hi⟩, hb⟩
  have HI := Aside0.mk hi
  have HB := Aside0.mk hb
  clear hi hb
  go_wp2_with fail
  go_ret
  exact ⟨by rw [← HI.out]; rfl, HB.out⟩
def fitN (k v : ByteArray) : Int := if k.size = 0 ∨ 32 < k.size ∨ badK k.data.toList = true then 91 else if 1024 < v.size then 2 else 0
set_option maxHeartbeats 2000000 in
theorem fits_any (k v : ByteArray) (w : World) : Calls Tryz.prog 77 #[.agg #[.string k, .string v]] w fun e w' => e = .returned (.int .i64 (fitN k v)) ∧ Below w.heap.size w w' := by
  have HB0 := Aside0.mk (below_alloc (Below.refl w.heap.size w) (.cells #[.string k, .string v] 64))
  obtain ⟨f, hf⟩ : ∃ f, fitN k v = f := ⟨_, rfl⟩
  rw [hf]
  have HF := Aside0.mk hf
  clear hf
  by_cases h0 : k.size = 0
  · have hk : k = { data := #[] } := by
      rcases k with ⟨⟨l⟩⟩
      have : l.length = 0 := h0
      rw [List.length_eq_zero_iff.1 this]
    subst hk
    have HX : Aside0 (f = 91) := ⟨by rw [← HF.out, fitN, if_pos (.inl rfl)]⟩
    go_enter Tryz.func77, Tryz.ntmps77
    go_wp2_with fail
    go_ret
    exact ⟨by rw [HX.out]; rfl, HB0.out⟩
  · have hemp : k.toList.isEmpty = false := by
      rw [Lib.toList_data]
      cases h : k.data.toList with
      | nil => have := Lib.size_eq k; rw [h, List.length_nil] at this; omega
      | cons _ _ => rfl
    by_cases h1 : 32 < k.size
    · have HX : Aside0 (f = 91) := ⟨by rw [← HF.out, fitN, if_pos (.inr (.inl h1))]⟩
      go_enter Tryz.func77, Tryz.ntmps77
      go_wp2_with fail
      go_ret
      exact ⟨by rw [HX.out]; rfl, HB0.out⟩
    · have HC := Aside0.mk (fun w => contains_any k (by omega) w)
      have hx := Blk.new w #[.string k, .string v] 64
      obtain ⟨b, hb⟩ : ∃ b, badK k.data.toList = b := ⟨_, rfl⟩
      rw [hb] at HC
      cases b with
      | true =>
        have HX : Aside0 (f = 91) := ⟨by rw [← HF.out, fitN, if_pos (.inr (.inr hb))]⟩
        clear hb hx
        go_enter Tryz.func77, Tryz.ntmps77
        go_wp2_with fail
        refine (HC.out _).mono ?_
        rintro e w2 ⟨rfl, hb⟩
        have HB2 := Aside0.mk (below_step HB0.out hb)
        clear hb
        go_wp2_with fail
        go_ret
        exact ⟨by rw [HX.out]; rfl, HB2.out⟩
      | false =>
        have hnot : ¬ (k.size = 0 ∨ 32 < k.size ∨ badK k.data.toList = true) := fun h => h.elim h0 (fun h => h.elim h1 (fun e => by rw [hb] at e; cases e))
        have HX : Aside0 (f = if 1024 < v.size then 2 else 0) := ⟨by rw [← HF.out, fitN, if_neg hnot]⟩
        have HXB := Aside0.mk hx
        clear hb hx hnot
        by_cases h2 : 1024 < v.size
        all_goals
          go_enter Tryz.func77, Tryz.ntmps77
          go_wp2_with fail
          refine (HC.out _).mono ?_
          rintro e w2 ⟨rfl, hb⟩
          have HB2 := Aside0.mk (below_step HB0.out hb)
          have hx2 : Blk w2 w.heap.size #[.string k, .string v] 64 := (hb.block _ HXB.out.lt).trans HXB.out
          have hl2 := hx2.lt
          have hx20 : World.cell? w2 ⟨w.heap.size, 0, none⟩ = some (.string k) := Blk.cell hx2 0
          have hx21 : World.cell? w2 ⟨w.heap.size, 1, none⟩ = some (.string v) := Blk.cell hx2 1
          clear hb hx2
          go_wp2_with fail
          go_ret
          exact ⟨by rw [HX.out]; first | (rw [if_pos h2]; rfl) | (rw [if_neg h2]; rfl), HB2.out⟩
end Go.Proofs.YtopehfjohifpnaaGreatDoor.Mine
end
