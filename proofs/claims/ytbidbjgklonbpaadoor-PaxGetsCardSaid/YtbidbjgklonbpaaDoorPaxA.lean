/- pax: fits: does a key hold one of three bytes. -/
import Derived.Test.YtbidbjgklonbpaaDoorShelf
import Derived.Test.YtbidbjgklonbpaaDoorTurn
import Derived.WalkKit
import Derived.ProofKit
import Derived.Below
import Derived.Lib.Hide
import Derived.Lib.TrimUEq
import Derived.Lib.OthersKept
import Derived.Deep.QuietTactic
import Derived.BigQuiet
set_option linter.unusedSimpArgs false
set_option linter.unusedVariables false
namespace Go.Proofs.YtbidbjgklonbpaaDoor.Mine
open Go.RowKit Go.Maps Go.Proofs.YtbidbjgklonbpaaDoorW.PrintWords Go.Proofs.YtbidbjgklonbpaaDoorW.PrintLast Go.Proofs.YtbidbjgklonbpaaDoorW.PrintMore Go.Proofs.YtbidbjgklonbpaaDoor.Turn

/-- The three bytes. -/
abbrev C3 : ByteArray := { data := #[0, 10, 61] }
theorem c3_get (i : Nat) (hi : i < C3.size) : (C3[i]'hi).toNat < 128 := by
  have hd : i = 0 ∨ i = 1 ∨ i = 2 := by have : C3.size = 3 := rfl; omega
  rcases hd with rfl | rfl | rfl
  · exact (show (0 : UInt8).toNat < 128 by decide)
  · exact (show (10 : UInt8).toNat < 128 by decide)
  · exact (show (61 : UInt8).toNat < 128 by decide)
theorem below_iter (w : World) (s : ByteArray) (pos : Nat) : Below w.heap.size w (w.iter s pos) := by
  unfold World.iter
  exact below_alloc (Below.refl _ _) _

set_option maxHeartbeats 4000000 in
set_option maxRecDepth 100000 in
theorem rune_err (w : World) : Calls Tryd.prog 64 #[.string { data := #[0, 10, 61] }, .int .i32 65533] w fun e w' => e = .returned (.int .i64 (-1)) ∧ Below w.heap.size w w' := by
  go_enter Tryd.func64, Tryd.ntmps64
  go_wp2_with fail
  go_loopg [5, 6] 3 (fun g _ _ wx => ∃ i : Nat, i + g = 3 ∧ wx = w.iter C3 i)
  case atStart => exact ⟨0, by omega, rfl⟩
  case round =>
    obtain ⟨i, hig, rfl⟩ := hrel
    cases gk with
    | zero =>
      obtain rfl : i = 3 := by omega
      have hnx := run_next_end (P := Tryd.prog) w C3 3
      go_wp2
      go_ret
      exact ⟨rfl, below_iter w C3 3⟩
    | succ g =>
      have hi : i < C3.size := by have : C3.size = 3 := rfl; omega
      have h128 := c3_get i hi
      have hnx := fun ty => run_next_ascii (P := Tryd.prog) w C3 i ty hi h128
      generalize C3[i]'hi = x at *
      have hne : ((x.toNat : Int) == 65533) = false := beq_eq_false_iff_ne.2 (by omega)
      go_wp2
      go_roundg g
      case measure => omega
      case rel => exact ⟨i + 1, by omega, rfl⟩

/-- What the last byte of a long rune is not. -/
theorem high_last (n : Nat) (h : 128 ≤ n) (h2 : n < 256) : (UInt8.ofNat n).toNat = n := by simp; omega
theorem encode_two {r : Nat} (h : 128 ≤ r) (h2 : r < 2048) : ∃ a b : UInt8, Utf8.encode r = ⟨#[a, b]⟩ ∧ 128 ≤ b.toNat := by
  refine ⟨UInt8.ofNat (0xC0 + r / 64), UInt8.ofNat (0x80 + r % 64), ?_, ?_⟩
  · have hv : Utf8.valid r = true := by unfold Utf8.valid; simp; omega
    unfold Utf8.encode
    rw [if_pos hv]
    simp only [Int.toNat_natCast]
    rw [if_neg (by omega), if_pos h2]
  · rw [high_last _ (by omega) (by omega)]; omega
theorem encode_three {r : Nat} (h : 2048 ≤ r) (h2 : r < 65536) (hv : Utf8.valid r = true) : ∃ a b c : UInt8, Utf8.encode r = ⟨#[a, b, c]⟩ ∧ 128 ≤ c.toNat := by
  refine ⟨UInt8.ofNat (0xE0 + r / 4096), UInt8.ofNat (0x80 + r / 64 % 64), UInt8.ofNat (0x80 + r % 64), ?_, ?_⟩
  · unfold Utf8.encode
    rw [if_pos hv]
    simp only [Int.toNat_natCast]
    rw [if_neg (by omega), if_neg (by omega), if_pos h2]
  · rw [high_last _ (by omega) (by omega)]; omega
theorem encode_four {r : Nat} (h : 65536 ≤ r) (hv : Utf8.valid r = true) : ∃ a b c d : UInt8, Utf8.encode r = ⟨#[a, b, c, d]⟩ := by
  refine ⟨UInt8.ofNat (0xF0 + r / 262144), UInt8.ofNat (0x80 + r / 4096 % 64), UInt8.ofNat (0x80 + r / 64 % 64), UInt8.ofNat (0x80 + r % 64), ?_⟩
  unfold Utf8.encode
  rw [if_pos hv]
  simp only [Int.toNat_natCast]
  rw [if_neg (by omega), if_neg (by omega), if_neg (by omega)]

set_option maxHeartbeats 4000000 in
set_option maxRecDepth 100000 in
theorem rune_four (r : Int) (a b c d : UInt8) (he : Utf8.encode r = ⟨#[a, b, c, d]⟩) (hlv : Lib.validRune r = true) (h0 : 0 ≤ r) (h1 : decide (r < 128) = false) (h2 : (r == 65533) = false) (w : World) : Calls Tryd.prog 64 #[.string { data := #[0, 10, 61] }, .int .i32 r] w fun e w' => e = .returned (.int .i64 (-1)) ∧ Below w.heap.size w w' := by
  go_enter Tryd.func64, Tryd.ntmps64
  go_wp2_with fail
  refine (Tryd.utf8_ValidRune _ _).mono ?_
  rw [hlv]
  rintro e w' ⟨rfl, hw⟩
  rw [hw]
  go_wp2_with fail
  go_step3
  go_wp2_with fail
  go_loop [9] (fun y => y = .int .i64 3) (fun _ => 0)
  case atStart => exact rfl
  case round =>
    obtain rfl := hrel
    go_wp2_with fail
    try rw [Exit.noGoto_ret]
    go_ret
    exact ⟨rfl, Below.refl _ _⟩
theorem index_high : ∀ (l : List UInt8) (b : UInt8), 128 ≤ b.toNat → (∀ x ∈ l, x.toNat < 128) → Lib.indexByte l b = -1
  | [], b, _, _ => rfl
  | x :: l, b, hb, hl => by
    have h1 := hl x (List.mem_cons_self ..)
    have h2 := index_high l b hb (fun y hy => hl y (List.mem_cons_of_mem _ hy))
    unfold Lib.indexByte
    rw [if_neg (fun e => by rw [eq_of_beq e] at h1; omega), h2]
    rfl
set_option maxHeartbeats 4000000 in
set_option maxRecDepth 100000 in
theorem rune_two (r : Int) (a b : UInt8) (he : Utf8.encode r = ⟨#[a, b]⟩) (hb : 128 ≤ b.toNat) (hlv : Lib.validRune r = true) (h0 : 0 ≤ r) (h1 : decide (r < 128) = false) (h2 : (r == 65533) = false) (w : World) : Calls Tryd.prog 64 #[.string { data := #[0, 10, 61] }, .int .i32 r] w fun e w' => e = .returned (.int .i64 (-1)) ∧ Below w.heap.size w w' := by
  go_enter Tryd.func64, Tryd.ntmps64
  go_wp2_with fail
  refine (Tryd.utf8_ValidRune _ _).mono ?_
  rw [hlv]
  rintro e w' ⟨rfl, hw⟩
  rw [hw]
  clear hw hlv
  go_wp2_with fail
  go_step3
  go_wp2_with fail
  go_loop [9] (fun y => y = .int .i64 1) (fun _ => 0)
  case atStart => exact rfl
  case round =>
    obtain rfl := hrel
    have hne : ((({ data := #[0, 10, 61] } : ByteArray)[1].toNat : Int) != (({ data := #[a, b] } : ByteArray)[1]'(show 1 < 2 by decide) |>.toNat : Int)) = true := by
      rw [bne_iff_ne]
      show ((10 : UInt8).toNat : Int) ≠ (b.toNat : Int)
      have : (10 : UInt8).toNat = 10 := rfl
      omega
    have hix : Lib.indexByte [61] (({ data := #[a, b] } : ByteArray)[1]'(show 1 < 2 by decide)) = -1 := index_high [61] b hb (by decide)
    go_wp2_with fail
    go_step3
    go_wp2_with fail
    go_region
    all_goals
      go_wp2_with fail
      go_region_with (go_at_call 94; refine (Tryd.strings_IndexByte _ _ _).mono ?_; rintro e w' ⟨rfl, hw⟩; rw [hw])
    all_goals
      go_wp2_with fail
      rw [Exit.noGoto_ret]
      go_wp2_with fail
      try rw [Exit.noGoto_ret]
      go_ret
      exact ⟨rfl, below_drew (below_drew (Below.refl _ _))⟩
set_option maxHeartbeats 4000000 in
set_option maxRecDepth 100000 in
theorem rune_three (r : Int) (a b c : UInt8) (he : Utf8.encode r = ⟨#[a, b, c]⟩) (hb : 128 ≤ c.toNat) (hlv : Lib.validRune r = true) (h0 : 0 ≤ r) (h1 : decide (r < 128) = false) (h2 : (r == 65533) = false) (w : World) : Calls Tryd.prog 64 #[.string { data := #[0, 10, 61] }, .int .i32 r] w fun e w' => e = .returned (.int .i64 (-1)) ∧ Below w.heap.size w w' := by
  go_enter Tryd.func64, Tryd.ntmps64
  go_wp2_with fail
  refine (Tryd.utf8_ValidRune _ _).mono ?_
  rw [hlv]
  rintro e w' ⟨rfl, hw⟩
  rw [hw]
  clear hw hlv
  go_wp2_with fail
  go_step3
  go_wp2_with fail
  go_loop [9] (fun y => y = .int .i64 2) (fun _ => 0)
  case atStart => exact rfl
  case round =>
    obtain rfl := hrel
    have hne : ((({ data := #[0, 10, 61] } : ByteArray)[2].toNat : Int) != (({ data := #[a, b, c] } : ByteArray)[2]'(show 2 < 3 by decide) |>.toNat : Int)) = true := by
      rw [bne_iff_ne]
      show ((61 : UInt8).toNat : Int) ≠ (c.toNat : Int)
      have : (61 : UInt8).toNat = 61 := rfl
      omega
    have hix : Lib.indexByte [] (({ data := #[a, b, c] } : ByteArray)[2]'(show 2 < 3 by decide)) = -1 := index_high [] c hb (by decide)
    go_wp2_with fail
    go_step3
    go_wp2_with fail
    go_region
    all_goals
      go_wp2_with fail
      go_region_with (go_at_call 94; refine (Tryd.strings_IndexByte _ _ _).mono ?_; rintro e w' ⟨rfl, hw⟩; rw [hw])
    all_goals
      go_wp2_with fail
      rw [Exit.noGoto_ret]
      go_wp2_with fail
      try rw [Exit.noGoto_ret]
      go_ret
      exact ⟨rfl, below_drew (below_drew (Below.refl _ _))⟩

theorem rune_none (r : Int) (h : 128 ≤ r) (hv : Utf8.valid r = true) (w : World) : Calls Tryd.prog 64 #[.string { data := #[0, 10, 61] }, .int .i32 r] w fun e w' => e = .returned (.int .i64 (-1)) ∧ Below w.heap.size w w' := by
  have hb : (r < 55296 ∨ 57344 ≤ r) ∧ r ≤ 1114111 := by
    unfold Utf8.valid at hv
    simp at hv
    omega
  have hlv : Lib.validRune r = true := by unfold Lib.validRune; simp; omega
  by_cases he : r = 65533
  · subst he
    exact rune_err w
  · have h1 : decide (r < 128) = false := decide_eq_false (by omega)
    have h2 : (r == 65533) = false := beq_eq_false_iff_ne.2 he
    obtain ⟨n, rfl⟩ : ∃ n : Nat, r = n := ⟨r.toNat, by omega⟩
    by_cases c2 : n < 2048
    · obtain ⟨a, b, h3, h4⟩ := encode_two (r := n) (by omega) c2
      exact rune_two _ a b h3 h4 hlv (by omega) h1 h2 w
    · by_cases c3 : n < 65536
      · obtain ⟨a, b, c, h3, h4⟩ := encode_three (r := n) (by omega) c3 hv
        exact rune_three _ a b c h3 h4 hlv (by omega) h1 h2 w
      · obtain ⟨a, b, c, d, h3⟩ := encode_four (r := n) (by omega) hv
        exact rune_four _ a b c d h3 hlv (by omega) h1 h2 w

/-- What lies under a rune that is no ASCII: bytes that are none. -/
theorem decode_far (s : ByteArray) (i : Nat) (hi : i < s.data.toList.length) (h : 128 ≤ (s.data.toList.getD i 0).toNat) :
    128 ≤ (Utf8.decode s i).1 ∧ Utf8.valid (Utf8.decode s i).1 = true ∧ 1 ≤ (Utf8.decode s i).2 ∧ i + (Utf8.decode s i).2 ≤ s.data.toList.length ∧ ∀ j, i ≤ j → j < i + (Utf8.decode s i).2 → 128 ≤ (s.data.toList.getD j 0).toNat := by
  rw [Lib.decode_N]
  have h1 : (s.data.toList.getD i 0).toNat < 256 := (s.data.toList.getD i 0).toNat_lt
  generalize hl : s.data.toList = l at *
  clear hl
  generalize h0 : (l.getD i 0).toNat = b0 at *
  generalize e1 : (l.getD (i + 1) 0).toNat = b1
  generalize e2 : (l.getD (i + 2) 0).toNat = b2
  generalize e3 : (l.getD (i + 3) 0).toNat = b3
  unfold Lib.decodeN Utf8.valid
  rw [if_neg (by omega)]
  split
  · rename_i hc
    split
    · refine ⟨by simp only; omega, by simp; omega, by simp, by simp only; omega, fun j hj hj2 => ?_⟩
      simp only at hj2
      have hd : j = i ∨ j = i + 1 := by omega
      rcases hd with rfl | rfl <;> omega
    · exact ⟨by simp, by simp, by simp, by simp only; omega, fun j hj hj2 => by simp only at hj2; have e : j = i := (by omega); subst e; omega⟩
  · split
    · rename_i hc
      split
      · refine ⟨by simp only; omega, by simp; omega, by simp, by simp only; omega, fun j hj hj2 => ?_⟩
        simp only at hj2
        have hd : j = i ∨ j = i + 1 ∨ j = i + 2 := by omega
        rcases hd with rfl | rfl | rfl <;> omega
      · exact ⟨by simp, by simp, by simp, by simp only; omega, fun j hj hj2 => by simp only at hj2; have e : j = i := (by omega); subst e; omega⟩
    · split
      · rename_i hc
        split
        · refine ⟨by simp only; omega, by simp; omega, by simp, by simp only; omega, fun j hj hj2 => ?_⟩
          simp only at hj2
          have hd : j = i ∨ j = i + 1 ∨ j = i + 2 ∨ j = i + 3 := by omega
          rcases hd with rfl | rfl | rfl | rfl <;> omega
        · exact ⟨by simp, by simp, by simp, by simp only; omega, fun j hj hj2 => by simp only at hj2; have e : j = i := (by omega); subst e; omega⟩
      · exact ⟨by simp, by simp, by simp, by simp only; omega, fun j hj hj2 => by simp only at hj2; have e : j = i := (by omega); subst e; omega⟩

end Go.Proofs.YtbidbjgklonbpaaDoor.Mine
