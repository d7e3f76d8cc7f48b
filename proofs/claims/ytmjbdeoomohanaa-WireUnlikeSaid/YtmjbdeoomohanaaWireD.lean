/- wire: a message as data; which fields are set. -/
import Derived.Test.YtmjbdeoomohanaaWireC
import Derived.Deep.QuietTactic
import Derived.BigQuiet
set_option linter.unusedSimpArgs false
set_option linter.unusedVariables false
namespace Go.Proofs.Ytmjbdeoomohanaa.Mine
open Go.RowKit Go.Maps Go.Proofs.YtmjbdeoomohanaaW.PrintWords Go.Proofs.YtmjbdeoomohanaaW.PrintLast Go.Proofs.YtmjbdeoomohanaaW.PrintMore Go.Proofs.Ytmjbdeoomohanaa.PWirePacks Go.Proofs.Ytmjbdeoomohanaa.Turn

structure Msg where
  ty : Int
  view : Int
  normal : Int
  op : Int
  commit : Int
  log : List S44
  client : Int
  seq : Int
  body : List Int
  key : Int
  shard : Int
  stripe : Int
  code : Int
  blocks : List (List Int)
/-- A message's cells. -/
def mcells (m : Msg) (A5 : Option Addr) (c5 : Nat) (A8 : Option Addr) (c8 : Nat) (A13 : Option Addr) (c13 : Nat) : Array Value :=
  #[.int .u8 m.ty, .int .u64 m.view, .int .u64 m.normal, .int .i64 m.op, .int .i64 m.commit, .slice A5 m.log.length c5, .int .u64 m.client, .int .u64 m.seq, .slice A8 m.body.length c8, .int .u64 m.key, .int .u8 m.shard, .int .u32 m.stripe, .int .i64 m.code, .slice A13 m.blocks.length c13]

def bitN (c : Bool) (f : Int) : Int := if c then f else 0
set_option maxHeartbeats 1000000 in
theorem bit_any (c : Bool) (f : Int) (w : World) : Calls Try.prog 49 #[.bool c, .int .i64 f] w fun e w' => e = .returned (.int .i64 (bitN c f)) ∧ w' = w := by
  cases c
  · go_enter Try.func49, Try.ntmps49
    go_wp2
    go_ret
    exact ⟨rfl, rfl⟩
  · go_enter Try.func49, Try.ntmps49
    go_wp2
    go_ret
    exact ⟨rfl, rfl⟩


/-- Which fields are set, in their order. -/
def setL (m : Msg) : List Bool := [m.view != 0, m.normal != 0, m.op != 0, m.commit != 0, decide (0 < m.log.length), m.client != 0, m.seq != 0, decide (0 < m.body.length), m.key != 0, m.shard != 0, m.stripe != 0, m.code != 0, decide (0 < m.blocks.length)]
def orL : List Bool → Nat → Nat
  | [], _ => 0
  | c :: s, k => (if c then 2 ^ k else 0) ||| orL s (k + 1)
theorem orL_bit : ∀ (s : List Bool) (k i : Nat), (orL s k).testBit i = (decide (k ≤ i) && s.getD (i - k) false)
  | [], k, i => by simp [orL]
  | c :: s, k, i => by
    rw [orL, Nat.testBit_or, orL_bit s (k + 1) i]
    rcases Nat.lt_trichotomy i k with h | rfl | h
    · have h1 : (if c then 2 ^ k else 0 : Nat).testBit i = false := by
        split
        · rw [Nat.testBit_two_pow]; exact decide_eq_false (by omega)
        · simp
      rw [h1]
      simp [show ¬ k ≤ i by omega, show ¬ k + 1 ≤ i by omega]
    · have h1 : (if c then 2 ^ i else 0 : Nat).testBit i = c := by
        split
        · rw [Nat.testBit_two_pow]; simp [*]
        · simp [*]
      rw [h1]
      simp [show ¬ i + 1 ≤ i by omega]
    · have h1 : (if c then 2 ^ k else 0 : Nat).testBit i = false := by
        split
        · rw [Nat.testBit_two_pow]; exact decide_eq_false (by omega)
        · simp
      rw [h1]
      obtain ⟨j, rfl⟩ : ∃ j, i = k + 1 + j := ⟨i - (k + 1), by omega⟩
      simp [show k + 1 + j - k = j + 1 by omega, show k + 1 + j - (k + 1) = j by omega, show k ≤ k + 1 + j by omega]
theorem orL_lt : ∀ (s : List Bool) (k : Nat), orL s k < 2 ^ (k + s.length)
  | [], k => by simp [orL]; exact Nat.two_pow_pos _
  | c :: s, k => by
    rw [orL]
    refine Nat.or_lt_two_pow ?_ (by have := orL_lt s (k + 1); rwa [show k + 1 + s.length = k + (c :: s).length by simp; omega] at this)
    split
    · exact Nat.pow_lt_pow_right (by omega) (by simp)
    · exact Nat.two_pow_pos _
theorem or_i64 (a b : Nat) (ha : a < 2 ^ 62) (hb : b < 2 ^ 62) : bits .or .i64 (a : Int) (b : Int) = ((a ||| b : Nat) : Int) := by
  have h := Nat.or_lt_two_pow ha hb
  have e1 : (BitVec.ofInt IntKind.i64.bits (a : Int) ||| BitVec.ofInt IntKind.i64.bits (b : Int)).toNat = a ||| b := by
    rw [show IntKind.i64.bits = 64 from rfl, BitVec.toNat_or, BitVec.ofInt_natCast, BitVec.ofInt_natCast, BitVec.toNat_ofNat, BitVec.toNat_ofNat, Nat.mod_eq_of_lt (by omega), Nat.mod_eq_of_lt (by omega)]
  show IntKind.i64.wrap ((BitVec.ofInt IntKind.i64.bits (a : Int) ||| BitVec.ofInt IntKind.i64.bits (b : Int)).toNat : Int) = _
  rw [e1, IntKind.wrap_i64]
  omega
theorem andNot_i64 (a b : Nat) (ha : a < 2 ^ 62) (hb : b < 2 ^ 62) : (bits .andNot .i64 (a : Int) (b : Int) != 0) = (List.range 62).any fun i => a.testBit i && !b.testBit i := by
  obtain ⟨V, hV⟩ : ∃ V, (BitVec.ofNat 64 a &&& ~~~BitVec.ofNat 64 b) = V := ⟨_, rfl⟩
  have hbit : ∀ i, V.toNat.testBit i = (decide (i < 64) && a.testBit i && !b.testBit i) := fun i => by
    rw [BitVec.testBit_toNat, ← hV, BitVec.getLsbD_and, BitVec.getLsbD_not, BitVec.getLsbD_ofNat, BitVec.getLsbD_ofNat]
    by_cases hi : i < 64 <;> simp [hi]
  have hle : V.toNat < 2 ^ 62 := by
    rw [← hV, BitVec.toNat_and]
    refine Nat.lt_of_le_of_lt Nat.and_le_left ?_
    rw [BitVec.toNat_ofNat, Nat.mod_eq_of_lt (by omega)]
    exact ha
  have hval : bits .andNot .i64 (a : Int) (b : Int) = (V.toNat : Int) := by
    have e : (BitVec.ofInt IntKind.i64.bits (a : Int) &&& ~~~BitVec.ofInt IntKind.i64.bits (b : Int)).toNat = V.toNat := by
      rw [← hV]
      show (BitVec.ofInt 64 (a : Int) &&& ~~~BitVec.ofInt 64 (b : Int)).toNat = _
      rw [BitVec.ofInt_natCast, BitVec.ofInt_natCast]
    show IntKind.i64.wrap ((BitVec.ofInt IntKind.i64.bits (a : Int) &&& ~~~BitVec.ofInt IntKind.i64.bits (b : Int)).toNat : Int) = _
    rw [e, IntKind.wrap_i64]
    omega
  rw [hval]
  cases hq : (List.range 62).any fun i => a.testBit i && !b.testBit i with
  | true =>
    rw [List.any_eq_true] at hq
    obtain ⟨i, hi, h1⟩ := hq
    have hi2 : i < 62 := by simpa using hi
    have h2 := hbit i
    rw [bne_iff_ne]
    intro h3
    have h4 : V.toNat = 0 := by omega
    rw [h4, Nat.zero_testBit, Bool.and_assoc, h1] at h2
    simp at h2
    omega
  | false =>
    rw [List.any_eq_false] at hq
    have h4 : V.toNat = 0 := by
      apply Nat.eq_of_testBit_eq
      intro i
      rw [Nat.zero_testBit, hbit i, Bool.and_assoc]
      by_cases hi : i < 62
      · have := hq i (by simpa using hi)
        have h5 : (a.testBit i && !b.testBit i) = false := by simpa using this
        rw [h5, Bool.and_false]
      · have : a.testBit i = false := Nat.testBit_lt_two_pow (Nat.lt_of_lt_of_le ha (Nat.pow_le_pow_right (by omega) (by omega)))
        simp [this]
    rw [h4]
    rfl
/-- Is a field set that the type does not have? -/
def badF (s : List Bool) (h : Nat) : Bool := (List.range 62).any fun i => s.getD i false && !h.testBit i
def setN (m : Msg) : Int := (orL (setL m) 0 : Nat)
theorem bitN_nat (c : Bool) (k : Nat) : bitN c ((2 ^ k : Nat) : Int) = ((if c then 2 ^ k else 0 : Nat) : Int) := by
  unfold bitN
  cases c <;> simp
theorem setN_bad (m : Msg) (h : Nat) (hh : h < 2 ^ 62) : (bits .andNot .i64 (setN m) (h : Int) != 0) = badF (setL m) h := by
  have hl := orL_lt (setL m) 0
  have hl2 : orL (setL m) 0 < 2 ^ 62 := Nat.lt_of_lt_of_le hl (Nat.pow_le_pow_right (by omega) (by simp [setL]))
  rw [setN, andNot_i64 _ _ hl2 hh, badF]
  congr 1
  funext i
  rw [orL_bit]
  simp

set_option maxHeartbeats 4000000 in
set_option maxRecDepth 100000 in
theorem set_any (m : Msg) (A5 : Option Addr) (c5 : Nat) (A8 : Option Addr) (c8 : Nat) (A13 : Option Addr) (c13 : Nat) (w : World) :
    Calls Try.prog 22 #[.agg (mcells m A5 c5 A8 c8 A13 c13)] w fun e w' => e = .returned (.int .i64 (setN m)) ∧ Below w.heap.size w w' := by
  obtain ⟨x0, x1, x2, x3, x4, x5, x6, x7, x8, x9, x10, x11, x12, x13⟩ := m
  have HN : Aside0 (setN ⟨x0, x1, x2, x3, x4, x5, x6, x7, x8, x9, x10, x11, x12, x13⟩ = bits BinOp.or IntKind.i64 (bits BinOp.or IntKind.i64 (bits BinOp.or IntKind.i64 (bits BinOp.or IntKind.i64 (bits BinOp.or IntKind.i64 (bits BinOp.or IntKind.i64 (bits BinOp.or IntKind.i64 (bits BinOp.or IntKind.i64 (bits BinOp.or IntKind.i64 (bits BinOp.or IntKind.i64 (bits BinOp.or IntKind.i64 (bits BinOp.or IntKind.i64 (bitN (x1 != 0) 1) (bitN (x2 != 0) 2)) (bitN (x3 != 0) 4)) (bitN (x4 != 0) 8)) (bitN (decide (0 < x5.length)) 16)) (bitN (x6 != 0) 32)) (bitN (x7 != 0) 64)) (bitN (decide (0 < x8.length)) 128)) (bitN (x9 != 0) 256)) (bitN (x10 != 0) 512)) (bitN (x11 != 0) 1024)) (bitN (x12 != 0) 2048)) (bitN (decide (0 < x13.length)) 4096)) := ⟨by
    have hb : ∀ (c : Bool) (k : Nat) (f : Int), f = ((2 ^ k : Nat) : Int) → bitN c f = ((if c then 2 ^ k else 0 : Nat) : Int) := fun c k f hf => by rw [hf]; exact bitN_nat c k
    rw [hb _ 0 1 rfl, hb _ 1 2 rfl, hb _ 2 4 rfl, hb _ 3 8 rfl, hb _ 4 16 rfl, hb _ 5 32 rfl, hb _ 6 64 rfl, hb _ 7 128 rfl, hb _ 8 256 rfl, hb _ 9 512 rfl, hb _ 10 1024 rfl, hb _ 11 2048 rfl, hb _ 12 4096 rfl]
    have hs : ∀ (c : Bool) (k : Nat), k ≤ 12 → (if c then 2 ^ k else 0 : Nat) < 2 ^ 62 := fun c k hk => by
      split
      · exact Nat.pow_lt_pow_right (by omega) (by omega)
      · exact Nat.two_pow_pos _
    have ho : ∀ (a b : Nat), a < 2 ^ 62 → b < 2 ^ 62 → a ||| b < 2 ^ 62 := fun a b ha hb => Nat.or_lt_two_pow ha hb
    repeat rw [or_i64 _ _ (by repeat' (first | apply ho | (apply hs; omega))) (by apply hs; omega)]
    unfold setN setL
    simp only [orL, Nat.or_zero, Nat.or_assoc, Nat.zero_add]⟩
  unfold mcells
  simp only
  go_enter Try.func22, Try.ntmps22
  go_wp2_with fail
  go_quiet ((go_at_call 49; exact Calls.quiet_of_same (bit_any _ _ _)))
  go_wp2
  go_ret
  exact ⟨by rw [HN.out]; rfl, pw_below_drewN (below_alloc (Below.refl _ _) _) _⟩
end Go.Proofs.Ytmjbdeoomohanaa.Mine
