/- pax: the plain law of one record read. -/
import Derived.Test.YtbidbjgklonbpaaDoorPaxH
set_option linter.unusedSimpArgs false
set_option linter.unusedVariables false
namespace Go.Proofs.YtbidbjgklonbpaaDoor.Mine
open Go.RowKit Go.Maps Go.Proofs.YtbidbjgklonbpaaDoorW.PrintWords Go.Proofs.YtbidbjgklonbpaaDoorW.PrintLast Go.Proofs.YtbidbjgklonbpaaDoorW.PrintMore Go.Proofs.YtbidbjgklonbpaaDoor.Turn Go.Proofs.YtbidbjgklonbpaaDoor.PPaxGets

def isD (x : Int) : Bool := decide (48 ≤ x) && decide (x ≤ 57)
def lead : List Int → Nat → Nat
  | [], _ => 0
  | _ :: _, 0 => 0
  | x :: l, k + 1 => if isD x = true then lead l k + 1 else 0
theorem lead_eq : ∀ (k : Nat) (l : List Int) (d : Nat), d ≤ k → d ≤ l.length → (∀ i, i < d → isD (l.getD i 0) = true) → (d = k ∨ d = l.length ∨ isD (l.getD d 0) = false) → lead l k = d
  | k, [], d, _, h, _, _ => by
    have : d = 0 := by simpa using h
    subst this
    cases k <;> rfl
  | 0, x :: l, d, h, _, _, _ => by
    have : d = 0 := by omega
    subst this
    rfl
  | k + 1, x :: l, 0, _, _, _, h => by
    rcases h with h | h | h
    · omega
    · simp at h
    · simp only [List.getD_cons_zero] at h
      simp [lead, h]
  | k + 1, x :: l, d + 1, h1, h2, h3, h4 => by
    have h0 := h3 0 (by omega)
    simp only [List.getD_cons_zero] at h0
    have ih := lead_eq k l d (by omega) (by simpa using h2) (fun i hi => by simpa using h3 (i + 1) (by omega)) (by
      rcases h4 with h | h | h
      · exact .inl (by omega)
      · exact .inr (.inl (by simpa using h))
      · exact .inr (.inr (by simpa using h)))
    simp [lead, h0, ih]

/-- The number that the first d bytes spell. -/
def numN (l : List Int) (d : Nat) : Nat := (Lib.decFrom 0 (Lib.bytesOf (l.take d))).getD 0
theorem dig_byte {x : Int} (h : isD x = true) : Lib.digitVal (UInt8.ofNat x.toNat) = some (x.toNat - 48) := by
  simp only [isD, Bool.and_eq_true, decide_eq_true_eq] at h
  have : (UInt8.ofNat x.toNat).toNat = x.toNat := by simp; omega
  unfold Lib.digitVal
  rw [this, if_pos (by omega)]
theorem num_ex (l : List Int) : ∀ d : Nat, d ≤ l.length → (∀ i, i < d → isD (l.getD i 0) = true) → ∃ n, Lib.decFrom 0 (Lib.bytesOf (l.take d)) = some n
  | 0, _, _ => ⟨0, rfl⟩
  | d + 1, h, hd => by
    obtain ⟨n, hn⟩ := num_ex l d (by omega) (fun i hi => hd i (by omega))
    have hx := hd d (by omega)
    rw [List.getD_eq_getElem?_getD, List.getElem?_eq_getElem (by omega), Option.getD_some] at hx
    have hm : ∀ k, Lib.bytesOf (l.take k) = (Lib.bytesOf l).take k := fun k => by simp [Lib.bytesOf, List.map_take]
    rw [hm] at hn ⊢
    exact ⟨_, Lib.decFrom_take _ d 0 n _ _ hn (by simp [Lib.bytesOf, List.getElem?_eq_getElem (show d < l.length by omega)]) (dig_byte hx)⟩
theorem numN_zero (l : List Int) : numN l 0 = 0 := rfl
theorem numN_succ {l : List Int} {d : Nat} (h : d < l.length) (hd : ∀ i, i < d + 1 → isD (l.getD i 0) = true) : numN l (d + 1) = numN l d * 10 + ((l.getD d 0).toNat - 48) := by
  obtain ⟨n, hn⟩ := num_ex l d (by omega) (fun i hi => hd i (by omega))
  have hx := hd d (by omega)
  have hm : ∀ k, Lib.bytesOf (l.take k) = (Lib.bytesOf l).take k := fun k => by simp [Lib.bytesOf, List.map_take]
  unfold numN
  rw [List.getD_eq_getElem?_getD, List.getElem?_eq_getElem (by omega), Option.getD_some] at hx ⊢
  rw [hm] at hn ⊢
  rw [hm, hn, Lib.decFrom_take _ d 0 n _ _ hn (by simp [Lib.bytesOf, List.getElem?_eq_getElem h]) (dig_byte hx)]
  rfl
theorem numN_lt {l : List Int} : ∀ {d : Nat}, d ≤ l.length → (∀ i, i < d → isD (l.getD i 0) = true) → numN l d < 10 ^ d
  | 0, _, _ => by simp [numN_zero]
  | d + 1, h, hd => by
    have ih := numN_lt (l := l) (d := d) (by omega) (fun i hi => hd i (by omega))
    rw [numN_succ (by omega) hd, Nat.pow_succ]
    have hx := hd d (by omega)
    simp only [isD, Bool.and_eq_true, decide_eq_true_eq] at hx
    omega
theorem numN_pos {l : List Int} (h0 : l.getD 0 0 ≠ 48) : ∀ {d : Nat}, d + 1 ≤ l.length → (∀ i, i < d + 1 → isD (l.getD i 0) = true) → 1 ≤ numN l (d + 1)
  | 0, h, hd => by
    rw [numN_succ (by omega) hd, numN_zero]
    have hx := hd 0 (by omega)
    simp only [isD, Bool.and_eq_true, decide_eq_true_eq] at hx
    omega
  | d + 1, h, hd => by
    have ih := numN_pos h0 (d := d) (by omega) (fun i hi => hd i (by omega))
    rw [numN_succ (by omega) hd]
    omega
theorem numN_atoi {l : List Int} {d : Nat} (hz : 0 < d) (h : d ≤ l.length) (hd : ∀ i, i < d → isD (l.getD i 0) = true) : Lib.atoi (Lib.bytesOf (l.take d)) = some (numN l d : Int) := by
  obtain ⟨n, hn⟩ := num_ex l d h hd
  have hN : numN l d = n := by unfold numN; rw [hn]; rfl
  have h0 := hd 0 hz
  cases l with
  | nil => simp at h; omega
  | cons x l =>
    obtain ⟨e, rfl⟩ : ∃ e, d = e + 1 := ⟨d - 1, by omega⟩
    simp only [List.getD_cons_zero, isD, Bool.and_eq_true, decide_eq_true_eq] at h0
    have hb : (UInt8.ofNat x.toNat).toNat = x.toNat := by simp; omega
    have e1 : (UInt8.ofNat x.toNat == 45) = false := by
      rw [beq_eq_false_iff_ne]; intro e; have := congrArg UInt8.toNat e; rw [hb] at this; simp at this; omega
    have e2 : (UInt8.ofNat x.toNat == 43) = false := by
      rw [beq_eq_false_iff_ne]; intro e; have := congrArg UInt8.toNat e; rw [hb] at this; simp at this; omega
    rw [hN]
    simp only [List.take_succ_cons, Lib.bytesOf, List.map_cons] at hn ⊢
    simp only [Lib.atoi, e1, e2, Lib.decNat, List.isEmpty_cons, Bool.false_eq_true, if_false, hn, Option.map_some]

noncomputable def oneP (n : Nat) (k v : ByteArray) : Except Int (ByteArray × ByteArray × Nat) :=
  if fitN k v ≠ 0 then .error (fitN k v) else if 3 + k.size + v.size + dOf (3 + k.size + v.size) ≠ n then .error 90 else .ok (k, v, n)
noncomputable def oneB (n : Nat) (body : List Int) : Except Int (ByteArray × ByteArray × Nat) :=
  if Lib.index (Lib.bytesOf body) [61] < 0 then .error 90 else oneP n (strOfNums (body.take (Lib.index (Lib.bytesOf body) [61]).toNat)) (strOfNums (body.drop ((Lib.index (Lib.bytesOf body) [61]).toNat + 1)))
noncomputable def oneN (l : List Int) (d n : Nat) : Except Int (ByteArray × ByteArray × Nat) :=
  if l.length < n ∨ l.getD (n - 1) 0 ≠ 10 then .error 90 else oneB n ((l.take (n - 1)).drop (d + 1))
/-- The record that bytes begin with. -/
noncomputable def oneL (l : List Int) : Except Int (ByteArray × ByteArray × Nat) :=
  if lead l 5 = 0 ∨ 4 < lead l 5 ∨ l.getD 0 0 = 48 ∨ lead l 5 = l.length ∨ l.getD (lead l 5) 0 ≠ 32 then .error 90 else oneN l (lead l 5) (numN l (lead l 5))

def EndsOne (w : World) (at' : Int) (x : Except Int (ByteArray × ByteArray × Nat)) (e : Ending) (w' : World) : Prop :=
  Below w.heap.size w w' ∧ match x with
  | .ok (k, v, n) => e = .returned (.tuple #[.agg #[.string k, .string v], .int .i64 (at' + (n : Int))])
  | .error c => e = .panicked [{ v := .iface 72 (.agg #[.int .i64 at', .int .i64 c]), recovered := false }]

theorem fails_any (p : Addr) (a c : Int) (w : World) (h : w.cell? p = some (.int .i64 a)) :
    Calls Tryd.prog 51 #[.int .i64 c, .pointer (some p)] w fun e w' => e = .panicked [{ v := .iface 72 (.agg #[.int .i64 a, .int .i64 c]), recovered := false }] ∧ w' = w := by
  go_enter Tryd.func51, Tryd.ntmps51
  go_wp2_with fail
  first | exact ⟨rfl, rfl⟩ | (simp [bodyPost]; done)

def OneW (w W : World) (A : Option Addr) (l : List Int) (a : Int) : Prop := Below w.heap.size w W ∧ Blk W w.heap.size #[.int .i64 a] 3 ∧ Blk W (w.heap.size + 1) #[.string ⟨#[]⟩, .string ⟨#[]⟩] 23 ∧ Kd.C (Kd.int .u8) W A l.length l ∧ Tab W ∧ ∃ m, W.cell? ⟨0, 0, none⟩ = some (.int .i64 m)
theorem OneW.step {w W W' : World} {A : Option Addr} {l : List Int} {a : Int} (h : OneW w W A l a) (hb : Below W.heap.size W W') : OneW w W' A l a := by
  obtain ⟨h1, h2, h3, h4, h5, m, h6⟩ := h
  exact ⟨below_step h1 hb, (hb.block _ h2.lt).trans h2, (hb.block _ h3.lt).trans h3, Kd.C_below h4 hb, h5.below hb, m, (World.cell?_of_block (hb.block _ (World.block_lt_of_cell? _ _ h6))).trans h6⟩
theorem OneW.fails {w W : World} {A : Option Addr} {l : List Int} {a : Int} (h : OneW w W A l a) (c : Int) : Calls Tryd.prog 51 #[.int .i64 c, .pointer (some ⟨w.heap.size, 0, none⟩)] W fun e w' => e = .panicked [{ v := .iface 72 (.agg #[.int .i64 a, .int .i64 c]), recovered := false }] ∧ w' = W :=
  fails_any _ _ c _ ((h.2.1.cell 0).trans rfl)
end Go.Proofs.YtbidbjgklonbpaaDoor.Mine
/- pax: what Get's frame holds. -/
set_option linter.unusedSimpArgs false
set_option linter.unusedVariables false
namespace Go.Proofs.YtbidbjgklonbpaaDoor.Mine
open Go.RowKit Go.Maps Go.Proofs.YtbidbjgklonbpaaDoorW.PrintWords Go.Proofs.YtbidbjgklonbpaaDoorW.PrintLast Go.Proofs.YtbidbjgklonbpaaDoorW.PrintMore Go.Proofs.YtbidbjgklonbpaaDoor.Turn Go.Proofs.YtbidbjgklonbpaaDoor.PPaxGets

/-- Is the next key out of order? -/
def outOf (acc : List S23) (k : ByteArray) : Bool := decide (0 < acc.length) && !(Op.bytesLess (rdP acc (acc.length - 1)).f0.toList k.toList)
noncomputable def getG (L : List Int) : Nat → Nat → List S23 → List S23 × Int × Int
  | 0, _, acc => (acc, 0, 0)
  | m + 1, a, acc => if L.length ≤ a then (acc, 0, 0) else if acc.length = 64 then ([], a, 3) else
    match oneL (L.drop a) with
    | .error c => ([], a, c)
    | .ok (k, v, n) => if outOf acc k = true then ([], a, 92) else getG L m (a + n) (acc ++ [⟨k, v⟩])
noncomputable def getF (L : List Int) : List S23 × Int × Int := getG L 66 0 []
theorem lead_dig : ∀ (k : Nat) (l : List Int), lead l k ≤ k ∧ lead l k ≤ l.length ∧ ∀ i, i < lead l k → isD (l.getD i 0) = true
  | k, [] => by cases k <;> simp [lead]
  | 0, x :: l => by simp [lead]
  | k + 1, x :: l => by
    obtain ⟨h1, h2, h3⟩ := lead_dig k l
    by_cases hx : isD x = true
    · have e : lead (x :: l) (k + 1) = lead l k + 1 := by simp [lead, hx]
      rw [e]
      refine ⟨by omega, by simp; omega, fun i hi => ?_⟩
      cases i with
      | zero => simpa using hx
      | succ i => simpa using h3 i (by omega)
    · have e : lead (x :: l) (k + 1) = 0 := by simp [lead, hx]
      rw [e]
      exact ⟨by omega, by omega, fun i hi => by omega⟩
theorem oneL_ok {l : List Int} {k v : ByteArray} {n : Nat} (h : oneL l = .ok (k, v, n)) : 1 ≤ n ∧ n ≤ l.length ∧ n < 10000 := by
  unfold oneL at h
  split at h
  · cases h
  · rename_i h0
    unfold oneN at h
    split at h
    · cases h
    · rename_i h1
      have hn : numN l (lead l 5) = n := by
        unfold oneB at h
        split at h
        · cases h
        · unfold oneP at h
          split at h
          · cases h
          · split at h
            · cases h
            · cases h; rfl
      obtain ⟨g1, g2, g3⟩ := lead_dig 5 l
      have hd0 : lead l 5 ≠ 0 := fun h => h0 (.inl h)
      have hd4 : ¬ 4 < lead l 5 := fun h => h0 (.inr (.inl h))
      have hz : l.getD 0 0 ≠ 48 := fun h => h0 (.inr (.inr (.inl h)))
      have hlt := numN_lt g2 g3
      have hp : 10 ^ lead l 5 ≤ 10 ^ 4 := Nat.pow_le_pow_right (by decide) (by omega)
      have hle : n ≤ l.length := by
        have : ¬ l.length < numN l (lead l 5) := fun h => h1 (.inl h)
        omega
      obtain ⟨e, he⟩ : ∃ e, lead l 5 = e + 1 := ⟨lead l 5 - 1, by omega⟩
      have hpos : 1 ≤ numN l (e + 1) := numN_pos hz (by omega) (fun i hi => g3 i (by omega))
      rw [← he] at hpos
      exact ⟨by omega, hle, by omega⟩
def EndsGet (w : World) (r : List S23 × Int × Int) (e : Ending) (w' : World) : Prop :=
  Below w.heap.size w w' ∧ ∃ A c, e = .returned (.tuple #[.slice A r.1.length c, .int .i64 r.2.1, .int .i64 r.2.2]) ∧ r.1.length ≤ c ∧ Kd.F k23 w' (fun k => w.heap.size ≤ k) A r.1.length r.1

def GetW (w W : World) (v : Value) (a : Int) (acc : List S23) : Prop :=
  Below w.heap.size w W ∧ Blk W w.heap.size #[v] 33 ∧ Blk W (w.heap.size + 1) #[.int .i64 a] 3 ∧ Blk W (w.heap.size + 2) #[.int .i64 0] 25 ∧ w.heap.size + 3 ≤ W.heap.size ∧ Kd.R k23 23 W (w.heap.size + 3) (fun k => w.heap.size + 3 ≤ k) v acc
theorem GetW.step {w W W' : World} {v : Value} {a : Int} {acc : List S23} (h : GetW w W v a acc) (hb : Below W.heap.size W W') : GetW w W' v a acc := by
  obtain ⟨h1, h2, h3, h4, h5, h6⟩ := h
  exact ⟨below_step h1 hb, (hb.block _ h2.lt).trans h2, (hb.block _ h3.lt).trans h3, (hb.block _ h4.lt).trans h4, Nat.le_trans h5 hb.size, Kd.R_step h6 (fun k _ hlt => hb.block k hlt)⟩
theorem GetW.setL {w W W' : World} {v v1 : Value} {a : Int} {acc acc1 : List S23} (h : GetW w W v a acc) (hb : Below (w.heap.size + 3) W W') (hr : Kd.R k23 23 W' (w.heap.size + 3) (fun k => w.heap.size + 3 ≤ k) v1 acc1) :
    GetW w (W'.setCell ⟨w.heap.size, 0, none⟩ v1) v1 a acc1 := by
  obtain ⟨h1, h2, h3, h4, h5, h6⟩ := h
  have hs := hb.size
  have b2 : Blk W' w.heap.size #[v] 33 := (hb.block _ (by omega)).trans h2
  have b3 : Blk W' (w.heap.size + 1) #[.int .i64 a] 3 := (hb.block _ (by omega)).trans h3
  have b4 : Blk W' (w.heap.size + 2) #[.int .i64 0] 25 := (hb.block _ (by omega)).trans h4
  have hB : Below w.heap.size w W' := h1.trans (hb.mono (by omega))
  exact ⟨below_turned hB ((Turned.refl (fun k => k = w.heap.size) W').setCell (.inl rfl) _) hB.size (fun k hk => by omega), b2.set 0 v1, b3.far (p := ⟨w.heap.size, 0, none⟩) (by simp) _, b4.far (p := ⟨w.heap.size, 0, none⟩) (by simp) _, by simp [World.setCell]; omega, Kd.R_step hr (fun k hk _ => Below.heap_setCell W' _ v1 k (by have : w.heap.size + 3 ≤ k := hk; show k ≠ w.heap.size; omega))⟩
theorem GetW.setA {w W : World} {v : Value} {a b : Int} {acc : List S23} (h : GetW w W v a acc) : GetW w (W.setCell ⟨w.heap.size + 1, 0, none⟩ (.int .i64 b)) v b acc := by
  obtain ⟨h1, h2, h3, h4, h5, h6⟩ := h
  exact ⟨below_turned h1 ((Turned.refl (fun k => k = w.heap.size + 1) W).setCell (.inl rfl) _) h1.size (fun k hk => by omega), h2.far (p := ⟨w.heap.size + 1, 0, none⟩) (by simp) _, h3.set 0 _, h4.far (p := ⟨w.heap.size + 1, 0, none⟩) (by simp) _, by simp [World.setCell]; omega, Kd.R_step h6 (fun k hk _ => Below.heap_setCell W _ _ k (by have : w.heap.size + 3 ≤ k := hk; show k ≠ w.heap.size + 1; omega))⟩
end Go.Proofs.YtbidbjgklonbpaaDoor.Mine
