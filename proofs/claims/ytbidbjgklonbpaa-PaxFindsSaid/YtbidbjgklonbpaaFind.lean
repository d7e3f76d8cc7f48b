/- Contracts of pax.Find's parts: the predicate, slices.IndexFunc over it, Find itself: the first pair of that key. -/
import Derived.Test.YtbidbjgklonbpaaPPaxFindsx
import Derived.WalkLawsBesides
namespace Go.Proofs.Ytbidbjgklonbpaa.Mine
open Go.RowKit Go.Proofs.YtbidbjgklonbpaaW.PrintWords Go.Proofs.Ytbidbjgklonbpaa.PPaxFinds

set_option maxHeartbeats 400000 in
theorem pred_any (a b key : ByteArray) (B : Nat) (w : World) (hc : w.cell? ⟨B, 0, none⟩ = some (.string key)) :
    Calls Try.prog 9 #[.agg #[.string a, .string b], .pointer (some ⟨B, 0, none⟩)] w fun e w' => e = .returned (.bool (a.toList == key.toList)) ∧ Below w.heap.size w w' := by
  have hB : B < w.heap.size := World.block_lt_of_cell? w _ hc
  go_enter Try.func9, Try.ntmps9
  go_wp2
  go_ret
  exact ⟨rfl, below_alloc (Below.refl _ _) _⟩

/-- From place i on: the first pair of that key. -/
def idx (key : ByteArray) (l : List S30) (i : Nat) : Int :=
  if h : i < l.length then (if l[i].f0.toList = key.toList then (i : Int) else idx key l (i + 1)) else -1
termination_by l.length - i

set_option maxHeartbeats 1000000 in
theorem index_any (A : Option Addr) (c : Nat) (l : List S30) (key : ByteArray) (B : Nat) (w : World) (hl : l.length ≤ 4611686018427387904) (hr : Kd.C k30 w A l.length l) (hc : w.cell? ⟨B, 0, none⟩ = some (.string key)) :
    Calls Try.prog 8 #[.slice A l.length c, .func (.func 9) #[] #[.pointer (some ⟨B, 0, none⟩)]] w fun e w' => e = .returned (.int .i64 (idx key l 0)) ∧ Below w.heap.size w w' := by
  have HR := Aside0.mk hr
  have HC := Aside0.mk hc
  have hB : B < w.heap.size := World.block_lt_of_cell? w _ hc
  clear hr hc
  go_enter Try.func8, Try.ntmps8
  go_wp2
  go_loopw [8] (fun i wr => ∃ k : Nat, k ≤ l.length ∧ i = .int .i64 k ∧ Aside0 (idx key l 0 = idx key l k) ∧ Aside0 (Below w.heap.size w wr)) (fun i _ => l.length - (intOf i).toNat)
  case atStart => exact ⟨0, Nat.zero_le _, rfl, ⟨rfl⟩, ⟨Below.refl _ _⟩⟩
  case round =>
    obtain ⟨k, hk, rfl, HI, HB⟩ := hrel
    have hsz : w.heap.size ≤ wr.heap.size := HB.out.size
    by_cases hlt : k < l.length
    · obtain ⟨ad, e, hx0, hx1⟩ := at_T30 HR.out (k : Int) (by omega) (by omega)
      cases e
      rw [Int.toNat_natCast] at hx0 hx1
      replace hx0 := (HB.out.cell (World.block_lt_of_cell? w _ hx0)).trans hx0
      replace hx1 := (HB.out.cell (World.block_lt_of_cell? w _ hx1)).trans hx1
      have hcr : wr.cell? ⟨B, 0, none⟩ = some (.string key) := (HB.out.cell hB).trans HC.out
      generalize hx : rd_T30 l (k : Int) = x at hx0 hx1
      have HX := Aside0.mk hx
      clear hx
      have hx2 : l[k] = x := by rw [← HX.out]; simp [rd_T30, hlt]
      by_cases hq : x.f0.toList = key.toList
      · have hqb : (x.f0.toList == key.toList) = true := beq_iff_eq.mpr hq
        have HI2 : idx key l k = k := by rw [idx, dif_pos hlt, hx2, if_pos hq]
        have HI3 := Aside0.mk HI2
        clear hq HI2 hx2
        go_wp2_with (go_at_call 9; refine (pred_any _ _ key B _ (by assumption)).mono ?_; rintro e w' ⟨rfl, hb⟩)
        go_ret
        exact ⟨by rw [HI.out, HI3.out]; rfl, below_then HB.out hsz hb⟩
      · have hqb : (x.f0.toList == key.toList) = false := beq_eq_false_iff_ne.mpr hq
        have HI2 : idx key l k = idx key l (k + 1) := by rw [idx, dif_pos hlt, hx2, if_neg hq]
        have HI3 := Aside0.mk HI2
        clear hq HI2 hx2
        go_wp2_with (go_at_call 9; refine (pred_any _ _ key B _ (by assumption)).mono ?_; rintro e w' ⟨rfl, hb⟩)
        go_roundw
        case rel => exact ⟨k + 1, by omega, by go_num, ⟨HI.out.trans HI3.out⟩, ⟨below_then HB.out hsz hb⟩⟩
        case measure => simp [intOf]; omega
    · have HI2 : idx key l k = -1 := by rw [idx, dif_neg hlt]
      have HI3 := Aside0.mk HI2
      clear HI2
      go_wp2
      go_ret
      exact ⟨by rw [HI.out, HI3.out]; rfl, HB.out⟩

theorem idx_lt (key : ByteArray) (l : List S30) (i : Nat) : idx key l i < (l.length : Int) := by
  rw [idx]
  split
  · rename_i h
    split
    · omega
    · exact idx_lt key l (i + 1)
  · omega
termination_by l.length - i
theorem idx_cases (key : ByteArray) (l : List S30) (i : Nat) : idx key l i = -1 ∨ 0 ≤ idx key l i := by
  rw [idx]
  split
  · rename_i h
    split
    · omega
    · exact idx_cases key l (i + 1)
  · omega
termination_by l.length - i

/-- Find's answer: the value and the error's number. -/
def found (l : List S30) (key : ByteArray) : ByteArray := if idx key l 0 < 0 then ⟨#[]⟩ else (rd_T30 l (idx key l 0)).f1
def code (l : List S30) (key : ByteArray) : Int := if idx key l 0 < 0 then 4 else 0

set_option maxHeartbeats 1000000 in
theorem find_any (A : Option Addr) (c : Nat) (l : List S30) (key : ByteArray) (w : World) (hl : l.length ≤ 4611686018427387904) (hr : Kd.C k30 w A l.length l) :
    Calls Try.prog 5 #[.slice A l.length c, .string key] w fun e w' => e = .returned (.tuple #[.string (found l key), .int .i64 (code l key)]) ∧ Below w.heap.size w w' := by
  have HR := Aside0.mk hr
  clear hr
  have hlt := idx_lt key l 0
  rcases idx_cases key l 0 with h | h
  · have hf : found l key = ⟨#[]⟩ := by rw [found, if_pos (by omega)]
    have hk : code l key = 4 := by rw [code, if_pos (by omega)]
    have HF := Aside0.mk hf
    have HK := Aside0.mk hk
    have HH := Aside0.mk h
    clear hf hk h hlt
    go_enter Try.func5, Try.ntmps5
    go_wp2_with (go_at_call 8; refine (index_any A c l key w.heap.size _ hl (Kd.C_alloc HR.out _) (by simp)).mono ?_; rintro e w' ⟨rfl, hb⟩; rw [HH.out])
    go_ret2
    exact ⟨by rw [HF.out, HK.out]; rfl, below_then (below_alloc (Below.refl _ _) _) (by simp) hb⟩
  · have hf : found l key = (rd_T30 l (idx key l 0)).f1 := by rw [found, if_neg (by omega)]
    have hk : code l key = 0 := by rw [code, if_neg (by omega)]
    have HF := Aside0.mk hf
    have HK := Aside0.mk hk
    clear hf hk
    obtain ⟨ad, e, hx0, hx1⟩ := at_T30 HR.out (idx key l 0) h hlt
    cases e
    obtain ⟨x, hx⟩ : ∃ x, x = rd_T30 l (idx key l 0) := ⟨_, rfl⟩
    rw [← hx] at hx0 hx1 HF
    clear hx
    obtain ⟨i, hi⟩ : ∃ i, i = idx key l 0 := ⟨_, rfl⟩
    rw [← hi] at h hlt hx0 hx1
    have HI := Aside0.mk hi
    clear hi
    go_enter Try.func5, Try.ntmps5
    go_wp2_with (go_at_call 8; refine (index_any (some ad) c l key w.heap.size _ hl (Kd.C_alloc HR.out _) (by simp)).mono ?_; rintro e w' ⟨rfl, hb⟩; rw [← HI.out]; replace hb := below_then (below_alloc (Below.refl w.heap.size w) _) (by simp) hb; replace hx0 := (hb.cell (World.block_lt_of_cell? w _ hx0)).trans hx0; replace hx1 := (hb.cell (World.block_lt_of_cell? w _ hx1)).trans hx1)
    go_ret2
    exact ⟨by rw [HF.out, HK.out]; rfl, hb⟩
end Go.Proofs.Ytbidbjgklonbpaa.Mine
