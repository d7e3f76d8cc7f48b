/- pax: Find. -/
import Derived.Test.YtbidbjgklonbpaaDoorPaxR
import Derived.WalkLawsBesides
set_option linter.unusedSimpArgs false
set_option linter.unusedVariables false
namespace Go.Proofs.YtbidbjgklonbpaaDoor.Mine
open Go.RowKit Go.Maps Go.Proofs.YtbidbjgklonbpaaDoorW.PrintWords Go.Proofs.YtbidbjgklonbpaaDoorW.PrintLast Go.Proofs.YtbidbjgklonbpaaDoorW.PrintMore Go.Proofs.YtbidbjgklonbpaaDoor.Turn Go.Proofs.YtbidbjgklonbpaaDoor.PPaxGets

set_option maxHeartbeats 400000 in
theorem pred_any (a b key : ByteArray) (B : Nat) (w : World) (hc : w.cell? ⟨B, 0, none⟩ = some (.string key)) :
    Calls Tryd.prog 43 #[.agg #[.string a, .string b], .pointer (some ⟨B, 0, none⟩)] w fun e w' => e = .returned (.bool (a.toList == key.toList)) ∧ Below w.heap.size w w' := by
  have hB : B < w.heap.size := World.block_lt_of_cell? w _ hc
  go_enter Tryd.func43, Tryd.ntmps43
  go_wp2
  go_ret
  exact ⟨rfl, below_alloc (Below.refl _ _) _⟩

/-- From place i on: the first pair of that key. -/
def fidx (key : ByteArray) (l : List S23) (i : Nat) : Int :=
  if h : i < l.length then (if l[i].f0.toList = key.toList then (i : Int) else fidx key l (i + 1)) else -1
termination_by l.length - i

set_option maxHeartbeats 1000000 in
theorem index_any (A : Option Addr) (c : Nat) (l : List S23) (key : ByteArray) (B : Nat) (w : World) (hl : l.length ≤ 4611686018427387904) (hr : Kd.C k23 w A l.length l) (hc : w.cell? ⟨B, 0, none⟩ = some (.string key)) :
    Calls Tryd.prog 42 #[.slice A l.length c, .func (.func 43) #[] #[.pointer (some ⟨B, 0, none⟩)]] w fun e w' => e = .returned (.int .i64 (fidx key l 0)) ∧ Below w.heap.size w w' := by
  have HR := Aside0.mk hr
  have HC := Aside0.mk hc
  have hB : B < w.heap.size := World.block_lt_of_cell? w _ hc
  clear hr hc
  go_enter Tryd.func42, Tryd.ntmps42
  go_wp2
  go_loopw [8] (fun i wr => ∃ k : Nat, k ≤ l.length ∧ i = .int .i64 k ∧ Aside0 (fidx key l 0 = fidx key l k) ∧ Aside0 (Below w.heap.size w wr)) (fun i _ => l.length - (intOf i).toNat)
  case atStart => exact ⟨0, Nat.zero_le _, rfl, ⟨rfl⟩, ⟨Below.refl _ _⟩⟩
  case round =>
    obtain ⟨k, hk, rfl, HI, HB⟩ := hrel
    have hsz : w.heap.size ≤ wr.heap.size := HB.out.size
    by_cases hlt : k < l.length
    · obtain ⟨ad, e, hx0, hx1⟩ := at_T23 HR.out (k : Int) (by omega) (by omega)
      cases e
      rw [Int.toNat_natCast] at hx0 hx1
      replace hx0 := (HB.out.cell (World.block_lt_of_cell? w _ hx0)).trans hx0
      replace hx1 := (HB.out.cell (World.block_lt_of_cell? w _ hx1)).trans hx1
      have hcr : wr.cell? ⟨B, 0, none⟩ = some (.string key) := (HB.out.cell hB).trans HC.out
      generalize hx : rd_T23 l (k : Int) = x at hx0 hx1
      have HX := Aside0.mk hx
      clear hx
      have hx2 : l[k] = x := by rw [← HX.out]; simp [rd_T23, hlt]
      by_cases hq : x.f0.toList = key.toList
      · have hqb : (x.f0.toList == key.toList) = true := beq_iff_eq.mpr hq
        have HI2 : fidx key l k = k := by rw [fidx, dif_pos hlt, hx2, if_pos hq]
        have HI3 := Aside0.mk HI2
        clear hq HI2 hx2
        go_wp2_with (go_at_call 43; refine (pred_any _ _ key B _ (by assumption)).mono ?_; rintro e w' ⟨rfl, hb⟩)
        go_ret
        exact ⟨by rw [HI.out, HI3.out]; rfl, below_then HB.out hsz hb⟩
      · have hqb : (x.f0.toList == key.toList) = false := beq_eq_false_iff_ne.mpr hq
        have HI2 : fidx key l k = fidx key l (k + 1) := by rw [fidx, dif_pos hlt, hx2, if_neg hq]
        have HI3 := Aside0.mk HI2
        clear hq HI2 hx2
        go_wp2_with (go_at_call 43; refine (pred_any _ _ key B _ (by assumption)).mono ?_; rintro e w' ⟨rfl, hb⟩)
        go_roundw
        case rel => exact ⟨k + 1, by omega, by go_num, ⟨HI.out.trans HI3.out⟩, ⟨below_then HB.out hsz hb⟩⟩
        case measure => simp [intOf]; omega
    · have HI2 : fidx key l k = -1 := by rw [fidx, dif_neg hlt]
      have HI3 := Aside0.mk HI2
      clear HI2
      go_wp2
      go_ret
      exact ⟨by rw [HI.out, HI3.out]; rfl, HB.out⟩

theorem fidx_lt (key : ByteArray) (l : List S23) (i : Nat) : fidx key l i < (l.length : Int) := by
  rw [fidx]
  split
  · rename_i h
    split
    · omega
    · exact fidx_lt key l (i + 1)
  · omega
termination_by l.length - i
theorem fidx_cases (key : ByteArray) (l : List S23) (i : Nat) : fidx key l i = -1 ∨ 0 ≤ fidx key l i := by
  rw [fidx]
  split
  · rename_i h
    split
    · omega
    · exact fidx_cases key l (i + 1)
  · omega
termination_by l.length - i

/-- Find's answer: the value and the error's number. -/
def foundP (l : List S23) (key : ByteArray) : ByteArray := if fidx key l 0 < 0 then ⟨#[]⟩ else (rd_T23 l (fidx key l 0)).f1
def codeP (l : List S23) (key : ByteArray) : Int := if fidx key l 0 < 0 then 4 else 0

set_option maxHeartbeats 1000000 in
theorem find_any (A : Option Addr) (c : Nat) (l : List S23) (key : ByteArray) (w : World) (hl : l.length ≤ 4611686018427387904) (hr : Kd.C k23 w A l.length l) :
    Calls Tryd.prog 30 #[.slice A l.length c, .string key] w fun e w' => e = .returned (.tuple #[.string (foundP l key), .int .i64 (codeP l key)]) ∧ Below w.heap.size w w' := by
  have HR := Aside0.mk hr
  clear hr
  have hlt := fidx_lt key l 0
  rcases fidx_cases key l 0 with h | h
  · have hf : foundP l key = ⟨#[]⟩ := by rw [foundP, if_pos (by omega)]
    have hk : codeP l key = 4 := by rw [codeP, if_pos (by omega)]
    have HF := Aside0.mk hf
    have HK := Aside0.mk hk
    have HH := Aside0.mk h
    clear hf hk h hlt
    go_enter Tryd.func30, Tryd.ntmps30
    go_wp2_with (go_at_call 42; refine (index_any A c l key w.heap.size _ hl (Kd.C_alloc HR.out _) (by simp)).mono ?_; rintro e w' ⟨rfl, hb⟩; rw [HH.out])
    go_ret2
    exact ⟨by rw [HF.out, HK.out]; rfl, below_then (below_alloc (Below.refl _ _) _) (by simp) hb⟩
  · have hf : foundP l key = (rd_T23 l (fidx key l 0)).f1 := by rw [foundP, if_neg (by omega)]
    have hk : codeP l key = 0 := by rw [codeP, if_neg (by omega)]
    have HF := Aside0.mk hf
    have HK := Aside0.mk hk
    clear hf hk
    obtain ⟨ad, e, hx0, hx1⟩ := at_T23 HR.out (fidx key l 0) h hlt
    cases e
    obtain ⟨x, hx⟩ : ∃ x, x = rd_T23 l (fidx key l 0) := ⟨_, rfl⟩
    rw [← hx] at hx0 hx1 HF
    clear hx
    obtain ⟨i, hi⟩ : ∃ i, i = fidx key l 0 := ⟨_, rfl⟩
    rw [← hi] at h hlt hx0 hx1
    have HI := Aside0.mk hi
    clear hi
    go_enter Tryd.func30, Tryd.ntmps30
    go_wp2_with (go_at_call 42; refine (index_any (some ad) c l key w.heap.size _ hl (Kd.C_alloc HR.out _) (by simp)).mono ?_; rintro e w' ⟨rfl, hb⟩; rw [← HI.out]; replace hb := below_then (below_alloc (Below.refl w.heap.size w) _) (by simp) hb; replace hx0 := (hb.cell (World.block_lt_of_cell? w _ hx0)).trans hx0; replace hx1 := (hb.cell (World.block_lt_of_cell? w _ hx1)).trans hx1)
    go_ret2
    exact ⟨by rw [HF.out, HK.out]; rfl, hb⟩

theorem fidx_spec (key : ByteArray) (l : List S23) (i : Nat) : (fidx key l i = -1 ∧ ∀ j (h : j < l.length), i ≤ j → l[j].f0.toList ≠ key.toList) ∨ ∃ j, ∃ h : j < l.length, fidx key l i = (j : Int) ∧ l[j].f0.toList = key.toList := by
  rw [fidx]
  split
  · rename_i h
    split
    · rename_i h2
      exact .inr ⟨i, h, rfl, h2⟩
    · rename_i h2
      rcases fidx_spec key l (i + 1) with ⟨h3, h4⟩ | h3
      · refine .inl ⟨h3, fun j hj hij => ?_⟩
        rcases Nat.eq_or_lt_of_le hij with e | e
        · subst e; exact h2
        · exact h4 j hj e
      · exact .inr h3
  · exact .inl ⟨rfl, fun j hj hij => by omega⟩
termination_by l.length - i
theorem find_mem {key : ByteArray} {l : List S23} (hs : Srt l) {p : S23} (hp : p ∈ l) (hk : p.f0.toList = key.toList) : foundP l key = p.f1 ∧ codeP l key = 0 := by
  rcases fidx_spec key l 0 with ⟨h1, h2⟩ | ⟨j, hj, h1, h2⟩
  · obtain ⟨i, hi, rfl⟩ := List.getElem_of_mem hp
    exact absurd hk (h2 i hi (Nat.zero_le _))
  · unfold foundP codeP
    rw [h1, if_neg (by omega), if_neg (by omega)]
    have e : l[j] = p := srt_uniq hs (List.getElem_mem hj) hp (by rw [← kB_toList, ← kB_toList, h2, hk])
    refine ⟨?_, rfl⟩
    rw [← e]
    unfold rd_T23
    rw [Int.toNat_natCast, List.getD_eq_getElem?_getD, List.getElem?_eq_getElem hj]
    rfl
theorem find_none {key : ByteArray} {l : List S23} (h : ∀ p ∈ l, p.f0.toList ≠ key.toList) : foundP l key = ⟨#[]⟩ ∧ codeP l key = 4 := by
  rcases fidx_spec key l 0 with ⟨h1, h2⟩ | ⟨j, hj, h1, h2⟩
  · unfold foundP codeP
    rw [h1, if_pos (by omega), if_pos (by omega)]
    exact ⟨rfl, rfl⟩
  · exact absurd h2 (h _ (List.getElem_mem hj))
/-- Each key has the value of the last list that has it. -/
theorem find_mg {l m : List S23} (hl : Srt l) (hm : Srt m) (key : ByteArray) : foundP (mg l m) key = (if codeP m key = 0 then foundP m key else foundP l key) ∧ codeP (mg l m) key = (if codeP m key = 0 then codeP m key else codeP l key) := by
  have hs := mg_srt l m hl hm
  by_cases h : ∃ p ∈ m, p.f0.toList = key.toList
  · obtain ⟨p, hp, hk⟩ := h
    obtain ⟨a1, a2⟩ := find_mem hm hp hk
    obtain ⟨b1, b2⟩ := find_mem hs ((mg_mem l m hl hm p).2 (.inl hp)) hk
    rw [a1, a2, b1, b2]
    exact ⟨rfl, rfl⟩
  · have hn : ∀ p ∈ m, p.f0.toList ≠ key.toList := fun p hp e => h ⟨p, hp, e⟩
    obtain ⟨a1, a2⟩ := find_none hn
    rw [a2, if_neg (by decide), if_neg (by decide)]
    by_cases h2 : ∃ p ∈ l, p.f0.toList = key.toList
    · obtain ⟨p, hp, hk⟩ := h2
      obtain ⟨c1, c2⟩ := find_mem hl hp hk
      obtain ⟨b1, b2⟩ := find_mem hs ((mg_mem l m hl hm p).2 (.inr ⟨hp, fun q hq e => hn q hq (by rw [kB_toList, e, ← kB_toList, hk])⟩)) hk
      rw [c1, c2, b1, b2]
      exact ⟨rfl, rfl⟩
    · obtain ⟨c1, c2⟩ := find_none (key := key) (l := l) (fun p hp e => h2 ⟨p, hp, e⟩)
      obtain ⟨b1, b2⟩ := find_none (key := key) (l := mg l m) (fun p hp e => by
        rcases mg_mem_le _ _ p hp with h3 | h3
        · exact h2 ⟨p, h3, e⟩
        · exact hn p h3 e)
      rw [c1, c2, b1, b2]
      exact ⟨rfl, rfl⟩
theorem codeP_rg (l : List S23) (key : ByteArray) : codeP l key = 4 ∨ codeP l key = 0 := by
  unfold codeP
  split
  · exact .inl rfl
  · exact .inr rfl
end Go.Proofs.YtbidbjgklonbpaaDoor.Mine
