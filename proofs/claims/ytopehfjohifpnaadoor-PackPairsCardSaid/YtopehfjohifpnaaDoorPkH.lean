/- tree: May, walked (printed by wip/gen/pkH.py). -/
import Derived.Test.YtopehfjohifpnaaDoorPkG
set_option linter.unusedSimpArgs false
set_option linter.unusedVariables false
namespace Go.Proofs.YtopehfjohifpnaaDoor.Mine
open Go.RowKit Go.Shelf Go.Proofs.YtopehfjohifpnaaDoorW.PrintWords Go.Proofs.YtopehfjohifpnaaDoorW.PrintLast Go.Proofs.YtopehfjohifpnaaDoorW.PrintMore Go.Proofs.YtopehfjohifpnaaDoor.Turn Go.Proofs.YtopehfjohifpnaaDoor.PPackPairs

theorem ne_emp {x : List UInt8} (h : ¬ x = []) : x.isEmpty = false := by cases x with
  | nil => exact absurd rfl h
  | cons a l => rfl

set_option maxRecDepth 100000 in
set_option maxHeartbeats 4000000 in
theorem may_1 (p : ByteArray) (m t : Int) (A : Option Addr) (b c : Nat) (q : ByteArray) (i : Int) (w : World) (hm : w.cell? ⟨1, 0, none⟩ = some (.int .i64 i)) : Calls Tryd.prog 20 #[.agg #[.string p, .int .u8 1, .int .i64 m, .int .i64 t, .slice A b c, .string q]] w fun e w' => e = .returned (.int .i64 (mayF p 1 m t b q)) ∧ Below w.heap.size w w' := by
  have hC := fun W => check_any p W
  have hO := fun W => of_any 1 W
  have hF := fun W => plain_any p 1 m t A b c q W
  obtain ⟨fv, hfv⟩ : ∃ fv, fv = (if 65536 < b then (2 : Int) else 0) := ⟨_, rfl⟩
  rw [← hfv] at hF
  have hq : q.toList.isEmpty = false → q.size ≠ 0 := ne0
  have hq' : q.toList.isEmpty = true → q.size = 0 := isEmpty_size.1
  rw [show okK 1 = true from rfl, show rulesV 1 = .agg #[.int .i64 4095, .int .i64 1099511627776, .bool true, .bool false, .func (.func 44) #[] #[]] from rfl] at hO
  have F1 : ((checkF p).2 != 0) = true → mayF p 1 m t b q = (checkF p).2 := fun h => by unfold mayF; rw [if_pos (bne_iff_ne.1 h)]
  have F2 : ((checkF p).2 != 0) = false → (t < 0 ∨ 1099511627776 < t ∨ m < 0 ∨ 4095 < m) → mayF p 1 m t b q = 1 := fun h h2 => by unfold mayF; rw [if_neg (fun e => e (by simpa using h)), if_pos (by simp; omega)]
  have F3 : ((checkF p).2 != 0) = false → 0 ≤ t → t ≤ 1099511627776 → 0 ≤ m → m ≤ 4095 → q.toList.isEmpty = false → mayF p 1 m t b q = 110 := fun h a1 a2 a3 a4 hc => by
    have hc' : (0 < b ∧ (1 : Int) ≠ 1) ∨ (q.size ≠ 0 ∧ ((1 : Int) = 1 ∨ (1 : Int) = 2)) := by
      first
        | exact .inr ⟨hq hc, by decide⟩
        | exact .inl ⟨by omega, by decide⟩
        | exact hc.elim (fun h => .inl ⟨by omega, by decide⟩) (fun h => .inr ⟨hq h, by decide⟩)
    unfold mayF mayT
    rw [if_neg (fun e => e (by simpa using h)), if_neg (by simp; omega)]
    rcases hc' with h5 | h5
    · rw [if_pos h5]
    · by_cases h6 : 0 < b ∧ (1 : Int) ≠ 1
      · rw [if_pos h6]
      · rw [if_neg h6, if_pos h5]
  have F4 : ((checkF p).2 != 0) = false → 0 ≤ t → t ≤ 1099511627776 → 0 ≤ m → m ≤ 4095 → q.toList.isEmpty = true → mayF p 1 m t b q = fv := fun h a1 a2 a3 a4 hn => by
    have hn1 : ¬ (0 < b ∧ (1 : Int) ≠ 1) := fun e => by
      first
        | exact e.2 rfl
        | (have := e.1; omega)
    have hn2 : ¬ (q.size ≠ 0 ∧ ((1 : Int) = 1 ∨ (1 : Int) = 2)) := fun e => by
      first
        | exact e.1 (hq' hn)
        | exact e.1 (hq' hn.2)
        | exact absurd e.2 (by decide)
    unfold mayF mayT
    rw [if_neg (fun e => e (by simpa using h)), if_neg (by simp; omega), if_neg hn1, if_neg hn2]
    rw [hfv]
    rfl
  have HF1 := Aside0.mk F1
  have HF2 := Aside0.mk F2
  have HF3 := Aside0.mk F3
  have HF4 := Aside0.mk F4
  clear F1 F2 F3 F4 hq hq' hfv
  generalize mayF p 1 m t b q = mf at *
  have hx0 := Blk.new w #[.string p, .int .u8 1, .int .i64 m, .int .i64 t, .slice A b c, .string q] 25
  have hlt : 1 < w.heap.size := Lib.lt_of_cell (a := ⟨1, 0, none⟩) hm
  go_enter Tryd.func20, Tryd.ntmps20
  go_wp2_with (first | (go_at_call 29; refine (hC _).mono ?_; rintro e w1 ⟨rfl, hB1⟩; have hx1 := (hB1.block _ hx0.lt).trans hx0; have b0 := (Blk.cell hx1 0).trans rfl; have b1 := (Blk.cell hx1 1).trans rfl; have b2 := (Blk.cell hx1 2).trans rfl; have b3 := (Blk.cell hx1 3).trans rfl; have b4 := (Blk.cell hx1 4).trans rfl; have b5 := (Blk.cell hx1 5).trans rfl; have hBa := (below_alloc (Below.refl _ w) _).trans (hB1.mono (by simp))) | (go_at_call 30; refine (hO _).mono ?_; rintro e w2 ⟨rfl, hB2⟩; have hx2 := (hB2.block _ (Blk.lt hx1)).trans hx1; have e0 := (Blk.cell hx2 0).trans rfl; have e1 := (Blk.cell hx2 1).trans rfl; have e2 := (Blk.cell hx2 2).trans rfl; have e3 := (Blk.cell hx2 3).trans rfl; have e4 := (Blk.cell hx2 4).trans rfl; have e5 := (Blk.cell hx2 5).trans rfl; have hl2 := Blk.lt hx2; have hBb := hBa.trans (hB2.mono hBa.size)) | (go_at_call 44; refine (hF _).mono ?_; rintro e w3 ⟨rfl, hB3⟩))
  all_goals
    go_ret
    refine ⟨congrArg (fun x => Ending.returned (Value.int .i64 x)) (?_ : _ = mf), ?_⟩
  all_goals
    first
      | exact (HF1.out (by assumption)).symm
      | exact (HF2.out (by assumption) (by omega)).symm
      | exact (HF3.out (by assumption) (by omega) (by omega) (by omega) (by omega) (by first | assumption | omega | exact ne_emp (by assumption) | (left; omega) | (right; assumption) | exact .inr (ne_emp (by assumption)))).symm
      | exact (HF4.out (by assumption) (by omega) (by omega) (by omega) (by omega) (by first | assumption | omega | exact List.isEmpty_iff.2 (by assumption) | exact ⟨by omega, by assumption⟩ | exact ⟨by omega, List.isEmpty_iff.2 (by assumption)⟩)).symm
      | exact absurd ‹(!q.toList.isEmpty) = false› (by rw [ne_emp (by assumption)]; decide)
      | exact hBa
      | exact below_alloc hBb _
      | exact (below_alloc hBb _).trans (hB3.mono (by simp; have := hBb.size; omega))

set_option maxRecDepth 100000 in
set_option maxHeartbeats 4000000 in
theorem may_2 (p : ByteArray) (m t : Int) (A : Option Addr) (b c : Nat) (q : ByteArray) (i : Int) (w : World) (hm : w.cell? ⟨1, 0, none⟩ = some (.int .i64 i)) : Calls Tryd.prog 20 #[.agg #[.string p, .int .u8 2, .int .i64 m, .int .i64 t, .slice A b c, .string q]] w fun e w' => e = .returned (.int .i64 (mayF p 2 m t b q)) ∧ Below w.heap.size w w' := by
  have hC := fun W => check_any p W
  have hO := fun W => of_any 2 W
  have hF := fun W => plain_any p 2 m t A b c q W
  obtain ⟨fv, hfv⟩ : ∃ fv, fv = (if 65536 < b then (2 : Int) else 0) := ⟨_, rfl⟩
  rw [← hfv] at hF
  have hq : q.toList.isEmpty = false → q.size ≠ 0 := ne0
  have hq' : q.toList.isEmpty = true → q.size = 0 := isEmpty_size.1
  rw [show okK 2 = true from rfl, show rulesV 2 = .agg #[.int .i64 4095, .int .i64 1099511627776, .bool false, .bool false, .func (.func 44) #[] #[]] from rfl] at hO
  have F1 : ((checkF p).2 != 0) = true → mayF p 2 m t b q = (checkF p).2 := fun h => by unfold mayF; rw [if_pos (bne_iff_ne.1 h)]
  have F2 : ((checkF p).2 != 0) = false → (t < 0 ∨ 1099511627776 < t ∨ m < 0 ∨ 4095 < m) → mayF p 2 m t b q = 1 := fun h h2 => by unfold mayF; rw [if_neg (fun e => e (by simpa using h)), if_pos (by simp; omega)]
  have F3 : ((checkF p).2 != 0) = false → 0 ≤ t → t ≤ 1099511627776 → 0 ≤ m → m ≤ 4095 → ((0 : Int) < b ∨ q.toList.isEmpty = false) → mayF p 2 m t b q = 110 := fun h a1 a2 a3 a4 hc => by
    have hc' : (0 < b ∧ (2 : Int) ≠ 1) ∨ (q.size ≠ 0 ∧ ((2 : Int) = 1 ∨ (2 : Int) = 2)) := by
      first
        | exact .inr ⟨hq hc, by decide⟩
        | exact .inl ⟨by omega, by decide⟩
        | exact hc.elim (fun h => .inl ⟨by omega, by decide⟩) (fun h => .inr ⟨hq h, by decide⟩)
    unfold mayF mayT
    rw [if_neg (fun e => e (by simpa using h)), if_neg (by simp; omega)]
    rcases hc' with h5 | h5
    · rw [if_pos h5]
    · by_cases h6 : 0 < b ∧ (2 : Int) ≠ 1
      · rw [if_pos h6]
      · rw [if_neg h6, if_pos h5]
  have F4 : ((checkF p).2 != 0) = false → 0 ≤ t → t ≤ 1099511627776 → 0 ≤ m → m ≤ 4095 → ((b : Int) ≤ 0 ∧ q.toList.isEmpty = true) → mayF p 2 m t b q = fv := fun h a1 a2 a3 a4 hn => by
    have hn1 : ¬ (0 < b ∧ (2 : Int) ≠ 1) := fun e => by
      first
        | exact e.2 rfl
        | (have := e.1; omega)
    have hn2 : ¬ (q.size ≠ 0 ∧ ((2 : Int) = 1 ∨ (2 : Int) = 2)) := fun e => by
      first
        | exact e.1 (hq' hn)
        | exact e.1 (hq' hn.2)
        | exact absurd e.2 (by decide)
    unfold mayF mayT
    rw [if_neg (fun e => e (by simpa using h)), if_neg (by simp; omega), if_neg hn1, if_neg hn2]
    rw [hfv]
    rfl
  have HF1 := Aside0.mk F1
  have HF2 := Aside0.mk F2
  have HF3 := Aside0.mk F3
  have HF4 := Aside0.mk F4
  clear F1 F2 F3 F4 hq hq' hfv
  generalize mayF p 2 m t b q = mf at *
  have hx0 := Blk.new w #[.string p, .int .u8 2, .int .i64 m, .int .i64 t, .slice A b c, .string q] 25
  have hlt : 1 < w.heap.size := Lib.lt_of_cell (a := ⟨1, 0, none⟩) hm
  go_enter Tryd.func20, Tryd.ntmps20
  go_wp2_with (first | (go_at_call 29; refine (hC _).mono ?_; rintro e w1 ⟨rfl, hB1⟩; have hx1 := (hB1.block _ hx0.lt).trans hx0; have b0 := (Blk.cell hx1 0).trans rfl; have b1 := (Blk.cell hx1 1).trans rfl; have b2 := (Blk.cell hx1 2).trans rfl; have b3 := (Blk.cell hx1 3).trans rfl; have b4 := (Blk.cell hx1 4).trans rfl; have b5 := (Blk.cell hx1 5).trans rfl; have hBa := (below_alloc (Below.refl _ w) _).trans (hB1.mono (by simp))) | (go_at_call 30; refine (hO _).mono ?_; rintro e w2 ⟨rfl, hB2⟩; have hx2 := (hB2.block _ (Blk.lt hx1)).trans hx1; have e0 := (Blk.cell hx2 0).trans rfl; have e1 := (Blk.cell hx2 1).trans rfl; have e2 := (Blk.cell hx2 2).trans rfl; have e3 := (Blk.cell hx2 3).trans rfl; have e4 := (Blk.cell hx2 4).trans rfl; have e5 := (Blk.cell hx2 5).trans rfl; have hl2 := Blk.lt hx2; have hBb := hBa.trans (hB2.mono hBa.size)) | (go_at_call 44; refine (hF _).mono ?_; rintro e w3 ⟨rfl, hB3⟩))
  all_goals
    go_ret
    refine ⟨congrArg (fun x => Ending.returned (Value.int .i64 x)) (?_ : _ = mf), ?_⟩
  all_goals
    first
      | exact (HF1.out (by assumption)).symm
      | exact (HF2.out (by assumption) (by omega)).symm
      | exact (HF3.out (by assumption) (by omega) (by omega) (by omega) (by omega) (by first | assumption | omega | exact ne_emp (by assumption) | (left; omega) | (right; assumption) | exact .inr (ne_emp (by assumption)))).symm
      | exact (HF4.out (by assumption) (by omega) (by omega) (by omega) (by omega) (by first | assumption | omega | exact List.isEmpty_iff.2 (by assumption) | exact ⟨by omega, by assumption⟩ | exact ⟨by omega, List.isEmpty_iff.2 (by assumption)⟩)).symm
      | exact absurd ‹(!q.toList.isEmpty) = false› (by rw [ne_emp (by assumption)]; decide)
      | exact hBa
      | exact below_alloc hBb _
      | exact (below_alloc hBb _).trans (hB3.mono (by simp; have := hBb.size; omega))

set_option maxRecDepth 100000 in
set_option maxHeartbeats 4000000 in
theorem may_3 (p : ByteArray) (m t : Int) (A : Option Addr) (b c : Nat) (q : ByteArray) (i : Int) (w : World) (hm : w.cell? ⟨1, 0, none⟩ = some (.int .i64 i)) : Calls Tryd.prog 20 #[.agg #[.string p, .int .u8 3, .int .i64 m, .int .i64 t, .slice A b c, .string q]] w fun e w' => e = .returned (.int .i64 (mayF p 3 m t b q)) ∧ Below w.heap.size w w' := by
  have hC := fun W => check_any p W
  have hO := fun W => of_any 3 W
  have hF := fun W => hard_any p 3 m t A b c q W
  obtain ⟨fv, hfv⟩ : ∃ fv, fv = (checkF q).2 := ⟨_, rfl⟩
  rw [← hfv] at hF
  have hq : q.toList.isEmpty = false → q.size ≠ 0 := ne0
  have hq' : q.toList.isEmpty = true → q.size = 0 := isEmpty_size.1
  rw [show okK 3 = true from rfl, show rulesV 3 = .agg #[.int .i64 0, .int .i64 0, .bool false, .bool true, .func (.func 45) #[] #[]] from rfl] at hO
  have F1 : ((checkF p).2 != 0) = true → mayF p 3 m t b q = (checkF p).2 := fun h => by unfold mayF; rw [if_pos (bne_iff_ne.1 h)]
  have F2 : ((checkF p).2 != 0) = false → (t < 0 ∨ 0 < t ∨ m < 0 ∨ 0 < m) → mayF p 3 m t b q = 1 := fun h h2 => by unfold mayF; rw [if_neg (fun e => e (by simpa using h)), if_pos (by simp; omega)]
  have F3 : ((checkF p).2 != 0) = false → 0 ≤ t → t ≤ 0 → 0 ≤ m → m ≤ 0 → ((0 : Int) < b) → mayF p 3 m t b q = 110 := fun h a1 a2 a3 a4 hc => by
    have hc' : (0 < b ∧ (3 : Int) ≠ 1) ∨ (q.size ≠ 0 ∧ ((3 : Int) = 1 ∨ (3 : Int) = 2)) := by
      first
        | exact .inr ⟨hq hc, by decide⟩
        | exact .inl ⟨by omega, by decide⟩
        | exact hc.elim (fun h => .inl ⟨by omega, by decide⟩) (fun h => .inr ⟨hq h, by decide⟩)
    unfold mayF mayT
    rw [if_neg (fun e => e (by simpa using h)), if_neg (by simp; omega)]
    rcases hc' with h5 | h5
    · rw [if_pos h5]
    · by_cases h6 : 0 < b ∧ (3 : Int) ≠ 1
      · rw [if_pos h6]
      · rw [if_neg h6, if_pos h5]
  have F4 : ((checkF p).2 != 0) = false → 0 ≤ t → t ≤ 0 → 0 ≤ m → m ≤ 0 → ((b : Int) ≤ 0) → mayF p 3 m t b q = fv := fun h a1 a2 a3 a4 hn => by
    have hn1 : ¬ (0 < b ∧ (3 : Int) ≠ 1) := fun e => by
      first
        | exact e.2 rfl
        | (have := e.1; omega)
    have hn2 : ¬ (q.size ≠ 0 ∧ ((3 : Int) = 1 ∨ (3 : Int) = 2)) := fun e => by
      first
        | exact e.1 (hq' hn)
        | exact e.1 (hq' hn.2)
        | exact absurd e.2 (by decide)
    unfold mayF mayT
    rw [if_neg (fun e => e (by simpa using h)), if_neg (by simp; omega), if_neg hn1, if_neg hn2]
    rw [hfv]
    rfl
  have HF1 := Aside0.mk F1
  have HF2 := Aside0.mk F2
  have HF3 := Aside0.mk F3
  have HF4 := Aside0.mk F4
  clear F1 F2 F3 F4 hq hq' hfv
  generalize mayF p 3 m t b q = mf at *
  have hx0 := Blk.new w #[.string p, .int .u8 3, .int .i64 m, .int .i64 t, .slice A b c, .string q] 25
  have hlt : 1 < w.heap.size := Lib.lt_of_cell (a := ⟨1, 0, none⟩) hm
  go_enter Tryd.func20, Tryd.ntmps20
  go_wp2_with (first | (go_at_call 29; refine (hC _).mono ?_; rintro e w1 ⟨rfl, hB1⟩; have hx1 := (hB1.block _ hx0.lt).trans hx0; have b0 := (Blk.cell hx1 0).trans rfl; have b1 := (Blk.cell hx1 1).trans rfl; have b2 := (Blk.cell hx1 2).trans rfl; have b3 := (Blk.cell hx1 3).trans rfl; have b4 := (Blk.cell hx1 4).trans rfl; have b5 := (Blk.cell hx1 5).trans rfl; have hBa := (below_alloc (Below.refl _ w) _).trans (hB1.mono (by simp))) | (go_at_call 30; refine (hO _).mono ?_; rintro e w2 ⟨rfl, hB2⟩; have hx2 := (hB2.block _ (Blk.lt hx1)).trans hx1; have e0 := (Blk.cell hx2 0).trans rfl; have e1 := (Blk.cell hx2 1).trans rfl; have e2 := (Blk.cell hx2 2).trans rfl; have e3 := (Blk.cell hx2 3).trans rfl; have e4 := (Blk.cell hx2 4).trans rfl; have e5 := (Blk.cell hx2 5).trans rfl; have hl2 := Blk.lt hx2; have hBb := hBa.trans (hB2.mono hBa.size)) | (go_at_call 45; refine (hF _).mono ?_; rintro e w3 ⟨rfl, hB3⟩))
  all_goals
    go_ret
    refine ⟨congrArg (fun x => Ending.returned (Value.int .i64 x)) (?_ : _ = mf), ?_⟩
  all_goals
    first
      | exact (HF1.out (by assumption)).symm
      | exact (HF2.out (by assumption) (by omega)).symm
      | exact (HF3.out (by assumption) (by omega) (by omega) (by omega) (by omega) (by first | assumption | omega | exact ne_emp (by assumption) | (left; omega) | (right; assumption) | exact .inr (ne_emp (by assumption)))).symm
      | exact (HF4.out (by assumption) (by omega) (by omega) (by omega) (by omega) (by first | assumption | omega | exact List.isEmpty_iff.2 (by assumption) | exact ⟨by omega, by assumption⟩ | exact ⟨by omega, List.isEmpty_iff.2 (by assumption)⟩)).symm
      | exact absurd ‹(!q.toList.isEmpty) = false› (by rw [ne_emp (by assumption)]; decide)
      | exact hBa
      | exact below_alloc hBb _
      | exact (below_alloc hBb _).trans (hB3.mono (by simp; have := hBb.size; omega))

set_option maxRecDepth 100000 in
set_option maxHeartbeats 4000000 in
theorem may_4 (p : ByteArray) (m t : Int) (A : Option Addr) (b c : Nat) (q : ByteArray) (i : Int) (w : World) (hm : w.cell? ⟨1, 0, none⟩ = some (.int .i64 i)) : Calls Tryd.prog 20 #[.agg #[.string p, .int .u8 4, .int .i64 m, .int .i64 t, .slice A b c, .string q]] w fun e w' => e = .returned (.int .i64 (mayF p 4 m t b q)) ∧ Below w.heap.size w w' := by
  have hC := fun W => check_any p W
  have hO := fun W => of_any 4 W
  have hF := fun W hm => soft_any p 4 m t A b c q i W hm
  obtain ⟨fv, hfv⟩ : ∃ fv, fv = leadE p q := ⟨_, rfl⟩
  rw [← hfv] at hF
  have hq : q.toList.isEmpty = false → q.size ≠ 0 := ne0
  have hq' : q.toList.isEmpty = true → q.size = 0 := isEmpty_size.1
  rw [show okK 4 = true from rfl, show rulesV 4 = .agg #[.int .i64 0, .int .i64 1099511627776, .bool false, .bool true, .func (.func 46) #[] #[]] from rfl] at hO
  have F1 : ((checkF p).2 != 0) = true → mayF p 4 m t b q = (checkF p).2 := fun h => by unfold mayF; rw [if_pos (bne_iff_ne.1 h)]
  have F2 : ((checkF p).2 != 0) = false → (t < 0 ∨ 1099511627776 < t ∨ m < 0 ∨ 0 < m) → mayF p 4 m t b q = 1 := fun h h2 => by unfold mayF; rw [if_neg (fun e => e (by simpa using h)), if_pos (by simp; omega)]
  have F3 : ((checkF p).2 != 0) = false → 0 ≤ t → t ≤ 1099511627776 → 0 ≤ m → m ≤ 0 → ((0 : Int) < b) → mayF p 4 m t b q = 110 := fun h a1 a2 a3 a4 hc => by
    have hc' : (0 < b ∧ (4 : Int) ≠ 1) ∨ (q.size ≠ 0 ∧ ((4 : Int) = 1 ∨ (4 : Int) = 2)) := by
      first
        | exact .inr ⟨hq hc, by decide⟩
        | exact .inl ⟨by omega, by decide⟩
        | exact hc.elim (fun h => .inl ⟨by omega, by decide⟩) (fun h => .inr ⟨hq h, by decide⟩)
    unfold mayF mayT
    rw [if_neg (fun e => e (by simpa using h)), if_neg (by simp; omega)]
    rcases hc' with h5 | h5
    · rw [if_pos h5]
    · by_cases h6 : 0 < b ∧ (4 : Int) ≠ 1
      · rw [if_pos h6]
      · rw [if_neg h6, if_pos h5]
  have F4 : ((checkF p).2 != 0) = false → 0 ≤ t → t ≤ 1099511627776 → 0 ≤ m → m ≤ 0 → ((b : Int) ≤ 0) → mayF p 4 m t b q = fv := fun h a1 a2 a3 a4 hn => by
    have hn1 : ¬ (0 < b ∧ (4 : Int) ≠ 1) := fun e => by
      first
        | exact e.2 rfl
        | (have := e.1; omega)
    have hn2 : ¬ (q.size ≠ 0 ∧ ((4 : Int) = 1 ∨ (4 : Int) = 2)) := fun e => by
      first
        | exact e.1 (hq' hn)
        | exact e.1 (hq' hn.2)
        | exact absurd e.2 (by decide)
    unfold mayF mayT
    rw [if_neg (fun e => e (by simpa using h)), if_neg (by simp; omega), if_neg hn1, if_neg hn2]
    rw [hfv]
    rfl
  have HF1 := Aside0.mk F1
  have HF2 := Aside0.mk F2
  have HF3 := Aside0.mk F3
  have HF4 := Aside0.mk F4
  clear F1 F2 F3 F4 hq hq' hfv
  generalize mayF p 4 m t b q = mf at *
  have hx0 := Blk.new w #[.string p, .int .u8 4, .int .i64 m, .int .i64 t, .slice A b c, .string q] 25
  have hlt : 1 < w.heap.size := Lib.lt_of_cell (a := ⟨1, 0, none⟩) hm
  go_enter Tryd.func20, Tryd.ntmps20
  go_wp2_with (first | (go_at_call 29; refine (hC _).mono ?_; rintro e w1 ⟨rfl, hB1⟩; have hx1 := (hB1.block _ hx0.lt).trans hx0; have b0 := (Blk.cell hx1 0).trans rfl; have b1 := (Blk.cell hx1 1).trans rfl; have b2 := (Blk.cell hx1 2).trans rfl; have b3 := (Blk.cell hx1 3).trans rfl; have b4 := (Blk.cell hx1 4).trans rfl; have b5 := (Blk.cell hx1 5).trans rfl; have hBa := (below_alloc (Below.refl _ w) _).trans (hB1.mono (by simp))) | (go_at_call 30; refine (hO _).mono ?_; rintro e w2 ⟨rfl, hB2⟩; have hx2 := (hB2.block _ (Blk.lt hx1)).trans hx1; have e0 := (Blk.cell hx2 0).trans rfl; have e1 := (Blk.cell hx2 1).trans rfl; have e2 := (Blk.cell hx2 2).trans rfl; have e3 := (Blk.cell hx2 3).trans rfl; have e4 := (Blk.cell hx2 4).trans rfl; have e5 := (Blk.cell hx2 5).trans rfl; have hl2 := Blk.lt hx2; have hBb := hBa.trans (hB2.mono hBa.size)) | (go_at_call 46; refine (hF _ (cell_alloc_l _ ((hBb.cell (p := ⟨1, 0, none⟩) hlt).trans hm))).mono ?_; rintro e w3 ⟨rfl, hB3⟩))
  all_goals
    go_ret
    refine ⟨congrArg (fun x => Ending.returned (Value.int .i64 x)) (?_ : _ = mf), ?_⟩
  all_goals
    first
      | exact (HF1.out (by assumption)).symm
      | exact (HF2.out (by assumption) (by omega)).symm
      | exact (HF3.out (by assumption) (by omega) (by omega) (by omega) (by omega) (by first | assumption | omega | exact ne_emp (by assumption) | (left; omega) | (right; assumption) | exact .inr (ne_emp (by assumption)))).symm
      | exact (HF4.out (by assumption) (by omega) (by omega) (by omega) (by omega) (by first | assumption | omega | exact List.isEmpty_iff.2 (by assumption) | exact ⟨by omega, by assumption⟩ | exact ⟨by omega, List.isEmpty_iff.2 (by assumption)⟩)).symm
      | exact absurd ‹(!q.toList.isEmpty) = false› (by rw [ne_emp (by assumption)]; decide)
      | exact hBa
      | exact below_alloc hBb _
      | exact (below_alloc hBb _).trans (hB3.mono (by simp; have := hBb.size; omega))

set_option maxRecDepth 100000 in
set_option maxHeartbeats 4000000 in
theorem may_0 (p : ByteArray) (k m t : Int) (hk : okK k = false) (A : Option Addr) (b c : Nat) (q : ByteArray) (w : World) : Calls Tryd.prog 20 #[.agg #[.string p, .int .u8 k, .int .i64 m, .int .i64 t, .slice A b c, .string q]] w fun e w' => e = .returned (.int .i64 (mayF p k m t b q)) ∧ Below w.heap.size w w' := by
  have hC := fun W => check_any p W
  have hO := fun W => of_any k W
  have hkk : k < 1 ∨ 4 < k := by unfold okK at hk; have := of_decide_eq_false hk; omega
  have hr : rulesV k = .agg #[.int .i64 0, .int .i64 0, .bool false, .bool false, .nilFunc] := by unfold rulesV; rw [if_neg (by omega), if_neg (by omega), if_neg (by omega), if_neg (by omega)]
  rw [hk, hr] at hO
  have F1 : ((checkF p).2 != 0) = true → mayF p k m t b q = (checkF p).2 := fun h => by unfold mayF; rw [if_pos (bne_iff_ne.1 h)]
  have F2 : ((checkF p).2 != 0) = false → mayF p k m t b q = 1 := fun h => by
    unfold mayF
    rw [if_neg (fun e => e (by simpa using h)), if_pos]
    rcases hkk with h1 | h1
    · exact .inl h1
    · exact .inr (.inl h1)
  have HF1 := Aside0.mk F1
  have HF2 := Aside0.mk F2
  clear F1 F2 hr hkk hk
  generalize mayF p k m t b q = mf at *
  have hx0 := Blk.new w #[.string p, .int .u8 k, .int .i64 m, .int .i64 t, .slice A b c, .string q] 25
  go_enter Tryd.func20, Tryd.ntmps20
  go_wp2_with (first | (go_at_call 29; refine (hC _).mono ?_; rintro e w1 ⟨rfl, hB1⟩; have hx1 := (hB1.block _ hx0.lt).trans hx0; have b0 := (Blk.cell hx1 0).trans rfl; have b1 := (Blk.cell hx1 1).trans rfl; have b2 := (Blk.cell hx1 2).trans rfl; have b3 := (Blk.cell hx1 3).trans rfl; have b4 := (Blk.cell hx1 4).trans rfl; have b5 := (Blk.cell hx1 5).trans rfl; have hBa := (below_alloc (Below.refl _ w) _).trans (hB1.mono (by simp))) | (go_at_call 30; refine (hO _).mono ?_; rintro e w2 ⟨rfl, hB2⟩; have hx2 := (hB2.block _ (Blk.lt hx1)).trans hx1; have e0 := (Blk.cell hx2 0).trans rfl; have e1 := (Blk.cell hx2 1).trans rfl; have e2 := (Blk.cell hx2 2).trans rfl; have e3 := (Blk.cell hx2 3).trans rfl; have e4 := (Blk.cell hx2 4).trans rfl; have e5 := (Blk.cell hx2 5).trans rfl; have hl2 := Blk.lt hx2; have hBb := hBa.trans (hB2.mono hBa.size)))
  all_goals
    go_ret
    refine ⟨congrArg (fun x => Ending.returned (Value.int .i64 x)) (?_ : _ = mf), ?_⟩
  all_goals
    first
      | exact (HF1.out (by assumption)).symm
      | exact (HF2.out (by assumption)).symm
      | exact hBa
      | exact below_alloc hBb _
theorem may_any (p : ByteArray) (k m t : Int) (A : Option Addr) (b c : Nat) (q : ByteArray) (i : Int) (w : World) (hm : w.cell? ⟨1, 0, none⟩ = some (.int .i64 i)) : Calls Tryd.prog 20 #[.agg #[.string p, .int .u8 k, .int .i64 m, .int .i64 t, .slice A b c, .string q]] w fun e w' => e = .returned (.int .i64 (mayF p k m t b q)) ∧ Below w.heap.size w w' := by
  by_cases h1 : k = 1
  · subst h1; exact may_1 p m t A b c q i w hm
  · by_cases h2 : k = 2
    · subst h2; exact may_2 p m t A b c q i w hm
    · by_cases h3 : k = 3
      · subst h3; exact may_3 p m t A b c q i w hm
      · by_cases h4 : k = 4
        · subst h4; exact may_4 p m t A b c q i w hm
        · exact may_0 p k m t (by unfold okK; rw [decide_eq_false]; omega) A b c q w
end Go.Proofs.YtopehfjohifpnaaDoor.Mine
