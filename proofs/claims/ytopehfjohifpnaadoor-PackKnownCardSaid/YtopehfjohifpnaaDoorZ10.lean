import Derived.Test.YtopehfjohifpnaaDoorZ9
import Derived.Test.YtopehfjohifpnaaDoorZ3
import Derived.Lib.TrimUEq
import Derived.Lib.OthersKept
section
set_option linter.unusedSimpArgs false
set_option linter.unusedVariables false
namespace Go.Proofs.YtopehfjohifpnaaDoor.Mine
open Go.RowKit Go.Shelf Go.Proofs.YtopehfjohifpnaaDoorW.PrintWords Go.Proofs.YtopehfjohifpnaaDoorW.PrintLast Go.Proofs.YtopehfjohifpnaaDoorW.PrintMore Go.Proofs.YtopehfjohifpnaaDoor.Turn Go.Proofs.YtopehfjohifpnaaDoor.Doc
theorem ne_emp {x : List UInt8} (h : ¬ x = []) : x.isEmpty = false := by cases x with
  | nil => exact absurd rfl h
  | cons a l => rfl
set_option maxRecDepth 100000 in
set_option maxHeartbeats 4000000 in
theorem may_1 (p : ByteArray) (m t : Int) (A : Option Addr) (b c : Nat) (q : ByteArray) (i : Int) (w : World) (hm : w.cell? ⟨1, 0, none⟩ = some (.int .i64 i)) : Calls Tryd.prog 20 #[.agg #[.string p, .int .u8 1, .int .i64 m, .int .i64 t, .slice A b c, .string q]] w fun e w' => e = .returned (.int .i64 (mayF p 1 m t b q)) ∧ Below w.heap.size w w' := by
  have hC := fun W => check_any p W
  have hO := fun W => of_any 1 W
  have hF := fun W => plain_any p 1 m t A b c q W
  obtain ⟨fv, hfv⟩ : ∃ fv, fv = (if 65536 < b then (2 : Int) else 0) := ⟨_, rfl⟩
  rw [← hfv] at hF
  have hq : q.toList.isEmpty = false → q.size ≠ 0 := ne0
  have hq' : q.toList.isEmpty = true → q.size = 0 := isEmpty_size.1
  rw [show okK 1 = true from rfl, show rulesV 1 = .agg #[.int .i64 4095, .int .i64 1099511627776, .bool true, .bool false, .func (.func 44) #[] #[]] from rfl] at hO
  have F1 : ((checkF p).2 != 0) = true → mayF p 1 m t b q = (checkF p).2 := fun h => by unfold mayF; rw [if_pos (bne_iff_ne.1 h)]
  have F2 : ((checkF p).2 != 0) = false → (t < 0 ∨ 1099511627776 < t ∨ m < 0 ∨ 4095 < m) → mayF p 1 m t b q = 1 := fun h h2 => by unfold mayF; rw [if_neg (fun e => e (by simpa using h)), if_pos (by simp; omega)]
  have F3 : ((checkF p).2 != 0) = false → 0 ≤ t → t ≤ 1099511627776 → 0 ≤ m → m ≤ 4095 → q.toList.isEmpty = false → mayF p 1 m t b q = 110 := fun h a1 a2 a3 a4 hc => by
    have hc' : (0 < b ∧ (1 : Int) ≠ 1) ∨ (q.size ≠ 0 ∧ ((1 : Int) = 1 ∨ (1 : Int) = 2)) := by
      first
        | exact .inr ⟨hq hc, by decide⟩
        | exact .inl ⟨by omega, by decide⟩
        | exact hc.elim (fun h => .inl ⟨by omega, by decide⟩) (fun h => .inr ⟨hq h, by decide⟩)
    unfold mayF mayT
    rw [if_neg (fun e => e (by simpa using h)), if_neg (by simp; omega)]
    rcases hc' with h5 | h5
    · rw [if_pos h5]
    · by_cases h6 : 0 < b ∧ (1 : Int) ≠ 1
      · rw [if_pos h6]
      · rw [if_neg h6, if_pos h5]
  have F4 : ((checkF p).2 != 0) = false → 0 ≤ t → t ≤ 1099511627776 → 0 ≤ m → m ≤ 4095 → q.toList.isEmpty = true → mayF p 1 m t b q = fv := fun h a1 a2 a3 a4 hn => by
    have hn1 : ¬ (0 < b ∧ (1 : Int) ≠ 1) := fun e => by
      first
        | exact e.2 rfl
        | (have := e.1; omega)
    have hn2 : ¬ (q.size ≠ 0 ∧ ((1 : Int) = 1 ∨ (1 : Int) = 2)) := fun e => by
      first
        | exact e.1 (hq' hn)
        | exact e.1 (hq' hn.2)
        | exact absurd e.2 (by decide)
    unfold mayF mayT
    rw [if_neg (fun e => e (by simpa using h)), if_neg (by simp; omega), if_neg hn1, if_neg hn2]
    rw [hfv]
    rfl
  have HF1 := Aside0.mk F1
  have HF2 := Aside0.mk F2
  have HF3 := Aside0.mk F3
  have HF4 := Aside0.mk F4
  clear F1 F2 F3 F4 hq hq' hfv
  generalize mayF p 1 m t b q = mf at *
  have hx0 := Blk.new w #[.string p, .int .u8 1, .int .i64 m, .int .i64 t, .slice A b c, .string q] 25
  have hlt : 1 < w.heap.size := Lib.lt_of_cell (a := ⟨1, 0, none⟩) hm
  go_enter Tryd.func20, Tryd.ntmps20
  go_wp2_with (first | (go_at_call 29; refine (hC _).mono ?_; rintro e w1 ⟨rfl, hB1⟩; have hx1 := (hB1.block _ hx0.lt).trans hx0; have b0 := (Blk.cell hx1 0).trans rfl; have b1 := (Blk.cell hx1 1).trans rfl; have b2 := (Blk.cell hx1 2).trans rfl; have b3 := (Blk.cell hx1 3).trans rfl; have b4 := (Blk.cell hx1 4).trans rfl; have b5 := (Blk.cell hx1 5).trans rfl; have hBa := (below_alloc (Below.refl _ w) _).trans (hB1.mono (by simp))) | (go_at_call 30; refine (hO _).mono ?_; rintro e w2 ⟨rfl, hB2⟩; have hx2 := (hB2.block _ (Blk.lt hx1)).trans hx1; have e0 := (Blk.cell hx2 0).trans rfl; have e1 := (Blk.cell hx2 1).trans rfl; have e2 := (Blk.cell hx2 2).trans rfl; have e3 := (Blk.cell hx2 3).trans rfl; have e4 := (Blk.cell hx2 4).trans rfl; have e5 := (Blk.cell hx2 5).trans rfl; have hl2 := Blk.lt hx2; have hBb := hBa.trans (hB2.mono hBa.size)) | (go_at_call 44; refine (hF _).mono ?_; rintro e w3 ⟨rfl, hB3⟩))
  all_goals
    go_ret
    refine ⟨congrArg (fun x => Ending.returned (Value.int .i64 x)) (?_ : _ = mf), ?_⟩
  all_goals
    first
      | exact (HF1.out (by assumption)).symm
      | exact (HF2.out (by assumption) (by omega)).symm
      | exact (HF3.out (by assumption) (by omega) (by omega) (by omega) (by omega) (by first | assumption | omega | exact ne_emp (by assumption) | (left; omega) | (right; assumption) | exact .inr (ne_emp (by assumption)))).symm
      | exact (HF4.out (by assumption) (by omega) (by omega) (by omega) (by omega) (by first | assumption | omega | exact List.isEmpty_iff.2 (by assumption) | exact ⟨by omega, by assumption⟩ | exact ⟨by omega, List.isEmpty_iff.2 (by assumption)⟩)).symm
      | exact absurd ‹(!q.toList.isEmpty) = false› (by rw [ne_emp (by assumption)]; decide)
      | exact hBa
      | exact below_alloc hBb _
      | exact (below_alloc hBb _).trans (hB3.mono (by simp; have := hBb.size; omega))
set_option maxRecDepth 100000 in
set_option maxHeartbeats 4000000 in
theorem may_2 (p : ByteArray) (m t : Int) (A : Option Addr) (b c : Nat) (q : ByteArray) (i : Int) (w : World) (hm : w.cell? ⟨1, 0, none⟩ = some (.int .i64 i)) : Calls Tryd.prog 20 #[.agg #[.string p, .int .u8 2, .int .i64 m, .int .i64 t, .slice A b c, .string q]] w fun e w' => e = .returned (.int .i64 (mayF p 2 m t b q)) ∧ Below w.heap.size w w' := by
  have hC := fun W => check_any p W
  have hO := fun W => of_any 2 W
  have hF := fun W => plain_any p 2 m t A b c q W
  obtain ⟨fv, hfv⟩ : ∃ fv, fv = (if 65536 < b then (2 : Int) else 0) := ⟨_, rfl⟩
  rw [← hfv] at hF
  have hq : q.toList.isEmpty = false → q.size ≠ 0 := ne0
  have hq' : q.toList.isEmpty = true → q.size = 0 := isEmpty_size.1
  rw [show okK 2 = true from rfl, show rulesV 2 = .agg #[.int .i64 4095, .int .i64 1099511627776, .bool false, .bool false, .func (.func 44) #[] #[]] from rfl] at hO
  have F1 : ((checkF p).2 != 0) = true → mayF p 2 m t b q = (checkF p).2 := fun h => by unfold mayF; rw [if_pos (bne_iff_ne.1 h)]
  have F2 : ((checkF p).2 != 0) = false → (t < 0 ∨ 1099511627776 < t ∨ m < 0 ∨ 4095 < m) → mayF p 2 m t b q = 1 := fun h h2 => by unfold mayF; rw [if_neg (fun e => e (by simpa using h)), if_pos (by simp; omega)]
  have F3 : ((checkF p).2 != 0) = false → 0 ≤ t → t ≤ 1099511627776 → 0 ≤ m → m ≤ 4095 → ((0 : Int) < b ∨ q.toList.isEmpty = false) → mayF p 2 m t b q = 110 := fun h a1 a2 a3 a4 hc => by
    have hc' : (0 < b ∧ (2 : Int) ≠ 1) ∨ (q.size ≠ 0 ∧ ((2 : Int) = 1 ∨ (2 : Int) = 2)) := by
      first
        | exact .inr ⟨hq hc, by decide⟩
        | exact .inl ⟨by omega, by decide⟩
        | exact hc.elim (fun h => .inl ⟨by omega, by decide⟩) (fun h => .inr ⟨hq h, by decide⟩)
    unfold mayF mayT
    rw [if_neg (fun e => e (by simpa using h)), if_neg (by simp; omega)]
    rcases hc' with h5 | h5
    · rw [if_pos h5]
    · by_cases h6 : 0 < b ∧ (2 : Int) ≠ 1
      · rw [if_pos h6]
      · rw [if_neg h6, if_pos h5]
  have F4 : ((checkF p).2 != 0) = false → 0 ≤ t → t ≤ 1099511627776 → 0 ≤ m → m ≤ 4095 → ((b : Int) ≤ 0 ∧ q.toList.isEmpty = true) → mayF p 2 m t b q = fv := fun h a1 a2 a3 a4 hn => by
    have hn1 : ¬ (0 < b ∧ (2 : Int) ≠ 1) := fun e => by
      first
        | exact e.2 rfl
        | (have := e.1; omega)
    have hn2 : ¬ (q.size ≠ 0 ∧ ((2 : Int) = 1 ∨ (2 : Int) = 2)) := fun e => by
      first
        | exact e.1 (hq' hn)
        | exact e.1 (hq' hn.2)
        | exact absurd e.2 (by decide)
    unfold mayF mayT
    rw [if_neg (fun e => e (by simpa using h)), if_neg (by simp; omega), if_neg hn1, if_neg hn2]
    rw [hfv]
    rfl
  have HF1 := Aside0.mk F1
  have HF2 := Aside0.mk F2
  have HF3 := Aside0.mk F3
  have HF4 := Aside0.mk F4
  clear F1 F2 F3 F4 hq hq' hfv
  generalize mayF p 2 m t b q = mf at *
  have hx0 := Blk.new w #[.string p, .int .u8 2, .int .i64 m, .int .i64 t, .slice A b c, .string q] 25
  have hlt : 1 < w.heap.size := Lib.lt_of_cell (a := ⟨1, 0, none⟩) hm
  go_enter Tryd.func20, Tryd.ntmps20
  go_wp2_with (first | (go_at_call 29; refine (hC _).mono ?_; rintro e w1 ⟨rfl, hB1⟩; have hx1 := (hB1.block _ hx0.lt).trans hx0; have b0 := (Blk.cell hx1 0).trans rfl; have b1 := (Blk.cell hx1 1).trans rfl; have b2 := (Blk.cell hx1 2).trans rfl; have b3 := (Blk.cell hx1 3).trans rfl; have b4 := (Blk.cell hx1 4).trans rfl; have b5 := (Blk.cell hx1 5).trans rfl; have hBa := (below_alloc (Below.refl _ w) _).trans (hB1.mono (by simp))) | (go_at_call 30; refine (hO _).mono ?_; rintro e w2 ⟨rfl, hB2⟩; have hx2 := (hB2.block _ (Blk.lt hx1)).trans hx1; have e0 := (Blk.cell hx2 0).trans rfl; have e1 := (Blk.cell hx2 1).trans rfl; have e2 := (Blk.cell hx2 2).trans rfl; have e3 := (Blk.cell hx2 3).trans rfl; have e4 := (Blk.cell hx2 4).trans rfl; have e5 := (Blk.cell hx2 5).trans rfl; have hl2 := Blk.lt hx2; have hBb := hBa.trans (hB2.mono hBa.size)) | (go_at_call 44; refine (hF _).mono ?_; rintro e w3 ⟨rfl, hB3⟩))
  all_goals
    go_ret
    refine ⟨congrArg (fun x => Ending.returned (Value.int .i64 x)) (?_ : _ = mf), ?_⟩
  all_goals
    first
      | exact (HF1.out (by assumption)).symm
      | exact (HF2.out (by assumption) (by omega)).symm
      | exact (HF3.out (by assumption) (by omega) (by omega) (by omega) (by omega) (by first | assumption | omega | exact ne_emp (by assumption) | (left; omega) | (right; assumption) | exact .inr (ne_emp (by assumption)))).symm
      | exact (HF4.out (by assumption) (by omega) (by omega) (by omega) (by omega) (by first | assumption | omega | exact List.isEmpty_iff.2 (by assumption) | exact ⟨by omega, by assumption⟩ | exact ⟨by omega, List.isEmpty_iff.2 (by assumption)⟩)).symm
      | exact absurd ‹(!q.toList.isEmpty) = false› (by rw [ne_emp (by assumption)]; decide)
      | exact hBa
      | exact below_alloc hBb _
      | exact (below_alloc hBb _).trans (hB3.mono (by simp; have := hBb.size; omega))
set_option maxRecDepth 100000 in
set_option maxHeartbeats 4000000 in
theorem may_3 (p : ByteArray) (m t : Int) (A : Option Addr) (b c : Nat) (q : ByteArray) (i : Int) (w : World) (hm : w.cell? ⟨1, 0, none⟩ = some (.int .i64 i)) : Calls Tryd.prog 20 #[.agg #[.string p, .int .u8 3, .int .i64 m, .int .i64 t, .slice A b c, .string q]] w fun e w' => e = .returned (.int .i64 (mayF p 3 m t b q)) ∧ Below w.heap.size w w' := by
  have hC := fun W => check_any p W
  have hO := fun W => of_any 3 W
  have hF := fun W => hard_any p 3 m t A b c q W
  obtain ⟨fv, hfv⟩ : ∃ fv, fv = (checkF q).2 := ⟨_, rfl⟩
  rw [← hfv] at hF
  have hq : q.toList.isEmpty = false → q.size ≠ 0 := ne0
  have hq' : q.toList.isEmpty = true → q.size = 0 := isEmpty_size.1
  rw [show okK 3 = true from rfl, show rulesV 3 = .agg #[.int .i64 0, .int .i64 0, .bool false, .bool true, .func (.func 45) #[] #[]] from rfl] at hO
  have F1 : ((checkF p).2 != 0) = true → mayF p 3 m t b q = (checkF p).2 := fun h => by unfold mayF; rw [if_pos (bne_iff_ne.1 h)]
  have F2 : ((checkF p).2 != 0) = false → (t < 0 ∨ 0 < t ∨ m < 0 ∨ 0 < m) → mayF p 3 m t b q = 1 := fun h h2 => by unfold mayF; rw [if_neg (fun e => e (by simpa using h)), if_pos (by simp; omega)]
  have F3 : ((checkF p).2 != 0) = false → 0 ≤ t → t ≤ 0 → 0 ≤ m → m ≤ 0 → ((0 : Int) < b) → mayF p 3 m t b q = 110 := fun h a1 a2 a3 a4 hc => by
    have hc' : (0 < b ∧ (3 : Int) ≠ 1) ∨ (q.size ≠ 0 ∧ ((3 : Int) = 1 ∨ (3 : Int) = 2)) := by
      first
        | exact .inr ⟨hq hc, by decide⟩
        | exact .inl ⟨by omega, by decide⟩
        | exact hc.elim (fun h => .inl ⟨by omega, by decide⟩) (fun h => .inr ⟨hq h, by decide⟩)
    unfold mayF mayT
    rw [if_neg (fun e => e (by simpa using h)), if_neg (by simp; omega)]
    rcases hc' with h5 | h5
    · rw [if_pos h5]
    · by_cases h6 : 0 < b ∧ (3 : Int) ≠ 1
      · rw [if_pos h6]
      · rw [if_neg h6, if_pos h5]
  have F4 : ((checkF p).2 != 0) = false → 0 ≤ t → t ≤ 0 → 0 ≤ m → m ≤ 0 → ((b : Int) ≤ 0) → mayF p 3 m t b q = fv := fun h a1 a2 a3 a4 hn => by
    have hn1 : ¬ (0 < b ∧ (3 : Int) ≠ 1) := fun e => by
      first
        | exact e.2 rfl
        | (have := e.1; omega)
    have hn2 : ¬ (q.size ≠ 0 ∧ ((3 : Int) = 1 ∨ (3 : Int) = 2)) := fun e => by
      first
        | exact e.1 (hq' hn)
        | exact e.1 (hq' hn.2)
        | exact absurd e.2 (by decide)
    unfold mayF mayT
    rw [if_neg (fun e => e (by simpa using h)), if_neg (by simp; omega), if_neg hn1, if_neg hn2]
    rw [hfv]
    rfl
  have HF1 := Aside0.mk F1
  have HF2 := Aside0.mk F2
  have HF3 := Aside0.mk F3
  have HF4 := Aside0.mk F4
  clear F1 F2 F3 F4 hq hq' hfv
  generalize mayF p 3 m t b q = mf at *
  have hx0 := Blk.new w #[.string p, .int .u8 3, .int .i64 m, .int .i64 t, .slice A b c, .string q] 25
  have hlt : 1 < w.heap.size := Lib.lt_of_cell (a := ⟨1, 0, none⟩) hm
  go_enter Tryd.func20, Tryd.ntmps20
  go_wp2_with (first | (go_at_call 29; refine (hC _).mono ?_; rintro e w1 ⟨rfl, hB1⟩; have hx1 := (hB1.block _ hx0.lt).trans hx0; have b0 := (Blk.cell hx1 0).trans rfl; have b1 := (Blk.cell hx1 1).trans rfl; have b2 := (Blk.cell hx1 2).trans rfl; have b3 := (Blk.cell hx1 3).trans rfl; have b4 := (Blk.cell hx1 4).trans rfl; have b5 := (Blk.cell hx1 5).trans rfl; have hBa := (below_alloc (Below.refl _ w) _).trans (hB1.mono (by simp))) | (go_at_call 30; refine (hO _).mono ?_; rintro e w2 ⟨rfl, hB2⟩; have hx2 := (hB2.block _ (Blk.lt hx1)).trans hx1; have e0 := (Blk.cell hx2 0).trans rfl; have e1 := (Blk.cell hx2 1).trans rfl; have e2 := (Blk.cell hx2 2).trans rfl; have e3 := (Blk.cell hx2 3).trans rfl; have e4 := (Blk.cell hx2 4).trans rfl; have e5 := (Blk.cell hx2 5).trans rfl; have hl2 := Blk.lt hx2; have hBb := hBa.trans (hB2.mono hBa.size)) | (go_at_call 45; refine (hF _).mono ?_; rintro e w3 ⟨rfl, hB3⟩))
  all_goals
    go_ret
    refine ⟨congrArg (fun x => Ending.returned (Value.int .i64 x)) (?_ : _ = mf), ?_⟩
  all_goals
    first
      | exact (HF1.out (by assumption)).symm
      | exact (HF2.out (by assumption) (by omega)).symm
      | exact (HF3.out (by assumption) (by omega) (by omega) (by omega) (by omega) (by first | assumption | omega | exact ne_emp (by assumption) | (left; omega) | (right; assumption) | exact .inr (ne_emp (by assumption)))).symm
      | exact (HF4.out (by assumption) (by omega) (by omega) (by omega) (by omega) (by first | assumption | omega | exact List.isEmpty_iff.2 (by assumption) | exact ⟨by omega, by assumption⟩ | exact ⟨by omega, List.isEmpty_iff.2 (by assumption)⟩)).symm
      | exact absurd ‹(!q.toList.isEmpty) = false› (by rw [ne_emp (by assumption)]; decide)
      | exact hBa
      | exact below_alloc hBb _
      | exact (below_alloc hBb _).trans (hB3.mono (by simp; have := hBb.size; omega))
set_option maxRecDepth 100000 in
set_option maxHeartbeats 4000000 in
theorem may_4 (p : ByteArray) (m t : Int) (A : Option Addr) (b c : Nat) (q : ByteArray) (i : Int) (w : World) (hm : w.cell? ⟨1, 0, none⟩ = some (.int .i64 i)) : Calls Tryd.prog 20 #[.agg #[.string p, .int .u8 4, .int .i64 m, .int .i64 t, .slice A b c, .string q]] w fun e w' => e = .returned (.int .i64 (mayF p 4 m t b q)) ∧ Below w.heap.size w w' := by
  have hC := fun W => check_any p W
  have hO := fun W => of_any 4 W
  have hF := fun W hm => soft_any p 4 m t A b c q i W hm
  obtain ⟨fv, hfv⟩ : ∃ fv, fv = leadE p q := ⟨_, rfl⟩
  rw [← hfv] at hF
  have hq : q.toList.isEmpty = false → q.size ≠ 0 := ne0
  have hq' : q.toList.isEmpty = true → q.size = 0 := isEmpty_size.1
  rw [show okK 4 = true from rfl, show rulesV 4 = .agg #[.int .i64 0, .int .i64 1099511627776, .bool false, .bool true, .func (.func 46) #[] #[]] from rfl] at hO
  have F1 : ((checkF p).2 != 0) = true → mayF p 4 m t b q = (checkF p).2 := fun h => by unfold mayF; rw [if_pos (bne_iff_ne.1 h)]
  have F2 : ((checkF p).2 != 0) = false → (t < 0 ∨ 1099511627776 < t ∨ m < 0 ∨ 0 < m) → mayF p 4 m t b q = 1 := fun h h2 => by unfold mayF; rw [if_neg (fun e => e (by simpa using h)), if_pos (by simp; omega)]
  have F3 : ((checkF p).2 != 0) = false → 0 ≤ t → t ≤ 1099511627776 → 0 ≤ m → m ≤ 0 → ((0 : Int) < b) → mayF p 4 m t b q = 110 := fun h a1 a2 a3 a4 hc => by
    have hc' : (0 < b ∧ (4 : Int) ≠ 1) ∨ (q.size ≠ 0 ∧ ((4 : Int) = 1 ∨ (4 : Int) = 2)) := by
      first
        | exact .inr ⟨hq hc, by decide⟩
        | exact .inl ⟨by omega, by decide⟩
        | exact hc.elim (fun h => .inl ⟨by omega, by decide⟩) (fun h => .inr ⟨hq h, by decide⟩)
    unfold mayF mayT
    rw [if_neg (fun e => e (by simpa using h)), if_neg (by simp; omega)]
    rcases hc' with h5 | h5
    · rw [if_pos h5]
    · by_cases h6 : 0 < b ∧ (4 : Int) ≠ 1
      · rw [if_pos h6]
      · rw [if_neg h6, if_pos h5]
  have F4 : ((checkF p).2 != 0) = false → 0 ≤ t → t ≤ 1099511627776 → 0 ≤ m → m ≤ 0 → ((b : Int) ≤ 0) → mayF p 4 m t b q = fv := fun h a1 a2 a3 a4 hn => by
    have hn1 : ¬ (0 < b ∧ (4 : Int) ≠ 1) := fun e => by
      first
        | exact e.2 rfl
        | (have := e.1; omega)
    have hn2 : ¬ (q.size ≠ 0 ∧ ((4 : Int) = 1 ∨ (4 : Int) = 2)) := fun e => by
      first
        | exact e.1 (hq' hn)
        | exact e.1 (hq' hn.2)
        | exact absurd e.2 (by decide)
    unfold mayF mayT
    rw [if_neg (fun e => e (by simpa using h)), if_neg (by simp; omega), if_neg hn1, if_neg hn2]
    rw [hfv]
    rfl
  have HF1 := Aside0.mk F1
  have HF2 := Aside0.mk F2
  have HF3 := Aside0.mk F3
  have HF4 := Aside0.mk F4
  clear F1 F2 F3 F4 hq hq' hfv
  generalize mayF p 4 m t b q = mf at *
  have hx0 := Blk.new w #[.string p, .int .u8 4, .int .i64 m, .int .i64 t, .slice A b c, .string q] 25
  have hlt : 1 < w.heap.size := Lib.lt_of_cell (a := ⟨1, 0, none⟩) hm
  go_enter Tryd.func20, Tryd.ntmps20
  go_wp2_with (first | (go_at_call 29; refine (hC _).mono ?_; rintro e w1 ⟨rfl, hB1⟩; have hx1 := (hB1.block _ hx0.lt).trans hx0; have b0 := (Blk.cell hx1 0).trans rfl; have b1 := (Blk.cell hx1 1).trans rfl; have b2 := (Blk.cell hx1 2).trans rfl; have b3 := (Blk.cell hx1 3).trans rfl; have b4 := (Blk.cell hx1 4).trans rfl; have b5 := (Blk.cell hx1 5).trans rfl; have hBa := (below_alloc (Below.refl _ w) _).trans (hB1.mono (by simp))) | (go_at_call 30; refine (hO _).mono ?_; rintro e w2 ⟨rfl, hB2⟩; have hx2 := (hB2.block _ (Blk.lt hx1)).trans hx1; have e0 := (Blk.cell hx2 0).trans rfl; have e1 := (Blk.cell hx2 1).trans rfl; have e2 := (Blk.cell hx2 2).trans rfl; have e3 := (Blk.cell hx2 3).trans rfl; have e4 := (Blk.cell hx2 4).trans rfl; have e5 := (Blk.cell hx2 5).trans rfl; have hl2 := Blk.lt hx2; have hBb := hBa.trans (hB2.mono hBa.size)) | (go_at_call 46; refine (hF _ (cell_alloc_l _ ((hBb.cell (p := ⟨1, 0, none⟩) hlt).trans hm))).mono ?_; rintro e w3 ⟨rfl, hB3⟩))
  all_goals
    go_ret
    refine ⟨congrArg (fun x => Ending.returned (Value.int .i64 x)) (?_ : _ = mf), ?_⟩
  all_goals
    first
      | exact (HF1.out (by assumption)).symm
      | exact (HF2.out (by assumption) (by omega)).symm
      | exact (HF3.out (by assumption) (by omega) (by omega) (by omega) (by omega) (by first | assumption | omega | exact ne_emp (by assumption) | (left; omega) | (right; assumption) | exact .inr (ne_emp (by assumption)))).symm
      | exact (HF4.out (by assumption) (by omega) (by omega) (by omega) (by omega) (by first | assumption | omega | exact List.isEmpty_iff.2 (by assumption) | exact ⟨by omega, by assumption⟩ | exact ⟨by omega, List.isEmpty_iff.2 (by assumption)⟩)).symm
      | exact absurd ‹(!q.toList.isEmpty) = false› (by rw [ne_emp (by assumption)]; decide)
      | exact hBa
      | exact below_alloc hBb _
      | exact (below_alloc hBb _).trans (hB3.mono (by simp; have := hBb.size; omega))
set_option maxRecDepth 100000 in
set_option maxHeartbeats 4000000 in
theorem may_0 (p : ByteArray) (k m t : Int) (hk : okK k = false) (A : Option Addr) (b c : Nat) (q : ByteArray) (w : World) : Calls Tryd.prog 20 #[.agg #[.string p, .int .u8 k, .int .i64 m, .int .i64 t, .slice A b c, .string q]] w fun e w' => e = .returned (.int .i64 (mayF p k m t b q)) ∧ Below w.heap.size w w' := by
  have hC := fun W => check_any p W
  have hO := fun W => of_any k W
  have hkk : k < 1 ∨ 4 < k := by unfold okK at hk; have := of_decide_eq_false hk; omega
  have hr : rulesV k = .agg #[.int .i64 0, .int .i64 0, .bool false, .bool false, .nilFunc] := by unfold rulesV; rw [if_neg (by omega), if_neg (by omega), if_neg (by omega), if_neg (by omega)]
  rw [hk, hr] at hO
  have F1 : ((checkF p).2 != 0) = true → mayF p k m t b q = (checkF p).2 := fun h => by unfold mayF; rw [if_pos (bne_iff_ne.1 h)]
  have F2 : ((checkF p).2 != 0) = false → mayF p k m t b q = 1 := fun h => by
    unfold mayF
    rw [if_neg (fun e => e (by simpa using h)), if_pos]
    rcases hkk with h1 | h1
    · exact .inl h1
    · exact .inr (.inl h1)
  have HF1 := Aside0.mk F1
  have HF2 := Aside0.mk F2
  clear F1 F2 hr hkk hk
  generalize mayF p k m t b q = mf at *
  have hx0 := Blk.new w #[.string p, .int .u8 k, .int .i64 m, .int .i64 t, .slice A b c, .string q] 25
  go_enter Tryd.func20, Tryd.ntmps20
  go_wp2_with (first | (go_at_call 29; refine (hC _).mono ?_; rintro e w1 ⟨rfl, hB1⟩; have hx1 := (hB1.block _ hx0.lt).trans hx0; have b0 := (Blk.cell hx1 0).trans rfl; have b1 := (Blk.cell hx1 1).trans rfl; have b2 := (Blk.cell hx1 2).trans rfl; have b3 := (Blk.cell hx1 3).trans rfl; have b4 := (Blk.cell hx1 4).trans rfl; have b5 := (Blk.cell hx1 5).trans rfl; have hBa := (below_alloc (Below.refl _ w) _).trans (hB1.mono (by simp))) | (go_at_call 30; refine (hO _).mono ?_; rintro e w2 ⟨rfl, hB2⟩; have hx2 := (hB2.block _ (Blk.lt hx1)).trans hx1; have e0 := (Blk.cell hx2 0).trans rfl; have e1 := (Blk.cell hx2 1).trans rfl; have e2 := (Blk.cell hx2 2).trans rfl; have e3 := (Blk.cell hx2 3).trans rfl; have e4 := (Blk.cell hx2 4).trans rfl; have e5 := (Blk.cell hx2 5).trans rfl; have hl2 := Blk.lt hx2; have hBb := hBa.trans (hB2.mono hBa.size)))
  all_goals
    go_ret
    refine ⟨congrArg (fun x => Ending.returned (Value.int .i64 x)) (?_ : _ = mf), ?_⟩
  all_goals
    first
      | exact (HF1.out (by assumption)).symm
      | exact (HF2.out (by assumption)).symm
      | exact hBa
      | exact below_alloc hBb _
theorem may_any (p : ByteArray) (k m t : Int) (A : Option Addr) (b c : Nat) (q : ByteArray) (i : Int) (w : World) (hm : w.cell? ⟨1, 0, none⟩ = some (.int .i64 i)) : Calls Tryd.prog 20 #[.agg #[.string p, .int .u8 k, .int .i64 m, .int .i64 t, .slice A b c, .string q]] w fun e w' => e = .returned (.int .i64 (mayF p k m t b q)) ∧ Below w.heap.size w w' := by
  by_cases h1 : k = 1
  · subst h1; exact may_1 p m t A b c q i w hm
  · by_cases h2 : k = 2
    · subst h2; exact may_2 p m t A b c q i w hm
    · by_cases h3 : k = 3
      · subst h3; exact may_3 p m t A b c q i w hm
      · by_cases h4 : k = 4
        · subst h4; exact may_4 p m t A b c q i w hm
        · exact may_0 p k m t (by unfold okK; rw [decide_eq_false]; omega) A b c q w
end Go.Proofs.YtopehfjohifpnaaDoor.Mine
end
section
set_option linter.unusedSimpArgs false
set_option linter.unusedVariables false
namespace Go.Proofs.YtopehfjohifpnaaDoor.Mine
open Go.RowKit Go.Maps Go.Shelf Go.Proofs.YtopehfjohifpnaaDoorW.PrintWords Go.Proofs.YtopehfjohifpnaaDoorW.PrintLast Go.Proofs.YtopehfjohifpnaaDoorW.PrintMore Go.Proofs.YtopehfjohifpnaaDoor.Turn Go.Proofs.YtopehfjohifpnaaDoor.Doc
abbrev KLink : ByteArray := ⟨#[108, 105, 110, 107, 112, 97, 116, 104]⟩
abbrev KPath : ByteArray := ⟨#[112, 97, 116, 104]⟩
def pairsL (p q : ByteArray) : List S33 := (if 100 < q.size then [⟨KLink, q⟩] else []) ++ (if (splitF p).2.2 ≠ 0 then [⟨KPath, p⟩] else [])
def pairsF (p : ByteArray) (k m t : Int) (b : Nat) (q : ByteArray) : List S33 × Int := if mayF p k m t b q ≠ 0 then ([], mayF p k m t b q) else (pairsL p q, 0)
theorem clip_any (A : Option Addr) (c : Nat) (n : Nat) (hn : n ≤ 9223372036854775807) (hc : n ≤ c) (w : World) : Calls Tryd.prog 22 #[.slice A n c] w fun e w' => e = .returned (.slice A n n) ∧ w' = w := by
  go_enter Tryd.func22, Tryd.ntmps22
  go_wp2_with fail
  go_ret
  first | exact ⟨rfl, rfl⟩ | trivial
set_option maxRecDepth 100000 in
set_option maxHeartbeats 4000000 in
theorem pairs_any (p : ByteArray) (k m t : Int) (A : Option Addr) (b c : Nat) (q : ByteArray) (i : Int) (w : World) (hm : w.cell? ⟨1, 0, none⟩ = some (.int .i64 i)) :
    Calls Tryd.prog 6 #[.agg #[.string p, .int .u8 k, .int .i64 m, .int .i64 t, .slice A b c, .string q]] w fun e w' => ∃ A' c', e = .returned (.tuple #[.slice A' (pairsF p k m t b q).1.length c', .int .i64 (pairsF p k m t b q).2]) ∧ Kd.C k33 w' A' (pairsF p k m t b q).1.length (pairsF p k m t b q).1 ∧ Below w.heap.size w w' := by
  have hlt : 1 < w.heap.size := Lib.lt_of_cell (a := ⟨1, 0, none⟩) hm
  have hM := fun W hm => may_any p k m t A b c q i W hm
  have hS := fun W => split_any p W
  have hx0 := Blk.new w #[.string p, .int .u8 k, .int .i64 m, .int .i64 t, .slice A b c, .string q] 25
  have hpF : pairsF p k m t b q = if mayF p k m t b q ≠ 0 then ([], mayF p k m t b q) else (pairsL p q, 0) := rfl
  generalize pairsF p k m t b q = pf at *
  generalize mayF p k m t b q = mf at *
  by_cases h0 : mf = 0
  case neg =>
    rw [if_pos h0] at hpF
    subst hpF
    go_enter Tryd.func6, Tryd.ntmps6
    go_wp2_with (go_at_call 20; refine (hM _ (cell_alloc_l _ hm)).mono ?_; rintro e w1 ⟨rfl, hB1⟩)
    · go_ret2
      exact ⟨none, 0, rfl, ⟨rfl, by simp, fun h => absurd h (by simp)⟩, (below_alloc (Below.refl _ w) _).trans (hB1.mono (by simp))⟩
  case pos =>
    rw [if_neg (fun e => e h0)] at hpF
    subst hpF
    subst h0
    have hpl : pairsL p q = (if 100 < q.size then [⟨KLink, q⟩] else []) ++ (if (splitF p).2.2 ≠ 0 then [⟨KPath, p⟩] else []) := rfl
    generalize pairsL p q = pl at *
    generalize splitF p = sf at *
    by_cases h1 : 100 < q.size
    · rw [if_pos h1] at hpl
      by_cases h2 : sf.2.2 = 0
      · rw [if_neg (fun e => e h2)] at hpl
        have h2' : (sf.2.2 != 0) = false := bne_eq_false_iff_eq.2 h2
        subst hpl
        go_enter Tryd.func6, Tryd.ntmps6
        go_wp2_with (first | (go_at_call 20; refine (hM _ (cell_alloc_l _ hm)).mono ?_; rintro e w1 ⟨rfl, hB1⟩; have HB1 := Aside0.mk ((below_alloc (Below.refl _ w) _).trans (hB1.mono (by simp))); have hx1 := (hB1.block _ hx0.lt).trans hx0; have hl1 := Blk.lt hx1; have b0 := (Blk.cell hx1 0).trans rfl; have b5 := (Blk.cell hx1 5).trans rfl) | ((with_reducible refine gate_builtin (b := .append) (xs := #[.tmp 18, .tmp 22]) rfl ?_); at_builtin; refine Kd.R_append k33 (w0 := w) w.heap.size rfl (.tmp 18) (.tmp 22) 26 33 (.agg #[(.string ⟨#[]⟩), (.string ⟨#[]⟩)]) 32 rfl Tryd.underlying26 info33 rfl (by decide) (by omega) (.slice none 0 0) ([] : List S33) ⟨KLink, q⟩ _ (fun _ => True) (fun _ => False) rfl rfl (k33_mkM _ _ _ ⟨KLink, q⟩) (fun _ h => h.elim) (fun _ _ => trivial) (Kd.R_nil _ _ _ _ _) HB1.out HB1.out.size (by simp) ?_; intro v2 w2 ho hb hg hat; have HO2 : Aside0 (Kd.R k33 33 w2 w.heap.size (fun _ => True) v2 (([] : List S33) ++ [⟨KLink, q⟩])) := ⟨ho⟩; have HB2 : Aside0 (Below w.heap.size w w2) := ⟨hb⟩; have hx2 : Blk w2 w.heap.size #[.string p, .int .u8 k, .int .i64 m, .int .i64 t, .slice A b c, .string q] 25 := (hg.block _ (Blk.lt hx1) (by simp [Value.ownBlock])).trans hx1; have hne2 : some w.heap.size ≠ v2.ownBlock := (by have := Blk.lt hx1; rcases hat with h9 | ⟨b9, h9, hle9⟩ <;> rw [h9] <;> first | (intro h8; injection h8; omega) | exact (by simp [Value.ownBlock])); clear ho hb hg hat; have f02 := (Blk.cell hx2 0).trans rfl; have hl2 := Blk.lt hx2) | (go_at_call 21; refine (hS _).mono ?_; rintro e w3 ⟨rfl, hB3⟩; have HB3 : Aside0 (Below w.heap.size w w3) := ⟨HB2.out.trans (hB3.mono HB2.out.size)⟩; have hx3 : Blk w3 w.heap.size #[.string p, .int .u8 k, .int .i64 m, .int .i64 t, .slice A b c, .string q] 25 := (hB3.block _ (Blk.lt hx2)).trans hx2; have g03 := (Blk.cell hx3 0).trans rfl; have hl3 := Blk.lt hx3; have HO3 := Aside0.mk (Kd.R_step HO2.out (fun k _ hlt => hB3.block k hlt))) | (obtain ⟨A9, c9, rfl, hc9, hC9⟩ := Kd.R_reads HO3.out; go_at_call 22; refine (clip_any A9 c9 _ (by simp) hc9 _).mono ?_; rintro e w9 ⟨rfl, hw9⟩; rw [hw9]))
        go_ret2
        exact ⟨A9, _, rfl, hC9, HB3.out⟩
      · rw [if_pos h2] at hpl
        have h2' : (sf.2.2 != 0) = true := bne_iff_ne.2 h2
        subst hpl
        go_enter Tryd.func6, Tryd.ntmps6
        go_wp2_with (first | (go_at_call 20; refine (hM _ (cell_alloc_l _ hm)).mono ?_; rintro e w1 ⟨rfl, hB1⟩; have HB1 := Aside0.mk ((below_alloc (Below.refl _ w) _).trans (hB1.mono (by simp))); have hx1 := (hB1.block _ hx0.lt).trans hx0; have hl1 := Blk.lt hx1; have b0 := (Blk.cell hx1 0).trans rfl; have b5 := (Blk.cell hx1 5).trans rfl) | ((with_reducible refine gate_builtin (b := .append) (xs := #[.tmp 18, .tmp 22]) rfl ?_); at_builtin; refine Kd.R_append k33 (w0 := w) w.heap.size rfl (.tmp 18) (.tmp 22) 26 33 (.agg #[(.string ⟨#[]⟩), (.string ⟨#[]⟩)]) 32 rfl Tryd.underlying26 info33 rfl (by decide) (by omega) (.slice none 0 0) ([] : List S33) ⟨KLink, q⟩ _ (fun _ => True) (fun _ => False) rfl rfl (k33_mkM _ _ _ ⟨KLink, q⟩) (fun _ h => h.elim) (fun _ _ => trivial) (Kd.R_nil _ _ _ _ _) HB1.out HB1.out.size (by simp) ?_; intro v2 w2 ho hb hg hat; have HO2 : Aside0 (Kd.R k33 33 w2 w.heap.size (fun _ => True) v2 (([] : List S33) ++ [⟨KLink, q⟩])) := ⟨ho⟩; have HB2 : Aside0 (Below w.heap.size w w2) := ⟨hb⟩; have hx2 : Blk w2 w.heap.size #[.string p, .int .u8 k, .int .i64 m, .int .i64 t, .slice A b c, .string q] 25 := (hg.block _ (Blk.lt hx1) (by simp [Value.ownBlock])).trans hx1; have hne2 : some w.heap.size ≠ v2.ownBlock := (by have := Blk.lt hx1; rcases hat with h9 | ⟨b9, h9, hle9⟩ <;> rw [h9] <;> first | (intro h8; injection h8; omega) | exact (by simp [Value.ownBlock])); clear ho hb hg hat; have f02 := (Blk.cell hx2 0).trans rfl; have hl2 := Blk.lt hx2) | (go_at_call 21; refine (hS _).mono ?_; rintro e w3 ⟨rfl, hB3⟩; have HB3 : Aside0 (Below w.heap.size w w3) := ⟨HB2.out.trans (hB3.mono HB2.out.size)⟩; have hx3 : Blk w3 w.heap.size #[.string p, .int .u8 k, .int .i64 m, .int .i64 t, .slice A b c, .string q] 25 := (hB3.block _ (Blk.lt hx2)).trans hx2; have g03 := (Blk.cell hx3 0).trans rfl; have hl3 := Blk.lt hx3; have HO3 := Aside0.mk (Kd.R_step HO2.out (fun k _ hlt => hB3.block k hlt))) | ((with_reducible refine gate_builtin (b := .append) (xs := #[.tmp 33, .tmp 37]) rfl ?_); at_builtin; refine Kd.R_append k33 (w0 := w) w.heap.size rfl (.tmp 33) (.tmp 37) 26 33 (.agg #[(.string ⟨#[]⟩), (.string ⟨#[]⟩)]) 32 rfl Tryd.underlying26 info33 rfl (by decide) (by omega) v2 ([⟨KLink, q⟩] : List S33) ⟨KPath, p⟩ _ (fun _ => True) (fun _ => False) rfl rfl (k33_mkM _ _ _ ⟨KPath, p⟩) (fun _ h => h.elim) (fun _ _ => trivial) HO3.out HB3.out HB3.out.size (by simp) ?_; intro v4 w4 ho hb hg hat; have HO4 : Aside0 (Kd.R k33 33 w4 w.heap.size (fun _ => True) v4 (([⟨KLink, q⟩] : List S33) ++ [⟨KPath, p⟩])) := ⟨ho⟩; have HB4 : Aside0 (Below w.heap.size w w4) := ⟨hb⟩; have hx4 : Blk w4 w.heap.size #[.string p, .int .u8 k, .int .i64 m, .int .i64 t, .slice A b c, .string q] 25 := (hg.block _ (Blk.lt hx3) hne2).trans hx3; have hne4 : some w.heap.size ≠ v4.ownBlock := (by have := Blk.lt hx3; rcases hat with h9 | ⟨b9, h9, hle9⟩ <;> rw [h9] <;> first | (intro h8; injection h8; omega) | exact hne2); clear ho hb hg hat; have f04 := (Blk.cell hx4 0).trans rfl; have hl4 := Blk.lt hx4) | (obtain ⟨A9, c9, rfl, hc9, hC9⟩ := Kd.R_reads HO4.out; go_at_call 22; refine (clip_any A9 c9 _ (by simp) hc9 _).mono ?_; rintro e w9 ⟨rfl, hw9⟩; rw [hw9]))
        go_ret2
        exact ⟨A9, _, rfl, hC9, HB4.out⟩
    · rw [if_neg h1] at hpl
      by_cases h2 : sf.2.2 = 0
      · rw [if_neg (fun e => e h2)] at hpl
        have h2' : (sf.2.2 != 0) = false := bne_eq_false_iff_eq.2 h2
        subst hpl
        go_enter Tryd.func6, Tryd.ntmps6
        go_wp2_with (first | (go_at_call 20; refine (hM _ (cell_alloc_l _ hm)).mono ?_; rintro e w1 ⟨rfl, hB1⟩; have HB1 := Aside0.mk ((below_alloc (Below.refl _ w) _).trans (hB1.mono (by simp))); have hx1 := (hB1.block _ hx0.lt).trans hx0; have hl1 := Blk.lt hx1; have b0 := (Blk.cell hx1 0).trans rfl; have b5 := (Blk.cell hx1 5).trans rfl) | (go_at_call 21; refine (hS _).mono ?_; rintro e w3 ⟨rfl, hB3⟩; have HB3 : Aside0 (Below w.heap.size w w3) := ⟨HB1.out.trans (hB3.mono HB1.out.size)⟩; have hx3 : Blk w3 w.heap.size #[.string p, .int .u8 k, .int .i64 m, .int .i64 t, .slice A b c, .string q] 25 := (hB3.block _ (Blk.lt hx1)).trans hx1; have g03 := (Blk.cell hx3 0).trans rfl; have hl3 := Blk.lt hx3) | (go_at_call 22; refine (clip_any none 0 0 (by simp) (by simp) _).mono ?_; rintro e w9 ⟨rfl, hw9⟩; rw [hw9]))
        go_ret2
        exact ⟨none, 0, rfl, ⟨rfl, by simp, fun h => absurd h (by simp)⟩, HB3.out⟩
      · rw [if_pos h2] at hpl
        have h2' : (sf.2.2 != 0) = true := bne_iff_ne.2 h2
        subst hpl
        go_enter Tryd.func6, Tryd.ntmps6
        go_wp2_with (first | (go_at_call 20; refine (hM _ (cell_alloc_l _ hm)).mono ?_; rintro e w1 ⟨rfl, hB1⟩; have HB1 := Aside0.mk ((below_alloc (Below.refl _ w) _).trans (hB1.mono (by simp))); have hx1 := (hB1.block _ hx0.lt).trans hx0; have hl1 := Blk.lt hx1; have b0 := (Blk.cell hx1 0).trans rfl; have b5 := (Blk.cell hx1 5).trans rfl) | (go_at_call 21; refine (hS _).mono ?_; rintro e w3 ⟨rfl, hB3⟩; have HB3 : Aside0 (Below w.heap.size w w3) := ⟨HB1.out.trans (hB3.mono HB1.out.size)⟩; have hx3 : Blk w3 w.heap.size #[.string p, .int .u8 k, .int .i64 m, .int .i64 t, .slice A b c, .string q] 25 := (hB3.block _ (Blk.lt hx1)).trans hx1; have g03 := (Blk.cell hx3 0).trans rfl; have hl3 := Blk.lt hx3) | ((with_reducible refine gate_builtin (b := .append) (xs := #[.tmp 33, .tmp 37]) rfl ?_); at_builtin; refine Kd.R_append k33 (w0 := w) w.heap.size rfl (.tmp 33) (.tmp 37) 26 33 (.agg #[(.string ⟨#[]⟩), (.string ⟨#[]⟩)]) 32 rfl Tryd.underlying26 info33 rfl (by decide) (by omega) (.slice none 0 0) ([] : List S33) ⟨KPath, p⟩ _ (fun _ => True) (fun _ => False) rfl rfl (k33_mkM _ _ _ ⟨KPath, p⟩) (fun _ h => h.elim) (fun _ _ => trivial) (Kd.R_nil _ _ _ _ _) HB3.out HB3.out.size (by simp) ?_; intro v4 w4 ho hb hg hat; have HO4 : Aside0 (Kd.R k33 33 w4 w.heap.size (fun _ => True) v4 (([] : List S33) ++ [⟨KPath, p⟩])) := ⟨ho⟩; have HB4 : Aside0 (Below w.heap.size w w4) := ⟨hb⟩; have hx4 : Blk w4 w.heap.size #[.string p, .int .u8 k, .int .i64 m, .int .i64 t, .slice A b c, .string q] 25 := (hg.block _ (Blk.lt hx3) (by simp [Value.ownBlock])).trans hx3; have hne4 : some w.heap.size ≠ v4.ownBlock := (by have := Blk.lt hx3; rcases hat with h9 | ⟨b9, h9, hle9⟩ <;> rw [h9] <;> first | (intro h8; injection h8; omega) | exact (by simp [Value.ownBlock])); clear ho hb hg hat; have f04 := (Blk.cell hx4 0).trans rfl; have hl4 := Blk.lt hx4) | (obtain ⟨A9, c9, rfl, hc9, hC9⟩ := Kd.R_reads HO4.out; go_at_call 22; refine (clip_any A9 c9 _ (by simp) hc9 _).mono ?_; rintro e w9 ⟨rfl, hw9⟩; rw [hw9]))
        go_ret2
        exact ⟨A9, _, rfl, hC9, HB4.out⟩
end Go.Proofs.YtopehfjohifpnaaDoor.Mine
end
