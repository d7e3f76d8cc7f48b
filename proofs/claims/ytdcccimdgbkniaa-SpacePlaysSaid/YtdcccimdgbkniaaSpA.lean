/- space: runs in memory; the looks through the free runs. -/
import Derived.Test.YtdcccimdgbkniaaCopy
import Derived.BigQuiet
import Derived.Test.YtdcccimdgbkniaaPSpacePlaysx0
set_option linter.unusedSimpArgs false
set_option linter.unusedVariables false
namespace Go.Proofs.Ytdcccimdgbkniaa.Mine
open Go.RowKit Go.Maps Go.Proofs.YtdcccimdgbkniaaW.PrintWords Go.Proofs.YtdcccimdgbkniaaW.PrintLast Go.Proofs.YtdcccimdgbkniaaW.PrintMore Go.Proofs.Ytdcccimdgbkniaa.Turn

/-- A run, from .1 up to below .2. -/
abbrev R2 := Int × Int
def encR (l : List R2) : List Value := l.flatMap fun r => [.int .i64 r.1, .int .i64 r.2]
theorem encR_nil : encR [] = [] := rfl
theorem encR_cons (r : R2) (l : List R2) : encR (r :: l) = .int .i64 r.1 :: .int .i64 r.2 :: encR l := rfl
theorem encR_append (a b : List R2) : encR (a ++ b) = encR a ++ encR b := by simp [encR]
theorem encR_length (l : List R2) : (encR l).length = l.length * 2 := by
  induction l with
  | nil => rfl
  | cons r l ih => rw [encR_cons]; simp only [List.length_cons]; omega
theorem encR_take (l : List R2) : ∀ k, (encR l).take (k * 2) = encR (l.take k) := by
  induction l with
  | nil => intro k; simp [encR]
  | cons r l ih =>
    intro k
    cases k with
    | zero => simp [encR]
    | succ k => rw [encR_cons, Nat.succ_mul]; simp only [List.take_succ_cons]; rw [encR_cons, ih]
theorem encR_drop (l : List R2) : ∀ k, (encR l).drop (k * 2) = encR (l.drop k) := by
  induction l with
  | nil => intro k; simp [encR]
  | cons r l ih =>
    intro k
    cases k with
    | zero => simp
    | succ k => rw [encR_cons, Nat.succ_mul]; simp only [List.drop_succ_cons]; rw [ih]
theorem encR_get {l : List R2} {k : Nat} (h : k < l.length) : (encR l)[k * 2]? = some (.int .i64 l[k].1) ∧ (encR l)[k * 2 + 1]? = some (.int .i64 l[k].2) := by
  have hd := encR_drop l k
  rw [List.drop_eq_getElem_cons h, encR_cons] at hd
  have h0 : ((encR l).drop (k * 2))[0]? = some (.int .i64 l[k].1) := by rw [hd]; rfl
  have h1 : ((encR l).drop (k * 2))[1]? = some (.int .i64 l[k].2) := by rw [hd]; rfl
  rw [List.getElem?_drop] at h0 h1
  exact ⟨h0, h1⟩
theorem encR_one (l : List R2) : ∀ u ∈ encR l, u.oneCell' = true := by
  intro u hu
  simp only [encR, List.mem_flatMap, List.mem_cons, List.not_mem_nil, or_false] at hu
  obtain ⟨r, _, h | h⟩ := hu <;> (subst h; rfl)

/-- A slice of runs that is the program's own. -/
def Row (w : World) (base : Nat) (v : Value) (l : List R2) : Prop := w.ownsRow base 50 2 v l.length (encR l)
def Reads (w : World) (v : Value) (l : List R2) : Prop := ∃ A c, v = .slice A l.length c ∧ l.length ≤ c ∧ c ≤ 9223372036854775807 ∧ ∀ k, (h : k < l.length) → ∃ g o, A = some ⟨g, o, none⟩ ∧ g < w.heap.size ∧ w.cell? ⟨g, o + k * 2, none⟩ = some (.int .i64 l[k].1) ∧ w.cell? ⟨g, o + k * 2 + 1, none⟩ = some (.int .i64 l[k].2)
section
variable {w w' : World} {base : Nat} {v : Value} {l : List R2}
theorem Row.parts (h : Row w base v l) : (v = .slice none 0 0 ∧ l = []) ∨ ∃ g cap cur, v = .slice (some ⟨g, 0, none⟩) l.length cap ∧ base ≤ g ∧ Blk w g cur 50 ∧ l.length ≤ cap ∧ cap ≤ 9223372036854775807 ∧ cur.size = cap * 2 ∧ cur.toList.take (l.length * 2) = encR l := by
  obtain ⟨_, ⟨h1, h2⟩ | ⟨g, cap, cur, h1, h2, h3, h4, h5, h6, h7⟩⟩ := h
  · exact .inl ⟨h1, List.eq_nil_of_length_eq_zero h2⟩
  · exact .inr ⟨g, cap, cur, h1, h2, h3, h4, h5, h6, h7⟩
theorem Row.mk {g cap : Nat} {cur : Array Value} (hb : base ≤ g) (h : Blk w g cur 50) (h1 : l.length ≤ cap) (h2 : cap ≤ 9223372036854775807) (h3 : cur.size = cap * 2) (h4 : cur.toList.take (l.length * 2) = encR l) : Row w base (.slice (some ⟨g, 0, none⟩) l.length cap) l :=
  ⟨encR_length l, .inr ⟨g, cap, cur, rfl, hb, h, h1, h2, h3, h4⟩⟩
theorem Row.nil (w : World) (base : Nat) : Row w base (.slice none 0 0) [] := ⟨rfl, .inl ⟨rfl, rfl⟩⟩
theorem Row.step (h : Row w base v l) (hk : ∀ k, v.ownBlock = some k → k < w.heap.size → w'.heap[k]? = w.heap[k]?) : Row w' base v l := by
  rcases h.parts with ⟨rfl, rfl⟩ | ⟨g, cap, cur, rfl, h2, h3, h4, h5, h6, h7⟩
  · exact Row.nil _ _
  · exact Row.mk h2 ((hk g rfl h3.lt).trans h3) h4 h5 h6 h7
theorem Row.below (h : Row w base v l) (hb : Below w.heap.size w w') : Row w' base v l := h.step (fun k _ hk => hb.block k hk)
theorem Row.reads (h : Row w base v l) : Reads w v l := by
  rcases h.parts with ⟨rfl, rfl⟩ | ⟨g, cap, cur, rfl, h2, h3, h4, h5, h6, h7⟩
  · exact ⟨none, 0, rfl, Nat.le_refl _, by omega, fun k hk => by simp at hk⟩
  · refine ⟨some ⟨g, 0, none⟩, cap, rfl, h4, h5, fun k hk => ⟨g, 0, rfl, h3.lt, ?_, ?_⟩⟩
    · rw [Nat.zero_add, h3.cell, ← Array.getElem?_toList, ← (encR_get hk).1, ← h7, List.getElem?_take, if_pos (by omega)]
    · rw [Nat.zero_add, h3.cell, ← Array.getElem?_toList, ← (encR_get hk).2, ← h7, List.getElem?_take, if_pos (by omega)]
theorem Reads.below (h : Reads w v l) (hb : Below w.heap.size w w') : Reads w' v l := by
  obtain ⟨A, c, h1, h2, h3, h4⟩ := h
  refine ⟨A, c, h1, h2, h3, fun k hk => ?_⟩
  obtain ⟨g, o, e, hg, c1, c2⟩ := h4 k hk
  exact ⟨g, o, e, Nat.lt_of_lt_of_le hg hb.size, pw_cell_below hb c1, pw_cell_below hb c2⟩
end

/-- Runs of cells below 65537. -/
def Small (l : List R2) : Prop := ∀ r ∈ l, 0 ≤ r.1 ∧ r.1 ≤ r.2 ∧ r.2 ≤ 65536
def soT (count : Int) (r : R2) : Bool := decide (r.2 - r.1 ≥ count)
def soH (x : R2) (r : R2) : Bool := decide (r.1 ≤ x.1) && decide (x.2 ≤ r.2)
def soA (x : R2) (r : R2) : Bool := decide (x.2 ≤ r.1) || decide (r.2 ≤ x.1)
def soG (x : R2) (r : R2) : Bool := !soA x r
def soB (x : R2) (r : R2) : Bool := decide (r.1 ≥ x.2)

set_option maxHeartbeats 1000000 in
theorem within_any (r x : R2) (w : World) : Calls Try.prog 29 #[.agg #[.int .i64 r.1, .int .i64 r.2], .agg #[.int .i64 x.1, .int .i64 x.2]] w fun e w' => e = .returned (.bool (soH x r)) ∧ Below w.heap.size w w' := by
  obtain ⟨a, e⟩ := r
  obtain ⟨c, d⟩ := x
  unfold soH
  by_cases h1 : a ≤ c <;> by_cases h2 : d ≤ e
  all_goals
    go_enter Try.func29, Try.ntmps29
    go_wp2
    go_ret
    exact ⟨by simp [*], below_alloc (below_alloc (Below.refl _ _) _) _⟩
set_option maxHeartbeats 1000000 in
theorem apart_any (x r : R2) (w : World) : Calls Try.prog 31 #[.agg #[.int .i64 x.1, .int .i64 x.2], .agg #[.int .i64 r.1, .int .i64 r.2]] w fun e w' => e = .returned (.bool (soA x r)) ∧ Below w.heap.size w w' := by
  obtain ⟨a, e⟩ := r
  obtain ⟨c, d⟩ := x
  unfold soA
  by_cases h1 : d ≤ a <;> by_cases h2 : e ≤ c
  all_goals
    go_enter Try.func31, Try.ntmps31
    go_wp2
    go_ret
    exact ⟨by simp [*], below_alloc (below_alloc (Below.refl _ _) _) _⟩
set_option maxHeartbeats 1000000 in
theorem clT_any (r : R2) (count : Int) (b : Nat) (w : World) (hp : w.cell? ⟨b, 0, none⟩ = some (.int .i64 count)) (h0 : 0 ≤ r.1) (h1 : r.1 ≤ r.2) (h2 : r.2 ≤ 65536) :
    Calls Try.prog 23 #[.agg #[.int .i64 r.1, .int .i64 r.2], .pointer (some ⟨b, 0, none⟩)] w fun e w' => e = .returned (.bool (soT count r)) ∧ Below w.heap.size w w' := by
  obtain ⟨a, e⟩ := r
  have hl := World.block_lt_of_cell? w _ hp
  unfold soT
  go_enter Try.func23, Try.ntmps23
  go_wp2
  go_ret
  exact ⟨rfl, below_alloc (Below.refl _ _) _⟩
set_option maxHeartbeats 1000000 in
theorem clH_any (r x : R2) (b : Nat) (w : World) (hp : w.cell? ⟨b, 0, none⟩ = some (.int .i64 x.1)) (hq : w.cell? ⟨b, 1, none⟩ = some (.int .i64 x.2)) :
    Calls Try.prog 28 #[.agg #[.int .i64 r.1, .int .i64 r.2], .pointer (some ⟨b, 0, none⟩)] w fun e w' => e = .returned (.bool (soH x r)) ∧ Below w.heap.size w w' := by
  have hl := World.block_lt_of_cell? w _ hp
  go_enter Try.func28, Try.ntmps28
  go_wp2_with fail
  refine (within_any r x _).mono ?_
  rintro e w' ⟨rfl, hb⟩
  have HB := Aside0.mk (below_step (below_alloc (Below.refl _ _) _) hb)
  clear hb
  go_wp2_with fail
  go_ret
  exact ⟨rfl, HB.out⟩
set_option maxHeartbeats 1000000 in
theorem clG_any (r x : R2) (b : Nat) (w : World) (hp : w.cell? ⟨b, 0, none⟩ = some (.func (.func 31) #[.agg #[.int .i64 x.1, .int .i64 x.2]] #[])) :
    Calls Try.prog 32 #[.agg #[.int .i64 r.1, .int .i64 r.2], .pointer (some ⟨b, 0, none⟩)] w fun e w' => e = .returned (.bool (soG x r)) ∧ Below w.heap.size w w' := by
  have hl := World.block_lt_of_cell? w _ hp
  go_enter Try.func32, Try.ntmps32
  go_wp2_with fail
  refine (apart_any x r _).mono ?_
  rintro e w' ⟨rfl, hb⟩
  have HB := Aside0.mk (below_step (below_alloc (Below.refl _ _) _) hb)
  clear hb
  obtain ⟨s, hs⟩ : ∃ s, soA x r = s := ⟨_, rfl⟩
  have HS : Aside0 (soG x r = !s) := ⟨by rw [soG, hs]⟩
  rw [hs]
  clear hs
  go_wp2_with fail
  go_ret
  exact ⟨by rw [HS.out]; rfl, HB.out⟩
set_option maxHeartbeats 1000000 in
theorem clB_any (r x : R2) (b : Nat) (w : World) (hq : w.cell? ⟨b, 1, none⟩ = some (.int .i64 x.2)) :
    Calls Try.prog 33 #[.agg #[.int .i64 r.1, .int .i64 r.2], .pointer (some ⟨b, 0, none⟩)] w fun e w' => e = .returned (.bool (soB x r)) ∧ Below w.heap.size w w' := by
  obtain ⟨a, e⟩ := r
  have hl := World.block_lt_of_cell? w _ hq
  unfold soB
  go_enter Try.func33, Try.ntmps33
  go_wp2
  go_ret
  exact ⟨rfl, below_alloc (Below.refl _ _) _⟩

/-- The place of the first that is so, from i on; -1: there is none. -/
def firstAt {α : Type} (so : α → Bool) (l : List α) (i : Nat) : Int :=
  if h : i < l.length then (if so l[i] then i else firstAt so l (i + 1)) else -1
termination_by l.length - i
theorem firstAt_range {α : Type} (so : α → Bool) (l : List α) : ∀ m i, i + m = l.length → -1 ≤ firstAt so l i ∧ firstAt so l i < l.length := by
  intro m
  induction m with
  | zero => intro i hi; rw [firstAt, dif_neg (by omega)]; omega
  | succ m ih =>
    intro i hi
    rw [firstAt, dif_pos (show i < l.length by omega)]
    split
    · omega
    · exact ih (i + 1) (by omega)

set_option maxHeartbeats 2000000 in
theorem indexT_any {base : Nat} {v : Value} {l : List R2} (count : Int) (b : Nat) (w : World) (hl : l.length ≤ 4611686018427387904) (hr : Reads w v l) (hs : Small l) (hp : w.cell? ⟨b, 0, none⟩ = some (.int .i64 count)) :
    Calls Try.prog 35 #[v, .func (.func 23) #[] #[.pointer (some ⟨b, 0, none⟩)]] w fun e w' => e = .returned (.int .i64 (firstAt (soT count) l 0)) ∧ Below w.heap.size w w' := by
  have HR := Aside0.mk hr
  obtain ⟨A, c, rfl, hc, hc2, -⟩ := hr
  have HS := Aside0.mk hs
  have HP := Aside0.mk hp
  clear hs hp
  go_enter Try.func35, Try.ntmps35
  go_wp2
  go_loopw [8] (fun i wr => ∃ k : Nat, k ≤ l.length ∧ i = .int .i64 k ∧ Aside0 (firstAt (soT count) l 0 = firstAt (soT count) l k) ∧ Aside0 (Below w.heap.size w wr)) (fun i _ => l.length - (intOf i).toNat)
  case atStart => exact ⟨0, Nat.zero_le _, rfl, ⟨rfl⟩, ⟨Below.refl _ _⟩⟩
  case round =>
    obtain ⟨k, hk, rfl, HI, HB⟩ := hrel
    by_cases hlt : k < l.length
    · obtain ⟨A', c', he, -, -, hcell⟩ := HR.out.below HB.out
      cases he
      obtain ⟨g, o, rfl, hg, y0, y1⟩ := hcell k hlt
      clear hcell
      have HX : Aside0 (firstAt (soT count) l k = if (soT count) l[k] then (k : Int) else firstAt (soT count) l (k + 1)) := ⟨by rw [firstAt, dif_pos hlt]⟩
      have hp := pw_cell_below HB.out HP.out
      have hsm := HS.out _ (List.getElem_mem hlt)
      generalize l[k] = x at *
      cases hq : (soT count) x with
      | true =>
        have HQ := Aside0.mk hq
        have HI3 : Aside0 (firstAt (soT count) l 0 = k) := ⟨by rw [HI.out, HX.out, hq]; rfl⟩
        clear hq
        go_wp2_with fail
        refine (clT_any x count b _ hp hsm.1 hsm.2.1 hsm.2.2).mono ?_
        rintro e w' ⟨rfl, hb⟩
        rw [HQ.out]
        have HB2 := Aside0.mk (below_step HB.out hb)
        clear hb
        go_wp2_with fail
        go_ret
        exact ⟨by rw [HI3.out]; rfl, HB2.out⟩
      | false =>
        have HQ := Aside0.mk hq
        have HI3 : Aside0 (firstAt (soT count) l 0 = firstAt (soT count) l (k + 1)) := ⟨by rw [HI.out, HX.out, hq]; rfl⟩
        clear hq
        go_wp2_with fail
        refine (clT_any x count b _ hp hsm.1 hsm.2.1 hsm.2.2).mono ?_
        rintro e w' ⟨rfl, hb⟩
        rw [HQ.out]
        have HB2 := Aside0.mk (below_step HB.out hb)
        clear hb
        go_wp2_with fail
        go_roundw
        case rel => exact ⟨k + 1, by omega, by go_num, HI3, HB2⟩
        case measure => simp [intOf]; omega
    · have HI2 : Aside0 (firstAt (soT count) l 0 = -1) := ⟨by rw [HI.out, firstAt, dif_neg hlt]⟩
      go_wp2
      go_ret
      exact ⟨by rw [HI2.out]; rfl, HB.out⟩
set_option maxHeartbeats 1000000 in
theorem firstT_any {base : Nat} {v : Value} {l : List R2} (count : Int) (b : Nat) (w : World) (hl : l.length ≤ 4611686018427387904) (hr : Reads w v l) (hs : Small l) (hp : w.cell? ⟨b, 0, none⟩ = some (.int .i64 count)) :
    Calls Try.prog 22 #[v, .func (.func 23) #[] #[.pointer (some ⟨b, 0, none⟩)]] w fun e w' => e = .returned (.tuple #[.int .i64 (firstAt (soT count) l 0), .bool (decide (0 ≤ firstAt (soT count) l 0))]) ∧ Below w.heap.size w w' := by
  have HC := Aside0.mk (indexT_any (base := base) count b w hl hr hs hp)
  have HR := firstAt_range (soT count) l l.length 0 (by omega)
  clear hr hs hp
  generalize firstAt (soT count) l 0 = i at *
  go_enter Try.func22, Try.ntmps22
  go_wp2_with fail
  refine HC.out.mono ?_
  rintro e w' ⟨rfl, hb⟩
  have HB2 := Aside0.mk hb
  clear hb HC
  go_wp2_with fail
  go_ret2
  exact ⟨rfl, HB2.out⟩

set_option maxHeartbeats 2000000 in
theorem indexH_any {base : Nat} {v : Value} {l : List R2} (x0 : R2) (b : Nat) (w : World) (hl : l.length ≤ 4611686018427387904) (hr : Reads w v l) (hp : w.cell? ⟨b, 0, none⟩ = some (.int .i64 x0.1)) (hq : w.cell? ⟨b, 1, none⟩ = some (.int .i64 x0.2)) :
    Calls Try.prog 35 #[v, .func (.func 28) #[] #[.pointer (some ⟨b, 0, none⟩)]] w fun e w' => e = .returned (.int .i64 (firstAt (soH x0) l 0)) ∧ Below w.heap.size w w' := by
  have HR := Aside0.mk hr
  obtain ⟨A, c, rfl, hc, hc2, -⟩ := hr
  have HP := Aside0.mk hp
  have HQ0 := Aside0.mk hq
  clear hp hq
  go_enter Try.func35, Try.ntmps35
  go_wp2
  go_loopw [8] (fun i wr => ∃ k : Nat, k ≤ l.length ∧ i = .int .i64 k ∧ Aside0 (firstAt (soH x0) l 0 = firstAt (soH x0) l k) ∧ Aside0 (Below w.heap.size w wr)) (fun i _ => l.length - (intOf i).toNat)
  case atStart => exact ⟨0, Nat.zero_le _, rfl, ⟨rfl⟩, ⟨Below.refl _ _⟩⟩
  case round =>
    obtain ⟨k, hk, rfl, HI, HB⟩ := hrel
    by_cases hlt : k < l.length
    · obtain ⟨A', c', he, -, -, hcell⟩ := HR.out.below HB.out
      cases he
      obtain ⟨g, o, rfl, hg, y0, y1⟩ := hcell k hlt
      clear hcell
      have HX : Aside0 (firstAt (soH x0) l k = if (soH x0) l[k] then (k : Int) else firstAt (soH x0) l (k + 1)) := ⟨by rw [firstAt, dif_pos hlt]⟩
      have hp := pw_cell_below HB.out HP.out
      have hq0 := pw_cell_below HB.out HQ0.out
      generalize l[k] = x at *
      cases hq : (soH x0) x with
      | true =>
        have HQ := Aside0.mk hq
        have HI3 : Aside0 (firstAt (soH x0) l 0 = k) := ⟨by rw [HI.out, HX.out, hq]; rfl⟩
        clear hq
        go_wp2_with fail
        refine (clH_any x x0 b _ hp hq0).mono ?_
        rintro e w' ⟨rfl, hb⟩
        rw [HQ.out]
        have HB2 := Aside0.mk (below_step HB.out hb)
        clear hb
        go_wp2_with fail
        go_ret
        exact ⟨by rw [HI3.out]; rfl, HB2.out⟩
      | false =>
        have HQ := Aside0.mk hq
        have HI3 : Aside0 (firstAt (soH x0) l 0 = firstAt (soH x0) l (k + 1)) := ⟨by rw [HI.out, HX.out, hq]; rfl⟩
        clear hq
        go_wp2_with fail
        refine (clH_any x x0 b _ hp hq0).mono ?_
        rintro e w' ⟨rfl, hb⟩
        rw [HQ.out]
        have HB2 := Aside0.mk (below_step HB.out hb)
        clear hb
        go_wp2_with fail
        go_roundw
        case rel => exact ⟨k + 1, by omega, by go_num, HI3, HB2⟩
        case measure => simp [intOf]; omega
    · have HI2 : Aside0 (firstAt (soH x0) l 0 = -1) := ⟨by rw [HI.out, firstAt, dif_neg hlt]⟩
      go_wp2
      go_ret
      exact ⟨by rw [HI2.out]; rfl, HB.out⟩
set_option maxHeartbeats 1000000 in
theorem firstH_any {base : Nat} {v : Value} {l : List R2} (x0 : R2) (b : Nat) (w : World) (hl : l.length ≤ 4611686018427387904) (hr : Reads w v l) (hp : w.cell? ⟨b, 0, none⟩ = some (.int .i64 x0.1)) (hq : w.cell? ⟨b, 1, none⟩ = some (.int .i64 x0.2)) :
    Calls Try.prog 22 #[v, .func (.func 28) #[] #[.pointer (some ⟨b, 0, none⟩)]] w fun e w' => e = .returned (.tuple #[.int .i64 (firstAt (soH x0) l 0), .bool (decide (0 ≤ firstAt (soH x0) l 0))]) ∧ Below w.heap.size w w' := by
  have HC := Aside0.mk (indexH_any (base := base) x0 b w hl hr hp hq)
  have HR := firstAt_range (soH x0) l l.length 0 (by omega)
  clear hr hp hq
  generalize firstAt (soH x0) l 0 = i at *
  go_enter Try.func22, Try.ntmps22
  go_wp2_with fail
  refine HC.out.mono ?_
  rintro e w' ⟨rfl, hb⟩
  have HB2 := Aside0.mk hb
  clear hb HC
  go_wp2_with fail
  go_ret2
  exact ⟨rfl, HB2.out⟩

set_option maxHeartbeats 2000000 in
theorem indexG_any {base : Nat} {v : Value} {l : List R2} (x0 : R2) (b : Nat) (w : World) (hl : l.length ≤ 4611686018427387904) (hr : Reads w v l) (hp : w.cell? ⟨b, 0, none⟩ = some (.func (.func 31) #[.agg #[.int .i64 x0.1, .int .i64 x0.2]] #[])) :
    Calls Try.prog 35 #[v, .func (.func 32) #[] #[.pointer (some ⟨b, 0, none⟩)]] w fun e w' => e = .returned (.int .i64 (firstAt (soG x0) l 0)) ∧ Below w.heap.size w w' := by
  have HR := Aside0.mk hr
  obtain ⟨A, c, rfl, hc, hc2, -⟩ := hr
  have HP := Aside0.mk hp
  clear hp
  go_enter Try.func35, Try.ntmps35
  go_wp2
  go_loopw [8] (fun i wr => ∃ k : Nat, k ≤ l.length ∧ i = .int .i64 k ∧ Aside0 (firstAt (soG x0) l 0 = firstAt (soG x0) l k) ∧ Aside0 (Below w.heap.size w wr)) (fun i _ => l.length - (intOf i).toNat)
  case atStart => exact ⟨0, Nat.zero_le _, rfl, ⟨rfl⟩, ⟨Below.refl _ _⟩⟩
  case round =>
    obtain ⟨k, hk, rfl, HI, HB⟩ := hrel
    by_cases hlt : k < l.length
    · obtain ⟨A', c', he, -, -, hcell⟩ := HR.out.below HB.out
      cases he
      obtain ⟨g, o, rfl, hg, y0, y1⟩ := hcell k hlt
      clear hcell
      have HX : Aside0 (firstAt (soG x0) l k = if (soG x0) l[k] then (k : Int) else firstAt (soG x0) l (k + 1)) := ⟨by rw [firstAt, dif_pos hlt]⟩
      have hp := pw_cell_below HB.out HP.out
      generalize l[k] = x at *
      cases hq : (soG x0) x with
      | true =>
        have HQ := Aside0.mk hq
        have HI3 : Aside0 (firstAt (soG x0) l 0 = k) := ⟨by rw [HI.out, HX.out, hq]; rfl⟩
        clear hq
        go_wp2_with fail
        refine (clG_any x x0 b _ hp).mono ?_
        rintro e w' ⟨rfl, hb⟩
        rw [HQ.out]
        have HB2 := Aside0.mk (below_step HB.out hb)
        clear hb
        go_wp2_with fail
        go_ret
        exact ⟨by rw [HI3.out]; rfl, HB2.out⟩
      | false =>
        have HQ := Aside0.mk hq
        have HI3 : Aside0 (firstAt (soG x0) l 0 = firstAt (soG x0) l (k + 1)) := ⟨by rw [HI.out, HX.out, hq]; rfl⟩
        clear hq
        go_wp2_with fail
        refine (clG_any x x0 b _ hp).mono ?_
        rintro e w' ⟨rfl, hb⟩
        rw [HQ.out]
        have HB2 := Aside0.mk (below_step HB.out hb)
        clear hb
        go_wp2_with fail
        go_roundw
        case rel => exact ⟨k + 1, by omega, by go_num, HI3, HB2⟩
        case measure => simp [intOf]; omega
    · have HI2 : Aside0 (firstAt (soG x0) l 0 = -1) := ⟨by rw [HI.out, firstAt, dif_neg hlt]⟩
      go_wp2
      go_ret
      exact ⟨by rw [HI2.out]; rfl, HB.out⟩
set_option maxHeartbeats 1000000 in
theorem firstG_any {base : Nat} {v : Value} {l : List R2} (x0 : R2) (b : Nat) (w : World) (hl : l.length ≤ 4611686018427387904) (hr : Reads w v l) (hp : w.cell? ⟨b, 0, none⟩ = some (.func (.func 31) #[.agg #[.int .i64 x0.1, .int .i64 x0.2]] #[])) :
    Calls Try.prog 22 #[v, .func (.func 32) #[] #[.pointer (some ⟨b, 0, none⟩)]] w fun e w' => e = .returned (.tuple #[.int .i64 (firstAt (soG x0) l 0), .bool (decide (0 ≤ firstAt (soG x0) l 0))]) ∧ Below w.heap.size w w' := by
  have HC := Aside0.mk (indexG_any (base := base) x0 b w hl hr hp)
  have HR := firstAt_range (soG x0) l l.length 0 (by omega)
  clear hr hp
  generalize firstAt (soG x0) l 0 = i at *
  go_enter Try.func22, Try.ntmps22
  go_wp2_with fail
  refine HC.out.mono ?_
  rintro e w' ⟨rfl, hb⟩
  have HB2 := Aside0.mk hb
  clear hb HC
  go_wp2_with fail
  go_ret2
  exact ⟨rfl, HB2.out⟩

set_option maxHeartbeats 2000000 in
theorem indexB_any {base : Nat} {v : Value} {l : List R2} (x0 : R2) (b : Nat) (w : World) (hl : l.length ≤ 4611686018427387904) (hr : Reads w v l) (hq : w.cell? ⟨b, 1, none⟩ = some (.int .i64 x0.2)) :
    Calls Try.prog 35 #[v, .func (.func 33) #[] #[.pointer (some ⟨b, 0, none⟩)]] w fun e w' => e = .returned (.int .i64 (firstAt (soB x0) l 0)) ∧ Below w.heap.size w w' := by
  have HR := Aside0.mk hr
  obtain ⟨A, c, rfl, hc, hc2, -⟩ := hr
  have HQ0 := Aside0.mk hq
  clear hq
  go_enter Try.func35, Try.ntmps35
  go_wp2
  go_loopw [8] (fun i wr => ∃ k : Nat, k ≤ l.length ∧ i = .int .i64 k ∧ Aside0 (firstAt (soB x0) l 0 = firstAt (soB x0) l k) ∧ Aside0 (Below w.heap.size w wr)) (fun i _ => l.length - (intOf i).toNat)
  case atStart => exact ⟨0, Nat.zero_le _, rfl, ⟨rfl⟩, ⟨Below.refl _ _⟩⟩
  case round =>
    obtain ⟨k, hk, rfl, HI, HB⟩ := hrel
    by_cases hlt : k < l.length
    · obtain ⟨A', c', he, -, -, hcell⟩ := HR.out.below HB.out
      cases he
      obtain ⟨g, o, rfl, hg, y0, y1⟩ := hcell k hlt
      clear hcell
      have HX : Aside0 (firstAt (soB x0) l k = if (soB x0) l[k] then (k : Int) else firstAt (soB x0) l (k + 1)) := ⟨by rw [firstAt, dif_pos hlt]⟩
      have hq0 := pw_cell_below HB.out HQ0.out
      generalize l[k] = x at *
      cases hq : (soB x0) x with
      | true =>
        have HQ := Aside0.mk hq
        have HI3 : Aside0 (firstAt (soB x0) l 0 = k) := ⟨by rw [HI.out, HX.out, hq]; rfl⟩
        clear hq
        go_wp2_with fail
        refine (clB_any x x0 b _ hq0).mono ?_
        rintro e w' ⟨rfl, hb⟩
        rw [HQ.out]
        have HB2 := Aside0.mk (below_step HB.out hb)
        clear hb
        go_wp2_with fail
        go_ret
        exact ⟨by rw [HI3.out]; rfl, HB2.out⟩
      | false =>
        have HQ := Aside0.mk hq
        have HI3 : Aside0 (firstAt (soB x0) l 0 = firstAt (soB x0) l (k + 1)) := ⟨by rw [HI.out, HX.out, hq]; rfl⟩
        clear hq
        go_wp2_with fail
        refine (clB_any x x0 b _ hq0).mono ?_
        rintro e w' ⟨rfl, hb⟩
        rw [HQ.out]
        have HB2 := Aside0.mk (below_step HB.out hb)
        clear hb
        go_wp2_with fail
        go_roundw
        case rel => exact ⟨k + 1, by omega, by go_num, HI3, HB2⟩
        case measure => simp [intOf]; omega
    · have HI2 : Aside0 (firstAt (soB x0) l 0 = -1) := ⟨by rw [HI.out, firstAt, dif_neg hlt]⟩
      go_wp2
      go_ret
      exact ⟨by rw [HI2.out]; rfl, HB.out⟩
set_option maxHeartbeats 1000000 in
theorem firstB_any {base : Nat} {v : Value} {l : List R2} (x0 : R2) (b : Nat) (w : World) (hl : l.length ≤ 4611686018427387904) (hr : Reads w v l) (hq : w.cell? ⟨b, 1, none⟩ = some (.int .i64 x0.2)) :
    Calls Try.prog 22 #[v, .func (.func 33) #[] #[.pointer (some ⟨b, 0, none⟩)]] w fun e w' => e = .returned (.tuple #[.int .i64 (firstAt (soB x0) l 0), .bool (decide (0 ≤ firstAt (soB x0) l 0))]) ∧ Below w.heap.size w w' := by
  have HC := Aside0.mk (indexB_any (base := base) x0 b w hl hr hq)
  have HR := firstAt_range (soB x0) l l.length 0 (by omega)
  clear hr hq
  generalize firstAt (soB x0) l 0 = i at *
  go_enter Try.func22, Try.ntmps22
  go_wp2_with fail
  refine HC.out.mono ?_
  rintro e w' ⟨rfl, hb⟩
  have HB2 := Aside0.mk hb
  clear hb HC
  go_wp2_with fail
  go_ret2
  exact ⟨rfl, HB2.out⟩
end Go.Proofs.Ytdcccimdgbkniaa.Mine
