/- tree: May; pack: Pairs. -/
import Derived.Test.YtopehfjohifpnaaDoorPkF
import Derived.Test.YtopehfjohifpnaaDoorPPackPairsx4
import Derived.Laws.EntriesVeiled
set_option linter.unusedSimpArgs false
set_option linter.unusedVariables false
namespace Go.Proofs.YtopehfjohifpnaaDoor.Mine
open Go.RowKit Go.Shelf Go.Proofs.YtopehfjohifpnaaDoorW.PrintWords Go.Proofs.YtopehfjohifpnaaDoorW.PrintLast Go.Proofs.YtopehfjohifpnaaDoorW.PrintMore Go.Proofs.YtopehfjohifpnaaDoor.Turn Go.Proofs.YtopehfjohifpnaaDoor.PPackPairs

/-- What is wrong with an item. -/
def mayT (p : ByteArray) (k : Int) (b : Nat) (q : ByteArray) : Int :=
  if 0 < b ∧ k ≠ 1 then 110 else if q.size ≠ 0 ∧ (k = 1 ∨ k = 2) then 110 else if k = 3 then (checkF q).2 else if k = 4 then leadE p q else if 65536 < b then 2 else 0
def mayF (p : ByteArray) (k m t : Int) (b : Nat) (q : ByteArray) : Int :=
  if (checkF p).2 ≠ 0 then (checkF p).2 else
  if k < 1 ∨ 4 < k ∨ t < 0 ∨ t > (if k = 3 then 0 else 1099511627776) ∨ m < 0 ∨ m > (if k = 3 ∨ k = 4 then 0 else 4095) then 1 else mayT p k b q
theorem link_f (k : Int) : tabularyref11_link.f k = some (decide (k = 3 ∨ k = 4)) := by
  unfold tabularyref11_link.f
  by_cases h : k = 3
  · rw [if_pos h, decide_eq_true (.inl h)]
  · rw [if_neg h]
    by_cases h4 : k = 4
    · subst h4; rfl
    · rw [decide_eq_false (fun e => e.elim h h4), beq_eq_false_iff_ne.2 h4]
theorem may_j3 (p : ByteArray) (k m t : Int) (l : List Int) (q : ByteArray) (x : Bool) (K : Nat) (hK : 6000 ≤ K) (hb : x = false → 0 < l.length → k = 1) : tabularyref11_May.j3 K x p k m t l q = some (if x = true then 110 else if k = 3 then (checkF q).2 else if k = 4 then leadE p q else if 65536 < l.length then 2 else 0) := by
  obtain ⟨K, rfl⟩ : ∃ K', K = K' + 1 := ⟨K - 1, by omega⟩
  rw [tabularyref11_May.j3.eq_2]
  by_cases hx : x = true
  · rw [if_pos hx, if_pos hx]
  · have hb := hb (by simpa using hx)
    rw [if_neg hx, if_neg hx]
    by_cases h3 : k = 3
    · have : l.length = 0 := by omega
      rw [if_neg (by omega), if_pos h3, if_pos h3, check_f q K (by omega)]
      rfl
    · rw [if_neg h3, if_neg h3]
      by_cases h4 : k = 4
      · have : l.length = 0 := by omega
        obtain ⟨r, hr⟩ := lead_f p q K (by omega)
        rw [if_neg (by omega), if_pos h4, if_pos h4, hr]
        rfl
      · rw [if_neg h4, if_neg h4]
        by_cases hl : 65536 < l.length
        · rw [if_pos (by omega), if_pos hl]
        · rw [if_neg (by omega), if_neg hl]
theorem may_j2 (p : ByteArray) (k m t : Int) (l : List Int) (q : ByteArray) (hk : 1 ≤ k ∧ k ≤ 4) (x : Bool) (K : Nat) (hK : 6001 ≤ K) : tabularyref11_May.j2 K x p k m t l q = some (if x = true then 1 else mayT p k l.length q) := by
  obtain ⟨K, rfl⟩ : ∃ K', K = K' + 1 := ⟨K - 1, by omega⟩
  rw [tabularyref11_May.j2.eq_2]
  by_cases hx : x = true
  · rw [if_pos hx, if_pos hx]
  · rw [if_neg hx, if_neg hx]
    unfold mayT
    rw [link_f, Option.bind_some]
    by_cases hl : 0 < l.length
    · rw [if_pos (by omega)]
      by_cases h1 : k = 1
      · rw [if_pos h1, if_neg (c := 0 < l.length ∧ k ≠ 1) (fun e => e.2 h1)]
        by_cases ht : q.size = 0
        · rw [if_pos ((toList_nil q).2 ht), may_j3 _ _ _ _ _ _ _ K (by omega) (fun _ _ => h1), if_neg (by decide), if_neg (c := q.size ≠ 0 ∧ (k = 1 ∨ k = 2)) (fun e => e.1 ht)]
        · rw [if_neg (fun e => ht ((toList_nil q).1 e)), may_j3 _ _ _ _ _ _ _ K (by omega) (fun _ _ => h1), if_pos (c := q.size ≠ 0 ∧ (k = 1 ∨ k = 2)) ⟨ht, .inl h1⟩, if_pos]
          subst h1; rfl
      · rw [if_neg h1, may_j3 _ _ _ _ _ _ _ K (by omega) (fun e => by cases e), if_pos rfl, if_pos (c := 0 < l.length ∧ k ≠ 1) ⟨hl, h1⟩]
    · rw [if_neg (by omega), if_neg (c := 0 < l.length ∧ k ≠ 1) (fun e => hl e.1)]
      by_cases ht : q.size = 0
      · rw [if_pos ((toList_nil q).2 ht), may_j3 _ _ _ _ _ _ _ K (by omega) (fun _ h => absurd h hl), if_neg (by decide), if_neg (c := q.size ≠ 0 ∧ (k = 1 ∨ k = 2)) (fun e => e.1 ht)]
      · rw [if_neg (fun e => ht ((toList_nil q).1 e)), may_j3 _ _ _ _ _ _ _ K (by omega) (fun _ h => absurd h hl)]
        by_cases h2 : k = 1 ∨ k = 2
        · rw [if_pos (c := q.size ≠ 0 ∧ (k = 1 ∨ k = 2)) ⟨ht, h2⟩, if_pos]
          rcases h2 with rfl | rfl <;> rfl
        · rw [if_neg (c := q.size ≠ 0 ∧ (k = 1 ∨ k = 2)) (fun e => h2 e.2), if_neg]
          have : k = 3 ∨ k = 4 := by omega
          rw [decide_eq_true this]
          decide
theorem may_j1 (p : ByteArray) (k m t : Int) (l : List Int) (q : ByteArray) (hk : 1 ≤ k ∧ k ≤ 4) (x : Bool) (K : Nat) (hK : 6002 ≤ K) : tabularyref11_May.j1 K x p k m t l q = some (if x = true ∨ m < 0 ∨ m > (if k = 3 ∨ k = 4 then 0 else 4095) then 1 else mayT p k l.length q) := by
  obtain ⟨K, rfl⟩ : ∃ K', K = K' + 1 := ⟨K - 1, by omega⟩
  rw [tabularyref11_May.j1.eq_2]
  by_cases hx : x = true
  · rw [if_pos hx, if_pos (.inl hx)]
  · rw [if_neg hx]
    by_cases h0 : m < 0
    · rw [if_pos h0, may_j2 _ _ _ _ _ _ hk _ K (by omega), if_pos rfl, if_pos (.inr (.inl h0))]
    · rw [if_neg h0]
      by_cases h1 : m > 4095
      · rw [if_pos h1, may_j2 _ _ _ _ _ _ hk _ K (by omega), if_pos rfl, if_pos (.inr (.inr (by split <;> omega)))]
      · rw [if_neg h1, link_f, Option.bind_some]
        by_cases h3 : k = 3 ∨ k = 4
        · rw [decide_eq_true h3, if_pos rfl, may_j2 _ _ _ _ _ _ hk _ K (by omega), if_pos h3]
          by_cases h5 : m = 0
          · rw [if_neg (by subst h5; decide), if_neg]
            rintro (e | e | e)
            · exact hx e
            · omega
            · omega
          · rw [if_pos (bne_iff_ne.2 h5), if_pos (.inr (.inr (by omega)))]
        · rw [decide_eq_false h3, if_neg (by decide), may_j2 _ _ _ _ _ _ hk _ K (by omega), if_neg h3, if_neg (by decide), if_neg]
          rintro (e | e | e)
          · exact hx e
          · omega
          · omega
theorem may_j0 (p : ByteArray) (k m t : Int) (l : List Int) (q : ByteArray) (x : Bool) (hk : x = false → 1 ≤ k ∧ k ≤ 4) (K : Nat) (hK : 6003 ≤ K) : tabularyref11_May.j0 K x p k m t l q = some (if x = true ∨ t < 0 ∨ t > (if k = 3 then 0 else 1099511627776) ∨ m < 0 ∨ m > (if k = 3 ∨ k = 4 then 0 else 4095) then 1 else mayT p k l.length q) := by
  obtain ⟨K, rfl⟩ : ∃ K', K = K' + 1 := ⟨K - 1, by omega⟩
  rw [tabularyref11_May.j0.eq_2]
  by_cases hx : x = true
  · rw [if_pos hx, if_pos (.inl hx)]
  · have hk := hk (by simpa using hx)
    rw [if_neg hx]
    by_cases h0 : t < 0
    · rw [if_pos h0, may_j1 _ _ _ _ _ _ hk _ K (by omega), if_pos (.inl rfl), if_pos (.inr (.inl h0))]
    · rw [if_neg h0]
      by_cases h1 : t > 1099511627776
      · rw [if_pos h1, may_j1 _ _ _ _ _ _ hk _ K (by omega), if_pos (.inl rfl), if_pos (.inr (.inr (.inl (by split <;> omega))))]
      · rw [if_neg h1]
        by_cases h3 : k = 3
        · rw [if_pos h3, may_j1 _ _ _ _ _ _ hk _ K (by omega), if_pos (c := k = 3) h3]
          by_cases h5 : t = 0
          · rw [show (t != 0) = false by subst h5; rfl]
            have e : (x = true ∨ t < 0 ∨ t > 0 ∨ m < 0 ∨ m > (if k = 3 ∨ k = 4 then 0 else 4095)) ↔ (false = true ∨ m < 0 ∨ m > (if k = 3 ∨ k = 4 then 0 else 4095)) :=
              ⟨fun h => by rcases h with h | h | h | h; exact absurd h hx; omega; omega; exact .inr h, fun h => by rcases h with h | h; cases h; exact .inr (.inr (.inr h))⟩
            simp only [e]
          · rw [if_pos (.inl (bne_iff_ne.2 h5)), if_pos (.inr (.inr (.inl (by omega))))]
        · rw [if_neg h3, may_j1 _ _ _ _ _ _ hk _ K (by omega), if_neg (c := k = 3) h3]
          have e : (x = true ∨ t < 0 ∨ t > 1099511627776 ∨ m < 0 ∨ m > (if k = 3 ∨ k = 4 then 0 else 4095)) ↔ (false = true ∨ m < 0 ∨ m > (if k = 3 ∨ k = 4 then 0 else 4095)) :=
            ⟨fun h => by rcases h with h | h | h | h; exact absurd h hx; omega; omega; exact .inr h, fun h => by rcases h with h | h; cases h; exact .inr (.inr (.inr h))⟩
          simp only [e]
theorem may_f (p : ByteArray) (k m t : Int) (l : List Int) (q : ByteArray) (K : Nat) (hK : 7000 ≤ K) : tabularyref11_May.f K p k m t l q = some (mayF p k m t l.length q) := by
  unfold tabularyref11_May.f mayF
  rw [check_f p K (by omega), Option.bind_some]
  by_cases h : (checkF p).2 = 0
  · rw [if_pos h, if_neg (c := (checkF p).2 ≠ 0) (fun e => e h)]
    by_cases h1 : k < 1
    · rw [if_pos h1, may_j0 _ _ _ _ _ _ _ (fun e => by cases e) K (by omega), if_pos (.inl rfl), if_pos (.inl h1)]
    · rw [if_neg h1, may_j0 _ _ _ _ _ _ _ (fun e => by have := of_decide_eq_false e; omega) K (by omega)]
      have e : (decide (k > 4) = true ∨ t < 0 ∨ t > (if k = 3 then 0 else 1099511627776) ∨ m < 0 ∨ m > (if k = 3 ∨ k = 4 then 0 else 4095)) ↔ (k < 1 ∨ 4 < k ∨ t < 0 ∨ t > (if k = 3 then 0 else 1099511627776) ∨ m < 0 ∨ m > (if k = 3 ∨ k = 4 then 0 else 4095)) := by
        rw [decide_eq_true_iff]
        exact ⟨fun h => .inr h, fun h => h.elim (fun h => absurd h h1) id⟩
      simp only [e]
  · rw [if_neg h, if_pos h]

def rulesV (k : Int) : Value := if k = 1 then .agg #[.int .i64 4095, .int .i64 1099511627776, .bool true, .bool false, .func (.func 44) #[] #[]] else if k = 2 then .agg #[.int .i64 4095, .int .i64 1099511627776, .bool false, .bool false, .func (.func 44) #[] #[]] else if k = 3 then .agg #[.int .i64 0, .int .i64 0, .bool false, .bool true, .func (.func 45) #[] #[]] else if k = 4 then .agg #[.int .i64 0, .int .i64 1099511627776, .bool false, .bool true, .func (.func 46) #[] #[]] else .agg #[.int .i64 0, .int .i64 0, .bool false, .bool false, .nilFunc]
def okK (k : Int) : Bool := decide (1 ≤ k ∧ k ≤ 4)
set_option maxRecDepth 100000 in
set_option maxHeartbeats 4000000 in
theorem of_any (k : Int) (w : World) : Calls Tryd.prog 30 #[.int .u8 k] w fun e w' => e = .returned (.tuple #[rulesV k, .bool (okK k)]) ∧ Below w.heap.size w w' := by
  go_enter Tryd.func30, Tryd.ntmps30
  go_wp2_with fail
  · obtain rfl : k = 1 := eq_of_beq (by assumption)
    exact bodyPost_ret (v := .tuple #[rulesV 1, .bool (okK 1)]) (by simp [results, Tryd.results30, go_sem, rulesV, okK]) rfl ⟨rfl, below_alloc (Below.refl _ _) _⟩
  · obtain rfl : k = 2 := eq_of_beq (by assumption)
    exact bodyPost_ret (v := .tuple #[rulesV 2, .bool (okK 2)]) (by simp [results, Tryd.results30, go_sem, rulesV, okK]) rfl ⟨rfl, below_alloc (Below.refl _ _) _⟩
  · obtain rfl : k = 3 := eq_of_beq (by assumption)
    exact bodyPost_ret (v := .tuple #[rulesV 3, .bool (okK 3)]) (by simp [results, Tryd.results30, go_sem, rulesV, okK]) rfl ⟨rfl, below_alloc (Below.refl _ _) _⟩
  · obtain rfl : k = 4 := eq_of_beq (by assumption)
    exact bodyPost_ret (v := .tuple #[rulesV 4, .bool (okK 4)]) (by simp [results, Tryd.results30, go_sem, rulesV, okK]) rfl ⟨rfl, below_alloc (Below.refl _ _) _⟩
  · have h1 := ne_of_beq_false ‹(k == 1) = false›
    have h2 := ne_of_beq_false ‹(k == 2) = false›
    have h3 := ne_of_beq_false ‹(k == 3) = false›
    have h4 := ne_of_beq_false ‹(k == 4) = false›
    have hr : rulesV k = .agg #[.int .i64 0, .int .i64 0, .bool false, .bool false, .nilFunc] := by unfold rulesV; rw [if_neg h1, if_neg h2, if_neg h3, if_neg h4]
    have ho : okK k = false := by unfold okK; rw [decide_eq_false]; omega
    rw [hr, ho]
    exact bodyPost_ret (v := .tuple #[.agg #[.int .i64 0, .int .i64 0, .bool false, .bool false, .nilFunc], .bool false]) (by simp [results, Tryd.results30, go_sem]) rfl ⟨rfl, below_alloc (Below.refl _ _) _⟩

def itemV (p : ByteArray) (k m t : Int) (A : Option Addr) (b c : Nat) (q : ByteArray) : Value := .agg #[.string p, .int .u8 k, .int .i64 m, .int .i64 t, .slice A b c, .string q]
set_option maxRecDepth 100000 in
set_option maxHeartbeats 4000000 in
theorem plain_any (p : ByteArray) (k m t : Int) (A : Option Addr) (b c : Nat) (q : ByteArray) (w : World) : Calls Tryd.prog 44 #[.agg #[.string p, .int .u8 k, .int .i64 m, .int .i64 t, .slice A b c, .string q]] w fun e w' => e = .returned (.int .i64 (if 65536 < b then 2 else 0)) ∧ Below w.heap.size w w' := by
  go_enter Tryd.func44, Tryd.ntmps44
  go_wp2_with fail
  · go_ret
    exact ⟨rfl, below_alloc (Below.refl _ _) _⟩
  · go_ret
    exact ⟨rfl, below_alloc (Below.refl _ _) _⟩
set_option maxRecDepth 100000 in
set_option maxHeartbeats 4000000 in
theorem hard_any (p : ByteArray) (k m t : Int) (A : Option Addr) (b c : Nat) (q : ByteArray) (w : World) : Calls Tryd.prog 45 #[.agg #[.string p, .int .u8 k, .int .i64 m, .int .i64 t, .slice A b c, .string q]] w fun e w' => e = .returned (.int .i64 (checkF q).2) ∧ Below w.heap.size w w' := by
  have hC := fun W => check_any q W
  generalize checkF q = ck at *
  go_enter Tryd.func45, Tryd.ntmps45
  go_wp2_with (go_at_call 29; refine (hC _).mono ?_; rintro e w' ⟨rfl, hB⟩)
  go_ret
  exact ⟨rfl, (below_alloc (Below.refl _ _) _).trans (hB.mono (by simp))⟩
set_option maxRecDepth 100000 in
set_option maxHeartbeats 4000000 in
theorem soft_any (p : ByteArray) (k m t : Int) (A : Option Addr) (b c : Nat) (q : ByteArray) (i : Int) (w : World) (hm : w.cell? ⟨1, 0, none⟩ = some (.int .i64 i)) : Calls Tryd.prog 46 #[.agg #[.string p, .int .u8 k, .int .i64 m, .int .i64 t, .slice A b c, .string q]] w fun e w' => e = .returned (.int .i64 (leadE p q)) ∧ Below w.heap.size w w' := by
  have hC := fun W hm => lead_any p q i W hm
  have hlt : 1 < w.heap.size := Lib.lt_of_cell (a := ⟨1, 0, none⟩) hm
  generalize leadE p q = le at *
  go_enter Tryd.func46, Tryd.ntmps46
  go_wp2_with (go_at_call 59; refine (hC _ (cell_alloc_l _ hm)).mono ?_; rintro e w' ⟨⟨r, rfl⟩, hB⟩)
  go_ret
  exact ⟨rfl, (below_alloc (Below.refl _ _) _).trans (hB.mono (by simp))⟩
end Go.Proofs.YtopehfjohifpnaaDoor.Mine
