/- Contracts of air's helpers: Clone of bytes, the closure of parties, IndexFunc, ContainsFunc, parties. -/
import Derived.Test.YtikfelmmelkioaaPAirOncex
import Derived.Test.YtikfelmmelkioaaTurn
namespace Go.Proofs.Ytikfelmmelkioaa.Mine
open Go.RowKit Go.Proofs.YtikfelmmelkioaaW.PrintWords Go.Proofs.YtikfelmmelkioaaW.PrintLast Go.Proofs.YtikfelmmelkioaaW.PrintMore Go.Proofs.Ytikfelmmelkioaa.PAirOnce Go.Proofs.Ytikfelmmelkioaa.Turn

theorem info5 : (Try.prog.info? 5).map (fun i => (i.zero, i.size, i.bytes)) = some (some (.int .u8 0), 1, 1) := by kernel_rfl

theorem C_len0 {α : Type} {d : Kd α} {w : World} {n : Nat} {xs : List α} (h : d.C w none n xs) : xs = [] := by
  obtain ⟨h1, _, h3⟩ := h
  rcases Nat.eq_zero_or_pos n with h0 | h0
  · exact List.eq_nil_of_length_eq_zero (by omega)
  · obtain ⟨ad, e, _⟩ := h3 h0
    cases e

theorem R_empty {α : Type} (d : Kd α) (e : Nat) (w : World) (base : Nat) (hb : base ≤ w.heap.size) : d.R e (w.alloc (.cells #[] e)) base (fun _ => True) (.slice (some ⟨w.heap.size, 0, none⟩) 0 0) [] :=
  ⟨fun _ _ => trivial, [], World.ownsRow_made w #[] 0 hb (Nat.zero_le _) (by simp), Reps.none _ _⟩

set_option maxHeartbeats 1000000 in
theorem clone_any (A : Option Addr) (c : Nat) (l : List Int) (w : World) (hl : l.length ≤ 140737488355328) (hr : Kd.C (Kd.int .u8) w A l.length l) :
    Calls Try.prog 20 #[.slice A l.length c] w fun e w' => ∃ v, e = .returned v ∧ Kd.R (Kd.int .u8) 5 w' w.heap.size (fun _ => True) v l ∧ Below w.heap.size w w' := by
  have HR := Aside0.mk hr
  clear hr
  rcases A with _ | ad
  · obtain rfl := C_len0 HR.out
    have heq := fun w => Lib.run_eql_slice_nil (P := Try.prog) w 22 5 none 0 c 0 0 Try.underlying22
    go_enter Try.func20, Try.ntmps20
    go_wp2
    go_ret
    exact ⟨_, rfl, Kd.R_nil _ _ _ _ _, Below.refl _ _⟩
  · have heq := fun w => Lib.run_eql_slice_nil (P := Try.prog) w 22 5 (some ad) l.length c 0 0 Try.underlying22
    go_enter Try.func20, Try.ntmps20
    go_wp2_with (at_builtin; refine Kd.R_append_rows (Kd.int .u8) (w0 := w) w.heap.size rfl (.tmp 5) (.tmp 6) 22 5 (.int .u8 0) 1 rfl Try.underlying22 info5 rfl (by decide) (by omega) (.slice (some ⟨w.heap.size, 0, none⟩) 0 0) ([] : List Int) l _ _ _ (fun _ => True) (fun _ => False) rfl rfl ?aO (Kd.C_alloc HR.out _) (fun _ _ h => h) (fun _ h => h.elim) (fun _ _ => trivial) (below_alloc (Below.refl _ _) _) (by simp) (by simp; omega) ?_; (case aO => exact R_empty _ _ _ _ (Nat.le_refl _)); intro v102 w6 ho hb hg hat; rw [List.nil_append] at ho; have HO := Aside0.mk ho; have HB := Aside0.mk hb; clear ho hb hg hat)
    go_ret
    exact ⟨_, rfl, HO.out, HB.out⟩

/-- Is a party out of range? -/
def bad (n p : Int) : Bool := decide (p < 0) || decide (n ≤ p)

set_option maxHeartbeats 400000 in
theorem pred_any (n p : Int) (B b : Nat) (w : World) (h1 : w.cell? ⟨B, 0, none⟩ = some (.pointer (some ⟨b, 0, none⟩))) (h2 : w.cell? ⟨b, 0, none⟩ = some (.int .i64 n)) :
    Calls Try.prog 23 #[.int .i64 p, .pointer (some ⟨B, 0, none⟩)] w fun e w' => e = .returned (.bool (bad n p)) ∧ w = w' := by
  by_cases h : p < 0
  · have hb : bad n p = true := by simp [bad, h]
    have HB := Aside0.mk hb
    clear hb
    go_enter Try.func23, Try.ntmps23
    go_wp2
    go_ret
    exact ⟨by rw [HB.out]; rfl, rfl⟩
  · by_cases h' : n ≤ p
    · have hb : bad n p = true := by simp [bad, h']
      have HB := Aside0.mk hb
      clear hb
      go_enter Try.func23, Try.ntmps23
      go_wp2
      go_ret
      exact ⟨by rw [HB.out]; rfl, rfl⟩
    · have hb : bad n p = false := by simp [bad, h, h']
      have HB := Aside0.mk hb
      clear hb
      go_enter Try.func23, Try.ntmps23
      go_wp2
      go_ret
      exact ⟨by rw [HB.out]; rfl, rfl⟩

/-- From place i on: the first that is out of range. -/
def badIdx (n : Int) (l : List Int) (i : Nat) : Int :=
  if h : i < l.length then (if bad n l[i] = true then (i : Int) else badIdx n l (i + 1)) else -1
termination_by l.length - i

set_option maxHeartbeats 1000000 in
theorem index_any (A : Option Addr) (c : Nat) (l : List Int) (n : Int) (B b : Nat) (w : World) (hl : l.length ≤ 4611686018427387904) (hr : Kd.C (Kd.int .i64) w A l.length l) (h1 : w.cell? ⟨B, 0, none⟩ = some (.pointer (some ⟨b, 0, none⟩))) (h2 : w.cell? ⟨b, 0, none⟩ = some (.int .i64 n)) :
    Calls Try.prog 24 #[.slice A l.length c, .func (.func 23) #[] #[.pointer (some ⟨B, 0, none⟩)]] w fun e w' => e = .returned (.int .i64 (badIdx n l 0)) ∧ w = w' := by
  have HR := Aside0.mk hr
  clear hr
  go_enter Try.func24, Try.ntmps24
  go_wp2
  go_loopw [8] (fun i wr => ∃ k : Nat, k ≤ l.length ∧ i = .int .i64 k ∧ Aside0 (badIdx n l 0 = badIdx n l k) ∧ Aside0 (w = wr)) (fun i _ => l.length - (intOf i).toNat)
  case atStart => exact ⟨0, Nat.zero_le _, rfl, ⟨rfl⟩, ⟨rfl⟩⟩
  case round =>
    obtain ⟨k, hk, rfl, HI, HB⟩ := hrel
    obtain rfl := HB.out
    by_cases hlt : k < l.length
    · obtain ⟨ad, cs, e, _, hK, hcc⟩ := Kd.C_get HR.out 0 (k : Int) (by omega) (by omega)
      cases e
      have hx0 := hcc 0 (.int .i64 (l.getD k 0)) (by rw [show cs = [.int .i64 (l.getD ((k : Int)).toNat 0)] from hK]; simp)
      replace hx0 : w.cell? (ad.add k) = some (.int .i64 (l.getD k 0)) := by
        rw [Int.toNat_natCast] at hx0
        simpa [Kd.int, Kd.scalar] using hx0
      clear hcc hK
      have hx2 : l[k] = l.getD k 0 := by simp [hlt]
      generalize hx : l.getD k 0 = x at hx0 hx2
      clear hx
      cases hq : bad n x with
      | true =>
        have HI2 : badIdx n l k = k := by rw [badIdx, dif_pos hlt, hx2, if_pos hq]
        have HI3 := Aside0.mk HI2
        have HQ := Aside0.mk hq
        clear HI2 hx2 hq
        go_wp2_with (go_at_call 23; refine (pred_any n x B b _ h1 h2).mono ?_; rintro e w' ⟨rfl, rfl⟩; rw [HQ.out])
        go_ret
        exact ⟨by rw [HI.out, HI3.out]; rfl, rfl⟩
      | false =>
        have HI2 : badIdx n l k = badIdx n l (k + 1) := by rw [badIdx, dif_pos hlt, hx2, if_neg (by rw [hq]; simp)]
        have HI3 := Aside0.mk HI2
        have HQ := Aside0.mk hq
        clear HI2 hx2 hq
        go_wp2_with (go_at_call 23; refine (pred_any n x B b _ h1 h2).mono ?_; rintro e w' ⟨rfl, rfl⟩; rw [HQ.out])
        go_roundw
        case rel => exact ⟨k + 1, by omega, by go_num, ⟨HI.out.trans HI3.out⟩, ⟨by first | exact rfl | exact trivial⟩⟩
        case measure => simp [intOf]; omega
    · have HI2 : badIdx n l k = -1 := by rw [badIdx, dif_neg hlt]
      have HI3 := Aside0.mk HI2
      clear HI2
      go_wp2
      go_ret
      exact ⟨by rw [HI.out, HI3.out]; rfl, rfl⟩

set_option maxHeartbeats 400000 in
theorem contains_any (A : Option Addr) (c : Nat) (l : List Int) (n : Int) (B b : Nat) (w : World) (hl : l.length ≤ 4611686018427387904) (hr : Kd.C (Kd.int .i64) w A l.length l) (h1 : w.cell? ⟨B, 0, none⟩ = some (.pointer (some ⟨b, 0, none⟩))) (h2 : w.cell? ⟨b, 0, none⟩ = some (.int .i64 n)) :
    Calls Try.prog 22 #[.slice A l.length c, .func (.func 23) #[] #[.pointer (some ⟨B, 0, none⟩)]] w fun e w' => e = .returned (.bool (decide (0 ≤ badIdx n l 0))) ∧ w = w' := by
  have HR := Aside0.mk hr
  clear hr
  obtain ⟨r, hr⟩ : ∃ r, r = badIdx n l 0 := ⟨_, rfl⟩
  have HX := Aside0.mk hr
  clear hr
  go_enter Try.func22, Try.ntmps22
  go_wp2_with (go_at_call 24; refine (index_any A c l n B b _ hl HR.out h1 h2).mono ?_; rintro e w' ⟨rfl, rfl⟩; rw [← HX.out])
  go_ret
  exact ⟨by rw [← HX.out]; rfl, rfl⟩

theorem two_bad (n p q : Int) : decide (0 ≤ badIdx n [p, q] 0) = (bad n p || bad n q) := by
  have e : badIdx n [p, q] 0 = (if bad n p = true then (0 : Int) else if bad n q = true then 1 else -1) := by
    rw [badIdx, dif_pos (by simp), badIdx, dif_pos (by simp), badIdx, dif_neg (by simp)]
    rfl
  simp only [e]
  generalize bad n p = x
  generalize bad n q = y
  cases x <;> cases y <;> simp

set_option maxHeartbeats 400000 in
theorem parties_any (A : Option Addr) (c : Nat) (p q n : Int) (b : Nat) (w : World) (hr : Kd.C (Kd.int .i64) w A 2 [p, q]) (h2 : w.cell? ⟨b, 0, none⟩ = some (.int .i64 n)) :
    Calls Try.prog 21 #[.pointer (some ⟨b, 0, none⟩), .slice A 2 c] w fun e w' => e = .returned (.bool (!(bad n p || bad n q))) ∧ Below w.heap.size w w' := by
  have HR := Aside0.mk hr
  clear hr
  have hT := two_bad n p q
  obtain ⟨r, hr⟩ : ∃ r, r = (bad n p || bad n q) := ⟨_, rfl⟩
  rw [← hr] at hT
  have HT := Aside0.mk hT
  have HX := Aside0.mk hr
  clear hT hr
  have hlt : b < w.heap.size := World.block_lt_of_cell? w _ h2
  go_enter Try.func21, Try.ntmps21
  go_wp2_with (go_at_call 22; refine (contains_any A c [p, q] n w.heap.size b _ (by simp) (Kd.C_alloc HR.out _) (by simp) (by simpa [World.cell?_alloc_past, hlt] using h2)).mono ?_; rintro e w' ⟨rfl, rfl⟩; rw [HT.out])
  go_ret
  exact ⟨by rw [HX.out]; rfl, below_alloc (Below.refl _ _) _⟩
end Go.Proofs.Ytikfelmmelkioaa.Mine
