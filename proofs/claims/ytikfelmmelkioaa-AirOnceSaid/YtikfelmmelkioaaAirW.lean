/- The contract of the law's wakes. -/
import Derived.Test.YtikfelmmelkioaaAirG
import Derived.Lib.SlBytesConst
set_option linter.unusedSimpArgs false
set_option linter.unusedVariables false
namespace Go.Proofs.Ytikfelmmelkioaa.Mine
open Go.RowKit Go.Maps Go.Proofs.YtikfelmmelkioaaW.PrintWords Go.Proofs.YtikfelmmelkioaaW.PrintLast Go.Proofs.YtikfelmmelkioaaW.PrintMore Go.Proofs.Ytikfelmmelkioaa.PAirOnce Go.Proofs.Ytikfelmmelkioaa.Turn

theorem send_step {w : World} {F : Nat → Prop} {b : Nat} {n : Int} {L : List S24} {D : DataW Unit} {M : Nat} (h : AirRep w F b n L D M) (f t : Int) (A : Option Addr) (l : List Int) (c : Nat) (hb : (bad n f || bad n t) = false) (hl : l.length ≤ 262144) (hp : (Lit.int .i64 f).wf = true) (hq : (Lit.int .i64 t).wf = true) (hh : Maps.has D (wayLit f t) = false) (hL : L.length < 4096) (hr : Kd.C (Kd.int .u8) w A l.length l) :
    Calls Try.prog 8 #[.pointer (some ⟨b, 0, none⟩), .agg #[.int .i64 f, .int .i64 t, .slice A l.length c]] w fun e w' => ∃ F', e = .returned (.int .i64 0) ∧ AirRep w' F' b n (L ++ [⟨f, t, l⟩]) D M ∧ Turned F w w' ∧ ∀ k, F' k → F k ∨ (w.heap.size ≤ k ∧ k < w'.heap.size) :=
  (send_ok h f t A l c hb hl hp hq hh hL hr).mono fun e w' ⟨h1, h2, h3⟩ => ⟨_, h1, h2, h3, fun _ hk => hk⟩
theorem double_step {w : World} {F : Nat → Prop} {b : Nat} {n : Int} {L : List S24} {D : DataW Unit} {M : Nat} (h : AirRep w F b n L D M) (i : Nat) (h1 : i < L.length) (hs : ∀ x ∈ L, x.f2.length ≤ 140737488355328) (hL : L.length < 4096) :
    Calls Try.prog 12 #[.pointer (some ⟨b, 0, none⟩), .int .i64 i] w fun e w' => ∃ F', e = .returned (.bool true) ∧ AirRep w' F' b n (L ++ [rd_T24 L i]) D M ∧ Turned F w w' ∧ ∀ k, F' k → F k ∨ (w.heap.size ≤ k ∧ k < w'.heap.size) :=
  (double_ok h i (by omega) (by omega) hs hL).mono fun e w' ⟨h1, h2, h3⟩ => ⟨_, h1, h2, h3, fun _ hk => hk⟩

theorem one_reads (w : World) (x : Int) : Kd.C (Kd.int .u8) (w.alloc (.cells #[.int .u8 x] 5 (1, 2))) (some ⟨w.heap.size, 0, none⟩) 1 [x] := by
  refine ⟨rfl, by omega, fun _ => ⟨_, rfl, fun j p hj => ⟨[.int .u8 p], rfl, rfl, fun i u hu => ?_⟩⟩⟩
  match i, hu with
  | 0, hu =>
    simp only [List.getElem?_cons_zero, Option.some.injEq] at hu
    subst hu
    match j, hj with
    | 0, hj => simp at hj; subst hj; simp [Addr.add, Kd.int, Kd.scalar, World.cell?_alloc_mark]
    | j + 1, hj => simp at hj
  | i + 1, hu => simp at hu

def dA : S24 := ⟨0, 1, [97]⟩
def dB : S24 := ⟨0, 1, [98]⟩
theorem has_empty (l : Lit) : Maps.has (H := Unit) (.map []) l = false := rfl
theorem small_two : ∀ x ∈ [dA, dB], x.f2.length ≤ 140737488355328 := by simp [dA, dB]
theorem small_three : ∀ x ∈ [dA, dA, dB], x.f2.length ≤ 140737488355328 := by simp [dA, dB]
theorem small_one : ∀ x ∈ [dB], x.f2.length ≤ 140737488355328 := by simp [dA, dB]

def Kept1 (F : Nat → Prop) (W : World) (g : Nat) (A : Option Addr) (c : Nat) (x : S24) : Prop :=
  ∀ W', Turned F W W' → Blk W' g #[.int .i64 x.f0, .int .i64 x.f1, .slice A x.f2.length c] 24 ∧ Kd.C (Kd.int .u8) W' A x.f2.length x.f2
theorem Kept1.step {F : Nat → Prop} {W W2 : World} {g : Nat} {A : Option Addr} {c : Nat} {x : S24} (h : Kept1 F W g A c x) (ht : Turned F W W2) : Kept1 F W2 g A c x :=
  fun W' h' => h W' (ht.then_ h' (fun _ hk => .inl hk))
theorem Kept1.now {F : Nat → Prop} {W : World} {g : Nat} {A : Option Addr} {c : Nat} {x : S24} (h : Kept1 F W g A c x) : Blk W g #[.int .i64 x.f0, .int .i64 x.f1, .slice A x.f2.length c] 24 ∧ Kd.C (Kd.int .u8) W A x.f2.length x.f2 := h W (Turned.refl F W)
theorem carry_step {w : World} {F : Nat → Prop} {b : Nat} {n : Int} {L : List S24} {D : DataW Unit} {M : Nat} (h : AirRep w F b n L D M) (i : Nat) (hi : i < L.length) (hs : ∀ x ∈ L, x.f2.length ≤ 140737488355328) (p q : Int) (l : List Int) (m : Nat) (hx : rd_T24 L i = ⟨p, q, l⟩) (hm : l.length = m) (L2 : List S24) (hL : L.eraseIdx i = L2) :
    Calls Try.prog 7 #[.pointer (some ⟨b, 0, none⟩), .int .i64 i] w fun e w' => ∃ A c, e = .returned (.tuple #[.agg #[.int .i64 p, .int .i64 q, .slice A m c], .bool true]) ∧ AirRep w' F b n L2 D M ∧ Turned F w w' ∧ Kept1 F (w'.alloc (.cells #[.int .i64 p, .int .i64 q, .slice A m c] 24)) w'.heap.size A c ⟨p, q, l⟩ := by
  subst hm hL
  refine (carry_ok h i hi hs).mono ?_
  rw [hx]
  rintro e w' ⟨A, c, h1, h2, h3, h4⟩
  refine ⟨A, c, h1, h3, h4, fun W' ht => ?_⟩
  obtain ⟨v, bm, -, -, -, -, -, h6⟩ := h
  have hle := h4.size
  refine ⟨ht.blk (Blk.new w' _ 24) (fun hk => ?_), Kd.C_kept_own (S := F) (Kd.R_bound (Kd.R_alloc h2 _)) (fun k hk hF => ?_) W' ⟨ht.size, fun i hi hn => ht.block i hi hn⟩⟩
  · have := h6 _ hk; omega
  · have := h6 k hF; have := hk.2.1; omega

set_option maxHeartbeats 4000000 in
set_option maxRecDepth 100000 in
theorem wakes_any (w : World) : Calls Try.prog 16 #[] w fun e w' => e = .returned (.bool true) ∧ Below w.heap.size w w' := by
  have kc := fun (w : World) (C : Array Value) (n c : Nat) => Lib.run_convert_bytes_const (P := Try.prog) w 22 5 C n c Try.underlying22 Try.underlying5
  go_enter Try.func16, Try.ntmps16
  go_wp2_with fail
  refine (new_any 3 (by omega) (by omega) _).mono ?_
  rintro e w1 ⟨b, F1, rfl, hA1, hF1, hB1⟩
  have HA1 := Aside0.mk hA1
  have HF1 := Aside0.mk hF1
  have HB1 := Aside0.mk hB1
  clear hA1 hF1 hB1
  go_wp2_with fail
  have hB1b := below_alloc HB1.out (.cells #[.int .u8 97] 5 (1, 2))
  refine (send_step (HA1.out.below (below_alloc (Below.refl _ _) (.cells #[.int .u8 97] 5 (1, 2)))) 0 1 (some ⟨w1.heap.size, 0, none⟩) [97] 1 (by decide) (by simp) (by decide) (by decide) (has_empty _) (by simp) (one_reads w1 97)).mono ?_
  rintro e w2 ⟨F2, rfl, hA2, hT2, hF2⟩
  have HA2 := Aside0.mk (show AirRep w2 F2 b 3 [dA] (.map []) 0 from hA2)
  have HF2 : Aside0 (∀ q, F2 q → w.heap.size ≤ q) := ⟨fun q hq => (hF2 q hq).elim (fun h => HF1.out q h) (fun h => Nat.le_trans hB1b.size h.1)⟩
  have HB2 := Aside0.mk (below_turned hB1b hT2 hB1b.size HF1.out)
  clear hA2 hT2 hF2 hB1b
  go_wp2_with fail
  have hB2b := below_alloc HB2.out (.cells #[.int .u8 98] 5 (1, 2))
  refine (send_step (HA2.out.below (below_alloc (Below.refl _ _) (.cells #[.int .u8 98] 5 (1, 2)))) 0 1 (some ⟨w2.heap.size, 0, none⟩) [98] 1 (by decide) (by simp) (by decide) (by decide) (has_empty _) (by simp) (one_reads w2 98)).mono ?_
  rintro e w3 ⟨F3, rfl, hA3, hT3, hF3⟩
  have HA3 := Aside0.mk (show AirRep w3 F3 b 3 [dA, dB] (.map []) 0 from hA3)
  have HF3 : Aside0 (∀ q, F3 q → w.heap.size ≤ q) := ⟨fun q hq => (hF3 q hq).elim (fun h => HF2.out q h) (fun h => Nat.le_trans hB2b.size h.1)⟩
  have HB3 := Aside0.mk (below_turned hB2b hT3 hB2b.size HF2.out)
  clear hA3 hT3 hF3 hB2b
  go_wp2_with fail
  refine (double_step HA3.out 0 (by simp) small_two (by simp)).mono ?_
  rintro e w4 ⟨F4, rfl, hA4, hT4, hF4⟩
  have HA4 := Aside0.mk (show AirRep w4 F4 b 3 [dA, dB, dA] (.map []) 0 from hA4)
  have HF4 : Aside0 (∀ q, F4 q → w.heap.size ≤ q) := ⟨fun q hq => (hF4 q hq).elim (fun h => HF3.out q h) (fun h => Nat.le_trans HB3.out.size h.1)⟩
  have HB4 := Aside0.mk (below_turned HB3.out hT4 HB3.out.size HF3.out)
  clear hA4 hT4 hF4
  go_wp2_with fail
  refine (hold_ok HA4.out 1 (by simp)).mono ?_
  rintro e w5 ⟨rfl, hA5, hT5⟩
  have HA5 := Aside0.mk (show AirRep w5 F4 b 3 [dA, dA, dB] (.map []) 0 from hA5)
  have HB5 := Aside0.mk (below_turned HB4.out hT5 HB4.out.size HF4.out)
  clear hA5 hT5
  go_wp2_with fail
  refine (carry_step HA5.out 0 (by simp) (by simp [dA, dB]) 0 1 [97] 1 rfl rfl [dA, dB] rfl).mono ?_
  rintro e w6 ⟨A6, c6, rfl, hA6, hT6, hK6⟩
  have HK6 := Aside0.mk (show Kept1 F4 (w6.alloc (.cells #[.int .i64 0, .int .i64 1, .slice A6 1 c6] 24)) w6.heap.size A6 c6 dA from hK6)
  have HA6 := Aside0.mk (AirRep.below (show AirRep w6 F4 b 3 [dA, dB] (.map []) 0 from hA6) (below_alloc (Below.refl _ _) (.cells #[.int .i64 0, .int .i64 1, .slice A6 1 c6] 24)))
  have HB6 := Aside0.mk (below_alloc (below_turned HB5.out hT6 HB5.out.size HF4.out) (.cells #[.int .i64 0, .int .i64 1, .slice A6 1 c6] 24))
  have HT6 := Aside0.mk (Turned.alloc hT6 (.cells #[.int .i64 0, .int .i64 1, .slice A6 1 c6] 24))
  have HN6 := Aside0.mk hT6
  clear hA6 hT6 hK6
  go_wp2_with fail
  refine (carry_step HA6.out 0 (by simp) (by simp [dA, dB]) 0 1 [97] 1 rfl rfl [dB] rfl).mono ?_
  rintro e w7 ⟨A7, c7, rfl, hA7, hT7, hK7⟩
  have HK7 := Aside0.mk (show Kept1 F4 (w7.alloc (.cells #[.int .i64 0, .int .i64 1, .slice A7 1 c7] 24)) w7.heap.size A7 c7 dA from hK7)
  have HA7 := Aside0.mk (AirRep.below (show AirRep w7 F4 b 3 [dB] (.map []) 0 from hA7) (below_alloc (Below.refl _ _) (.cells #[.int .i64 0, .int .i64 1, .slice A7 1 c7] 24)))
  have HB7 := Aside0.mk (below_alloc (below_turned HB6.out hT7 HB6.out.size HF4.out) (.cells #[.int .i64 0, .int .i64 1, .slice A7 1 c7] 24))
  have HT7 := Aside0.mk (Turned.alloc hT7 (.cells #[.int .i64 0, .int .i64 1, .slice A7 1 c7] 24))
  have HN7 := Aside0.mk hT7
  clear hA7 hT7 hK7
  go_wp2_with fail
  refine (carry_step HA7.out 0 (by simp) (by simp [dA, dB]) 0 1 [98] 1 rfl rfl [] rfl).mono ?_
  rintro e w8 ⟨A8, c8, rfl, hA8, hT8, hK8⟩
  have HK8 := Aside0.mk (show Kept1 F4 (w8.alloc (.cells #[.int .i64 0, .int .i64 1, .slice A8 1 c8] 24)) w8.heap.size A8 c8 dB from hK8)
  have HA8 := Aside0.mk (AirRep.below (show AirRep w8 F4 b 3 [] (.map []) 0 from hA8) (below_alloc (Below.refl _ _) (.cells #[.int .i64 0, .int .i64 1, .slice A8 1 c8] 24)))
  have HB8 := Aside0.mk (below_alloc (below_turned HB7.out hT8 HB7.out.size HF4.out) (.cells #[.int .i64 0, .int .i64 1, .slice A8 1 c8] 24))
  have HT8 := Aside0.mk (Turned.alloc hT8 (.cells #[.int .i64 0, .int .i64 1, .slice A8 1 c8] 24))
  have HN8 := Aside0.mk hT8
  clear hA8 hT8 hK8
  have k6 := (HK6.out.step HT7.out).step HN8.out
  have k7 := HK7.out.step HN8.out
  have s6 : (convert 22 9 (.slice A6 1 c6)).run Try.prog (w8.alloc (.cells #[.int .i64 0, .int .i64 1, .slice A8 1 c8] 24)) = .ok (.string ⟨#[97]⟩) (w8.alloc (.cells #[.int .i64 0, .int .i64 1, .slice A8 1 c8] 24)) := Kd.C_string (P := Try.prog) (c := c6) Try.underlying22 Try.underlying5 Try.underlying9 (HK6.out _ (HT7.out.then_ HT8.out (fun _ hk => .inl hk))).2
  have s7 : (convert 22 9 (.slice A7 1 c7)).run Try.prog (w8.alloc (.cells #[.int .i64 0, .int .i64 1, .slice A8 1 c8] 24)) = .ok (.string ⟨#[97]⟩) (w8.alloc (.cells #[.int .i64 0, .int .i64 1, .slice A8 1 c8] 24)) := Kd.C_string (P := Try.prog) (c := c7) Try.underlying22 Try.underlying5 Try.underlying9 (HK7.out _ HT8.out).2
  have s8 : (convert 22 9 (.slice A8 1 c8)).run Try.prog (w8.alloc (.cells #[.int .i64 0, .int .i64 1, .slice A8 1 c8] 24)) = .ok (.string ⟨#[98]⟩) (w8.alloc (.cells #[.int .i64 0, .int .i64 1, .slice A8 1 c8] 24)) := Kd.C_string (P := Try.prog) (c := c8) Try.underlying22 Try.underlying5 Try.underlying9 HK8.out.now.2
  have e6 := k6.now.1
  have e7 := k7.now.1
  have x6 : w8.cell? ⟨w6.heap.size, 2, none⟩ = some (.slice A6 1 c6) := (e6.cell 2).trans rfl
  have x7 : w8.cell? ⟨w7.heap.size, 2, none⟩ = some (.slice A7 1 c7) := (e7.cell 2).trans rfl
  have l6 := e6.lt
  have l7 := e7.lt
  clear k6 k7 e6 e7
  go_wp2_with fail
  refine (count_any HA8.out).mono ?_
  rintro e w9 ⟨rfl, rfl⟩
  go_wp2_with fail
  refine (cut_bad HA8.out 0 3 true (by decide)).mono ?_
  rintro e w10 ⟨rfl, hB10⟩
  have HB10 := Aside0.mk (below_then HB8.out HB8.out.size hB10)
  clear hB10
  go_wp2_with fail
  go_ret
  exact ⟨rfl, HB10.out⟩
end Go.Proofs.Ytikfelmmelkioaa.Mine
