/- wire: count and text. -/
import Derived.Test.YtmjbdeoomohanaaWireD
set_option linter.unusedSimpArgs false
set_option linter.unusedVariables false
namespace Go.Proofs.Ytmjbdeoomohanaa.Mine
open Go.RowKit Go.Maps Go.Proofs.YtmjbdeoomohanaaW.PrintWords Go.Proofs.YtmjbdeoomohanaaW.PrintLast Go.Proofs.YtmjbdeoomohanaaW.PrintMore Go.Proofs.Ytmjbdeoomohanaa.PWirePacks Go.Proofs.Ytmjbdeoomohanaa.Turn

def countS (S : St) (n : Int) (sz : Nat) (most bad : Int) : Except Int (Int × St) :=
  match step S (be n sz) sz with
  | .error x => .error x
  | .ok (r, S') => if most < val r then .error bad else .ok (val r, S')

theorem val_nat {r : List Int} (h : ∀ x ∈ r, 0 ≤ x ∧ x < 256) : 0 ≤ val r := by
  have := (val_range h r.length (Nat.le_refl _)).1
  rwa [List.take_length] at this

/-- How count ends. -/
def EndsC (w : World) (base : Nat) (G : Nat → Prop) (b : Nat) (x : Except Int (Int × St)) (e : Ending) (w' : World) : Prop :=
  ∃ G' : Nat → Prop, (∀ k, G' k → G k ∨ w.heap.size ≤ k) ∧ Turned G w w' ∧ match x with
  | .ok (r, S') => e = .returned (.int .i64 r) ∧ Cod w' base G' b S'
  | .error x => e = wrongs x

set_option maxHeartbeats 2000000 in
theorem count_any {w : World} {base b : Nat} {G : Nat → Prop} {S : St} (h : Cod w base G b S) (hS : OkS S) (n : Int) (h0 : 0 ≤ n) (hn : n ≤ 4611686018427387904) (sz : Nat) (hz : 0 < sz) (hz8 : sz ≤ 8) (most bad : Int) (hm0 : 0 ≤ most) (hm : most ≤ 4611686018427387904) :
    Calls Try.prog 58 #[.pointer (some ⟨b, 0, none⟩), .int .i64 n, .int .i64 sz, .int .i64 most, .int .i64 bad] w fun e w' => EndsC w base G b (countS S n sz most bad) e w' := by
  have HN := Aside0.mk (number_any h hS n h0 (by omega) sz hz hz8)
  have HSO := Aside0.mk hS
  clear h hS
  have hw1 : IntKind.u64.wrap n = n := by rw [IntKind.wrap_u64]; omega
  have hw2 : IntKind.u64.wrap most = most := by rw [IntKind.wrap_u64]; omega
  have HE := Aside0.mk (countS.eq_def S n sz most bad)
  obtain ⟨x, hx⟩ : ∃ x, step S (be n sz) sz = x := ⟨_, rfl⟩
  have HV : Aside0 (∀ r S', x = .ok (r, S') → 0 ≤ val r) := ⟨fun r S' e => val_nat (step_ok HSO.out (be_range n sz) (be_len n sz) (by rw [hx, e])).2⟩
  rw [hx] at HN HE
  clear hx
  generalize countS S n sz most bad = X at HE ⊢
  go_enter Try.func58, Try.ntmps58
  go_wp2_with fail
  refine HN.out.mono ?_
  cases x with
  | error x =>
    rintro e w2 ⟨G', hG', hT', he⟩
    have he2 : e = .panicked [{ v := .iface 63 (.agg #[.int .i64 x]), recovered := false }] := he
    subst he2
    clear he
    have HG := Aside0.mk hG'
    have HT := Aside0.mk hT'
    clear hG' hT'
    go_wp2_with fail
    rw [HE.out]
    exact ⟨rfl, G', HG.out, HT.out, rfl⟩
  | ok x =>
    obtain ⟨r, S'⟩ := x
    rintro e w2 ⟨G', hG', hT', rfl, hC2⟩
    have HG := Aside0.mk hG'
    have HT := Aside0.mk hT'
    have HC2 := Aside0.mk hC2
    have hv0 := HV.out r S' rfl
    clear hG' hT' hC2
    obtain ⟨v, hv⟩ : ∃ v, val r = v := ⟨_, rfl⟩
    simp only at HE
    rw [hv] at HE hv0 ⊢
    clear hv
    by_cases hlt : most < v
    · have HX : Aside0 (X = .error bad) := ⟨by rw [HE.out, if_pos hlt]⟩
      clear HE
      go_wp2_with fail
      rw [HX.out]
      exact ⟨rfl, G', HG.out, HT.out, rfl⟩
    · have HX : Aside0 (X = .ok (v, S')) := ⟨by rw [HE.out, if_neg hlt]⟩
      have hw3 : IntKind.i64.wrap v = v := IntWalk.i64_in _ (by omega)
      clear HE
      go_wp2_with fail
      rw [HX.out]
      go_ret
      exact ⟨G', HG.out, HT.out, rfl, HC2.out⟩
def textS (S : St) (bs : List Int) : Except Int (List Int × St) :=
  match countS S bs.length 2 2048 2 with
  | .error x => .error x
  | .ok (n, S') => step S' bs n.toNat

/-- What a coder holds is less than N. -/
def OkT (N : Nat) : St → Prop
  | .W l => l.length ≤ N
  | .R l => l.length ≤ N ∧ ∀ x ∈ l, 0 ≤ x ∧ x < 256
theorem OkT.ok {N : Nat} {S : St} (h : OkT N S) (hN : N ≤ 1099511627776) : OkS S := by
  cases S with
  | W l => exact Nat.le_trans h hN
  | R l => exact ⟨Nat.le_trans h.1 hN, h.2⟩
theorem OkT.mono {N N' : Nat} {S : St} (h : OkT N S) (hN : N ≤ N') : OkT N' S := by
  cases S with
  | W l => exact Nat.le_trans h hN
  | R l => exact ⟨Nat.le_trans h.1 hN, h.2⟩
theorem OkT.step {N : Nat} {S S' : St} {bs r : List Int} {n : Nat} (h : OkT N S) (hs : step S bs n = .ok (r, S')) : OkT (N + bs.length) S' := by
  cases S with
  | W l =>
    simp only [Mine.step, Except.ok.injEq, Prod.mk.injEq] at hs
    obtain ⟨rfl, rfl⟩ := hs
    have : l.length ≤ N := h
    simp only [OkT, List.length_append]
    omega
  | R l =>
    simp only [Mine.step] at hs
    split at hs
    · cases hs
    · simp only [Except.ok.injEq, Prod.mk.injEq] at hs
      obtain ⟨rfl, rfl⟩ := hs
      have h1 := h.1
      simp only [OkT, List.length_drop]
      exact ⟨by omega, fun x hx => h.2 x (List.mem_of_mem_drop hx)⟩
theorem OkT.count {N : Nat} {S S' : St} {n m : Int} {sz : Nat} {most bad : Int} (h : OkT N S) (hs : countS S n sz most bad = .ok (m, S')) (hN : N ≤ 1099511627776) : OkT (N + sz) S' ∧ 0 ≤ m ∧ m ≤ most := by
  unfold countS at hs
  split at hs
  · cases hs
  · rename_i r S1 h1
    split at hs
    · cases hs
    · simp only [Except.ok.injEq, Prod.mk.injEq] at hs
      obtain ⟨rfl, rfl⟩ := hs
      have h2 := h.step h1
      rw [be_len] at h2
      exact ⟨h2, val_nat (step_ok (h.ok hN) (be_range _ _) (be_len _ _) h1).2, by omega⟩
theorem OkT.fits {N : Nat} {S : St} (h : OkT N S) (m : Nat) (hm : N + m ≤ 140737488355328) : Fits S m := by
  cases S with
  | W l => exact Nat.le_trans (Nat.add_le_add_right h m) hm
  | R l => exact Nat.le_trans h.1 (by omega)

theorem Ends.after {w w1 w' : World} {base b : Nat} {G G1 Q : Nat → Prop} {x : Except Int (List Int × St)} {e : Ending} (hG : ∀ k, G1 k → G k ∨ w.heap.size ≤ k) (hT : Turned G w w1) (h : Ends w1 base G1 b (fun k => Q k ∨ w.heap.size ≤ k) x e w') : Ends w base G b Q x e w' := by
  obtain ⟨G', hG', hT', h3⟩ := h
  refine ⟨G', fun k hk => (hG' k hk).elim (hG k) (fun h => .inr (Nat.le_trans hT.size h)), hT.then_ hT' hG, ?_⟩
  cases x with
  | error x => exact h3
  | ok x =>
    obtain ⟨r, S'⟩ := x
    obtain ⟨⟨A, c, he, hc, hF⟩, hC⟩ := h3
    exact ⟨⟨A, c, he, hc, Kd.F_mono hF (fun k hk => ⟨hk.1, hk.2.elim id (fun h => .inr (Nat.le_trans hT.size h))⟩)⟩, hC⟩

set_option maxHeartbeats 2000000 in
theorem text_any {w : World} {base b : Nat} {G Q : Nat → Prop} {S : St} (h : Cod w base G b S) {N : Nat} (hS : OkT N S) (hN : N ≤ 549755813888) (A : Option Addr) (c : Nat) (bs : List Int) (hl : bs.length ≤ c) (hbs : bs.length ≤ 549755813888) (hr : Kd.F (Kd.int .u8) w (fun k => ¬ G k ∧ Q k) A bs.length bs) :
    Calls Try.prog 59 #[.pointer (some ⟨b, 0, none⟩), .slice A bs.length c] w fun e w' => Ends w base G b Q (textS S bs) e w' := by
  have HN := Aside0.mk (count_any h (hS.ok (by omega)) bs.length (by omega) (by omega) 2 (by omega) (by omega) 2048 2 (by omega) (by omega))
  have HF := Aside0.mk hr
  have HS := Aside0.mk hS
  have HE := Aside0.mk (textS.eq_def S bs)
  clear h hr hS
  obtain ⟨x, hx⟩ : ∃ x, countS S bs.length 2 2048 2 = x := ⟨_, rfl⟩
  have HV : Aside0 (∀ r S', x = .ok (r, S') → OkT (N + 2) S' ∧ 0 ≤ r ∧ r ≤ 2048) := ⟨fun r S' e => HS.out.count (by rw [hx, e]) (by omega)⟩
  rw [hx] at HN HE
  clear hx
  generalize textS S bs = X at HE ⊢
  go_enter Try.func59, Try.ntmps59
  go_wp2_with fail
  refine HN.out.mono ?_
  cases x with
  | error x =>
    rintro e w2 ⟨G', hG', hT', he⟩
    have he2 : e = .panicked [{ v := .iface 63 (.agg #[.int .i64 x]), recovered := false }] := he
    subst he2
    clear he
    have HG := Aside0.mk hG'
    have HT := Aside0.mk hT'
    clear hG' hT'
    go_wp2_with fail
    rw [HE.out]
    exact ⟨rfl, G', HG.out, HT.out, rfl⟩
  | ok x =>
    obtain ⟨r, S'⟩ := x
    rintro e w2 ⟨G', hG', hT', rfl, hC2⟩
    obtain ⟨hv1, hv2, hv3⟩ := HV.out r S' rfl
    obtain ⟨k, rfl⟩ : ∃ k : Nat, r = k := ⟨r.toNat, by omega⟩
    have HB := Aside0.mk (bytes_any hC2 A c bs k hl (F_turn HF.out hT' hG') (hv1.fits _ (by omega)))
    have HG := Aside0.mk hG'
    have HT := Aside0.mk hT'
    simp only [Int.toNat_natCast] at HE
    clear hG' hT' hC2 hv1
    generalize step S' bs k = y at HB HE
    go_wp2_with fail
    refine HB.out.mono ?_
    cases y with
    | error y =>
      intro e w3 hE
      obtain ⟨G3, hG3, hT3, he⟩ := hE
      have he2 : e = .panicked [{ v := .iface 63 (.agg #[.int .i64 y]), recovered := false }] := he
      subst he2
      have HH := Aside0.mk (show Ends w2 base G' b (fun k => Q k ∨ w.heap.size ≤ k) (.error y) _ w3 from ⟨G3, hG3, hT3, rfl⟩)
      clear hG3 hT3 he
      go_wp2_with fail
      rw [HE.out]
      exact ⟨rfl, HH.out.after HG.out HT.out⟩
    | ok y =>
      obtain ⟨q, S3⟩ := y
      rintro e w3 ⟨G3, hG3, hT3, ⟨A3, c3, rfl, hc3, hF3⟩, hC3⟩
      have HH := Aside0.mk (show Ends w2 base G' b (fun k => Q k ∨ w.heap.size ≤ k) (.ok (q, S3)) _ w3 from ⟨G3, hG3, hT3, ⟨A3, c3, rfl, hc3, hF3⟩, hC3⟩)
      clear hG3 hT3 hF3 hC3
      go_wp2_with fail
      rw [HE.out]
      go_ret
      exact HH.out.after HG.out HT.out
end Go.Proofs.Ytmjbdeoomohanaa.Mine
