/- wire: the document's Parse. -/
import Derived.Test.YtmjbdeoomohanaaWireSd
import Derived.Test.YtmjbdeoomohanaaWm11
set_option linter.unusedSimpArgs false
set_option linter.unusedVariables false
namespace Go.Proofs.Ytmjbdeoomohanaa.Mine
open Go.RowKit Go.Maps Go.Proofs.YtmjbdeoomohanaaW.PrintWords Go.Proofs.YtmjbdeoomohanaaW.PrintLast Go.Proofs.YtmjbdeoomohanaaW.PrintMore Go.Proofs.Ytmjbdeoomohanaa.PWirePacks Go.Proofs.Ytmjbdeoomohanaa.Turn

def finL (Y : Except Int (Msg × List Int)) : Except Int Msg := match Y with
  | .error e => .error e
  | .ok (m, l2) => if 0 < l2.length then .error 6 else .ok m
theorem goL_step {h k : Nat} (hk : k < 13) (hb : h.testBit k = true) {m m' : Msg} {Z : Except Int (List Int)} (hv : ∀ y, (Z.bind fun l => fieldL k l m) = .ok y → m' = y.1) : (Z.bind fun l => finL (goL h (13 - k) k l m)) = (rest (Z.bind fun l => fieldL k l m)).bind fun l => finL (goL h (13 - (k + 1)) (k + 1) l m') := by
  cases Z with
  | error x => rfl
  | ok l =>
    have hv2 : ∀ y, fieldL k l m = .ok y → m' = y.1 := hv
    show finL (goL h (13 - k) k l m) = (rest (fieldL k l m)).bind fun l => finL (goL h (13 - (k + 1)) (k + 1) l m')
    rw [show 13 - k = (13 - (k + 1)) + 1 by omega, goL, if_pos hb]
    cases hf : fieldL k l m with
    | error x => rfl
    | ok y =>
      rw [hv2 y hf]
      rfl
theorem goL_skip {h k : Nat} (hk : k < 13) (hb : h.testBit k = false) {m : Msg} {Z : Except Int (List Int)} : (Z.bind fun l => finL (goL h (13 - k) k l m)) = Z.bind fun l => finL (goL h (13 - (k + 1)) (k + 1) l m) := by
  cases Z with
  | error x => rfl
  | ok l =>
    show finL (goL h (13 - k) k l m) = finL (goL h (13 - (k + 1)) (k + 1) l m)
    rw [show 13 - k = (13 - (k + 1)) + 1 by omega, goL, if_neg (by rw [hb]; exact Bool.false_ne_true)]
/-- The type is none. -/
def badT (t : Int) (Z : Except Int (List Int)) : Except Int (List Int) := match Z with
  | .ok l => if t < 1 ∨ 14 < t then .error 1 else .ok l
  | .error x => .error x
theorem hasB_none (t : Int) (h0 : 0 ≤ t) : hasB t = 0 ↔ t < 1 ∨ 14 < t := by
  unfold hasB
  by_cases h : 15 ≤ t
  · rw [has_small t h]
    exact ⟨fun _ => .inr (by omega), fun _ => rfl⟩
  · have hd : t = 0 ∨ t = 1 ∨ t = 2 ∨ t = 3 ∨ t = 4 ∨ t = 5 ∨ t = 6 ∨ t = 7 ∨ t = 8 ∨ t = 9 ∨ t = 10 ∨ t = 11 ∨ t = 12 ∨ t = 13 ∨ t = 14 := by omega
    rcases hd with rfl | rfl | rfl | rfl | rfl | rfl | rfl | rfl | rfl | rfl | rfl | rfl | rfl | rfl | rfl <;> decide
theorem parseL_eq {l : List Int} {t : Int} (ht : 0 ≤ t) (hv : ∀ y, numL l 1 = .ok y → t = y.1) : parseL l = (badT t (rest (numL l 1))).bind fun l => finL (goL (hasB t) (13 - 0) 0 l (zM t)) := by
  unfold parseL
  cases hn : numL l 1 with
  | error x => rfl
  | ok y =>
    obtain ⟨y1, y2⟩ := y
    obtain rfl := hv _ hn
    show (if hasB t = 0 then _ else _) = (badT t (.ok y2)).bind _
    show _ = (if t < 1 ∨ 14 < t then (.error 1 : Except Int (List Int)) else .ok y2).bind _
    by_cases h : t < 1 ∨ 14 < t
    · rw [if_pos h, if_pos ((hasB_none t ht).2 h)]
      rfl
    · rw [if_neg h, if_neg (fun e => h ((hasB_none t ht).1 e))]
      show _ = finL (goL (hasB t) 13 0 y2 (zM t))
      cases goL (hasB t) 13 0 y2 (zM t) <;> rfl

theorem put14 {w : World} {r : Nat} {v0 v1 v2 v3 v4 v5 v6 v7 v8 v9 v10 v11 v12 v13 c0 c1 c2 c3 c4 c5 c6 c7 c8 c9 c10 c11 c12 c13 : Value} (h : Blk w r #[c0, c1, c2, c3, c4, c5, c6, c7, c8, c9, c10, c11, c12, c13] 29) : ∀ w', ((((((((((((((w.setCell ⟨r, 0, none⟩ v0).setCell ⟨r, 1, none⟩ v1).setCell ⟨r, 2, none⟩ v2).setCell ⟨r, 3, none⟩ v3).setCell ⟨r, 4, none⟩ v4).setCell ⟨r, 5, none⟩ v5).setCell ⟨r, 6, none⟩ v6).setCell ⟨r, 7, none⟩ v7).setCell ⟨r, 8, none⟩ v8).setCell ⟨r, 9, none⟩ v9).setCell ⟨r, 10, none⟩ v10).setCell ⟨r, 11, none⟩ v11).setCell ⟨r, 12, none⟩ v12).setCell ⟨r, 13, none⟩ v13) = w' → Blk w' r #[v0, v1, v2, v3, v4, v5, v6, v7, v8, v9, v10, v11, v12, v13] 29 ∧ Turned (fun k => k = r) w w' := by
  rintro w' rfl
  have k0 : Blk _ r #[v0, c1, c2, c3, c4, c5, c6, c7, c8, c9, c10, c11, c12, c13] 29 := h.set 0 v0
  have k1 : Blk _ r #[v0, v1, c2, c3, c4, c5, c6, c7, c8, c9, c10, c11, c12, c13] 29 := k0.set 1 v1
  have k2 : Blk _ r #[v0, v1, v2, c3, c4, c5, c6, c7, c8, c9, c10, c11, c12, c13] 29 := k1.set 2 v2
  have k3 : Blk _ r #[v0, v1, v2, v3, c4, c5, c6, c7, c8, c9, c10, c11, c12, c13] 29 := k2.set 3 v3
  have k4 : Blk _ r #[v0, v1, v2, v3, v4, c5, c6, c7, c8, c9, c10, c11, c12, c13] 29 := k3.set 4 v4
  have k5 : Blk _ r #[v0, v1, v2, v3, v4, v5, c6, c7, c8, c9, c10, c11, c12, c13] 29 := k4.set 5 v5
  have k6 : Blk _ r #[v0, v1, v2, v3, v4, v5, v6, c7, c8, c9, c10, c11, c12, c13] 29 := k5.set 6 v6
  have k7 : Blk _ r #[v0, v1, v2, v3, v4, v5, v6, v7, c8, c9, c10, c11, c12, c13] 29 := k6.set 7 v7
  have k8 : Blk _ r #[v0, v1, v2, v3, v4, v5, v6, v7, v8, c9, c10, c11, c12, c13] 29 := k7.set 8 v8
  have k9 : Blk _ r #[v0, v1, v2, v3, v4, v5, v6, v7, v8, v9, c10, c11, c12, c13] 29 := k8.set 9 v9
  have k10 : Blk _ r #[v0, v1, v2, v3, v4, v5, v6, v7, v8, v9, v10, c11, c12, c13] 29 := k9.set 10 v10
  have k11 : Blk _ r #[v0, v1, v2, v3, v4, v5, v6, v7, v8, v9, v10, v11, c12, c13] 29 := k10.set 11 v11
  have k12 : Blk _ r #[v0, v1, v2, v3, v4, v5, v6, v7, v8, v9, v10, v11, v12, c13] 29 := k11.set 12 v12
  have k13 : Blk _ r #[v0, v1, v2, v3, v4, v5, v6, v7, v8, v9, v10, v11, v12, v13] 29 := k12.set 13 v13
  have t0 := Turned.setCell (S := fun k => k = r) (Turned.refl _ w) (p := ⟨r, 0, none⟩) (.inl rfl) v0
  have t1 := Turned.setCell (S := fun k => k = r) t0 (p := ⟨r, 1, none⟩) (.inl rfl) v1
  have t2 := Turned.setCell (S := fun k => k = r) t1 (p := ⟨r, 2, none⟩) (.inl rfl) v2
  have t3 := Turned.setCell (S := fun k => k = r) t2 (p := ⟨r, 3, none⟩) (.inl rfl) v3
  have t4 := Turned.setCell (S := fun k => k = r) t3 (p := ⟨r, 4, none⟩) (.inl rfl) v4
  have t5 := Turned.setCell (S := fun k => k = r) t4 (p := ⟨r, 5, none⟩) (.inl rfl) v5
  have t6 := Turned.setCell (S := fun k => k = r) t5 (p := ⟨r, 6, none⟩) (.inl rfl) v6
  have t7 := Turned.setCell (S := fun k => k = r) t6 (p := ⟨r, 7, none⟩) (.inl rfl) v7
  have t8 := Turned.setCell (S := fun k => k = r) t7 (p := ⟨r, 8, none⟩) (.inl rfl) v8
  have t9 := Turned.setCell (S := fun k => k = r) t8 (p := ⟨r, 9, none⟩) (.inl rfl) v9
  have t10 := Turned.setCell (S := fun k => k = r) t9 (p := ⟨r, 10, none⟩) (.inl rfl) v10
  have t11 := Turned.setCell (S := fun k => k = r) t10 (p := ⟨r, 11, none⟩) (.inl rfl) v11
  have t12 := Turned.setCell (S := fun k => k = r) t11 (p := ⟨r, 12, none⟩) (.inl rfl) v12
  have t13 := Turned.setCell (S := fun k => k = r) t12 (p := ⟨r, 13, none⟩) (.inl rfl) v13
  exact ⟨k13, t13⟩
theorem run_results18 (tmps : Array Value) (r : Nat) (x : Int) (w : World) (h2 : tmps[2]? = some (.pointer (some ⟨r, 0, none⟩))) (h3 : tmps[3]? = some (.int .i64 x)) {v0 v1 v2 v3 v4 v5 v6 v7 v8 v9 v10 v11 v12 v13 : Value} (hg : Blk w r #[v0, v1, v2, v3, v4, v5, v6, v7, v8, v9, v10, v11, v12, v13] 29) : (results Try.f18 tmps).run Try.prog w = .ok (.tuple #[.agg #[v0, v1, v2, v3, v4, v5, v6, v7, v8, v9, v10, v11, v12, v13], .int .i64 x]) w := by
  have hg0 : w.cell? ⟨r, 0, none⟩ = some v0 := (hg.cell 0).trans rfl
  have hg1 : w.cell? ⟨r, 1, none⟩ = some v1 := (hg.cell 1).trans rfl
  have hg2 : w.cell? ⟨r, 2, none⟩ = some v2 := (hg.cell 2).trans rfl
  have hg3 : w.cell? ⟨r, 3, none⟩ = some v3 := (hg.cell 3).trans rfl
  have hg4 : w.cell? ⟨r, 4, none⟩ = some v4 := (hg.cell 4).trans rfl
  have hg5 : w.cell? ⟨r, 5, none⟩ = some v5 := (hg.cell 5).trans rfl
  have hg6 : w.cell? ⟨r, 6, none⟩ = some v6 := (hg.cell 6).trans rfl
  have hg7 : w.cell? ⟨r, 7, none⟩ = some v7 := (hg.cell 7).trans rfl
  have hg8 : w.cell? ⟨r, 8, none⟩ = some v8 := (hg.cell 8).trans rfl
  have hg9 : w.cell? ⟨r, 9, none⟩ = some v9 := (hg.cell 9).trans rfl
  have hg10 : w.cell? ⟨r, 10, none⟩ = some v10 := (hg.cell 10).trans rfl
  have hg11 : w.cell? ⟨r, 11, none⟩ = some v11 := (hg.cell 11).trans rfl
  have hg12 : w.cell? ⟨r, 12, none⟩ = some v12 := (hg.cell 12).trans rfl
  have hg13 : w.cell? ⟨r, 13, none⟩ = some v13 := (hg.cell 13).trans rfl
  clear hg
  simp [results, Try.results18, h2, h3, go_sem, hg0, hg1, hg2, hg3, hg4, hg5, hg6, hg7, hg8, hg9, hg10, hg11, hg12, hg13]

set_option maxHeartbeats 8000000 in
set_option maxRecDepth 100000 in
theorem parseR_any {w : World} {A : Option Addr} {c : Nat} {l : List Int} (hl : l.length ≤ c) (hn : l.length ≤ 1073741824) (hb : Byt l) (hr : Kd.C (Kd.int .u8) w A l.length l) :
    Calls Try.prog 18 #[.slice A l.length c] w fun e w' => EndsP w (parseL l) e w' := by
  have HF := Aside0.mk (Kd.C_F (Kd.heap_int _) hr)
  have HBY := Aside0.mk hb
  have HL := Aside0.mk hl
  obtain ⟨X, hX⟩ : ∃ X, parseL l = X := ⟨_, rfl⟩
  rw [hX]
  have HX := Aside0.mk hX
  clear hr hb hX hl
  go_enter Try.func18, Try.ntmps18
  go_wp2_with fail
  obtain ⟨p, hp⟩ : ∃ p, w.heap.size + 1 = p := ⟨_, rfl⟩
  have HB0 := Aside0.mk (below_alloc (below_alloc (Below.refl w.heap.size w) (.cells #[.int .u8 0, .int .u64 0, .int .u64 0, .int .i64 0, .int .i64 0, .slice none 0 0, .int .u64 0, .int .u64 0, .slice none 0 0, .int .u64 0, .int .u8 0, .int .u32 0, .int .i64 0, .slice none 0 0] 29)) (.cells #[.slice A l.length c, .int .i64 0] 67))
  have hr0 := Blk.new w #[.int .u8 0, .int .u64 0, .int .u64 0, .int .i64 0, .int .i64 0, .slice none 0 0, .int .u64 0, .int .u64 0, .slice none 0 0, .int .u64 0, .int .u8 0, .int .u32 0, .int .i64 0, .slice none 0 0] 29
  have hr1 := hr0.alloc (.cells #[.slice A l.length c, .int .i64 0] 67)
  have hp1 := Blk.new (w.alloc (.cells #[.int .u8 0, .int .u64 0, .int .u64 0, .int .i64 0, .int .i64 0, .slice none 0 0, .int .u64 0, .int .u64 0, .slice none 0 0, .int .u64 0, .int .u8 0, .int .u32 0, .int .i64 0, .slice none 0 0] 29)) #[.slice A l.length c, .int .i64 0] 67
  have hz0 : (w.alloc (.cells #[.int .u8 0, .int .u64 0, .int .u64 0, .int .i64 0, .int .i64 0, .slice none 0 0, .int .u64 0, .int .u64 0, .slice none 0 0, .int .u64 0, .int .u8 0, .int .u32 0, .int .i64 0, .slice none 0 0] 29)).heap.size = w.heap.size + 1 := by simp
  have hz1 : ((w.alloc (.cells #[.int .u8 0, .int .u64 0, .int .u64 0, .int .i64 0, .int .i64 0, .slice none 0 0, .int .u64 0, .int .u64 0, .slice none 0 0, .int .u64 0, .int .u8 0, .int .u32 0, .int .i64 0, .slice none 0 0] 29)).alloc (.cells #[.slice A l.length c, .int .i64 0] 67)).heap.size = w.heap.size + 1 + 1 := by simp
  rw [hz0, hp] at hp1
  rw [hp] at hz1 ⊢
  generalize (w.alloc (.cells #[.int .u8 0, .int .u64 0, .int .u64 0, .int .i64 0, .int .i64 0, .slice none 0 0, .int .u64 0, .int .u64 0, .slice none 0 0, .int .u64 0, .int .u8 0, .int .u32 0, .int .i64 0, .slice none 0 0] 29)).alloc (.cells #[.slice A l.length c, .int .i64 0] 67) = W0 at *
  have HBR0 := Aside0.mk hr1
  have HRE0 : Aside0 (RdE W0 w.heap.size p (.ok l)) := ⟨⟨by omega, hn, HBY.out, A, c, hp1, HL.out, Kd.F_below HF.out HB0.out⟩⟩
  have hpw : w.heap.size < p := by omega
  clear hr0 hr1 hp1 hz0 hp hn
  refine (anyB HRE0.out 1 (by omega) 255 (by decide) (by omega)).mono ?_
  rintro e w1 ⟨hT1, t, rfl, ht0, ht1, htY, hR1⟩
  have hZ1 : X = (badT t (rest (numL l 1))).bind fun l => finL (goL (hasB t) (13 - 0) 0 l (zM t)) := by rw [← HX.out]; exact parseL_eq ht0 htY
  obtain ⟨Z1, hZ1e⟩ : ∃ Z1, rest (numL l 1) = Z1 := ⟨_, rfl⟩
  have hR1' : RdE w1 w.heap.size p (rest (numL l 1)) := hR1
  rw [hZ1e] at hZ1 hR1'
  have HXX := Aside0.mk hZ1
  have hsz := hT1.size
  have HBRw : Aside0 (Blk w1 w.heap.size #[.int .u8 0, .int .u64 0, .int .u64 0, .int .i64 0, .int .i64 0, .slice none 0 0, .int .u64 0, .int .u64 0, .slice none 0 0, .int .u64 0, .int .u8 0, .int .u32 0, .int .i64 0, .slice none 0 0] 29) := ⟨hT1.blk HBR0.out (by omega)⟩
  have HBw : Aside0 (Below w.heap.size w w1) := ⟨below_turned HB0.out hT1 HB0.out.size (fun k hk => by omega)⟩
  obtain ⟨q, hq⟩ : ∃ q, w1.heap.size = q := ⟨_, rfl⟩
  have hw8 : IntKind.u8.wrap t = t := by rw [IntKind.wrap_u8]; omega
  have HRE1 := Aside0.mk hR1'
  clear hR1 hR1' hZ1 hZ1e htY hT1
  go_upto_region 3 with (fail)
  have HB2 := Aside0.mk (below_alloc HBw.out (.cells #[.int .u8 t, .int .u64 0, .int .u64 0, .int .i64 0, .int .i64 0, .slice none 0 0, .int .u64 0, .int .u64 0, .slice none 0 0, .int .u64 0, .int .u8 0, .int .u32 0, .int .i64 0, .slice none 0 0] 29))
  have HBR2 := Aside0.mk (HBRw.out.alloc (.cells #[.int .u8 t, .int .u64 0, .int .u64 0, .int .i64 0, .int .i64 0, .slice none 0 0, .int .u64 0, .int .u64 0, .slice none 0 0, .int .u64 0, .int .u8 0, .int .u32 0, .int .i64 0, .slice none 0 0] 29))
  have hq2 := Blk.new w1 #[.int .u8 t, .int .u64 0, .int .u64 0, .int .i64 0, .int .i64 0, .slice none 0 0, .int .u64 0, .int .u64 0, .slice none 0 0, .int .u64 0, .int .u8 0, .int .u32 0, .int .i64 0, .slice none 0 0] 29
  have HRE2 := Aside0.mk (HRE1.out.below (below_alloc (Below.refl _ w1) (.cells #[.int .u8 t, .int .u64 0, .int .u64 0, .int .i64 0, .int .i64 0, .slice none 0 0, .int .u64 0, .int .u64 0, .slice none 0 0, .int .u64 0, .int .u8 0, .int .u32 0, .int .i64 0, .slice none 0 0] 29)))
  have hpq : p < q := by have := HRE1.out.lt.1; omega
  rw [hq] at hq2
  generalize w1.alloc (.cells #[.int .u8 t, .int .u64 0, .int .u64 0, .int .i64 0, .int .i64 0, .slice none 0 0, .int .u64 0, .int .u64 0, .slice none 0 0, .int .u64 0, .int .u8 0, .int .u32 0, .int .i64 0, .slice none 0 0] 29) = w2 at *
  have hl2 := hq2.lt
  have q0 : w2.cell? ⟨q, 0, none⟩ = some (.int .u8 t) := (hq2.cell 0).trans rfl
  have HMS2 : Aside0 (MsgAt 0 w2 q (fun k => k = p) (zM t)) := ⟨⟨none, 0, none, 0, none, 0, hq2, Nat.le_refl _, Nat.le_refl _, Nat.le_refl _, Kd.F_nil _ _ _, Kd.F_nil _ _ _, Kd.F_nil _ _ _⟩⟩
  have hnq : w.heap.size ≠ q := by omega
  clear hq2 HRE1 HBRw HBw hq HBR0 HB0 HRE0
  obtain ⟨bad, hbad⟩ : ∃ bad : Bool, (match Z1 with | .ok _ => decide (t < 1 ∨ 14 < t) | .error _ => false) = bad := ⟨_, rfl⟩
  have HBAD := Aside0.mk hbad
  clear hbad
  go_cut [29] (fun c wx => c = .bool bad ∧ Aside0 (w2 = wx))
  case first =>
    cases Z1 with
    | error x =>
      obtain ⟨hx, l1, hRd⟩ := HRE2.out
      obtain ⟨h1, h2, h3, A0, c0, h4, h5, h6⟩ := hRd
      have h40 : World.cell? w2 ⟨p, 0, none⟩ = some (.slice A0 l1.length c0) := Blk.cell h4 0
      have h41 : World.cell? w2 ⟨p, 1, none⟩ = some (.int .i64 x) := Blk.cell h4 1
      have hbx : (x == 0) = false := by simpa using hx
      clear h1 h2 h3 h4 h5 h6 hx
      go_wp2_with fail
      go_meet
      exact ⟨by rw [← HBAD.out], ⟨rfl⟩⟩
    | ok l1 =>
      have hRd : Rd w2 w.heap.size p l1 0 := HRE2.out
      obtain ⟨h1, h2, h3, A0, c0, h4, h5, h6⟩ := hRd
      have h40 : World.cell? w2 ⟨p, 0, none⟩ = some (.slice A0 l1.length c0) := Blk.cell h4 0
      have h41 : World.cell? w2 ⟨p, 1, none⟩ = some (.int .i64 0) := Blk.cell h4 1
      clear h1 h2 h3 h4 h5 h6
      by_cases e1 : t < 1
      · have HE : Aside0 (bad = true) := ⟨by rw [← HBAD.out]; exact decide_eq_true (.inl e1)⟩
        go_wp2_with fail
        go_meet
        exact ⟨by rw [HE.out], ⟨rfl⟩⟩
      · by_cases e2 : 14 < t
        · have HE : Aside0 (bad = true) := ⟨by rw [← HBAD.out]; exact decide_eq_true (.inr e2)⟩
          go_wp2_with fail
          go_meet
          exact ⟨by rw [HE.out], ⟨rfl⟩⟩
        · have HE : Aside0 (bad = false) := ⟨by rw [← HBAD.out]; exact decide_eq_false (by omega)⟩
          go_wp2_with fail
          go_meet
          exact ⟨by rw [HE.out], ⟨rfl⟩⟩
  case rest =>
    obtain ⟨rfl, HWC⟩ := hcut
    obtain rfl := HWC.out
    go_upto_if 29 with (fail)
    go_cut [] (fun wx => Aside0 (Turned (fun k => k = p) w2 wx ∧ RdE wx w.heap.size p (badT t Z1)))
    case first =>
      cases bad with
      | true =>
        obtain ⟨l1, rfl, h14⟩ : ∃ l1, Z1 = .ok l1 ∧ (t < 1 ∨ 14 < t) := by
          have := HBAD.out
          cases Z1 with
          | error x => cases this
          | ok l1 => exact ⟨l1, rfl, of_decide_eq_true this⟩
        have hRd : Rd w2 w.heap.size p l1 0 := HRE2.out
        have HW := Aside0.mk (hRd.wrong 1)
        obtain ⟨h1, h2, h3, A0, c0, h4, h5, h6⟩ := hRd
        have h40 : World.cell? w2 ⟨p, 0, none⟩ = some (.slice A0 l1.length c0) := Blk.cell h4 0
        have h4f0 : World.frozen? w2 ⟨p, 0, none⟩ = false := Blk.free h4 0
        have h41 : World.cell? w2 ⟨p, 1, none⟩ = some (.int .i64 0) := Blk.cell h4 1
        have h4f1 : World.frozen? w2 ⟨p, 1, none⟩ = false := Blk.free h4 1
        have H14 := Aside0.mk h14
        clear h1 h2 h3 h4 h5 h6 h14
        go_wp2_with fail
        go_meet
        exact ⟨⟨Turned.setCell (S := fun k => k = p) (Turned.refl _ _) (.inl rfl) _, by unfold badT; simp only; rw [if_pos H14.out]; exact ⟨by omega, _, HW.out⟩⟩⟩
      | false =>
        have HE : Aside0 (badT t Z1 = Z1) := ⟨by
          have := HBAD.out
          cases Z1 with
          | error x => rfl
          | ok l1 => unfold badT; simp only; rw [if_neg (of_decide_eq_false this)]⟩
        go_wp2_with fail
        go_meet
        exact ⟨⟨Turned.refl _ _, by rw [HE.out]; exact HRE2.out⟩⟩
    case rest =>
      have hT := hcut.out.1
      have HREc := Aside0.mk hcut.out.2
      have hne : ¬ q = p := by omega
      have HMSc := Aside0.mk (HMS2.out.turn hne hT (fun k hk => .inl hk))
      have q0c : wc.cell? ⟨q, 0, none⟩ = some (.int .u8 t) := hT.cell q0 hne
      have HBRc : Aside0 (Blk wc w.heap.size #[.int .u8 0, .int .u64 0, .int .u64 0, .int .i64 0, .int .i64 0, .slice none 0 0, .int .u64 0, .int .u64 0, .slice none 0 0, .int .u64 0, .int .u8 0, .int .u32 0, .int .i64 0, .slice none 0 0] 29) := ⟨hT.blk HBR2.out (by omega)⟩
      have HBc : Aside0 (Below w.heap.size w wc) := ⟨below_turned HB2.out hT HB2.out.size (fun k hk => by omega)⟩
      obtain ⟨Z2, hZ2⟩ : ∃ Z2, badT t Z1 = Z2 := ⟨_, rfl⟩
      have HXX2 : Aside0 (X = Z2.bind fun l => finL (goL (hasB t) (13 - 0) 0 l (zM t))) := ⟨by rw [← hZ2]; exact HXX.out⟩
      rw [hZ2] at HREc
      have hsc := hT.size
      clear hT hcut q0 HMS2 HBR2 HB2 HRE2 HXX hZ2 HBAD HWC
      go_wp2_with fail
      refine (hasR_any t ht0 ht1 _).mono ?_
      rintro e w3 ⟨rfl, hb3⟩
      obtain ⟨hf, hhf⟩ : ∃ hf, (hasB t).testBit = hf := ⟨_, rfl⟩
      rw [hhf]
      have HHF := Aside0.mk hhf
      have HB3 := Aside0.mk (below_step HBc.out hb3)
      have HMS3 := Aside0.mk (HMSc.out.turn hne (Turned.of_below hb3 (fun k => k = p)) (fun k hk => .inl hk))
      have HRE3 := Aside0.mk (HREc.out.below hb3)
      have HBR3 : Aside0 (Blk w3 w.heap.size #[.int .u8 0, .int .u64 0, .int .u64 0, .int .i64 0, .int .i64 0, .slice none 0 0, .int .u64 0, .int .u64 0, .slice none 0 0, .int .u64 0, .int .u8 0, .int .u32 0, .int .i64 0, .slice none 0 0] 29) := ⟨(hb3.block _ HBRc.out.lt).trans HBRc.out⟩
      have hs3 := hb3.size
      clear hb3 hhf HBc HMSc HREc HBRc q0c
      go_wp2_with fail
      rw [store58 _ _ (by rfl)]
      simp only [Result.andThen]
      go_wp2_with fail
      have HB4 := Aside0.mk (below_alloc HB3.out (.cells (boolsV hf) 58))
      have HBR4 := Aside0.mk (HBR3.out.alloc (.cells (boolsV hf) 58))
      have HMS4 := Aside0.mk (HMS3.out.turn hne (Turned.of_below (below_alloc (Below.refl _ w3) (.cells (boolsV hf) 58)) (fun k => k = p)) (fun k hk => .inl hk))
      have HRE4 := Aside0.mk (HRE3.out.below (below_alloc (Below.refl _ w3) (.cells (boolsV hf) 58)))
      have HH4 := Aside0.mk (Blk.new w3 (boolsV hf) 58)
      obtain ⟨g, hg⟩ : ∃ g, w3.heap.size = g := ⟨_, rfl⟩
      rw [hg] at HH4 hs3
      simp only [hg]
      clear hg
      generalize w3.alloc (.cells (boolsV hf) 58) = w4 at *
      have hsz4 := HH4.out.lt
      clear HB3 HBR3 HMS3 HRE3
      go_loopw [7] (fun i wr => ∃ (k : Nat) (m : Msg) (Z : Except Int (List Int)), k ≤ 13 ∧ i = .int .i64 k ∧ Aside0 (X = Z.bind fun l => finL (goL (hasB t) (13 - k) k l m)) ∧ Aside0 (RdE wr w.heap.size p Z) ∧ Aside0 (MsgAt 0 wr q (fun k => k = p) m) ∧ Aside0 (m.log.length ≤ 4611686018427387904) ∧ Aside0 (Turned (fun k => k = p ∨ k = q) w4 wr)) (fun i _ => 13 - (intOf i).toNat)
      case atStart => exact ⟨0, zM t, Z2, Nat.zero_le _, rfl, HXX2, HRE4, HMS4, ⟨by simp [zM]⟩, ⟨Turned.refl _ _⟩⟩
      case round =>
        clear HXX2 HRE4 HMS4
        obtain ⟨k, m, Z, hk, rfl, HXK, HRE, HMS, HML, HTW⟩ := hrel
        by_cases hlt : k < 13
        · have ch : wr.cell? ⟨g, k, none⟩ = some (.bool (hf k)) := HTW.out.cell ((HH4.out.cell k).trans (boolsV_at hf hlt)) (by show ¬ (g = p ∨ g = q); omega)
          obtain ⟨b, hb⟩ : ∃ b, hf k = b := ⟨_, rfl⟩
          rw [hb] at ch
          have HBK : Aside0 ((hasB t).testBit k = b) := ⟨by rw [HHF.out]; exact hb⟩
          clear hb
          cases b with
          | true =>
            go_wp2_with fail
            refine (fieldD_any HRE.out HMS.out hpq HML.out k hlt).mono ?_
            rintro e w5 ⟨hT5, rfl, m', hM5, hml5, hv5, hR5⟩
            have HX5 : Aside0 (X = (rest (Z.bind fun l => fieldL k l m)).bind fun l => finL (goL (hasB t) (13 - (k + 1)) (k + 1) l m')) := ⟨HXK.out.trans (goL_step hlt HBK.out hv5)⟩
            have HT5 := Aside0.mk (HTW.out.then_ hT5 (fun k hk => .inl hk))
            have HM5 := Aside0.mk hM5
            have HML5 := Aside0.mk hml5
            have HR5 := Aside0.mk hR5
            clear hT5 hM5 hml5 hv5 hR5
            go_wp2_with fail
            go_roundw
            case rel => exact ⟨k + 1, m', _, by omega, by go_num, HX5, HR5, HM5, HML5, HT5⟩
            case measure => simp [intOf]; omega
          | false =>
            have HX5 := Aside0.mk (HXK.out.trans (goL_skip hlt HBK.out))
            go_wp2_with fail
            go_roundw
            case rel => exact ⟨k + 1, m, Z, by omega, by go_num, HX5, HRE, HMS, HML, HTW⟩
            case measure => simp [intOf]; omega
        · obtain rfl : k = 13 := by omega
          have HXF : Aside0 (X = Z.bind fun l => if 0 < l.length then .error 6 else .ok m) := HXK
          have HBF : Aside0 (Below w.heap.size w wr) := ⟨below_turned HB4.out HTW.out HB4.out.size (fun k hk => by omega)⟩
          have HBRF : Aside0 (Blk wr w.heap.size #[.int .u8 0, .int .u64 0, .int .u64 0, .int .i64 0, .int .i64 0, .slice none 0 0, .int .u64 0, .int .u64 0, .slice none 0 0, .int .u64 0, .int .u8 0, .int .u32 0, .int .i64 0, .slice none 0 0] 29) := ⟨HTW.out.blk HBR4.out (by omega)⟩
          clear hlt hk HXK
          cases Z with
          | error x =>
            have HXE : Aside0 (X = .error x) := ⟨HXF.out⟩
            obtain ⟨hx, l1, hRd⟩ := HRE.out
            obtain ⟨h1, h2, h3, A0, c0, h4, h5, h6⟩ := hRd
            have h40 : World.cell? wr ⟨p, 0, none⟩ = some (.slice A0 l1.length c0) := Blk.cell h4 0
            have h41 : World.cell? wr ⟨p, 1, none⟩ = some (.int .i64 x) := Blk.cell h4 1
            have hbx : (x == 0) = false := by simpa using hx
            have hbx2 : (x != 0) = true := by simpa using hx
            clear h1 h2 h3 h4 h5 h6 hx
            have hr := HBRF.out
            have hrl := hr.lt
            have hr0 : World.cell? wr ⟨w.heap.size, 0, none⟩ = some (.int .u8 0) := Blk.cell hr 0
            have hrf0 : World.frozen? wr ⟨w.heap.size, 0, none⟩ = false := Blk.free hr 0
            have hr1 : World.cell? wr ⟨w.heap.size, 1, none⟩ = some (.int .u64 0) := Blk.cell hr 1
            have hrf1 : World.frozen? wr ⟨w.heap.size, 1, none⟩ = false := Blk.free hr 1
            have hr2 : World.cell? wr ⟨w.heap.size, 2, none⟩ = some (.int .u64 0) := Blk.cell hr 2
            have hrf2 : World.frozen? wr ⟨w.heap.size, 2, none⟩ = false := Blk.free hr 2
            have hr3 : World.cell? wr ⟨w.heap.size, 3, none⟩ = some (.int .i64 0) := Blk.cell hr 3
            have hrf3 : World.frozen? wr ⟨w.heap.size, 3, none⟩ = false := Blk.free hr 3
            have hr4 : World.cell? wr ⟨w.heap.size, 4, none⟩ = some (.int .i64 0) := Blk.cell hr 4
            have hrf4 : World.frozen? wr ⟨w.heap.size, 4, none⟩ = false := Blk.free hr 4
            have hr5 : World.cell? wr ⟨w.heap.size, 5, none⟩ = some (.slice none 0 0) := Blk.cell hr 5
            have hrf5 : World.frozen? wr ⟨w.heap.size, 5, none⟩ = false := Blk.free hr 5
            have hr6 : World.cell? wr ⟨w.heap.size, 6, none⟩ = some (.int .u64 0) := Blk.cell hr 6
            have hrf6 : World.frozen? wr ⟨w.heap.size, 6, none⟩ = false := Blk.free hr 6
            have hr7 : World.cell? wr ⟨w.heap.size, 7, none⟩ = some (.int .u64 0) := Blk.cell hr 7
            have hrf7 : World.frozen? wr ⟨w.heap.size, 7, none⟩ = false := Blk.free hr 7
            have hr8 : World.cell? wr ⟨w.heap.size, 8, none⟩ = some (.slice none 0 0) := Blk.cell hr 8
            have hrf8 : World.frozen? wr ⟨w.heap.size, 8, none⟩ = false := Blk.free hr 8
            have hr9 : World.cell? wr ⟨w.heap.size, 9, none⟩ = some (.int .u64 0) := Blk.cell hr 9
            have hrf9 : World.frozen? wr ⟨w.heap.size, 9, none⟩ = false := Blk.free hr 9
            have hr10 : World.cell? wr ⟨w.heap.size, 10, none⟩ = some (.int .u8 0) := Blk.cell hr 10
            have hrf10 : World.frozen? wr ⟨w.heap.size, 10, none⟩ = false := Blk.free hr 10
            have hr11 : World.cell? wr ⟨w.heap.size, 11, none⟩ = some (.int .u32 0) := Blk.cell hr 11
            have hrf11 : World.frozen? wr ⟨w.heap.size, 11, none⟩ = false := Blk.free hr 11
            have hr12 : World.cell? wr ⟨w.heap.size, 12, none⟩ = some (.int .i64 0) := Blk.cell hr 12
            have hrf12 : World.frozen? wr ⟨w.heap.size, 12, none⟩ = false := Blk.free hr 12
            have hr13 : World.cell? wr ⟨w.heap.size, 13, none⟩ = some (.slice none 0 0) := Blk.cell hr 13
            have hrf13 : World.frozen? wr ⟨w.heap.size, 13, none⟩ = false := Blk.free hr 13
            clear hr
            have HPUT := Aside0.mk (put14 (v0 := .int .u8 0) (v1 := .int .u64 0) (v2 := .int .u64 0) (v3 := .int .i64 0) (v4 := .int .i64 0) (v5 := .slice none 0 0) (v6 := .int .u64 0) (v7 := .int .u64 0) (v8 := .slice none 0 0) (v9 := .int .u64 0) (v10 := .int .u8 0) (v11 := .int .u32 0) (v12 := .int .i64 0) (v13 := .slice none 0 0) HBRF.out _ rfl)
            go_wp2_with fail
            go_region_with (fail)
            all_goals
              go_wp2_with fail
              refine bodyPost_ret (run_results18 _ w.heap.size x _ rfl rfl (Blk_drew HPUT.out.1)) rfl ?_
              rw [HXE.out]
              exact ⟨below_turned HBF.out HPUT.out.2.drew HBF.out.size (fun k hk => by omega), _, rfl, zM_arg _ _⟩
          | ok l1 =>
            have hRd : Rd wr w.heap.size p l1 0 := HRE.out
            obtain ⟨h1, h2, h3, A0, c0, h4, h5, h6⟩ := hRd
            have h40 : World.cell? wr ⟨p, 0, none⟩ = some (.slice A0 l1.length c0) := Blk.cell h4 0
            have h4f0 : World.frozen? wr ⟨p, 0, none⟩ = false := Blk.free h4 0
            have h41 : World.cell? wr ⟨p, 1, none⟩ = some (.int .i64 0) := Blk.cell h4 1
            have h4f1 : World.frozen? wr ⟨p, 1, none⟩ = false := Blk.free h4 1
            have hpl := h4.lt
            have hr := HBRF.out
            have hrl := hr.lt
            have hr0 : World.cell? wr ⟨w.heap.size, 0, none⟩ = some (.int .u8 0) := Blk.cell hr 0
            have hrf0 : World.frozen? wr ⟨w.heap.size, 0, none⟩ = false := Blk.free hr 0
            have hr1 : World.cell? wr ⟨w.heap.size, 1, none⟩ = some (.int .u64 0) := Blk.cell hr 1
            have hrf1 : World.frozen? wr ⟨w.heap.size, 1, none⟩ = false := Blk.free hr 1
            have hr2 : World.cell? wr ⟨w.heap.size, 2, none⟩ = some (.int .u64 0) := Blk.cell hr 2
            have hrf2 : World.frozen? wr ⟨w.heap.size, 2, none⟩ = false := Blk.free hr 2
            have hr3 : World.cell? wr ⟨w.heap.size, 3, none⟩ = some (.int .i64 0) := Blk.cell hr 3
            have hrf3 : World.frozen? wr ⟨w.heap.size, 3, none⟩ = false := Blk.free hr 3
            have hr4 : World.cell? wr ⟨w.heap.size, 4, none⟩ = some (.int .i64 0) := Blk.cell hr 4
            have hrf4 : World.frozen? wr ⟨w.heap.size, 4, none⟩ = false := Blk.free hr 4
            have hr5 : World.cell? wr ⟨w.heap.size, 5, none⟩ = some (.slice none 0 0) := Blk.cell hr 5
            have hrf5 : World.frozen? wr ⟨w.heap.size, 5, none⟩ = false := Blk.free hr 5
            have hr6 : World.cell? wr ⟨w.heap.size, 6, none⟩ = some (.int .u64 0) := Blk.cell hr 6
            have hrf6 : World.frozen? wr ⟨w.heap.size, 6, none⟩ = false := Blk.free hr 6
            have hr7 : World.cell? wr ⟨w.heap.size, 7, none⟩ = some (.int .u64 0) := Blk.cell hr 7
            have hrf7 : World.frozen? wr ⟨w.heap.size, 7, none⟩ = false := Blk.free hr 7
            have hr8 : World.cell? wr ⟨w.heap.size, 8, none⟩ = some (.slice none 0 0) := Blk.cell hr 8
            have hrf8 : World.frozen? wr ⟨w.heap.size, 8, none⟩ = false := Blk.free hr 8
            have hr9 : World.cell? wr ⟨w.heap.size, 9, none⟩ = some (.int .u64 0) := Blk.cell hr 9
            have hrf9 : World.frozen? wr ⟨w.heap.size, 9, none⟩ = false := Blk.free hr 9
            have hr10 : World.cell? wr ⟨w.heap.size, 10, none⟩ = some (.int .u8 0) := Blk.cell hr 10
            have hrf10 : World.frozen? wr ⟨w.heap.size, 10, none⟩ = false := Blk.free hr 10
            have hr11 : World.cell? wr ⟨w.heap.size, 11, none⟩ = some (.int .u32 0) := Blk.cell hr 11
            have hrf11 : World.frozen? wr ⟨w.heap.size, 11, none⟩ = false := Blk.free hr 11
            have hr12 : World.cell? wr ⟨w.heap.size, 12, none⟩ = some (.int .i64 0) := Blk.cell hr 12
            have hrf12 : World.frozen? wr ⟨w.heap.size, 12, none⟩ = false := Blk.free hr 12
            have hr13 : World.cell? wr ⟨w.heap.size, 13, none⟩ = some (.slice none 0 0) := Blk.cell hr 13
            have hrf13 : World.frozen? wr ⟨w.heap.size, 13, none⟩ = false := Blk.free hr 13
            by_cases hpos : 0 < l1.length
            · have HXE : Aside0 (X = .error 6) := ⟨HXF.out.trans (by simp [Except.bind, hpos])⟩
              have hd : decide (0 < l1.length) = true := decide_eq_true hpos
              have hr2 : Blk (wr.setCell ⟨p, 1, none⟩ (.int .i64 6)) w.heap.size #[.int .u8 0, .int .u64 0, .int .u64 0, .int .i64 0, .int .i64 0, .slice none 0 0, .int .u64 0, .int .u64 0, .slice none 0 0, .int .u64 0, .int .u8 0, .int .u32 0, .int .i64 0, .slice none 0 0] 29 := hr.far (by show w.heap.size ≠ p; omega) _
              have HPUT := Aside0.mk (put14 (v0 := .int .u8 0) (v1 := .int .u64 0) (v2 := .int .u64 0) (v3 := .int .i64 0) (v4 := .int .i64 0) (v5 := .slice none 0 0) (v6 := .int .u64 0) (v7 := .int .u64 0) (v8 := .slice none 0 0) (v9 := .int .u64 0) (v10 := .int .u8 0) (v11 := .int .u32 0) (v12 := .int .i64 0) (v13 := .slice none 0 0) hr2 _ rfl)
              have HBG := Aside0.mk (below_turned HBF.out (Turned.setCell (S := fun k => k = p) (Turned.refl _ wr) (p := ⟨p, 1, none⟩) (.inl rfl) (.int .i64 6)) HBF.out.size (fun k hk => by omega))
              have hsz6 : (wr.setCell ⟨p, 1, none⟩ (.int .i64 6)).heap.size = wr.heap.size := by simp [World.setCell]
              have HSZ6 := Aside0.mk hsz6
              clear h1 h2 h3 h4 h5 h6 hr hr2 hsz6
              go_wp2_with fail
              go_region_with (fail)
              all_goals
                go_wp2_with fail
                refine bodyPost_ret (run_results18 _ w.heap.size 6 _ rfl rfl (Blk_drew HPUT.out.1)) rfl ?_
                rw [HXE.out]
                exact ⟨below_turned HBG.out HPUT.out.2.drew HBG.out.size (fun k hk => by omega), _, rfl, zM_arg _ _⟩
            · have HXE : Aside0 (X = .ok m) := ⟨HXF.out.trans (by simp [Except.bind, hpos])⟩
              have hd : decide (0 < l1.length) = false := decide_eq_false hpos
              obtain ⟨A5, c5, A8, c8, A13, c13, hx, hl1, hl2, hl3, f5, f8, f13⟩ := HMS.out
              simp only [mcells] at hx
              have hx0 : World.cell? wr ⟨q, 0, none⟩ = some (.int .u8 m.ty) := Blk.cell hx 0
              have hx1 : World.cell? wr ⟨q, 1, none⟩ = some (.int .u64 m.view) := Blk.cell hx 1
              have hx2 : World.cell? wr ⟨q, 2, none⟩ = some (.int .u64 m.normal) := Blk.cell hx 2
              have hx3 : World.cell? wr ⟨q, 3, none⟩ = some (.int .i64 m.op) := Blk.cell hx 3
              have hx4 : World.cell? wr ⟨q, 4, none⟩ = some (.int .i64 m.commit) := Blk.cell hx 4
              have hx5 : World.cell? wr ⟨q, 5, none⟩ = some (.slice A5 m.log.length c5) := Blk.cell hx 5
              have hx6 : World.cell? wr ⟨q, 6, none⟩ = some (.int .u64 m.client) := Blk.cell hx 6
              have hx7 : World.cell? wr ⟨q, 7, none⟩ = some (.int .u64 m.seq) := Blk.cell hx 7
              have hx8 : World.cell? wr ⟨q, 8, none⟩ = some (.slice A8 m.body.length c8) := Blk.cell hx 8
              have hx9 : World.cell? wr ⟨q, 9, none⟩ = some (.int .u64 m.key) := Blk.cell hx 9
              have hx10 : World.cell? wr ⟨q, 10, none⟩ = some (.int .u8 m.shard) := Blk.cell hx 10
              have hx11 : World.cell? wr ⟨q, 11, none⟩ = some (.int .u32 m.stripe) := Blk.cell hx 11
              have hx12 : World.cell? wr ⟨q, 12, none⟩ = some (.int .i64 m.code) := Blk.cell hx 12
              have hx13 : World.cell? wr ⟨q, 13, none⟩ = some (.slice A13 m.blocks.length c13) := Blk.cell hx 13
              have hxl := hx.lt
              have HPUT := Aside0.mk (put14 (v0 := .int .u8 m.ty) (v1 := .int .u64 m.view) (v2 := .int .u64 m.normal) (v3 := .int .i64 m.op) (v4 := .int .i64 m.commit) (v5 := .slice A5 m.log.length c5) (v6 := .int .u64 m.client) (v7 := .int .u64 m.seq) (v8 := .slice A8 m.body.length c8) (v9 := .int .u64 m.key) (v10 := .int .u8 m.shard) (v11 := .int .u32 m.stripe) (v12 := .int .i64 m.code) (v13 := .slice A13 m.blocks.length c13) hr _ rfl)
              have HARG : Aside0 (∀ w', Turned (fun k => k = w.heap.size) wr w' → ArgF w' (fun k => w.heap.size ≤ k) m #[.int .u8 m.ty, .int .u64 m.view, .int .u64 m.normal, .int .i64 m.op, .int .i64 m.commit, .slice A5 m.log.length c5, .int .u64 m.client, .int .u64 m.seq, .slice A8 m.body.length c8, .int .u64 m.key, .int .u8 m.shard, .int .u32 m.stripe, .int .i64 m.code, .slice A13 m.blocks.length c13]) := ⟨fun w' hT => by
                have hst : ∀ k, (¬ k = p ∧ Off 0 q k) → k < wr.heap.size → w'.heap[k]? = wr.heap[k]? := fun k hk hlt => hT.block k hlt (by have := hk.2; omega)
                have hmo : ∀ k, (¬ k = p ∧ Off 0 q k) → w.heap.size ≤ k := fun k hk => by have := hk.2; omega
                exact ⟨A5, c5, A8, c8, A13, c13, rfl, hl1, hl2, hl3, Kd.F_mono (Kd.F_step f5 hst) hmo, Kd.F_mono (Kd.F_step f8 hst) hmo, Kd.F_mono (Kd.F_step f13 hst) hmo⟩⟩
              have HL123 := Aside0.mk (And.intro hl1 (And.intro hl2 hl3))
              clear h1 h2 h3 h4 h5 h6 hr f5 f8 f13 hl1 hl2 hl3 hx
              go_wp2_with fail
              refine bodyPost_ret (run_results18 _ w.heap.size 0 _ rfl rfl HPUT.out.1) rfl ?_
              rw [HXE.out]
              exact ⟨below_turned HBF.out HPUT.out.2 HBF.out.size (fun k hk => by omega), _, rfl, HARG.out _ HPUT.out.2⟩
end Go.Proofs.Ytmjbdeoomohanaa.Mine
