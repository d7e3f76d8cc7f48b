/- wire: the document's reader: field (printed by wip/gen/wireSd.py). -/
import Derived.Test.YtmjbdeoomohanaaWireSc
set_option linter.unusedSimpArgs false
set_option linter.unusedVariables false
namespace Go.Proofs.Ytmjbdeoomohanaa.Mine
open Go.RowKit Go.Maps Go.Proofs.YtmjbdeoomohanaaW.PrintWords Go.Proofs.YtmjbdeoomohanaaW.PrintLast Go.Proofs.YtmjbdeoomohanaaW.PrintMore Go.Proofs.Ytmjbdeoomohanaa.PWirePacks Go.Proofs.Ytmjbdeoomohanaa.Turn

theorem numL_rg {l l' : List Int} {sz : Nat} {v : Int} (hb : Byt l) (h : numL l sz = .ok (v, l')) : 0 ≤ v ∧ v < 256 ^ sz := by
  unfold numL at h
  split at h
  · cases h
  · cases h
    have hvr := val_range (hb.take sz) (l.take sz).length (Nat.le_refl _)
    rw [List.take_length, List.length_take, Nat.min_eq_left (by omega)] at hvr
    exact hvr
theorem anyB {w : World} {h p : Nat} {X : Except Int (List Int)} (r : RdE w h p X) (sz : Nat) (hz8 : sz ≤ 8) (most : Int) (hm : (256 : Int) ^ sz = most + 1) (hm0 : 0 ≤ most) :
    Calls Try.prog 34 #[.pointer (some ⟨p, 0, none⟩), .int .i64 sz] w (EndsU w h p most (X.bind fun l => numL l sz)) := by
  refine (anyR_any r sz hz8).mono (fun e w' h => h.u hm0 (fun y hy => ?_))
  cases X with
  | error x => cases hy
  | ok l =>
    have hy2 : numL l sz = .ok y := hy
    have := numL_rg (v := y.1) (l' := y.2) r.bytes.1 hy2
    omega

/-- How field ends. -/
def EndsF (w : World) (h p q : Nat) (Y : Except Int (Msg × List Int)) (e : Ending) (w' : World) : Prop :=
  Turned (fun k => k = p ∨ k = q) w w' ∧ e = .returned (.tuple #[]) ∧ ∃ m', MsgAt 0 w' q (fun k => k = p) m' ∧ m'.log.length ≤ 4611686018427387904 ∧ (∀ y, Y = .ok y → m' = y.1) ∧ RdE w' h p (rest Y)
theorem RdE.set {w : World} {h p q : Nat} {X : Except Int (List Int)} (r : RdE w h p X) (hpq : p < q) (hhq : h ≤ q) (j : Nat) (u : Value) : RdE (w.setCell ⟨q, j, none⟩ u) h p X :=
  r.turn (Turned.setCell (S := fun k => k = q) (Turned.refl _ w) (p := ⟨q, j, none⟩) (.inl rfl) u) (fun k hk => by omega)
theorem F_fresh {α : Type} {d : Kd α} {t : Nat} {w w' : World} {p q : Nat} {A : Option Addr} {c : Nat} {l : List α} (h : Kd.R d t w' w.heap.size (fun _ => True) (.slice A l.length c) l) (hq : q < w.heap.size) (hp : p < q) : Kd.F d w' (fun k => ¬ k = p ∧ Off 0 q k) A l.length l :=
  Kd.F_mono (Kd.R_F (Kd.R_bound h)) (fun k hk => by have := hk.2.1; exact ⟨by omega, by omega, .inr (by omega)⟩)

set_option maxHeartbeats 4000000 in
theorem fieldR_0 {w : World} {h p q : Nat} {Z : Except Int (List Int)} {m : Msg} (r : RdE w h p Z) (hM : MsgAt 0 w q (fun k => k = p) m) (hpq : p < q) (hml : m.log.length ≤ 4611686018427387904) :
    Calls Try.prog 35 #[.pointer (some ⟨p, 0, none⟩), .pointer (some ⟨q, 0, none⟩), .int .i64 0] w (EndsF w h p q (Z.bind fun l => fieldL 0 l m)) := by
  have HR := Aside0.mk r
  have HM := Aside0.mk hM
  have HML := Aside0.mk hml
  have hne : q ≠ p := by omega
  have hhq : h ≤ q := by have := r.lt.2; omega
  have hqw : q < w.heap.size := by obtain ⟨A5, c5, A8, c8, A13, c13, hx, -⟩ := hM; exact hx.lt
  clear r hM hml
  go_enter Try.func35, Try.ntmps35
  go_wp2_with fail
  refine (anyB HR.out 8 (by omega) 18446744073709551615 (by decide) (by omega)).mono ?_
  rintro e w1 ⟨hT, v, rfl, hv0, hv1, hvY, hR1⟩
  have hM2 := HM.out.turn hne hT (fun k hk => .inl hk)
  obtain ⟨A5, c5, A8, c8, A13, c13, hx, hl1, hl2, hl3, h5, h8, h13⟩ := hM2
  have HXA : Aside0 (MsgAt 0 (w1.setCell ⟨q, 1, none⟩ (.int .u64 v)) q (fun k => k = p) { m with view := v }) := ⟨⟨A5, c5, A8, c8, A13, c13, hx.set 1 _, hl1, hl2, hl3, F_set h5 _, F_set h8 _, F_set h13 _⟩⟩
  have pj : w1.cell? ⟨q, 1, none⟩ = some (.int .u64 m.view) := (hx.cell 1).trans rfl
  have pf : w1.frozen? ⟨q, 1, none⟩ = false := hx.free 1
  have hxl := hx.lt
  have HT := Aside0.mk hT
  have HR1 := Aside0.mk hR1
  have HVY := Aside0.mk hvY
  clear hT hR1 hvY hx hl1 hl2 hl3 h5 h8 h13 
  go_wp2_with fail
  refine bodyPost_end (results_none rfl _ _ _) rfl ?_
  refine ⟨Turned.setCell (HT.out.mono (fun k hk => .inl hk)) (.inl (.inr rfl)) _, rfl, _, HXA.out, HML.out, up_val (fun v => { m with view := v }) (f := fun l => numL l 8) HVY.out, ?_⟩
  show RdE _ h p (rest (Z.bind fun l => upL (fun v => { m with view := v }) ((fun l => numL l 8) l)))
  rw [up_rest]
  exact HR1.out.set hpq hhq _ _

set_option maxHeartbeats 4000000 in
theorem fieldR_1 {w : World} {h p q : Nat} {Z : Except Int (List Int)} {m : Msg} (r : RdE w h p Z) (hM : MsgAt 0 w q (fun k => k = p) m) (hpq : p < q) (hml : m.log.length ≤ 4611686018427387904) :
    Calls Try.prog 35 #[.pointer (some ⟨p, 0, none⟩), .pointer (some ⟨q, 0, none⟩), .int .i64 1] w (EndsF w h p q (Z.bind fun l => fieldL 1 l m)) := by
  have HR := Aside0.mk r
  have HM := Aside0.mk hM
  have HML := Aside0.mk hml
  have hne : q ≠ p := by omega
  have hhq : h ≤ q := by have := r.lt.2; omega
  have hqw : q < w.heap.size := by obtain ⟨A5, c5, A8, c8, A13, c13, hx, -⟩ := hM; exact hx.lt
  clear r hM hml
  go_enter Try.func35, Try.ntmps35
  go_wp2_with fail
  refine (anyB HR.out 8 (by omega) 18446744073709551615 (by decide) (by omega)).mono ?_
  rintro e w1 ⟨hT, v, rfl, hv0, hv1, hvY, hR1⟩
  have hM2 := HM.out.turn hne hT (fun k hk => .inl hk)
  obtain ⟨A5, c5, A8, c8, A13, c13, hx, hl1, hl2, hl3, h5, h8, h13⟩ := hM2
  have HXA : Aside0 (MsgAt 0 (w1.setCell ⟨q, 2, none⟩ (.int .u64 v)) q (fun k => k = p) { m with normal := v }) := ⟨⟨A5, c5, A8, c8, A13, c13, hx.set 2 _, hl1, hl2, hl3, F_set h5 _, F_set h8 _, F_set h13 _⟩⟩
  have pj : w1.cell? ⟨q, 2, none⟩ = some (.int .u64 m.normal) := (hx.cell 2).trans rfl
  have pf : w1.frozen? ⟨q, 2, none⟩ = false := hx.free 2
  have hxl := hx.lt
  have HT := Aside0.mk hT
  have HR1 := Aside0.mk hR1
  have HVY := Aside0.mk hvY
  clear hT hR1 hvY hx hl1 hl2 hl3 h5 h8 h13 
  go_wp2_with fail
  refine bodyPost_end (results_none rfl _ _ _) rfl ?_
  refine ⟨Turned.setCell (HT.out.mono (fun k hk => .inl hk)) (.inl (.inr rfl)) _, rfl, _, HXA.out, HML.out, up_val (fun v => { m with normal := v }) (f := fun l => numL l 8) HVY.out, ?_⟩
  show RdE _ h p (rest (Z.bind fun l => upL (fun v => { m with normal := v }) ((fun l => numL l 8) l)))
  rw [up_rest]
  exact HR1.out.set hpq hhq _ _

set_option maxHeartbeats 4000000 in
theorem fieldR_2 {w : World} {h p q : Nat} {Z : Except Int (List Int)} {m : Msg} (r : RdE w h p Z) (hM : MsgAt 0 w q (fun k => k = p) m) (hpq : p < q) (hml : m.log.length ≤ 4611686018427387904) :
    Calls Try.prog 35 #[.pointer (some ⟨p, 0, none⟩), .pointer (some ⟨q, 0, none⟩), .int .i64 2] w (EndsF w h p q (Z.bind fun l => fieldL 2 l m)) := by
  have HR := Aside0.mk r
  have HM := Aside0.mk hM
  have HML := Aside0.mk hml
  have hne : q ≠ p := by omega
  have hhq : h ≤ q := by have := r.lt.2; omega
  have hqw : q < w.heap.size := by obtain ⟨A5, c5, A8, c8, A13, c13, hx, -⟩ := hM; exact hx.lt
  clear r hM hml
  go_enter Try.func35, Try.ntmps35
  go_wp2_with fail
  refine (numU HR.out 1 (by omega) 64 1 (by omega) (by omega)).mono ?_
  rintro e w1 ⟨hT, v, rfl, hv0, hv1, hvY, hR1⟩
  have hM2 := HM.out.turn hne hT (fun k hk => .inl hk)
  obtain ⟨A5, c5, A8, c8, A13, c13, hx, hl1, hl2, hl3, h5, h8, h13⟩ := hM2
  have HXA : Aside0 (MsgAt 0 (w1.setCell ⟨q, 3, none⟩ (.int .i64 v)) q (fun k => k = p) { m with op := v }) := ⟨⟨A5, c5, A8, c8, A13, c13, hx.set 3 _, hl1, hl2, hl3, F_set h5 _, F_set h8 _, F_set h13 _⟩⟩
  have pj : w1.cell? ⟨q, 3, none⟩ = some (.int .i64 m.op) := (hx.cell 3).trans rfl
  have hw : IntKind.i64.wrap v = v := IntWalk.i64_in _ (by omega)
  have pf : w1.frozen? ⟨q, 3, none⟩ = false := hx.free 3
  have hxl := hx.lt
  have HT := Aside0.mk hT
  have HR1 := Aside0.mk hR1
  have HVY := Aside0.mk hvY
  clear hT hR1 hvY hx hl1 hl2 hl3 h5 h8 h13 
  go_wp2_with fail
  refine bodyPost_end (results_none rfl _ _ _) rfl ?_
  refine ⟨Turned.setCell (HT.out.mono (fun k hk => .inl hk)) (.inl (.inr rfl)) _, rfl, _, HXA.out, HML.out, up_val (fun v => { m with op := v }) (f := fun l => cntL l 1 64 1) HVY.out, ?_⟩
  show RdE _ h p (rest (Z.bind fun l => upL (fun v => { m with op := v }) ((fun l => cntL l 1 64 1) l)))
  rw [up_rest]
  exact HR1.out.set hpq hhq _ _

set_option maxHeartbeats 4000000 in
theorem fieldR_3 {w : World} {h p q : Nat} {Z : Except Int (List Int)} {m : Msg} (r : RdE w h p Z) (hM : MsgAt 0 w q (fun k => k = p) m) (hpq : p < q) (hml : m.log.length ≤ 4611686018427387904) :
    Calls Try.prog 35 #[.pointer (some ⟨p, 0, none⟩), .pointer (some ⟨q, 0, none⟩), .int .i64 3] w (EndsF w h p q (Z.bind fun l => fieldL 3 l m)) := by
  have HR := Aside0.mk r
  have HM := Aside0.mk hM
  have HML := Aside0.mk hml
  have hne : q ≠ p := by omega
  have hhq : h ≤ q := by have := r.lt.2; omega
  have hqw : q < w.heap.size := by obtain ⟨A5, c5, A8, c8, A13, c13, hx, -⟩ := hM; exact hx.lt
  clear r hM hml
  go_enter Try.func35, Try.ntmps35
  go_wp2_with fail
  refine (numU HR.out 1 (by omega) 64 1 (by omega) (by omega)).mono ?_
  rintro e w1 ⟨hT, v, rfl, hv0, hv1, hvY, hR1⟩
  have hM2 := HM.out.turn hne hT (fun k hk => .inl hk)
  obtain ⟨A5, c5, A8, c8, A13, c13, hx, hl1, hl2, hl3, h5, h8, h13⟩ := hM2
  have HXA : Aside0 (MsgAt 0 (w1.setCell ⟨q, 4, none⟩ (.int .i64 v)) q (fun k => k = p) { m with commit := v }) := ⟨⟨A5, c5, A8, c8, A13, c13, hx.set 4 _, hl1, hl2, hl3, F_set h5 _, F_set h8 _, F_set h13 _⟩⟩
  have pj : w1.cell? ⟨q, 4, none⟩ = some (.int .i64 m.commit) := (hx.cell 4).trans rfl
  have hw : IntKind.i64.wrap v = v := IntWalk.i64_in _ (by omega)
  have pf : w1.frozen? ⟨q, 4, none⟩ = false := hx.free 4
  have hxl := hx.lt
  have HT := Aside0.mk hT
  have HR1 := Aside0.mk hR1
  have HVY := Aside0.mk hvY
  clear hT hR1 hvY hx hl1 hl2 hl3 h5 h8 h13 
  go_wp2_with fail
  refine bodyPost_end (results_none rfl _ _ _) rfl ?_
  refine ⟨Turned.setCell (HT.out.mono (fun k hk => .inl hk)) (.inl (.inr rfl)) _, rfl, _, HXA.out, HML.out, up_val (fun v => { m with commit := v }) (f := fun l => cntL l 1 64 1) HVY.out, ?_⟩
  show RdE _ h p (rest (Z.bind fun l => upL (fun v => { m with commit := v }) ((fun l => cntL l 1 64 1) l)))
  rw [up_rest]
  exact HR1.out.set hpq hhq _ _

set_option maxHeartbeats 4000000 in
theorem fieldR_4 {w : World} {h p q : Nat} {Z : Except Int (List Int)} {m : Msg} (r : RdE w h p Z) (hM : MsgAt 0 w q (fun k => k = p) m) (hpq : p < q) (hml : m.log.length ≤ 4611686018427387904) :
    Calls Try.prog 35 #[.pointer (some ⟨p, 0, none⟩), .pointer (some ⟨q, 0, none⟩), .int .i64 4] w (EndsF w h p q (Z.bind fun l => fieldL 4 l m)) := by
  have HR := Aside0.mk r
  have HM := Aside0.mk hM
  have HML := Aside0.mk hml
  have hne : q ≠ p := by omega
  have hhq : h ≤ q := by have := r.lt.2; omega
  have hqw : q < w.heap.size := by obtain ⟨A5, c5, A8, c8, A13, c13, hx, -⟩ := hM; exact hx.lt
  clear r hM hml
  go_enter Try.func35, Try.ntmps35
  go_wp2_with fail
  refine (listU HR.out).mono ?_
  rintro e w1 ⟨hT, v, l1, rfl, hq1, hq4, hvY, hR1⟩
  have hM2 := HM.out.turn hne hT (fun k hk => .inl hk)
  obtain ⟨A5, c5, A8, c8, A13, c13, hx, hl1, hl2, hl3, h5, h8, h13⟩ := hM2
  obtain ⟨Av, cv, rfl⟩ := Kd.R_slice hq1
  have hq5 := (Kd.R_reads' hq1).2.1
  have hq6 := F_fresh hq1 hqw hpq
  have HXA : Aside0 (MsgAt 0 (w1.setCell ⟨q, 5, none⟩ (.slice Av l1.length cv)) q (fun k => k = p) { m with log := l1 }) := ⟨⟨Av, cv, A8, c8, A13, c13, hx.set 5 _, hq5, hl2, hl3, F_set hq6 _, F_set h8 _, F_set h13 _⟩⟩
  have pj : w1.cell? ⟨q, 5, none⟩ = some (.slice A5 m.log.length c5) := (hx.cell 5).trans rfl
  have HL4 := Aside0.mk hq4
  have pf : w1.frozen? ⟨q, 5, none⟩ = false := hx.free 5
  have hxl := hx.lt
  have HT := Aside0.mk hT
  have HR1 := Aside0.mk hR1
  have HVY := Aside0.mk hvY
  clear hT hR1 hvY hx hl1 hl2 hl3 h5 h8 h13 hq1 hq4 hq5 hq6
  go_wp2_with fail
  refine bodyPost_end (results_none rfl _ _ _) rfl ?_
  refine ⟨Turned.setCell (HT.out.mono (fun k hk => .inl hk)) (.inl (.inr rfl)) _, rfl, _, HXA.out, (by have := HL4.out; show l1.length ≤ _; omega), up_val (fun v => { m with log := v }) (f := logL) HVY.out, ?_⟩
  show RdE _ h p (rest (Z.bind fun l => upL (fun v => { m with log := v }) ((logL) l)))
  rw [up_rest]
  exact HR1.out.set hpq hhq _ _

set_option maxHeartbeats 4000000 in
theorem fieldR_5 {w : World} {h p q : Nat} {Z : Except Int (List Int)} {m : Msg} (r : RdE w h p Z) (hM : MsgAt 0 w q (fun k => k = p) m) (hpq : p < q) (hml : m.log.length ≤ 4611686018427387904) :
    Calls Try.prog 35 #[.pointer (some ⟨p, 0, none⟩), .pointer (some ⟨q, 0, none⟩), .int .i64 5] w (EndsF w h p q (Z.bind fun l => fieldL 5 l m)) := by
  have HR := Aside0.mk r
  have HM := Aside0.mk hM
  have HML := Aside0.mk hml
  have hne : q ≠ p := by omega
  have hhq : h ≤ q := by have := r.lt.2; omega
  have hqw : q < w.heap.size := by obtain ⟨A5, c5, A8, c8, A13, c13, hx, -⟩ := hM; exact hx.lt
  clear r hM hml
  go_enter Try.func35, Try.ntmps35
  go_wp2_with fail
  refine (anyB HR.out 8 (by omega) 18446744073709551615 (by decide) (by omega)).mono ?_
  rintro e w1 ⟨hT, v, rfl, hv0, hv1, hvY, hR1⟩
  have hM2 := HM.out.turn hne hT (fun k hk => .inl hk)
  obtain ⟨A5, c5, A8, c8, A13, c13, hx, hl1, hl2, hl3, h5, h8, h13⟩ := hM2
  have HXA : Aside0 (MsgAt 0 (w1.setCell ⟨q, 6, none⟩ (.int .u64 v)) q (fun k => k = p) { m with client := v }) := ⟨⟨A5, c5, A8, c8, A13, c13, hx.set 6 _, hl1, hl2, hl3, F_set h5 _, F_set h8 _, F_set h13 _⟩⟩
  have pj : w1.cell? ⟨q, 6, none⟩ = some (.int .u64 m.client) := (hx.cell 6).trans rfl
  have pf : w1.frozen? ⟨q, 6, none⟩ = false := hx.free 6
  have hxl := hx.lt
  have HT := Aside0.mk hT
  have HR1 := Aside0.mk hR1
  have HVY := Aside0.mk hvY
  clear hT hR1 hvY hx hl1 hl2 hl3 h5 h8 h13 
  go_wp2_with fail
  refine bodyPost_end (results_none rfl _ _ _) rfl ?_
  refine ⟨Turned.setCell (HT.out.mono (fun k hk => .inl hk)) (.inl (.inr rfl)) _, rfl, _, HXA.out, HML.out, up_val (fun v => { m with client := v }) (f := fun l => numL l 8) HVY.out, ?_⟩
  show RdE _ h p (rest (Z.bind fun l => upL (fun v => { m with client := v }) ((fun l => numL l 8) l)))
  rw [up_rest]
  exact HR1.out.set hpq hhq _ _

set_option maxHeartbeats 4000000 in
theorem fieldR_6 {w : World} {h p q : Nat} {Z : Except Int (List Int)} {m : Msg} (r : RdE w h p Z) (hM : MsgAt 0 w q (fun k => k = p) m) (hpq : p < q) (hml : m.log.length ≤ 4611686018427387904) :
    Calls Try.prog 35 #[.pointer (some ⟨p, 0, none⟩), .pointer (some ⟨q, 0, none⟩), .int .i64 6] w (EndsF w h p q (Z.bind fun l => fieldL 6 l m)) := by
  have HR := Aside0.mk r
  have HM := Aside0.mk hM
  have HML := Aside0.mk hml
  have hne : q ≠ p := by omega
  have hhq : h ≤ q := by have := r.lt.2; omega
  have hqw : q < w.heap.size := by obtain ⟨A5, c5, A8, c8, A13, c13, hx, -⟩ := hM; exact hx.lt
  clear r hM hml
  go_enter Try.func35, Try.ntmps35
  go_wp2_with fail
  refine (anyB HR.out 8 (by omega) 18446744073709551615 (by decide) (by omega)).mono ?_
  rintro e w1 ⟨hT, v, rfl, hv0, hv1, hvY, hR1⟩
  have hM2 := HM.out.turn hne hT (fun k hk => .inl hk)
  obtain ⟨A5, c5, A8, c8, A13, c13, hx, hl1, hl2, hl3, h5, h8, h13⟩ := hM2
  have HXA : Aside0 (MsgAt 0 (w1.setCell ⟨q, 7, none⟩ (.int .u64 v)) q (fun k => k = p) { m with seq := v }) := ⟨⟨A5, c5, A8, c8, A13, c13, hx.set 7 _, hl1, hl2, hl3, F_set h5 _, F_set h8 _, F_set h13 _⟩⟩
  have pj : w1.cell? ⟨q, 7, none⟩ = some (.int .u64 m.seq) := (hx.cell 7).trans rfl
  have pf : w1.frozen? ⟨q, 7, none⟩ = false := hx.free 7
  have hxl := hx.lt
  have HT := Aside0.mk hT
  have HR1 := Aside0.mk hR1
  have HVY := Aside0.mk hvY
  clear hT hR1 hvY hx hl1 hl2 hl3 h5 h8 h13 
  go_wp2_with fail
  refine bodyPost_end (results_none rfl _ _ _) rfl ?_
  refine ⟨Turned.setCell (HT.out.mono (fun k hk => .inl hk)) (.inl (.inr rfl)) _, rfl, _, HXA.out, HML.out, up_val (fun v => { m with seq := v }) (f := fun l => numL l 8) HVY.out, ?_⟩
  show RdE _ h p (rest (Z.bind fun l => upL (fun v => { m with seq := v }) ((fun l => numL l 8) l)))
  rw [up_rest]
  exact HR1.out.set hpq hhq _ _

set_option maxHeartbeats 4000000 in
theorem fieldR_7 {w : World} {h p q : Nat} {Z : Except Int (List Int)} {m : Msg} (r : RdE w h p Z) (hM : MsgAt 0 w q (fun k => k = p) m) (hpq : p < q) (hml : m.log.length ≤ 4611686018427387904) :
    Calls Try.prog 35 #[.pointer (some ⟨p, 0, none⟩), .pointer (some ⟨q, 0, none⟩), .int .i64 7] w (EndsF w h p q (Z.bind fun l => fieldL 7 l m)) := by
  have HR := Aside0.mk r
  have HM := Aside0.mk hM
  have HML := Aside0.mk hml
  have hne : q ≠ p := by omega
  have hhq : h ≤ q := by have := r.lt.2; omega
  have hqw : q < w.heap.size := by obtain ⟨A5, c5, A8, c8, A13, c13, hx, -⟩ := hM; exact hx.lt
  clear r hM hml
  go_enter Try.func35, Try.ntmps35
  go_wp2_with fail
  refine (textU HR.out).mono ?_
  rintro e w1 ⟨hT, v, l1, rfl, hq1, hq4, hvY, hR1⟩
  have hM2 := HM.out.turn hne hT (fun k hk => .inl hk)
  obtain ⟨A5, c5, A8, c8, A13, c13, hx, hl1, hl2, hl3, h5, h8, h13⟩ := hM2
  obtain ⟨Av, cv, rfl⟩ := Kd.R_slice hq1
  have hq5 := (Kd.R_reads' hq1).2.1
  have hq6 := F_fresh hq1 hqw hpq
  have HXA : Aside0 (MsgAt 0 (w1.setCell ⟨q, 8, none⟩ (.slice Av l1.length cv)) q (fun k => k = p) { m with body := l1 }) := ⟨⟨A5, c5, Av, cv, A13, c13, hx.set 8 _, hl1, hq5, hl3, F_set h5 _, F_set hq6 _, F_set h13 _⟩⟩
  have pj : w1.cell? ⟨q, 8, none⟩ = some (.slice A8 m.body.length c8) := (hx.cell 8).trans rfl
  have pf : w1.frozen? ⟨q, 8, none⟩ = false := hx.free 8
  have hxl := hx.lt
  have HT := Aside0.mk hT
  have HR1 := Aside0.mk hR1
  have HVY := Aside0.mk hvY
  clear hT hR1 hvY hx hl1 hl2 hl3 h5 h8 h13 hq1 hq4 hq5 hq6
  go_wp2_with fail
  refine bodyPost_end (results_none rfl _ _ _) rfl ?_
  refine ⟨Turned.setCell (HT.out.mono (fun k hk => .inl hk)) (.inl (.inr rfl)) _, rfl, _, HXA.out, HML.out, up_val (fun v => { m with body := v }) (f := txtL) HVY.out, ?_⟩
  show RdE _ h p (rest (Z.bind fun l => upL (fun v => { m with body := v }) ((txtL) l)))
  rw [up_rest]
  exact HR1.out.set hpq hhq _ _

set_option maxHeartbeats 4000000 in
theorem fieldR_8 {w : World} {h p q : Nat} {Z : Except Int (List Int)} {m : Msg} (r : RdE w h p Z) (hM : MsgAt 0 w q (fun k => k = p) m) (hpq : p < q) (hml : m.log.length ≤ 4611686018427387904) :
    Calls Try.prog 35 #[.pointer (some ⟨p, 0, none⟩), .pointer (some ⟨q, 0, none⟩), .int .i64 8] w (EndsF w h p q (Z.bind fun l => fieldL 8 l m)) := by
  have HR := Aside0.mk r
  have HM := Aside0.mk hM
  have HML := Aside0.mk hml
  have hne : q ≠ p := by omega
  have hhq : h ≤ q := by have := r.lt.2; omega
  have hqw : q < w.heap.size := by obtain ⟨A5, c5, A8, c8, A13, c13, hx, -⟩ := hM; exact hx.lt
  clear r hM hml
  go_enter Try.func35, Try.ntmps35
  go_wp2_with fail
  refine (anyB HR.out 8 (by omega) 18446744073709551615 (by decide) (by omega)).mono ?_
  rintro e w1 ⟨hT, v, rfl, hv0, hv1, hvY, hR1⟩
  have hM2 := HM.out.turn hne hT (fun k hk => .inl hk)
  obtain ⟨A5, c5, A8, c8, A13, c13, hx, hl1, hl2, hl3, h5, h8, h13⟩ := hM2
  have HXA : Aside0 (MsgAt 0 (w1.setCell ⟨q, 9, none⟩ (.int .u64 v)) q (fun k => k = p) { m with key := v }) := ⟨⟨A5, c5, A8, c8, A13, c13, hx.set 9 _, hl1, hl2, hl3, F_set h5 _, F_set h8 _, F_set h13 _⟩⟩
  have pj : w1.cell? ⟨q, 9, none⟩ = some (.int .u64 m.key) := (hx.cell 9).trans rfl
  have pf : w1.frozen? ⟨q, 9, none⟩ = false := hx.free 9
  have hxl := hx.lt
  have HT := Aside0.mk hT
  have HR1 := Aside0.mk hR1
  have HVY := Aside0.mk hvY
  clear hT hR1 hvY hx hl1 hl2 hl3 h5 h8 h13 
  go_wp2_with fail
  refine bodyPost_end (results_none rfl _ _ _) rfl ?_
  refine ⟨Turned.setCell (HT.out.mono (fun k hk => .inl hk)) (.inl (.inr rfl)) _, rfl, _, HXA.out, HML.out, up_val (fun v => { m with key := v }) (f := fun l => numL l 8) HVY.out, ?_⟩
  show RdE _ h p (rest (Z.bind fun l => upL (fun v => { m with key := v }) ((fun l => numL l 8) l)))
  rw [up_rest]
  exact HR1.out.set hpq hhq _ _

set_option maxHeartbeats 4000000 in
theorem fieldR_9 {w : World} {h p q : Nat} {Z : Except Int (List Int)} {m : Msg} (r : RdE w h p Z) (hM : MsgAt 0 w q (fun k => k = p) m) (hpq : p < q) (hml : m.log.length ≤ 4611686018427387904) :
    Calls Try.prog 35 #[.pointer (some ⟨p, 0, none⟩), .pointer (some ⟨q, 0, none⟩), .int .i64 9] w (EndsF w h p q (Z.bind fun l => fieldL 9 l m)) := by
  have HR := Aside0.mk r
  have HM := Aside0.mk hM
  have HML := Aside0.mk hml
  have hne : q ≠ p := by omega
  have hhq : h ≤ q := by have := r.lt.2; omega
  have hqw : q < w.heap.size := by obtain ⟨A5, c5, A8, c8, A13, c13, hx, -⟩ := hM; exact hx.lt
  clear r hM hml
  go_enter Try.func35, Try.ntmps35
  go_wp2_with fail
  refine (anyB HR.out 1 (by omega) 255 (by decide) (by omega)).mono ?_
  rintro e w1 ⟨hT, v, rfl, hv0, hv1, hvY, hR1⟩
  have hM2 := HM.out.turn hne hT (fun k hk => .inl hk)
  obtain ⟨A5, c5, A8, c8, A13, c13, hx, hl1, hl2, hl3, h5, h8, h13⟩ := hM2
  have HXA : Aside0 (MsgAt 0 (w1.setCell ⟨q, 10, none⟩ (.int .u8 v)) q (fun k => k = p) { m with shard := v }) := ⟨⟨A5, c5, A8, c8, A13, c13, hx.set 10 _, hl1, hl2, hl3, F_set h5 _, F_set h8 _, F_set h13 _⟩⟩
  have pj : w1.cell? ⟨q, 10, none⟩ = some (.int .u8 m.shard) := (hx.cell 10).trans rfl
  have hw : IntKind.u8.wrap v = v := by rw [IntKind.wrap_u8]; omega
  have pf : w1.frozen? ⟨q, 10, none⟩ = false := hx.free 10
  have hxl := hx.lt
  have HT := Aside0.mk hT
  have HR1 := Aside0.mk hR1
  have HVY := Aside0.mk hvY
  clear hT hR1 hvY hx hl1 hl2 hl3 h5 h8 h13 
  go_wp2_with fail
  refine bodyPost_end (results_none rfl _ _ _) rfl ?_
  refine ⟨Turned.setCell (HT.out.mono (fun k hk => .inl hk)) (.inl (.inr rfl)) _, rfl, _, HXA.out, HML.out, up_val (fun v => { m with shard := v }) (f := fun l => numL l 1) HVY.out, ?_⟩
  show RdE _ h p (rest (Z.bind fun l => upL (fun v => { m with shard := v }) ((fun l => numL l 1) l)))
  rw [up_rest]
  exact HR1.out.set hpq hhq _ _

set_option maxHeartbeats 4000000 in
theorem fieldR_10 {w : World} {h p q : Nat} {Z : Except Int (List Int)} {m : Msg} (r : RdE w h p Z) (hM : MsgAt 0 w q (fun k => k = p) m) (hpq : p < q) (hml : m.log.length ≤ 4611686018427387904) :
    Calls Try.prog 35 #[.pointer (some ⟨p, 0, none⟩), .pointer (some ⟨q, 0, none⟩), .int .i64 10] w (EndsF w h p q (Z.bind fun l => fieldL 10 l m)) := by
  have HR := Aside0.mk r
  have HM := Aside0.mk hM
  have HML := Aside0.mk hml
  have hne : q ≠ p := by omega
  have hhq : h ≤ q := by have := r.lt.2; omega
  have hqw : q < w.heap.size := by obtain ⟨A5, c5, A8, c8, A13, c13, hx, -⟩ := hM; exact hx.lt
  clear r hM hml
  go_enter Try.func35, Try.ntmps35
  go_wp2_with fail
  refine (anyB HR.out 4 (by omega) 4294967295 (by decide) (by omega)).mono ?_
  rintro e w1 ⟨hT, v, rfl, hv0, hv1, hvY, hR1⟩
  have hM2 := HM.out.turn hne hT (fun k hk => .inl hk)
  obtain ⟨A5, c5, A8, c8, A13, c13, hx, hl1, hl2, hl3, h5, h8, h13⟩ := hM2
  have HXA : Aside0 (MsgAt 0 (w1.setCell ⟨q, 11, none⟩ (.int .u32 v)) q (fun k => k = p) { m with stripe := v }) := ⟨⟨A5, c5, A8, c8, A13, c13, hx.set 11 _, hl1, hl2, hl3, F_set h5 _, F_set h8 _, F_set h13 _⟩⟩
  have pj : w1.cell? ⟨q, 11, none⟩ = some (.int .u32 m.stripe) := (hx.cell 11).trans rfl
  have hw : IntKind.u32.wrap v = v := by rw [IntKind.wrap_u32]; omega
  have pf : w1.frozen? ⟨q, 11, none⟩ = false := hx.free 11
  have hxl := hx.lt
  have HT := Aside0.mk hT
  have HR1 := Aside0.mk hR1
  have HVY := Aside0.mk hvY
  clear hT hR1 hvY hx hl1 hl2 hl3 h5 h8 h13 
  go_wp2_with fail
  refine bodyPost_end (results_none rfl _ _ _) rfl ?_
  refine ⟨Turned.setCell (HT.out.mono (fun k hk => .inl hk)) (.inl (.inr rfl)) _, rfl, _, HXA.out, HML.out, up_val (fun v => { m with stripe := v }) (f := fun l => numL l 4) HVY.out, ?_⟩
  show RdE _ h p (rest (Z.bind fun l => upL (fun v => { m with stripe := v }) ((fun l => numL l 4) l)))
  rw [up_rest]
  exact HR1.out.set hpq hhq _ _

set_option maxHeartbeats 4000000 in
theorem fieldR_11 {w : World} {h p q : Nat} {Z : Except Int (List Int)} {m : Msg} (r : RdE w h p Z) (hM : MsgAt 0 w q (fun k => k = p) m) (hpq : p < q) (hml : m.log.length ≤ 4611686018427387904) :
    Calls Try.prog 35 #[.pointer (some ⟨p, 0, none⟩), .pointer (some ⟨q, 0, none⟩), .int .i64 11] w (EndsF w h p q (Z.bind fun l => fieldL 11 l m)) := by
  have HR := Aside0.mk r
  have HM := Aside0.mk hM
  have HML := Aside0.mk hml
  have hne : q ≠ p := by omega
  have hhq : h ≤ q := by have := r.lt.2; omega
  have hqw : q < w.heap.size := by obtain ⟨A5, c5, A8, c8, A13, c13, hx, -⟩ := hM; exact hx.lt
  clear r hM hml
  go_enter Try.func35, Try.ntmps35
  go_wp2_with fail
  refine (anyB HR.out 2 (by omega) 65535 (by decide) (by omega)).mono ?_
  rintro e w1 ⟨hT, v, rfl, hv0, hv1, hvY, hR1⟩
  have hM2 := HM.out.turn hne hT (fun k hk => .inl hk)
  obtain ⟨A5, c5, A8, c8, A13, c13, hx, hl1, hl2, hl3, h5, h8, h13⟩ := hM2
  have HXA : Aside0 (MsgAt 0 (w1.setCell ⟨q, 12, none⟩ (.int .i64 v)) q (fun k => k = p) { m with code := v }) := ⟨⟨A5, c5, A8, c8, A13, c13, hx.set 12 _, hl1, hl2, hl3, F_set h5 _, F_set h8 _, F_set h13 _⟩⟩
  have pj : w1.cell? ⟨q, 12, none⟩ = some (.int .i64 m.code) := (hx.cell 12).trans rfl
  have hw : IntKind.i64.wrap v = v := IntWalk.i64_in _ (by omega)
  have pf : w1.frozen? ⟨q, 12, none⟩ = false := hx.free 12
  have hxl := hx.lt
  have HT := Aside0.mk hT
  have HR1 := Aside0.mk hR1
  have HVY := Aside0.mk hvY
  clear hT hR1 hvY hx hl1 hl2 hl3 h5 h8 h13 
  go_wp2_with fail
  refine bodyPost_end (results_none rfl _ _ _) rfl ?_
  refine ⟨Turned.setCell (HT.out.mono (fun k hk => .inl hk)) (.inl (.inr rfl)) _, rfl, _, HXA.out, HML.out, up_val (fun v => { m with code := v }) (f := fun l => numL l 2) HVY.out, ?_⟩
  show RdE _ h p (rest (Z.bind fun l => upL (fun v => { m with code := v }) ((fun l => numL l 2) l)))
  rw [up_rest]
  exact HR1.out.set hpq hhq _ _

set_option maxHeartbeats 4000000 in
theorem fieldR_12 {w : World} {h p q : Nat} {Z : Except Int (List Int)} {m : Msg} (r : RdE w h p Z) (hM : MsgAt 0 w q (fun k => k = p) m) (hpq : p < q) (hml : m.log.length ≤ 4611686018427387904) :
    Calls Try.prog 35 #[.pointer (some ⟨p, 0, none⟩), .pointer (some ⟨q, 0, none⟩), .int .i64 12] w (EndsF w h p q (Z.bind fun l => fieldL 12 l m)) := by
  have HR := Aside0.mk r
  have HM := Aside0.mk hM
  have HML := Aside0.mk hml
  have hne : q ≠ p := by omega
  have hhq : h ≤ q := by have := r.lt.2; omega
  have hqw : q < w.heap.size := by obtain ⟨A5, c5, A8, c8, A13, c13, hx, -⟩ := hM; exact hx.lt
  clear r hM hml
  go_enter Try.func35, Try.ntmps35
  go_wp2_with fail
  refine (rawsU HR.out).mono ?_
  rintro e w1 ⟨hT, v, l1, rfl, hq1, hq4, hvY, hR1⟩
  have hM2 := HM.out.turn hne hT (fun k hk => .inl hk)
  obtain ⟨A5, c5, A8, c8, A13, c13, hx, hl1, hl2, hl3, h5, h8, h13⟩ := hM2
  obtain ⟨Av, cv, rfl⟩ := Kd.R_slice hq1
  have hq5 := (Kd.R_reads' hq1).2.1
  have hq6 := F_fresh hq1 hqw hpq
  have HXA : Aside0 (MsgAt 0 (w1.setCell ⟨q, 13, none⟩ (.slice Av l1.length cv)) q (fun k => k = p) { m with blocks := l1 }) := ⟨⟨A5, c5, A8, c8, Av, cv, hx.set 13 _, hl1, hl2, hq5, F_set h5 _, F_set h8 _, F_set hq6 _⟩⟩
  have pj : w1.cell? ⟨q, 13, none⟩ = some (.slice A13 m.blocks.length c13) := (hx.cell 13).trans rfl
  have pf : w1.frozen? ⟨q, 13, none⟩ = false := hx.free 13
  have hxl := hx.lt
  have HT := Aside0.mk hT
  have HR1 := Aside0.mk hR1
  have HVY := Aside0.mk hvY
  clear hT hR1 hvY hx hl1 hl2 hl3 h5 h8 h13 hq1 hq4 hq5 hq6
  go_wp2_with fail
  refine bodyPost_end (results_none rfl _ _ _) rfl ?_
  refine ⟨Turned.setCell (HT.out.mono (fun k hk => .inl hk)) (.inl (.inr rfl)) _, rfl, _, HXA.out, HML.out, up_val (fun v => { m with blocks := v }) (f := rawL) HVY.out, ?_⟩
  show RdE _ h p (rest (Z.bind fun l => upL (fun v => { m with blocks := v }) ((rawL) l)))
  rw [up_rest]
  exact HR1.out.set hpq hhq _ _

theorem fieldD_any {w : World} {h p q : Nat} {Z : Except Int (List Int)} {m : Msg} (r : RdE w h p Z) (hM : MsgAt 0 w q (fun k => k = p) m) (hpq : p < q) (hml : m.log.length ≤ 4611686018427387904) (k : Nat) (hk : k < 13) :
    Calls Try.prog 35 #[.pointer (some ⟨p, 0, none⟩), .pointer (some ⟨q, 0, none⟩), .int .i64 k] w (EndsF w h p q (Z.bind fun l => fieldL k l m)) := by
  match k, hk with
  | 0, _ => exact fieldR_0 r hM hpq hml
  | 1, _ => exact fieldR_1 r hM hpq hml
  | 2, _ => exact fieldR_2 r hM hpq hml
  | 3, _ => exact fieldR_3 r hM hpq hml
  | 4, _ => exact fieldR_4 r hM hpq hml
  | 5, _ => exact fieldR_5 r hM hpq hml
  | 6, _ => exact fieldR_6 r hM hpq hml
  | 7, _ => exact fieldR_7 r hM hpq hml
  | 8, _ => exact fieldR_8 r hM hpq hml
  | 9, _ => exact fieldR_9 r hM hpq hml
  | 10, _ => exact fieldR_10 r hM hpq hml
  | 11, _ => exact fieldR_11 r hM hpq hml
  | 12, _ => exact fieldR_12 r hM hpq hml
  | k + 13, hk => omega
end Go.Proofs.Ytmjbdeoomohanaa.Mine
