/- For every list of acts, AirOnce returns true and the list reads as before; no condition. -/
import Derived.Test.YtikfelmmelkioaaRows
import Derived.Test.YtikfelmmelkioaaOpen
import Derived.Test.YtikfelmmelkioaaAirQ
import Derived.WalkKit
import Derived.ProofKit
import Derived.OpenShut
import Derived.ShutString
import Derived.ChangeOld
import Derived.Below
import Derived.SizedLaws
namespace Go.Proofs.Ytikfelmmelkioaa.airOnceRow
open Go.ChangeShapes Go.WideShapes Go.ChangeAt Go.RowKit
open Go.ChangeMaps (open_string shut_string)
open Go.Proofs.Ytikfelmmelkioaa.Open
open Go.Proofs.YtikfelmmelkioaaW.PrintWords Go.Proofs.Ytikfelmmelkioaa.PAirOnce Go.Proofs.Ytikfelmmelkioaa.Mine
set_option linter.unusedVariables false
theorem own : ownKnob Try.prog.godebug = none := by kernel_rfl
theorem laidOut : laidOutB Try.prog = true := by kernel_rfl
theorem opn22 : Opn Try.prog 22 (Kd.slice 5 (Kd.int .u8)) (fun l => l.length * 1 ≤ 140737488351232 ∧ l.length ≤ 9223372036854775807 ∧ ∀ a, a ∈ l → (Lit.int .u8 a).wf = true) := opn_slice (b := 1) Try.underlying22 (by kernel_rfl) (by kernel_rfl) (opn_int Try.underlying5)
theorem opn24 : Opn Try.prog 24 k24 (fun x => (Lit.int .i64 x.f0).wf = true ∧ (Lit.int .i64 x.f1).wf = true ∧ (x.f2.length * 1 ≤ 140737488351232 ∧ x.f2.length ≤ 9223372036854775807 ∧ ∀ a, a ∈ x.f2 → (Lit.int .u8 a).wf = true)) :=
  opn_iso (d := Kd.pair (Kd.int .i64) (Kd.pair (Kd.int .i64) (Kd.slice 5 (Kd.int .u8)))) (B := fun p => (Lit.int .i64 p.1).wf = true ∧ (Lit.int .i64 p.2.1).wf = true ∧ (p.2.2.length * 1 ≤ 140737488351232 ∧ p.2.2.length ≤ 9223372036854775807 ∧ ∀ a, a ∈ p.2.2 → (Lit.int .u8 a).wf = true)) (fun x : S24 => (x.f0, x.f1, x.f2)) (fun p => ⟨p.1, p.2.1, p.2.2⟩) (fun _ => rfl) (opn_struct Try.underlying24 (by kernel_rfl) (opnF_cons rfl (by kernel_rfl) (opn_int Try.underlying3) (opnF_cons rfl (by kernel_rfl) (opn_int Try.underlying3) (opnF_one rfl (by kernel_rfl) opn22))))
def Bd26 (x : S26) : Prop := (Lit.int .i64 x.f0).wf = true ∧ (Lit.int .i64 x.f1).wf = true ∧ ((Lit.int .i64 x.f2.f0).wf = true ∧ (Lit.int .i64 x.f2.f1).wf = true ∧ (x.f2.f2.length * 1 ≤ 140737488351232 ∧ x.f2.f2.length ≤ 9223372036854775807 ∧ ∀ a, a ∈ x.f2.f2 → (Lit.int .u8 a).wf = true))
theorem opn26 : Opn Try.prog 26 k26 Bd26 :=
  opn_iso (d := Kd.pair (Kd.int .i64) (Kd.pair (Kd.int .i64) k24)) (B := fun p => Bd26 ⟨p.1, p.2.1, p.2.2⟩) (fun x : S26 => (x.f0, x.f1, x.f2)) (fun p => ⟨p.1, p.2.1, p.2.2⟩) (fun _ => rfl) (opn_struct Try.underlying26 (by kernel_rfl) (opnF_cons rfl (by kernel_rfl) (opn_int Try.underlying3) (opnF_cons rfl (by kernel_rfl) (opn_int Try.underlying3) (opnF_one rfl (by kernel_rfl) opn24))))
theorem opn42 : Opn Try.prog 42 (Kd.slice 26 k26) (fun l => l.length * 56 ≤ 140737488351232 ∧ l.length ≤ 9223372036854775807 ∧ ∀ a, a ∈ l → Bd26 a) := opn_slice (b := 56) Try.underlying42 (by kernel_rfl) (by kernel_rfl) opn26
set_option maxRecDepth 100000 in
theorem lifted (os : Os) (started : os.Started) (H : Type) (enc : TypeId × Value → H) :
    ReturnsInHanded {} Try.checked os 5 .any (Rows.airOnceSpec.pre6 enc Try.prog Try.f5 Rows.airOnceRow.domain false) (Rows.airOnceSpec.post enc Try.prog Try.f5 false true false false) := by
  refine returnsInHanded_of_change_sized (C := Try.checked) own started (by kernel_rfl) Try.func5
    (ChangeSpec.witness6 (enc := enc) (C := Try.checked) false ⟨#[], #[.slice none 0 0], []⟩ 8 (by kernel_rfl) (by kernel_rfl) (by kernel_rfl) (by kernel_rfl)) ?_
  intro W base args ds gs before hval0 hW hcnd hsz0 _
  have hsz : (DataW.weightsEach Try.prog (Try.f5.params.toList ++ Rows.airOnceSpec.plain.varTypes Try.prog) (ds ++ gs)).all (· ≤ reachBytes) = true := hsz0
  have hval : ∀ (j : Nat) t v, Try.f5.params[j]? = some t → args[j]? = some v → Value.okWide Try.prog W .any base t v := hval0
  have hW' := hW
  obtain ⟨p, q, hA0, hV, rfl, hfz, hnd⟩ := hW
  have hA : DataW.TrodAll enc Try.prog W 0 (fun _ => true) true Try.f5.params.toList args.toList ds p := hA0
  rw [Try.params5] at hA hval hsz
  obtain ⟨v0, vs0, d0, ds0, p0, q0, hargs, rfl, rfl, h0, r0⟩ := trodAll_cons hA
  obtain ⟨rfl, rfl, rfl⟩ := trodAll_nil r0
  obtain rfl : args = #[v0] := by cases args; simp_all
  obtain ⟨rfl, rfl⟩ := trodVars_none hV
  have hre := Reach.of_all hsz
  have k0 := h0
  have lt0 : ∀ x ∈ p0, x.block < W.heap.size := by obtain ⟨m, hm⟩ := k0; exact DataW.trod_lt m _ _ _ hm
  have re0 := reach_each (j := 0) hre rfl rfl
  obtain ⟨A0, len0, c0, rfl⟩ := okWide_slice Try.underlying42 (hval 0 42 v0 rfl rfl)
  obtain ⟨l0, hn0, hc0, hC0, hB0⟩ := Opn.arg_slice opn42 h0 re0
  subst hn0
  clear hA0 hval0 hsz0 hsz
  refine (once_any A0 c0 l0 W hc0 hC0 (fun x hx => ⟨(hB0.2.2 x hx).2.2.1, (hB0.2.2 x hx).2.2.2.1, by have := (hB0.2.2 x hx).2.2.2.2.1; omega⟩)).mono fun e W' ⟨he, bel⟩ => ?_
  subst he
  exact ⟨_, rfl, _, _, _, [], _, [], hW', trodAll_mk1 (shut_bool Try.underlying4 _), (trodAll_cons_mk (Below.trod laidOut (by kernel_rfl) (of_decide_eq_true (by kernel_rfl)) k0 bel lt0) trodAll_mk0), rfl, bel.frame _, fun h => by cases h⟩
theorem over : Rows.airOnceRow.holds Try.pinned (OpenSpec.ofChange Rows.airOnceSpec) :=
  OpenClaim.holds_of_wide 5 Try.f5 rfl rfl rfl rfl rfl rfl rfl ⟨rfl, rfl, rfl, rfl, rfl⟩ rfl rfl rfl rfl rfl (by kernel_rfl) Try.func5 (by kernel_rfl)
    (of_decide_eq_true (by kernel_rfl)) (by unfold Func.isWrapper; first | (rw [if_pos (by decide +kernel)]; kernel_rfl) | (rw [if_neg (by decide +kernel)]; exact ⟨rfl, rfl⟩))
    (fun os started H enc _ => lifted os started H enc)
theorem proved : Rows.AirOnceSaid := over
end Go.Proofs.Ytikfelmmelkioaa.airOnceRow
namespace Go.Proofs.Ytikfelmmelkioaa
theorem airOnce_holds : Rows.AirOnceSaid := airOnceRow.proved
end Go.Proofs.Ytikfelmmelkioaa
#print axioms Go.Proofs.Ytikfelmmelkioaa.airOnce_holds
