/- pax: PaxOvers. -/
import Derived.Test.YtbidbjgklonbpaaDoorPaxU
import Derived.Test.YtbidbjgklonbpaaDoorPaxV
set_option linter.unusedSimpArgs false
set_option linter.unusedVariables false
namespace Go.Proofs.YtbidbjgklonbpaaDoor.Mine
open Go.RowKit Go.Maps Go.Proofs.YtbidbjgklonbpaaDoorW.PrintWords Go.Proofs.YtbidbjgklonbpaaDoorW.PrintLast Go.Proofs.YtbidbjgklonbpaaDoorW.PrintMore Go.Proofs.YtbidbjgklonbpaaDoor.Turn Go.Proofs.YtbidbjgklonbpaaDoor.PPaxGets

theorem size_three : SizeIs (3 + (⟨#[]⟩ : ByteArray).size + (⟨#[]⟩ : ByteArray).size) 1 := by
  have h := dOf_is (n := 3) (by omega)
  rwa [dOf_one (n := 3) (by omega)] at h
theorem lent_C {w : World} {A : Option Addr} {l : List S23} (h : Kd.C k23 w A (l.length + 1) (l ++ [mark])) : Kd.C k23 w A l.length l := C_prefix (m := [mark]) (by rw [List.length_append, List.length_singleton]; exact h)

set_option maxHeartbeats 8000000 in
set_option maxRecDepth 100000 in
theorem paxOvers_any (A B : Option Addr) (c c' : Nat) (l m : List S23) (hl : l.length + 1 < 4398046511104) (hm : m.length + 1 < 4398046511104) (hsl : SmallP l) (hsm : SmallP m) (hc : l.length ≤ c) (hc' : m.length ≤ c') (w : World) (hr : Kd.C k23 w A l.length l) (hr' : Kd.C k23 w B m.length m) (ht : Tab w) :
    Calls Tryd.prog 5 #[.slice A l.length c, .slice B m.length c'] w fun e w' => e = .returned (.bool true) ∧ Below w.heap.size w w' := by
  have HR := Aside0.mk hr
  have HR' := Aside0.mk hr'
  have HT := Aside0.mk ht
  have HP1 := Aside0.mk (fun (A1 A2 : Option Addr) (c1 c2 : Nat) (h1 : l.length ≤ c1) (h2 : m.length ≤ c2) W r1 r2 t => over_any A1 A2 c1 c2 l m (by omega) (by omega) hsl hsm h1 h2 W r1 r2 t)
  have HP2 := Aside0.mk (fun W r1 r2 => overR_any A B c c' l m (by omega) (by omega) hsl hsm hc hc' W r1 r2)
  have HLEN := Aside0.mk (overF_len l m)
  unfold EndsOver at HP1
  unfold EndsOverR at HP2
  generalize overF l m = R at *
  obtain ⟨R1, R2⟩ := R
  simp only at HP1 HP2 HLEN
  clear hr hr' ht hsl hsm
  go_enter Tryd.func5, Tryd.ntmps5
  go_wp2_with fail
  refine (lent_any A c l _ hl HR.out).mono ?_
  rintro e w1 ⟨A1, c1, rfl, hc1, hC1, hb1⟩
  have HC1 := Aside0.mk hC1
  have HB1 := Aside0.mk hb1
  clear hC1 hb1
  go_wp2_with fail
  refine (lent_any B c' m _ hm (Kd.C_below HR'.out HB1.out)).mono ?_
  rintro e w2 ⟨A2, c2, rfl, hc2, hC2, hb2⟩
  have HC2 := Aside0.mk hC2
  have HC12 := Aside0.mk (Kd.C_below HC1.out hb2)
  have HB2 := Aside0.mk (below_step HB1.out hb2)
  clear hC2 hb2
  go_wp2_with fail
  refine (HP1.out A1 A2 c1 c2 (by omega) (by omega) w2 (lent_C HC12.out) (lent_C HC2.out) (HT.out.below HB2.out)).mono ?_
  rintro e w3 ⟨hb3, A3, c3, B3, rfl, -, hR3⟩
  have HB3 := Aside0.mk (below_step HB2.out hb3)
  have HC13 := Aside0.mk (Kd.C_below HC12.out hb3)
  have HC23 := Aside0.mk (Kd.C_below HC2.out hb3)
  have HR3 := Aside0.mk (Kd.R_reads' hR3).2.2
  clear hb3 hR3
  go_wp2_with fail
  refine (HP2.out w3 (Kd.C_below HR.out HB3.out) (Kd.C_below HR'.out HB3.out)).mono ?_
  rintro e w4 ⟨hb4, A4, c4, rfl, hc4, hC4⟩
  have HB4 := Aside0.mk (below_step HB3.out hb4)
  have HC14 := Aside0.mk (Kd.C_below HC13.out hb4)
  have HC24 := Aside0.mk (Kd.C_below HC23.out hb4)
  have HR4 := Aside0.mk (Kd.C_below HR3.out hb4)
  have HC4 := Aside0.mk hC4
  have e2 : (R2 == R2) = true := by simp
  clear hb4 hC4
  go_wp2_with fail
  refine (pairs_same A3 A4 R1.length c4 R1 w4 (by have := HLEN.out; omega) (Nat.le_refl _) hc4 HR4.out HC4.out).mono ?_
  rintro e w5 ⟨rfl, hb5⟩
  have HB5 := Aside0.mk (below_step HB4.out hb5)
  have HC15 := Aside0.mk (Kd.C_below HC14.out hb5)
  have HC25 := Aside0.mk (Kd.C_below HC24.out hb5)
  clear hb5
  go_wp2_with fail
  refine (kept_any A1 A c1 c l _ hl hc1 hc HC15.out (Kd.C_below HR.out HB5.out)).mono ?_
  rintro e w6 ⟨rfl, hb6⟩
  have HB6 := Aside0.mk (below_step HB5.out hb6)
  have HC26 := Aside0.mk (Kd.C_below HC25.out hb6)
  clear hb6
  go_wp2_with fail
  refine (kept_any A2 B c2 c' m _ hm hc2 hc' HC26.out (Kd.C_below HR'.out HB6.out)).mono ?_
  rintro e w7 ⟨rfl, hb7⟩
  have HB7 := Aside0.mk (below_step HB6.out hb7)
  clear hb7
  go_wp2_with fail
  refine (size_any ⟨#[]⟩ ⟨#[]⟩ (by decide) (by decide) size_three w7 (HT.out.below HB7.out)).mono ?_
  rintro e w8 ⟨rfl, hb8⟩
  have HB8 := Aside0.mk (below_step HB7.out hb8)
  clear hb8
  go_wp2_with fail
  go_ret
  exact ⟨rfl, HB8.out⟩
end Go.Proofs.YtbidbjgklonbpaaDoor.Mine
