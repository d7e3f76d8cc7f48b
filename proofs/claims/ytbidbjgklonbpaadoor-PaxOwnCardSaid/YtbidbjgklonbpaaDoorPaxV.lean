/- pax: the document's Over. -/
import Derived.Test.YtbidbjgklonbpaaDoorPaxR
import Derived.Test.YtbidbjgklonbpaaDoorPaxH
import Derived.Test.YtbidbjgklonbpaaDoorPaxL
set_option linter.unusedSimpArgs false
set_option linter.unusedVariables false
namespace Go.Proofs.YtbidbjgklonbpaaDoor.Mine
open Go.RowKit Go.Maps Go.Proofs.YtbidbjgklonbpaaDoorW.PrintWords Go.Proofs.YtbidbjgklonbpaaDoorW.PrintLast Go.Proofs.YtbidbjgklonbpaaDoorW.PrintMore Go.Proofs.YtbidbjgklonbpaaDoor.Turn Go.Proofs.YtbidbjgklonbpaaDoor.PPaxGets

theorem rdP_get {l : List S23} {i : Nat} (h : i < l.length) : rdP l i = l[i] := by
  unfold rdP
  rw [List.getD_eq_getElem?_getD, List.getElem?_eq_getElem h]
  rfl
theorem drop_rdP {l : List S23} {i : Nat} (h : i < l.length) : l.drop i = rdP l i :: l.drop (i + 1) := by
  rw [List.drop_eq_getElem_cons h, rdP_get h]
/-- Is the next pair taken of l? -/
def takesL (l m : List S23) (i k : Nat) : Bool := decide (k = m.length) || (decide (i < l.length) && Op.bytesLess (rdP l i).f0.toList (rdP m k).f0.toList)
theorem mg_left {l m : List S23} {i k : Nat} (hk : k ≤ m.length) (hr : i < l.length ∨ k < m.length) (h : takesL l m i k = true) : i < l.length ∧ mg (l.drop i) (m.drop k) = rdP l i :: mg (l.drop (i + 1)) (m.drop k) := by
  unfold takesL at h
  by_cases hk2 : k = m.length
  · have hi : i < l.length := by omega
    refine ⟨hi, ?_⟩
    have e : m.drop k = [] := List.drop_eq_nil_of_le (by omega)
    rw [drop_rdP hi, e, mg_nil, mg_nil]
  · rw [decide_eq_false hk2, Bool.false_or, Bool.and_eq_true, decide_eq_true_eq] at h
    refine ⟨h.1, ?_⟩
    have hx := h.2
    rw [kB_toList, kB_toList] at hx
    rw [drop_rdP h.1, drop_rdP (l := m) (by omega), mg, if_pos hx]
theorem mg_right {l m : List S23} {i k : Nat} (hi : i ≤ l.length) (hk : k ≤ m.length) (hr : i < l.length ∨ k < m.length) (h : takesL l m i k = false) : k < m.length ∧ mg (l.drop i) (m.drop k) = rdP m k :: mg (l.drop (if i < l.length ∧ (rdP l i).f0 = (rdP m k).f0 then i + 1 else i)) (m.drop (k + 1)) := by
  unfold takesL at h
  rw [Bool.or_eq_false_iff, decide_eq_false_iff_not] at h
  have hk2 : k < m.length := by omega
  refine ⟨hk2, ?_⟩
  by_cases hi2 : i < l.length
  · have hx := h.2
    rw [decide_eq_true hi2, Bool.true_and, kB_toList, kB_toList] at hx
    rw [drop_rdP hi2, drop_rdP hk2, mg, if_neg (by rw [hx]; simp)]
    by_cases he : (rdP l i).f0 = (rdP m k).f0
    · rw [if_pos (show kB (rdP l i) = kB (rdP m k) by unfold kB; rw [he]), if_pos (And.intro hi2 he)]
    · rw [if_neg (fun h => he (kB_inj h)), if_neg (fun h => he h.2), ← drop_rdP hi2]
  · have e : l.drop i = [] := List.drop_eq_nil_of_le (by omega)
    rw [if_neg (fun h => hi2 h.1), e, drop_rdP hk2, nil_mg, nil_mg]
def EndsOverR (w : World) (r : List S23 × Int) (e : Ending) (w' : World) : Prop :=
  Below w.heap.size w w' ∧ ∃ A c, e = .returned (.tuple #[.slice A r.1.length c, .int .i64 r.2]) ∧ r.1.length ≤ c ∧ Kd.C k23 w' A r.1.length r.1
theorem cell_pair {w W : World} {A : Option Addr} {l : List S23} (hr : Kd.C k23 w A l.length l) (hb : Below w.heap.size w W) {i : Nat} (hi : i < l.length) (hl : l.length ≤ 4398046511104) : ∃ ad : Addr, A = some ad ∧ W.cell? (ad.add (i * 2)) = some (.string (rdP l i).f0) ∧ W.cell? ⟨(ad.add (i * 2)).block, (ad.add (i * 2)).off + 1, none⟩ = some (.string (rdP l i).f1) := by
  obtain ⟨ad, e, hx0, hx1⟩ := at_T23 (Kd.C_below hr hb) (i : Int) (by omega) (by omega)
  rw [Int.toNat_natCast, show rd_T23 l (i : Int) = rdP l i by unfold rd_T23 rdP; rw [Int.toNat_natCast]] at hx0 hx1
  exact ⟨ad, e, hx0, hx1⟩

set_option maxHeartbeats 8000000 in
set_option maxRecDepth 100000 in
theorem overR_any (A B : Option Addr) (c c' : Nat) (l m : List S23) (hl : l.length ≤ 4398046511104) (hm : m.length ≤ 4398046511104) (hsl : SmallP l) (hsm : SmallP m) (hc : l.length ≤ c) (hc' : m.length ≤ c') (w : World) (hr : Kd.C k23 w A l.length l) (hr' : Kd.C k23 w B m.length m) :
    Calls Tryd.prog 22 #[.slice A l.length c, .slice B m.length c'] w (EndsOverR w (overF l m)) := by
  have HR := Aside0.mk hr
  have HR' := Aside0.mk hr'
  have HP1 := Aside0.mk (putR_any A c l hsl hl w hr)
  have HP2 : Aside0 (∀ W, Below w.heap.size w W → Calls Tryd.prog 19 #[.slice B m.length c'] W (EndsPut W (putF m))) := ⟨fun W hb => putR_any B c' m hsm hm W (Kd.C_below hr' hb)⟩
  have HX : Aside0 (overF l m = if (putF l).2.2 ≠ 0 then ([], (putF l).2.2) else if (putF m).2.2 ≠ 0 then ([], (putF m).2.2) else if 64 < (mg l m).length then ([], 3) else (mg l m, 0)) := ⟨rfl⟩
  have HO1 : Aside0 ((putF l).2.2 = 0 → l.length ≤ 64) := ⟨fun h => (putF_ok h).1⟩
  have HO2 : Aside0 ((putF m).2.2 = 0 → m.length ≤ 64) := ⟨fun h => (putF_ok h).1⟩
  obtain ⟨X, hX⟩ : ∃ X, overF l m = X := ⟨_, rfl⟩
  rw [hX] at HX ⊢
  unfold EndsPut at HP1 HP2
  generalize putF l = R1 at *
  generalize putF m = R2 at *
  obtain ⟨p1, p2, p3⟩ := R1
  obtain ⟨q1, q2, q3⟩ := R2
  simp only at HP1 HP2 HX HO1 HO2
  clear hr hr' hsl hsm hX
  go_enter Tryd.func22, Tryd.ntmps22
  go_wp2_with fail
  refine HP1.out.mono ?_
  rintro e w1 ⟨A1, c1, rfl, -, hb1⟩
  have HB1 := Aside0.mk hb1
  clear hb1 HP1
  by_cases h1 : p3 = 0
  case neg =>
    have hne : (p3 != 0) = true := bne_iff_ne.2 h1
    have HY : Aside0 (X = ([], p3)) := ⟨by rw [HX.out, if_pos h1]⟩
    go_wp2_with fail
    go_ret2
    rw [HY.out]
    exact ⟨HB1.out, none, 0, rfl, Nat.le_refl _, Kd.C_nil _ _⟩
  case pos =>
    subst h1
    have hl64 := HO1.out rfl
    go_wp2_with fail
    refine (HP2.out w1 HB1.out).mono ?_
    rintro e w2 ⟨A2, c2, rfl, -, hb2⟩
    have HB2 := Aside0.mk (below_step HB1.out hb2)
    clear hb2 HP2
    by_cases h2 : q3 = 0
    case neg =>
      have hne : (q3 != 0) = true := bne_iff_ne.2 h2
      have HY : Aside0 (X = ([], q3)) := ⟨by rw [HX.out, if_neg (by simp), if_pos h2]⟩
      go_wp2_with fail
      go_ret2
      rw [HY.out]
      exact ⟨HB2.out, none, 0, rfl, Nat.le_refl _, Kd.C_nil _ _⟩
    case pos =>
      subst h2
      have hm64 := HO2.out rfl
      have HX2 : Aside0 (X = if 64 < (mg l m).length then ([], 3) else (mg l m, 0)) := ⟨by rw [HX.out, if_neg (by simp), if_neg (by simp)]⟩
      clear HX HO1 HO2
      go_wp2_with fail
      go_loopw [9, 10, 11] (fun v vi vk wr => ∃ (i k : Nat) (acc : List S23) (Av : Option Addr) (cv : Nat), i ≤ l.length ∧ k ≤ m.length ∧ acc.length ≤ i + k ∧ vi = .int .i64 i ∧ vk = .int .i64 k ∧ v = .slice Av acc.length cv ∧ Aside0 (Kd.R k23 23 wr w.heap.size (fun _ => True) (.slice Av acc.length cv) acc) ∧ Aside0 (mg l m = acc ++ mg (l.drop i) (m.drop k)) ∧ Aside0 (Below w.heap.size w wr)) (fun _ vi vk _ => (l.length - (intOf vi).toNat) + (m.length - (intOf vk).toNat))
      case atStart => exact ⟨0, 0, [], none, 0, Nat.zero_le _, Nat.zero_le _, Nat.le_refl _, rfl, rfl, rfl, ⟨Kd.R_nil _ _ _ _ _⟩, ⟨by simp⟩, HB2⟩
      case round =>
        obtain ⟨i, k, acc, Av, cv, hi, hk, hal, rfl, rfl, rfl, HA, HM, HB⟩ := hrel
        by_cases hend : i < l.length ∨ k < m.length
        case neg =>
          obtain rfl : i = l.length := by omega
          obtain rfl : k = m.length := by omega
          have HE : Aside0 (mg l m = acc) := ⟨by rw [HM.out, List.drop_eq_nil_of_le (Nat.le_refl _), List.drop_eq_nil_of_le (Nat.le_refl _), nil_mg, List.append_nil]⟩
          by_cases h64 : 64 < acc.length
          · have HY : Aside0 (X = ([], 3)) := ⟨by rw [HX2.out, HE.out, if_pos h64]⟩
            go_wp2_with fail
            go_ret2
            rw [HY.out]
            exact ⟨HB.out, none, 0, rfl, Nat.le_refl _, Kd.C_nil _ _⟩
          · have HY : Aside0 (X = (acc, 0)) := ⟨by rw [HX2.out, HE.out, if_neg h64]⟩
            obtain ⟨A', c'', he, hcc, hC⟩ := Kd.R_reads HA.out
            have HC := Aside0.mk hC
            have HCC := Aside0.mk hcc
            have HHE := Aside0.mk he
            clear hC hcc he
            go_wp2_with fail
            go_ret2
            rw [HY.out]
            have he := HHE.out
            cases he
            exact ⟨HB.out, Av, cv, rfl, HCC.out, HC.out⟩
        case pos =>
          obtain ⟨q, hq⟩ : ∃ q, takesL l m i k = q := ⟨_, rfl⟩
          have HQ := Aside0.mk hq
          have HCL : Aside0 (∀ W, Below w.heap.size w W → i < l.length → ∃ ad : Addr, A = some ad ∧ W.cell? (ad.add (i * 2)) = some (.string (rdP l i).f0) ∧ W.cell? ⟨(ad.add (i * 2)).block, (ad.add (i * 2)).off + 1, none⟩ = some (.string (rdP l i).f1)) := ⟨fun W hb h => cell_pair HR.out hb h hl⟩
          have HCM : Aside0 (∀ W, Below w.heap.size w W → k < m.length → ∃ ad : Addr, B = some ad ∧ W.cell? (ad.add (k * 2)) = some (.string (rdP m k).f0) ∧ W.cell? ⟨(ad.add (k * 2)).block, (ad.add (k * 2)).off + 1, none⟩ = some (.string (rdP m k).f1)) := ⟨fun W hb h => cell_pair HR'.out hb h hm⟩
          clear hq
          have hcases : (i < l.length ∧ k < m.length) ∨ (i < l.length ∧ m.length ≤ k) ∨ (l.length ≤ i ∧ k < m.length) := by omega
          rcases hcases with ⟨hil, hkm⟩ | ⟨hil, hkm⟩ | ⟨hil, hkm⟩
          all_goals
            go_upto_region 11 with (fail)
            go_cut [62] from 30 to 99 (fun b wx => b = .bool q ∧ ∃ n, Aside0 (wx = wr.drewN n))
          case first =>
            obtain ⟨ad, e, hx0, -⟩ := HCL.out wr HB.out hil
            subst e
            obtain ⟨ad2, e, hy0, -⟩ := HCM.out wr HB.out hkm
            subst e
            have e3 : ((k : Int) == (m.length : Int)) = false := by rw [beq_eq_false_iff_ne]; omega
            have HQQ : Aside0 (Op.bytesLess (rdP l i).f0.toList (rdP m k).f0.toList = q) := ⟨by rw [← HQ.out, takesL, decide_eq_false (by omega), decide_eq_true hil, Bool.false_or, Bool.true_and]⟩
            clear HQ HM HA HCL HCM
            go_quiet (fail)
            all_goals
              go_wp2_with fail
              go_meet
              exact ⟨by rw [← HQQ.out], _, ⟨rfl⟩⟩
          case first =>
            have hke : ((k : Int) == (m.length : Int)) = true := by rw [beq_iff_eq]; omega
            have HQQ : Aside0 (q = true) := ⟨by rw [← HQ.out, takesL, decide_eq_true (by omega), Bool.true_or]⟩
            clear HQ HM HA HCL HCM
            go_quiet (fail)
            all_goals
              go_wp2_with fail
              go_meet
              exact ⟨by rw [HQQ.out], _, ⟨rfl⟩⟩
          case first =>
            have e3 : ((k : Int) == (m.length : Int)) = false := by rw [beq_eq_false_iff_ne]; omega
            have e4 : decide (i < l.length) = false := decide_eq_false (by omega)
            have HQQ : Aside0 (q = false) := ⟨by rw [← HQ.out, takesL, decide_eq_false (by omega), decide_eq_false (by omega)]; rfl⟩
            clear HQ HM HA HCL HCM
            go_quiet (fail)
            all_goals
              go_wp2_with fail
              go_meet
              exact ⟨by rw [HQQ.out], _, ⟨rfl⟩⟩
          all_goals
            obtain ⟨rfl, n, HWC⟩ := hcut
            have hwc := HWC.out
            subst hwc
            have HB3 := Aside0.mk (below_step HB.out (pw_below_drewN (Below.refl _ wr) n))
            have HA3 : Aside0 (Kd.R k23 23 (wr.drewN n) w.heap.size (fun _ => True) (.slice Av acc.length cv) acc) := ⟨Kd.R_step HA.out (fun k _ hlt => (pw_below_drewN (Below.refl _ wr) n).block k hlt)⟩
            clear HA HWC
            generalize wr.drewN n = W3 at *
          case rest =>
            cases q with
            | true =>
              obtain ⟨hil2, hmg⟩ := mg_left hk hend HQ.out
              have HM2 : Aside0 (mg l m = acc ++ [rdP l i] ++ mg (l.drop (i + 1)) (m.drop k)) := ⟨by rw [HM.out, hmg]; simp⟩
              obtain ⟨ad, e, hx0, hx1⟩ := HCL.out _ HB3.out hil2
              subst e
              obtain ⟨pk, hpk⟩ : ∃ x, (rdP l i).f0 = x := ⟨_, rfl⟩
              obtain ⟨pv, hpv⟩ : ∃ x, (rdP l i).f1 = x := ⟨_, rfl⟩
              rw [show rdP l i = ⟨pk, pv⟩ by rw [← hpk, ← hpv]] at HM2
              rw [hpk] at hx0
              rw [hpv] at hx1
              clear hpk hpv
              clear hmg HM HCL HCM HQ
              have HROW := Aside0.mk (row1 (Blk.new W3 #[.string pk, .string pv] 23))
              have HR5 : Aside0 (Kd.R k23 23 (W3.alloc (.cells #[.string pk, .string pv] 23)) w.heap.size (fun _ => True) (.slice Av acc.length cv) acc) := ⟨Kd.R_step HA3.out (fun k _ hlt => (below_alloc (Below.refl _ W3) _).block k hlt)⟩
              have HB5 : Aside0 (Below w.heap.size w (W3.alloc (.cells #[.string pk, .string pv] 23))) := ⟨below_alloc HB3.out _⟩
              go_wp2_with (at_builtin; refine Kd.R_append_rows k23 (w0 := w) w.heap.size rfl (.tmp 63) (.tmp 68) 33 23 (.agg #[(.string ⟨#[]⟩), (.string ⟨#[]⟩)]) 32 rfl Tryd.underlying33 info23 rfl (by decide) (by omega) (.slice Av acc.length cv) acc [⟨pk, pv⟩] _ _ _ (fun _ => True) (fun _ => False) rfl rfl HR5.out HROW.out (fun _ _ h => h) (fun _ h => h.elim) (fun _ _ => trivial) HB5.out HB5.out.size (by omega) ?_; intro v1 w1 ho hb hg hat; obtain ⟨A4, c4, rfl, hc4, -⟩ := Kd.R_reads ho; have HO := Aside0.mk ho; have HBB := Aside0.mk hb; clear ho hb hg hat hc4)
              go_roundw
              case rel => exact ⟨i + 1, k, acc ++ [⟨pk, pv⟩], A4, c4, by omega, by omega, by rw [List.length_append]; simp; omega, by go_num, by go_num, by simp, HO, HM2, HBB⟩
              case measure => simp [intOf]; omega
            | false =>
              obtain ⟨hkm2, hmg⟩ := mg_right hi hk hend HQ.out
              obtain ⟨g, hg⟩ : ∃ g, ((rdP l i).f0.toList == (rdP m k).f0.toList) = g := ⟨_, rfl⟩
              have HG := Aside0.mk hg
              have HGE : Aside0 (g = true ↔ (rdP l i).f0 = (rdP m k).f0) := ⟨by rw [← hg, beq_iff_eq, kB_toList, kB_toList]; exact ⟨fun h => kB_inj h, fun h => by unfold kB; rw [h]⟩⟩
              clear hg
              go_upto_region 14 with (fail)
              go_cut [88] from 30 to 99 (fun b wx => b = .bool g ∧ ∃ n, Aside0 (wx = W3.drewN n))
              case first =>
                obtain ⟨ad, e, hx0, -⟩ := HCL.out W3 HB3.out hil
                subst e
                obtain ⟨ad2, e, hy0, -⟩ := HCM.out W3 HB3.out hkm
                subst e
                clear HQ HM HA3 HCL HCM hmg HGE
                go_quiet (fail)
                all_goals
                  go_wp2_with fail
                  go_meet
                  exact ⟨by rw [← HG.out], _, ⟨rfl⟩⟩
              case rest =>
                obtain ⟨rfl, n2, HWC⟩ := hcut
                have hwc := HWC.out
                subst hwc
                have HB3' := Aside0.mk (below_step HB3.out (pw_below_drewN (Below.refl _ W3) n2))
                have HA3' : Aside0 (Kd.R k23 23 (W3.drewN n2) w.heap.size (fun _ => True) (.slice Av acc.length cv) acc) := ⟨Kd.R_step HA3.out (fun k _ hlt => (pw_below_drewN (Below.refl _ W3) n2).block k hlt)⟩
                clear HA3 HB3 HWC
                have HB3 := HB3'
                have HA3 := HA3'
                clear HB3' HA3'
                generalize W3.drewN n2 = W4 at *
                cases g with
                | true =>
                  rw [if_pos (And.intro hil (HGE.out.1 rfl))] at hmg
                  clear HGE HG
                  have HM2 : Aside0 (mg l m = acc ++ [rdP m k] ++ mg (l.drop (i + 1)) (m.drop (k + 1))) := ⟨by rw [HM.out, hmg]; simp⟩
                  obtain ⟨ad, e, hx0, hx1⟩ := HCM.out _ HB3.out hkm2
                  subst e
                  obtain ⟨pk, hpk⟩ : ∃ x, (rdP m k).f0 = x := ⟨_, rfl⟩
                  obtain ⟨pv, hpv⟩ : ∃ x, (rdP m k).f1 = x := ⟨_, rfl⟩
                  rw [show rdP m k = ⟨pk, pv⟩ by rw [← hpk, ← hpv]] at HM2
                  rw [hpk] at hx0
                  rw [hpv] at hx1
                  clear hpk hpv
                  clear hmg HM HCL HCM HQ
                  have HROW := Aside0.mk (row1 (Blk.new W4 #[.string pk, .string pv] 23))
                  have HR5 : Aside0 (Kd.R k23 23 (W4.alloc (.cells #[.string pk, .string pv] 23)) w.heap.size (fun _ => True) (.slice Av acc.length cv) acc) := ⟨Kd.R_step HA3.out (fun k _ hlt => (below_alloc (Below.refl _ W4) _).block k hlt)⟩
                  have HB5 : Aside0 (Below w.heap.size w (W4.alloc (.cells #[.string pk, .string pv] 23))) := ⟨below_alloc HB3.out _⟩
                  go_wp2_with (at_builtin; refine Kd.R_append_rows k23 (w0 := w) w.heap.size rfl (.tmp 91) (.tmp 96) 33 23 (.agg #[(.string ⟨#[]⟩), (.string ⟨#[]⟩)]) 32 rfl Tryd.underlying33 info23 rfl (by decide) (by omega) (.slice Av acc.length cv) acc [⟨pk, pv⟩] _ _ _ (fun _ => True) (fun _ => False) rfl rfl HR5.out HROW.out (fun _ _ h => h) (fun _ h => h.elim) (fun _ _ => trivial) HB5.out HB5.out.size (by omega) ?_; intro v1 w1 ho hb hg hat; obtain ⟨A4, c4, rfl, hc4, -⟩ := Kd.R_reads ho; have HO := Aside0.mk ho; have HBB := Aside0.mk hb; clear ho hb hg hat hc4)
                  go_roundw
                  case rel => exact ⟨i + 1, k + 1, acc ++ [⟨pk, pv⟩], A4, c4, by omega, by omega, by rw [List.length_append]; simp; omega, by go_num, by go_num, by simp, HO, HM2, HBB⟩
                  case measure => simp [intOf]; omega
                | false =>
                  rw [if_neg (fun h => by have := HGE.out.2 h.2; cases this)] at hmg
                  clear HGE HG
                  have HM2 : Aside0 (mg l m = acc ++ [rdP m k] ++ mg (l.drop (i)) (m.drop (k + 1))) := ⟨by rw [HM.out, hmg]; simp⟩
                  obtain ⟨ad, e, hx0, hx1⟩ := HCM.out _ HB3.out hkm2
                  subst e
                  obtain ⟨pk, hpk⟩ : ∃ x, (rdP m k).f0 = x := ⟨_, rfl⟩
                  obtain ⟨pv, hpv⟩ : ∃ x, (rdP m k).f1 = x := ⟨_, rfl⟩
                  rw [show rdP m k = ⟨pk, pv⟩ by rw [← hpk, ← hpv]] at HM2
                  rw [hpk] at hx0
                  rw [hpv] at hx1
                  clear hpk hpv
                  clear hmg HM HCL HCM HQ
                  have HROW := Aside0.mk (row1 (Blk.new W4 #[.string pk, .string pv] 23))
                  have HR5 : Aside0 (Kd.R k23 23 (W4.alloc (.cells #[.string pk, .string pv] 23)) w.heap.size (fun _ => True) (.slice Av acc.length cv) acc) := ⟨Kd.R_step HA3.out (fun k _ hlt => (below_alloc (Below.refl _ W4) _).block k hlt)⟩
                  have HB5 : Aside0 (Below w.heap.size w (W4.alloc (.cells #[.string pk, .string pv] 23))) := ⟨below_alloc HB3.out _⟩
                  go_wp2_with (at_builtin; refine Kd.R_append_rows k23 (w0 := w) w.heap.size rfl (.tmp 91) (.tmp 96) 33 23 (.agg #[(.string ⟨#[]⟩), (.string ⟨#[]⟩)]) 32 rfl Tryd.underlying33 info23 rfl (by decide) (by omega) (.slice Av acc.length cv) acc [⟨pk, pv⟩] _ _ _ (fun _ => True) (fun _ => False) rfl rfl HR5.out HROW.out (fun _ _ h => h) (fun _ h => h.elim) (fun _ _ => trivial) HB5.out HB5.out.size (by omega) ?_; intro v1 w1 ho hb hg hat; obtain ⟨A4, c4, rfl, hc4, -⟩ := Kd.R_reads ho; have HO := Aside0.mk ho; have HBB := Aside0.mk hb; clear ho hb hg hat hc4)
                  go_roundw
                  case rel => exact ⟨i, k + 1, acc ++ [⟨pk, pv⟩], A4, c4, by omega, by omega, by rw [List.length_append]; simp; omega, by go_num, by go_num, by simp, HO, HM2, HBB⟩
                  case measure => simp [intOf]; omega
          case rest =>
            have hqt : q = true := by rw [← HQ.out, takesL, decide_eq_true (by omega), Bool.true_or]
            subst hqt
            obtain ⟨hil2, hmg⟩ := mg_left hk hend HQ.out
            have HM2 : Aside0 (mg l m = acc ++ [rdP l i] ++ mg (l.drop (i + 1)) (m.drop k)) := ⟨by rw [HM.out, hmg]; simp⟩
            obtain ⟨ad, e, hx0, hx1⟩ := HCL.out _ HB3.out hil2
            subst e
            obtain ⟨pk, hpk⟩ : ∃ x, (rdP l i).f0 = x := ⟨_, rfl⟩
            obtain ⟨pv, hpv⟩ : ∃ x, (rdP l i).f1 = x := ⟨_, rfl⟩
            rw [show rdP l i = ⟨pk, pv⟩ by rw [← hpk, ← hpv]] at HM2
            rw [hpk] at hx0
            rw [hpv] at hx1
            clear hpk hpv
            clear hmg HM HCL HCM HQ
            have HROW := Aside0.mk (row1 (Blk.new W3 #[.string pk, .string pv] 23))
            have HR5 : Aside0 (Kd.R k23 23 (W3.alloc (.cells #[.string pk, .string pv] 23)) w.heap.size (fun _ => True) (.slice Av acc.length cv) acc) := ⟨Kd.R_step HA3.out (fun k _ hlt => (below_alloc (Below.refl _ W3) _).block k hlt)⟩
            have HB5 : Aside0 (Below w.heap.size w (W3.alloc (.cells #[.string pk, .string pv] 23))) := ⟨below_alloc HB3.out _⟩
            go_wp2_with (at_builtin; refine Kd.R_append_rows k23 (w0 := w) w.heap.size rfl (.tmp 63) (.tmp 68) 33 23 (.agg #[(.string ⟨#[]⟩), (.string ⟨#[]⟩)]) 32 rfl Tryd.underlying33 info23 rfl (by decide) (by omega) (.slice Av acc.length cv) acc [⟨pk, pv⟩] _ _ _ (fun _ => True) (fun _ => False) rfl rfl HR5.out HROW.out (fun _ _ h => h) (fun _ h => h.elim) (fun _ _ => trivial) HB5.out HB5.out.size (by omega) ?_; intro v1 w1 ho hb hg hat; obtain ⟨A4, c4, rfl, hc4, -⟩ := Kd.R_reads ho; have HO := Aside0.mk ho; have HBB := Aside0.mk hb; clear ho hb hg hat hc4)
            go_roundw
            case rel => exact ⟨i + 1, k, acc ++ [⟨pk, pv⟩], A4, c4, by omega, by omega, by rw [List.length_append]; simp; omega, by go_num, by go_num, by simp, HO, HM2, HBB⟩
            case measure => simp [intOf]; omega
          case rest =>
            have hqf : q = false := by rw [← HQ.out, takesL, decide_eq_false (by omega), decide_eq_false (by omega)]; rfl
            subst hqf
            obtain ⟨hkm2, hmg⟩ := mg_right hi hk hend HQ.out
            rw [if_neg (fun h => by have := h.1; omega)] at hmg
            go_upto_region 14 with (fail)
            go_cut [88] from 30 to 99 (fun b wx => b = .bool false ∧ ∃ n, Aside0 (wx = W3.drewN n))
            case first =>
              have e4 : decide (i < l.length) = false := decide_eq_false (by omega)
              clear HQ HM HA3 HCL HCM hmg
              go_quiet (fail)
              all_goals
                go_wp2_with fail
                go_meet
                exact ⟨rfl, _, ⟨rfl⟩⟩
            case rest =>
              obtain ⟨rfl, n2, HWC⟩ := hcut
              have hwc := HWC.out
              subst hwc
              have HB3' := Aside0.mk (below_step HB3.out (pw_below_drewN (Below.refl _ W3) n2))
              have HA3' : Aside0 (Kd.R k23 23 (W3.drewN n2) w.heap.size (fun _ => True) (.slice Av acc.length cv) acc) := ⟨Kd.R_step HA3.out (fun k _ hlt => (pw_below_drewN (Below.refl _ W3) n2).block k hlt)⟩
              clear HA3 HB3 HWC
              have HB3 := HB3'
              have HA3 := HA3'
              clear HB3' HA3'
              generalize W3.drewN n2 = W4 at *
              have HM2 : Aside0 (mg l m = acc ++ [rdP m k] ++ mg (l.drop (i)) (m.drop (k + 1))) := ⟨by rw [HM.out, hmg]; simp⟩
              obtain ⟨ad, e, hx0, hx1⟩ := HCM.out _ HB3.out hkm2
              subst e
              obtain ⟨pk, hpk⟩ : ∃ x, (rdP m k).f0 = x := ⟨_, rfl⟩
              obtain ⟨pv, hpv⟩ : ∃ x, (rdP m k).f1 = x := ⟨_, rfl⟩
              rw [show rdP m k = ⟨pk, pv⟩ by rw [← hpk, ← hpv]] at HM2
              rw [hpk] at hx0
              rw [hpv] at hx1
              clear hpk hpv
              clear hmg HM HCL HCM HQ
              have HROW := Aside0.mk (row1 (Blk.new W4 #[.string pk, .string pv] 23))
              have HR5 : Aside0 (Kd.R k23 23 (W4.alloc (.cells #[.string pk, .string pv] 23)) w.heap.size (fun _ => True) (.slice Av acc.length cv) acc) := ⟨Kd.R_step HA3.out (fun k _ hlt => (below_alloc (Below.refl _ W4) _).block k hlt)⟩
              have HB5 : Aside0 (Below w.heap.size w (W4.alloc (.cells #[.string pk, .string pv] 23))) := ⟨below_alloc HB3.out _⟩
              go_wp2_with (at_builtin; refine Kd.R_append_rows k23 (w0 := w) w.heap.size rfl (.tmp 91) (.tmp 96) 33 23 (.agg #[(.string ⟨#[]⟩), (.string ⟨#[]⟩)]) 32 rfl Tryd.underlying33 info23 rfl (by decide) (by omega) (.slice Av acc.length cv) acc [⟨pk, pv⟩] _ _ _ (fun _ => True) (fun _ => False) rfl rfl HR5.out HROW.out (fun _ _ h => h) (fun _ h => h.elim) (fun _ _ => trivial) HB5.out HB5.out.size (by omega) ?_; intro v1 w1 ho hb hg hat; obtain ⟨A4, c4, rfl, hc4, -⟩ := Kd.R_reads ho; have HO := Aside0.mk ho; have HBB := Aside0.mk hb; clear ho hb hg hat hc4)
              go_roundw
              case rel => exact ⟨i, k + 1, acc ++ [⟨pk, pv⟩], A4, c4, by omega, by omega, by rw [List.length_append]; simp; omega, by go_num, by go_num, by simp, HO, HM2, HBB⟩
              case measure => simp [intOf]; omega
end Go.Proofs.YtbidbjgklonbpaaDoor.Mine
