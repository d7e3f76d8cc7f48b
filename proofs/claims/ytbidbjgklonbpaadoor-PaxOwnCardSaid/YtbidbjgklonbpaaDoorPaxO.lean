/- pax: ref's Get, walked. -/
import Derived.Test.YtbidbjgklonbpaaDoorPaxN2
import Derived.Test.YtbidbjgklonbpaaDoorPaxL
set_option linter.unusedSimpArgs false
set_option linter.unusedVariables false
namespace Go.Proofs.YtbidbjgklonbpaaDoor.Mine
open Go.RowKit Go.Maps Go.Proofs.YtbidbjgklonbpaaDoorW.PrintWords Go.Proofs.YtbidbjgklonbpaaDoorW.PrintLast Go.Proofs.YtbidbjgklonbpaaDoorW.PrintMore Go.Proofs.YtbidbjgklonbpaaDoor.Turn Go.Proofs.YtbidbjgklonbpaaDoor.PPaxGets

theorem oneL_err {l : List Int} {c : Int} (h : oneL l = .error c) : c ≠ 0 := by
  unfold oneL at h
  split at h
  · cases h; decide
  · unfold oneN at h
    split at h
    · cases h; decide
    · unfold oneB at h
      split at h
      · cases h; decide
      · unfold oneP at h
        split at h
        · rename_i hf; cases h; exact hf
        · split at h
          · cases h; decide
          · cases h

set_option maxHeartbeats 8000000 in
set_option maxRecDepth 100000 in
theorem getR_any (A : Option Addr) (c : Nat) (L : List Int) (w : World) (hb : ∀ x ∈ L, 0 ≤ x ∧ x < 256) (hl : L.length ≤ 1152921504606846976) (hc : L.length ≤ c) (hr : Kd.C (Kd.int .u8) w A L.length L) :
    Calls Tryd.prog 25 #[.slice A L.length c] w (EndsGet w (getF L)) := by
  have HONE : Aside0 (∀ (W : World) (a : Nat) (ad : Addr), A = some ad → Below w.heap.size w W → a < L.length → Calls Tryd.prog 41 #[.slice (some (ad.add a)) (L.length - a) (c - a)] W (EndsOneR W (oneL (L.drop a)))) := ⟨fun W a ad hA hbw ha => by
    have h1 := Kd.C_drop (Kd.C_below hr hbw) (m := a) (by omega) (c := c) (by omega)
    rw [if_neg (by omega), show (Kd.int IntKind.u8).sz = 1 from rfl, Nat.mul_one, hA, Option.map_some] at h1
    have := oneR_any (some (ad.add a)) (c - a) (L.drop a) W (fun x hx => hb x (List.mem_of_mem_drop hx)) (by rw [List.length_drop]; omega) (by rw [List.length_drop]; omega) h1
    rwa [List.length_drop] at this⟩
  have HAD : Aside0 (0 < L.length → ∃ ad, A = some ad) := ⟨fun h => by
    obtain ⟨ad, e, -⟩ := Kd.at_int hr 0 (by omega) (by omega)
    exact ⟨ad, e⟩⟩
  have HX : Aside0 (getF L = getG L 66 0 []) := ⟨rfl⟩
  obtain ⟨X, hX⟩ : ∃ X, getF L = X := ⟨_, rfl⟩
  rw [hX] at HX ⊢
  clear hX hb hr
  go_enter Tryd.func25, Tryd.ntmps25
  go_wp2_with fail
  go_loopw [5, 6, 7, 8, 9] (fun v5 v6 v7 v8 v9 wr => ∃ (A1 : Option Addr) (c1 : Nat) (a : Nat) (acc : List S23), a ≤ L.length ∧ acc.length ≤ 64 ∧ v5 = .slice A1 acc.length c1 ∧ v6 = .int .i64 a ∧ Aside0 (Below w.heap.size w wr) ∧ Aside0 (Kd.R k23 23 wr w.heap.size (fun _ => True) (.slice A1 acc.length c1) acc) ∧ Aside0 (X = getG L (66 - acc.length) a acc)) (fun _ v6 _ _ _ _ => L.length - (intOf v6).toNat)
  case atStart => exact ⟨none, 0, 0, [], Nat.zero_le _, Nat.zero_le _, rfl, rfl, ⟨Below.refl _ _⟩, ⟨Kd.R_nil _ _ _ _ _⟩, HX⟩
  case round =>
    clear HX
    obtain ⟨A1, c1, a, acc, haL, hal, rfl, rfl, HB, HR, HX⟩ := hrel
    have HX1 : Aside0 (X = if L.length ≤ a then (acc, (0 : Int), (0 : Int)) else if acc.length = 64 then (([] : List S23), (a : Int), (3 : Int)) else
      match oneL (L.drop a) with
      | .error c => (([] : List S23), (a : Int), c)
      | .ok (k, v, n) => if outOf acc k = true then (([] : List S23), (a : Int), (92 : Int)) else getG L (65 - acc.length) (a + n) (acc ++ [⟨k, v⟩])) := ⟨by
      rw [HX.out, show 66 - acc.length = (65 - acc.length) + 1 by omega]; rfl⟩
    have hcc : acc.length ≤ c1 ∧ Kd.C k23 wr A1 acc.length acc := by
      obtain ⟨A2, c2, e, h1, h2⟩ := Kd.R_reads HR.out
      cases e
      exact ⟨h1, h2⟩
    have hc1 := hcc.1
    have HC1 := Aside0.mk hcc.2
    clear HX hcc
    by_cases h1 : a < L.length
    case neg =>
      have HX2 : Aside0 (X = (acc, (0 : Int), (0 : Int))) := ⟨by rw [HX1.out, if_pos (by omega)]⟩
      go_wp2_with fail
      go_ret3
      rw [HX2.out]
      exact ⟨HB.out, A1, c1, rfl, hc1, Kd.F_mono (Kd.R_F (Kd.R_bound HR.out)) (fun k hk => hk.2.1)⟩
    case pos =>
      by_cases h2 : acc.length = 64
      · have HX2 : Aside0 (X = (([] : List S23), (a : Int), (3 : Int))) := ⟨by rw [HX1.out, if_neg (by omega), if_pos h2]⟩
        have e2 : ((acc.length : Int) == 64) = true := by rw [beq_iff_eq]; omega
        go_wp2_with fail
        go_ret3
        rw [HX2.out]
        exact ⟨HB.out, none, 0, rfl, Nat.le_refl _, Kd.F_nil _ _ _⟩
      · have HX2 : Aside0 (X = match oneL (L.drop a) with
          | .error c => (([] : List S23), (a : Int), c)
          | .ok (k, v, n) => if outOf acc k = true then (([] : List S23), (a : Int), (92 : Int)) else getG L (65 - acc.length) (a + n) (acc ++ [⟨k, v⟩])) := ⟨by rw [HX1.out, if_neg (by omega), if_neg h2]⟩
        have e2 : ((acc.length : Int) == 64) = false := by rw [beq_eq_false_iff_ne]; omega
        clear HX1
        obtain ⟨ad, rfl⟩ := HAD.out (by omega)
        go_wp2_with fail
        obtain ⟨Y, hY⟩ : ∃ Y, oneL (L.drop a) = Y := ⟨_, rfl⟩
        have hcall := HONE.out wr a ad rfl HB.out h1
        rw [hY] at HX2 hcall
        refine hcall.mono ?_
        have HY := Aside0.mk hY
        clear hcall hY
        cases Y with
        | error cc =>
          rintro e w2 ⟨hb2, he⟩
          subst he
          have hne := oneL_err HY.out
          have e3 : (cc != 0) = true := bne_iff_ne.2 hne
          have HB2 := Aside0.mk (below_alloc (below_step HB.out hb2) (.cells #[.string ⟨#[]⟩, .string ⟨#[]⟩] 23))
          clear hb2
          go_wp2_with fail
          go_ret3
          rw [HX2.out]
          exact ⟨HB2.out, none, 0, rfl, Nat.le_refl _, Kd.F_nil _ _ _⟩
        | ok y =>
          obtain ⟨k, v, n⟩ := y
          rintro e w2 ⟨hb2, he⟩
          subst he
          have hno := oneL_ok HY.out
          rw [List.length_drop] at hno
          have hst := below_alloc hb2 (.cells #[.string k, .string v] 23)
          have HB2 := Aside0.mk (below_step HB.out hst)
          have HR2 : Aside0 (Kd.R k23 23 (w2.alloc (.cells #[.string k, .string v] 23)) w.heap.size (fun _ => True) (.slice A1 acc.length c1) acc) := ⟨Kd.R_step HR.out (fun k _ hlt => hst.block k hlt)⟩
          have HC2 := Aside0.mk (Kd.C_below HC1.out hst)
          have HK := Aside0.mk (Blk.new w2 #[.string k, .string v] 23)
          clear hb2 hst HR HC1
          go_upto_region 9 with (fail)
          have hal3 : w2.heap.size < (w2.alloc (.cells #[.string k, .string v] 23)).heap.size := by simp
          generalize w2.alloc (.cells #[.string k, .string v] 23) = W3 at *
          have hbk := HK.out
          have hbk0 : World.cell? W3 ⟨w2.heap.size, 0, none⟩ = some (.string k) := Blk.cell hbk 0
          have hbk1 : World.cell? W3 ⟨w2.heap.size, 1, none⟩ = some (.string v) := Blk.cell hbk 1
          obtain ⟨bad, hbad⟩ : ∃ bad, outOf acc k = bad := ⟨_, rfl⟩
          have HX3 : Aside0 (X = if bad = true then (([] : List S23), (a : Int), (92 : Int)) else getG L (65 - acc.length) (a + n) (acc ++ [⟨k, v⟩])) := ⟨by rw [HX2.out, ← hbad]⟩
          have HBAD := Aside0.mk hbad
          clear hbk hbad HX2
          go_cut [45] from 10 to 53 (fun b wx => b = .bool bad ∧ ∃ n, Aside0 (wx = W3.drewN n))
          case first =>
            by_cases h0 : acc.length = 0
            · have HQ : Aside0 (bad = false) := ⟨by rw [← HBAD.out]; simp [outOf, h0]⟩
              have e3 : decide (0 < acc.length) = false := decide_eq_false (by omega)
              have e4 : decide ((0 : Int) < (acc.length : Int)) = false := decide_eq_false (by omega)
              clear HX3 HBAD HC2 HY HONE HR2
              go_quiet (fail)
              all_goals
                go_wp2_with fail
                go_meet
                exact ⟨by rw [HQ.out], _, ⟨rfl⟩⟩
            · obtain ⟨j, hj⟩ : ∃ j, acc.length = j + 1 := ⟨acc.length - 1, by omega⟩
              obtain ⟨ad2, e, hy0, -⟩ := at_T23 HC2.out (j : Int) (by omega) (by omega)
              subst e
              rw [Int.toNat_natCast, show rd_T23 acc (j : Int) = rdP acc j by unfold rd_T23 rdP; rw [Int.toNat_natCast]] at hy0
              obtain ⟨q, hq⟩ : ∃ q, Op.bytesLess (rdP acc j).f0.toList k.toList = q := ⟨_, rfl⟩
              have HQQ := Aside0.mk hq
              have HQ : Aside0 (bad = !q) := ⟨by rw [← HBAD.out, ← hq, outOf, hj]; simp⟩
              have e3 : decide (0 < acc.length) = true := decide_eq_true (by omega)
              have hw1 : IntKind.i64.wrap ((acc.length : Int) - 1) = (j : Int) := by rw [IntWalk.i64_in _ (by omega)]; omega
              have hjl : j < acc.length := by omega
              clear HX3 HBAD HC2 HY HONE HR2 hj hq h0
              go_quiet (fail)
              all_goals
                go_wp2_with fail
                go_meet
                exact ⟨by rw [HQ.out, ← HQQ.out], _, ⟨rfl⟩⟩
          case rest =>
            obtain ⟨rfl, n3, HWC⟩ := hcut
            have hwc := HWC.out
            subst hwc
            have HB3 := Aside0.mk (below_step HB2.out (pw_below_drewN (Below.refl _ W3) n3))
            cases bad with
            | true =>
              have HX4 : Aside0 (X = (([] : List S23), (a : Int), (92 : Int))) := ⟨by rw [HX3.out, if_pos rfl]⟩
              go_wp2_with fail
              go_ret3
              rw [HX4.out]
              exact ⟨HB3.out, none, 0, rfl, Nat.le_refl _, Kd.F_nil _ _ _⟩
            | false =>
              have HX4 : Aside0 (X = getG L (65 - acc.length) (a + n) (acc ++ [⟨k, v⟩])) := ⟨by rw [HX3.out, if_neg (by simp)]⟩
              have HR3 : Aside0 (Kd.R k23 23 (W3.drewN n3) w.heap.size (fun _ => True) (.slice A1 acc.length c1) acc) := ⟨Kd.R_step HR2.out (fun k _ hlt => (pw_below_drewN (Below.refl _ W3) n3).block k hlt)⟩
              have HROW := Aside0.mk (row1 (Blk.new (W3.drewN n3) #[.string k, .string v] 23))
              have HR5 : Aside0 (Kd.R k23 23 ((W3.drewN n3).alloc (.cells #[.string k, .string v] 23)) w.heap.size (fun _ => True) (.slice A1 acc.length c1) acc) := ⟨Kd.R_step HR3.out (fun k _ hlt => (below_alloc (Below.refl _ (W3.drewN n3)) _).block k hlt)⟩
              have HB5 : Aside0 (Below w.heap.size w ((W3.drewN n3).alloc (.cells #[.string k, .string v] 23))) := ⟨below_alloc HB3.out _⟩
              clear HX3 HBAD HR2 HC2 HR3
              go_wp2_with (at_builtin; refine Kd.R_append_rows k23 (w0 := w) w.heap.size rfl (.tmp 47) (.tmp 49) 33 23 (.agg #[(.string ⟨#[]⟩), (.string ⟨#[]⟩)]) 32 rfl Tryd.underlying33 info23 rfl (by decide) (by omega) (.slice A1 acc.length c1) acc [⟨k, v⟩] _ _ _ (fun _ => True) (fun _ => False) rfl rfl HR5.out HROW.out (fun _ _ h => h) (fun _ h => h.elim) (fun _ _ => trivial) HB5.out HB5.out.size (by omega) ?_; intro v1 w1 ho hb hg hat; obtain ⟨A4, c4, rfl, hc4, -⟩ := Kd.R_reads ho; have HO := Aside0.mk ho; have HBB := Aside0.mk hb; clear ho hb hg hat hc4)
              go_roundw
              case rel => exact ⟨A4, c4, a + n, acc ++ [⟨k, v⟩], by omega, by rw [List.length_append]; simp; omega, by simp, by go_num, HBB, HO, ⟨by rw [HX4.out, List.length_append]; congr 1; simp⟩⟩
              case measure => simp [intOf]; omega
end Go.Proofs.YtbidbjgklonbpaaDoor.Mine
