/- pax: Put. -/
import Derived.Test.YtbidbjgklonbpaaDoorPaxF
set_option linter.unusedSimpArgs false
set_option linter.unusedVariables false
namespace Go.Proofs.YtbidbjgklonbpaaDoor.Mine
open Go.RowKit Go.Maps Go.Proofs.YtbidbjgklonbpaaDoorW.PrintWords Go.Proofs.YtbidbjgklonbpaaDoorW.PrintLast Go.Proofs.YtbidbjgklonbpaaDoorW.PrintMore Go.Proofs.YtbidbjgklonbpaaDoor.Turn Go.Proofs.YtbidbjgklonbpaaDoor.PPaxGets

open Classical in
/-- How many digits a record's length has. -/
noncomputable def dOf (n : Nat) : Nat := if h : ∃ d, SizeIs n d then h.choose else 0
theorem dOf_is {n : Nat} (h : n < 100000000000000000) : SizeIs n (dOf n) := by
  unfold dOf
  rw [dif_pos (size_ex n h)]
  exact (size_ex n h).choose_spec
/-- A pair's record. -/
noncomputable def recP (p : S23) : List Int := recL p.f0 p.f1 (dOf (3 + p.f0.size + p.f1.size))
theorem recP_len {p : S23} (h : fitN p.f0 p.f1 = 0) : (recP p).length ≤ 1100 := by
  have h2 := fit_small h
  have hd := dOf_is (n := 3 + p.f0.size + p.f1.size) (by omega)
  unfold recP
  rw [recL_length hd]
  have := hd.2.1
  omega
theorem less_turn : ∀ (a b : List UInt8), (Op.bytesLess a b || a == b) = !(Op.bytesLess b a)
  | [], [] => rfl
  | [], b :: y => rfl
  | a :: x, [] => rfl
  | a :: x, b :: y => by
    have ih := less_turn x y
    unfold Op.bytesLess
    rcases Nat.lt_trichotomy a.toNat b.toNat with h | h | h
    · have h1 : decide (a < b) = true := decide_eq_true (UInt8.lt_iff_toNat_lt.2 h)
      have h2 : decide (b < a) = false := decide_eq_false (fun e => by have := UInt8.lt_iff_toNat_lt.1 e; omega)
      have h3 : (b == a) = false := beq_eq_false_iff_ne.2 (fun e => by rw [e] at h; omega)
      rw [h1, h2, h3]
      simp
    · obtain rfl : a = b := UInt8.toNat_inj.1 h
      have h2 : decide (a < a) = false := decide_eq_false (fun e => by have := UInt8.lt_iff_toNat_lt.1 e; omega)
      rw [h2, List.cons_beq_cons]
      simp only [beq_self_eq_true, Bool.false_or, Bool.true_and]
      exact ih
    · have h1 : decide (a < b) = false := decide_eq_false (fun e => by have := UInt8.lt_iff_toNat_lt.1 e; omega)
      have h2 : decide (b < a) = true := decide_eq_true (UInt8.lt_iff_toNat_lt.2 h)
      have h3 : (a == b) = false := beq_eq_false_iff_ne.2 (fun e => by rw [e] at h; omega)
      rw [h1, h2, h3, List.cons_beq_cons, h3]
      simp
def rdP (l : List S23) (i : Nat) : S23 := l.getD i z23
/-- What Put does from the i-th pair on. -/
noncomputable def putG (l : List S23) : Nat → Nat → List Int → List Int × Int × Int
  | 0, _, acc => (acc, 0, 0)
  | m + 1, i, acc => if fitN (rdP l i).f0 (rdP l i).f1 ≠ 0 then ([], i, fitN (rdP l i).f0 (rdP l i).f1) else
    if (decide (0 < i) && !(Op.bytesLess (rdP l (i - 1)).f0.toList (rdP l i).f0.toList)) = true then ([], i, 92) else putG l m (i + 1) (acc ++ recP (rdP l i))
noncomputable def putF (l : List S23) : List Int × Int × Int := if 64 < l.length then ([], 64, 3) else putG l l.length 0 []
def EndsPut (w : World) (r : List Int × Int × Int) (e : Ending) (w' : World) : Prop := ∃ A c, e = .returned (.tuple #[.slice A r.1.length c, .int .i64 r.2.1, .int .i64 r.2.2]) ∧ Own w' w.heap.size (.slice A r.1.length c) r.1 ∧ Below w.heap.size w w'
/-- Pairs that memory bears. -/
def SmallP (l : List S23) : Prop := ∀ x ∈ l, x.f0.size ≤ 140737488351232 ∧ x.f1.size ≤ 140737488351232
theorem SmallP.at {l : List S23} (h : SmallP l) {i : Nat} (hi : i < l.length) : (rdP l i).f0.size ≤ 140737488351232 ∧ (rdP l i).f1.size ≤ 140737488351232 := by
  unfold rdP
  rw [List.getD_eq_getElem?_getD, List.getElem?_eq_getElem hi]
  exact h _ (List.getElem_mem hi)

set_option maxHeartbeats 8000000 in
set_option maxRecDepth 100000 in
theorem put_any (A : Option Addr) (c : Nat) (l : List S23) (hs : SmallP l) (hl : l.length ≤ 4398046511104) (w : World) (hr : Kd.C k23 w A l.length l) (ht : Tab w) :
    Calls Tryd.prog 18 #[.slice A l.length c] w (EndsPut w (putF l)) := by
  have HR := Aside0.mk hr
  have HS := Aside0.mk hs
  have HT := Aside0.mk ht
  have HP : Aside0 (putF l = if 64 < l.length then ([], 64, 3) else putG l l.length 0 []) := ⟨rfl⟩
  generalize putF l = R at *
  clear hr hs ht
  by_cases hbig : 64 < l.length
  · have HX : Aside0 (R = ([], 64, 3)) := ⟨by rw [HP.out, if_pos hbig]⟩
    go_enter Tryd.func18, Tryd.ntmps18
    go_wp2_with fail
    go_ret3
    rw [HX.out]
    exact ⟨none, 0, rfl, Own.nil _ _, Below.refl _ _⟩
  have HX : Aside0 (R = putG l l.length 0 []) := ⟨by rw [HP.out, if_neg hbig]⟩
  clear HP
  go_enter Tryd.func18, Tryd.ntmps18
  go_wp2_with fail
  go_loopw [5, 14] (fun v i wr => ∃ (k : Nat) (acc : List Int) (Av : Option Addr) (cv : Nat), k ≤ l.length ∧ i = .int .i64 k ∧ v = .slice Av acc.length cv ∧ Aside0 (Own wr w.heap.size (.slice Av acc.length cv) acc) ∧ Aside0 (acc.length ≤ k * 1100) ∧ Aside0 (R = putG l (l.length - k) k acc) ∧ Aside0 (Below w.heap.size w wr)) (fun _ i _ => l.length - (intOf i).toNat)
  case atStart => exact ⟨0, [], none, 0, Nat.zero_le _, rfl, rfl, ⟨Own.nil _ _⟩, ⟨Nat.zero_le _⟩, ⟨HX.out⟩, ⟨Below.refl _ _⟩⟩
  case round =>
    clear HX
    obtain ⟨k, acc, Av, cv, hk, rfl, rfl, HO, HLN, HX, HB⟩ := hrel
    by_cases hlt : k < l.length
    · obtain ⟨ad, e, hx0, hx1⟩ := at_T23 (Kd.C_below HR.out HB.out) (k : Int) (by omega) (by omega)
      cases e
      rw [Int.toNat_natCast] at hx0 hx1
      have hrd : rd_T23 l (k : Int) = rdP l k := by unfold rd_T23 rdP; rw [Int.toNat_natCast]
      rw [hrd] at hx0 hx1
      have hsm := HS.out.at hlt
      have hm : l.length - k = (l.length - (k + 1)) + 1 := by omega
      have HX2 : Aside0 (R = if fitN (rdP l k).f0 (rdP l k).f1 ≠ 0 then ([], (k : Int), fitN (rdP l k).f0 (rdP l k).f1) else if (decide (0 < k) && !(Op.bytesLess (rdP l (k - 1)).f0.toList (rdP l k).f0.toList)) = true then ([], (k : Int), 92) else putG l (l.length - (k + 1)) (k + 1) (acc ++ recP (rdP l k))) := ⟨by rw [HX.out, hm]; rfl⟩
      have hkey : ∀ j : Nat, k = j + 1 → wr.cell? (ad.add (j * 2)) = some (.string (rdP l j).f0) := fun j hj => by
        obtain ⟨ad', e', hy0, -⟩ := at_T23 (Kd.C_below HR.out HB.out) (j : Int) (by omega) (by omega)
        cases e'
        rw [Int.toNat_natCast] at hy0
        have e2 : rd_T23 l (j : Int) = rdP l j := by unfold rd_T23 rdP; rw [Int.toNat_natCast]
        rwa [e2] at hy0
      have HKEY := Aside0.mk hkey
      have HLAY : Aside0 (fitN (rdP l k).f0 (rdP l k).f1 = 0 → (recP (rdP l k)).length ≤ 1100) := ⟨recP_len⟩
      have HREC : Aside0 (recP (rdP l k) = recL (rdP l k).f0 (rdP l k).f1 (dOf (3 + (rdP l k).f0.size + (rdP l k).f1.size))) := ⟨rfl⟩
      obtain ⟨pk, hpk⟩ : ∃ x, (rdP l k).f0 = x := ⟨_, rfl⟩
      obtain ⟨pv, hpv⟩ : ∃ x, (rdP l k).f1 = x := ⟨_, rfl⟩
      rw [hpk, hpv] at HX2 hsm HLAY HREC
      rw [hpk] at hx0
      rw [hpv] at hx1
      have hsk := hsm.1
      have hsv := hsm.2
      have HDD := Aside0.mk (dOf_is (n := 3 + pk.size + pv.size) (by omega))
      have HFT := Aside0.mk (fits_any pk pv)
      obtain ⟨f, hf⟩ : ∃ f, fitN pk pv = f := ⟨_, rfl⟩
      rw [hf] at HX2 HFT HLAY
      have HFS : Aside0 (f = 0 → pk.size ≤ 32 ∧ pv.size ≤ 1024) := ⟨fun h => fit_small (hf.trans h)⟩
      have hbk := World.block_lt_of_cell? _ _ hx0
      have HBKL := Aside0.mk hbk
      have HX0 := Aside0.mk (Blk.new wr #[.string pk, .string pv] 23)
      have HB1 := Aside0.mk (below_alloc HB.out (.cells #[.string pk, .string pv] 23))
      have HO1 := Aside0.mk (HO.out.below (below_alloc (Below.refl _ wr) (.cells #[.string pk, .string pv] 23)))
      have hsz : (wr.alloc (.cells #[.string pk, .string pv] 23)).heap.size = wr.heap.size + 1 := by simp
      have HSZ := Aside0.mk hsz
      have HC0 := Aside0.mk hx0
      clear hpk hpv hf hsm hkey hm hrd hsz HX
      go_wp2_with fail
      refine (HFT.out _).mono ?_
      rintro e w2 ⟨rfl, hb⟩
      have HB2 := Aside0.mk (below_step HB1.out hb)
      have HO2 := Aside0.mk (HO1.out.below hb)
      have hx2 : Blk w2 wr.heap.size #[.string pk, .string pv] 23 := (hb.block _ HX0.out.lt).trans HX0.out
      have hl2 := hx2.lt
      have HX22 := Aside0.mk hx2
      have HWR : Aside0 (∀ a v, wr.cell? a = some v → w2.cell? a = some v) := ⟨fun a v h => by
        have hlt := World.block_lt_of_cell? _ _ h
        exact (World.cell?_of_block ((hb.block _ (by rw [HSZ.out]; omega)).trans ((below_alloc (Below.refl _ wr) _).block _ hlt))).trans h⟩
      have hx20 : World.cell? w2 ⟨wr.heap.size, 0, none⟩ = some (.string pk) := Blk.cell hx2 0
      have hx21 : World.cell? w2 ⟨wr.heap.size, 1, none⟩ = some (.string pv) := Blk.cell hx2 1
      clear hb hx2 hx0 hx1 hbk HX0 HFT
      by_cases h0 : f = 0
      · subst h0
        have hs := HFS.out rfl
        have hpk32 := hs.1
        have hpv32 := hs.2
        have hrl := HLAY.out rfl
        have HX3 : Aside0 (R = if (decide (0 < k) && !(Op.bytesLess (rdP l (k - 1)).f0.toList pk.toList)) = true then ([], (k : Int), 92) else putG l (l.length - (k + 1)) (k + 1) (acc ++ recP (rdP l k))) := ⟨by rw [HX2.out, if_neg (by omega)]⟩
        obtain ⟨bad, hbad⟩ : ∃ bad, (decide (0 < k) && !(Op.bytesLess (rdP l (k - 1)).f0.toList pk.toList)) = bad := ⟨_, rfl⟩
        rw [hbad] at HX3
        have HBAD := Aside0.mk hbad
        clear hs hbad HX2
        go_upto_region 10 with (fail)
        go_cut [37] (fun b wx => b = .bool bad ∧ ∃ n, Aside0 (wx = w2.drewN n))
        case first =>
          cases k with
          | zero =>
            have HQ : Aside0 (bad = false) := ⟨by rw [← HBAD.out]; rfl⟩
            go_quiet (fail)
            all_goals
              go_wp2_with fail
              go_meet
              exact ⟨by rw [HQ.out], _, ⟨rfl⟩⟩
          | succ j =>
            have hy0 := HWR.out _ _ (HKEY.out j rfl)
            have hbl2 := World.block_lt_of_cell? _ _ hy0
            obtain ⟨q, hq⟩ : ∃ q, Op.bytesLess (rdP l j).f0.toList pk.toList = q := ⟨_, rfl⟩
            have HQQ := Aside0.mk hq
            have HQ : Aside0 (bad = !q) := ⟨by rw [← HBAD.out, ← hq]; simp⟩
            have hw1 : IntKind.i64.wrap ((j : Int) + 1 - 1) = (j : Int) := by rw [IntWalk.i64_in _ (by omega)]; omega
            have hw2 : IntKind.i64.wrap (((j + 1 : Nat) : Int) - 1) = (j : Int) := by rw [IntWalk.i64_in _ (by omega)]; omega
            have hdj : decide (0 < j + 1) = true := decide_eq_true (by omega)
            have hjl : j < l.length := by omega
            go_quiet (fail)
            all_goals
              go_wp2_with fail
              go_meet
              exact ⟨by rw [HQ.out, ← HQQ.out, less_turn], _, ⟨rfl⟩⟩
        case rest =>
          obtain ⟨rfl, n, HWC⟩ := hcut
          have hwc := HWC.out
          subst hwc
          have HB3 := Aside0.mk (pw_below_drewN HB2.out n)
          have HO3 : Aside0 (Own (w2.drewN n) w.heap.size (.slice Av acc.length cv) acc) := ⟨HO2.out.below (pw_below_drewN (Below.refl _ w2) n)⟩
          cases bad with
          | true =>
            have HY : Aside0 (R = ([], (k : Int), 92)) := ⟨by rw [HX3.out, if_pos rfl]⟩
            go_wp2_with fail
            go_ret3
            rw [HY.out]
            exact ⟨none, 0, rfl, Own.nil _ _, HB3.out⟩
          | false =>
            have HY : Aside0 (R = putG l (l.length - (k + 1)) (k + 1) (acc ++ recP (rdP l k))) := ⟨by rw [HX3.out, if_neg (by simp)]⟩
            have HLEN2 := Aside0.mk hrl
            go_wp2_with fail
            refine (lay_any pk pv hsk hsv (by have := HLN.out; omega) HDD.out (w2.drewN n) (HT.out.b.on HB3.out) HB3.out.size HO3.out).mono ?_
            rintro e w4 ⟨v4, rfl, ho, hb⟩
            rw [← HREC.out] at ho
            obtain ⟨A4, c4, rfl⟩ := own_slice ho
            have HO4 := Aside0.mk ho
            have HB4 := Aside0.mk (HB3.out.trans hb)
            clear ho hb
            go_wp2_with fail
            go_roundw
            case rel => exact ⟨k + 1, acc ++ recP (rdP l k), A4, c4, by omega, by go_num, by rw [List.length_append], HO4, ⟨by have := HLN.out; have := HLEN2.out; rw [List.length_append]; omega⟩, HY, HB4⟩
            case measure => simp [intOf]; omega
      · have HY : Aside0 (R = ([], (k : Int), f)) := ⟨by rw [HX2.out, if_pos h0]⟩
        have hne : (f == 0) = false := beq_eq_false_iff_ne.2 h0
        have hne2 : (f != 0) = true := bne_iff_ne.2 h0
        clear h0
        go_wp2_with fail
        go_ret3
        rw [HY.out]
        exact ⟨none, 0, rfl, Own.nil _ _, HB2.out⟩
    · obtain rfl : k = l.length := by omega
      have HY : Aside0 (R = (acc, 0, 0)) := ⟨by rw [HX.out, Nat.sub_self]; rfl⟩
      go_wp2_with fail
      go_ret3
      rw [HY.out]
      exact ⟨Av, cv, rfl, HO.out, HB.out⟩
end Go.Proofs.YtbidbjgklonbpaaDoor.Mine
/- pax: the document's Put; PaxPuts. -/
set_option linter.unusedSimpArgs false
set_option linter.unusedVariables false
namespace Go.Proofs.YtbidbjgklonbpaaDoor.Mine
open Go.RowKit Go.Maps Go.Proofs.YtbidbjgklonbpaaDoorW.PrintWords Go.Proofs.YtbidbjgklonbpaaDoorW.PrintLast Go.Proofs.YtbidbjgklonbpaaDoorW.PrintMore Go.Proofs.YtbidbjgklonbpaaDoor.Turn Go.Proofs.YtbidbjgklonbpaaDoor.PPaxGets

set_option maxHeartbeats 8000000 in
set_option maxRecDepth 100000 in
theorem putR_any (A : Option Addr) (c : Nat) (l : List S23) (hs : SmallP l) (hl : l.length ≤ 4398046511104) (w : World) (hr : Kd.C k23 w A l.length l) :
    Calls Tryd.prog 19 #[.slice A l.length c] w (EndsPut w (putF l)) := by
  have HR := Aside0.mk hr
  have HS := Aside0.mk hs
  have HP : Aside0 (putF l = if 64 < l.length then ([], 64, 3) else putG l l.length 0 []) := ⟨rfl⟩
  generalize putF l = R at *
  clear hr hs
  by_cases hbig : 64 < l.length
  · have HX : Aside0 (R = ([], 64, 3)) := ⟨by rw [HP.out, if_pos hbig]⟩
    go_enter Tryd.func19, Tryd.ntmps19
    go_wp2_with fail
    go_ret3
    rw [HX.out]
    exact ⟨none, 0, rfl, Own.nil _ _, Below.refl _ _⟩
  have HX : Aside0 (R = putG l l.length 0 []) := ⟨by rw [HP.out, if_neg hbig]⟩
  clear HP
  go_enter Tryd.func19, Tryd.ntmps19
  go_wp2_with fail
  go_loopw [5, 6] (fun v i wr => ∃ (k : Nat) (acc : List Int) (Av : Option Addr) (cv : Nat), k ≤ l.length ∧ i = .int .i64 k ∧ v = .slice Av acc.length cv ∧ Aside0 (Own wr w.heap.size (.slice Av acc.length cv) acc) ∧ Aside0 (acc.length ≤ k * 1100) ∧ Aside0 (R = putG l (l.length - k) k acc) ∧ Aside0 (Below w.heap.size w wr)) (fun _ i _ => l.length - (intOf i).toNat)
  case atStart => exact ⟨0, [], none, 0, Nat.zero_le _, rfl, rfl, ⟨Own.nil _ _⟩, ⟨Nat.zero_le _⟩, ⟨HX.out⟩, ⟨Below.refl _ _⟩⟩
  case round =>
    clear HX
    obtain ⟨k, acc, Av, cv, hk, rfl, rfl, HO, HLN, HX, HB⟩ := hrel
    by_cases hlt : k < l.length
    · obtain ⟨ad, e, hx0, hx1⟩ := at_T23 (Kd.C_below HR.out HB.out) (k : Int) (by omega) (by omega)
      cases e
      rw [Int.toNat_natCast] at hx0 hx1
      have hrd : rd_T23 l (k : Int) = rdP l k := by unfold rd_T23 rdP; rw [Int.toNat_natCast]
      rw [hrd] at hx0 hx1
      have hsm := HS.out.at hlt
      have hm : l.length - k = (l.length - (k + 1)) + 1 := by omega
      have HX2 : Aside0 (R = if fitN (rdP l k).f0 (rdP l k).f1 ≠ 0 then ([], (k : Int), fitN (rdP l k).f0 (rdP l k).f1) else if (decide (0 < k) && !(Op.bytesLess (rdP l (k - 1)).f0.toList (rdP l k).f0.toList)) = true then ([], (k : Int), 92) else putG l (l.length - (k + 1)) (k + 1) (acc ++ recP (rdP l k))) := ⟨by rw [HX.out, hm]; rfl⟩
      have hkey : ∀ j : Nat, k = j + 1 → wr.cell? (ad.add (j * 2)) = some (.string (rdP l j).f0) := fun j hj => by
        obtain ⟨ad', e', hy0, -⟩ := at_T23 (Kd.C_below HR.out HB.out) (j : Int) (by omega) (by omega)
        cases e'
        rw [Int.toNat_natCast] at hy0
        have e2 : rd_T23 l (j : Int) = rdP l j := by unfold rd_T23 rdP; rw [Int.toNat_natCast]
        rwa [e2] at hy0
      have HKEY := Aside0.mk hkey
      have HLAY : Aside0 (fitN (rdP l k).f0 (rdP l k).f1 = 0 → (recP (rdP l k)).length ≤ 1100) := ⟨recP_len⟩
      have HREC : Aside0 (recP (rdP l k) = recL (rdP l k).f0 (rdP l k).f1 (dOf (3 + (rdP l k).f0.size + (rdP l k).f1.size))) := ⟨rfl⟩
      obtain ⟨pk, hpk⟩ : ∃ x, (rdP l k).f0 = x := ⟨_, rfl⟩
      obtain ⟨pv, hpv⟩ : ∃ x, (rdP l k).f1 = x := ⟨_, rfl⟩
      rw [hpk, hpv] at HX2 hsm HLAY HREC
      rw [hpk] at hx0
      rw [hpv] at hx1
      have hsk := hsm.1
      have hsv := hsm.2
      have HDD := Aside0.mk (dOf_is (n := 3 + pk.size + pv.size) (by omega))
      have HRC := Aside0.mk (recordR_any pk pv hsk hsv HDD.out)
      unfold EndsRecR at HRC
      have HRV : Aside0 (recV pk pv (dOf (3 + pk.size + pv.size)) = if fitN pk pv = 0 then recP (rdP l k) else []) := ⟨by rw [HREC.out]; rfl⟩
      generalize recV pk pv (dOf (3 + pk.size + pv.size)) = RV at HRC HRV
      obtain ⟨f, hf⟩ : ∃ f, fitN pk pv = f := ⟨_, rfl⟩
      rw [hf] at HX2 HRC HLAY HRV
      have HFS : Aside0 (f = 0 → pk.size ≤ 32 ∧ pv.size ≤ 1024) := ⟨fun h => fit_small (hf.trans h)⟩
      have hbk := World.block_lt_of_cell? _ _ hx0
      have HPK := Aside0.mk hx0
      have HFEQ := Aside0.mk hpk
      clear hpk hpv hf hsm hkey hm hrd HX
      go_wp2_with fail
      refine (HRC.out _).mono ?_
      rintro e w2 ⟨A2, c2, rfl, hc2, hF2, hb⟩
      have HB2 := Aside0.mk (below_step HB.out hb)
      have HO2 := Aside0.mk (HO.out.below hb)
      have HF2 := Aside0.mk (Kd.F_now hF2)
      have HWR : Aside0 (∀ a v, wr.cell? a = some v → w2.cell? a = some v) := ⟨fun a v h => pw_cell_below hb h⟩
      clear hb hF2 hx0 hx1 hbk
      by_cases h0 : f = 0
      · subst h0
        have hrl := HLAY.out rfl
        have HRR : Aside0 (RV = recP (rdP l k)) := ⟨by rw [HRV.out, if_pos rfl]⟩
        have HX3 : Aside0 (R = if (decide (0 < k) && !(Op.bytesLess (rdP l (k - 1)).f0.toList pk.toList)) = true then ([], (k : Int), 92) else putG l (l.length - (k + 1)) (k + 1) (acc ++ RV)) := ⟨by rw [HX2.out, if_neg (by omega), HRR.out]⟩
        obtain ⟨bad, hbad⟩ : ∃ bad, (decide (0 < k) && !(Op.bytesLess (rdP l (k - 1)).f0.toList pk.toList)) = bad := ⟨_, rfl⟩
        rw [hbad] at HX3
        rw [← HRR.out] at hrl
        have HBAD := Aside0.mk hbad
        clear hbad HX2
        go_upto_region 10 with (fail)
        go_cut [46] (fun b wx => b = .bool bad ∧ ∃ n, Aside0 (wx = w2.drewN n))
        case first =>
          cases k with
          | zero =>
            have HQ : Aside0 (bad = false) := ⟨by rw [← HBAD.out]; rfl⟩
            go_quiet (fail)
            all_goals
              go_wp2_with fail
              go_meet
              exact ⟨by rw [HQ.out], _, ⟨rfl⟩⟩
          | succ j =>
            have hy0 := HWR.out _ _ (HKEY.out j rfl)
            have hz0 := HWR.out _ _ HPK.out
            have hbl2 := World.block_lt_of_cell? _ _ hy0
            obtain ⟨q, hq⟩ : ∃ q, Op.bytesLess (rdP l j).f0.toList pk.toList = q := ⟨_, rfl⟩
            have HQQ := Aside0.mk hq
            have HQ : Aside0 (bad = !q) := ⟨by rw [← HBAD.out, ← hq]; simp⟩
            have hw1 : IntKind.i64.wrap ((j : Int) + 1 - 1) = (j : Int) := by rw [IntWalk.i64_in _ (by omega)]; omega
            have hw2 : IntKind.i64.wrap (((j + 1 : Nat) : Int) - 1) = (j : Int) := by rw [IntWalk.i64_in _ (by omega)]; omega
            have hdj : decide (0 < j + 1) = true := decide_eq_true (by omega)
            have hjl : j < l.length := by omega
            go_quiet (fail)
            all_goals
              go_wp2_with fail
              go_meet
              exact ⟨by rw [HQ.out], _, ⟨rfl⟩⟩
        case rest =>
          obtain ⟨rfl, n, HWC⟩ := hcut
          have hwc := HWC.out
          subst hwc
          have HB3 := Aside0.mk (pw_below_drewN HB2.out n)
          have HO3 : Aside0 (Own (w2.drewN n) w.heap.size (.slice Av acc.length cv) acc) := ⟨HO2.out.below (pw_below_drewN (Below.refl _ w2) n)⟩
          have HR3 := Aside0.mk (Kd.reads_of_C (d := 0) (Kd.C_drewN HF2.out n))
          have hbs := HB3.out.size
          cases bad with
          | true =>
            have HY : Aside0 (R = ([], (k : Int), 92)) := ⟨by rw [HX3.out, if_pos rfl]⟩
            go_wp2_with fail
            go_ret3
            rw [HY.out]
            exact ⟨none, 0, rfl, Own.nil _ _, HB3.out⟩
          | false =>
            have HY : Aside0 (R = putG l (l.length - (k + 1)) (k + 1) (acc ++ RV)) := ⟨by rw [HX3.out, if_neg (by simp)]⟩
            have HLEN2 := Aside0.mk hrl
            go_wp2_with (at_builtin; refine print_append_row_of (w0 := w2.drewN n) (fun x : Int => Value.int .u8 x) 0 w.heap.size rfl (.tmp 48) (.tmp 49) 24 5 (.int .u8 0) 1 rfl Tryd.underlying24 info5 rfl (by decide) (fun _ => rfl) (.slice Av acc.length cv) acc RV A2 RV.length c2 rfl rfl HO3.out HR3.out (Below.refl _ _) hbs ?hl ?_; (case hl => (have := HLN.out; have := HLEN2.out; omega)); intro v4 w4 ho hb hg hat; obtain ⟨A4, c4, rfl⟩ := own_slice ho; have HO4 : Aside0 (Own w4 w.heap.size (.slice A4 (acc ++ RV).length c4) (acc ++ RV)) := ⟨ho⟩; have HB4 := Aside0.mk (HB3.out.trans hb); clear ho hb hg hat)
            go_roundw
            case rel => exact ⟨k + 1, acc ++ RV, A4, c4, by omega, by go_num, by rw [List.length_append], HO4, ⟨by have := HLN.out; have := HLEN2.out; rw [List.length_append]; omega⟩, HY, HB4⟩
            case measure => simp [intOf]; omega
      · have HY : Aside0 (R = ([], (k : Int), f)) := ⟨by rw [HX2.out, if_pos h0]⟩
        have hne : (f == 0) = false := beq_eq_false_iff_ne.2 h0
        have hne2 : (f != 0) = true := bne_iff_ne.2 h0
        clear h0
        go_wp2_with fail
        go_ret3
        rw [HY.out]
        exact ⟨none, 0, rfl, Own.nil _ _, HB2.out⟩
    · obtain rfl : k = l.length := by omega
      have HY : Aside0 (R = (acc, 0, 0)) := ⟨by rw [HX.out, Nat.sub_self]; rfl⟩
      go_wp2_with fail
      go_ret3
      rw [HY.out]
      exact ⟨Av, cv, rfl, HO.out, HB.out⟩

theorem putG_len (l : List S23) : ∀ (m i : Nat) (acc : List Int), (putG l m i acc).1.length ≤ acc.length + m * 1100
  | 0, i, acc => by simp [putG]
  | m + 1, i, acc => by
    unfold putG
    split
    · simp
    · rename_i h0
      split
      · simp
      · have h1 := putG_len l m (i + 1) (acc ++ recP (rdP l i))
        have h2 := recP_len (p := rdP l i) (by omega)
        rw [List.length_append] at h1
        omega
theorem putF_len (l : List S23) : (putF l).1.length ≤ 70400 := by
  unfold putF
  split
  · simp
  · have := putG_len l l.length 0 []
    simp only [List.length_nil] at this
    omega

set_option maxHeartbeats 4000000 in
set_option maxRecDepth 100000 in
theorem paxPuts_any (A : Option Addr) (c : Nat) (l : List S23) (hs : SmallP l) (hl : l.length + 1 < 4398046511104) (hc : l.length ≤ c) (w : World) (hr : Kd.C k23 w A l.length l) (ht : Tab w) :
    Calls Tryd.prog 4 #[.slice A l.length c] w fun e w' => e = .returned (.bool true) ∧ Below w.heap.size w w' := by
  have HR := Aside0.mk hr
  have HT := Aside0.mk ht
  have HP1 := Aside0.mk (fun A c w h t => put_any A c l hs (by omega) w h t)
  have HP2 := Aside0.mk (fun A c w h => putR_any A c l hs (by omega) w h)
  have HLEN := Aside0.mk (putF_len l)
  unfold EndsPut at HP1 HP2
  generalize putF l = R at *
  obtain ⟨R1, R2, R3⟩ := R
  simp only at HP1 HP2 HLEN
  clear hr ht hs
  go_enter Tryd.func4, Tryd.ntmps4
  go_wp2_with fail
  refine (lent_any A c l _ hl HR.out).mono ?_
  rintro e w1 ⟨A1, c1, rfl, hc1, hC1, hb1⟩
  have HC1 := Aside0.mk hC1
  have HB1 := Aside0.mk hb1
  clear hC1 hb1
  go_wp2_with fail
  refine (HP1.out A1 c1 _ (C_prefix (m := [mark]) (by rw [List.length_append, List.length_singleton]; exact HC1.out)) (HT.out.below HB1.out)).mono ?_
  rintro e w2 ⟨A2, c2, rfl, ho2, hb2⟩
  have HB2 := Aside0.mk (below_step HB1.out hb2)
  have HC2 := Aside0.mk (Kd.C_below HC1.out hb2)
  have HO2 := Aside0.mk ho2
  clear hb2 ho2
  go_wp2_with fail
  refine (HP2.out A c _ (Kd.C_below HR.out HB2.out)).mono ?_
  rintro e w3 ⟨A3, c3, rfl, ho3, hb3⟩
  have HB3 := Aside0.mk (below_step HB2.out hb3)
  have HC3 := Aside0.mk (Kd.C_below HC2.out hb3)
  have HO2' := Aside0.mk (HO2.out.below hb3)
  have HO3 := Aside0.mk ho3
  have e1 : (R2 == R2) = true := by simp
  have e2 : (R3 == R3) = true := by simp
  clear hb3 ho3
  go_wp2_with fail
  refine (bytes_any A2 c2 R1 A3 c3 R1 w3 (by have := HLEN.out; omega) HO2'.out.C.2 HO2'.out.C.1 HO3.out.C.2 HO3.out.C.1).mono ?_
  rintro e w4 ⟨rfl, hb4⟩
  have HB4 := Aside0.mk (below_step HB3.out hb4)
  have HC4 := Aside0.mk (Kd.C_below HC3.out hb4)
  clear hb4
  go_wp2_with fail
  refine (kept_any A1 A c1 c l _ hl hc1 hc HC4.out (Kd.C_below HR.out HB4.out)).mono ?_
  rintro e w5 ⟨rfl, hb5⟩
  have HB5 := Aside0.mk (below_step HB4.out hb5)
  clear hb5
  go_wp2_with fail
  go_ret
  exact ⟨rfl, HB5.out⟩
end Go.Proofs.YtbidbjgklonbpaaDoor.Mine
