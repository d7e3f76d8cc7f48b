import Derived.Test.YtopehfjohifpnaaDoorZ13
import Derived.Test.YtopehfjohifpnaaDoorZ7
import Derived.Test.YtopehfjohifpnaaDoorZ12
section
set_option linter.unusedSimpArgs false
set_option linter.unusedVariables false
namespace Go.Proofs.YtopehfjohifpnaaDoor.Mine
open Go.RowKit Go.Maps Go.Proofs.YtopehfjohifpnaaDoorW.PrintWords Go.Proofs.YtopehfjohifpnaaDoorW.PrintLast Go.Proofs.YtopehfjohifpnaaDoorW.PrintMore Go.Proofs.YtopehfjohifpnaaDoor.Turn Go.Proofs.YtopehfjohifpnaaDoor.Doc
open Classical in
noncomputable def dOf (n : Nat) : Nat := if h : ∃ d, SizeIs n d then h.choose else 0
theorem dOf_is {n : Nat} (h : n < 100000000000000000) : SizeIs n (dOf n) := by
  unfold dOf
  rw [dif_pos (size_ex n h)]
  exact (size_ex n h).choose_spec
noncomputable def recP (p : S33) : List Int := recL p.f0 p.f1 (dOf (3 + p.f0.size + p.f1.size))
theorem recP_len {p : S33} (h : fitN p.f0 p.f1 = 0) : (recP p).length ≤ 1100 := by
  have h2 := fit_small h
  have hd := dOf_is (n := 3 + p.f0.size + p.f1.size) (by omega)
  unfold recP
  rw [recL_length hd]
  have := hd.2.1
  omega
theorem less_turn : ∀ (a b : List UInt8), (Op.bytesLess a b || a == b) = !(Op.bytesLess b a)
  | [], [] => rfl
  | [], b :: y => rfl
  | a :: x, [] => rfl
  | a :: x, b :: y => by
    have ih := less_turn x y
    unfold Op.bytesLess
    rcases Nat.lt_trichotomy a.toNat b.toNat with h | h | h
    · have h1 : decide (a < b) = true := decide_eq_true (UInt8.lt_iff_toNat_lt.2 h)
      have h2 : decide (b < a) = false := decide_eq_false (fun e => by have := UInt8.lt_iff_toNat_lt.1 e; omega)
      have h3 : (b == a) = false := beq_eq_false_iff_ne.2 (fun e => by rw [e] at h; omega)
      rw [h1, h2, h3]
      simp
    · obtain rfl : a = b := UInt8.toNat_inj.1 h
      have h2 : decide (a < a) = false := decide_eq_false (fun e => by have := UInt8.lt_iff_toNat_lt.1 e; omega)
      rw [h2, List.cons_beq_cons]
      simp only [beq_self_eq_true, Bool.false_or, Bool.true_and]
      exact ih
    · have h1 : decide (a < b) = false := decide_eq_false (fun e => by have := UInt8.lt_iff_toNat_lt.1 e; omega)
      have h2 : decide (b < a) = true := decide_eq_true (UInt8.lt_iff_toNat_lt.2 h)
      have h3 : (a == b) = false := beq_eq_false_iff_ne.2 (fun e => by rw [e] at h; omega)
      rw [h1, h2, h3, List.cons_beq_cons, h3]
      simp
def rdP (l : List S33) (i : Nat) : S33 := l.getD i z33
noncomputable def putG (l : List S33) : Nat → Nat → List Int → List Int × Int × Int
  | 0, _, acc => (acc, 0, 0)
  | m + 1, i, acc => if fitN (rdP l i).f0 (rdP l i).f1 ≠ 0 then ([], i, fitN (rdP l i).f0 (rdP l i).f1) else
    if (decide (0 < i) && !(Op.bytesLess (rdP l (i - 1)).f0.toList (rdP l i).f0.toList)) = true then ([], i, 92) else putG l m (i + 1) (acc ++ recP (rdP l i))
noncomputable def putF (l : List S33) : List Int × Int × Int := if 64 < l.length then ([], 64, 3) else putG l l.length 0 []
def EndsPut (w : World) (r : List Int × Int × Int) (e : Ending) (w' : World) : Prop := ∃ A c, e = .returned (.tuple #[.slice A r.1.length c, .int .i64 r.2.1, .int .i64 r.2.2]) ∧ Own w' w.heap.size (.slice A r.1.length c) r.1 ∧ Below w.heap.size w w'
def SmallP (l : List S33) : Prop := ∀ x ∈ l, x.f0.size ≤ 140737488351232 ∧ x.f1.size ≤ 140737488351232
theorem SmallP.at {l : List S33} (h : SmallP l) {i : Nat} (hi : i < l.length) : (rdP l i).f0.size ≤ 140737488351232 ∧ (rdP l i).f1.size ≤ 140737488351232 := by
  unfold rdP
  rw [List.getD_eq_getElem?_getD, List.getElem?_eq_getElem hi]
  exact h _ (List.getElem_mem hi)
set_option maxHeartbeats 8000000 in
set_option maxRecDepth 100000 in
theorem put_any (A : Option Addr) (c : Nat) (l : List S33) (hs : SmallP l) (hl : l.length ≤ 4398046511104) (w : World) (hr : Kd.C k33 w A l.length l) (ht : Tab w) :
    Calls Tryd.prog 38 #[.slice A l.length c] w (EndsPut w (putF l)) := by
  have HR := Aside0.mk hr
  have HS := Aside0.mk hs
  have HT := Aside0.mk ht
  have HP : Aside0 (putF l = if 64 < l.length then ([], 64, 3) else putG l l.length 0 []) := ⟨rfl⟩
  generalize putF l = R at *
  clear hr hs ht
  by_cases hbig : 64 < l.length
  · have HX : Aside0 (R = ([], 64, 3)) := ⟨by rw [HP.out, if_pos hbig]⟩
    go_enter Tryd.func38, Tryd.ntmps38
    go_wp2_with fail
    go_ret3
    rw [HX.out]
    exact ⟨none, 0, rfl, Own.nil _ _, Below.refl _ _⟩
  have HX : Aside0 (R = putG l l.length 0 []) := ⟨by rw [HP.out, if_neg hbig]⟩
  clear HP
  go_enter Tryd.func38, Tryd.ntmps38
  go_wp2_with fail
  go_loopw [5, 14] (fun v i wr => ∃ (k : Nat) (acc : List Int) (Av : Option Addr) (cv : Nat), k ≤ l.length ∧ i = .int .i64 k ∧ v = .slice Av acc.length cv ∧ Aside0 (Own wr w.heap.size (.slice Av acc.length cv) acc) ∧ Aside0 (acc.length ≤ k * 1100) ∧ Aside0 (R = putG l (l.length - k) k acc) ∧ Aside0 (Below w.heap.size w wr)) (fun _ i _ => l.length - (intOf i).toNat)
  case atStart => exact ⟨0, [], none, 0, Nat.zero_le _, rfl, rfl, ⟨Own.nil _ _⟩, ⟨Nat.zero_le _⟩, ⟨HX.out⟩, ⟨Below.refl _ _⟩⟩
  case round =>
    clear HX
    obtain ⟨k, acc, Av, cv, hk, rfl, rfl, HO, HLN, HX, HB⟩ := hrel
    by_cases hlt : k < l.length
    · obtain ⟨ad, e, hx0, hx1⟩ := at_T33 (Kd.C_below HR.out HB.out) (k : Int) (by omega) (by omega)
      cases e
      rw [Int.toNat_natCast] at hx0 hx1
      have hrd : rd_T33 l (k : Int) = rdP l k := by unfold rd_T33 rdP; rw [Int.toNat_natCast]
      rw [hrd] at hx0 hx1
      have hsm := HS.out.at hlt
      have hm : l.length - k = (l.length - (k + 1)) + 1 := by omega
      have HX2 : Aside0 (R = if fitN (rdP l k).f0 (rdP l k).f1 ≠ 0 then ([], (k : Int), fitN (rdP l k).f0 (rdP l k).f1) else if (decide (0 < k) && !(Op.bytesLess (rdP l (k - 1)).f0.toList (rdP l k).f0.toList)) = true then ([], (k : Int), 92) else putG l (l.length - (k + 1)) (k + 1) (acc ++ recP (rdP l k))) := ⟨by rw [HX.out, hm]; rfl⟩
      have hkey : ∀ j : Nat, k = j + 1 → wr.cell? (ad.add (j * 2)) = some (.string (rdP l j).f0) := fun j hj => by
        obtain ⟨ad', e', hy0, -⟩ := at_T33 (Kd.C_below HR.out HB.out) (j : Int) (by omega) (by omega)
        cases e'
        rw [Int.toNat_natCast] at hy0
        have e2 : rd_T33 l (j : Int) = rdP l j := by unfold rd_T33 rdP; rw [Int.toNat_natCast]
        rwa [e2] at hy0
      have HKEY := Aside0.mk hkey
      have HLAY : Aside0 (fitN (rdP l k).f0 (rdP l k).f1 = 0 → (recP (rdP l k)).length ≤ 1100) := ⟨recP_len⟩
      have HREC : Aside0 (recP (rdP l k) = recL (rdP l k).f0 (rdP l k).f1 (dOf (3 + (rdP l k).f0.size + (rdP l k).f1.size))) := ⟨rfl⟩
      obtain ⟨pk, hpk⟩ : ∃ x, (rdP l k).f0 = x := ⟨_, rfl⟩
      obtain ⟨pv, hpv⟩ : ∃ x, (rdP l k).f1 = x := ⟨_, rfl⟩
      rw [hpk, hpv] at HX2 hsm HLAY HREC
      rw [hpk] at hx0
      rw [hpv] at hx1
      have hsk := hsm.1
      have hsv := hsm.2
      have HDD := Aside0.mk (dOf_is (n := 3 + pk.size + pv.size) (by omega))
      have HFT := Aside0.mk (fits_any pk pv)
      obtain ⟨f, hf⟩ : ∃ f, fitN pk pv = f := ⟨_, rfl⟩
      rw [hf] at HX2 HFT HLAY
      have HFS : Aside0 (f = 0 → pk.size ≤ 32 ∧ pv.size ≤ 1024) := ⟨fun h => fit_small (hf.trans h)⟩
      have hbk := World.block_lt_of_cell? _ _ hx0
      have HBKL := Aside0.mk hbk
      have HX0 := Aside0.mk (Blk.new wr #[.string pk, .string pv] 33)
      have HB1 := Aside0.mk (below_alloc HB.out (.cells #[.string pk, .string pv] 33))
      have HO1 := Aside0.mk (HO.out.below (below_alloc (Below.refl _ wr) (.cells #[.string pk, .string pv] 33)))
      have hsz : (wr.alloc (.cells #[.string pk, .string pv] 33)).heap.size = wr.heap.size + 1 := by simp
      have HSZ := Aside0.mk hsz
      have HC0 := Aside0.mk hx0
      clear hpk hpv hf hsm hkey hm hrd hsz HX
      go_wp2_with fail
      refine (HFT.out _).mono ?_
      rintro e w2 ⟨rfl, hb⟩
      have HB2 := Aside0.mk (below_step HB1.out hb)
      have HO2 := Aside0.mk (HO1.out.below hb)
      have hx2 : Blk w2 wr.heap.size #[.string pk, .string pv] 33 := (hb.block _ HX0.out.lt).trans HX0.out
      have hl2 := hx2.lt
      have HX22 := Aside0.mk hx2
      have HWR : Aside0 (∀ a v, wr.cell? a = some v → w2.cell? a = some v) := ⟨fun a v h => by
        have hlt := World.block_lt_of_cell? _ _ h
        exact (World.cell?_of_block ((hb.block _ (by rw [HSZ.out]; omega)).trans ((below_alloc (Below.refl _ wr) _).block _ hlt))).trans h⟩
      have hx20 : World.cell? w2 ⟨wr.heap.size, 0, none⟩ = some (.string pk) := Blk.cell hx2 0
      have hx21 : World.cell? w2 ⟨wr.heap.size, 1, none⟩ = some (.string pv) := Blk.cell hx2 1
      clear hb hx2 hx0 hx1 hbk HX0 HFT
      by_cases h0 : f = 0
      · subst h0
        have hs := HFS.out rfl
        have hpk32 := hs.1
        have hpv32 := hs.2
        have hrl := HLAY.out rfl
        have HX3 : Aside0 (R = if (decide (0 < k) && !(Op.bytesLess (rdP l (k - 1)).f0.toList pk.toList)) = true then ([], (k : Int), 92) else putG l (l.length - (k + 1)) (k + 1) (acc ++ recP (rdP l k))) := ⟨by rw [HX2.out, if_neg (by omega)]⟩
        obtain ⟨bad, hbad⟩ : ∃ bad, (decide (0 < k) && !(Op.bytesLess (rdP l (k - 1)).f0.toList pk.toList)) = bad := ⟨_, rfl⟩
        rw [hbad] at HX3
        have HBAD := Aside0.mk hbad
        clear hs hbad HX2
        go_upto_region 10 with (fail)
        go_cut [37] (fun b wx => b = .bool bad ∧ ∃ n, Aside0 (wx = w2.drewN n))
        case first =>
          cases k with
          | zero =>
            have HQ : Aside0 (bad = false) := ⟨by rw [← HBAD.out]; rfl⟩
            go_quiet (fail)
            all_goals
              go_wp2_with fail
              go_meet
              exact ⟨by rw [HQ.out], _, ⟨rfl⟩⟩
          | succ j =>
            have hy0 := HWR.out _ _ (HKEY.out j rfl)
            have hbl2 := World.block_lt_of_cell? _ _ hy0
            obtain ⟨q, hq⟩ : ∃ q, Op.bytesLess (rdP l j).f0.toList pk.toList = q := ⟨_, rfl⟩
            have HQQ := Aside0.mk hq
            have HQ : Aside0 (bad = !q) := ⟨by rw [← HBAD.out, ← hq]; simp⟩
            have hw1 : IntKind.i64.wrap ((j : Int) + 1 - 1) = (j : Int) := by rw [IntWalk.i64_in _ (by omega)]; omega
            have hw2 : IntKind.i64.wrap (((j + 1 : Nat) : Int) - 1) = (j : Int) := by rw [IntWalk.i64_in _ (by omega)]; omega
            have hdj : decide (0 < j + 1) = true := decide_eq_true (by omega)
            have hjl : j < l.length := by omega
            go_quiet (fail)
            all_goals
              go_wp2_with fail
              go_meet
              exact ⟨by rw [HQ.out, ← HQQ.out, less_turn], _, ⟨rfl⟩⟩
        case rest =>
          obtain ⟨rfl, n, HWC⟩ := hcut
          have hwc := HWC.out
          subst hwc
          have HB3 := Aside0.mk (pw_below_drewN HB2.out n)
          have HO3 : Aside0 (Own (w2.drewN n) w.heap.size (.slice Av acc.length cv) acc) := ⟨HO2.out.below (pw_below_drewN (Below.refl _ w2) n)⟩
          cases bad with
          | true =>
            have HY : Aside0 (R = ([], (k : Int), 92)) := ⟨by rw [HX3.out, if_pos rfl]⟩
            go_wp2_with fail
            go_ret3
            rw [HY.out]
            exact ⟨none, 0, rfl, Own.nil _ _, HB3.out⟩
          | false =>
            have HY : Aside0 (R = putG l (l.length - (k + 1)) (k + 1) (acc ++ recP (rdP l k))) := ⟨by rw [HX3.out, if_neg (by simp)]⟩
            have HLEN2 := Aside0.mk hrl
            go_wp2_with fail
            refine (lay_any pk pv hsk hsv (by have := HLN.out; omega) HDD.out (w2.drewN n) (HT.out.b.on HB3.out) HB3.out.size HO3.out).mono ?_
            rintro e w4 ⟨v4, rfl, ho, hb⟩
            rw [← HREC.out] at ho
            obtain ⟨A4, c4, rfl⟩ := own_slice ho
            have HO4 := Aside0.mk ho
            have HB4 := Aside0.mk (HB3.out.trans hb)
            clear ho hb
            go_wp2_with fail
            go_roundw
            case rel => exact ⟨k + 1, acc ++ recP (rdP l k), A4, c4, by omega, by go_num, by rw [List.length_append], HO4, ⟨by have := HLN.out; have := HLEN2.out; rw [List.length_append]; omega⟩, HY, HB4⟩
            case measure => simp [intOf]; omega
      · have HY : Aside0 (R = ([], (k : Int), f)) := ⟨by rw [HX2.out, if_pos h0]⟩
        have hne : (f == 0) = false := beq_eq_false_iff_ne.2 h0
        have hne2 : (f != 0) = true := bne_iff_ne.2 h0
        clear h0
        go_wp2_with fail
        go_ret3
        rw [HY.out]
        exact ⟨none, 0, rfl, Own.nil _ _, HB2.out⟩
    · obtain rfl : k = l.length := by omega
      have HY : Aside0 (R = (acc, 0, 0)) := ⟨by rw [HX.out, Nat.sub_self]; rfl⟩
      go_wp2_with fail
      go_ret3
      rw [HY.out]
      exact ⟨Av, cv, rfl, HO.out, HB.out⟩
theorem putG_len (l : List S33) : ∀ (m i : Nat) (acc : List Int), (putG l m i acc).1.length ≤ acc.length + m * 1100
  | 0, i, acc => by simp [putG]
  | m + 1, i, acc => by
    unfold putG
    split
    · simp
    · rename_i h0
      split
      · simp
      · have h1 := putG_len l m (i + 1) (acc ++ recP (rdP l i))
        have h2 := recP_len (p := rdP l i) (by omega)
        rw [List.length_append] at h1
        omega
theorem putF_len (l : List S33) : (putF l).1.length ≤ 70400 := by
  unfold putF
  split
  · simp
  · have := putG_len l l.length 0 []
    simp only [List.length_nil] at this
    omega
end Go.Proofs.YtopehfjohifpnaaDoor.Mine
end
section
set_option linter.unusedSimpArgs false
set_option linter.unusedVariables false
namespace Go.Proofs.YtopehfjohifpnaaDoor.Mine
open Go.RowKit Go.Shelf Go.Proofs.YtopehfjohifpnaaDoorW.PrintWords Go.Proofs.YtopehfjohifpnaaDoorW.PrintLast Go.Proofs.YtopehfjohifpnaaDoorW.PrintMore Go.Proofs.YtopehfjohifpnaaDoor.Turn Go.Proofs.YtopehfjohifpnaaDoor.Doc
def typF (k : Int) : Int := if k = 3 then 49 else if k = 4 then 50 else if k = 2 then 53 else 48
abbrev MoreB : ByteArray := ⟨#[109, 111, 114, 101]⟩
abbrev NoB : ByteArray := ⟨#[]⟩
def lkF (q : ByteArray) : ByteArray := if 100 < q.size then NoB else q
noncomputable def moreL (L : List S33) : List Int := if L = [] then [] else fillL (putH MoreB NoB 0 (putF L).1.length 0 120 NoB).1 ++ fillL (putF L).1
def ownH (x : S25) : List Int × Int := putH (splitF x.f0).2.1 (splitF x.f0).1 x.f2 x.f4.length x.f3 (typF x.f1) (lkF x.f5)
noncomputable def piecesF (x : S25) : List Int := moreL (pairsF x.f0 x.f1 x.f2 x.f3 x.f4.length x.f5).1 ++ (fillL (ownH x).1 ++ fillL x.f4)
theorem key0 {a b : Int} {P : Prop} [Decidable P] (ha : a ≠ 0) (h : (if P then a else b) = 0) : ¬ P ∧ b = 0 := by
  by_cases hp : P
  · rw [if_pos hp] at h; exact absurd h ha
  · rw [if_neg hp] at h; exact ⟨hp, h⟩
theorem may_t {x : S25} (h : mayX x = 0) : (checkF x.f0).2 = 0 ∧ (1 ≤ x.f1 ∧ x.f1 ≤ 4) ∧ mayT x.f0 x.f1 x.f4.length x.f5 = 0 := by
  unfold mayX mayF at h
  by_cases h1 : (checkF x.f0).2 = 0
  · rw [if_neg (c := (checkF x.f0).2 ≠ 0) (fun e => e h1)] at h
    obtain ⟨h2, h3⟩ := key0 (by decide) h
    exact ⟨h1, by omega, h3⟩
  · rw [if_pos h1] at h; exact absurd h h1
theorem may_body {x : S25} (h : mayX x = 0) : x.f4.length ≤ 65536 := by
  obtain ⟨_, h2, h3⟩ := may_t h
  unfold mayT at h3
  obtain ⟨c1, h3⟩ := key0 (by decide) h3
  obtain ⟨c2, h3⟩ := key0 (by decide) h3
  by_cases k1 : x.f1 = 1
  · rw [if_neg (by omega), if_neg (by omega)] at h3
    have := (key0 (by decide) h3).1
    omega
  · omega
theorem may_q {x : S25} (h : mayX x = 0) : x.f5.size ≤ 400 := by
  obtain ⟨h1, h2, h3⟩ := may_t h
  unfold mayT at h3
  obtain ⟨c1, h3⟩ := key0 (by decide) h3
  obtain ⟨c2, h3⟩ := key0 (by decide) h3
  by_cases k3 : x.f1 = 3
  · exact may_to h k3
  · rw [if_neg k3] at h3
    by_cases k4 : x.f1 = 4
    · rw [if_pos k4] at h3
      unfold leadE at h3
      rw [if_neg (c := (checkF x.f0).2 ≠ 0) (fun e => e h1)] at h3
      have := (key0 (by decide) (key0 (by decide) h3).2).1
      omega
    · omega
theorem pairs_small {x : S25} (h : mayX x = 0) : SmallP (pairsF x.f0 x.f1 x.f2 x.f3 x.f4.length x.f5).1 := by
  have hp := may_path h
  have hq := may_q h
  unfold pairsF pairsL
  split
  · intro y hy; cases hy
  · intro y hy
    rcases List.mem_append.1 hy with h1 | h1
    · split at h1
      · rw [List.mem_singleton.1 h1]; exact ⟨by show KLink.size ≤ _; decide, by show x.f5.size ≤ _; omega⟩
      · cases h1
    · split at h1
      · rw [List.mem_singleton.1 h1]; exact ⟨by show KPath.size ≤ _; decide, by show x.f0.size ≤ _; omega⟩
      · cases h1
def Types (w : World) : Prop := ∀ k : Nat, 1 ≤ k → k ≤ 4 → w.cell? ⟨0, k, none⟩ = some (.int .u8 (typF k))
structure Vars (w : World) (i0 : Int) : Prop where
  len : w.cell? ⟨1, 0, none⟩ = some (.int .i64 i0)
  typ : Types w
  tab : Tab w
  big : 0 < w.heap.size ∧ 1 < w.heap.size
theorem Vars.below {w w' : World} {i0 : Int} (h : Vars w i0) (hb : Below w.heap.size w w') : Vars w' i0 :=
  ⟨pw_cell_below hb h.len, fun k h1 h2 => pw_cell_below hb (h.typ k h1 h2), h.tab.below hb, ⟨Nat.lt_of_lt_of_le h.big.1 hb.size, Nat.lt_of_lt_of_le h.big.2 hb.size⟩⟩
structure Zt (W0 W X : World) (T : Nat) (v0 v : Value) (l : List Int) : Prop where
  tape : Tape X T W0.heap.size v l
  bel : Below W0.heap.size W0 X
  turn : Turned (InT T v0) W X
  own : v.ownBlock = v0.ownBlock ∨ ∃ g, v.ownBlock = some g ∧ W.heap.size ≤ g
theorem Tape.own_rg {X : World} {T base : Nat} {v : Value} {l : List Int} (h : Tape X T base v l) : ∀ k, v.ownBlock = some k → base ≤ k ∧ k < X.heap.size := fun k hk =>
  ⟨Kd.R_base h.2 k hk, ((Kd.R_bound h.2).1 k hk).2.2.1⟩
theorem Zt.step {W0 W X X' : World} {T : Nat} {v0 v : Value} {l : List Int} (h : Zt W0 W X T v0 v l) (hb : Below X.heap.size X X') : Zt W0 W X' T v0 v l :=
  ⟨h.tape.below hb, below_step h.bel hb, h.turn.below hb, h.own⟩
theorem Zt.put {W0 W X X' : World} {T : Nat} {v0 v v' : Value} {l l' : List Int} (h : Zt W0 W X T v0 v l) (hTb : W0.heap.size ≤ T) (ht : Tape X' T W0.heap.size v' l') (htu : Turned (InT T v) X X') (ho : v'.ownBlock = v.ownBlock ∨ ∃ g, v'.ownBlock = some g ∧ X.heap.size ≤ g) : Zt W0 W X' T v0 v' l' := by
  have hr := h.tape.own_rg
  have hs := h.turn.size
  refine ⟨ht, h.bel.trans (htu.toBelow h.bel.size (fun k hk => ?_)), h.turn.then_ htu (fun k hk => ?_), ?_⟩
  · rcases hk with rfl | hk
    · exact hTb
    · exact (hr k hk).1
  · rcases hk with hk | hk
    · exact .inl (.inl hk)
    · rcases h.own with h1 | ⟨g, h1, h2⟩
      · exact .inl (.inr (h1.symm.trans hk))
      · have e := h1.symm.trans hk
        injection e with e
        exact .inr (by omega)
  · rcases ho with h1 | ⟨g, h1, h2⟩
    · rw [h1]; exact h.own
    · exact .inr ⟨g, h1, by omega⟩
theorem blk_put {X X' : World} {T base : Nat} {v : Value} {l : List Int} {b t : Nat} {cs : Array Value} (hT : Tape X T base v l) (hx : Blk X b cs t) (ht : t ≠ 5) (hb : b ≠ T) (htu : Turned (InT T v) X X') : Blk X' b cs t :=
  htu.blk hx (fun hk => hk.elim hb (fun e => Kd.R_ne hT.2 hx (by simpa using ht.symm) e.symm))
theorem putH_len (nm pf : ByteArray) (md sz tm ty : Int) (lk : ByteArray) : (putH nm pf md sz tm ty lk).1.length ≤ 512 := by
  unfold putH
  split
  · rename_i h
    have hl := imgL_length (layP_len (good_of h))
    have hb := (layP_bytes (good_of h)).img
    have h7 := octF_length (n := sumH (imgL (layP nm pf md sz tm ty lk))) (w := 7) (by omega) (octF_ok7 (sumH_rg hb hl).1 (sumH_rg hb hl).2)
    unfold layF sealL
    have h1 : (setL (imgL (layP nm pf md sz tm ty lk)) 148 (octF (sumH (imgL (layP nm pf md sz tm ty lk))) 7).1).length = 512 := by rw [setL_length (by omega)]; exact hl
    simp only
    rw [setL_length (by rw [h1]; simp), h1]
    exact Nat.le_refl _
  · simp
theorem EndsH.slice {W W' : World} {nm pf lk : ByteArray} {md sz tm ty : Int} {e : Ending} (h : EndsH W nm pf md sz tm ty lk e W') :
    Below W.heap.size W W' ∧ ∃ A c, e = .returned (.tuple #[.slice A (putH nm pf md sz tm ty lk).1.length c, .int .i64 (putH nm pf md sz tm ty lk).2]) ∧ (putH nm pf md sz tm ty lk).1.length ≤ c ∧ (putH nm pf md sz tm ty lk).1.length ≤ 512 ∧ Kd.F (Kd.int .u8) W' (fun k => W.heap.size ≤ k) A (putH nm pf md sz tm ty lk).1.length (putH nm pf md sz tm ty lk).1 := by
  obtain ⟨hb, h | h⟩ := h
  · obtain ⟨h0, g, hg, hI, rfl⟩ := h
    have e1 : putH nm pf md sz tm ty lk = (layF nm pf md sz tm ty lk, 0) := by unfold putH; rw [if_pos h0]
    rw [e1]
    have hl : (layF nm pf md sz tm ty lk).length = 512 := hI.2
    refine ⟨hb, some ⟨g, 0, none⟩, 512, by rw [hl], by rw [hl]; exact Nat.le_refl _, by rw [hl]; exact Nat.le_refl _, fun X hX => ?_⟩
    have hI2 : Img X g (layF nm pf md sz tm ty lk) := ⟨(hX g hg hI.lt).trans hI.1, hl⟩
    have := hI2.reads
    simp only
    rw [hl]
    exact this
  · obtain ⟨h0, rfl⟩ := h
    have e1 : putH nm pf md sz tm ty lk = ([], mayH nm pf md sz tm ty lk) := by unfold putH; rw [if_neg h0]
    rw [e1]
    exact ⟨hb, none, 0, rfl, Nat.le_refl _, by simp, fun X hX => ⟨rfl, by simp, fun h => absurd h (by simp)⟩⟩
theorem own_F {W : World} {B : Nat} {A : Option Addr} {n c : Nat} {xs : List Int} (hn : n = xs.length) (h : Own W B (.slice A n c) xs) : n ≤ c ∧ Kd.F (Kd.int .u8) W (fun k => B ≤ k) A n xs := by
  subst hn
  have hR : Kd.R (Kd.int .u8) 5 W B (fun k => B ≤ k) (.slice A xs.length c) xs := Kd.R_of_own (h1 := fun _ => rfl) h (fun k hk => own_base h k hk)
  refine ⟨?_, fun X hX => ?_⟩
  · obtain ⟨A', c', e, hc, _⟩ := Kd.R_reads hR
    cases e
    exact hc
  · obtain ⟨A', c', e, hc, hC⟩ := Kd.R_reads (Kd.R_step (w1 := X) hR hX)
    cases e
    exact hC
end Go.Proofs.YtopehfjohifpnaaDoor.Mine
end
section
set_option linter.unusedSimpArgs false
set_option linter.unusedVariables false
namespace Go.Proofs.YtopehfjohifpnaaDoor.Mine
open Go.RowKit Go.Shelf Go.Proofs.YtopehfjohifpnaaDoorW.PrintWords Go.Proofs.YtopehfjohifpnaaDoorW.PrintLast Go.Proofs.YtopehfjohifpnaaDoorW.PrintMore Go.Proofs.YtopehfjohifpnaaDoor.Turn Go.Proofs.YtopehfjohifpnaaDoor.Doc
noncomputable def volG (l : List S25) : Nat → Nat → List Int → List Int × Int × Int
  | 0, _, acc => (acc ++ zs 1024, 0, 0)
  | m + 1, i, acc => if 131072 < (acc ++ piecesF (itm l i)).length + 1024 then ([], i, 2) else volG l m (i + 1) (acc ++ piecesF (itm l i))
noncomputable def writeF (l : List S25) : List Int × Int × Int := if (checkT l).2 ≠ 0 then ([], (checkT l).1, (checkT l).2) else volG l l.length 0 []
theorem checkG_ok (l : List S25) : ∀ (m i : Nat), (checkG l m i).2 = 0 → ∀ j, i ≤ j → j < i + m → mayX (itm l j) = 0
  | 0, i, h, j, h1, h2 => by omega
  | m + 1, i, h, j, h1, h2 => by
    have h' : (if mayX (itm l i) ≠ 0 then ((i : Int), mayX (itm l i)) else
      if 0 < i ∧ cmpF (itm l (i - 1)).f0 (itm l i).f0 ≠ -1 then ((i : Int), 111) else
      if (upF (itm l i).f0).size ≠ 0 ∧ hasF (l.take i) (upF (itm l i).f0) 2 = false then ((i : Int), 112) else
      if (itm l i).f1 = 3 ∧ hasF (l.take i) (itm l i).f5 1 = false then ((i : Int), 113) else checkG l m (i + 1)).2 = 0 := h
    by_cases c0 : mayX (itm l i) = 0
    · rw [if_neg (c := mayX (itm l i) ≠ 0) (fun e => e c0)] at h'
      by_cases c1 : 0 < i ∧ cmpF (itm l (i - 1)).f0 (itm l i).f0 ≠ -1
      · rw [if_pos c1] at h'; exact absurd h' (by show ¬ (111 : Int) = 0; decide)
      rw [if_neg c1] at h'
      by_cases c2 : (upF (itm l i).f0).size ≠ 0 ∧ hasF (l.take i) (upF (itm l i).f0) 2 = false
      · rw [if_pos c2] at h'; exact absurd h' (by show ¬ (112 : Int) = 0; decide)
      rw [if_neg c2] at h'
      by_cases c3 : (itm l i).f1 = 3 ∧ hasF (l.take i) (itm l i).f5 1 = false
      · rw [if_pos c3] at h'; exact absurd h' (by show ¬ (113 : Int) = 0; decide)
      rw [if_neg c3] at h'
      rcases Nat.eq_or_lt_of_le h1 with rfl | h3
      · exact c0
      · exact checkG_ok l m (i + 1) h' j (by omega) (by omega)
    · rw [if_pos c0] at h'; exact absurd h' c0
theorem checkT_ok {l : List S25} (h : (checkT l).2 = 0) : l.length ≤ 256 ∧ ∀ i, i < l.length → mayX (itm l i) = 0 := by
  unfold checkT at h
  by_cases hb : 256 < l.length
  · rw [if_pos hb] at h; exact absurd h (by decide)
  · rw [if_neg hb] at h
    exact ⟨by omega, fun i hi => checkG_ok l l.length 0 h i (Nat.zero_le _) (by omega)⟩
set_option maxRecDepth 100000 in
set_option maxHeartbeats 4000000 in
theorem grow_any (n : Nat) (hn : n ≤ 1000000) (W : World) : Calls Tryd.prog 41 #[.slice none 0 0, .int .i64 n] W fun e W' => ∃ A c, e = .returned (.slice A 0 c) ∧ RB W' W.heap.size (.slice A 0 c) [] ∧ Below W.heap.size W W' := by
  rcases Nat.eq_zero_or_pos n with h0 | h0
  · subst h0
    go_enter Tryd.func41, Tryd.ntmps41
    go_wp2_with fail
    go_ret
    exact ⟨none, 0, rfl, Kd.R_nil _ _ _ _ _, Below.refl _ _⟩
  · go_enter Tryd.func41, Tryd.ntmps41
    go_wp2_with (at_builtin; refine Kd.R_append_zeros (Kd.int .u8) (w0 := W) W.heap.size rfl (.tmp 20) (.tmp 21) 23 3 5 (.int .u8 0) 1 rfl Tryd.underlying23 Tryd.underlying3 info5 rfl (by decide) (by omega) (.slice none 0 0) ([] : List Int) 0 (n : Int) (fun _ => True) rfl rfl rfl (fun _ _ => trivial) (Kd.R_nil _ _ _ _ _) (by omega) (Below.refl _ _) (Nat.le_refl _) (by simp; omega) ?_; intro v1 w1 ho hb hg hat; obtain ⟨L1, hL1⟩ : ∃ L1, [] ++ List.replicate (n : Int).toNat (0 : Int) = L1 := ⟨_, rfl⟩; rw [hL1] at ho; have HL := Aside0.mk hL1; obtain ⟨A1, c1, rfl⟩ := Kd.R_slice ho; have HO := Aside0.mk ho; have HB := Aside0.mk hb; have hc1 := (Kd.R_reads ho); clear ho hb hg hat hL1)
    go_ret
    refine ⟨A1, c1, rfl, ?_, HB.out⟩
    have ho := Kd.own_of_R HO.out
    rcases ho.2 with ⟨hv, _⟩ | ⟨g, cap, cur, hv, _⟩
    · injection hv with e1 e2 e3
      subst e1 e3
      exact Kd.R_nil _ _ _ _ _
    · injection hv with e1 e2 e3
      subst e1 e3
      have h2 := ownsRow_cut (k := 0) ho (Nat.zero_le _)
      exact Kd.R_of_own (xs := []) (h1 := fun _ => rfl) h2 (fun _ _ => trivial)
theorem row_at {W : World} {A : Option Addr} {ls : List (List Int)} (h : Kd.C (Kd.slice 5 (Kd.int .u8)) W A ls.length ls) {i : Nat} (hi : i < ls.length) : ∃ ad A' c', A = some ad ∧ W.cell? (ad.add i) = some (.slice A' ls[i].length c') ∧ ls[i].length ≤ c' ∧ Kd.C (Kd.int .u8) W A' ls[i].length ls[i] := by
  obtain ⟨ad, c, e, _, hK, hc0⟩ := Kd.C_get h [] (i : Int) (by omega) (by omega)
  rw [Int.toNat_natCast] at hK hc0
  have hg : ls.getD i [] = ls[i] := by rw [List.getD_eq_getElem?_getD, List.getElem?_eq_getElem hi]; rfl
  rw [hg] at hK
  obtain ⟨A', c', rfl, hl, hC⟩ := hK
  have := hc0 0 _ rfl
  refine ⟨ad, A', c', e, ?_, hl, hC⟩
  simpa [Kd.slice] using this
def sumLen (ls : List (List Int)) : Nat := (ls.map List.length).sum
theorem sumLen_snoc (ls : List (List Int)) (x : List Int) : sumLen (ls ++ [x]) = sumLen ls + x.length := by simp [sumLen]
theorem flat_len : ∀ ls : List (List Int), ls.flatten.length = sumLen ls
  | [] => rfl
  | x :: ls => by rw [List.flatten_cons, List.length_append, flat_len ls]; simp [sumLen]
theorem sumLen_take (ls : List (List Int)) : ∀ i, sumLen (ls.take i) ≤ sumLen ls := fun i => by
  rw [← flat_len, ← flat_len]
  conv => rhs; rw [← List.take_append_drop i ls]
  rw [List.flatten_append, List.length_append]
  omega
set_option maxRecDepth 100000 in
set_option maxHeartbeats 4000000 in
theorem concat_any (A : Option Addr) (c : Nat) (ls : List (List Int)) (hn : ls.length ≤ 1000) (ht : sumLen ls ≤ 1000000) (W : World) (hr : Kd.C (Kd.slice 5 (Kd.int .u8)) W A ls.length ls) :
    Calls Tryd.prog 28 #[.slice A ls.length c] W fun e W' => ∃ A' c', e = .returned (.slice A' ls.flatten.length c') ∧ RB W' W.heap.size (.slice A' ls.flatten.length c') ls.flatten ∧ Below W.heap.size W W' := by
  have HR := Aside0.mk hr
  have HTK := Aside0.mk (sumLen_take ls)
  have HT := Aside0.mk ht
  clear hr ht
  go_enter Tryd.func28, Tryd.ntmps28
  go_wp2_with fail
  go_loopw [3, 11] (fun s v wr => ∃ i : Nat, i ≤ ls.length ∧ v = .int .i64 i ∧ s = .int .i64 (sumLen (ls.take i)) ∧ Aside0 (Below W.heap.size W wr)) (fun _ v _ => ls.length - (intOf v).toNat)
  case atStart => exact ⟨0, Nat.zero_le _, rfl, rfl, ⟨Below.refl _ _⟩⟩
  case round =>
    obtain ⟨i, hi, rfl, rfl, HB⟩ := hrel
    by_cases hlt : i < ls.length
    · obtain ⟨ad, A', c', e, h0, hl, -⟩ := row_at (Kd.C_below HR.out HB.out) hlt
      subst e
      have htk : sumLen (ls.take (i + 1)) = sumLen (ls.take i) + ls[i].length := by rw [List.take_succ_eq_append_getElem hlt, sumLen_snoc]
      have hb1 := HTK.out (i + 1)
      have hb2 := HT.out
      have hbl := World.block_lt_of_cell? _ _ h0
      generalize ls[i].length = n at *
      generalize hs : sumLen (ls.take i) = s at *
      go_wp2_with fail
      go_roundw
      case rel => exact ⟨i + 1, by omega, by go_num, by rw [htk]; go_num, HB⟩
      case measure => simp [intOf]; omega
    · obtain rfl : i = ls.length := by omega
      rw [List.take_length]
      have htt := HT.out
      have HG := Aside0.mk (fun X => grow_any (sumLen ls) htt X)
      go_wp2_with fail
      refine (HG.out _).mono ?_
      rintro e w2 ⟨A2, c2, rfl, ho, hb⟩
      have HB2 := Aside0.mk (below_step HB.out hb)
      have HO2 := Aside0.mk (Kd.R_lower ho HB.out.size)
      clear ho hb HG
      go_wp2_with fail
      go_loopw [6, 27] (fun s v wx => ∃ (j : Nat) (Av : Option Addr) (cv : Nat) (acc : List Int), j ≤ ls.length ∧ v = .int .i64 j ∧ s = .slice Av acc.length cv ∧ Aside0 (acc = (ls.take j).flatten) ∧ Aside0 (RB wx W.heap.size (.slice Av acc.length cv) acc) ∧ Aside0 (Below W.heap.size W wx)) (fun _ v _ => ls.length - (intOf v).toNat)
      case atStart => exact ⟨0, A2, c2, [], Nat.zero_le _, rfl, rfl, ⟨by simp⟩, HO2, HB2⟩
      case round =>
        clear HO2 HB2 HB
        rename World => wx
        obtain ⟨j, Av, cv, acc, hj, rfl, rfl, HAC, HO, HB⟩ := hrel
        by_cases hlt : j < ls.length
        · obtain ⟨ad, A', c', e, h0, hl, hC⟩ := row_at (Kd.C_below HR.out HB.out) hlt
          subst e
          have hbl := World.block_lt_of_cell? _ _ h0
          have HAC2 : Aside0 (acc ++ ls[j] = (ls.take (j + 1)).flatten) := ⟨by rw [HAC.out, List.take_succ_eq_append_getElem hlt, List.flatten_append]; simp⟩
          have hla : acc.length ≤ 1000000 := by rw [HAC.out, flat_len]; have := HTK.out j; have := HT.out; omega
          have hla2 : ls[j].length ≤ 1000000 := by
            have h1 := HTK.out (j + 1)
            rw [List.take_succ_eq_append_getElem hlt, sumLen_snoc] at h1
            have := HT.out
            omega
          generalize ls[j] = x at *
          have HC := Aside0.mk hC
          have HBS := Aside0.mk HB.out.size
          clear hC HAC
          go_wp2_with (at_builtin; refine Kd.R_append_rows (Kd.int .u8) (w0 := W) W.heap.size rfl (.tmp 31) (.tmp 32) 23 5 (.int .u8 0) 1 rfl Tryd.underlying23 info5 rfl (by decide) (by omega) (.slice Av acc.length cv) acc x A' x.length c' (fun _ => True) (fun _ => False) rfl rfl HO.out HC.out (fun _ _ h => h) (fun _ h => h.elim) (fun _ _ => trivial) HB.out HBS.out (by omega) ?_; intro v4 w4 ho hb hg hat; obtain ⟨A4, c4, rfl⟩ := Kd.R_slice ho; have HO4 := Aside0.mk ho; have HB4 := Aside0.mk hb; clear ho hb hg hat)
          go_roundw
          case rel => exact ⟨j + 1, A4, c4, acc ++ x, by omega, by go_num, by rw [List.length_append], HAC2, HO4, HB4⟩
          case measure => simp [intOf]; omega
        · obtain rfl : j = ls.length := by omega
          have hac : acc = ls.flatten := by rw [HAC.out, List.take_length]
          subst hac
          go_wp2_with fail
          go_ret
          exact ⟨Av, cv, rfl, HO.out, HB.out⟩
theorem info5c : (Tryd.prog.info? 5).map (fun i => (i.zero, i.size, i.bytes)) = some (some (.int .u8 0), 1, 1) := info5
theorem made_zs (n : Nat) : (madeCells (Value.int .u8 0).cells (n * 1)).toList = nums .u8 (zs n) := by
  apply List.ext_getElem
  · rw [Array.length_toList, size_madeCells, nums_length, zs_length, Nat.mul_one]
  · intro i h1 h2
    simp only [madeCells, nums, zs, Array.getElem_toList, Array.getElem_map, List.getElem_map, List.getElem_replicate]
    have h : ∀ k : Nat, (Value.int IntKind.u8 0).cells[k % (Value.int IntKind.u8 0).cells.size]! = Value.int IntKind.u8 0 := fun k => by
      have h1 : k % 1 = 0 := Nat.mod_one k
      show (#[Value.int IntKind.u8 0] : Array Value)[k % 1]! = _
      rw [h1]
      rfl
    exact h _
theorem make_n (n : Nat) (hn : n ≤ 100000) (W : World) : ∃ W', (Instr.makeSlice 23 (.int .i64 (n : Int)) (.int .i64 (n : Int))).run Tryd.prog W = .ok (.slice (some ⟨W.heap.size, 0, none⟩) n n) W' ∧ W'.heap.size = W.heap.size + 1 ∧ Below W.heap.size W W' ∧ Kd.C (Kd.int .u8) W' (some ⟨W.heap.size, 0, none⟩) n (zs n) := by
  obtain ⟨i0, hi, hzz⟩ := Option.map_eq_some_iff.1 info5c
  simp only [Prod.mk.injEq] at hzz
  obtain ⟨hz0, hz1, hz2⟩ := hzz
  have hr := run_makeSlice (P := Tryd.prog) W 23 5 i0 (.int .u8 0) Tryd.underlying23 hi hz0 .i64 .i64 (n : Int) (n : Int) (by omega) (by omega) (by rw [hz1]; omega) (by rw [hz2]; omega) (by omega)
  rw [Int.toNat_natCast] at hr
  obtain ⟨w2, hr2, ho, _⟩ := run_makeSlice_full (P := Tryd.prog) W W.heap.size 23 5 i0 (.int .u8 0) 1 Tryd.underlying23 hi hz0 hz1 .i64 .i64 n (by omega) (by rw [hz2]; omega) (by unfold maxLen; omega) (Nat.le_refl _)
  have e := hr.symm.trans hr2
  injection e with e1 e2
  refine ⟨_, hr, by simp, below_alloc (Below.refl _ _) _, ?_⟩
  rw [e2]
  rw [made_zs] at ho
  have hl : n = (zs n).length := (zs_length n).symm
  generalize zs n = z at *
  subst hl
  obtain ⟨A', c', e3, hc, hC⟩ := Kd.R_reads (Kd.R_of_own (h1 := fun _ => rfl) (ok := fun _ => True) (xs := z) (enc := fun x : Int => Value.int .u8 x) ho (fun _ _ => trivial))
  injection e3 with e4 e5 e6
  rw [e4]
  exact hC
theorem C_two {W : World} {A1 A2 : Option Addr} {x y : List Int} {c1 c2 : Nat} (t : TypeId) (h1 : Kd.C (Kd.int .u8) W A1 x.length x) (l1 : x.length ≤ c1) (h2 : Kd.C (Kd.int .u8) W A2 y.length y) (l2 : y.length ≤ c2) :
    Kd.C (Kd.slice 5 (Kd.int .u8)) (W.alloc (.cells #[.slice A1 x.length c1, .slice A2 y.length c2] t)) (some ⟨W.heap.size, 0, none⟩) [x, y].length [x, y] := by
  have hb := Blk.new W #[.slice A1 x.length c1, .slice A2 y.length c2] t
  have k1 := Kd.C_below h1 (below_alloc (Below.refl _ W) (.cells #[.slice A1 x.length c1, .slice A2 y.length c2] t))
  have k2 := Kd.C_below h2 (below_alloc (Below.refl _ W) (.cells #[.slice A1 x.length c1, .slice A2 y.length c2] t))
  refine ⟨rfl, by simp, fun _ => ⟨_, rfl, fun j p hj => ?_⟩⟩
  match j, hj with
  | 0, hj =>
    cases hj
    refine ⟨[.slice A1 x.length c1], rfl, ⟨A1, c1, rfl, l1, k1⟩, fun i u hu => ?_⟩
    match i, hu with
    | 0, hu => cases hu; exact (Blk.cell hb 0).trans rfl
  | 1, hj =>
    cases hj
    refine ⟨[.slice A2 y.length c2], rfl, ⟨A2, c2, rfl, l2, k2⟩, fun i u hu => ?_⟩
    match i, hu with
    | 0, hu => cases hu; exact (Blk.cell hb 1).trans rfl
end Go.Proofs.YtopehfjohifpnaaDoor.Mine
end
section
set_option linter.unusedSimpArgs false
set_option linter.unusedVariables false
namespace Go.Proofs.YtopehfjohifpnaaDoor.Mine
open Go.RowKit Go.Shelf Go.Proofs.YtopehfjohifpnaaDoorW.PrintWords Go.Proofs.YtopehfjohifpnaaDoorW.PrintLast Go.Proofs.YtopehfjohifpnaaDoorW.PrintMore Go.Proofs.YtopehfjohifpnaaDoor.Turn Go.Proofs.YtopehfjohifpnaaDoor.Doc
theorem seal_parts {L : List Int} (hb : Bytes L) (hl : L.length = 512) : sealL L = L.take 148 ++ (((octF (sumH L) 7).1 ++ [32]) ++ L.drop 156) ∧ ((octF (sumH L) 7).1 ++ [32]).length = 8 := by
  have hrg := sumH_rg hb hl
  have h7 := octF_length (n := sumH L) (w := 7) (by omega) (octF_ok7 hrg.1 hrg.2)
  have h148 : (L.take 148).length = 148 := by rw [List.length_take]; omega
  have hl2 : (L.take 148 ++ (octF (sumH L) 7).1).length = 155 := by rw [List.length_append]; omega
  have e1 : setL L 148 (octF (sumH L) 7).1 = (L.take 148 ++ (octF (sumH L) 7).1) ++ L.drop 155 := by unfold setL; rw [h7]
  refine ⟨?_, by rw [List.length_append, h7]; rfl⟩
  unfold sealL
  rw [e1]
  unfold setL
  rw [List.take_left' hl2, List.drop_append, hl2, List.drop_eq_nil_of_le (by rw [hl2]; simp), List.nil_append, List.drop_drop]
  simp only [List.append_assoc]
  rfl
def layA (nm : ByteArray) (md sz tm : Int) : List Int := padL (bytesOf nm) 100 ++ (octF md 8).1 ++ (octF 0 8).1 ++ (octF 0 8).1 ++ (octF sz 12).1 ++ (octF tm 12).1
def layB (pf : ByteArray) (ty : Int) (lk : ByteArray) : List Int := [ty] ++ padL (bytesOf lk) 100 ++ magicL ++ zs 64 ++ (octF 0 8).1 ++ (octF 0 8).1 ++ padL (bytesOf pf) 155 ++ zs 12
section
variable {nm pf lk : ByteArray} {md sz tm ty : Int} (h : GoodH nm pf md sz tm ty lk)
include h
theorem layA_len : (layA nm md sz tm).length = 148 := by
  have hn := bytesOf_length nm
  have h1 := h.hnm
  have l1 : (padL (bytesOf nm) 100).length = 100 := pad_len (by omega)
  have o8 := oct8_len h.hmd.1 h.hmd.2
  have o0 : (octF 0 8).1.length = 8 := oct8_len (by omega) (by omega)
  have oz := oct12_len (n := sz) h.hsz.1 (by have := h.hsz.2; omega)
  have ot := oct12_len h.htm.1 h.htm.2
  unfold layA
  simp only [List.length_append]
  omega
theorem layF_parts : ∃ X : List Int, X.length = 8 ∧ layF nm pf md sz tm ty lk = layA nm md sz tm ++ (X ++ layB pf ty lk) := by
  have hCl : (layC nm pf md sz tm ty lk).length = 512 := by rw [← layC_eq h]; exact imgL_length (layP_len h)
  have hCb : Bytes (layC nm pf md sz tm ty lk) := by rw [← layC_eq h]; exact (layP_bytes h).img
  obtain ⟨e1, e2⟩ := seal_parts hCb hCl
  have hA := layA_len h
  have e3 : layC nm pf md sz tm ty lk = layA nm md sz tm ++ (zs 8 ++ layB pf ty lk) := by unfold layC layA layB; simp only [List.append_assoc]
  refine ⟨_, e2, ?_⟩
  unfold layF
  rw [layC_eq h, e1]
  generalize (octF (sumH (layC nm pf md sz tm ty lk)) 7).1 ++ [32] = X at *
  have e4 : (layA nm md sz tm ++ (zs 8 ++ layB pf ty lk)).drop 156 = layB pf ty lk := by
    rw [← List.append_assoc]
    exact List.drop_left' (by rw [List.length_append, hA, zs_length])
  rw [e3, List.take_left' hA, e4]
theorem layF_len : (layF nm pf md sz tm ty lk).length = 512 := by
  obtain ⟨X, hX, e⟩ := layF_parts h
  have hA := layA_len h
  have hl := bytesOf_length lk
  have hp := bytesOf_length pf
  have h2 := h.hlk
  have h3 := h.hpf
  have o0 : (octF 0 8).1.length = 8 := oct8_len (by omega) (by omega)
  have l2 : (padL (bytesOf lk) 100).length = 100 := pad_len (by omega)
  have l3 : (padL (bytesOf pf) 155).length = 155 := pad_len (by omega)
  rw [e]
  unfold layB
  simp only [List.length_append, zs_length, List.length_singleton, hA, hX, o0, l2, l3, magicL, List.length_cons, List.length_nil]
end
end Go.Proofs.YtopehfjohifpnaaDoor.Mine
end
