/- pax: one record read, by the program. -/
import Derived.Test.YtbidbjgklonbpaaDoorPaxL0
set_option linter.unusedSimpArgs false
set_option linter.unusedVariables false
namespace Go.Proofs.YtbidbjgklonbpaaDoor.Mine
open Go.RowKit Go.Maps Go.Proofs.YtbidbjgklonbpaaDoorW.PrintWords Go.Proofs.YtbidbjgklonbpaaDoorW.PrintLast Go.Proofs.YtbidbjgklonbpaaDoorW.PrintMore Go.Proofs.YtbidbjgklonbpaaDoor.Turn Go.Proofs.YtbidbjgklonbpaaDoor.PPaxGets

theorem Blk_drew {w : World} {b : Nat} {cs : Array Value} {t : TypeId} (h : Blk w b cs t) : Blk w.drew b cs t := h
theorem run_results40 (tmps : Array Value) (g : Nat) (k v : ByteArray) (x : Int) (w : World) (h4 : tmps[4]? = some (.pointer (some ⟨g, 0, none⟩))) (h5 : tmps[5]? = some (.int .i64 x)) (hb : Blk w g #[.string k, .string v] 23) : (results Tryd.f40 tmps).run Tryd.prog w = .ok (.tuple #[.agg #[.string k, .string v], .int .i64 x]) w := by
  have hg0 : w.cell? ⟨g, 0, none⟩ = some (.string k) := (hb.cell 0).trans rfl
  have hg1 : w.cell? ⟨g, 1, none⟩ = some (.string v) := (hb.cell 1).trans rfl
  clear hb
  simp [results, Tryd.results40, h4, h5, go_sem, hg0, hg1]
theorem C_bytesIn {w : World} {A : Option Addr} {n : Nat} {xs : List Int} (h : Kd.C (Kd.int .u8) w A n xs) : Lib.BytesIn w A n xs := fun hn => by
  obtain ⟨ad, rfl, hc⟩ := (Kd.reads_of_C (enc := Value.int .u8) (d := (0 : Int)) (h1 := fun _ => rfl) h).2.2 hn
  exact Lib.BytesIn.of_cells hc hn

set_option maxHeartbeats 8000000 in
set_option maxRecDepth 100000 in
theorem one_any (A : Option Addr) (c : Nat) (L : List Int) (at' : Nat) (w : World) (hb : ∀ x ∈ L, 0 ≤ x ∧ x < 256) (hl : L.length ≤ 1152921504606846976) (hc : L.length ≤ c) (hat : at' < L.length) (hr : Kd.C (Kd.int .u8) w A L.length L) (ht : Tab w) (hm : ∃ m, w.cell? ⟨0, 0, none⟩ = some (.int .i64 m)) :
    Calls Tryd.prog 40 #[.slice A L.length c, .int .i64 at'] w (EndsOne w at' (oneL (L.drop at'))) := by
  have hmf : ∀ (fn : Fn) (first cap : Array Value) (w : World), (Instr.makeFunc fn first cap).run Tryd.prog w = .ok (.func fn first cap) w := fun _ _ _ _ => rfl
  have hd := Kd.C_drop hr (m := at') (by omega) (c := c) (by omega)
  rw [if_neg (by omega), show (Kd.int IntKind.u8).sz = 1 from rfl, Nat.mul_one] at hd
  have hlen : (L.drop at').length = L.length - at' := List.length_drop
  have hbl : ∀ x ∈ L.drop at', 0 ≤ x ∧ x < 256 := fun x hx => hb x (List.mem_of_mem_drop hx)
  obtain ⟨ad, rfl⟩ : ∃ ad, A = some ad := by
    obtain ⟨ad, e, -⟩ := Kd.at_int hr 0 (by omega) (by omega)
    exact ⟨ad, e⟩
  have HBY := Aside0.mk hbl
  have HC := Aside0.mk hd
  have HT := Aside0.mk ht
  have HM := Aside0.mk hm
  simp only [Option.map_some] at HC
  clear hd hr hb hbl hm ht
  generalize L.drop at' = l at *
  obtain ⟨X, hX⟩ : ∃ X, oneL l = X := ⟨_, rfl⟩
  rw [hX]
  have HX := Aside0.mk hX
  clear hX
  go_enter Tryd.func40, Tryd.ntmps40
  go_wp2_with fail
  rw [← hlen]
  obtain ⟨c', hc'⟩ : ∃ c', c - at' = c' := ⟨_, rfl⟩
  rw [hc']
  have hcl : l.length ≤ c' := by omega
  have hlm : l.length ≤ 1152921504606846976 := by omega
  have hl0 : 0 < l.length := by omega
  have HW := Aside0.mk (below_alloc (below_alloc (Below.refl w.heap.size w) (.cells #[.int .i64 at'] 3)) (.cells #[.string ⟨#[]⟩, .string ⟨#[]⟩] 23))
  have HF := Aside0.mk ((Blk.new w #[.int .i64 at'] 3).alloc (.cells #[.string ⟨#[]⟩, .string ⟨#[]⟩] 23))
  have HP := Aside0.mk (Blk.new (w.alloc (.cells #[.int .i64 at'] 3)) #[.string ⟨#[]⟩, .string ⟨#[]⟩] 23)
  rw [show (w.alloc (.cells #[.int .i64 at'] 3)).heap.size = w.heap.size + 1 by simp] at HP
  generalize (w.alloc (.cells #[.int .i64 at'] 3)).alloc (.cells #[.string ⟨#[]⟩, .string ⟨#[]⟩] 23) = W at *
  have HCW := Aside0.mk (Kd.C_below HC.out HW.out)
  have HTW := Aside0.mk (HT.out.below HW.out)
  have HMW : Aside0 (∃ m, W.cell? ⟨0, 0, none⟩ = some (.int .i64 m)) := ⟨by
    obtain ⟨m, hm⟩ := HM.out
    exact ⟨m, (World.cell?_of_block (HW.out.block _ (World.block_lt_of_cell? _ _ hm))).trans hm⟩⟩
  have hatb : at' ≤ 1152921504606846976 := by omega
  clear hlen HT HM HC hc' hc hl hmf hat
  go_loopw [8] (fun v wr => ∃ d : Nat, d ≤ 5 ∧ d ≤ l.length ∧ v = .int .i64 d ∧ Aside0 (∀ i, i < d → isD (l.getD i 0) = true) ∧ wr = W) (fun v _ => 5 - (intOf v).toNat)
  case atStart => exact ⟨0, by omega, by omega, rfl, ⟨fun i hi => by omega⟩, rfl⟩
  case round =>
    obtain ⟨d, hd5, hdl, rfl, HD, rfl⟩ := hrel
    go_upto_region 4 with (fail)
    go_cut [41] (fun b wx => b = .bool (decide (d < l.length) && decide (d ≤ 4) && isD (l.getD d 0)) ∧ wx = wr)
    case first =>
      by_cases h1 : d < l.length
      · have e1 : decide (d < l.length) = true := decide_eq_true h1
        by_cases h2 : d ≤ 4
        · have e2 : decide (d ≤ 4) = true := decide_eq_true h2
          obtain ⟨ad1, e, hx⟩ := Kd.at_int HCW.out (d : Int) (by omega) (by omega)
          cases e
          have hx2 : wr.cell? ((ad.add at').add d) = some (.int .u8 (l.getD d 0)) := by
            rw [show rd l (d : Int) = l.getD d 0 by unfold rd; rw [Int.toNat_natCast]] at hx
            exact hx
          obtain ⟨x, hX⟩ : ∃ x, l.getD d 0 = x := ⟨_, rfl⟩
          rw [hX] at hx2
          have HXX := Aside0.mk hX
          clear hx hX
          by_cases h3 : 48 ≤ x
          · have e3 : decide (48 ≤ x) = true := decide_eq_true h3
            go_wp2_with fail
            go_meet
            exact ⟨by rw [HXX.out]; simp [isD, e1, e2, e3], rfl⟩
          · have e3 : decide (48 ≤ x) = false := decide_eq_false h3
            go_wp2_with fail
            go_meet
            exact ⟨by rw [HXX.out]; simp [isD, e1, e2, e3], rfl⟩
        · have e2 : decide (d ≤ 4) = false := decide_eq_false h2
          go_wp2_with fail
          go_meet
          exact ⟨by simp [e1, e2], rfl⟩
      · have e1 : decide (d < l.length) = false := decide_eq_false h1
        go_wp2_with fail
        go_meet
        exact ⟨by simp [e1], rfl⟩
    case rest =>
      obtain ⟨rfl, rfl⟩ := hcut
      by_cases hg : d < l.length ∧ d ≤ 4 ∧ isD (l.getD d 0) = true
      · have hgb : (decide (d < l.length) && decide (d ≤ 4) && isD (l.getD d 0)) = true := by rw [decide_eq_true hg.1, decide_eq_true hg.2.1, hg.2.2]; rfl
        rw [hgb]
        have HD2 : Aside0 (∀ i, i < d + 1 → isD (l.getD i 0) = true) := ⟨fun i hi => by
          by_cases h : i = d
          · rw [h]; exact hg.2.2
          · exact HD.out i (by omega)⟩
        have h1 := hg.1
        have h2 := hg.2.1
        clear hg hgb HD
        go_wp2_with fail
        go_round
        case rel => exact ⟨d + 1, by omega, by omega, rfl, HD2, trivial⟩
        all_goals (simp [intOf]; omega)
      · have hgb : (decide (d < l.length) && decide (d ≤ 4) && isD (l.getD d 0)) = false := by
          cases hb : (decide (d < l.length) && decide (d ≤ 4) && isD (l.getD d 0))
          · rfl
          · simp only [Bool.and_eq_true, decide_eq_true_eq] at hb
            exact absurd ⟨hb.1.1, hb.1.2, hb.2⟩ hg
        rw [hgb]
        have HLD : Aside0 (lead l 5 = d) := ⟨lead_eq 5 l d hd5 hdl HD.out (by
          by_cases h5 : d = 5
          · exact .inl h5
          · by_cases h6 : d = l.length
            · exact .inr (.inl h6)
            · refine .inr (.inr ?_)
              cases hb : isD (l.getD d 0)
              · rfl
              · exact absurd ⟨by omega, by omega, hb⟩ hg)⟩
        clear hg hgb
        have HFAIL : Aside0 (∀ c : Int, Calls Tryd.prog 51 #[.int .i64 c, .pointer (some ⟨w.heap.size, 0, none⟩)] wc fun e w' => e = .panicked [{ v := .iface 72 (.agg #[.int .i64 at', .int .i64 c]), recovered := false }] ∧ w' = wc) := ⟨fun c => fails_any _ _ c _ ((HF.out.cell 0).trans rfl)⟩
        go_upto_region 6 with (fail)
        obtain ⟨bad, hbad⟩ : ∃ b, decide (d = 0 ∨ 4 < d ∨ l.getD 0 0 = 48 ∨ d = l.length ∨ l.getD d 0 ≠ 32) = b := ⟨_, rfl⟩
        have HBAD := Aside0.mk hbad
        clear hbad
        go_cut [68] (fun b wx => b = .bool bad ∧ wx = wc)
        case first =>
          by_cases h1 : d = 0
          · subst h1
            go_wp2_with fail
            go_meet
            exact ⟨by rw [← HBAD.out, decide_eq_true (.inl trivial)], rfl⟩
          · have e1 : ((d : Int) == 0) = false := by rw [beq_eq_false_iff_ne]; omega
            by_cases h2 : 4 < d
            · have e2 : decide (4 < d) = true := decide_eq_true h2
              go_wp2_with fail
              go_meet
              exact ⟨by rw [← HBAD.out, decide_eq_true (.inr (.inl h2))], rfl⟩
            · have e2 : decide (4 < (d : Int)) = false := decide_eq_false (by omega)
              obtain ⟨ad0, e, hx0⟩ := Kd.at_int HCW.out 0 (by omega) (by omega)
              cases e
              rw [show rd l 0 = l.getD 0 0 from rfl] at hx0
              obtain ⟨x0, hX0⟩ : ∃ x, l.getD 0 0 = x := ⟨_, rfl⟩
              rw [hX0] at hx0
              have hx00 : wc.cell? (ad.add at') = some (.int .u8 x0) := by
                have e0 : ∀ q : Addr, q.add 0 = q := fun q => Addr.add_zero' q
                rw [show (0 : Int).toNat = 0 from rfl, e0] at hx0
                exact hx0
              have hx01 : wc.cell? ((ad.add at').add 0) = some (.int .u8 x0) := hx0
              clear hx0
              have HX0 := Aside0.mk hX0
              clear hX0
              by_cases h3 : x0 = 48
              · have e3 : (x0 == 48) = true := by rw [beq_iff_eq]; exact h3
                go_wp2_with fail
                go_meet
                exact ⟨by rw [← HBAD.out, decide_eq_true (.inr (.inr (.inl (HX0.out.trans h3))))], rfl⟩
              · have e3 : (x0 == 48) = false := by rw [beq_eq_false_iff_ne]; exact h3
                by_cases h4 : d = l.length
                · have HQ : Aside0 (bad = true) := ⟨by rw [← HBAD.out]; exact decide_eq_true (.inr (.inr (.inr (.inl h4))))⟩
                  clear HBAD HD HLD
                  subst h4
                  clear h1 h2 hd5 hdl
                  go_wp2_with fail
                  go_meet
                  exact ⟨by rw [HQ.out], rfl⟩
                · have e4 : ((d : Int) == (l.length : Int)) = false := by rw [beq_eq_false_iff_ne]; omega
                  obtain ⟨ad1, e, hx⟩ := Kd.at_int HCW.out (d : Int) (by omega) (by omega)
                  cases e
                  have hx2 : wc.cell? ((ad.add at').add d) = some (.int .u8 (l.getD d 0)) := by
                    rw [show rd l (d : Int) = l.getD d 0 by unfold rd; rw [Int.toNat_natCast]] at hx
                    exact hx
                  obtain ⟨x, hX⟩ : ∃ x, l.getD d 0 = x := ⟨_, rfl⟩
                  rw [hX] at hx2
                  have HXX := Aside0.mk hX
                  clear hx hX
                  by_cases h5 : x = 32
                  · have e5 : (x != 32) = false := by rw [bne_eq_false_iff_eq]; exact h5
                    have HQ : Aside0 (bad = false) := ⟨by
                      rw [← HBAD.out]
                      refine decide_eq_false ?_
                      rw [HX0.out, HXX.out]
                      rintro (h | h | h | h | h)
                      · exact h1 h
                      · exact h2 h
                      · exact h3 h
                      · exact h4 h
                      · exact h h5⟩
                    go_wp2_with fail
                    go_meet
                    exact ⟨by rw [HQ.out], rfl⟩
                  · have e5 : (x != 32) = true := by rw [bne_iff_ne]; exact h5
                    go_wp2_with fail
                    go_meet
                    exact ⟨by rw [← HBAD.out, decide_eq_true (.inr (.inr (.inr (.inr (by rw [HXX.out]; exact h5)))))], rfl⟩
        case rest =>
          obtain ⟨rfl, rfl⟩ := hcut
          cases bad with
          | true =>
            have HY : Aside0 (X = .error 90) := ⟨by
              rw [← HX.out]
              unfold oneL
              rw [HLD.out, if_pos (of_decide_eq_true HBAD.out)]⟩
            go_wp2_with fail
            refine (HFAIL.out 90).mono ?_
            rintro e w' ⟨rfl, rfl⟩
            refine ⟨rfl, ?_⟩
            rw [HY.out]
            exact ⟨HW.out, rfl⟩
          | false =>
            have hok := of_decide_eq_false HBAD.out
            have HY : Aside0 (X = oneN l d (numN l d)) := ⟨by
              rw [← HX.out]
              unfold oneL
              rw [HLD.out, if_neg hok]⟩
            have hn1 : d ≠ 0 := fun h => hok (.inl h)
            have hn2 : d ≤ 4 := by
              have : ¬ 4 < d := fun h => hok (.inr (.inl h))
              omega
            have hn3 : d < l.length := by
              have : d ≠ l.length := fun h => hok (.inr (.inr (.inr (.inl h))))
              omega
            have HSP : Aside0 (l.getD d 0 = 32) := ⟨Classical.byContradiction fun h => hok (.inr (.inr (.inr (.inr h))))⟩
            have HAT : Aside0 (Lib.atoi (strOfNums (l.take d)).data.toList = some (numN l d : Int)) := ⟨numN_atoi (by omega) hdl HD.out⟩
            have hnlt : numN l d < 10000 := Nat.lt_of_lt_of_le (numN_lt hdl HD.out) (Nat.pow_le_pow_right (by decide) hn2 : 10 ^ d ≤ 10 ^ 4)
            have hnp : 1 ≤ numN l d := by
              obtain ⟨e, rfl⟩ : ∃ e, d = e + 1 := ⟨d - 1, by omega⟩
              exact numN_pos (fun h => hok (.inr (.inr (.inl h)))) hdl HD.out
            have HTK := Aside0.mk (Kd.C_take HCW.out hdl)
            have hcv : ∀ cc : Nat, (convert 24 9 (.slice (some (ad.add at')) d cc)).run Tryd.prog wc = .ok (.string (strOfNums (l.take d))) wc := fun cc => by
              have := HTK.out
              rw [List.length_take, Nat.min_eq_left hdl] at this
              exact Kd.C_string Tryd.underlying24 Tryd.underlying5 Tryd.underlying9 this
            have hsz : (strOfNums (l.take d)).size ≤ 18 := by rw [strOfNums_size, List.length_take]; omega
            have HO := Aside0.mk (show OneW w wc (some (ad.add at')) l at' from ⟨HW.out, HF.out, HP.out, HCW.out, HTW.out, HMW.out⟩)
            clear hok HX HBAD HLD HW HF HP HCW HTW HMW HFAIL HTK
            have HDD : Aside0 (∀ i, i < d → isD (l.getD i 0) = true) := ⟨HD.out⟩
            clear HD
            obtain ⟨n, hN⟩ : ∃ n, numN l d = n := ⟨_, rfl⟩
            rw [hN] at HY HAT hnlt hnp
            clear hN
            go_wp2_with fail
            refine (Tryd.strconv_Atoi _ _ hsz HAT.out _).mono ?_
            rintro e w2 ⟨rfl, t, rfl⟩
            have HO2 := Aside0.mk (HO.out.step (Lib.bytesWorld_below wc 5 t))
            clear HO hcv hsz HAT
            generalize Lib.bytesWorld wc 5 t = W2 at *
            have HFAIL := Aside0.mk (fun c => HO2.out.fails c)
            obtain ⟨m, rfl⟩ : ∃ m, n = m + 1 := ⟨n - 1, by omega⟩
            by_cases h1 : l.length < m + 1
            · have HY2 : Aside0 (X = .error 90) := ⟨by rw [HY.out, oneN, if_pos (.inl h1)]⟩
              go_wp2_with fail
              refine (HFAIL.out 90).mono ?_
              rintro e w' ⟨rfl, rfl⟩
              refine ⟨rfl, ?_⟩
              rw [HY2.out]
              exact ⟨HO2.out.1, rfl⟩
            have hw1 : IntKind.i64.wrap ((m : Int) + 1 - 1) = (m : Int) := by rw [IntWalk.i64_in _ (by omega)]; omega
            have hw2 : IntKind.i64.wrap (((m + 1 : Nat) : Int) - 1) = (m : Int) := by rw [IntWalk.i64_in _ (by omega)]; omega
            have hml : m < l.length := by omega
            have hml2 : ¬ (l.length : Int) < (m : Int) + 1 := by omega
            obtain ⟨ad1, e, hx⟩ := Kd.at_int HO2.out.2.2.2.1 (m : Int) (by omega) (by omega)
            cases e
            have hx2 : W2.cell? ((ad.add at').add m) = some (.int .u8 (l.getD m 0)) := by
              rw [show rd l (m : Int) = l.getD m 0 by unfold rd; rw [Int.toNat_natCast]] at hx
              exact hx
            obtain ⟨x, hX⟩ : ∃ x, l.getD m 0 = x := ⟨_, rfl⟩
            rw [hX] at hx2
            have HXX := Aside0.mk hX
            clear hx hX
            by_cases h2 : x = 10
            case neg =>
              have HY2 : Aside0 (X = .error 90) := ⟨by rw [HY.out, oneN, if_pos (.inr (by rw [Nat.add_sub_cancel, HXX.out]; exact h2))]⟩
              have e2 : (x != 10) = true := bne_iff_ne.2 h2
              go_wp2_with fail
              refine (HFAIL.out 90).mono ?_
              rintro e w' ⟨rfl, rfl⟩
              refine ⟨rfl, ?_⟩
              rw [HY2.out]
              exact ⟨HO2.out.1, rfl⟩
            have HY2 : Aside0 (X = oneB (m + 1) ((l.take m).drop (d + 1))) := ⟨by
              rw [HY.out, oneN, if_neg, Nat.add_sub_cancel]
              rintro (h | h)
              · exact h1 h
              · exact h (by rw [Nat.add_sub_cancel, HXX.out]; exact h2)⟩
            have e2 : (x != 10) = false := bne_eq_false_iff_eq.2 h2
            have hdm : d + 1 ≤ m := by
              refine Classical.byContradiction fun h => ?_
              by_cases hmd : m = d
              · subst hmd
                have := HSP.out
                rw [HXX.out] at this
                omega
              · have := HDD.out m (by omega)
                rw [HXX.out] at this
                simp [isD, h2] at this
            clear HY HSP HXX h2
            go_upto_region 11 with (fail)
            clear hx2 e2 hw1 hw2
            go_wp2_with fail
            have hAD : (ad.add at').add (d + 1) = ⟨(ad.add at').block, (ad.add at').off + (d + 1), none⟩ := by simp [Addr.add]
            rw [← hAD]
            have hbl : ((l.take m).drop (d + 1)).length = m - (d + 1) := by rw [List.length_drop, List.length_take]; omega
            have HBC : Aside0 (Kd.C (Kd.int .u8) W2 (some ((ad.add at').add (d + 1))) ((l.take m).drop (d + 1)).length ((l.take m).drop (d + 1))) := ⟨by
              have h1 := Kd.C_take HO2.out.2.2.2.1 (m := m) (by omega)
              have h2 := Kd.C_drop h1 (m := d + 1) (by rw [List.length_take]; omega) (c := c') (by rw [List.length_take]; omega)
              rw [if_neg (by omega), show (Kd.int IntKind.u8).sz = 1 from rfl, Nat.mul_one] at h2
              exact h2⟩
            have HBR : Aside0 (∀ x ∈ (l.take m).drop (d + 1), 0 ≤ x ∧ x < 256) := ⟨fun x hx => HBY.out x (List.mem_of_mem_take (List.mem_of_mem_drop hx))⟩
            generalize (l.take m).drop (d + 1) = body at *
            obtain ⟨AD, hADe⟩ : ∃ AD, (ad.add at').add (d + 1) = AD := ⟨_, rfl⟩
            rw [hADe] at HBC ⊢
            clear hADe hAD HBY
            have hcc : m - (d + 1) < c' - (d + 1) := by omega
            have hbn : m - (d + 1) < 10000 := by omega
            generalize c' - (d + 1) = cb at *
            generalize m - (d + 1) = nb at *
            have hb1 := below_alloc (Below.refl W2.heap.size W2) (.cells #[.int .u8 61] 5)
            have HN : Aside0 (Lib.BytesIn (W2.alloc (.cells #[.int .u8 61] 5)) (some ⟨W2.heap.size, 0, none⟩) 1 [61]) := ⟨fun _ => ⟨W2.heap.size, 0, rfl, fun i hi => by
              have : i = 0 := by omega
              subst this
              exact ((Blk.new W2 #[.int .u8 61] 5).cell 0).trans rfl⟩⟩
            have HB1 : Aside0 (Lib.BytesIn (W2.alloc (.cells #[.int .u8 61] 5)) (some AD) nb body) := ⟨hbl ▸ C_bytesIn (Kd.C_below HBC.out hb1)⟩
            have HO3 := Aside0.mk (HO2.out.step hb1)
            have HBC3 := Aside0.mk (Kd.C_below HBC.out hb1)
            clear hb1 HBC HO2 HFAIL
            generalize W2.alloc (.cells #[.int .u8 61] 5) = W3 at *
            obtain ⟨mm, hmm⟩ := HO3.out.2.2.2.2.2
            refine (Tryd.bytes_Cut_all (some AD) _ nb cb 1 1 body [61] mm W3 hbl rfl HBR.out (by simp) HB1.out HN.out (by simp) (by omega) (by omega) (by omega) hmm).mono ?_
            rintro e w4 ⟨rfl, q, rfl⟩
            have hb2 := pw_below_drewN (Below.refl W3.heap.size W3) q
            have HO4 := Aside0.mk (HO3.out.step hb2)
            have HBC4 := Aside0.mk (Kd.C_below HBC3.out hb2)
            have HFAIL := Aside0.mk (fun c => HO4.out.fails c)
            clear hb2 HO3 HBC3 HB1 HN hmm
            generalize W3.drewN q = W4 at *
            by_cases hi : 0 ≤ Lib.index (Lib.bytesOf body) [61]
            case neg =>
              have HY3 : Aside0 (X = .error 90) := ⟨by rw [HY2.out, oneB, if_pos (by omega)]⟩
              rw [show Lib.bytesOf [61] = [61] from rfl, Lib.cutV, if_neg hi]
              go_wp2_with fail
              refine (HFAIL.out 90).mono ?_
              rintro e w' ⟨rfl, rfl⟩
              refine ⟨rfl, ?_⟩
              rw [HY3.out]
              exact ⟨HO4.out.1, rfl⟩
            obtain ⟨j, hj⟩ : ∃ j : Nat, Lib.index (Lib.bytesOf body) [61] = (j : Int) := ⟨_, (Int.toNat_of_nonneg hi).symm⟩
            have hjr : j + 1 ≤ nb := by
              have := Lib.index_room _ _ hi
              rw [hj, Lib.bytesOf, List.length_map, hbl] at this
              simp at this
              omega
            have HY3 : Aside0 (X = oneP (m + 1) (strOfNums (body.take j)) (strOfNums (body.drop (j + 1)))) := ⟨by rw [HY2.out, oneB, if_neg (by omega), hj, Int.toNat_natCast]⟩
            rw [show Lib.bytesOf [61] = [61] from rfl, Lib.cutV, if_pos hi, hj, Int.toNat_natCast, Lib.fromV, if_neg (by omega), Option.map_some]
            have hAV : ∃ AV, AD.add (j + 1) = AV := ⟨_, rfl⟩
            have HCK := Aside0.mk (Kd.C_take HBC4.out (m := j) (by omega))
            have HCV := Aside0.mk (Kd.C_drop HBC4.out (m := j + 1) (by omega) (c := cb) (by omega))
            obtain ⟨AV, hAV⟩ := hAV
            rw [if_neg (by omega), show (Kd.int IntKind.u8).sz = 1 from rfl, Nat.mul_one, Option.map_some, hAV] at HCV
            rw [hAV]
            rw [List.length_take, Nat.min_eq_left (by omega)] at HCK
            rw [List.length_drop, hbl] at HCV
            have hcv1 : ∀ cc : Nat, (convert 24 9 (.slice (some AD) j cc)).run Tryd.prog W4 = .ok (.string (strOfNums (body.take j))) W4 := fun cc => Kd.C_string Tryd.underlying24 Tryd.underlying5 Tryd.underlying9 HCK.out
            have hcv2 : ∀ cc : Nat, (convert 24 9 (.slice (some AV) (nb - (j + 1)) cc)).run Tryd.prog W4 = .ok (.string (strOfNums (body.drop (j + 1)))) W4 := fun cc => Kd.C_string Tryd.underlying24 Tryd.underlying5 Tryd.underlying9 HCV.out
            have hks : (strOfNums (body.take j)).size ≤ 10000 := by rw [strOfNums_size, List.length_take]; omega
            have hvs : (strOfNums (body.drop (j + 1))).size ≤ 10000 := by rw [strOfNums_size, List.length_drop]; omega
            clear hi hj hAV HBC4 HCK HCV HY2
            generalize strOfNums (body.take j) = k at *
            generalize strOfNums (body.drop (j + 1)) = v at *
            have HX0 := Aside0.mk (Blk.new W4 #[.string k, .string v] 23)
            have HO5 := Aside0.mk (HO4.out.step (below_alloc (Below.refl W4.heap.size W4) (.cells #[.string k, .string v] 23)))
            go_wp2_with fail
            clear hcv1 hcv2 HFAIL
            refine (fits_any k v _).mono ?_
            rintro e w5 ⟨rfl, hb⟩
            have HO6 := Aside0.mk (HO5.out.step hb)
            have hx2 : Blk w5 W4.heap.size #[.string k, .string v] 23 := (hb.block _ HX0.out.lt).trans HX0.out
            have hl2 := hx2.lt
            have HX2 := Aside0.mk hx2
            have HFAIL := Aside0.mk (fun c => HO6.out.fails c)
            have hx20 : World.cell? w5 ⟨W4.heap.size, 0, none⟩ = some (.string k) := Blk.cell hx2 0
            have hx21 : World.cell? w5 ⟨W4.heap.size, 1, none⟩ = some (.string v) := Blk.cell hx2 1
            clear hb hx2 HX0 HO5
            by_cases h0 : fitN k v = 0
            case neg =>
              have HY4 : Aside0 (X = .error (fitN k v)) := ⟨by rw [HY3.out, oneP, if_pos h0]⟩
              generalize fitN k v = f at *
              have e1 : (f != 0) = true := bne_iff_ne.2 h0
              go_wp2_with fail
              refine (HFAIL.out f).mono ?_
              rintro e w' ⟨rfl, rfl⟩
              refine ⟨rfl, ?_⟩
              rw [HY4.out]
              exact ⟨HO6.out.1, rfl⟩
            rw [h0]
            have HXP := Aside0.mk (Blk.new w5 #[.string k, .string v] 23)
            have hdd := dOf_is (n := 3 + k.size + v.size) (by omega)
            have HDS := Aside0.mk hdd
            have hd19 := hdd.2.1
            have HY4 : Aside0 (X = if 3 + k.size + v.size + dOf (3 + k.size + v.size) ≠ m + 1 then .error 90 else .ok (k, v, m + 1)) := ⟨by rw [HY3.out, oneP, if_neg (by simp [h0])]⟩
            obtain ⟨D, hD⟩ : ∃ D, dOf (3 + k.size + v.size) = D := ⟨_, rfl⟩
            rw [hD] at HDS hd19 HY4
            clear hD HY3 hdd HXP HFAIL
            go_wp2_with fail
            refine (size_any k v (by omega) (by omega) HDS.out w5 HO6.out.2.2.2.2.1).mono ?_
            rintro e w6 ⟨rfl, hb⟩
            have HO7 := Aside0.mk (HO6.out.step hb)
            have hx2 : Blk w6 W4.heap.size #[.string k, .string v] 23 := (hb.block _ HX2.out.lt).trans HX2.out
            have hl2 := hx2.lt
            have HX7 := Aside0.mk hx2
            have HFAIL := Aside0.mk (fun c => HO7.out.fails c)
            have hff := HO7.out.2.1
            have hpp := HO7.out.2.2.1
            have hlf := hff.lt
            have hlp := hpp.lt
            have hx20 : World.cell? w6 ⟨W4.heap.size, 0, none⟩ = some (.string k) := Blk.cell hx2 0
            have hx21 : World.cell? w6 ⟨W4.heap.size, 1, none⟩ = some (.string v) := Blk.cell hx2 1
            have hff0 : World.cell? w6 ⟨w.heap.size, 0, none⟩ = some (.int .i64 at') := Blk.cell hff 0
            have hpp0 : World.cell? w6 ⟨(w.heap.size + 1), 0, none⟩ = some (.string ⟨#[]⟩) := Blk.cell hpp 0
            have hppf0 : World.frozen? w6 ⟨(w.heap.size + 1), 0, none⟩ = false := Blk.free hpp 0
            have hpp1 : World.cell? w6 ⟨(w.heap.size + 1), 1, none⟩ = some (.string ⟨#[]⟩) := Blk.cell hpp 1
            have hppf1 : World.frozen? w6 ⟨(w.heap.size + 1), 1, none⟩ = false := Blk.free hpp 1
            clear hb hx2 HO6 HX2
            by_cases hd : 3 + k.size + v.size + D = m + 1
            case neg =>
              have HY5 : Aside0 (X = .error 90) := ⟨by rw [HY4.out, if_pos hd]⟩
              have e1 : (((3 : Int) + (k.size : Int) + (v.size : Int) + (D : Int)) != ((m : Int) + 1)) = true := bne_iff_ne.2 (by omega)
              go_wp2_with fail
              refine (HFAIL.out 90).mono ?_
              rintro e w' ⟨rfl, rfl⟩
              refine ⟨rfl, ?_⟩
              rw [HY5.out]
              exact ⟨HO7.out.1, rfl⟩
            have HY5 : Aside0 (X = .ok (k, v, m + 1)) := ⟨by rw [HY4.out, if_neg (by simp [hd])]⟩
            have e1 : (((3 : Int) + (k.size : Int) + (v.size : Int) + (D : Int)) != ((m : Int) + 1)) = false := bne_eq_false_iff_eq.2 (by omega)
            have hw3 : IntKind.i64.wrap ((at' : Int) + ((m : Int) + 1)) = (at' : Int) + ((m : Int) + 1) := IntWalk.i64_in _ (by omega)
            have hw4 : IntKind.i64.wrap ((at' : Int) + ((m + 1 : Nat) : Int)) = (at' : Int) + ((m : Int) + 1) := by rw [IntWalk.i64_in _ (by omega)]; omega
            clear hd HFAIL
            go_wp2_with fail
            go_region
            have hb8 := (HO7.out.2.2.1.set 0 (.string k)).set 1 (.string v)
            have hb9 := Blk_drew hb8
            have t0 := (Turned.refl (fun k => k = w.heap.size + 1) w6).setCell (p := ⟨w.heap.size + 1, 0, none⟩) (.inl rfl) (.string k)
            have t1 := (t0.setCell (p := ⟨w.heap.size + 1, 1, none⟩) (.inl rfl) (.string v)).drew
            have hbw := below_turned HO7.out.1 t1 HO7.out.1.size (fun k hk => by omega)
            have HB9 := Aside0.mk hb9
            have HBW := Aside0.mk hbw
            clear hb8 hb9 t0 t1 hbw
            try go_wp2_with fail
            refine bodyPost_end (run_results40 _ (w.heap.size + 1) k v _ _ rfl rfl HB9.out) rfl ?_
            rw [HY5.out]
            exact ⟨HBW.out, by simp⟩
end Go.Proofs.YtbidbjgklonbpaaDoor.Mine
