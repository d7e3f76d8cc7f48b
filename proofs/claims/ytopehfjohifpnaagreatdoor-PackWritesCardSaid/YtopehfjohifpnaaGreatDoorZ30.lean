import Derived.Test.YtopehfjohifpnaaGreatDoorZ29
import Derived.Deep.RegionHeld3
section
set_option linter.unusedSimpArgs false
set_option linter.unusedVariables false
namespace Go.Proofs.YtopehfjohifpnaaGreatDoor.Mine
open Go.RowKit Go.Shelf Go.Proofs.YtopehfjohifpnaaGreatDoorW.PrintWords Go.Proofs.YtopehfjohifpnaaGreatDoorW.PrintLast Go.Proofs.YtopehfjohifpnaaGreatDoorW.PrintMore Go.Proofs.YtopehfjohifpnaaGreatDoor.Turn Go.Proofs.YtopehfjohifpnaaGreatDoor.Doc
theorem putH_fill (nm pf : ByteArray) (md sz tm ty : Int) (lk : ByteArray) : fillL (putH nm pf md sz tm ty lk).1 = (putH nm pf md sz tm ty lk).1 := by
  unfold putH
  split
  · rename_i h
    have hl := imgL_length (layP_len (good_of h))
    have hb := (layP_bytes (good_of h)).img
    have h7 := octF_length (n := sumH (imgL (layP nm pf md sz tm ty lk))) (w := 7) (by omega) (octF_ok7 (sumH_rg hb hl).1 (sumH_rg hb hl).2)
    unfold layF sealL
    have h1 : (setL (imgL (layP nm pf md sz tm ty lk)) 148 (octF (sumH (imgL (layP nm pf md sz tm ty lk))) 7).1).length = 512 := by rw [setL_length (by omega)]; exact hl
    simp only
    have h2 := h1
    generalize setL (imgL (layP nm pf md sz tm ty lk)) 148 (octF (sumH (imgL (layP nm pf md sz tm ty lk))) 7).1 = y at *
    unfold fillL
    rw [setL_length (by rw [h1]; simp), h1]
    show _ ++ zs 0 = _
    simp [zs]
  · show fillL [] = []
    simp [fillL, zs]
theorem none_below {W X : World} (h : W.grownBy X none) : Below W.heap.size W X := pw_below_grown (Below.refl _ W) none (Nat.le_refl _) h (fun k hk => by cases hk)
theorem own_C {W : World} {B : Nat} {A : Option Addr} {n c : Nat} {xs : List Int} (hn : n = xs.length) (h : Own W B (.slice A n c) xs) : n ≤ c ∧ Kd.C (Kd.int .u8) W A n xs := by
  subst hn
  obtain ⟨A', c', e, hc, hC⟩ := Kd.R_reads (Kd.R_of_own (h1 := fun _ => rfl) (ok := fun _ => True) (xs := xs) (enc := fun x : Int => Value.int .u8 x) h (fun _ _ => trivial))
  cases e
  exact ⟨hc, hC⟩
set_option maxRecDepth 100000 in
set_option maxHeartbeats 8000000 in
theorem piecesR_any (x : S43) (hm : mayX x = 0) (A : Option Addr) (c : Nat) (w : World) (hC : Kd.C (Kd.int .u8) w A x.f4.length x.f4) (hc : x.f4.length ≤ c) :
    Calls Tryz.prog 33 #[.agg #[.string x.f0, .int .u8 x.f1, .int .i64 x.f2, .int .i64 x.f3, .slice A x.f4.length c, .string x.f5]] w fun e w' => ∃ A' c', e = .returned (.slice A' (piecesF x).length c') ∧ (piecesF x).length ≤ c' ∧ Kd.C (Kd.int .u8) w' A' (piecesF x).length (piecesF x) ∧ Below w.heap.size w w' := by
  have hqs := may_q hm
  have hbs := may_body hm
  have HSM := Aside0.mk (pairs_small hm)
  have HPL : Aside0 ((pairsF x.f0 x.f1 x.f2 x.f3 x.f4.length x.f5).1.length ≤ 2) := ⟨by
    unfold pairsF pairsL
    split
    · simp
    · split <;> split <;> simp⟩
  have HPI : Aside0 (piecesF x = moreL (pairsF x.f0 x.f1 x.f2 x.f3 x.f4.length x.f5).1 ++ (fillL (putH (splitF x.f0).2.1 (splitF x.f0).1 x.f2 x.f4.length x.f3 (typF x.f1) (lkF x.f5)).1 ++ fillL x.f4)) := ⟨rfl⟩
  generalize piecesF x = PC at *
  obtain ⟨PE, hPE⟩ : ∃ PE, (fun (e : Ending) (w' : World) => ∃ A' c', e = .returned (.slice A' PC.length c') ∧ PC.length ≤ c' ∧ Kd.C (Kd.int .u8) w' A' PC.length PC ∧ Below w.heap.size w w') = PE := ⟨_, rfl⟩
  have HE : Aside0 (∀ e w', PE e w' = ∃ A' c', e = .returned (.slice A' PC.length c') ∧ PC.length ≤ c' ∧ Kd.C (Kd.int .u8) w' A' PC.length PC ∧ Below w.heap.size w w') := ⟨fun e w' => by rw [← hPE]⟩
  rw [hPE]
  clear hPE
  obtain ⟨p, k, m, t, b, q⟩ := x
  simp only at *
  have HC0 := Aside0.mk (Kd.C_alloc hC (.cells #[.string p, .int .u8 k, .int .i64 m, .int .i64 t, .slice A b.length c, .string q] 43))
  have hx0 := Blk.new w #[.string p, .int .u8 k, .int .i64 m, .int .i64 t, .slice A b.length c, .string q] 43
  have HBW := Aside0.mk (below_alloc (Below.refl _ w) (.cells #[.string p, .int .u8 k, .int .i64 m, .int .i64 t, .slice A b.length c, .string q] 43))
  have HPA := Aside0.mk (fun X h => pairsR_any p k m t A c b q hc X h)
  generalize pairsF p k m t b.length q = PF at *
  obtain ⟨L, pe⟩ := PF
  simp only at HPL HSM HPI HPA
  have HML : Aside0 ((moreL L).length ≤ 80000) := ⟨moreL_len L⟩
  have HSP := Aside0.mk (fun X => splitR_any p X)
  have HCU := Aside0.mk (fun X => cutR_any p X)
  have HSN := Aside0.mk (split_none p)
  generalize splitF p = sf at *
  obtain ⟨s1, s2, s3⟩ := sf
  simp only at HPI HSP HCU HSN
  have c0 := (Blk.cell hx0 0).trans rfl
  have c1 := (Blk.cell hx0 1).trans rfl
  have c2 := (Blk.cell hx0 2).trans rfl
  have c3 := (Blk.cell hx0 3).trans rfl
  have c4 := (Blk.cell hx0 4).trans rfl
  have c5 := (Blk.cell hx0 5).trans rfl
  have hlt := hx0.lt
  have HX0 := Aside0.mk hx0
  clear hx0 hC hm
  go_enter Tryz.func33, Tryz.ntmps33
  go_wp2_with fail
  refine (HPA.out _ HC0.out).mono ?_
  rintro e X1 ⟨A1, c1', rfl, hC1, hb⟩
  obtain ⟨T, hT⟩ : ∃ T, w.heap.size = T := ⟨_, rfl⟩
  rw [hT] at c0 c1 c2 c3 c4 c5 hlt HX0 ⊢
  have HT := Aside0.mk hT
  clear hT c0 c1 c2 c3 c4 c5
  generalize w.alloc (.cells #[.string p, .int .u8 k, .int .i64 m, .int .i64 t, .slice A b.length c, .string q] 43) = w1 at *
  have HC1 := Aside0.mk hC1
  have HB1 := Aside0.mk hb
  have hLl := HPL.out
  clear hC1 hb HPA
  go_upto_if 21 with (fail)
  go_cut [3] (fun v3 wx => ∃ A3 c3, v3 = .slice A3 (moreL L).length c3 ∧ Aside0 (RB wx w1.heap.size (.slice A3 (moreL L).length c3) (moreL L)) ∧ Aside0 (Below w1.heap.size w1 wx))
  case first =>
    by_cases hL : L = []
    · subst hL
      go_wp2_with fail
      go_meet
      exact ⟨none, 0, rfl, ⟨Kd.R_nil _ _ _ _ _⟩, HB1⟩
    · have hLp : 0 < L.length := List.length_pos_iff.2 hL
      have hdl : decide ((0 : Int) < (L.length : Int)) = true := decide_eq_true (by omega)
      have HME2 : Aside0 (moreL L = fillL (putH MoreB NoB 0 (putF L).1.length 0 120 NoB).1 ++ fillL (putF L).1) := ⟨by unfold moreL; rw [if_neg hL]⟩
      have HPT := Aside0.mk (fun X hC => putR_any A1 c1' L HSM.out (by have := HPL.out; omega) X hC)
      have hrl := putF_len L
      generalize moreL L = ML at *
      generalize putF L = PT at *
      obtain ⟨rc, ra, re⟩ := PT
      simp only at HME2 hrl
      unfold EndsPut at HPT
      simp only at HPT
      go_wp2_with fail
      refine (HPT.out _ HC1.out).mono ?_
      rintro e X2 ⟨A2, c2, rfl, ho2, hb2⟩
      obtain ⟨hc2, hC2⟩ := own_C rfl ho2
      have HB2 := Aside0.mk (below_step HB1.out hb2)
      have HC2 := Aside0.mk hC2
      clear ho2 hb2 hC2 HPT HC1 HB1
      have HPH := Aside0.mk (fun X => headR_any MoreB NoB 0 rc.length 0 120 NoB X)
      have hph := putH_len MoreB NoB 0 rc.length 0 120 NoB
      rw [putH_fill] at HME2
      generalize putH MoreB NoB 0 rc.length 0 120 NoB = PP at *
      obtain ⟨pb, pe2⟩ := PP
      simp only at HME2 HPH hph
      go_wp2_with fail
      refine (HPH.out _).mono ?_
      rintro e X3 ⟨A3, c3, rfl, hc3, hC3, hb3⟩
      have HB3 := Aside0.mk (below_step HB2.out hb3)
      have HC3 := Aside0.mk hC3
      have HC4 := Aside0.mk (Kd.C_below HC2.out hb3)
      clear hC3 hb3 HPH HC2 HB2
      have HFI := Aside0.mk (fun X hC => filled_any A2 c2 rc (by omega) hc2 X hC)
      have hfl := Aside0.mk (show (fillL rc).length ≤ rc.length + 511 by rw [fillL_len]; omega)
      generalize fillL rc = fr at *
      go_wp2_with (at_builtin; refine Kd.R_append_rows (Kd.int .u8) (w0 := w1) w1.heap.size rfl (.tmp 35) (.tmp 36) 24 5 (.int .u8 0) 1 rfl Tryz.underlying24 info5 rfl (by decide) (by omega) (.slice none 0 0) ([] : List Int) pb A3 pb.length c3 (fun _ => True) (fun _ => False) rfl rfl (Kd.R_nil _ _ _ _ _) HC3.out (fun _ _ h => h) (fun _ h => h.elim) (fun _ _ => trivial) HB3.out HB3.out.size (by simp only [List.length_nil]; omega) ?_; intro v4 X4 ho hb hg hat; rw [List.nil_append] at ho; obtain ⟨A4, c4, rfl⟩ := Kd.R_slice ho; have HO4 := Aside0.mk ho; have HB4 := Aside0.mk hb; have HC5 := Aside0.mk (Kd.C_below HC4.out (none_below hg)); clear ho hb hg hat)
      refine (HFI.out _ HC5.out).mono ?_
      rintro e X5 ⟨A5, c5, rfl, hc5, hC5, hb5⟩
      have HB5 := Aside0.mk (below_step HB4.out hb5)
      have HO5 := Aside0.mk (Kd.R_below HO4.out hb5)
      have HC6 := Aside0.mk hC5
      clear hC5 hb5 HFI HC5 HB4 HO4 HC3 HC4 HB3
      go_wp2_with (at_builtin; refine Kd.R_append_rows (Kd.int .u8) (w0 := w1) w1.heap.size rfl (.tmp 38) (.tmp 40) 24 5 (.int .u8 0) 1 rfl Tryz.underlying24 info5 rfl (by decide) (by omega) (.slice A4 pb.length c4) pb fr A5 fr.length c5 (fun _ => True) (fun _ => False) rfl rfl HO5.out HC6.out (fun _ _ h => h) (fun _ h => h.elim) (fun _ _ => trivial) HB5.out HB5.out.size (by have := hfl.out; omega) ?_; intro v6 X6 ho hb hg hat; rw [← HME2.out] at ho; obtain ⟨A6, c6, rfl⟩ := Kd.R_slice ho; have HO6 := Aside0.mk ho; have HB6 := Aside0.mk hb; clear ho hb hg hat)
      go_meet
      exact ⟨A6, c6, rfl, HO6, HB6⟩
  case rest =>
    obtain ⟨A3, c3, rfl, HO, HB⟩ := hcut
    have hbx : Blk wc T #[.string p, .int .u8 k, .int .i64 m, .int .i64 t, .slice A b.length c, .string q] 43 := (HB.out.block _ HX0.out.lt).trans HX0.out
    have d1 : wc.cell? ⟨T, 1, none⟩ = some (.int .u8 k) := (Blk.cell hbx 1).trans rfl
    have d2 : wc.cell? ⟨T, 2, none⟩ = some (.int .i64 m) := (Blk.cell hbx 2).trans rfl
    have d3 : wc.cell? ⟨T, 3, none⟩ = some (.int .i64 t) := (Blk.cell hbx 3).trans rfl
    have d4 : wc.cell? ⟨T, 4, none⟩ = some (.slice A b.length c) := (Blk.cell hbx 4).trans rfl
    have hltc := hbx.lt
    have HX3 := Aside0.mk hbx
    clear hbx HB1 HC1
    go_upto_region 8 with (fail)
    go_cut [11] (fun v11 wx => v11 = .pointer (some ⟨wc.heap.size, 0, none⟩) ∧ wx = (wc.alloc (.cells #[.string NoB, .string NoB, .int .i64 m, .int .i64 b.length, .int .i64 t, .int .u8 (typF k), .string NoB] 68)).drew)
    case first =>
      go_region_held3 (fun w' => w'.cell? ⟨T, 1, none⟩ = some (.int .u8 k) ∧ w'.cell? ⟨T, 2, none⟩ = some (.int .i64 m) ∧ w'.cell? ⟨T, 3, none⟩ = some (.int .i64 t) ∧ w'.cell? ⟨T, 4, none⟩ = some (.slice A b.length c)) (first | go_keep | assumption | exact ⟨d1, d2, d3, d4⟩) (first | (go_at_call 63; refine (typed_any k _).mono ?_; rintro e X5 ⟨rfl, rfl⟩) | (go_simp; go_at_call 63; refine (typed_any k _).mono ?_; rintro e X5 ⟨rfl, rfl⟩))
      all_goals (go_wp2_with fail; go_meet; exact ⟨rfl, rfl⟩)
    case rest =>
      as_aux_lemma =>
        rename World => X4
        obtain ⟨rfl, hX4⟩ := hcut
        have HX4 : Aside0 (Blk X4 T #[.string p, .int .u8 k, .int .i64 m, .int .i64 t, .slice A b.length c, .string q] 43) := ⟨by rw [hX4]; exact (HX3.out.alloc _).drewN 1⟩
        have HH4 : Aside0 (Blk X4 wc.heap.size #[.string NoB, .string NoB, .int .i64 m, .int .i64 b.length, .int .i64 t, .int .u8 (typF k), .string NoB] 68) := ⟨by rw [hX4]; exact (Blk.new wc _ _).drewN 1⟩
        have HB4 : Aside0 (Below w1.heap.size w1 X4) := ⟨by rw [hX4]; exact below_drew (below_alloc HB.out _)⟩
        have HO4 : Aside0 (RB X4 w1.heap.size (.slice A3 (moreL L).length c3) (moreL L)) := ⟨by rw [hX4]; exact Kd.R_drew (Kd.R_alloc HO.out _)⟩
        have hTh : T < wc.heap.size := hltc
        have hwh : w1.heap.size ≤ wc.heap.size := HB.out.size
        generalize wc.heap.size = h at *
        clear d1 d2 d3 d4 hltc HX3 hX4 HO HB
        have k5 : X4.cell? ⟨T, 5, none⟩ = some (.string q) := (Blk.cell HX4.out 5).trans rfl
        have kl5 := HX4.out.lt
        go_upto_if 56 with (fail)
        go_cut [] (fun wx => Aside0 (Blk wx T #[.string p, .int .u8 k, .int .i64 m, .int .i64 t, .slice A b.length c, .string q] 43) ∧ Aside0 (Blk wx h #[.string NoB, .string NoB, .int .i64 m, .int .i64 b.length, .int .i64 t, .int .u8 (typF k), .string (lkF q)] 68) ∧ Aside0 (Below w1.heap.size w1 wx) ∧ Aside0 (RB wx w1.heap.size (.slice A3 (moreL L).length c3) (moreL L)))
        case first =>
          by_cases hq : 100 < q.size
          · have elk : lkF q = NoB := by unfold lkF; rw [if_pos hq]
            have hd : decide ((q.size : Int) ≤ 100) = false := decide_eq_false (by omega)
            go_wp2_with fail
            go_meet
            rw [elk]
            exact ⟨HX4, HH4, HB4, HO4⟩
          · have elk : lkF q = q := by unfold lkF; rw [if_neg hq]
            have hd : decide ((q.size : Int) ≤ 100) = true := decide_eq_true (by omega)
            have g6 : X4.frozen? ⟨h, 6, none⟩ = false := Blk.free HH4.out 6
            have g6c : X4.cell? ⟨h, 6, none⟩ = some (.string NoB) := (Blk.cell HH4.out 6).trans rfl
            have hl6 := HH4.out.lt
            have HB5 : Aside0 (Below h X4 (X4.setCell ⟨h, 6, none⟩ (.string q))) := ⟨(Below.refl h X4).setCell (p := ⟨h, 6, none⟩) (Nat.le_refl _) _⟩
            have HH5 : Aside0 (Blk (X4.setCell ⟨h, 6, none⟩ (.string q)) h #[.string NoB, .string NoB, .int .i64 m, .int .i64 b.length, .int .i64 t, .int .u8 (typF k), .string q] 68) := ⟨(HH4.out.set 6 (.string q)).trans rfl⟩
            go_wp2_with fail
            go_meet
            rw [elk]
            exact ⟨⟨(HB5.out.block _ hTh).trans HX4.out⟩, HH5, ⟨HB4.out.trans (HB5.out.mono hwh)⟩, ⟨Kd.R_set HO4.out HH4.out (by decide) 6 _⟩⟩
        case rest =>
          as_aux_lemma =>
            rename World => X5
            clear HX4 HH4 HB4 HO4 k5 kl5
            obtain ⟨HX5, HH5, HB5, HO5⟩ := hcut
            have k0 : X5.cell? ⟨T, 0, none⟩ = some (.string p) := (Blk.cell HX5.out 0).trans rfl
            have kl0 := HX5.out.lt
            go_wp2_with fail
            refine (HCU.out _).mono ?_
            rintro e X6 ⟨rfl, hb⟩
            have HX6 : Aside0 (Blk X6 T #[.string p, .int .u8 k, .int .i64 m, .int .i64 t, .slice A b.length c, .string q] 43) := ⟨(hb.block _ HX5.out.lt).trans HX5.out⟩
            have HH6 : Aside0 (Blk X6 h #[.string NoB, .string NoB, .int .i64 m, .int .i64 b.length, .int .i64 t, .int .u8 (typF k), .string (lkF q)] 68) := ⟨(hb.block _ HH5.out.lt).trans HH5.out⟩
            have HB6 := Aside0.mk (below_step HB5.out hb)
            have HO6 := Aside0.mk (Kd.R_below HO5.out hb)
            clear HX5 HH5 HB5 HO5 hb k0 kl0 HCU
            have k6 : X6.cell? ⟨T, 0, none⟩ = some (.string p) := (Blk.cell HX6.out 0).trans rfl
            have kl6 := HX6.out.lt
            go_upto_if 62 with (fail)
            go_cut [] (fun wx => Aside0 (Blk wx T #[.string p, .int .u8 k, .int .i64 m, .int .i64 t, .slice A b.length c, .string q] 43) ∧ Aside0 (Blk wx h #[.string s2, .string s1, .int .i64 m, .int .i64 b.length, .int .i64 t, .int .u8 (typF k), .string (lkF q)] 68) ∧ Aside0 (Below w1.heap.size w1 wx) ∧ Aside0 (RB wx w1.heap.size (.slice A3 (moreL L).length c3) (moreL L)))
            case first =>
              by_cases hs : s3 = 0
              · subst hs
                go_wp2_with fail
                refine (HSP.out _).mono ?_
                rintro e X7 ⟨rfl, hb⟩
                have HX7 : Aside0 (Blk X7 T #[.string p, .int .u8 k, .int .i64 m, .int .i64 t, .slice A b.length c, .string q] 43) := ⟨(hb.block _ HX6.out.lt).trans HX6.out⟩
                have hH7 : Blk X7 h #[.string NoB, .string NoB, .int .i64 m, .int .i64 b.length, .int .i64 t, .int .u8 (typF k), .string (lkF q)] 68 := (hb.block _ HH6.out.lt).trans HH6.out
                have HB7 := Aside0.mk (below_step HB6.out hb)
                have HO7 := Aside0.mk (Kd.R_below HO6.out hb)
                have g0 : X7.cell? ⟨h, 0, none⟩ = some (.string NoB) := (Blk.cell hH7 0).trans rfl
                have g1 : X7.cell? ⟨h, 1, none⟩ = some (.string NoB) := (Blk.cell hH7 1).trans rfl
                have gf0 : X7.frozen? ⟨h, 0, none⟩ = false := Blk.free hH7 0
                have gf1 : X7.frozen? ⟨h, 1, none⟩ = false := Blk.free hH7 1
                have hlh := hH7.lt
                have HB8 : Aside0 (Below h X7 ((X7.setCell ⟨h, 1, none⟩ (.string s1)).setCell ⟨h, 0, none⟩ (.string s2))) := ⟨((Below.refl h X7).setCell (p := ⟨h, 1, none⟩) (Nat.le_refl _) _).setCell (p := ⟨h, 0, none⟩) (Nat.le_refl _) _⟩
                have HH7 := Aside0.mk hH7
                have HH8 : Aside0 (Blk ((X7.setCell ⟨h, 1, none⟩ (.string s1)).setCell ⟨h, 0, none⟩ (.string s2)) h #[.string s2, .string s1, .int .i64 m, .int .i64 b.length, .int .i64 t, .int .u8 (typF k), .string (lkF q)] 68) := ⟨((hH7.set 1 (.string s1)).set 0 (.string s2)).trans rfl⟩
                clear hb hH7 HX6 HH6 HB6 HO6 k6 kl6
                go_wp2_with fail
                go_meet
                exact ⟨⟨(HB8.out.block _ hTh).trans HX7.out⟩, HH8, ⟨HB7.out.trans (HB8.out.mono hwh)⟩, ⟨Kd.R_set (Kd.R_set HO7.out HH7.out (by decide) 1 _) (HH7.out.set 1 _) (by decide) 0 _⟩⟩
              · obtain ⟨rfl, rfl⟩ := HSN.out hs
                have hb : (s3 == 0) = false := beq_eq_false_iff_ne.2 hs
                go_wp2_with fail
                go_meet
                exact ⟨HX6, HH6, HB6, HO6⟩
            case rest =>
              as_aux_lemma =>
                rename World => X7
                clear HX6 HH6 HB6 HO6 k6 kl6 HSP
                obtain ⟨HX7, HH7, HB7, HO7⟩ := hcut
                have e0 : X7.cell? ⟨h, 0, none⟩ = some (.string s2) := (Blk.cell HH7.out 0).trans rfl
                have e1 : X7.cell? ⟨h, 1, none⟩ = some (.string s1) := (Blk.cell HH7.out 1).trans rfl
                have e2 : X7.cell? ⟨h, 2, none⟩ = some (.int .i64 m) := (Blk.cell HH7.out 2).trans rfl
                have e3 : X7.cell? ⟨h, 3, none⟩ = some (.int .i64 b.length) := (Blk.cell HH7.out 3).trans rfl
                have e4 : X7.cell? ⟨h, 4, none⟩ = some (.int .i64 t) := (Blk.cell HH7.out 4).trans rfl
                have e5 : X7.cell? ⟨h, 5, none⟩ = some (.int .u8 (typF k)) := (Blk.cell HH7.out 5).trans rfl
                have e6 : X7.cell? ⟨h, 6, none⟩ = some (.string (lkF q)) := (Blk.cell HH7.out 6).trans rfl
                have hle := HH7.out.lt
                have HPH := Aside0.mk (fun X => headR_any s2 s1 m b.length t (typF k) (lkF q) X)
                have hph := putH_len s2 s1 m b.length t (typF k) (lkF q)
                rw [putH_fill] at HPI
                generalize putH s2 s1 m b.length t (typF k) (lkF q) = PP at *
                obtain ⟨pb, pe2⟩ := PP
                simp only at HPI HPH hph
                go_wp2_with fail
                refine (HPH.out _).mono ?_
                rintro e X8 ⟨A8, c8, rfl, hc8, hC8, hb⟩
                have HX8 : Aside0 (Blk X8 T #[.string p, .int .u8 k, .int .i64 m, .int .i64 t, .slice A b.length c, .string q] 43) := ⟨(hb.block _ HX7.out.lt).trans HX7.out⟩
                have HB8 := Aside0.mk (below_step HB7.out hb)
                have HO8 := Aside0.mk (Kd.R_below HO7.out hb)
                have HC8 := Aside0.mk hC8
                have hT1 : T < w1.heap.size := HX0.out.lt
                clear e0 e1 e2 e3 e4 e5 e6 hle HPH HX7 HH7 HB7 HO7 hb hC8
                have hml := HML.out
                generalize moreL L = ML at *
                go_wp2_with (at_builtin; refine Kd.R_append_rows (Kd.int .u8) (w0 := w1) w1.heap.size rfl (.tmp 77) (.tmp 78) 24 5 (.int .u8 0) 1 rfl Tryz.underlying24 info5 rfl (by decide) (by omega) (.slice A3 ML.length c3) ML pb A8 pb.length c8 (fun _ => True) (fun _ => False) rfl rfl HO8.out HC8.out (fun _ _ h => h) (fun _ h => h.elim) (fun _ _ => trivial) HB8.out HB8.out.size (by omega) ?_; intro v9 X9 ho hb hg hat; obtain ⟨L9, hL9⟩ : ∃ L9, ML ++ pb = L9 := ⟨_, rfl⟩; have HL9 : Aside0 (L9.length = ML.length + pb.length) := ⟨by rw [← hL9, List.length_append]⟩; have HM9 := Aside0.mk hL9; rw [hL9] at ho; obtain ⟨A9, c9, rfl⟩ := Kd.R_slice ho; have HO9 := Aside0.mk ho; have HB9 := Aside0.mk hb; have HX9 : Aside0 (Blk X9 T #[.string p, .int .u8 k, .int .i64 m, .int .i64 t, .slice A b.length c, .string q] 43) := ⟨(hb.block _ hT1).trans HX0.out⟩; have q4 : X9.cell? ⟨T, 4, none⟩ = some (.slice A b.length c) := (Blk.cell HX9.out 4).trans rfl; have ql4 := HX9.out.lt; clear ho hb hg hat hL9)
                refine (filled_any A c b (by omega) hc _ (Kd.C_below HC0.out HB9.out)).mono ?_
                rintro e X10 ⟨A10, c10, rfl, hc10, hC10, hb⟩
                have HB10 := Aside0.mk (below_step HB9.out hb)
                have HO10 := Aside0.mk (Kd.R_below HO9.out hb)
                have HC10 := Aside0.mk hC10
                have hfl := Aside0.mk (show (fillL b).length ≤ b.length + 511 by rw [fillL_len]; omega)
                have HPI2 : Aside0 (PC = L9 ++ fillL b) := ⟨by rw [HPI.out, ← HM9.out, List.append_assoc]⟩
                generalize fillL b = fb at *
                clear hb hC10 q4 ql4
                go_wp2_with (at_builtin; refine Kd.R_append_rows (Kd.int .u8) (w0 := w1) w1.heap.size rfl (.tmp 80) (.tmp 83) 24 5 (.int .u8 0) 1 rfl Tryz.underlying24 info5 rfl (by decide) (by omega) (.slice A9 L9.length c9) L9 fb A10 fb.length c10 (fun _ => True) (fun _ => False) rfl rfl HO10.out HC10.out (fun _ _ h => h) (fun _ h => h.elim) (fun _ _ => trivial) HB10.out HB10.out.size (by have := hfl.out; have := HL9.out; omega) ?_; intro v11 X11 ho hb hg hat; rw [← HPI2.out] at ho; have HO11 := Aside0.mk ho; obtain ⟨A11, c11, rfl, hc11, hC11⟩ := Kd.R_reads ho; have HB11 := Aside0.mk hb; have HC11 := Aside0.mk hC11; clear ho hb hg hat hC11)
                rw [HE.out]
                exact ⟨A11, c11, rfl, hc11, HC11.out, below_step HBW.out HB11.out⟩
end Go.Proofs.YtopehfjohifpnaaGreatDoor.Mine
end
section
set_option linter.unusedSimpArgs false
set_option linter.unusedVariables false
namespace Go.Proofs.YtopehfjohifpnaaGreatDoor.Mine
open Go.RowKit Go.Shelf Go.Proofs.YtopehfjohifpnaaGreatDoorW.PrintWords Go.Proofs.YtopehfjohifpnaaGreatDoorW.PrintLast Go.Proofs.YtopehfjohifpnaaGreatDoorW.PrintMore Go.Proofs.YtopehfjohifpnaaGreatDoor.Turn Go.Proofs.YtopehfjohifpnaaGreatDoor.Doc
theorem nil_C (W : World) : Kd.C (Kd.int .u8) W none 0 [] := by
  obtain ⟨A', c', e, hc, hC⟩ := Kd.R_reads (Kd.R_nil (Kd.int .u8) 5 W 0 (fun _ => True))
  cases e
  exact hC
theorem checkR_any (A : Option Addr) (c : Nat) (l : List S43) (hc : l.length ≤ c) (w : World) (hr : Kd.C k43 w A l.length l) :
    Calls Tryz.prog 32 #[.slice A l.length c] w fun e w' => e = .returned (.tuple #[.int .i64 (checkT l).1, .int .i64 (checkT l).2]) ∧ Below w.heap.size w w' :=
  tabularyref11_Check.calls 9000 A c l _ _ w hr hc (checkT_f l 9000 (Nat.le_refl _))
def EndsWriteR (w : World) (r : List Int × Int × Int) (e : Ending) (w' : World) : Prop :=
  ∃ A c, e = .returned (.tuple #[.slice A r.1.length c, .int .i64 r.2.1, .int .i64 r.2.2]) ∧ r.1.length ≤ c ∧ Kd.C (Kd.int .u8) w' A r.1.length r.1 ∧ Below w.heap.size w w'
set_option maxRecDepth 100000 in
set_option maxHeartbeats 8000000 in
theorem writeR_any (A : Option Addr) (c : Nat) (l : List S43) (hc : l.length ≤ c) (w : World) (hr : Kd.C k43 w A l.length l) :
    Calls Tryz.prog 11 #[.slice A l.length c] w (EndsWriteR w (writeF l)) := by
  have HR := Aside0.mk hr
  have HCK := Aside0.mk (checkR_any A c l hc w hr)
  have HW : Aside0 (writeF l = if (checkT l).2 ≠ 0 then ([], (checkT l).1, (checkT l).2) else volG l l.length 0 []) := ⟨rfl⟩
  have HOK : Aside0 ((checkT l).2 = 0 → l.length ≤ 256 ∧ ∀ i, i < l.length → mayX (itm l i) = 0) := ⟨checkT_ok⟩
  have HE : Aside0 (EndsWriteR w (writeF l) = fun e w' => ∃ A c, e = .returned (.tuple #[.slice A (writeF l).1.length c, .int .i64 (writeF l).2.1, .int .i64 (writeF l).2.2]) ∧ (writeF l).1.length ≤ c ∧ Kd.C (Kd.int .u8) w' A (writeF l).1.length (writeF l).1 ∧ Below w.heap.size w w') := ⟨rfl⟩
  obtain ⟨PE, hPE⟩ : ∃ PE, EndsWriteR w (writeF l) = PE := ⟨_, rfl⟩
  rw [hPE] at HE ⊢
  generalize writeF l = R at *
  obtain ⟨ct, hct⟩ : ∃ ct, checkT l = ct := ⟨_, rfl⟩
  rw [hct] at HCK HW HOK
  obtain ⟨ca, ce⟩ := ct
  simp only at HCK HW HOK
  clear hr hPE hct hc
  go_enter Tryz.func11, Tryz.ntmps11
  go_wp2_with fail
  refine HCK.out.mono ?_
  rintro e w1 ⟨rfl, hb⟩
  have HB1 := Aside0.mk hb
  clear hb HCK
  by_cases h0 : ce = 0
  case neg =>
    have hne : (ce != 0) = true := bne_iff_ne.2 h0
    have HY : Aside0 (R = ([], ca, ce)) := ⟨by rw [HW.out, if_pos h0]⟩
    clear HW HOK
    go_wp2_with fail
    go_ret3
    rw [HE.out, HY.out]
    exact ⟨none, 0, rfl, Nat.le_refl _, nil_C _, HB1.out⟩
  case pos =>
    subst h0
    have HY : Aside0 (R = volG l l.length 0 []) := ⟨by rw [HW.out, if_neg (fun e => e rfl)]⟩
    have hl := (HOK.out rfl).1
    have HM := Aside0.mk (HOK.out rfl).2
    clear HW HOK
    go_wp2_with fail
    go_loopw [7, 8] (fun v u X => ∃ (i : Nat) (acc : List Int) (Av : Option Addr) (cv : Nat), i ≤ l.length ∧ acc.length ≤ 131072 ∧ u = .int .i64 i ∧ v = .slice Av acc.length cv ∧ Aside0 (RB X w.heap.size (.slice Av acc.length cv) acc) ∧ Aside0 (Below w.heap.size w X) ∧ Aside0 (R = volG l (l.length - i) i acc)) (fun _ u _ => l.length - (intOf u).toNat)
    case atStart => exact ⟨0, [], none, 0, Nat.zero_le _, by simp, rfl, rfl, ⟨Kd.R_nil _ _ _ _ _⟩, HB1, HY⟩
    case round =>
      clear HB1 HY
      rename World => X
      obtain ⟨i, acc, Av, cv, hi, hal, rfl, rfl, HO, HB, HY⟩ := hrel
      by_cases hlt : i < l.length
      · have HY2 : Aside0 (R = if 131072 < (acc ++ piecesF (itm l i)).length + 1024 then ([], (i : Int), 2) else volG l (l.length - (i + 1)) (i + 1) (acc ++ piecesF (itm l i))) := ⟨by rw [HY.out, show l.length - i = (l.length - (i + 1)) + 1 by omega]; rfl⟩
        obtain ⟨ad, A4, c4, e, g0, g1, g2, g3, g4, g5, h6, h7⟩ := cells_I (Kd.C_below HR.out HB.out) hlt
        subst e
        have hm0 := HM.out i hlt
        have hpl := pieces_len hm0
        have hbl := World.block_lt_of_cell? _ _ g0
        have HIT := Aside0.mk (piecesR_any (itm l i) hm0 A4 c4 X h7 h6)
        generalize piecesF (itm l i) = pc at *
        clear HY hm0 h7
        obtain ⟨x, hx⟩ : ∃ x, itm l i = x := ⟨_, rfl⟩
        rw [hx] at g0 g1 g2 g3 g4 g5 HIT h6
        clear hx
        obtain ⟨p, k, m, t, bd, q⟩ := x
        simp only at g0 g1 g2 g3 g4 g5 HIT h6
        go_wp2_with fail
        refine HIT.out.mono ?_
        rintro e X2 ⟨A2, c2, rfl, hc2, hC2, hb⟩
        have HB2 := Aside0.mk (below_step HB.out hb)
        have HO2 := Aside0.mk (Kd.R_below HO.out hb)
        have HC2 := Aside0.mk hC2
        clear hb hC2 HIT HO HB g0 g1 g2 g3 g4 g5
        obtain ⟨L2, hL2⟩ : ∃ L2, acc ++ pc = L2 := ⟨_, rfl⟩
        have hll : L2.length = acc.length + pc.length := by rw [← hL2, List.length_append]
        have HLL := Aside0.mk hll
        have HL2 := Aside0.mk hL2
        rw [hL2] at HY2
        clear hL2 hll
        have hlen : L2.length ≤ 400000 := by have := HLL.out; omega
        by_cases hbig : 131072 < L2.length + 1024
        · have HZ : Aside0 (R = ([], (i : Int), 2)) := ⟨by rw [HY2.out, if_pos hbig]⟩
          have hd : decide ((131072 : Int) < (L2.length : Int) + 1024) = true := decide_eq_true (by omega)
          clear HY2 hbig
          go_wp2_with (at_builtin; refine Kd.R_append_rows (Kd.int .u8) (w0 := w) w.heap.size rfl (.tmp 24) (.tmp 29) 24 5 (.int .u8 0) 1 rfl Tryz.underlying24 info5 rfl (by decide) (by omega) (.slice Av acc.length cv) acc pc A2 pc.length c2 (fun _ => True) (fun _ => False) rfl rfl HO2.out HC2.out (fun _ _ h => h) (fun _ h => h.elim) (fun _ _ => trivial) HB2.out HB2.out.size (by omega) ?_; intro v4 X4 ho hb hg hat; rw [HL2.out] at ho; obtain ⟨A5, c5, rfl⟩ := Kd.R_slice ho; have HO4 := Aside0.mk ho; have HB4 := Aside0.mk hb; clear ho hb hg hat)
          go_ret3
          rw [HE.out, HZ.out]
          exact ⟨none, 0, rfl, Nat.le_refl _, nil_C _, HB4.out⟩
        · have HZ : Aside0 (R = volG l (l.length - (i + 1)) (i + 1) L2) := ⟨by rw [HY2.out, if_neg hbig]⟩
          have hd : decide ((131072 : Int) < (L2.length : Int) + 1024) = false := decide_eq_false (by omega)
          have hle : L2.length ≤ 131072 := by omega
          clear HY2 hbig
          go_wp2_with (at_builtin; refine Kd.R_append_rows (Kd.int .u8) (w0 := w) w.heap.size rfl (.tmp 24) (.tmp 29) 24 5 (.int .u8 0) 1 rfl Tryz.underlying24 info5 rfl (by decide) (by omega) (.slice Av acc.length cv) acc pc A2 pc.length c2 (fun _ => True) (fun _ => False) rfl rfl HO2.out HC2.out (fun _ _ h => h) (fun _ h => h.elim) (fun _ _ => trivial) HB2.out HB2.out.size (by omega) ?_; intro v4 X4 ho hb hg hat; rw [HL2.out] at ho; obtain ⟨A5, c5, rfl⟩ := Kd.R_slice ho; have HO4 := Aside0.mk ho; have HB4 := Aside0.mk hb; clear ho hb hg hat)
          go_roundw
          case rel => exact ⟨i + 1, L2, A5, c5, by omega, hle, by go_num, rfl, HO4, HB4, HZ⟩
          case measure => simp [intOf]; omega
      · obtain rfl : i = l.length := by omega
        have HZ : Aside0 (R = (acc ++ zs 1024, 0, 0)) := ⟨by rw [HY.out, Nat.sub_self]; rfl⟩
        clear HY
        go_wp2_with (at_builtin; refine Kd.R_append_zeros (Kd.int .u8) (w0 := w) w.heap.size rfl (.tmp 36) (.const (.int .i64 1024)) 24 3 5 (.int .u8 0) 1 rfl Tryz.underlying24 Tryz.underlying3 info5 rfl (by decide) (by omega) (.slice Av acc.length cv) acc 0 1024 (fun _ => True) rfl rfl rfl (fun _ _ => trivial) HO.out (by omega) HB.out HB.out.size (by omega) ?_; intro v1 w1 ho hb hg hat; obtain ⟨A5, c5, rfl, hc5, hC5⟩ := Kd.R_reads ho; have HC5 := Aside0.mk hC5; have HC6 := Aside0.mk hc5; have HB5 := Aside0.mk hb; clear ho hb hg hat hC5 hc5)
        go_ret3
        rw [HE.out, HZ.out]
        exact ⟨A5, c5, by simp only [List.length_append, zs_length]; rfl, HC6.out, HC5.out, HB5.out⟩
end Go.Proofs.YtopehfjohifpnaaGreatDoor.Mine
end
section
set_option linter.unusedSimpArgs false
set_option linter.unusedVariables false
namespace Go.Proofs.YtopehfjohifpnaaGreatDoor.Mine
open Go.RowKit Go.Shelf Go.Proofs.YtopehfjohifpnaaGreatDoorW.PrintWords Go.Proofs.YtopehfjohifpnaaGreatDoorW.PrintLast Go.Proofs.YtopehfjohifpnaaGreatDoorW.PrintMore Go.Proofs.YtopehfjohifpnaaGreatDoor.Turn Go.Proofs.YtopehfjohifpnaaGreatDoor.Doc
def kRoom (e : Nat) : Kd (List Int × List Int) where
  sz := 1
  E := e :: (Kd.int .u8).E
  K := fun w x cs => ∃ A c, cs = [.slice A x.1.length c] ∧ (x.1 ++ x.2).length ≤ c ∧ Kd.C (Kd.int .u8) w A (x.1 ++ x.2).length (x.1 ++ x.2)
  M := fun w base ok x cs => ∃ A c, cs = [.slice A x.1.length c] ∧ Kd.R (Kd.int .u8) e w base ok (.slice A (x.1 ++ x.2).length c) (x.1 ++ x.2)
  K_len := by
    rintro w x cs ⟨A, c, rfl, _⟩
    rfl
  K_one := by
    rintro w x cs ⟨A, c, rfl, _⟩ u hu
    rw [List.mem_singleton.1 hu]
    rfl
  K_below := by
    rintro w w1 x cs hb ⟨A, c, rfl, hl, hr⟩
    exact ⟨A, c, rfl, hl, Kd.C_below hr hb⟩
  K_of_M := by
    rintro w base ok x cs ⟨A, c, rfl, h⟩
    obtain ⟨A', c', e, hl, hr⟩ := Kd.R_reads h
    injection e with e1 e2 e3
    subst e1 e3
    exact ⟨A, c, rfl, hl, hr⟩
  M_mono := by
    rintro w base ok ok' x cs hok ⟨A, c, rfl, h⟩
    exact ⟨A, c, rfl, Kd.R_mono h hok⟩
  M_bound := by
    rintro w base ok x cs ⟨A, c, rfl, h⟩
    exact ⟨A, c, rfl, Kd.R_bound h⟩
  M_move := by
    rintro w w1 base ok x cs hm ⟨A, c, rfl, h⟩
    exact ⟨A, c, rfl, Kd.R_move h hm⟩
  M_lower := by
    rintro w base base' ok x cs hb ⟨A, c, rfl, h⟩
    exact ⟨A, c, rfl, Kd.R_lower h hb⟩
def kM : Kd (S43 × List Int) := Kd.iso (Kd.pair Kd.string (Kd.pair (Kd.int .u8) (Kd.pair (Kd.int .i64) (Kd.pair (Kd.int .i64) (Kd.pair (kRoom 5) Kd.string))))) (fun y : S43 × List Int => (y.1.f0, y.1.f1, y.1.f2, y.1.f3, (y.1.f4, y.2), y.1.f5))
theorem kM_open {w : World} {y : S43 × List Int} {cs : List Value} (h : kM.K w y cs) : ∃ A4 c4, cs = [.string y.1.f0, .int .u8 y.1.f1, .int .i64 y.1.f2, .int .i64 y.1.f3, .slice A4 y.1.f4.length c4, .string y.1.f5] ∧ (y.1.f4 ++ y.2).length ≤ c4 ∧ (Kd.int .u8).C w A4 (y.1.f4 ++ y.2).length (y.1.f4 ++ y.2) := by
  obtain ⟨_, _, rfl, rfl, ⟨_, _, rfl, rfl, ⟨_, _, rfl, rfl, ⟨_, _, rfl, rfl, ⟨_, _, rfl, ⟨A4, c4, rfl, l4, g4⟩, rfl⟩⟩⟩⟩⟩ := h
  exact ⟨A4, c4, rfl, l4, g4⟩
theorem kM_mkM (w : World) (base : Nat) (ok : Nat → Prop) (x : S43) (r : List Int) {A4 : Option Addr} {c4 : Nat} (g4 : (Kd.int .u8).R 5 w base ok (.slice A4 (x.f4 ++ r).length c4) (x.f4 ++ r)) : kM.M w base ok (x, r) [.string x.f0, .int .u8 x.f1, .int .i64 x.f2, .int .i64 x.f3, .slice A4 x.f4.length c4, .string x.f5] :=
  ⟨[.string x.f0], [.int .u8 x.f1, .int .i64 x.f2, .int .i64 x.f3, .slice A4 x.f4.length c4, .string x.f5], rfl, rfl, ⟨[.int .u8 x.f1], [.int .i64 x.f2, .int .i64 x.f3, .slice A4 x.f4.length c4, .string x.f5], rfl, rfl, ⟨[.int .i64 x.f2], [.int .i64 x.f3, .slice A4 x.f4.length c4, .string x.f5], rfl, rfl, ⟨[.int .i64 x.f3], [.slice A4 x.f4.length c4, .string x.f5], rfl, rfl, ⟨[.slice A4 x.f4.length c4], [.string x.f5], rfl, ⟨A4, c4, rfl, g4⟩, rfl⟩⟩⟩⟩⟩
theorem kM_item {w : World} {y : S43 × List Int} {cs : List Value} (h : kM.K w y cs) : k43.K w y.1 cs := by
  obtain ⟨A4, c4, rfl, hl, hC⟩ := kM_open h
  have h2 := Kd.C_take (m := y.1.f4.length) hC (by simp)
  rw [List.take_left'] at h2
  · exact k43_mk w y.1 (by rw [List.length_append] at hl; omega) h2
  · rfl
def markI : S43 := ⟨⟨#[109, 97, 114, 107]⟩, 0, 0, 0, [], ⟨#[]⟩⟩
def lentL (l : List S43) : List (S43 × List Int) := l.map (fun x => (x, [201]))
theorem lent_C {w : World} {A : Option Addr} {l : List S43} {rest : List (S43 × List Int)} (h : Kd.C kM w A (lentL l ++ rest).length (lentL l ++ rest)) : Kd.C k43 w A l.length l := by
  refine ⟨rfl, ?_, fun hp => ?_⟩
  · have := h.2.1
    rw [List.length_append, lentL, List.length_map] at this
    omega
  · obtain ⟨ad, e, hc⟩ := h.2.2 (by rw [List.length_append, lentL, List.length_map]; omega)
    refine ⟨ad, e, fun j p hj => ?_⟩
    obtain ⟨c, hs, hr, hcell⟩ := hc j (p, [201]) (by
      obtain ⟨hl, hp2⟩ := List.getElem?_eq_some_iff.1 hj
      rw [List.getElem?_append_left (by rw [lentL, List.length_map]; exact hl), lentL, List.getElem?_map, hj]
      rfl)
    exact ⟨c, hs, kM_item hr, hcell⟩
end Go.Proofs.YtopehfjohifpnaaGreatDoor.Mine
end
