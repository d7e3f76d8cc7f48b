import Derived.Test.YtopehfjohifpnaaGreatDoorZ27
section
set_option linter.unusedSimpArgs false
set_option linter.unusedVariables false
namespace Go.Proofs.YtopehfjohifpnaaGreatDoor.Mine
open Go.RowKit Go.Shelf Go.Proofs.YtopehfjohifpnaaGreatDoorW.PrintWords Go.Proofs.YtopehfjohifpnaaGreatDoorW.PrintLast Go.Proofs.YtopehfjohifpnaaGreatDoorW.PrintMore Go.Proofs.YtopehfjohifpnaaGreatDoor.Turn Go.Proofs.YtopehfjohifpnaaGreatDoor.Doc
def EndsItem (W0 W : World) (T : Nat) (v0 : Value) (l : List Int) (e : Ending) (X : World) : Prop := e = .returned (.tuple #[]) ∧ ∃ v, Zt W0 W X T v0 v l
set_option maxRecDepth 100000 in
set_option maxHeartbeats 8000000 in
theorem item_any {T : Nat} {v0 : Value} {l : List Int} (x : S43) (hm : mayX x = 0) (A : Option Addr) (c : Nat) (i0 : Int) (W0 W : World) (hT : Tape W T W0.heap.size v0 l) (hTb : W0.heap.size ≤ T) (hB : Below W0.heap.size W0 W) (hV : Vars W0 i0)
    (hC : Kd.C (Kd.int .u8) W0 A x.f4.length x.f4) (hc : x.f4.length ≤ c) (hl : l.length ≤ 1000000) :
    Calls Tryz.prog 29 #[.pointer (some ⟨T, 0, none⟩), .agg #[.string x.f0, .int .u8 x.f1, .int .i64 x.f2, .int .i64 x.f3, .slice A x.f4.length c, .string x.f5]] W (EndsItem W0 W T v0 (l ++ piecesF x)) := by
  obtain ⟨HME, hk, -⟩ := may_t hm
  have hps := may_path hm
  have hqs := may_q hm
  have hbs := may_body hm
  have HSM := Aside0.mk (pairs_small hm)
  have HPL : Aside0 ((pairsF x.f0 x.f1 x.f2 x.f3 x.f4.length x.f5).1.length ≤ 2) := ⟨by
    unfold pairsF pairsL
    split
    · simp
    · split <;> split <;> simp⟩
  have HPI : Aside0 (piecesF x = moreL (pairsF x.f0 x.f1 x.f2 x.f3 x.f4.length x.f5).1 ++ (fillL (putH (splitF x.f0).2.1 (splitF x.f0).1 x.f2 x.f4.length x.f3 (typF x.f1) (lkF x.f5)).1 ++ fillL x.f4)) := ⟨rfl⟩
  generalize piecesF x = PC at *
  have HE : Aside0 (EndsItem W0 W T v0 (l ++ PC) = fun e X => e = .returned (.tuple #[]) ∧ ∃ v, Zt W0 W X T v0 v (l ++ PC)) := ⟨rfl⟩
  obtain ⟨PE, hPE⟩ : ∃ PE, EndsItem W0 W T v0 (l ++ PC) = PE := ⟨_, rfl⟩
  rw [hPE] at HE ⊢
  clear hPE
  obtain ⟨p, k, m, t, b, q⟩ := x
  simp only at *
  have HV := Aside0.mk hV
  have HC0 := Aside0.mk hC
  have hz := hT.own_rg
  have HZ0 : Aside0 (Zt W0 W (W.alloc (.cells #[.string p, .int .u8 k, .int .i64 m, .int .i64 t, .slice A b.length c, .string q] 43)) T v0 v0 l) := ⟨(⟨hT, hB, Turned.refl _ _, .inl rfl⟩ : Zt W0 W W T v0 v0 l).step (below_alloc (Below.refl _ W) _)⟩
  have hx0 := Blk.new W #[.string p, .int .u8 k, .int .i64 m, .int .i64 t, .slice A b.length c, .string q] 43
  have hTl := Blk.lt hT.1
  have HPA := Aside0.mk (fun X h => pairs_any p k m t A b.length c q i0 X h)
  generalize pairsF p k m t b.length q = PF at *
  obtain ⟨L, pe⟩ := PF
  simp only at HPL HSM HPI HPA
  have HML : Aside0 ((moreL L).length ≤ 80000) := ⟨by
    unfold moreL
    split
    · simp
    · have h1 := putF_len L
      have h2 : (putH MoreB NoB 0 (putF L).1.length 0 120 NoB).1.length ≤ 512 := putH_len _ _ _ _ _ _ _
      rw [List.length_append, fillL_len, fillL_len]
      omega⟩
  have HSP := Aside0.mk (fun X => split_any p X)
  generalize splitF p = sf at *
  obtain ⟨s1, s2, s3⟩ := sf
  simp only at HPI HSP
  clear hT hB hV hC hm
  have c0 := (Blk.cell hx0 0).trans rfl
  have c1 := (Blk.cell hx0 1).trans rfl
  have c2 := (Blk.cell hx0 2).trans rfl
  have c3 := (Blk.cell hx0 3).trans rfl
  have c4 := (Blk.cell hx0 4).trans rfl
  have c5 := (Blk.cell hx0 5).trans rfl
  have hlt := hx0.lt
  have HX0 := Aside0.mk hx0
  clear hx0
  go_enter Tryz.func29, Tryz.ntmps29
  go_wp2_with fail
  refine (HPA.out _ ((HV.out.below HZ0.out.bel).len)).mono ?_
  rintro e X1 ⟨A1, c1', rfl, hC1, hb⟩
  have HZ1 := Aside0.mk (HZ0.out.step hb)
  have hx1 : Blk X1 W.heap.size #[.string p, .int .u8 k, .int .i64 m, .int .i64 t, .slice A b.length c, .string q] 43 := (hb.block _ HX0.out.lt).trans HX0.out
  have HC1 := Aside0.mk hC1
  have HX1 := Aside0.mk hx1
  clear hb hC1 c0 c1 c2 c3 c4 c5 HPA HZ0 HX0
  have d0 := (Blk.cell hx1 0).trans rfl
  have d1 := (Blk.cell hx1 1).trans rfl
  have d2 := (Blk.cell hx1 2).trans rfl
  have d3 := (Blk.cell hx1 3).trans rfl
  have d4 := (Blk.cell hx1 4).trans rfl
  have d5 := (Blk.cell hx1 5).trans rfl
  have hlt1 := hx1.lt
  clear hx1
  obtain ⟨kn, rfl⟩ : ∃ kn : Nat, k = kn := ⟨k.toNat, by omega⟩
  have hty := (HV.out.below HZ1.out.bel).typ kn (by omega) (by omega)
  have htl := World.block_lt_of_cell? _ _ hty
  have hkn : kn < 5 := by omega
  go_wp2_with fail
  go_region
  as_aux_lemma =>
    have HZ2 := Aside0.mk (HZ1.out.step (below_drew (below_alloc (Below.refl _ X1) (.cells #[.string NoB, .string NoB, .int .i64 m, .int .i64 b.length, .int .i64 t, .int .u8 (typF kn), .string q] 68))))
    have HX2 : Aside0 (Blk (X1.alloc (.cells #[.string NoB, .string NoB, .int .i64 m, .int .i64 b.length, .int .i64 t, .int .u8 (typF kn), .string q] 68)).drew W.heap.size #[.string p, .int .u8 kn, .int .i64 m, .int .i64 t, .slice A b.length c, .string q] 43) := ⟨(HX1.out.alloc _).drewN 1⟩
    have HH2 : Aside0 (Blk (X1.alloc (.cells #[.string NoB, .string NoB, .int .i64 m, .int .i64 b.length, .int .i64 t, .int .u8 (typF kn), .string q] 68)).drew X1.heap.size #[.string NoB, .string NoB, .int .i64 m, .int .i64 b.length, .int .i64 t, .int .u8 (typF kn), .string q] 68) := ⟨(Blk.new X1 _ _).drewN 1⟩
    have HBX2 := Aside0.mk (below_drew (below_alloc (Below.refl X1.heap.size X1) (.cells #[.string NoB, .string NoB, .int .i64 m, .int .i64 b.length, .int .i64 t, .int .u8 (typF kn), .string q] 68)))
    have hh : W.heap.size < X1.heap.size := hlt1
    obtain ⟨h, hhe⟩ : ∃ h, X1.heap.size = h := ⟨_, rfl⟩
    rw [hhe] at HH2 hh HBX2 ⊢
    have HHE := Aside0.mk hhe
    clear d0 d1 d2 d3 d4 d5 hlt1 HZ1 HX1 hty htl hhe hlt
    generalize (X1.alloc (.cells #[.string NoB, .string NoB, .int .i64 m, .int .i64 b.length, .int .i64 t, .int .u8 (typF kn), .string q] 68)).drew = X2 at *
    as_aux_lemma =>
      have d0 : X2.cell? ⟨W.heap.size, 0, none⟩ = some (.string p) := (Blk.cell HX2.out 0).trans rfl
      have hlt2 := HX2.out.lt
      go_wp2_with fail
      refine (HSP.out _).mono ?_
      rintro e X3 ⟨rfl, hb⟩
      have HZ3 := Aside0.mk (HZ2.out.step hb)
      have HX3 : Aside0 (Blk X3 W.heap.size #[.string p, .int .u8 kn, .int .i64 m, .int .i64 t, .slice A b.length c, .string q] 43) := ⟨(hb.block _ HX2.out.lt).trans HX2.out⟩
      have hH3 : Blk X3 h #[.string NoB, .string NoB, .int .i64 m, .int .i64 b.length, .int .i64 t, .int .u8 (typF kn), .string q] 68 := (hb.block _ HH2.out.lt).trans HH2.out
      have HBX3 := Aside0.mk (HBX2.out.trans (hb.mono (by have := HBX2.out.size; have := HHE.out; omega)))
      have g0 : X3.cell? ⟨h, 0, none⟩ = some (.string NoB) := (Blk.cell hH3 0).trans rfl
      have g1 : X3.cell? ⟨h, 1, none⟩ = some (.string NoB) := (Blk.cell hH3 1).trans rfl
      have gf0 : X3.frozen? ⟨h, 0, none⟩ = false := Blk.free hH3 0
      have gf1 : X3.frozen? ⟨h, 1, none⟩ = false := Blk.free hH3 1
      have hlh := hH3.lt
      have k5 : X3.cell? ⟨W.heap.size, 5, none⟩ = some (.string q) := (Blk.cell HX3.out 5).trans rfl
      have kl5 := HX3.out.lt
      have HB4 : Aside0 (Below h X3 ((X3.setCell ⟨h, 1, none⟩ (.string s1)).setCell ⟨h, 0, none⟩ (.string s2))) := ⟨((Below.refl h X3).setCell (p := ⟨h, 1, none⟩) (Nat.le_refl _) _).setCell (p := ⟨h, 0, none⟩) (Nat.le_refl _) _⟩
      have HH4 : Aside0 (Blk ((X3.setCell ⟨h, 1, none⟩ (.string s1)).setCell ⟨h, 0, none⟩ (.string s2)) h #[.string s2, .string s1, .int .i64 m, .int .i64 b.length, .int .i64 t, .int .u8 (typF kn), .string q] 68) := ⟨((hH3.set 1 (.string s1)).set 0 (.string s2)).trans rfl⟩
      have HT4 : Aside0 (Turned (Eq h) X3 ((X3.setCell ⟨h, 1, none⟩ (.string s1)).setCell ⟨h, 0, none⟩ (.string s2))) := ⟨((Turned.refl (Eq h) X3).setCell (p := ⟨h, 1, none⟩) (.inl rfl) _).setCell (p := ⟨h, 0, none⟩) (.inl rfl) _⟩
      clear hb d0 hlt2 HX2 HH2 HBX2 HZ2 hH3 HSP
      go_upto_if 45 with (fail)
      clear g0 g1 gf0 gf1 k5 kl5 hlh
      generalize (X3.setCell ⟨h, 1, none⟩ (.string s1)).setCell ⟨h, 0, none⟩ (.string s2) = X4 at *
      as_aux_lemma =>
        have hTh : T < h := by omega
        have hzh : ∀ k, v0.ownBlock = some k → k < h := fun k hk => by have := (hz k hk).2; omega
        have HZ4 : Aside0 (Zt W0 W X4 T v0 v0 l) := ⟨⟨HZ3.out.tape.keep (fun k hk _ => HB4.out.block k (by rcases hk with rfl | hk; exact hTh; exact hzh k hk)), HZ3.out.bel.trans (HB4.out.mono (by omega)), HZ3.out.turn.then_ HT4.out (fun k hk => .inr (by omega)), .inl rfl⟩⟩
        have HX4 : Aside0 (Blk X4 W.heap.size #[.string p, .int .u8 kn, .int .i64 m, .int .i64 t, .slice A b.length c, .string q] 43) := ⟨(HB4.out.block _ (by omega)).trans HX3.out⟩
        have HBX4 := Aside0.mk (HBX3.out.trans HB4.out)
        clear HZ3 HX3 HBX3 HB4 HT4
        go_cut [] (fun wx => Aside0 (Zt W0 W wx T v0 v0 l) ∧ Aside0 (Blk wx W.heap.size #[.string p, .int .u8 kn, .int .i64 m, .int .i64 t, .slice A b.length c, .string q] 43) ∧ Aside0 (Blk wx h #[.string s2, .string s1, .int .i64 m, .int .i64 b.length, .int .i64 t, .int .u8 (typF kn), .string (lkF q)] 68) ∧ Aside0 (Below h X1 wx))
        case first =>
          as_aux_lemma =>
            by_cases hq : 100 < q.size
            · have g6 : X4.frozen? ⟨h, 6, none⟩ = false := Blk.free HH4.out 6
              have g6c : X4.cell? ⟨h, 6, none⟩ = some (.string q) := (Blk.cell HH4.out 6).trans rfl
              have hl6 := HH4.out.lt
              have HB5 : Aside0 (Below h X4 (X4.setCell ⟨h, 6, none⟩ (.string NoB))) := ⟨(Below.refl h X4).setCell (p := ⟨h, 6, none⟩) (Nat.le_refl _) _⟩
              have HT5 : Aside0 (Turned (Eq h) X4 (X4.setCell ⟨h, 6, none⟩ (.string NoB))) := ⟨(Turned.refl (Eq h) X4).setCell (p := ⟨h, 6, none⟩) (.inl rfl) _⟩
              have HH5 : Aside0 (Blk (X4.setCell ⟨h, 6, none⟩ (.string NoB)) h #[.string s2, .string s1, .int .i64 m, .int .i64 b.length, .int .i64 t, .int .u8 (typF kn), .string NoB] 68) := ⟨(HH4.out.set 6 (.string NoB)).trans rfl⟩
              have elk : lkF q = NoB := by unfold lkF; rw [if_pos hq]
              go_wp2_with fail
              go_meet
              rw [elk]
              exact ⟨⟨HZ4.out.tape.keep (fun k hk _ => HB5.out.block k (by rcases hk with rfl | hk; exact hTh; exact hzh k hk)), HZ4.out.bel.trans (HB5.out.mono (by omega)), HZ4.out.turn.then_ HT5.out (fun k hk => .inr (by omega)), .inl rfl⟩, ⟨(HB5.out.block _ (by omega)).trans HX4.out⟩, HH5, ⟨HBX4.out.trans HB5.out⟩⟩
            · have elk : lkF q = q := by unfold lkF; rw [if_neg hq]
              go_wp2_with fail
              go_meet
              rw [elk]
              exact ⟨HZ4, HX4, HH4, HBX4⟩
        case rest =>
          as_aux_lemma =>
            obtain ⟨HZ5, HX5, HH5, HBX5⟩ := hcut
            clear HZ4 HX4 HH4 HBX4
            have hLn := HPL.out
            go_upto_if 49 with (fail)
            go_cut [] (fun wx => ∃ v, Aside0 (Zt W0 W wx T v0 v (l ++ moreL L)) ∧ Aside0 (Blk wx W.heap.size #[.string p, .int .u8 kn, .int .i64 m, .int .i64 t, .slice A b.length c, .string q] 43) ∧ Aside0 (Blk wx h #[.string s2, .string s1, .int .i64 m, .int .i64 b.length, .int .i64 t, .int .u8 (typF kn), .string (lkF q)] 68))
            case first =>
              as_aux_lemma =>
                by_cases hL : L = []
                · subst hL
                  go_wp2_with fail
                  go_meet
                  exact ⟨v0, by rw [show moreL [] = [] from rfl, List.append_nil]; exact HZ5, HX5, HH5⟩
                · have hLl : 0 < L.length := List.length_pos_iff.2 hL
                  have hdl : decide ((0 : Int) < (L.length : Int)) = true := decide_eq_true (by omega)
                  have HME2 : Aside0 (moreL L = fillL (putH MoreB NoB 0 (putF L).1.length 0 120 NoB).1 ++ fillL (putF L).1) := ⟨by unfold moreL; rw [if_neg hL]⟩
                  have HPT := Aside0.mk (fun X hC ht => put_any A1 c1' L HSM.out (by have := HPL.out; omega) X hC ht)
                  have hrl := putF_len L
                  generalize moreL L = ML at *
                  generalize putF L = PT at *
                  obtain ⟨rc, ra, re⟩ := PT
                  simp only at HME2 hrl
                  unfold EndsPut at HPT
                  simp only at HPT
                  go_wp2_with fail
                  refine (HPT.out _ (Kd.C_below HC1.out (by rw [HHE.out]; exact HBX5.out)) (HV.out.below HZ5.out.bel).tab).mono ?_
                  rintro e X6 ⟨A6, c6, rfl, ho6, hb6⟩
                  obtain ⟨hc6, hF6⟩ := own_F rfl ho6
                  have HZ6 := Aside0.mk (HZ5.out.step hb6)
                  have HX6 : Aside0 (Blk X6 W.heap.size #[.string p, .int .u8 kn, .int .i64 m, .int .i64 t, .slice A b.length c, .string q] 43) := ⟨(hb6.block _ HX5.out.lt).trans HX5.out⟩
                  have HH6 : Aside0 (Blk X6 h #[.string s2, .string s1, .int .i64 m, .int .i64 b.length, .int .i64 t, .int .u8 (typF kn), .string (lkF q)] 68) := ⟨(hb6.block _ HH5.out.lt).trans HH5.out⟩
                  have HF6 := Aside0.mk hF6
                  have hs5 : h < wc.heap.size := HH5.out.lt
                  clear ho6 hb6 hF6 HZ5 HX5 HH5 HPT HBX5
                  as_aux_lemma =>
                    have HPH := Aside0.mk (fun X => putH_any MoreB NoB 0 rc.length 0 120 NoB X)
                    have HSL := Aside0.mk (fun X e X' => EndsH.slice (W := X) (W' := X') (nm := MoreB) (pf := NoB) (md := 0) (sz := rc.length) (tm := 0) (ty := 120) (lk := NoB) (e := e))
                    generalize putH MoreB NoB 0 rc.length 0 120 NoB = PP at *
                    obtain ⟨pb, pe2⟩ := PP
                    simp only at HSL HME2
                    go_wp2_with fail
                    refine (HPH.out _).mono ?_
                    rintro e X7 hh7
                    obtain ⟨hb, A7, c7, rfl, hc7, h512, hF7⟩ := HSL.out _ _ _ hh7
                    have HZ7 := Aside0.mk (HZ6.out.step hb)
                    have HX7 : Aside0 (Blk X7 W.heap.size #[.string p, .int .u8 kn, .int .i64 m, .int .i64 t, .slice A b.length c, .string q] 43) := ⟨(hb.block _ HX6.out.lt).trans HX6.out⟩
                    have HH7 : Aside0 (Blk X7 h #[.string s2, .string s1, .int .i64 m, .int .i64 b.length, .int .i64 t, .int .u8 (typF kn), .string (lkF q)] 68) := ⟨(hb.block _ HH6.out.lt).trans HH6.out⟩
                    have HF7 := Aside0.mk (Kd.F_now hF7)
                    have HF6b := Aside0.mk (Kd.F_below HF6.out hb)
                    clear hh7 hb hF7 HPH HSL HZ6 HX6 HH6 HF6
                    go_wp2_with fail
                    refine (put_tape A7 c7 X7 HZ7.out.tape HF7.out hc7 (by omega) HZ7.out.bel.size).mono ?_
                    rintro e X8 ⟨rfl, v8, ht8, htu8, hat8⟩
                    have HZ8 := Aside0.mk (HZ7.out.put hTb ht8 htu8 hat8)
                    have HX8 := Aside0.mk (blk_put HZ7.out.tape HX7.out (by decide) (by omega) htu8)
                    have HH8 := Aside0.mk (blk_put HZ7.out.tape HH7.out (by decide) (by omega) htu8)
                    have HF8 := Aside0.mk (Kd.F_now (Kd.F_step HF6b.out (fun k hk hlt => htu8.block k hlt (fun hi => by
                      rcases hi with rfl | hi
                      · omega
                      · have := (hz k hi).2; omega))))
                    have hfl := fillL_len pb
                    clear ht8 htu8 hat8 HZ7 HX7 HH7 HF7 HF6b
                    go_wp2_with fail
                    refine (put_tape A6 c6 X8 HZ8.out.tape HF8.out hc6 (by simp only [List.length_append, hfl]; omega) HZ8.out.bel.size).mono ?_
                    rintro e X9 ⟨rfl, v9, ht9, htu9, hat9⟩
                    have HZ9 := Aside0.mk (HZ8.out.put hTb ht9 htu9 hat9)
                    have HX9 := Aside0.mk (blk_put HZ8.out.tape HX8.out (by decide) (by omega) htu9)
                    have HH9 := Aside0.mk (blk_put HZ8.out.tape HH8.out (by decide) (by omega) htu9)
                    clear ht9 htu9 hat9 HZ8 HX8 HH8 HF8
                    go_wp2_with fail
                    go_meet
                    exact ⟨v9, by rw [HME2.out, ← List.append_assoc]; exact HZ9, HX9, HH9⟩
            case rest =>
              as_aux_lemma =>
                obtain ⟨v, HZ9, HX9, HH9⟩ := hcut
                have e0 : wc.cell? ⟨h, 0, none⟩ = some (.string s2) := (Blk.cell HH9.out 0).trans rfl
                have e1 : wc.cell? ⟨h, 1, none⟩ = some (.string s1) := (Blk.cell HH9.out 1).trans rfl
                have e2 : wc.cell? ⟨h, 2, none⟩ = some (.int .i64 m) := (Blk.cell HH9.out 2).trans rfl
                have e3 : wc.cell? ⟨h, 3, none⟩ = some (.int .i64 b.length) := (Blk.cell HH9.out 3).trans rfl
                have e4 : wc.cell? ⟨h, 4, none⟩ = some (.int .i64 t) := (Blk.cell HH9.out 4).trans rfl
                have e5 : wc.cell? ⟨h, 5, none⟩ = some (.int .u8 (typF kn)) := (Blk.cell HH9.out 5).trans rfl
                have e6 : wc.cell? ⟨h, 6, none⟩ = some (.string (lkF q)) := (Blk.cell HH9.out 6).trans rfl
                have hle := HH9.out.lt
                have HPH := Aside0.mk (fun X => putH_any s2 s1 m b.length t (typF kn) (lkF q) X)
                have HSL := Aside0.mk (fun X e X' => EndsH.slice (W := X) (W' := X') (nm := s2) (pf := s1) (md := m) (sz := b.length) (tm := t) (ty := typF kn) (lk := lkF q) (e := e))
                generalize putH s2 s1 m b.length t (typF kn) (lkF q) = PP at *
                obtain ⟨pb, pe2⟩ := PP
                simp only at HSL HPI
                go_wp2_with fail
                refine (HPH.out _).mono ?_
                rintro e X10 hh10
                obtain ⟨hb, A10, c10, rfl, hc10, h512, hF10⟩ := HSL.out _ _ _ hh10
                have HZ10 := Aside0.mk (HZ9.out.step hb)
                have HX10 : Aside0 (Blk X10 W.heap.size #[.string p, .int .u8 kn, .int .i64 m, .int .i64 t, .slice A b.length c, .string q] 43) := ⟨(hb.block _ HX9.out.lt).trans HX9.out⟩
                have HF10 := Aside0.mk (Kd.F_now hF10)
                have hml := HML.out
                clear hh10 hb hF10 e0 e1 e2 e3 e4 e5 e6 hle HPH HSL HZ9 HX9 HH9
                as_aux_lemma =>
                  go_wp2_with fail
                  refine (put_tape A10 c10 X10 HZ10.out.tape HF10.out hc10 (by rw [List.length_append]; omega) HZ10.out.bel.size).mono ?_
                  rintro e X11 ⟨rfl, v11, ht11, htu11, hat11⟩
                  have HZ11 := Aside0.mk (HZ10.out.put hTb ht11 htu11 hat11)
                  have hX11 := blk_put HZ10.out.tape HX10.out (by decide) (by omega) htu11
                  have f4 : X11.cell? ⟨W.heap.size, 4, none⟩ = some (.slice A b.length c) := (Blk.cell hX11 4).trans rfl
                  have hl11 := hX11.lt
                  have hfl := fillL_len pb
                  have HCB := Aside0.mk (Kd.C_below HC0.out HZ11.out.bel)
                  clear ht11 htu11 hat11 hX11 HZ10 HX10 HF10
                  go_wp2_with fail
                  refine (put_tape A c X11 HZ11.out.tape HCB.out hc (by simp only [List.length_append, hfl]; omega) HZ11.out.bel.size).mono ?_
                  rintro e X12 ⟨rfl, v12, ht12, htu12, hat12⟩
                  have HZ12 := Aside0.mk (HZ11.out.put hTb ht12 htu12 hat12)
                  clear ht12 htu12 hat12 HZ11 f4
                  go_wp2_with fail
                  refine bodyPost_end (v := .tuple #[]) (by simp [results, Tryz.f29, go_sem]) rfl ?_
                  rw [HE.out, HPI.out]
                  refine ⟨rfl, v12, ?_⟩
                  rw [← List.append_assoc, ← List.append_assoc]
                  exact HZ12.out
end Go.Proofs.YtopehfjohifpnaaGreatDoor.Mine
end
section
set_option linter.unusedSimpArgs false
set_option linter.unusedVariables false
namespace Go.Proofs.YtopehfjohifpnaaGreatDoor.Mine
open Go.RowKit Go.Shelf Go.Proofs.YtopehfjohifpnaaGreatDoorW.PrintWords Go.Proofs.YtopehfjohifpnaaGreatDoorW.PrintLast Go.Proofs.YtopehfjohifpnaaGreatDoorW.PrintMore Go.Proofs.YtopehfjohifpnaaGreatDoor.Turn Go.Proofs.YtopehfjohifpnaaGreatDoor.Doc
noncomputable def volG (l : List S43) : Nat → Nat → List Int → List Int × Int × Int
  | 0, _, acc => (acc ++ zs 1024, 0, 0)
  | m + 1, i, acc => if 131072 < (acc ++ piecesF (itm l i)).length + 1024 then ([], i, 2) else volG l m (i + 1) (acc ++ piecesF (itm l i))
noncomputable def writeF (l : List S43) : List Int × Int × Int := if (checkT l).2 ≠ 0 then ([], (checkT l).1, (checkT l).2) else volG l l.length 0 []
theorem checkG_ok (l : List S43) : ∀ (m i : Nat), (checkG l m i).2 = 0 → ∀ j, i ≤ j → j < i + m → mayX (itm l j) = 0
  | 0, i, h, j, h1, h2 => by omega
  | m + 1, i, h, j, h1, h2 => by
    have h' : (if mayX (itm l i) ≠ 0 then ((i : Int), mayX (itm l i)) else
      if 0 < i ∧ cmpF (itm l (i - 1)).f0 (itm l i).f0 ≠ -1 then ((i : Int), 111) else
      if (upF (itm l i).f0).size ≠ 0 ∧ hasF (l.take i) (upF (itm l i).f0) 2 = false then ((i : Int), 112) else
      if (itm l i).f1 = 3 ∧ hasF (l.take i) (itm l i).f5 1 = false then ((i : Int), 113) else checkG l m (i + 1)).2 = 0 := h
    by_cases c0 : mayX (itm l i) = 0
    · rw [if_neg (c := mayX (itm l i) ≠ 0) (fun e => e c0)] at h'
      by_cases c1 : 0 < i ∧ cmpF (itm l (i - 1)).f0 (itm l i).f0 ≠ -1
      · rw [if_pos c1] at h'; exact absurd h' (by show ¬ (111 : Int) = 0; decide)
      rw [if_neg c1] at h'
      by_cases c2 : (upF (itm l i).f0).size ≠ 0 ∧ hasF (l.take i) (upF (itm l i).f0) 2 = false
      · rw [if_pos c2] at h'; exact absurd h' (by show ¬ (112 : Int) = 0; decide)
      rw [if_neg c2] at h'
      by_cases c3 : (itm l i).f1 = 3 ∧ hasF (l.take i) (itm l i).f5 1 = false
      · rw [if_pos c3] at h'; exact absurd h' (by show ¬ (113 : Int) = 0; decide)
      rw [if_neg c3] at h'
      rcases Nat.eq_or_lt_of_le h1 with rfl | h3
      · exact c0
      · exact checkG_ok l m (i + 1) h' j (by omega) (by omega)
    · rw [if_pos c0] at h'; exact absurd h' c0
theorem checkT_ok {l : List S43} (h : (checkT l).2 = 0) : l.length ≤ 256 ∧ ∀ i, i < l.length → mayX (itm l i) = 0 := by
  unfold checkT at h
  by_cases hb : 256 < l.length
  · rw [if_pos hb] at h; exact absurd h (by decide)
  · rw [if_neg hb] at h
    exact ⟨by omega, fun i hi => checkG_ok l l.length 0 h i (Nat.zero_le _) (by omega)⟩
set_option maxRecDepth 100000 in
set_option maxHeartbeats 4000000 in
theorem grow_any (n : Nat) (hn : n ≤ 1000000) (W : World) : Calls Tryz.prog 54 #[.slice none 0 0, .int .i64 n] W fun e W' => ∃ A c, e = .returned (.slice A 0 c) ∧ RB W' W.heap.size (.slice A 0 c) [] ∧ Below W.heap.size W W' := by
  rcases Nat.eq_zero_or_pos n with h0 | h0
  · subst h0
    go_enter Tryz.func54, Tryz.ntmps54
    go_wp2_with fail
    go_ret
    exact ⟨none, 0, rfl, Kd.R_nil _ _ _ _ _, Below.refl _ _⟩
  · go_enter Tryz.func54, Tryz.ntmps54
    go_wp2_with (at_builtin; refine Kd.R_append_zeros (Kd.int .u8) (w0 := W) W.heap.size rfl (.tmp 20) (.tmp 21) 24 3 5 (.int .u8 0) 1 rfl Tryz.underlying24 Tryz.underlying3 info5 rfl (by decide) (by omega) (.slice none 0 0) ([] : List Int) 0 (n : Int) (fun _ => True) rfl rfl rfl (fun _ _ => trivial) (Kd.R_nil _ _ _ _ _) (by omega) (Below.refl _ _) (Nat.le_refl _) (by simp; omega) ?_; intro v1 w1 ho hb hg hat; obtain ⟨L1, hL1⟩ : ∃ L1, [] ++ List.replicate (n : Int).toNat (0 : Int) = L1 := ⟨_, rfl⟩; rw [hL1] at ho; have HL := Aside0.mk hL1; obtain ⟨A1, c1, rfl⟩ := Kd.R_slice ho; have HO := Aside0.mk ho; have HB := Aside0.mk hb; have hc1 := (Kd.R_reads ho); clear ho hb hg hat hL1)
    go_ret
    refine ⟨A1, c1, rfl, ?_, HB.out⟩
    have ho := Kd.own_of_R HO.out
    rcases ho.2 with ⟨hv, _⟩ | ⟨g, cap, cur, hv, _⟩
    · injection hv with e1 e2 e3
      subst e1 e3
      exact Kd.R_nil _ _ _ _ _
    · injection hv with e1 e2 e3
      subst e1 e3
      have h2 := ownsRow_cut (k := 0) ho (Nat.zero_le _)
      exact Kd.R_of_own (xs := []) (h1 := fun _ => rfl) h2 (fun _ _ => trivial)
theorem row_at {W : World} {A : Option Addr} {ls : List (List Int)} (h : Kd.C (Kd.slice 5 (Kd.int .u8)) W A ls.length ls) {i : Nat} (hi : i < ls.length) : ∃ ad A' c', A = some ad ∧ W.cell? (ad.add i) = some (.slice A' ls[i].length c') ∧ ls[i].length ≤ c' ∧ Kd.C (Kd.int .u8) W A' ls[i].length ls[i] := by
  obtain ⟨ad, c, e, _, hK, hc0⟩ := Kd.C_get h [] (i : Int) (by omega) (by omega)
  rw [Int.toNat_natCast] at hK hc0
  have hg : ls.getD i [] = ls[i] := by rw [List.getD_eq_getElem?_getD, List.getElem?_eq_getElem hi]; rfl
  rw [hg] at hK
  obtain ⟨A', c', rfl, hl, hC⟩ := hK
  have := hc0 0 _ rfl
  refine ⟨ad, A', c', e, ?_, hl, hC⟩
  simpa [Kd.slice] using this
def sumLen (ls : List (List Int)) : Nat := (ls.map List.length).sum
theorem sumLen_snoc (ls : List (List Int)) (x : List Int) : sumLen (ls ++ [x]) = sumLen ls + x.length := by simp [sumLen]
theorem flat_len : ∀ ls : List (List Int), ls.flatten.length = sumLen ls
  | [] => rfl
  | x :: ls => by rw [List.flatten_cons, List.length_append, flat_len ls]; simp [sumLen]
theorem sumLen_take (ls : List (List Int)) : ∀ i, sumLen (ls.take i) ≤ sumLen ls := fun i => by
  rw [← flat_len, ← flat_len]
  conv => rhs; rw [← List.take_append_drop i ls]
  rw [List.flatten_append, List.length_append]
  omega
set_option maxRecDepth 100000 in
set_option maxHeartbeats 4000000 in
theorem concat_any (A : Option Addr) (c : Nat) (ls : List (List Int)) (hn : ls.length ≤ 1000) (ht : sumLen ls ≤ 1000000) (W : World) (hr : Kd.C (Kd.slice 5 (Kd.int .u8)) W A ls.length ls) :
    Calls Tryz.prog 31 #[.slice A ls.length c] W fun e W' => ∃ A' c', e = .returned (.slice A' ls.flatten.length c') ∧ RB W' W.heap.size (.slice A' ls.flatten.length c') ls.flatten ∧ Below W.heap.size W W' := by
  have HR := Aside0.mk hr
  have HTK := Aside0.mk (sumLen_take ls)
  have HT := Aside0.mk ht
  clear hr ht
  go_enter Tryz.func31, Tryz.ntmps31
  go_wp2_with fail
  go_loopw [3, 11] (fun s v wr => ∃ i : Nat, i ≤ ls.length ∧ v = .int .i64 i ∧ s = .int .i64 (sumLen (ls.take i)) ∧ Aside0 (Below W.heap.size W wr)) (fun _ v _ => ls.length - (intOf v).toNat)
  case atStart => exact ⟨0, Nat.zero_le _, rfl, rfl, ⟨Below.refl _ _⟩⟩
  case round =>
    obtain ⟨i, hi, rfl, rfl, HB⟩ := hrel
    by_cases hlt : i < ls.length
    · obtain ⟨ad, A', c', e, h0, hl, -⟩ := row_at (Kd.C_below HR.out HB.out) hlt
      subst e
      have htk : sumLen (ls.take (i + 1)) = sumLen (ls.take i) + ls[i].length := by rw [List.take_succ_eq_append_getElem hlt, sumLen_snoc]
      have hb1 := HTK.out (i + 1)
      have hb2 := HT.out
      have hbl := World.block_lt_of_cell? _ _ h0
      generalize ls[i].length = n at *
      generalize hs : sumLen (ls.take i) = s at *
      go_wp2_with fail
      go_roundw
      case rel => exact ⟨i + 1, by omega, by go_num, by rw [htk]; go_num, HB⟩
      case measure => simp [intOf]; omega
    · obtain rfl : i = ls.length := by omega
      rw [List.take_length]
      have htt := HT.out
      have HG := Aside0.mk (fun X => grow_any (sumLen ls) htt X)
      go_wp2_with fail
      refine (HG.out _).mono ?_
      rintro e w2 ⟨A2, c2, rfl, ho, hb⟩
      have HB2 := Aside0.mk (below_step HB.out hb)
      have HO2 := Aside0.mk (Kd.R_lower ho HB.out.size)
      clear ho hb HG
      go_wp2_with fail
      go_loopw [6, 27] (fun s v wx => ∃ (j : Nat) (Av : Option Addr) (cv : Nat) (acc : List Int), j ≤ ls.length ∧ v = .int .i64 j ∧ s = .slice Av acc.length cv ∧ Aside0 (acc = (ls.take j).flatten) ∧ Aside0 (RB wx W.heap.size (.slice Av acc.length cv) acc) ∧ Aside0 (Below W.heap.size W wx)) (fun _ v _ => ls.length - (intOf v).toNat)
      case atStart => exact ⟨0, A2, c2, [], Nat.zero_le _, rfl, rfl, ⟨by simp⟩, HO2, HB2⟩
      case round =>
        clear HO2 HB2 HB
        rename World => wx
        obtain ⟨j, Av, cv, acc, hj, rfl, rfl, HAC, HO, HB⟩ := hrel
        by_cases hlt : j < ls.length
        · obtain ⟨ad, A', c', e, h0, hl, hC⟩ := row_at (Kd.C_below HR.out HB.out) hlt
          subst e
          have hbl := World.block_lt_of_cell? _ _ h0
          have HAC2 : Aside0 (acc ++ ls[j] = (ls.take (j + 1)).flatten) := ⟨by rw [HAC.out, List.take_succ_eq_append_getElem hlt, List.flatten_append]; simp⟩
          have hla : acc.length ≤ 1000000 := by rw [HAC.out, flat_len]; have := HTK.out j; have := HT.out; omega
          have hla2 : ls[j].length ≤ 1000000 := by
            have h1 := HTK.out (j + 1)
            rw [List.take_succ_eq_append_getElem hlt, sumLen_snoc] at h1
            have := HT.out
            omega
          generalize ls[j] = x at *
          have HC := Aside0.mk hC
          have HBS := Aside0.mk HB.out.size
          clear hC HAC
          go_wp2_with (at_builtin; refine Kd.R_append_rows (Kd.int .u8) (w0 := W) W.heap.size rfl (.tmp 31) (.tmp 32) 24 5 (.int .u8 0) 1 rfl Tryz.underlying24 info5 rfl (by decide) (by omega) (.slice Av acc.length cv) acc x A' x.length c' (fun _ => True) (fun _ => False) rfl rfl HO.out HC.out (fun _ _ h => h) (fun _ h => h.elim) (fun _ _ => trivial) HB.out HBS.out (by omega) ?_; intro v4 w4 ho hb hg hat; obtain ⟨A4, c4, rfl⟩ := Kd.R_slice ho; have HO4 := Aside0.mk ho; have HB4 := Aside0.mk hb; clear ho hb hg hat)
          go_roundw
          case rel => exact ⟨j + 1, A4, c4, acc ++ x, by omega, by go_num, by rw [List.length_append], HAC2, HO4, HB4⟩
          case measure => simp [intOf]; omega
        · obtain rfl : j = ls.length := by omega
          have hac : acc = ls.flatten := by rw [HAC.out, List.take_length]
          subst hac
          go_wp2_with fail
          go_ret
          exact ⟨Av, cv, rfl, HO.out, HB.out⟩
theorem info5c : (Tryz.prog.info? 5).map (fun i => (i.zero, i.size, i.bytes)) = some (some (.int .u8 0), 1, 1) := info5
theorem made_zs (n : Nat) : (madeCells (Value.int .u8 0).cells (n * 1)).toList = nums .u8 (zs n) := by
  apply List.ext_getElem
  · rw [Array.length_toList, size_madeCells, nums_length, zs_length, Nat.mul_one]
  · intro i h1 h2
    simp only [madeCells, nums, zs, Array.getElem_toList, Array.getElem_map, List.getElem_map, List.getElem_replicate]
    have h : ∀ k : Nat, (Value.int IntKind.u8 0).cells[k % (Value.int IntKind.u8 0).cells.size]! = Value.int IntKind.u8 0 := fun k => by
      have h1 : k % 1 = 0 := Nat.mod_one k
      show (#[Value.int IntKind.u8 0] : Array Value)[k % 1]! = _
      rw [h1]
      rfl
    exact h _
theorem make_n (n : Nat) (hn : n ≤ 100000) (W : World) : ∃ W', (Instr.makeSlice 24 (.int .i64 (n : Int)) (.int .i64 (n : Int))).run Tryz.prog W = .ok (.slice (some ⟨W.heap.size, 0, none⟩) n n) W' ∧ W'.heap.size = W.heap.size + 1 ∧ Below W.heap.size W W' ∧ Kd.C (Kd.int .u8) W' (some ⟨W.heap.size, 0, none⟩) n (zs n) := by
  obtain ⟨i0, hi, hzz⟩ := Option.map_eq_some_iff.1 info5c
  simp only [Prod.mk.injEq] at hzz
  obtain ⟨hz0, hz1, hz2⟩ := hzz
  have hr := run_makeSlice (P := Tryz.prog) W 24 5 i0 (.int .u8 0) Tryz.underlying24 hi hz0 .i64 .i64 (n : Int) (n : Int) (by omega) (by omega) (by rw [hz1]; omega) (by rw [hz2]; omega) (by omega)
  rw [Int.toNat_natCast] at hr
  obtain ⟨w2, hr2, ho, _⟩ := run_makeSlice_full (P := Tryz.prog) W W.heap.size 24 5 i0 (.int .u8 0) 1 Tryz.underlying24 hi hz0 hz1 .i64 .i64 n (by omega) (by rw [hz2]; omega) (by unfold maxLen; omega) (Nat.le_refl _)
  have e := hr.symm.trans hr2
  injection e with e1 e2
  refine ⟨_, hr, by simp, below_alloc (Below.refl _ _) _, ?_⟩
  rw [e2]
  rw [made_zs] at ho
  have hl : n = (zs n).length := (zs_length n).symm
  generalize zs n = z at *
  subst hl
  obtain ⟨A', c', e3, hc, hC⟩ := Kd.R_reads (Kd.R_of_own (h1 := fun _ => rfl) (ok := fun _ => True) (xs := z) (enc := fun x : Int => Value.int .u8 x) ho (fun _ _ => trivial))
  injection e3 with e4 e5 e6
  rw [e4]
  exact hC
theorem C_two {W : World} {A1 A2 : Option Addr} {x y : List Int} {c1 c2 : Nat} (t : TypeId) (h1 : Kd.C (Kd.int .u8) W A1 x.length x) (l1 : x.length ≤ c1) (h2 : Kd.C (Kd.int .u8) W A2 y.length y) (l2 : y.length ≤ c2) :
    Kd.C (Kd.slice 5 (Kd.int .u8)) (W.alloc (.cells #[.slice A1 x.length c1, .slice A2 y.length c2] t)) (some ⟨W.heap.size, 0, none⟩) [x, y].length [x, y] := by
  have hb := Blk.new W #[.slice A1 x.length c1, .slice A2 y.length c2] t
  have k1 := Kd.C_below h1 (below_alloc (Below.refl _ W) (.cells #[.slice A1 x.length c1, .slice A2 y.length c2] t))
  have k2 := Kd.C_below h2 (below_alloc (Below.refl _ W) (.cells #[.slice A1 x.length c1, .slice A2 y.length c2] t))
  refine ⟨rfl, by simp, fun _ => ⟨_, rfl, fun j p hj => ?_⟩⟩
  match j, hj with
  | 0, hj =>
    cases hj
    refine ⟨[.slice A1 x.length c1], rfl, ⟨A1, c1, rfl, l1, k1⟩, fun i u hu => ?_⟩
    match i, hu with
    | 0, hu => cases hu; exact (Blk.cell hb 0).trans rfl
  | 1, hj =>
    cases hj
    refine ⟨[.slice A2 y.length c2], rfl, ⟨A2, c2, rfl, l2, k2⟩, fun i u hu => ?_⟩
    match i, hu with
    | 0, hu => cases hu; exact (Blk.cell hb 1).trans rfl
end Go.Proofs.YtopehfjohifpnaaGreatDoor.Mine
end
