import Derived.Test.YtopehfjohifpnaaDoorZ14
import Derived.Deep.RegionHeld3
section
set_option linter.unusedSimpArgs false
set_option linter.unusedVariables false
namespace Go.Proofs.YtopehfjohifpnaaDoor.Mine
open Go.RowKit Go.Shelf Go.Proofs.YtopehfjohifpnaaDoorW.PrintWords Go.Proofs.YtopehfjohifpnaaDoorW.PrintLast Go.Proofs.YtopehfjohifpnaaDoorW.PrintMore Go.Proofs.YtopehfjohifpnaaDoor.Turn Go.Proofs.YtopehfjohifpnaaDoor.Doc
def EndsItem (W0 W : World) (T : Nat) (v0 : Value) (l : List Int) (e : Ending) (X : World) : Prop := e = .returned (.tuple #[]) ∧ ∃ v, Zt W0 W X T v0 v l
set_option maxRecDepth 100000 in
set_option maxHeartbeats 8000000 in
theorem item_any {T : Nat} {v0 : Value} {l : List Int} (x : S25) (hm : mayX x = 0) (A : Option Addr) (c : Nat) (i0 : Int) (W0 W : World) (hT : Tape W T W0.heap.size v0 l) (hTb : W0.heap.size ≤ T) (hB : Below W0.heap.size W0 W) (hV : Vars W0 i0)
    (hC : ∀ X v l', Zt W0 W X T v0 v l' → Kd.C (Kd.int .u8) X A x.f4.length x.f4) (hc : x.f4.length ≤ c) (hl : l.length ≤ 1000000) :
    Calls Tryd.prog 26 #[.pointer (some ⟨T, 0, none⟩), .agg #[.string x.f0, .int .u8 x.f1, .int .i64 x.f2, .int .i64 x.f3, .slice A x.f4.length c, .string x.f5]] W (EndsItem W0 W T v0 (l ++ piecesF x)) := by
  obtain ⟨HME, hk, -⟩ := may_t hm
  have hps := may_path hm
  have hqs := may_q hm
  have hbs := may_body hm
  have HSM := Aside0.mk (pairs_small hm)
  have HPL : Aside0 ((pairsF x.f0 x.f1 x.f2 x.f3 x.f4.length x.f5).1.length ≤ 2) := ⟨by
    unfold pairsF pairsL
    split
    · simp
    · split <;> split <;> simp⟩
  have HPI : Aside0 (piecesF x = moreL (pairsF x.f0 x.f1 x.f2 x.f3 x.f4.length x.f5).1 ++ (fillL (putH (splitF x.f0).2.1 (splitF x.f0).1 x.f2 x.f4.length x.f3 (typF x.f1) (lkF x.f5)).1 ++ fillL x.f4)) := ⟨rfl⟩
  generalize piecesF x = PC at *
  have HE : Aside0 (EndsItem W0 W T v0 (l ++ PC) = fun e X => e = .returned (.tuple #[]) ∧ ∃ v, Zt W0 W X T v0 v (l ++ PC)) := ⟨rfl⟩
  obtain ⟨PE, hPE⟩ : ∃ PE, EndsItem W0 W T v0 (l ++ PC) = PE := ⟨_, rfl⟩
  rw [hPE] at HE ⊢
  clear hPE
  obtain ⟨p, k, m, t, b, q⟩ := x
  simp only at *
  have HV := Aside0.mk hV
  have HC0 := Aside0.mk hC
  have hz := hT.own_rg
  have HZ0 : Aside0 (Zt W0 W (W.alloc (.cells #[.string p, .int .u8 k, .int .i64 m, .int .i64 t, .slice A b.length c, .string q] 25)) T v0 v0 l) := ⟨(⟨hT, hB, Turned.refl _ _, .inl rfl⟩ : Zt W0 W W T v0 v0 l).step (below_alloc (Below.refl _ W) _)⟩
  have hx0 := Blk.new W #[.string p, .int .u8 k, .int .i64 m, .int .i64 t, .slice A b.length c, .string q] 25
  have hTl := Blk.lt hT.1
  have HPA := Aside0.mk (fun X h => pairs_any p k m t A b.length c q i0 X h)
  generalize pairsF p k m t b.length q = PF at *
  obtain ⟨L, pe⟩ := PF
  simp only at HPL HSM HPI HPA
  have HML : Aside0 ((moreL L).length ≤ 80000) := ⟨by
    unfold moreL
    split
    · simp
    · have h1 := putF_len L
      have h2 : (putH MoreB NoB 0 (putF L).1.length 0 120 NoB).1.length ≤ 512 := putH_len _ _ _ _ _ _ _
      rw [List.length_append, fillL_len, fillL_len]
      omega⟩
  have HSP := Aside0.mk (fun X => split_any p X)
  generalize splitF p = sf at *
  obtain ⟨s1, s2, s3⟩ := sf
  simp only at HPI HSP
  clear hT hB hV hC hm
  have c0 := (Blk.cell hx0 0).trans rfl
  have c1 := (Blk.cell hx0 1).trans rfl
  have c2 := (Blk.cell hx0 2).trans rfl
  have c3 := (Blk.cell hx0 3).trans rfl
  have c4 := (Blk.cell hx0 4).trans rfl
  have c5 := (Blk.cell hx0 5).trans rfl
  have hlt := hx0.lt
  have HX0 := Aside0.mk hx0
  clear hx0
  go_enter Tryd.func26, Tryd.ntmps26
  go_wp2_with fail
  refine (HPA.out _ ((HV.out.below HZ0.out.bel).len)).mono ?_
  rintro e X1 ⟨A1, c1', rfl, hC1, hb⟩
  have HZ1 := Aside0.mk (HZ0.out.step hb)
  have hx1 : Blk X1 W.heap.size #[.string p, .int .u8 k, .int .i64 m, .int .i64 t, .slice A b.length c, .string q] 25 := (hb.block _ HX0.out.lt).trans HX0.out
  have HC1 := Aside0.mk hC1
  have HX1 := Aside0.mk hx1
  clear hb hC1 c0 c1 c2 c3 c4 c5 HPA HZ0 HX0
  have d0 := (Blk.cell hx1 0).trans rfl
  have d1 := (Blk.cell hx1 1).trans rfl
  have d2 := (Blk.cell hx1 2).trans rfl
  have d3 := (Blk.cell hx1 3).trans rfl
  have d4 := (Blk.cell hx1 4).trans rfl
  have d5 := (Blk.cell hx1 5).trans rfl
  have hlt1 := hx1.lt
  clear hx1
  obtain ⟨kn, rfl⟩ : ∃ kn : Nat, k = kn := ⟨k.toNat, by omega⟩
  have hty := (HV.out.below HZ1.out.bel).typ kn (by omega) (by omega)
  have htl := World.block_lt_of_cell? _ _ hty
  have hkn : kn < 5 := by omega
  go_wp2_with fail
  go_region
  as_aux_lemma =>
    have HZ2 := Aside0.mk (HZ1.out.step (below_drew (below_alloc (Below.refl _ X1) (.cells #[.string NoB, .string NoB, .int .i64 m, .int .i64 b.length, .int .i64 t, .int .u8 (typF kn), .string q] 83))))
    have HX2 : Aside0 (Blk (X1.alloc (.cells #[.string NoB, .string NoB, .int .i64 m, .int .i64 b.length, .int .i64 t, .int .u8 (typF kn), .string q] 83)).drew W.heap.size #[.string p, .int .u8 kn, .int .i64 m, .int .i64 t, .slice A b.length c, .string q] 25) := ⟨(HX1.out.alloc _).drewN 1⟩
    have HH2 : Aside0 (Blk (X1.alloc (.cells #[.string NoB, .string NoB, .int .i64 m, .int .i64 b.length, .int .i64 t, .int .u8 (typF kn), .string q] 83)).drew X1.heap.size #[.string NoB, .string NoB, .int .i64 m, .int .i64 b.length, .int .i64 t, .int .u8 (typF kn), .string q] 83) := ⟨(Blk.new X1 _ _).drewN 1⟩
    have HBX2 := Aside0.mk (below_drew (below_alloc (Below.refl X1.heap.size X1) (.cells #[.string NoB, .string NoB, .int .i64 m, .int .i64 b.length, .int .i64 t, .int .u8 (typF kn), .string q] 83)))
    have hh : W.heap.size < X1.heap.size := hlt1
    obtain ⟨h, hhe⟩ : ∃ h, X1.heap.size = h := ⟨_, rfl⟩
    rw [hhe] at HH2 hh HBX2 ⊢
    have HHE := Aside0.mk hhe
    clear d0 d1 d2 d3 d4 d5 hlt1 HZ1 HX1 hty htl hhe hlt
    generalize (X1.alloc (.cells #[.string NoB, .string NoB, .int .i64 m, .int .i64 b.length, .int .i64 t, .int .u8 (typF kn), .string q] 83)).drew = X2 at *
    as_aux_lemma =>
      have d0 : X2.cell? ⟨W.heap.size, 0, none⟩ = some (.string p) := (Blk.cell HX2.out 0).trans rfl
      have hlt2 := HX2.out.lt
      go_wp2_with fail
      refine (HSP.out _).mono ?_
      rintro e X3 ⟨rfl, hb⟩
      have HZ3 := Aside0.mk (HZ2.out.step hb)
      have HX3 : Aside0 (Blk X3 W.heap.size #[.string p, .int .u8 kn, .int .i64 m, .int .i64 t, .slice A b.length c, .string q] 25) := ⟨(hb.block _ HX2.out.lt).trans HX2.out⟩
      have hH3 : Blk X3 h #[.string NoB, .string NoB, .int .i64 m, .int .i64 b.length, .int .i64 t, .int .u8 (typF kn), .string q] 83 := (hb.block _ HH2.out.lt).trans HH2.out
      have HBX3 := Aside0.mk (HBX2.out.trans (hb.mono (by have := HBX2.out.size; have := HHE.out; omega)))
      have g0 : X3.cell? ⟨h, 0, none⟩ = some (.string NoB) := (Blk.cell hH3 0).trans rfl
      have g1 : X3.cell? ⟨h, 1, none⟩ = some (.string NoB) := (Blk.cell hH3 1).trans rfl
      have gf0 : X3.frozen? ⟨h, 0, none⟩ = false := Blk.free hH3 0
      have gf1 : X3.frozen? ⟨h, 1, none⟩ = false := Blk.free hH3 1
      have hlh := hH3.lt
      have k5 : X3.cell? ⟨W.heap.size, 5, none⟩ = some (.string q) := (Blk.cell HX3.out 5).trans rfl
      have kl5 := HX3.out.lt
      have HB4 : Aside0 (Below h X3 ((X3.setCell ⟨h, 1, none⟩ (.string s1)).setCell ⟨h, 0, none⟩ (.string s2))) := ⟨((Below.refl h X3).setCell (p := ⟨h, 1, none⟩) (Nat.le_refl _) _).setCell (p := ⟨h, 0, none⟩) (Nat.le_refl _) _⟩
      have HH4 : Aside0 (Blk ((X3.setCell ⟨h, 1, none⟩ (.string s1)).setCell ⟨h, 0, none⟩ (.string s2)) h #[.string s2, .string s1, .int .i64 m, .int .i64 b.length, .int .i64 t, .int .u8 (typF kn), .string q] 83) := ⟨((hH3.set 1 (.string s1)).set 0 (.string s2)).trans rfl⟩
      have HT4 : Aside0 (Turned (Eq h) X3 ((X3.setCell ⟨h, 1, none⟩ (.string s1)).setCell ⟨h, 0, none⟩ (.string s2))) := ⟨((Turned.refl (Eq h) X3).setCell (p := ⟨h, 1, none⟩) (.inl rfl) _).setCell (p := ⟨h, 0, none⟩) (.inl rfl) _⟩
      clear hb d0 hlt2 HX2 HH2 HBX2 HZ2 hH3 HSP
      go_upto_if 45 with (fail)
      clear g0 g1 gf0 gf1 k5 kl5 hlh
      generalize (X3.setCell ⟨h, 1, none⟩ (.string s1)).setCell ⟨h, 0, none⟩ (.string s2) = X4 at *
      as_aux_lemma =>
        have hTh : T < h := by omega
        have hzh : ∀ k, v0.ownBlock = some k → k < h := fun k hk => by have := (hz k hk).2; omega
        have HZ4 : Aside0 (Zt W0 W X4 T v0 v0 l) := ⟨⟨HZ3.out.tape.keep (fun k hk _ => HB4.out.block k (by rcases hk with rfl | hk; exact hTh; exact hzh k hk)), HZ3.out.bel.trans (HB4.out.mono (by omega)), HZ3.out.turn.then_ HT4.out (fun k hk => .inr (by omega)), .inl rfl⟩⟩
        have HX4 : Aside0 (Blk X4 W.heap.size #[.string p, .int .u8 kn, .int .i64 m, .int .i64 t, .slice A b.length c, .string q] 25) := ⟨(HB4.out.block _ (by omega)).trans HX3.out⟩
        have HBX4 := Aside0.mk (HBX3.out.trans HB4.out)
        clear HZ3 HX3 HBX3 HB4 HT4
        go_cut [] (fun wx => Aside0 (Zt W0 W wx T v0 v0 l) ∧ Aside0 (Blk wx W.heap.size #[.string p, .int .u8 kn, .int .i64 m, .int .i64 t, .slice A b.length c, .string q] 25) ∧ Aside0 (Blk wx h #[.string s2, .string s1, .int .i64 m, .int .i64 b.length, .int .i64 t, .int .u8 (typF kn), .string (lkF q)] 83) ∧ Aside0 (Below h X1 wx))
        case first =>
          as_aux_lemma =>
            by_cases hq : 100 < q.size
            · have g6 : X4.frozen? ⟨h, 6, none⟩ = false := Blk.free HH4.out 6
              have g6c : X4.cell? ⟨h, 6, none⟩ = some (.string q) := (Blk.cell HH4.out 6).trans rfl
              have hl6 := HH4.out.lt
              have HB5 : Aside0 (Below h X4 (X4.setCell ⟨h, 6, none⟩ (.string NoB))) := ⟨(Below.refl h X4).setCell (p := ⟨h, 6, none⟩) (Nat.le_refl _) _⟩
              have HT5 : Aside0 (Turned (Eq h) X4 (X4.setCell ⟨h, 6, none⟩ (.string NoB))) := ⟨(Turned.refl (Eq h) X4).setCell (p := ⟨h, 6, none⟩) (.inl rfl) _⟩
              have HH5 : Aside0 (Blk (X4.setCell ⟨h, 6, none⟩ (.string NoB)) h #[.string s2, .string s1, .int .i64 m, .int .i64 b.length, .int .i64 t, .int .u8 (typF kn), .string NoB] 83) := ⟨(HH4.out.set 6 (.string NoB)).trans rfl⟩
              have elk : lkF q = NoB := by unfold lkF; rw [if_pos hq]
              go_wp2_with fail
              go_meet
              rw [elk]
              exact ⟨⟨HZ4.out.tape.keep (fun k hk _ => HB5.out.block k (by rcases hk with rfl | hk; exact hTh; exact hzh k hk)), HZ4.out.bel.trans (HB5.out.mono (by omega)), HZ4.out.turn.then_ HT5.out (fun k hk => .inr (by omega)), .inl rfl⟩, ⟨(HB5.out.block _ (by omega)).trans HX4.out⟩, HH5, ⟨HBX4.out.trans HB5.out⟩⟩
            · have elk : lkF q = q := by unfold lkF; rw [if_neg hq]
              go_wp2_with fail
              go_meet
              rw [elk]
              exact ⟨HZ4, HX4, HH4, HBX4⟩
        case rest =>
          as_aux_lemma =>
            obtain ⟨HZ5, HX5, HH5, HBX5⟩ := hcut
            clear HZ4 HX4 HH4 HBX4
            have hLn := HPL.out
            go_upto_if 49 with (fail)
            go_cut [] (fun wx => ∃ v, Aside0 (Zt W0 W wx T v0 v (l ++ moreL L)) ∧ Aside0 (Blk wx W.heap.size #[.string p, .int .u8 kn, .int .i64 m, .int .i64 t, .slice A b.length c, .string q] 25) ∧ Aside0 (Blk wx h #[.string s2, .string s1, .int .i64 m, .int .i64 b.length, .int .i64 t, .int .u8 (typF kn), .string (lkF q)] 83))
            case first =>
              as_aux_lemma =>
                by_cases hL : L = []
                · subst hL
                  go_wp2_with fail
                  go_meet
                  exact ⟨v0, by rw [show moreL [] = [] from rfl, List.append_nil]; exact HZ5, HX5, HH5⟩
                · have hLl : 0 < L.length := List.length_pos_iff.2 hL
                  have hdl : decide ((0 : Int) < (L.length : Int)) = true := decide_eq_true (by omega)
                  have HME2 : Aside0 (moreL L = fillL (putH MoreB NoB 0 (putF L).1.length 0 120 NoB).1 ++ fillL (putF L).1) := ⟨by unfold moreL; rw [if_neg hL]⟩
                  have HPT := Aside0.mk (fun X hC ht => put_any A1 c1' L HSM.out (by have := HPL.out; omega) X hC ht)
                  have hrl := putF_len L
                  generalize moreL L = ML at *
                  generalize putF L = PT at *
                  obtain ⟨rc, ra, re⟩ := PT
                  simp only at HME2 hrl
                  unfold EndsPut at HPT
                  simp only at HPT
                  go_wp2_with fail
                  refine (HPT.out _ (Kd.C_below HC1.out (by rw [HHE.out]; exact HBX5.out)) (HV.out.below HZ5.out.bel).tab).mono ?_
                  rintro e X6 ⟨A6, c6, rfl, ho6, hb6⟩
                  obtain ⟨hc6, hF6⟩ := own_F rfl ho6
                  have HZ6 := Aside0.mk (HZ5.out.step hb6)
                  have HX6 : Aside0 (Blk X6 W.heap.size #[.string p, .int .u8 kn, .int .i64 m, .int .i64 t, .slice A b.length c, .string q] 25) := ⟨(hb6.block _ HX5.out.lt).trans HX5.out⟩
                  have HH6 : Aside0 (Blk X6 h #[.string s2, .string s1, .int .i64 m, .int .i64 b.length, .int .i64 t, .int .u8 (typF kn), .string (lkF q)] 83) := ⟨(hb6.block _ HH5.out.lt).trans HH5.out⟩
                  have HF6 := Aside0.mk hF6
                  have hs5 : h < wc.heap.size := HH5.out.lt
                  clear ho6 hb6 hF6 HZ5 HX5 HH5 HPT HBX5
                  as_aux_lemma =>
                    have HPH := Aside0.mk (fun X => putH_any MoreB NoB 0 rc.length 0 120 NoB X)
                    have HSL := Aside0.mk (fun X e X' => EndsH.slice (W := X) (W' := X') (nm := MoreB) (pf := NoB) (md := 0) (sz := rc.length) (tm := 0) (ty := 120) (lk := NoB) (e := e))
                    generalize putH MoreB NoB 0 rc.length 0 120 NoB = PP at *
                    obtain ⟨pb, pe2⟩ := PP
                    simp only at HSL HME2
                    go_wp2_with fail
                    refine (HPH.out _).mono ?_
                    rintro e X7 hh7
                    obtain ⟨hb, A7, c7, rfl, hc7, h512, hF7⟩ := HSL.out _ _ _ hh7
                    have HZ7 := Aside0.mk (HZ6.out.step hb)
                    have HX7 : Aside0 (Blk X7 W.heap.size #[.string p, .int .u8 kn, .int .i64 m, .int .i64 t, .slice A b.length c, .string q] 25) := ⟨(hb.block _ HX6.out.lt).trans HX6.out⟩
                    have HH7 : Aside0 (Blk X7 h #[.string s2, .string s1, .int .i64 m, .int .i64 b.length, .int .i64 t, .int .u8 (typF kn), .string (lkF q)] 83) := ⟨(hb.block _ HH6.out.lt).trans HH6.out⟩
                    have HF7 := Aside0.mk (Kd.F_now hF7)
                    have HF6b := Aside0.mk (Kd.F_below HF6.out hb)
                    clear hh7 hb hF7 HPH HSL HZ6 HX6 HH6 HF6
                    go_wp2_with fail
                    refine (put_tape A7 c7 X7 HZ7.out.tape HF7.out hc7 (by omega) HZ7.out.bel.size).mono ?_
                    rintro e X8 ⟨rfl, v8, ht8, htu8, hat8⟩
                    have HZ8 := Aside0.mk (HZ7.out.put hTb ht8 htu8 hat8)
                    have HX8 := Aside0.mk (blk_put HZ7.out.tape HX7.out (by decide) (by omega) htu8)
                    have HH8 := Aside0.mk (blk_put HZ7.out.tape HH7.out (by decide) (by omega) htu8)
                    have HF8 := Aside0.mk (Kd.F_now (Kd.F_step HF6b.out (fun k hk hlt => htu8.block k hlt (fun hi => by
                      rcases hi with rfl | hi
                      · omega
                      · have := (hz k hi).2; omega))))
                    have hfl := fillL_len pb
                    clear ht8 htu8 hat8 HZ7 HX7 HH7 HF7 HF6b
                    go_wp2_with fail
                    refine (put_tape A6 c6 X8 HZ8.out.tape HF8.out hc6 (by simp only [List.length_append, hfl]; omega) HZ8.out.bel.size).mono ?_
                    rintro e X9 ⟨rfl, v9, ht9, htu9, hat9⟩
                    have HZ9 := Aside0.mk (HZ8.out.put hTb ht9 htu9 hat9)
                    have HX9 := Aside0.mk (blk_put HZ8.out.tape HX8.out (by decide) (by omega) htu9)
                    have HH9 := Aside0.mk (blk_put HZ8.out.tape HH8.out (by decide) (by omega) htu9)
                    clear ht9 htu9 hat9 HZ8 HX8 HH8 HF8
                    go_wp2_with fail
                    go_meet
                    exact ⟨v9, by rw [HME2.out, ← List.append_assoc]; exact HZ9, HX9, HH9⟩
            case rest =>
              as_aux_lemma =>
                obtain ⟨v, HZ9, HX9, HH9⟩ := hcut
                have e0 : wc.cell? ⟨h, 0, none⟩ = some (.string s2) := (Blk.cell HH9.out 0).trans rfl
                have e1 : wc.cell? ⟨h, 1, none⟩ = some (.string s1) := (Blk.cell HH9.out 1).trans rfl
                have e2 : wc.cell? ⟨h, 2, none⟩ = some (.int .i64 m) := (Blk.cell HH9.out 2).trans rfl
                have e3 : wc.cell? ⟨h, 3, none⟩ = some (.int .i64 b.length) := (Blk.cell HH9.out 3).trans rfl
                have e4 : wc.cell? ⟨h, 4, none⟩ = some (.int .i64 t) := (Blk.cell HH9.out 4).trans rfl
                have e5 : wc.cell? ⟨h, 5, none⟩ = some (.int .u8 (typF kn)) := (Blk.cell HH9.out 5).trans rfl
                have e6 : wc.cell? ⟨h, 6, none⟩ = some (.string (lkF q)) := (Blk.cell HH9.out 6).trans rfl
                have hle := HH9.out.lt
                have HPH := Aside0.mk (fun X => putH_any s2 s1 m b.length t (typF kn) (lkF q) X)
                have HSL := Aside0.mk (fun X e X' => EndsH.slice (W := X) (W' := X') (nm := s2) (pf := s1) (md := m) (sz := b.length) (tm := t) (ty := typF kn) (lk := lkF q) (e := e))
                generalize putH s2 s1 m b.length t (typF kn) (lkF q) = PP at *
                obtain ⟨pb, pe2⟩ := PP
                simp only at HSL HPI
                go_wp2_with fail
                refine (HPH.out _).mono ?_
                rintro e X10 hh10
                obtain ⟨hb, A10, c10, rfl, hc10, h512, hF10⟩ := HSL.out _ _ _ hh10
                have HZ10 := Aside0.mk (HZ9.out.step hb)
                have HX10 : Aside0 (Blk X10 W.heap.size #[.string p, .int .u8 kn, .int .i64 m, .int .i64 t, .slice A b.length c, .string q] 25) := ⟨(hb.block _ HX9.out.lt).trans HX9.out⟩
                have HF10 := Aside0.mk (Kd.F_now hF10)
                have hml := HML.out
                clear hh10 hb hF10 e0 e1 e2 e3 e4 e5 e6 hle HPH HSL HZ9 HX9 HH9
                as_aux_lemma =>
                  go_wp2_with fail
                  refine (put_tape A10 c10 X10 HZ10.out.tape HF10.out hc10 (by rw [List.length_append]; omega) HZ10.out.bel.size).mono ?_
                  rintro e X11 ⟨rfl, v11, ht11, htu11, hat11⟩
                  have HZ11 := Aside0.mk (HZ10.out.put hTb ht11 htu11 hat11)
                  have hX11 := blk_put HZ10.out.tape HX10.out (by decide) (by omega) htu11
                  have f4 : X11.cell? ⟨W.heap.size, 4, none⟩ = some (.slice A b.length c) := (Blk.cell hX11 4).trans rfl
                  have hl11 := hX11.lt
                  have hfl := fillL_len pb
                  have HCB := Aside0.mk (HC0.out _ _ _ HZ11.out)
                  clear ht11 htu11 hat11 hX11 HZ10 HX10 HF10
                  go_wp2_with fail
                  refine (put_tape A c X11 HZ11.out.tape HCB.out hc (by simp only [List.length_append, hfl]; omega) HZ11.out.bel.size).mono ?_
                  rintro e X12 ⟨rfl, v12, ht12, htu12, hat12⟩
                  have HZ12 := Aside0.mk (HZ11.out.put hTb ht12 htu12 hat12)
                  clear ht12 htu12 hat12 HZ11 f4
                  go_wp2_with fail
                  refine bodyPost_end (v := .tuple #[]) (by simp [results, Tryd.f26, go_sem]) rfl ?_
                  rw [HE.out, HPI.out]
                  refine ⟨rfl, v12, ?_⟩
                  rw [← List.append_assoc, ← List.append_assoc]
                  exact HZ12.out
end Go.Proofs.YtopehfjohifpnaaDoor.Mine
end
section
set_option linter.unusedSimpArgs false
set_option linter.unusedVariables false
namespace Go.Proofs.YtopehfjohifpnaaDoor.Mine
open Go.RowKit Go.Shelf Go.Proofs.YtopehfjohifpnaaDoorW.PrintWords Go.Proofs.YtopehfjohifpnaaDoorW.PrintLast Go.Proofs.YtopehfjohifpnaaDoorW.PrintMore Go.Proofs.YtopehfjohifpnaaDoor.Turn Go.Proofs.YtopehfjohifpnaaDoor.Doc
theorem moreL_len (L : List S33) : (moreL L).length ≤ 80000 := by
  unfold moreL
  split
  · simp
  · have h1 := putF_len L
    have h2 : (putH MoreB NoB 0 (putF L).1.length 0 120 NoB).1.length ≤ 512 := putH_len _ _ _ _ _ _ _
    rw [List.length_append, fillL_len, fillL_len]
    omega
theorem pieces_len {x : S25} (h : mayX x = 0) : (piecesF x).length ≤ 200000 := by
  have h1 := moreL_len (pairsF x.f0 x.f1 x.f2 x.f3 x.f4.length x.f5).1
  have h2 : (ownH x).1.length ≤ 512 := putH_len _ _ _ _ _ _ _
  have h3 := may_body h
  unfold piecesF
  rw [List.length_append, List.length_append, fillL_len, fillL_len]
  omega
set_option maxRecDepth 100000 in
theorem len_tape {T base : Nat} {v : Value} {l : List Int} (W : World) (hT : Tape W T base v l) : Calls Tryd.prog 27 #[.pointer (some ⟨T, 0, none⟩)] W fun e W' => e = .returned (.int .i64 l.length) ∧ Below W.heap.size W W' := by
  obtain ⟨A0, c0, rfl⟩ := Kd.R_slice hT.2
  have k0 : W.cell? ⟨T, 0, none⟩ = some (.slice A0 l.length c0) := (Blk.cell hT.1 0).trans rfl
  have hlt := Blk.lt hT.1
  clear hT
  go_enter Tryd.func27, Tryd.ntmps27
  go_wp2_with fail
  go_ret
  exact ⟨rfl, Below.refl _ _⟩
def EndsWrite (w : World) (r : List Int × Int × Int) (e : Ending) (w' : World) : Prop :=
  ∃ A c, e = .returned (.tuple #[.slice A r.1.length c, .int .i64 r.2.1, .int .i64 r.2.2]) ∧ RB w' w.heap.size (.slice A r.1.length c) r.1 ∧ Below w.heap.size w w'
set_option maxRecDepth 100000 in
set_option maxHeartbeats 8000000 in
theorem write_any (A : Option Addr) (c : Nat) (l : List S25) (i0 : Int) (w : World) (hr : Kd.C k25 w A l.length l) (hV : Vars w i0) :
    Calls Tryd.prog 9 #[.slice A l.length c] w (EndsWrite w (writeF l)) := by
  have HR := Aside0.mk hr
  have HV := Aside0.mk hV
  have HCK := Aside0.mk (checkT_any A c l i0 w hr hV.len)
  have HW : Aside0 (writeF l = if (checkT l).2 ≠ 0 then ([], (checkT l).1, (checkT l).2) else volG l l.length 0 []) := ⟨rfl⟩
  have HOK : Aside0 ((checkT l).2 = 0 → l.length ≤ 256 ∧ ∀ i, i < l.length → mayX (itm l i) = 0) := ⟨checkT_ok⟩
  have HE : Aside0 (EndsWrite w (writeF l) = fun e w' => ∃ A c, e = .returned (.tuple #[.slice A (writeF l).1.length c, .int .i64 (writeF l).2.1, .int .i64 (writeF l).2.2]) ∧ RB w' w.heap.size (.slice A (writeF l).1.length c) (writeF l).1 ∧ Below w.heap.size w w') := ⟨rfl⟩
  obtain ⟨PE, hPE⟩ : ∃ PE, EndsWrite w (writeF l) = PE := ⟨_, rfl⟩
  rw [hPE] at HE ⊢
  generalize writeF l = R at *
  obtain ⟨ct, hct⟩ : ∃ ct, checkT l = ct := ⟨_, rfl⟩
  rw [hct] at HCK HW HOK
  obtain ⟨ca, ce⟩ := ct
  simp only at HCK HW HOK
  clear hr hV hPE hct
  go_enter Tryd.func9, Tryd.ntmps9
  go_wp2_with fail
  refine HCK.out.mono ?_
  rintro e w1 ⟨rfl, hb⟩
  have HB1 := Aside0.mk hb
  clear hb HCK
  by_cases h0 : ce = 0
  case neg =>
    have hne : (ce != 0) = true := bne_iff_ne.2 h0
    have HY : Aside0 (R = ([], ca, ce)) := ⟨by rw [HW.out, if_pos h0]⟩
    clear HW HOK
    go_wp2_with fail
    go_ret3
    rw [HE.out, HY.out]
    exact ⟨none, 0, rfl, Kd.R_nil _ _ _ _ _, HB1.out⟩
  case pos =>
    subst h0
    have HY : Aside0 (R = volG l l.length 0 []) := ⟨by rw [HW.out, if_neg (fun e => e rfl)]⟩
    have hl := (HOK.out rfl).1
    have HM := Aside0.mk (HOK.out rfl).2
    clear HW HOK
    have HT1 : Aside0 (Tape (w1.alloc (.cells #[.slice none 0 0] 59)) w1.heap.size w.heap.size (.slice none 0 0) []) := ⟨Blk.new w1 _ _, Kd.R_nil _ _ _ _ _⟩
    have HB2 := Aside0.mk (below_alloc HB1.out (.cells #[.slice none 0 0] 59))
    have HTB := Aside0.mk HB1.out.size
    obtain ⟨T, hT⟩ : ∃ T, w1.heap.size = T := ⟨_, rfl⟩
    rw [hT] at HT1 HTB
    have hTT := Aside0.mk hT
    clear hT
    go_wp2_with fail
    rw [hTT.out]
    generalize w1.alloc (.cells #[.slice none 0 0] 59) = w2 at *
    clear hTT HB1
    go_loopw [21] (fun u X => ∃ (i : Nat) (acc : List Int) (v : Value), i ≤ l.length ∧ acc.length ≤ 131072 ∧ u = .int .i64 i ∧ Aside0 (Tape X T w.heap.size v acc) ∧ Aside0 (Below w.heap.size w X) ∧ Aside0 (R = volG l (l.length - i) i acc)) (fun u _ => l.length - (intOf u).toNat)
    case atStart => exact ⟨0, [], _, Nat.zero_le _, by simp, rfl, HT1, HB2, HY⟩
    case round =>
      clear HT1 HB2 HY
      rename World => X
      obtain ⟨i, acc, v, hi, hal, rfl, HT, HB, HY⟩ := hrel
      by_cases hlt : i < l.length
      · have HY2 : Aside0 (R = if 131072 < (acc ++ piecesF (itm l i)).length + 1024 then ([], (i : Int), 2) else volG l (l.length - (i + 1)) (i + 1) (acc ++ piecesF (itm l i))) := ⟨by rw [HY.out, show l.length - i = (l.length - (i + 1)) + 1 by omega]; rfl⟩
        obtain ⟨ad, A4, c4, e, h0, h1, h2, h3, h4, h5, h6, h7⟩ := cells_I HR.out hlt
        obtain ⟨ad', A4', c4', e', g0, g1, g2, g3, g4, g5, _, _⟩ := cells_I (Kd.C_below HR.out HB.out) hlt
        subst e
        have hw4 : X.cell? ⟨(ad.add (i * 6)).block, (ad.add (i * 6)).off + 4, none⟩ = some (.slice A4 (itm l i).f4.length c4) := pw_cell_below HB.out h4
        cases e'
        have e9 := g4.symm.trans hw4
        cases e9
        have HC7 := Aside0.mk h7
        have hm0 := HM.out i hlt
        have hpl := pieces_len hm0
        have hbl := World.block_lt_of_cell? _ _ g0
        clear h0 h1 h2 h3 h4 h5 h7 hw4
        have HIT := Aside0.mk (fun (W : World) hT hB => item_any (T := T) (v0 := v) (l := acc) (itm l i) hm0 A4 c4 i0 w W hT HTB.out hB HV.out (fun X v l' hz => Kd.C_below HC7.out hz.bel) h6 (by omega))
        generalize piecesF (itm l i) = pc at *
        clear HY hm0
        obtain ⟨x, hx⟩ : ∃ x, itm l i = x := ⟨_, rfl⟩
        rw [hx] at g0 g1 g2 g3 g4 g5 HIT h6
        clear hx HC7
        obtain ⟨p, k, m, t, bd, q⟩ := x
        simp only at g0 g1 g2 g3 g4 g5 HIT h6
        have HT2 := Aside0.mk (HT.out.below (below_alloc (Below.refl _ X) (.cells #[.string p, .int .u8 k, .int .i64 m, .int .i64 t, .slice A4 bd.length c4, .string q] 25)))
        have HB2 := Aside0.mk (below_alloc HB.out (.cells #[.string p, .int .u8 k, .int .i64 m, .int .i64 t, .slice A4 bd.length c4, .string q] 25))
        clear HT HB
        go_wp2_with fail
        refine (HIT.out _ HT2.out HB2.out).mono ?_
        rintro e X2 ⟨rfl, v2, hz2⟩
        have HT3 := Aside0.mk hz2.tape
        have HB3 := Aside0.mk hz2.bel
        have hlen : (acc ++ pc).length ≤ 400000 := by rw [List.length_append]; omega
        obtain ⟨ac2, hac2⟩ : ∃ ac2, acc ++ pc = ac2 := ⟨_, rfl⟩
        rw [hac2] at HT3 HY2 hlen
        clear hz2 HIT HT2 HB2 hac2 g0 g1 g2 g3 g4 g5
        go_wp2_with fail
        refine (len_tape X2 HT3.out).mono ?_
        rintro e X3 ⟨rfl, hb⟩
        have HT4 := Aside0.mk (HT3.out.below hb)
        have HB4 := Aside0.mk (below_step HB3.out hb)
        clear hb HT3 HB3
        by_cases hbig : 131072 < ac2.length + 1024
        · have HZ : Aside0 (R = ([], (i : Int), 2)) := ⟨by rw [HY2.out, if_pos hbig]⟩
          have hd : decide ((131072 : Int) < (ac2.length : Int) + 1024) = true := decide_eq_true (by omega)
          clear HY2 hbig
          go_wp2_with fail
          go_ret3
          rw [HE.out, HZ.out]
          exact ⟨none, 0, rfl, Kd.R_nil _ _ _ _ _, HB4.out⟩
        · have HZ : Aside0 (R = volG l (l.length - (i + 1)) (i + 1) ac2) := ⟨by rw [HY2.out, if_neg hbig]⟩
          have hd : decide ((131072 : Int) < (ac2.length : Int) + 1024) = false := decide_eq_false (by omega)
          have hle : ac2.length ≤ 131072 := by omega
          clear HY2 hbig
          go_wp2_with fail
          go_roundw
          case rel => exact ⟨i + 1, ac2, v2, by omega, hle, by go_num, HT4, HB4, HZ⟩
          case measure => simp [intOf]; omega
      · obtain rfl : i = l.length := by omega
        have HZ : Aside0 (R = (acc ++ zs 1024, 0, 0)) := ⟨by rw [HY.out, Nat.sub_self]; rfl⟩
        obtain ⟨A0, c0, rfl⟩ := Kd.R_slice HT.out.2
        have k0 : X.cell? ⟨T, 0, none⟩ = some (.slice A0 acc.length c0) := (Blk.cell HT.out.1 0).trans rfl
        have hlT := Blk.lt HT.out.1
        clear HY
        obtain ⟨n, hn⟩ : ∃ n : Nat, n = 1024 := ⟨_, rfl⟩
        obtain ⟨X2, hmk, hsz2, hbe2, hC2⟩ := make_n n (by omega) X.drew
        have hC1 : Kd.C (Kd.int .u8) X2 A0 acc.length acc := by
          obtain ⟨A', c', e3, hc, hC⟩ := Kd.R_reads HT.out.2
          cases e3
          exact Kd.C_below hC ((below_drew (Below.refl X.heap.size X)).trans hbe2)
        have hcc : acc.length ≤ c0 := by
          obtain ⟨A', c', e3, hc, hC⟩ := Kd.R_reads HT.out.2
          cases e3
          exact hc
        have hz := zs_length n
        obtain ⟨zz, hzz⟩ : ∃ zz, zs n = zz := ⟨_, rfl⟩
        rw [hzz] at hz hC2
        have HZZ : Aside0 (zs 1024 = zz) := ⟨by rw [← hn]; exact hzz⟩
        have h2 := C_two 23 (y := zz) (c2 := n) hC1 hcc (by rw [hz]; exact hC2) (Nat.le_of_eq hz)
        rw [hz] at h2
        have hsl : sumLen [acc, zz] ≤ 1000000 := by simp only [sumLen, List.map_cons, List.map_nil, List.sum_cons, List.sum_nil, hz]; omega
        have hcf : [acc, zz].flatten = acc ++ zz := by simp
        have hcc2 := concat_any (some ⟨X2.heap.size, 0, none⟩) 2 [acc, zz] (by show 2 ≤ 1000; omega) hsl _ h2
        rw [hcf] at hcc2
        have HCC : Aside0 (Calls Tryd.prog 28 #[.slice (some ⟨X2.heap.size, 0, none⟩) 2 2] (X2.alloc (.cells #[.slice A0 acc.length c0, .slice (some ⟨X.heap.size, 0, none⟩) n n] 23)) fun e W' => ∃ A' c', e = .returned (.slice A' (acc ++ zz).length c') ∧ RB W' (X2.alloc (.cells #[.slice A0 acc.length c0, .slice (some ⟨X.heap.size, 0, none⟩) n n] 23)).heap.size (.slice A' (acc ++ zz).length c') (acc ++ zz) ∧ Below (X2.alloc (.cells #[.slice A0 acc.length c0, .slice (some ⟨X.heap.size, 0, none⟩) n n] 23)).heap.size (X2.alloc (.cells #[.slice A0 acc.length c0, .slice (some ⟨X.heap.size, 0, none⟩) n n] 23)) W') := ⟨hcc2⟩
        have HBB : Aside0 (Below w.heap.size w (X2.alloc (.cells #[.slice A0 acc.length c0, .slice (some ⟨X.heap.size, 0, none⟩) n n] 23))) := ⟨below_alloc ((below_drew HB.out).trans (hbe2.mono HB.out.size)) _⟩
        have HLZ : Aside0 ((acc ++ zz).length = (acc ++ zs 1024).length) := ⟨by rw [HZZ.out]⟩
        have HSZ := Aside0.mk hsz2
        have kX2 : X2.cell? ⟨T, 0, none⟩ = some (.slice A0 acc.length c0) := pw_cell_below (w := X) ((below_drew (Below.refl X.heap.size X)).trans hbe2) k0
        clear h2 hC1 hC2 hcc hbe2 hz hzz hsl hsz2 hcc2 hcf
        have hmk2 : (Instr.makeSlice 23 (.int .i64 1024) (.int .i64 1024)).run Tryd.prog X.drew = .ok (.slice (some ⟨X.drew.heap.size, 0, none⟩) n n) X2 := by rw [← hmk, hn]; rfl
        clear hmk
        have HN := Aside0.mk hn
        clear hn
        have hmk3 : (Instr.makeSlice 23 (.int .i64 1024) (.int .i64 1024)).run Tryd.prog X.drew = .ok (.slice (some ⟨X.heap.size, 0, none⟩) n n) X2 := hmk2
        clear hmk2
        go_wp2_with fail
        go_region_held3 (fun w' => w'.cell? ⟨T, 0, none⟩ = some (.slice A0 acc.length c0)) (first | go_keep | assumption | (exact pw_cell_below hb5 (cell_alloc_l _ kX2))) (first | (go_at_call 28; refine HCC.out.mono ?_; rintro e X5 ⟨A5, c5, rfl, ho5, hb5⟩))
        go_wp2_with fail
        go_ret3
        rw [HE.out, HZ.out]
        simp only
        rw [HZZ.out]
        exact ⟨A5, c5, by rw [List.length_append]; rfl, Kd.R_lower ho5 HBB.out.size, HBB.out.trans (hb5.mono HBB.out.size)⟩
end Go.Proofs.YtopehfjohifpnaaDoor.Mine
end
section
set_option linter.unusedSimpArgs false
set_option linter.unusedVariables false
namespace Go.Proofs.YtopehfjohifpnaaDoor.Mine
open Go.RowKit Go.Shelf Go.Proofs.YtopehfjohifpnaaDoorW.PrintWords Go.Proofs.YtopehfjohifpnaaDoorW.PrintLast Go.Proofs.YtopehfjohifpnaaDoorW.PrintMore Go.Proofs.YtopehfjohifpnaaDoor.Turn Go.Proofs.YtopehfjohifpnaaDoor.Doc
theorem idx_mem : ∀ {l : List UInt8}, ¬ 0 ≤ Lib.indexByte l 0 → l.contains 0 = false
  | [], _ => rfl
  | x :: l, h => by
    rw [idx_cons] at h
    have hg := Lib.indexByte_ge l 0
    by_cases hx : (x == 0) = true
    · rw [if_pos hx] at h; exact absurd (Int.le_refl 0) h
    · rw [if_neg hx] at h
      have hx2 : (0 == x) = false := beq_eq_false_iff_ne.2 (fun e => hx (beq_iff_eq.2 e.symm))
      rw [List.contains_cons, hx2, Bool.false_or]
      refine idx_mem (fun h0 => h ?_)
      rw [if_neg (by rw [beq_iff_eq]; omega)]
      omega
theorem part_ok {x : ByteArray} (h : (partE x).2 = 0) : nulB x = false ∧ x.size ≠ 0 := by
  unfold partE at h
  split at h
  · exact absurd h (by decide)
  · rename_i h0
    split at h
    · exact absurd h (by decide)
    · split at h
      · exact absurd h (by decide)
      · split at h
        · exact absurd h (by show ¬ (82 : Int) = 0; decide)
        · rename_i h1
          exact ⟨idx_mem h1, h0⟩
theorem chk_all : ∀ {l : List S95}, (chk l).2 = 0 → ∀ p ∈ l, (partE p.f1).2 = 0
  | [], _, p, hp => by cases hp
  | q :: l, h, p, hp => by
    unfold chk at h
    by_cases hq : (partE q.f1).2 = 0
    · rw [if_pos hq] at h
      rcases List.mem_cons.1 hp with rfl | h2
      · exact hq
      · exact chk_all h p h2
    · rw [if_neg hq] at h; exact absurd h hq
theorem ext_list (s : ByteArray) (a b : Nat) : (s.extract a b).data.toList = (s.data.toList.drop a).take (b - a) := by
  rw [ByteArray.data_extract, Array.toList_extract, List.extract_eq_take_drop]
theorem nul_get {s : ByteArray} (h : nulB s = false) (j : Nat) : s.data.toList[j]? ≠ some 0 := fun e => by
  unfold nulB at h
  rw [List.contains_iff_mem.2 (List.mem_of_getElem? e)] at h
  cases h
theorem pcG_nul (s : ByteArray) : ∀ (m f i : Nat), i + m = s.size → f ≤ i → (∀ p ∈ pcG s m f i, nulB p.f1 = false) → ∀ j, f ≤ j → j < s.size → s.data.toList[j]? ≠ some 0
  | 0, f, i, hi, hf, h, j, h1, h2 => by
    have := nul_get (h _ (List.mem_singleton.2 rfl)) (j - f)
    rwa [tail_get s f _ (by omega), show f + (j - f) = j by omega] at this
  | m + 1, f, i, hi, hf, h, j, h1, h2 => by
    have hp : pcG s (m + 1) f i = if bt s i = 47 then ⟨f, s.extract f i⟩ :: pcG s m (i + 1) (i + 1) else pcG s m f (i + 1) := rfl
    rw [hp] at h
    by_cases hb : bt s i = 47
    · rw [if_pos hb] at h
      rcases Nat.lt_trichotomy j i with h3 | h3 | h3
      · have := nul_get (h _ List.mem_cons_self) (j - f)
        simp only at this
        rwa [ext_list, List.getElem?_take, if_pos (by omega), List.getElem?_drop, show f + (j - f) = j by omega] at this
      · subst h3
        rw [(bt_eq s j h2).1 hb]
        decide
      · exact pcG_nul s m (i + 1) (i + 1) (by omega) (Nat.le_refl _) (fun p hp => h p (List.mem_cons_of_mem _ hp)) j (by omega) h2
    · rw [if_neg hb] at h
      exact pcG_nul s m f (i + 1) (by omega) (by omega) h j h1 h2
theorem path_ok {s : ByteArray} (h : (checkF s).2 = 0) : nulB s = false ∧ s.size ≤ 400 ∧ s.size ≠ 0 ∧ bt s 0 ≠ 47 := by
  unfold checkF at h
  by_cases hs : 400 < s.size
  · rw [if_pos hs] at h; exact absurd h (by decide)
  rw [if_neg hs] at h
  have ha := chk_all h
  have hn : s.size ≠ 0 := fun h0 => by
    have h1 := (part_ok (ha ⟨(0 : Nat), s.extract 0 s.size⟩ (by unfold pcs; rw [h0]; unfold pcG; rw [h0]; exact List.mem_singleton.2 rfl))).2
    exact h1 (by show (s.extract 0 s.size).size = 0; rw [ByteArray.size_extract]; omega)
  refine ⟨?_, by omega, hn, fun h0 => ?_⟩
  · have key := pcG_nul s s.size 0 0 (by omega) (Nat.le_refl _) (fun p hp => (part_ok (ha p hp)).1)
    unfold nulB
    cases hc : s.data.toList.contains 0 with
    | false => rfl
    | true =>
      obtain ⟨j, hj⟩ := List.mem_iff_getElem?.1 (List.contains_iff_mem.1 hc)
      have hlt : j < s.size := by rw [Lib.size_eq]; exact (List.getElem?_eq_some_iff.1 hj).1
      exact absurd hj (key j (Nat.zero_le _) hlt)
  · obtain ⟨m, hm⟩ : ∃ m, s.size = m + 1 := ⟨s.size - 1, by omega⟩
    have h1 := (part_ok (ha ⟨(0 : Nat), s.extract 0 0⟩ (by
      unfold pcs
      rw [hm]
      show _ ∈ (if bt s 0 = 47 then ⟨(0 : Nat), s.extract 0 0⟩ :: pcG s m 1 1 else pcG s m 0 1)
      rw [if_pos h0]
      exact List.mem_cons_self))).2
    exact h1 (by show (s.extract 0 0).size = 0; rw [ByteArray.size_extract]; omega)
theorem ext_nul {s : ByteArray} (h : nulB s = false) (a b : Nat) : nulB (s.extract a b) = false := by
  unfold nulB at *
  cases hc : (s.extract a b).data.toList.contains 0 with
  | false => rfl
  | true =>
    have h1 := List.contains_iff_mem.1 hc
    rw [ext_list] at h1
    rw [List.contains_iff_mem.2 (List.mem_of_mem_drop (List.mem_of_mem_take h1))] at h
    cases h
theorem split_cases {s : ByteArray} (h : (checkF s).2 = 0) : (splitF s = (NoB, s, 0) ∧ s.size ≤ 100) ∨ (splitF s = (NoB, NoB, 2) ∧ 100 < s.size) ∨
    (∃ k, 0 < k ∧ k ≤ 155 ∧ k < s.size ∧ s.size - k - 1 ≤ 100 ∧ splitF s = (s.extract 0 k, s.extract (k + 1) s.size, 0) ∧ s.data.toList = (s.extract 0 k).data.toList ++ 47 :: (s.extract (k + 1) s.size).data.toList) := by
  obtain ⟨h1, h2, h3, h4⟩ := path_ok h
  unfold splitF
  rw [if_neg (fun e => e h)]
  by_cases hs : s.size ≤ 100
  · rw [if_pos hs]; exact .inl ⟨rfl, hs⟩
  rw [if_neg hs]
  by_cases hk : splitN s < 0 ∨ 100 < (s.size : Int) - splitN s - 1
  · rw [if_pos hk]; exact .inr (.inl ⟨rfl, by omega⟩)
  rw [if_neg hk]
  refine .inr (.inr ?_)
  rcases Lib.lastIdx_spec s 47 (min s.size 156) with ⟨e, _⟩ | ⟨i, hi, e, hb, _⟩
  · exact absurd (.inl (by unfold splitN; rw [e]; omega)) hk
  · have e' : splitN s = i := e
    rw [e'] at hk ⊢
    have hb2 : bt s i = 47 := by rw [bt_bang s i (by omega)]; exact hb
    have hi0 : 0 < i := by
      rcases Nat.eq_zero_or_pos i with h0 | h0
      · subst h0; exact absurd hb2 h4
      · exact h0
    refine ⟨i, hi0, by omega, by omega, by omega, rfl, ?_⟩
    have hlt : i < s.data.toList.length := by rw [← Lib.size_eq]; omega
    have hg := (bt_eq s i (by omega)).1 hb2
    rw [List.getElem?_eq_getElem hlt] at hg
    have a : (s.data.toList.drop (i + 1)).take (s.size - (i + 1)) = s.data.toList.drop (i + 1) := List.take_of_length_le (by rw [List.length_drop, ← Lib.size_eq]; omega)
    rw [ext_list, ext_list, List.drop_zero, Nat.sub_zero, a, ← Option.some.inj hg, ← List.drop_eq_getElem_cons hlt, List.take_append_drop]
theorem may_num {x : S25} (h : mayX x = 0) : (0 ≤ x.f2 ∧ x.f2 ≤ 4095) ∧ 0 ≤ x.f3 ∧ x.f3 ≤ 1099511627776 := by
  obtain ⟨h1, -, -⟩ := may_t h
  unfold mayX mayF at h
  rw [if_neg (c := (checkF x.f0).2 ≠ 0) (fun e => e h1)] at h
  obtain ⟨h2, h3⟩ := key0 (by decide) h
  have a1 : (if x.f1 = 3 then 0 else 1099511627776 : Int) ≤ 1099511627776 := by split <;> omega
  have a2 : (if x.f1 = 3 ∨ x.f1 = 4 then 0 else 4095 : Int) ≤ 4095 := by split <;> omega
  omega
theorem may_q2 {x : S25} (h : mayX x = 0) : nulB x.f5 = false := by
  obtain ⟨h1, h2, h3⟩ := may_t h
  unfold mayT at h3
  obtain ⟨c1, h3⟩ := key0 (by decide) h3
  obtain ⟨c2, h3⟩ := key0 (by decide) h3
  by_cases k3 : x.f1 = 3
  · rw [if_pos k3] at h3
    exact (path_ok h3).1
  · rw [if_neg k3] at h3
    by_cases k4 : x.f1 = 4
    · rw [if_pos k4] at h3
      unfold leadE at h3
      rw [if_neg (c := (checkF x.f0).2 ≠ 0) (fun e => e h1)] at h3
      exact idx_mem (key0 (by decide) (key0 (by decide) (key0 (by decide) h3).2).2).1
    · have h0 : x.f5.size = 0 := by
        rcases Nat.eq_zero_or_pos x.f5.size with h | h
        · exact h
        · exact absurd ⟨by omega, by omega⟩ c2
      unfold nulB
      rw [List.eq_nil_of_length_eq_zero (l := x.f5.data.toList) (by rw [← Lib.size_eq]; exact h0)]
      rfl
theorem own_good {x : S25} (h : mayX x = 0) : GoodH (splitF x.f0).2.1 (splitF x.f0).1 x.f2 x.f4.length x.f3 (typF x.f1) (lkF x.f5) := by
  obtain ⟨h1, h2, -⟩ := may_t h
  obtain ⟨n1, n2, n3⟩ := may_num h
  obtain ⟨p1, p2, p3, p4⟩ := path_ok h1
  have hb := may_body h
  have hq := may_q2 h
  have hty : typF x.f1 = 48 ∨ typF x.f1 = 49 ∨ typF x.f1 = 50 ∨ typF x.f1 = 53 ∨ typF x.f1 = 120 := by
    unfold typF
    split
    · omega
    · split
      · omega
      · split <;> omega
  have hl : (lkF x.f5).size ≤ 100 ∧ nulB (lkF x.f5) = false := by
    unfold lkF
    split
    · exact ⟨by decide, by decide⟩
    · exact ⟨by omega, hq⟩
  rcases split_cases h1 with ⟨e, hs⟩ | ⟨e, hs⟩ | ⟨k, k0, k1, k2, k3, e, _⟩
  · rw [e]; exact ⟨hty, hs, hl.1, by show NoB.size ≤ 155; decide, p1, hl.2, by show nulB NoB = false; decide, n1, by omega, by omega⟩
  · rw [e]; exact ⟨hty, by decide, hl.1, by decide, by decide, hl.2, by decide, n1, by omega, by omega⟩
  · rw [e]; exact ⟨hty, by simp only [ByteArray.size_extract]; omega, hl.1, by simp only [ByteArray.size_extract]; omega, ext_nul p1 _ _, hl.2, ext_nul p1 _ _, n1, by omega, by omega⟩
theorem may_of {nm pf lk : ByteArray} {md sz tm ty : Int} (h : GoodH nm pf md sz tm ty lk) : mayH nm pf md sz tm ty lk = 0 := by
  unfold mayH
  have h1 := h.hty
  have h2 := h.hnm
  have h3 := h.hlk
  have h4 := h.hpf
  have h5 := h.hmd
  have h6 := h.hsz
  have h7 := h.htm
  rw [if_neg (fun e => e h1), if_neg (by omega), if_neg (by rw [h.nnul, h.lnul, h.pnul]; simp), if_neg (by omega)]
theorem ownH_eq {x : S25} (h : mayX x = 0) : (ownH x).1 = layF (splitF x.f0).2.1 (splitF x.f0).1 x.f2 x.f4.length x.f3 (typF x.f1) (lkF x.f5) := by
  unfold ownH putH
  rw [if_pos (may_of (own_good h))]
def KeyP (k : ByteArray) : Prop := k = KLink ∨ k = KPath
theorem fit_key {k v : ByteArray} (hk : KeyP k) (hv : v.size ≤ 1000) : fitN k v = 0 := by
  unfold fitN
  have h1 : ¬ (k.size = 0 ∨ 32 < k.size ∨ badK k.data.toList = true) := by rcases hk with rfl | rfl <;> decide
  rw [if_neg h1, if_neg (by omega)]
theorem putF_one (x : S33) (h : fitN x.f0 x.f1 = 0) : putF [x] = (recP x, 0, 0) := by
  unfold putF
  rw [if_neg (by simp)]
  show (if fitN x.f0 x.f1 ≠ 0 then _ else if (decide (0 < 0) && _) = true then _ else _) = _
  rw [if_neg (fun e => e h), if_neg (by simp)]
  rfl
theorem fill_512 {l : List Int} (h : l.length = 512) : fillL l = l := by unfold fillL; rw [h]; simp [zs]
theorem more_good {n : Nat} (h : n ≤ 70400) : GoodH MoreB NoB 0 (n : Int) 0 120 NoB := ⟨by omega, by decide, by decide, by decide, by decide, by decide, by decide, by omega, by omega, by omega⟩
theorem moreL_nil : moreL [] = [] := by unfold moreL; rw [if_pos rfl]
theorem moreL_eq {L : List S33} (h : L ≠ []) : moreL L = layF MoreB NoB 0 (putF L).1.length 0 120 NoB ++ fillL (putF L).1 := by
  have hg := more_good (putF_len L)
  unfold moreL putH
  rw [if_neg h, if_pos (may_of hg), fill_512 (layF_len hg)]
theorem pairs_eq {x : S25} (h : mayX x = 0) : (pairsF x.f0 x.f1 x.f2 x.f3 x.f4.length x.f5).1 = pairsL x.f0 x.f5 := by
  unfold pairsF
  rw [if_neg (fun e => e h)]
theorem pieces_eq {x : S25} (h : mayX x = 0) : piecesF x = moreL (pairsL x.f0 x.f5) ++ (layF (splitF x.f0).2.1 (splitF x.f0).1 x.f2 x.f4.length x.f3 (typF x.f1) (lkF x.f5) ++ fillL x.f4) := by
  unfold piecesF
  rw [pairs_eq h, ownH_eq h, fill_512 (layF_len (own_good h))]
theorem zs_at (n i : Nat) : (zs n).getD i 0 = 0 := by
  unfold zs
  rw [List.getD_eq_getElem?_getD, List.getElem?_replicate]
  split <;> rfl
theorem check_mem {l : List S25} (h : (checkT l).2 = 0) : ∀ x ∈ l, mayX x = 0 := fun x hx => by
  obtain ⟨i, hi⟩ := List.mem_iff_getElem?.1 hx
  obtain ⟨hlt, e⟩ := List.getElem?_eq_some_iff.1 hi
  have := (checkT_ok h).2 i hlt
  rwa [itm_at hlt, e] at this
end Go.Proofs.YtopehfjohifpnaaDoor.Mine
end
