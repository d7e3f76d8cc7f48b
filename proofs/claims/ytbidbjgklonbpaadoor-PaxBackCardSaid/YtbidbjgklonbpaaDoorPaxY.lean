/- pax: PaxBack. -/
import Derived.Test.YtbidbjgklonbpaaDoorPaxR
import Derived.Test.YtbidbjgklonbpaaDoorPaxT
set_option linter.unusedSimpArgs false
set_option linter.unusedVariables false
namespace Go.Proofs.YtbidbjgklonbpaaDoor.Mine
open Go.RowKit Go.Maps Go.Proofs.YtbidbjgklonbpaaDoorW.PrintWords Go.Proofs.YtbidbjgklonbpaaDoorW.PrintLast Go.Proofs.YtbidbjgklonbpaaDoorW.PrintMore Go.Proofs.YtbidbjgklonbpaaDoor.Turn Go.Proofs.YtbidbjgklonbpaaDoor.PPaxGets

theorem good_small {l : List S23} (h : ∀ p ∈ l, fitN p.f0 p.f1 = 0) : SmallP l := fun x hx => by
  have := fit_small (h x hx)
  omega
theorem get_good2 {L : List Int} (hb : ∀ x ∈ L, 0 ≤ x ∧ x < 256) (h : (getF L).2.2 = 0) : Good (getF L).1 ∧ (getF L).1.length ≤ 64 := by
  obtain ⟨g1, g2, g3⟩ := get_good hb 66 0 [] (getF L).1 (getF L).2.1 (Prod.ext rfl (Prod.ext rfl h)) (fun i hi => absurd hi (by simp)) (by simp) (by simp) (by omega) (by simp)
  exact ⟨g1, g2⟩
theorem C_take {w : World} {A : Option Addr} {l : List Int} {n : Nat} (h : Kd.C (Kd.int .u8) w A l.length l) (hn : n ≤ l.length) : Kd.C (Kd.int .u8) w A (l.take n).length (l.take n) := by
  refine C_prefix (m := l.drop n) ?_
  rw [List.take_append_drop]
  exact h

set_option maxHeartbeats 8000000 in
set_option maxRecDepth 100000 in
theorem paxBack_any (A B : Option Addr) (c c' : Nat) (l : List S23) (b : List Int) (cut : Int) (hl : l.length ≤ 4398046511104) (hsl : SmallP l) (hbb : ∀ x ∈ b, 0 ≤ x ∧ x < 256) (hb : b.length ≤ 140737488355328) (hc : l.length ≤ c) (hc' : b.length ≤ c') (w : World) (hr : Kd.C k23 w A l.length l) (hr' : Kd.C (Kd.int .u8) w B b.length b) (ht : Tab w) (hm : MaxL w) :
    Calls Tryd.prog 8 #[.slice A l.length c, .slice B b.length c', .int .i64 cut] w fun e w' => e = .returned (.bool true) ∧ Below w.heap.size w w' := by
  have HR := Aside0.mk hr
  have HR' := Aside0.mk hr'
  have HT := Aside0.mk ht
  have HM := Aside0.mk hm
  have HSL := Aside0.mk hsl
  have HP1 : Aside0 (∀ (x : List S23) (a : Option Addr) (cc : Nat) (W : World), Below w.heap.size w W → SmallP x → x.length ≤ 4398046511104 → Kd.C k23 W a x.length x → Calls Tryd.prog 18 #[.slice a x.length cc] W (EndsPut W (putF x))) := ⟨fun x a cc W hb hs hx hC => put_any a cc x hs hx W hC (ht.below hb)⟩
  have HG1 : Aside0 (∀ (L : List Int) (a : Option Addr) (cc : Nat) (W : World), Below w.heap.size w W → (∀ x ∈ L, 0 ≤ x ∧ x < 256) → L.length ≤ 1152921504606846976 → L.length ≤ cc → Kd.C (Kd.int .u8) W a L.length L → Calls Tryd.prog 24 #[.slice a L.length cc] W (EndsGet W (getF L))) := ⟨fun L a cc W hbw hbb hL hcc hC => get_any a cc L W hbb hL hcc hC (ht.below hbw) (hm.below hbw)⟩
  clear hr hr' ht hm
  go_enter Tryd.func8, Tryd.ntmps8
  go_wp2_with fail
  refine (awake_any w HT.out HM.out).mono ?_
  rintro e w1 ⟨rfl, hb1⟩
  have HB1 := Aside0.mk hb1
  clear hb1
  go_wp2_with fail
  have hcall := HP1.out l A c w1 HB1.out hsl hl (Kd.C_below HR.out HB1.out)
  have HPG : Aside0 ((putF l).2.2 = 0 → getF (putF l).1 = (l, 0, 0)) := ⟨put_get⟩
  have HPR := Aside0.mk (putF_rg l)
  have HPL := Aside0.mk (putF_len l)
  have HL64 : Aside0 ((putF l).2.2 = 0 → l.length ≤ 64) := ⟨fun h => (putF_ok h).1⟩
  unfold EndsPut at hcall
  generalize putF l = P at *
  obtain ⟨P1, P2, P3⟩ := P
  simp only at hcall HPG HPR HPL HL64
  refine hcall.mono ?_
  rintro e w2 ⟨A2, c2, rfl, ho2, hb2⟩
  have HB2 := Aside0.mk (below_step HB1.out hb2)
  have HO2 := Aside0.mk ho2
  clear hb2 ho2 hcall hsl
  go_upto_if 33 with (fail)
  go_cut [] (fun wx => Aside0 (Below w.heap.size w wx))
  case first =>
    by_cases h3 : P3 = 0
    case neg =>
      have hne : (P3 == 0) = false := beq_eq_false_iff_ne.2 h3
      go_wp2_with fail
      go_meet
      exact HB2
    case pos =>
      subst h3
      have hg := HPG.out rfl
      have hl64 := HL64.out rfl
      go_wp2_with fail
      have hcall := HG1.out P1 A2 c2 w2 HB2.out HPR.out (by have := HPL.out; omega) HO2.out.C.1 HO2.out.C.2
      rw [hg] at hcall
      refine hcall.mono ?_
      rintro e w3 ⟨hb3, A3, c3, rfl, hc3, hF3⟩
      have HB3 := Aside0.mk (below_step HB2.out hb3)
      have HF3 := Aside0.mk (Kd.F_now hF3)
      clear hb3 hF3 hcall hg
      go_wp2_with fail
      refine (pairs_same A3 A c3 c l w3 (by omega) hc3 hc HF3.out (Kd.C_below HR.out HB3.out)).mono ?_
      rintro e w4 ⟨rfl, hb4⟩
      have HB4 := Aside0.mk (below_step HB3.out hb4)
      clear hb4
      go_wp2_with fail
      go_meet
      exact HB4
  case rest =>
    have HBC := hcut
    clear HO2 HB2 HPG HPR HPL HL64 HB1
    go_wp2_with fail
    have hcall := HG1.out b B c' wc HBC.out hbb (by omega) hc' (Kd.C_below HR'.out HBC.out)
    have HGP : Aside0 ((getF b).2.2 = 0 → putF (getF b).1 = (b, 0, 0) ∧ SmallP (getF b).1 ∧ (getF b).1.length ≤ 64) := ⟨fun h => ⟨get_put hbb h, good_small (good_fit (get_good2 hbb h).1), (get_good2 hbb h).2⟩⟩
    have HGE : Aside0 ((getF b).2.2 ≠ 0 → (getF b).1 = [] ∧ 0 ≤ (getF b).2.1 ∧ (getF b).2.1 ≤ b.length) := ⟨getF_err⟩
    unfold EndsGet at hcall
    generalize getF b = G at *
    obtain ⟨G1, G2, G3⟩ := G
    simp only at hcall HGP HGE
    refine hcall.mono ?_
    rintro e w5 ⟨hb5, A5, c5, rfl, hc5, hF5⟩
    have HB5 := Aside0.mk (below_step HBC.out hb5)
    have HF5 := Aside0.mk (Kd.F_now hF5)
    clear hb5 hF5 hcall HBC
    go_upto_if 55 with (fail)
    go_cut [] (fun wx => Aside0 (Below w.heap.size w wx))
    case first =>
      by_cases h3 : G3 = 0
      case neg =>
        obtain ⟨g1, g2, g3⟩ := HGE.out h3
        subst g1
        have hne : (G3 != 0) = true := bne_iff_ne.2 h3
        have e1 : decide (G2 < 0) = false := decide_eq_false (by omega)
        have e2 : decide ((b.length : Int) < G2) = false := decide_eq_false (by omega)
        clear h3
        go_wp2_with fail
        go_meet
        exact HB5
      case pos =>
        subst h3
        obtain ⟨g1, g2, g3⟩ := HGP.out rfl
        have hcall := HP1.out G1 A5 c5 w5 HB5.out g2 (by omega) HF5.out
        rw [g1] at hcall
        clear g1 g2
        go_wp2_with fail
        refine hcall.mono ?_
        rintro e w6 ⟨A6, c6, rfl, ho6, hb6⟩
        have HB6 := Aside0.mk (below_step HB5.out hb6)
        have HO6 := Aside0.mk ho6
        clear hb6 ho6 hcall
        go_wp2_with fail
        refine (bytes_any A6 c6 b B c' b w6 (by omega) HO6.out.C.2 HO6.out.C.1 (Kd.C_below HR'.out HB6.out) hc').mono ?_
        rintro e w7 ⟨rfl, hb7⟩
        have HB7 := Aside0.mk (below_step HB6.out hb7)
        have e3 : decide (b = b) = true := decide_eq_true rfl
        clear hb7
        go_wp2_with fail
        go_meet
        exact HB7
    case rest =>
      have HBC := hcut
      clear HF5 HB5 HGP HGE hcut
      by_cases h0 : l.length = 0
      · have e1 : ((l.length : Int) == 0) = true := by rw [beq_iff_eq]; omega
        go_wp2_with fail
        go_ret
        exact ⟨rfl, HBC.out⟩
      · have e1 : ((l.length : Int) == 0) = false := by rw [beq_eq_false_iff_ne]; omega
        obtain ⟨ad, e, hx0, hx1⟩ := at_T23 (Kd.C_below HR.out HBC.out) (0 : Int) (by omega) (by omega)
        subst e
        have hsm := HSL.out.at (show 0 < l.length by omega)
        rw [show rd_T23 l (0 : Int) = rdP l 0 by unfold rd_T23 rdP; rfl] at hx0 hx1
        obtain ⟨pk, hpk⟩ : ∃ y, (rdP l 0).f0 = y := ⟨_, rfl⟩
        obtain ⟨pv, hpv⟩ : ∃ y, (rdP l 0).f1 = y := ⟨_, rfl⟩
        rw [hpk] at hx0 hsm
        rw [hpv] at hx1 hsm
        clear hpk hpv
        have hcall := record_any pk pv hsm.1 hsm.2 (dOf_is (n := 3 + pk.size + pv.size) (by have := hsm.1; have := hsm.2; omega)) wc (HT.out.below HBC.out)
        unfold EndsRec at hcall
        have hy0 : wc.cell? ad = some (.string pk) := hx0
        have hy1 : wc.cell? ⟨ad.block, ad.off + 1, none⟩ = some (.string pv) := hx1
        have HCUT : Aside0 (fitN pk pv = 0 → recV pk pv (dOf (3 + pk.size + pv.size)) = recP ⟨pk, pv⟩ ∧ (recP ⟨pk, pv⟩).length ≤ 1100 ∧ (∀ x ∈ recP ⟨pk, pv⟩, 0 ≤ x ∧ x < 256) ∧ ∀ n, 1 ≤ n → n < (recP ⟨pk, pv⟩).length → getF ((recP ⟨pk, pv⟩).take n) = ([], 0, 90)) := ⟨fun h => ⟨by unfold recV; rw [if_pos h]; rfl, recP_len (p := ⟨pk, pv⟩) h, recP_rg _, fun n h1 h2 => get_cut h n h1 h2⟩⟩
        generalize fitN pk pv = f at *
        generalize recV pk pv (dOf (3 + pk.size + pv.size)) = R at *
        clear hx0 hx1 hsm
        go_wp2_with fail
        refine hcall.mono ?_
        rintro e w8 ⟨A8, c8, rfl, ho8, hb8⟩
        have HB8 := Aside0.mk (below_step HBC.out hb8)
        have HO8 := Aside0.mk ho8
        clear hb8 ho8 hcall hy0 hy1 HBC
        by_cases hf : f = 0
        case neg =>
          have hne : (f != 0) = true := bne_iff_ne.2 hf
          go_wp2_with fail
          go_ret
          exact ⟨rfl, HB8.out⟩
        case pos =>
          subst hf
          obtain ⟨g1, g2, g3, g4⟩ := HCUT.out rfl
          rw [← g1] at g2 g3 g4
          clear g1 HCUT
          by_cases hc1 : cut < 1
          · go_wp2_with fail
            go_ret
            exact ⟨rfl, HB8.out⟩
          · by_cases hc2 : (R.length : Int) ≤ cut
            · go_wp2_with fail
              go_ret
              exact ⟨rfl, HB8.out⟩
            · obtain ⟨n, rfl⟩ : ∃ n : Nat, cut = n := ⟨cut.toNat, by omega⟩
              have hn1 : 1 ≤ n := by omega
              have hn2 : n < R.length := by omega
              have hlen : (R.take n).length = n := by rw [List.length_take]; omega
              have hrc := HO8.out.C.1
              have hC := C_take HO8.out.C.2 (Nat.le_of_lt hn2)
              have hcall := HG1.out (R.take n) A8 c8 w8 HB8.out (fun x hx => g3 x (List.mem_of_mem_take hx)) (by omega) (by omega) hC
              rw [hlen, g4 n hn1 hn2] at hcall
              clear g3 g4 hC hlen
              go_wp2_with fail
              refine hcall.mono ?_
              rintro e w9 ⟨hb9, A9, c9, rfl, -, -⟩
              have HB9 := Aside0.mk (below_step HB8.out hb9)
              clear hb9 hcall
              go_wp2_with fail
              go_ret
              exact ⟨rfl, HB9.out⟩
end Go.Proofs.YtbidbjgklonbpaaDoor.Mine
