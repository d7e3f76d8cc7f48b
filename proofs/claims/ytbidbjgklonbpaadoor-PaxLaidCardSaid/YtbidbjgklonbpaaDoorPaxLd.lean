/- pax: PaxLaid. -/
import Derived.Test.YtbidbjgklonbpaaDoorPaxU
import Derived.Test.YtbidbjgklonbpaaDoorPaxFd
set_option linter.unusedSimpArgs false
set_option linter.unusedVariables false
namespace Go.Proofs.YtbidbjgklonbpaaDoor.Mine
open Go.RowKit Go.Maps Go.Proofs.YtbidbjgklonbpaaDoorW.PrintWords Go.Proofs.YtbidbjgklonbpaaDoorW.PrintLast Go.Proofs.YtbidbjgklonbpaaDoorW.PrintMore Go.Proofs.YtbidbjgklonbpaaDoor.Turn Go.Proofs.YtbidbjgklonbpaaDoor.PPaxGets

theorem putF_nil : (putF []).2.2 = 0 := rfl
theorem good_nil : Good [] := fun i hi => absurd hi (by simp)
theorem over_nil (l : List S23) : overF l [] = ((if (putF l).2.2 = 0 then l else []), (putF l).2.2) ∧ overF [] l = ((if (putF l).2.2 = 0 then l else []), (putF l).2.2) := by
  by_cases h : (putF l).2.2 = 0
  · have h64 := (putF_ok h).1
    have e1 : ¬ (putF l).2.2 ≠ 0 := fun e => e h
    have e2 : ¬ (putF []).2.2 ≠ 0 := fun e => e putF_nil
    have e3 : ¬ 64 < (mg l []).length := by rw [mg_nil]; omega
    have e4 : ¬ 64 < (mg [] l).length := by rw [nil_mg]; omega
    unfold overF
    rw [if_neg e1, if_neg e2, if_neg e3, if_neg e4, if_neg e2, if_pos h, mg_nil, nil_mg, h]
    exact ⟨rfl, rfl⟩
  · have e2 : ¬ (putF []).2.2 ≠ 0 := fun e => e putF_nil
    unfold overF
    rw [if_pos h, if_neg e2, if_neg h, if_pos h]
    exact ⟨rfl, rfl⟩
theorem over_err {l m : List S23} (h : (overF l m).2 ≠ 0) : (overF l m).1 = [] := by
  unfold overF at h ⊢
  split
  · rfl
  · rename_i h1
    rw [if_neg h1] at h
    split
    · rfl
    · rename_i h2
      rw [if_neg h2] at h
      split
      · rfl
      · rename_i h3
        rw [if_neg h3] at h
        exact absurd rfl h
theorem over_assoc {l m n : List S23} (h1 : (overF l m).2 = 0) (h2 : (overF m n).2 = 0) : overF (mg l m) n = overF l (mg m n) := by
  obtain ⟨a1, a2, a3, a4, a5, a6, a7⟩ := over_good h1
  obtain ⟨b1, b2, b3, b4, b5, b6, b7⟩ := over_good h2
  have p1 : (putF (mg l m)).2.2 = 0 := by rw [putF_good a7 a6]
  have p2 : (putF n).2.2 = 0 := by rw [putF_good b4 b2]
  have p3 : (putF l).2.2 = 0 := by rw [putF_good a3 a1]
  have p4 : (putF (mg m n)).2.2 = 0 := by rw [putF_good b7 b6]
  unfold overF
  have q1 : ¬ (putF (mg l m)).2.2 ≠ 0 := fun e => e p1
  have q2 : ¬ (putF n).2.2 ≠ 0 := fun e => e p2
  have q3 : ¬ (putF l).2.2 ≠ 0 := fun e => e p3
  have q4 : ¬ (putF (mg m n)).2.2 ≠ 0 := fun e => e p4
  rw [if_neg q1, if_neg q2, if_neg q3, if_neg q4, mg_assoc (good_srt a1) (good_srt a2) (good_srt b2)]

theorem good_small2 {l : List S23} (h : Good l) : SmallP l := fun x hx => by
  have := fit_small (good_fit h x hx)
  omega

set_option maxHeartbeats 8000000 in
set_option maxRecDepth 100000 in
theorem paxLaid_any (A B C : Option Addr) (c0 c1 c2 : Nat) (l m n : List S23) (key : ByteArray) (hl : l.length ≤ 4398046511104) (hm : m.length ≤ 4398046511104) (hn : n.length ≤ 4398046511104) (hsl : SmallP l) (hsm : SmallP m) (hsn : SmallP n) (hc0 : l.length ≤ c0) (hc1 : m.length ≤ c1) (hc2 : n.length ≤ c2) (w : World) (hr : Kd.C k23 w A l.length l) (hr1 : Kd.C k23 w B m.length m) (hr2 : Kd.C k23 w C n.length n) (ht : Tab w) (hmx : MaxL w) :
    Calls Tryd.prog 11 #[.slice A l.length c0, .slice B m.length c1, .slice C n.length c2, .string key] w fun e w' => e = .returned (.bool true) ∧ Below w.heap.size w w' := by
  have HR := Aside0.mk hr
  have HR1 := Aside0.mk hr1
  have HR2 := Aside0.mk hr2
  have HT := Aside0.mk ht
  have HM := Aside0.mk hmx
  have HOV : Aside0 (∀ (x y : List S23) (a b : Option Addr) (ca cb : Nat) (W : World), Below w.heap.size w W → x.length ≤ 4398046511104 → y.length ≤ 4398046511104 → SmallP x → SmallP y → x.length ≤ ca → y.length ≤ cb → Kd.C k23 W a x.length x → Kd.C k23 W b y.length y → Calls Tryd.prog 21 #[.slice a x.length ca, .slice b y.length cb] W (EndsOver W (overF x y))) := ⟨fun x y a b ca cb W hb hx hy sx sy h1 h2 C1 C2 => over_any a b ca cb x y hx hy sx sy h1 h2 W C1 C2 (ht.below hb)⟩
  have HPU : Aside0 (∀ W, Below w.heap.size w W → Calls Tryd.prog 18 #[.slice A l.length c0] W (EndsPut W (putF l))) := ⟨fun W hb => put_any A c0 l hsl hl W (Kd.C_below hr hb) (ht.below hb)⟩
  have HL := Aside0.mk hsl
  have HSM := Aside0.mk hsm
  have HSN := Aside0.mk hsn
  have hnil : SmallP [] := fun x hx => by cases hx
  clear hr hr1 hr2 ht hmx hsl hsm hsn
  go_enter Tryd.func11, Tryd.ntmps11
  go_wp2_with fail
  refine (awake_any w HT.out HM.out).mono ?_
  rintro e w1 ⟨rfl, hb1⟩
  have HB1 := Aside0.mk hb1
  clear hb1
  go_wp2_with fail
  have hcall := HOV.out l [] A none c0 0 w1 HB1.out hl (by simp) HL.out hnil hc0 (Nat.le_refl _) (Kd.C_below HR.out HB1.out) (Kd.C_nil _ _)
  rw [(over_nil l).1] at hcall
  have HG64 : Aside0 ((putF l).2.2 = 0 → l.length ≤ 64) := ⟨fun h => (putF_ok h).1⟩
  have HPU2 := Aside0.mk HPU.out
  unfold EndsPut at HPU2
  have HOV2 : Aside0 (∀ W, Below w.heap.size w W → Calls Tryd.prog 21 #[.slice none 0 0, .slice A l.length c0] W (EndsOver W ((if (putF l).2.2 = 0 then l else []), (putF l).2.2))) := ⟨fun W hb => by
    have := HOV.out [] l none A 0 c0 W hb (by simp) hl hnil HL.out (Nat.le_refl _) hc0 (Kd.C_nil _ _) (Kd.C_below HR.out hb)
    rwa [(over_nil l).2] at this⟩
  clear HPU
  generalize putF l = P at *
  obtain ⟨P1, P2, P3⟩ := P
  simp only at hcall HG64 HPU2 HOV2
  obtain ⟨L0, hL0⟩ : ∃ L0, (if P3 = 0 then l else []) = L0 := ⟨_, rfl⟩
  rw [hL0] at hcall HOV2
  have HL0 : Aside0 (P3 = 0 → L0 = l) := ⟨fun h => by rw [← hL0, if_pos h]⟩
  clear hL0
  refine hcall.mono ?_
  rintro e w2 ⟨hb2, A2, d2, B2, rfl, -, hR2⟩
  have HB2 := Aside0.mk (below_step HB1.out hb2)
  have HC2 := Aside0.mk (Kd.R_reads' hR2).2.2
  clear hb2 hR2 hcall
  go_wp2_with fail
  refine (HOV2.out w2 HB2.out).mono ?_
  rintro e w3 ⟨hb3, A3, d3, B3, rfl, -, hR3⟩
  have HB3 := Aside0.mk (below_step HB2.out hb3)
  have HC2' := Aside0.mk (Kd.C_below HC2.out hb3)
  have HC3 := Aside0.mk (Kd.R_reads' hR3).2.2
  clear hb3 hR3 HOV2
  go_wp2_with fail
  refine (HPU2.out w3 HB3.out).mono ?_
  rintro e w4 ⟨A4, d4, rfl, -, hb4⟩
  have HB4 := Aside0.mk (below_step HB3.out hb4)
  have HC24 := Aside0.mk (Kd.C_below HC2'.out hb4)
  have HC34 := Aside0.mk (Kd.C_below HC3.out hb4)
  have hPP : (P3 != P3) = false := by simp
  clear hb4 HPU2
  go_upto_region 6 with (fail)
  go_cut [67] (fun v wx => v = .bool false ∧ Aside0 (Below w.heap.size w wx))
  case first =>
    by_cases h3 : P3 = 0
    case neg =>
      have hne : (P3 == 0) = false := beq_eq_false_iff_ne.2 h3
      go_wp2_with fail
      go_meet
      exact ⟨rfl, HB4⟩
    case pos =>
      subst h3
      have hl0 := HL0.out rfl
      subst hl0
      have hl64 := HG64.out rfl
      go_wp2_with fail
      refine (pairs_same A2 A L0.length c0 L0 w4 (by omega) (Nat.le_refl _) hc0 HC24.out (Kd.C_below HR.out HB4.out)).mono ?_
      rintro e w5 ⟨rfl, hb5⟩
      have HB5 := Aside0.mk (below_step HB4.out hb5)
      have HC35 := Aside0.mk (Kd.C_below HC34.out hb5)
      clear hb5
      go_wp2_with fail
      refine (pairs_same A3 A L0.length c0 L0 w5 (by omega) (Nat.le_refl _) hc0 HC35.out (Kd.C_below HR.out HB5.out)).mono ?_
      rintro e w6 ⟨rfl, hb6⟩
      have HB6 := Aside0.mk (below_step HB5.out hb6)
      clear hb6
      go_wp2_with fail
      go_meet
      exact ⟨rfl, HB6⟩
  case rest =>
    obtain ⟨rfl, HBC⟩ := hcut
    clear HC24 HC34 HC2' HC2 HC3 HB4 HB3 HB2 HB1 HG64 HL0
    have HERR1 : Aside0 ((overF l m).2 ≠ 0 → (overF l m).1 = []) := ⟨over_err⟩
    have HERR2 : Aside0 ((overF m n).2 ≠ 0 → (overF m n).1 = []) := ⟨over_err⟩
    have HBOTH : Aside0 ((overF l m).2 = 0 → (overF m n).2 = 0 → overF (overF l m).1 n = overF l (overF m n).1 ∧ SmallP (overF l m).1 ∧ SmallP (overF m n).1 ∧ foundP (overF l m).1 key = (if codeP m key = 0 then foundP m key else foundP l key) ∧ codeP (overF l m).1 key = (if codeP m key = 0 then codeP m key else codeP l key)) := ⟨fun h1 h2 => by
      obtain ⟨a1, a2, a3, a4, a5, a6, a7⟩ := over_good h1
      obtain ⟨b1, b2, b3, b4, b5, b6, b7⟩ := over_good h2
      rw [a5, b5]
      have hf := find_mg (good_srt a1) (good_srt a2) key
      exact ⟨over_assoc h1 h2, good_small2 a6, good_small2 b6, hf.1, hf.2⟩⟩
    have HLEN1 := Aside0.mk (overF_len l m)
    have HLEN2 := Aside0.mk (overF_len m n)
    have hcall := HOV.out l m A B c0 c1 wc HBC.out hl hm HL.out HSM.out hc0 hc1 (Kd.C_below HR.out HBC.out) (Kd.C_below HR1.out HBC.out)
    have HCALL2 : Aside0 (∀ W, Below w.heap.size w W → Calls Tryd.prog 21 #[.slice B m.length c1, .slice C n.length c2] W (EndsOver W (overF m n))) := ⟨fun W hb => HOV.out m n B C c1 c2 W hb hm hn HSM.out HSN.out hc1 hc2 (Kd.C_below HR1.out hb) (Kd.C_below HR2.out hb)⟩
    generalize overF l m = X1 at *
    generalize overF m n = X2 at *
    obtain ⟨R1, e1⟩ := X1
    obtain ⟨R2, e2⟩ := X2
    simp only at HERR1 HERR2 HBOTH HLEN1 HLEN2
    go_wp2_with fail
    refine hcall.mono ?_
    rintro e w7 ⟨hb7, A7, d7, B7, rfl, -, hR7⟩
    have HB7 := Aside0.mk (below_step HBC.out hb7)
    have HC7 := Aside0.mk (Kd.R_reads' hR7).2.2
    clear hb7 hR7 hcall HBC
    go_wp2_with fail
    refine (HCALL2.out w7 HB7.out).mono ?_
    rintro e w8 ⟨hb8, A8, d8, B8, rfl, -, hR8⟩
    have HB8 := Aside0.mk (below_step HB7.out hb8)
    have HC78 := Aside0.mk (Kd.C_below HC7.out hb8)
    have HC8 := Aside0.mk (Kd.R_reads' hR8).2.2
    clear hb8 hR8 HCALL2
    simp only at HC78 HC8
    by_cases he1 : e1 = 0
    case neg =>
      have hr1 := HERR1.out he1
      have g1 : (e1 == 0) = false := beq_eq_false_iff_ne.2 he1
      have g2 : (e1 != 0) = true := bne_iff_ne.2 he1
      by_cases he2 : e2 = 0
      case neg =>
        have hr2 := HERR2.out he2
        have g3 : (e2 == 0) = false := beq_eq_false_iff_ne.2 he2
        have g4 : (e2 != 0) = true := bne_iff_ne.2 he2
        subst hr1 hr2
        clear he1 he2
        go_wp2_with fail
        go_ret
        exact ⟨rfl, HB8.out⟩
      case pos =>
        subst hr1 he2
        clear he1
        go_wp2_with fail
        go_ret
        exact ⟨rfl, HB8.out⟩
    case pos =>
      subst he1
      by_cases he2 : e2 = 0
      case neg =>
        have hr2 := HERR2.out he2
        have g3 : (e2 == 0) = false := beq_eq_false_iff_ne.2 he2
        have g4 : (e2 != 0) = true := bne_iff_ne.2 he2
        subst hr2
        clear he2
        go_wp2_with fail
        go_ret
        exact ⟨rfl, HB8.out⟩
      case pos =>
        subst he2
        obtain ⟨h1, h2, h3, h4, h5⟩ := HBOTH.out rfl rfl
        have HF1 := Aside0.mk h4
        have HF2 := Aside0.mk h5
        have hln1 := HLEN1.out
        have hln2 := HLEN2.out
        have hcall := HOV.out R1 n A7 C R1.length c2 w8 HB8.out (by omega) hn h2 HSN.out (Nat.le_refl _) hc2 HC78.out (Kd.C_below HR2.out HB8.out)
        have HCALL2 : Aside0 (∀ W, Below w.heap.size w W → Kd.C k23 W A8 R2.length R2 → Calls Tryd.prog 21 #[.slice A l.length c0, .slice A8 R2.length R2.length] W (EndsOver W (overF l R2))) := ⟨fun W hb hC => HOV.out l R2 A A8 c0 R2.length W hb hl (by omega) HL.out h3 hc0 (Nat.le_refl _) (Kd.C_below HR.out hb) hC⟩
        rw [h1] at hcall
        have HLN := Aside0.mk (overF_len l R2)
        generalize overF l R2 = X at *
        obtain ⟨R, e9⟩ := X
        simp only at HLN
        clear h1 h2 h3 h4 h5 HBOTH HERR1 HERR2 HLEN1 HLEN2
        go_wp2_with fail
        refine hcall.mono ?_
        rintro e w9 ⟨hb9, A9, d9, B9, rfl, -, hR9⟩
        have HB9 := Aside0.mk (below_step HB8.out hb9)
        have HC79 := Aside0.mk (Kd.C_below HC78.out hb9)
        have HC89 := Aside0.mk (Kd.C_below HC8.out hb9)
        have HC9 := Aside0.mk (Kd.R_reads' hR9).2.2
        simp only at HC9
        clear hb9 hR9 hcall
        go_wp2_with fail
        refine (HCALL2.out w9 HB9.out HC89.out).mono ?_
        rintro e w10 ⟨hb10, A10, d10, B10, rfl, -, hR10⟩
        have HB10 := Aside0.mk (below_step HB9.out hb10)
        have HC710 := Aside0.mk (Kd.C_below HC79.out hb10)
        have HC910 := Aside0.mk (Kd.C_below HC9.out hb10)
        have HC10 := Aside0.mk (Kd.R_reads' hR10).2.2
        simp only at HC10
        have hee : (e9 != e9) = false := by simp
        clear hb10 hR10 HCALL2
        go_wp2_with fail
        refine (pairs_same A9 A10 R.length R.length R w10 (by have := HLN.out; omega) (Nat.le_refl _) (Nat.le_refl _) HC910.out HC10.out).mono ?_
        rintro e w11 ⟨rfl, hb11⟩
        have HB11 := Aside0.mk (below_step HB10.out hb11)
        have HC711 := Aside0.mk (Kd.C_below HC710.out hb11)
        clear hb11
        go_wp2_with fail
        refine (find_any A7 R1.length R1 key w11 (by omega) HC711.out).mono ?_
        rintro e w12 ⟨rfl, hb12⟩
        have HB12 := Aside0.mk (below_step HB11.out hb12)
        clear hb12
        go_wp2_with fail
        refine (find_any B c1 m key w12 (by omega) (Kd.C_below HR1.out HB12.out)).mono ?_
        rintro e w13 ⟨rfl, hb13⟩
        have HB13 := Aside0.mk (below_step HB12.out hb13)
        clear hb13
        rcases codeP_rg m key with hk | hk
        · have hv1 : foundP R1 key = foundP l key := by rw [HF1.out, hk, if_neg (by decide)]
          have hv2 : codeP R1 key = codeP l key := by rw [HF2.out, hk, if_neg (by decide)]
          rw [hv1, hv2, hk]
          go_wp2_with fail
          refine (find_any A c0 l key w13 (by omega) (Kd.C_below HR.out HB13.out)).mono ?_
          rintro e w14 ⟨rfl, hb14⟩
          have HB14 := Aside0.mk (below_step HB13.out hb14)
          have hq1 : ((foundP l key).toList == (foundP l key).toList) = true := by simp
          have hq2 : (codeP l key == codeP l key) = true := by simp
          clear hb14
          go_wp2_with fail
          go_ret
          exact ⟨rfl, HB14.out⟩
        · have hv1 : foundP R1 key = foundP m key := by rw [HF1.out, hk, if_pos rfl]
          have hv2 : codeP R1 key = 0 := by rw [HF2.out, hk, if_pos rfl]
          rw [hv1, hv2, hk]
          have hq1 : ((foundP m key).toList == (foundP m key).toList) = true := by simp
          go_wp2_with fail
          go_ret
          exact ⟨rfl, HB13.out⟩
end Go.Proofs.YtbidbjgklonbpaaDoor.Mine
