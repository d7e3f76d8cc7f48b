import Derived.Test.YtopehfjohifpnaaDoorZ11
section
set_option linter.unusedSimpArgs false
set_option linter.unusedVariables false
namespace Go.Proofs.YtopehfjohifpnaaDoor.Mine
open Go.RowKit Go.Maps Go.Shelf Go.Proofs.YtopehfjohifpnaaDoorW.PrintWords Go.Proofs.YtopehfjohifpnaaDoorW.PrintLast Go.Proofs.YtopehfjohifpnaaDoorW.PrintMore Go.Proofs.YtopehfjohifpnaaDoor.Turn Go.Proofs.YtopehfjohifpnaaDoor.Doc
set_option maxRecDepth 100000 in
theorem up_any (s : ByteArray) (hs : s.size < 4611686018427387904) (w : World) : Calls Tryd.prog 37 #[.string s] w fun e w' => e = .returned (.string (upF s)) ∧ Below w.heap.size w w' := by
  have hrg := upN_rg s
  have hL : ∀ W, Calls Tryd.prog 31 #[.string s, .int .u8 47] W fun e W' => e = .returned (.int .i64 (upN s)) ∧ W' = W := fun W => Tryd.strings_LastIndexByte s 47 hs W
  have hu : upF s = s.extract 0 (max 0 (upN s)).toNat := by
    unfold upF
    congr 1
    omega
  rw [hu]
  generalize upN s = n at *
  clear hu
  have hsl : ∀ W, (Instr.slice 9 (.string s) none (some (.int .i64 (max 0 n))) none).run Tryd.prog W = .ok (.string (s.extract 0 (max 0 n).toNat)) W := fun W => run_slice_string_h W 9 s Tryd.underlying9 .i64 _ (by omega) (by omega)
  go_enter Tryd.func37, Tryd.ntmps37
  go_wp2_with (go_at_call 31; refine (hL _).mono ?_; rintro e w' ⟨rfl, rfl⟩)
  go_ret
  exact ⟨rfl, Below.refl _ _⟩
theorem cmpP_rg : ∀ l m : List ByteArray, cmpP l m = -1 ∨ cmpP l m = 0 ∨ cmpP l m = 1
  | [], [] => .inr (.inl rfl)
  | [], _ :: _ => .inl rfl
  | _ :: _, [] => .inr (.inr rfl)
  | x :: l, y :: m => by
    rw [cmpP_cons]
    split
    · exact cmpP_rg l m
    · exact cmpB_rg x y
theorem may_to {x : S25} (h : mayX x = 0) (h3 : x.f1 = 3) : x.f5.size ≤ 400 := by
  have key : ∀ (a b : Int) (P : Prop) [Decidable P], a ≠ 0 → (if P then a else b) = 0 → b = 0 := fun a b P _ ha h => by
    by_cases hp : P
    · rw [if_pos hp] at h; exact absurd h ha
    · rw [if_neg hp] at h; exact h
  have hc : (checkF x.f5).2 = 0 := by
    unfold mayX mayF at h
    by_cases h1 : (checkF x.f0).2 = 0
    · rw [if_neg (c := (checkF x.f0).2 ≠ 0) (fun e => e h1)] at h
      have h2 := key _ _ _ (by decide) h
      unfold mayT at h2
      have h4 := key _ _ _ (by decide) (key _ _ _ (by decide) h2)
      rw [if_pos h3] at h4
      exact h4
    · rw [if_pos h1] at h; exact absurd h h1
  rcases Nat.lt_or_ge 400 x.f5.size with h2 | h2
  · unfold checkF at hc; rw [if_pos h2] at hc; cases hc
  · exact h2
theorem cells_I {w : World} {A : Option Addr} {l : List S25} (h : Kd.C k25 w A l.length l) {i : Nat} (hi : i < l.length) : ∃ ad A4 c4, A = some ad ∧ w.cell? (ad.add (i * 6)) = some (.string (itm l i).f0) ∧ w.cell? ⟨(ad.add (i * 6)).block, (ad.add (i * 6)).off + 1, none⟩ = some (.int .u8 (itm l i).f1) ∧ w.cell? ⟨(ad.add (i * 6)).block, (ad.add (i * 6)).off + 2, none⟩ = some (.int .i64 (itm l i).f2) ∧ w.cell? ⟨(ad.add (i * 6)).block, (ad.add (i * 6)).off + 3, none⟩ = some (.int .i64 (itm l i).f3) ∧ w.cell? ⟨(ad.add (i * 6)).block, (ad.add (i * 6)).off + 4, none⟩ = some (.slice A4 (itm l i).f4.length c4) ∧ w.cell? ⟨(ad.add (i * 6)).block, (ad.add (i * 6)).off + 5, none⟩ = some (.string (itm l i).f5) ∧ (itm l i).f4.length ≤ c4 ∧ (Kd.int .u8).C w A4 (itm l i).f4.length (itm l i).f4 := by
  obtain ⟨ad, A4, c4, e, h0, h1, h2, h3, h4, h5, h6, h7⟩ := at_T25 h (i : Int) (by omega) (by omega)
  rw [Int.toNat_natCast] at h0 h1 h2 h3 h4 h5
  rw [itm_rd] at h0 h1 h2 h3 h4 h5 h6 h7
  exact ⟨ad, A4, c4, e, h0, h1, h2, h3, h4, h5, h6, h7⟩
set_option maxRecDepth 100000 in
set_option maxHeartbeats 8000000 in
theorem checkT_any (A : Option Addr) (c : Nat) (l : List S25) (i0 : Int) (w : World) (hr : Kd.C k25 w A l.length l) (hm : w.cell? ⟨1, 0, none⟩ = some (.int .i64 i0)) :
    Calls Tryd.prog 25 #[.slice A l.length c] w fun e w' => e = .returned (.tuple #[.int .i64 (checkT l).1, .int .i64 (checkT l).2]) ∧ Below w.heap.size w w' := by
  have HR := Aside0.mk hr
  have HM := Aside0.mk hm
  have hlm : 1 < w.heap.size := Lib.lt_of_cell (a := ⟨1, 0, none⟩) hm
  have HC : Aside0 (checkT l = if 256 < l.length then (256, 3) else checkG l l.length 0) := ⟨rfl⟩
  generalize checkT l = R at *
  clear hr hm
  by_cases hbig : 256 < l.length
  · have HX : Aside0 (R = (256, 3)) := ⟨by rw [HC.out, if_pos hbig]⟩
    go_enter Tryd.func25, Tryd.ntmps25
    go_wp2_with fail
    go_ret2
    exact ⟨by rw [HX.out]; rfl, Below.refl _ _⟩
  have HX : Aside0 (R = checkG l l.length 0) := ⟨by rw [HC.out, if_neg hbig]⟩
  clear HC
  have hmm := @run_makeMap Tryd.prog
  go_enter Tryd.func25, Tryd.ntmps25
  go_wp2_with fail
  have HO0 := Aside0.mk (CkW.start w)
  have hs0 : SrtI l 0 := fun j _ h => absurd h (by omega)
  have HS0 := Aside0.mk hs0
  generalize w.alloc (.map #[] 0) = W0 at *
  clear hmm hs0
  go_loopw [15] (fun v wr => ∃ i : Nat, i ≤ l.length ∧ v = .int .i64 i ∧ Aside0 (R = checkG l (l.length - i) i) ∧ Aside0 (CkW w wr (l.take i)) ∧ Aside0 (SrtI l i) ∧ Aside0 (0 < i → (itm l (i - 1)).f0.size ≤ 400)) (fun v _ => l.length - (intOf v).toNat)
  case atStart => exact ⟨0, Nat.zero_le _, rfl, HX, HO0, HS0, ⟨fun h => absurd h (by omega)⟩⟩
  case round =>
    clear HX HO0 HS0
    obtain ⟨i, hi, rfl, HX, HO, HS, HP⟩ := hrel
    by_cases hlt : i < l.length
    · have hx : R = if mayX (itm l i) ≠ 0 then ((i : Int), mayX (itm l i)) else
          if 0 < i ∧ cmpF (itm l (i - 1)).f0 (itm l i).f0 ≠ -1 then ((i : Int), 111) else
          if (upF (itm l i).f0).size ≠ 0 ∧ hasF (l.take i) (upF (itm l i).f0) 2 = false then ((i : Int), 112) else
          if (itm l i).f1 = 3 ∧ hasF (l.take i) (itm l i).f5 1 = false then ((i : Int), 113) else checkG l (l.length - (i + 1)) (i + 1) := by
        rw [HX.out, show l.length - i = (l.length - (i + 1)) + 1 by omega]
        rfl
      clear HX
      obtain ⟨ad, A4, c4, e, h0, h1, h2, h3, h4, h5, -, -⟩ := cells_I (Kd.C_below HR.out HO.out.1) hlt
      subst e
      have hl6 := World.block_lt_of_cell? _ _ h0
      have hprev : ∀ j : Nat, i = j + 1 → wr.cell? (ad.add (j * 6)) = some (.string (itm l j).f0) := fun j hj => by
        obtain ⟨ad', A4', c4', e', g0, _⟩ := cells_I (Kd.C_below HR.out HO.out.1) (i := j) (by omega)
        cases e'
        exact g0
      have HPREV := Aside0.mk hprev
      have HMAY := Aside0.mk (fun W hm => may_any (itm l i).f0 (itm l i).f1 (itm l i).f2 (itm l i).f3 A4 (itm l i).f4.length c4 (itm l i).f5 i0 W hm)
      have hmx : mayF (itm l i).f0 (itm l i).f1 (itm l i).f2 (itm l i).f3 (itm l i).f4.length (itm l i).f5 = mayX (itm l i) := rfl
      rw [hmx] at HMAY
      have HPATH : Aside0 (mayX (itm l i) = 0 → (itm l i).f0.size ≤ 400) := ⟨may_path⟩
      have HTO : Aside0 (mayX (itm l i) = 0 → (itm l i).f1 = 3 → (itm l i).f5.size ≤ 400) := ⟨may_to⟩
      have HTK : Aside0 (l.take (i + 1) = l.take i ++ [itm l i]) := ⟨by rw [List.take_succ_eq_append_getElem hlt, itm_at hlt]⟩
      have HSX : Aside0 (0 < i → cmpF (itm l (i - 1)).f0 (itm l i).f0 = -1 → SrtI l (i + 1)) := ⟨fun h1 h2 j h3 h4 => by
        rcases Nat.lt_or_ge j i with h5 | h5
        · exact HS.out j h3 h5
        · obtain rfl : j = i := by omega
          exact h2⟩
      have HSX0 : Aside0 (i = 0 → SrtI l (i + 1)) := ⟨fun h1 j h3 h4 => by omega⟩
      have HLK : Aside0 (∀ p c, c ≠ 0 → (lastK (l.take i) p = c ↔ hasF (l.take i) p c = true)) := ⟨fun p c hc => lastK_has l hc p i (by omega) HS.out⟩
      clear hprev hmx
      obtain ⟨x, hxx⟩ : ∃ x, itm l i = x := ⟨_, rfl⟩
      rw [hxx] at hx h0 h1 h2 h3 h4 h5 HMAY HPATH HTO HTK HSX
      have HXX := Aside0.mk hxx
      have HRX := Aside0.mk hx
      clear hx hxx
      obtain ⟨p, k, m, t, bd, q⟩ := x
      simp only at h0 h1 h2 h3 h4 h5 HMAY HPATH HTO HTK HSX HRX
      generalize mayX ⟨p, k, m, t, bd, q⟩ = mx at *
      have HB1 := Aside0.mk HO.out.1
      have HM1 := Aside0.mk ((HB1.out.cell (p := ⟨1, 0, none⟩) hlm).trans HM.out)
      have HO1 := Aside0.mk (HO.out.step (below_alloc (Below.refl _ wr) (.cells #[.string p, .int .u8 k, .int .i64 m, .int .i64 t, .slice A4 bd.length c4, .string q] 25)))
      have HK1 := Aside0.mk (Blk.new wr #[.string p, .int .u8 k, .int .i64 m, .int .i64 t, .slice A4 bd.length c4, .string q] 25)
      clear HO
      go_wp2_with fail
      refine (HMAY.out _ (cell_alloc_l _ HM1.out)).mono ?_
      rintro e w2 ⟨rfl, hb⟩
      have HO2 := Aside0.mk (HO1.out.step hb)
      have hK2 : Blk w2 wr.heap.size #[.string p, .int .u8 k, .int .i64 m, .int .i64 t, .slice A4 bd.length c4, .string q] 25 := (hb.block _ HK1.out.lt).trans HK1.out
      have HP2 : Aside0 (∀ j : Nat, i = j + 1 → w2.cell? (ad.add (j * 6)) = some (.string (itm l j).f0)) := ⟨fun j hj => pw_cell_below hb (cell_alloc_l _ (HPREV.out j hj))⟩
      have hl2 := hK2.lt
      clear hb HPREV HO1 HK1 HM1 HMAY h0 h1 h2 h3 h4 h5
      by_cases hm0 : mx = 0
      · subst hm0
        have hps := HPATH.out rfl
        clear HPATH
        obtain ⟨bad, hbad⟩ : ∃ bad : Bool, decide (0 < i ∧ cmpF (itm l (i - 1)).f0 p ≠ -1) = bad := ⟨_, rfl⟩
        have HBAD := Aside0.mk hbad
        have HK2 := Aside0.mk hK2
        clear hbad
        go_upto_region 10 with (fail)
        go_cut [39] (fun b wx => b = .bool bad ∧ Aside0 (Below w2.heap.size w2 wx))
        case first =>
          have lk0 : ∀ x : Behind w2, (later w2 x).cell? ⟨wr.heap.size, 0, none⟩ = some (.string p) := fun x => later_cell ((Blk.cell hK2 0).trans rfl) x
          have ll := fun x : Behind w2 => Nat.lt_of_lt_of_le hl2 x.below.size
          clear hK2
          cases i with
          | zero =>
            have HQ : Aside0 (bad = false) := ⟨by rw [← HBAD.out]; rfl⟩
            refine wp_region_behind (by kernel_rfl) (by kernel_rfl) ?_
            repeat (go_big_quiet_step (fail))
            refine wpQuiet_nil ?_
            rintro _ ⟨x, rfl⟩
            go_wp2_with fail
            go_meet
            exact ⟨by rw [HQ.out], ⟨x.below⟩⟩
          | succ j =>
            have hsj := HP.out (Nat.succ_pos j)
            rw [Nat.add_sub_cancel] at HBAD hsj
            have hpj := HP2.out j rfl
            have lpj := fun x : Behind w2 => later_cell hpj x
            have hbl := World.block_lt_of_cell? _ _ hpj
            have llj := fun x : Behind w2 => Nat.lt_of_lt_of_le hbl x.below.size
            have hrg := cmpP_rg (txG (itm l j).f0 0) (txG p 0)
            have HCMP := Aside0.mk (fun W => compare_any (itm l j).f0 p (by omega) (by omega) W)
            change cmpF (itm l j).f0 p = -1 ∨ cmpF (itm l j).f0 p = 0 ∨ cmpF (itm l j).f0 p = 1 at hrg
            generalize cmpF (itm l j).f0 p = cj at *
            have HQ : Aside0 (bad = decide (0 ≤ cj)) := ⟨by
              rw [← HBAD.out]
              rcases hrg with rfl | rfl | rfl <;> simp⟩
            have hw1 : IntKind.i64.wrap ((j : Int) + 1 - 1) = (j : Int) := by rw [IntWalk.i64_in _ (by omega)]; omega
            have hw2 : IntKind.i64.wrap (((j + 1 : Nat) : Int) - 1) = (j : Int) := by rw [IntWalk.i64_in _ (by omega)]; omega
            have hdj : decide (0 < j + 1) = true := decide_eq_true (by omega)
            clear hpj hrg HBAD HS HSX HSX0 HLK HTK HXX
            refine wp_region_behind (by kernel_rfl) (by kernel_rfl) ?_
            repeat (go_big_quiet_step (first | (go_at_call 36; exact calls_behind _ (HCMP.out _))))
            refine wpQuiet_nil ?_
            rintro _ ⟨x, rfl⟩
            go_wp2_with fail
            go_meet
            exact ⟨by rw [HQ.out], ⟨x.below⟩⟩
        case rest =>
          obtain ⟨rfl, HBX⟩ := hcut
          have HO3 := Aside0.mk (HO2.out.step HBX.out)
          have hK3 : Blk wc wr.heap.size #[.string p, .int .u8 k, .int .i64 m, .int .i64 t, .slice A4 bd.length c4, .string q] 25 := (HBX.out.block _ HK2.out.lt).trans HK2.out
          have hl3 := hK3.lt
          have c0 : wc.cell? ⟨wr.heap.size, 0, none⟩ = some (.string p) := (Blk.cell hK3 0).trans rfl
          have HK3 := Aside0.mk hK3
          have HRB : Aside0 (R = if bad = true then ((i : Int), 111) else if (upF p).size ≠ 0 ∧ hasF (l.take i) (upF p) 2 = false then ((i : Int), 112) else if k = 3 ∧ hasF (l.take i) q 1 = false then ((i : Int), 113) else checkG l (l.length - (i + 1)) (i + 1)) := ⟨by
            rw [HRX.out, if_neg (fun e => e rfl), ← HBAD.out]
            by_cases hb : 0 < i ∧ cmpF (itm l (i - 1)).f0 p ≠ -1
            · rw [if_pos hb, if_pos (c := decide (0 < i ∧ cmpF (itm l (i - 1)).f0 p ≠ -1) = true) (decide_eq_true hb)]
            · rw [if_neg hb, if_neg (c := decide (0 < i ∧ cmpF (itm l (i - 1)).f0 p ≠ -1) = true) (fun e => hb (of_decide_eq_true e))]⟩
          have HSN : Aside0 (bad = false → SrtI l (i + 1)) := ⟨fun h => by
            rw [h] at HBAD
            have hb := of_decide_eq_false HBAD.out
            rcases Nat.eq_zero_or_pos i with h0 | h0
            · exact HSX0.out h0
            · exact HSX.out h0 (Classical.byContradiction fun hn => hb ⟨h0, hn⟩)⟩
          clear hK2 hK3 HRX HBAD HSX HSX0 HP2 HO2 HK2
          cases bad with
          | true =>
            have HY : Aside0 (R = ((i : Int), 111)) := ⟨by rw [HRB.out, if_pos rfl]⟩
            clear HRB HSN
            go_wp2_with fail
            go_ret2
            exact ⟨by rw [HY.out]; rfl, HO3.out.1⟩
          | false =>
            have HSN2 := Aside0.mk (HSN.out rfl)
            have HRC : Aside0 (R = if (upF p).size ≠ 0 ∧ hasF (l.take i) (upF p) 2 = false then ((i : Int), 112) else if k = 3 ∧ hasF (l.take i) q 1 = false then ((i : Int), 113) else checkG l (l.length - (i + 1)) (i + 1)) := ⟨by rw [HRB.out, if_neg (by simp)]⟩
            have HUP := Aside0.mk (fun W => up_any p (by omega) W)
            have hul : (upF p).size ≤ 400 := by
              unfold upF
              have := extract_size_le p 0 (upN p).toNat
              omega
            generalize upF p = u at *
            clear HRB HSN
            go_wp2_with fail
            refine (HUP.out _).mono ?_
            rintro e w4 ⟨rfl, hb⟩
            have HO4 := Aside0.mk (HO3.out.step hb)
            have hK4 : Blk w4 wr.heap.size #[.string p, .int .u8 k, .int .i64 m, .int .i64 t, .slice A4 bd.length c4, .string q] 25 := (hb.block _ HK3.out.lt).trans HK3.out
            have hl4 := hK4.lt
            have HK4 := Aside0.mk hK4
            have d0 : w4.cell? ⟨wr.heap.size, 0, none⟩ = some (.string p) := (Blk.cell hK4 0).trans rfl
            have d1 : w4.cell? ⟨wr.heap.size, 1, none⟩ = some (.int .u8 k) := (Blk.cell hK4 1).trans rfl
            have d5 : w4.cell? ⟨wr.heap.size, 5, none⟩ = some (.string q) := (Blk.cell hK4 5).trans rfl
            clear hb c0 hK4 HK3 HO3 HUP
            have lku := HO4.out.look u hul
            have hu2 := HLK.out u 2 (by decide)
            have hq1 := HLK.out q 1 (by decide)
            generalize lastK (l.take i) u = ku at *
            generalize hasF (l.take i) u 2 = hu at *
            have HU2 := Aside0.mk hu2
            clear hu2
            by_cases hub : u.size ≠ 0 ∧ hu = false
            · have HY : Aside0 (R = ((i : Int), 112)) := ⟨by rw [HRC.out, if_pos hub]⟩
              have hem : u.toList.isEmpty = false := by
                cases h : u.toList.isEmpty with
                | true => exact absurd (isEmpty_size.1 h) hub.1
                | false => rfl
              have hku : (ku != 2) = true := bne_iff_ne.2 (fun e => by have := HU2.out.1 e; rw [hub.2] at this; cases this)
              clear HRC hq1 HU2 hub
              go_wp2_with fail
              go_ret2
              exact ⟨by rw [HY.out]; rfl, HO4.out.1⟩
            · have HRD : Aside0 (R = if k = 3 ∧ hasF (l.take i) q 1 = false then ((i : Int), 113) else checkG l (l.length - (i + 1)) (i + 1)) := ⟨by rw [HRC.out, if_neg hub]⟩
              have HEM : Aside0 (u.toList.isEmpty = false → ku = 2) := ⟨fun h => HU2.out.2 (by
                cases h2 : hu with
                | true => rfl
                | false => exact absurd ⟨ne0 h, h2⟩ hub)⟩
              clear HRC hub HU2
              go_upto_region 13 with (fail)
              go_cut [51] (fun b wx => b = .bool false ∧ wx = w4)
              case first =>
                cases hem : u.toList.isEmpty with
                | true =>
                  go_wp2_with fail
                  go_meet
                  exact ⟨rfl, rfl⟩
                | false =>
                  have hku := HEM.out hem
                  subst hku
                  go_wp2_with fail
                  go_meet
                  exact ⟨rfl, rfl⟩
              case rest =>
                obtain ⟨rfl, rfl⟩ := hcut
                clear lku HEM
                by_cases h3 : k = 3
                · subst h3
                  have hqs : q.size ≤ 400 := HTO.out (by first | rfl | trivial) (by first | rfl | trivial)
                  have lkq := HO4.out.look q hqs
                  have HQ1 := Aside0.mk hq1
                  clear hq1
                  generalize lastK (l.take i) q = kq at *
                  generalize hasF (l.take i) q 1 = hq at *
                  cases hq with
                  | false =>
                    have HY : Aside0 (R = ((i : Int), 113)) := ⟨by rw [HRD.out, if_pos ⟨rfl, rfl⟩]⟩
                    have hkq : (kq != 1) = true := bne_iff_ne.2 (fun e => by have := HQ1.out.1 e; cases this)
                    clear HRD HQ1
                    go_wp2_with fail
                    go_ret2
                    exact ⟨by rw [HY.out]; rfl, HO4.out.1⟩
                  | true =>
                    have hkq : kq = 1 := HQ1.out.2 rfl
                    subst hkq
                    have HY : Aside0 (R = checkG l (l.length - (i + 1)) (i + 1)) := ⟨by rw [HRD.out, if_neg (fun e => by cases e.2)]⟩
                    clear HRD HQ1
                    obtain ⟨hbel, D, hown, hkm⟩ := HO4.out
                    have HOWN := Aside0.mk hown
                    have HKM := Aside0.mk hkm
                    have HBL := Aside0.mk hbel
                    have hkey : keyOf Tryd.prog 9 (.string p) = some (.string (bB p)) := WideMaps.keyOf_string_mk Tryd.underlying9 (by unfold maxLen; omega)
                    have HKEY := Aside0.mk hkey
                    have HLAW := Aside0.mk (string_keyed Tryd.underlying9)
                    have hln : (l.take i).length ≤ 256 := by rw [List.length_take]; omega
                    clear hown hkm hbel hkey
                    go_wp2_with (at_mapUpdate; refine wpList_mapUpdate_own _ rfl _ _ _ 78 rfl 9 22 HLAW.out Tryd.underlying78 kindE w.heap.size (l.take i).length D rfl HOWN.out (by unfold maxLen; omega) _ _ _ rfl rfl HKEY.out _ [] (kindE_mk 3) ?_; intro w1 hown1 hgrow1; have HO5 : Aside0 (CkW w w1 (l.take (i + 1))) := ⟨⟨HBL.out.grown hgrow1 HBL.out.size (fun j hj => by cases hj; exact Nat.le_refl _), _, (by rw [HTK.out, List.length_append, List.length_singleton]; exact hown1), (by rw [HTK.out]; exact HKM.out.put ⟨p, 3, m, t, bd, q⟩)⟩⟩; clear hown1 hgrow1)
                    go_roundw
                    case rel => exact ⟨i + 1, by omega, by go_num, HY, HO5, HSN2, ⟨fun _ => by rw [Nat.add_sub_cancel, HXX.out]; exact hps⟩⟩
                    case measure => simp [intOf]; omega
                · have hk3 : (k == 3) = false := beq_eq_false_iff_ne.2 h3
                  have HY : Aside0 (R = checkG l (l.length - (i + 1)) (i + 1)) := ⟨by rw [HRD.out, if_neg (fun e => h3 e.1)]⟩
                  clear HRD hq1
                  obtain ⟨hbel, D, hown, hkm⟩ := HO4.out
                  have HOWN := Aside0.mk hown
                  have HKM := Aside0.mk hkm
                  have HBL := Aside0.mk hbel
                  have hkey : keyOf Tryd.prog 9 (.string p) = some (.string (bB p)) := WideMaps.keyOf_string_mk Tryd.underlying9 (by unfold maxLen; omega)
                  have HKEY := Aside0.mk hkey
                  have HLAW := Aside0.mk (string_keyed Tryd.underlying9)
                  have hln : (l.take i).length ≤ 256 := by rw [List.length_take]; omega
                  clear hown hkm hbel hkey
                  go_wp2_with (at_mapUpdate; refine wpList_mapUpdate_own _ rfl _ _ _ 78 rfl 9 22 HLAW.out Tryd.underlying78 kindE w.heap.size (l.take i).length D rfl HOWN.out (by unfold maxLen; omega) _ _ _ rfl rfl HKEY.out _ [] (kindE_mk k) ?_; intro w1 hown1 hgrow1; have HO5 : Aside0 (CkW w w1 (l.take (i + 1))) := ⟨⟨HBL.out.grown hgrow1 HBL.out.size (fun j hj => by cases hj; exact Nat.le_refl _), _, (by rw [HTK.out, List.length_append, List.length_singleton]; exact hown1), (by rw [HTK.out]; exact HKM.out.put ⟨p, k, m, t, bd, q⟩)⟩⟩; clear hown1 hgrow1)
                  go_roundw
                  case rel => exact ⟨i + 1, by omega, by go_num, HY, HO5, HSN2, ⟨fun _ => by rw [Nat.add_sub_cancel, HXX.out]; exact hps⟩⟩
                  case measure => simp [intOf]; omega
      · have hne : (mx != 0) = true := bne_iff_ne.2 hm0
        have HY : Aside0 (R = ((i : Int), mx)) := ⟨by rw [HRX.out, if_pos hm0]⟩
        clear hm0 HRX
        go_wp2_with fail
        go_ret2
        exact ⟨by rw [HY.out]; rfl, HO2.out.1⟩
    · obtain rfl : i = l.length := by omega
      have HY : Aside0 (R = (0, 0)) := ⟨by rw [HX.out, Nat.sub_self]; rfl⟩
      go_wp2_with fail
      go_ret2
      exact ⟨by rw [HY.out]; rfl, HO.out.1⟩
end Go.Proofs.YtopehfjohifpnaaDoor.Mine
end
