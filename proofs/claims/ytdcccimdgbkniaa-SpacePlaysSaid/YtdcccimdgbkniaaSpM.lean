/- space: SpacePlays. -/
import Derived.Test.YtdcccimdgbkniaaSpW
import Derived.Test.YtdcccimdgbkniaaSpK
import Derived.Deep.DeepCutAuto
import Derived.Deep.CutBlock
set_option linter.unusedSimpArgs false
set_option linter.unusedVariables false
namespace Go.Proofs.Ytdcccimdgbkniaa.Mine
open Go.RowKit Go.Maps Go.Proofs.YtdcccimdgbkniaaW.PrintWords Go.Proofs.YtdcccimdgbkniaaW.PrintLast Go.Proofs.YtdcccimdgbkniaaW.PrintMore Go.Proofs.Ytdcccimdgbkniaa.Turn

/-- Both spaces in memory, apart; they tell the same. -/
structure Duo (w0 w : World) (n : Nat) (b b2 : Nat) (F F2 : Nat → Prop) (L : List R2) (t : List Bool) : Prop where
  sp : Sp w w0.heap.size F b n L
  rf : Rf w w0.heap.size F2 b2 t
  rel : Rel n L t
  apart : ∀ k, F k → ¬ F2 k
  bel : Below w0.heap.size w0 w
section
variable {w0 w w' : World} {n b b2 : Nat} {F F2 F' : Nat → Prop} {L L' : List R2} {t t' : List Bool}
theorem Duo.below (h : Duo w0 w n b b2 F F2 L t) (hb : Below w.heap.size w w') : Duo w0 w' n b b2 F F2 L t := ⟨h.sp.below hb, h.rf.below hb, h.rel, h.apart, below_then h.bel h.bel.size hb⟩
/-- An act of the one, then of the other one. -/
theorem Duo.acts (h : Duo w0 w n b b2 F F2 L t) {w2 : World} (hs : Sp w' w0.heap.size F' b n L') (ht : Turned F w w') (hf : ∀ k, F' k → F k ∨ w.heap.size ≤ k) (hr : Rf w2 w0.heap.size F2 b2 t') (ht2 : Turned F2 w' w2) (hrel : Rel n L' t') : Duo w0 w2 n b b2 F' F2 L' t' := by
  have hap : ∀ k, F' k → ¬ F2 k := fun k hk hk2 => (hf k hk).elim (fun h1 => h.apart k h1 hk2) (fun h1 => by have := (h.rf.mine k hk2).2; omega)
  refine ⟨hs.turn ht2 (fun k hk hk2 => hap k hk2 hk), hr, hrel, hap, ?_⟩
  exact below_turned (h.sp.below_of ht h.bel (Nat.le_refl _)) ht2 (Nat.le_trans h.bel.size ht.size) (fun k hk => (h.rf.mine k hk).1)
theorem Duo.mid (h : Duo w0 w n b b2 F F2 L t) (ht : Turned F w w') : Rf w' w0.heap.size F2 b2 t := h.rf.turn ht (fun k hk hk2 => h.apart k hk hk2)
end
theorem Rf.lower {w : World} {base base' b : Nat} {F : Nat → Prop} {t : List Bool} (h : Rf w base F b t) (hb : base' ≤ base) : Rf w base' F b t := ⟨h.self, fun k hk => ⟨Nat.le_trans hb (h.mine k hk).1, (h.mine k hk).2⟩, h.row⟩

set_option maxHeartbeats 8000000 in
set_option maxRecDepth 100000 in
theorem spacePlays_any (n : Int) (A : Option Addr) (cc : Nat) (l : List Act3) (w : World) (hc : l.length ≤ cc) (hr : Kd.C kAct w A l.length l) (hl : l.length ≤ 4611686018427387904) (hb : ∀ x ∈ l, (Lit.int .i64 x.2.1).wf = true ∧ (Lit.int .i64 x.2.2).wf = true) (hn : (Lit.int .i64 n).wf = true) :
    Calls Try.prog 3 #[.int .i64 n, .slice A l.length cc] w fun e w' => e = .returned (.bool true) ∧ Below w.heap.size w w' := by
  have HR := Aside0.mk hr
  have HWF := Aside0.mk hb
  clear hr hb
  by_cases h60 : 200 < l.length
  · go_enter Try.func3, Try.ntmps3
    go_wp2_with fail
    refine (wakes_any _).mono ?_
    rintro e w1 ⟨rfl, hb⟩
    have HB := Aside0.mk hb
    clear hb
    go_wp2_with fail
    go_ret
    exact ⟨rfl, HB.out⟩
  by_cases h0 : n < 0
  · have d1 : decide ((1024 : Int) < n) = false := decide_eq_false (by omega)
    go_enter Try.func3, Try.ntmps3
    go_wp2_with fail
    refine (new_neg n h0 _).mono ?_
    rintro e w1 ⟨rfl, rfl⟩
    go_wp2_with fail
    refine (rnew_neg n h0 _).mono ?_
    rintro e w1 ⟨rfl, rfl⟩
    go_wp2_with fail
    refine (wakes_any _).mono ?_
    rintro e w1 ⟨rfl, hb⟩
    have HB := Aside0.mk hb
    clear hb
    go_wp2_with fail
    go_ret
    exact ⟨rfl, HB.out⟩
  by_cases h1 : 65536 < n
  · have d1 : decide ((1024 : Int) < n) = true := decide_eq_true (by omega)
    have d2 : decide (n ≤ (65536 : Int)) = false := decide_eq_false (by omega)
    go_enter Try.func3, Try.ntmps3
    go_wp2_with fail
    refine (new_long n h1 _).mono ?_
    rintro e w1 ⟨rfl, rfl⟩
    go_wp2_with fail
    refine (rnew_long n h1 _).mono ?_
    rintro e w1 ⟨rfl, rfl⟩
    go_wp2_with fail
    refine (wakes_any _).mono ?_
    rintro e w1 ⟨rfl, hb⟩
    have HB := Aside0.mk hb
    clear hb
    go_wp2_with fail
    go_ret
    exact ⟨rfl, HB.out⟩
  obtain ⟨N, hN, hN2, hNn⟩ : ∃ N : Nat, N ≤ 1024 ∧ ((1024 < n ∧ N = 1024) ∨ (n ≤ 1024 ∧ n = N)) ∧ True := by
    by_cases h2 : 1024 < n
    · exact ⟨1024, Nat.le_refl _, .inl ⟨h2, rfl⟩, trivial⟩
    · exact ⟨n.toNat, by omega, .inr ⟨by omega, by omega⟩, trivial⟩
  have key : ∀ (nI : Int), nI = N → True := fun _ _ => trivial
  clear key hNn
  rcases hN2 with ⟨h2, rfl⟩ | ⟨h2, rfl⟩
  · have d1 : decide ((1024 : Int) < n) = true := decide_eq_true (by omega)
    have d2 : decide (n ≤ (65536 : Int)) = true := decide_eq_true (by omega)
    go_enter Try.func3, Try.ntmps3
    go_wp2_with fail
    refine (new_ok (1024 : Int) (by omega) (by omega) _).mono ?_
    rintro e w1 ⟨b, F, rfl, hs, hb⟩
    have HS1 := Aside0.mk hs
    have HB1 := Aside0.mk hb
    clear hs hb
    go_wp2_with fail
    refine (rnew_ok 1024 (by omega) _).mono ?_
    rintro e w2 ⟨b2, F2, rfl, hr, hb⟩
    have HD0 : Aside0 (Duo w w2 1024 b b2 F F2 (freeL (1024 : Int)) (List.replicate 1024 false)) := ⟨⟨HS1.out.below hb, hr.lower HB1.out.size, rel_start 1024, fun k hk hk2 => by have h1 := (HS1.out.mine k hk).2; have h2 := (hr.mine k hk2).1; omega, below_then HB1.out HB1.out.size hb⟩⟩
    clear hr hb HS1 HB1
    go_wp2_with fail
    go_loopw [9] (fun i wr => ∃ (k : Nat) (L : List R2) (t : List Bool) (F' F2' : Nat → Prop), k ≤ l.length ∧ i = .int .i64 k ∧ Aside0 (Duo w wr 1024 b b2 F' F2' L t)) (fun i _ => l.length - (intOf i).toNat)
    case atStart => exact ⟨0, _, _, _, _, Nat.zero_le _, rfl, HD0⟩
    case round =>
      obtain ⟨k, L, t, F3, F4, hk, rfl, HD⟩ := hrel
      clear HD0 F F2
      by_cases hlt : k < l.length
      · obtain ⟨ad, rfl, hact⟩ := act_at HR.out rfl hlt
        have hwf := HWF.out _ (List.getElem_mem hlt)
        have HWX := Aside0.mk hwf
        generalize l[k] = x at *
        obtain ⟨d, ra, rc⟩ := x
        have HACT := Aside0.mk hact
        obtain ⟨zl, z0, z1, z2⟩ := hact.below HD.out.bel
        simp only at z0 z1 z2
        clear hact hwf
        have hLl : L.length ≤ 1000000 := Nat.le_trans (good_length HD.out.rel.good (by omega)) (by omega)
        have htl : t.length ≤ 65536 := by rw [HD.out.rel.len]; omega
        have hsm := Aside0.mk (good_small HD.out.rel.good (by omega))
        go_upto_block 2 with (fail)
        go_cut [10] (fun v wx => ∃ (L : List R2) (t : List Bool) (F' F2' : Nat → Prop), Aside0 (Duo w wx 1024 b b2 F' F2' L t))
        case first =>
          have hd : d = 0 ∨ d = 1 ∨ d = 2 ∨ (d ≠ 0 ∧ d ≠ 1 ∧ d ≠ 2) := by omega
          rcases hd with rfl | rfl | rfl | ⟨e0, e1, e2⟩
          · have HT := Aside0.mk (HD.out.rel.take rc)
            obtain ⟨V, hV⟩ : ∃ V, rtakeV t rc = V := ⟨_, rfl⟩
            obtain ⟨E, hE⟩ : ∃ E, rtakeE t rc = E := ⟨_, rfl⟩
            have hvv : (V != V) = false := by simp
            have hee : (E != E) = false := by simp
            have HV := Aside0.mk hV
            have HE := Aside0.mk hE
            clear hV hE
            go_wp2_with fail
            refine (take_any HD.out.sp hLl hsm.out rc).mono ?_
            rw [HT.out.1, HT.out.2.1, HV.out, HE.out]
            rintro e w4 ⟨F5, rfl, hs, ht, hf⟩
            have HSP := Aside0.mk (And.intro hs (And.intro ht hf))
            have HRM := Aside0.mk (HD.out.mid ht)
            obtain ⟨yl, y0, y1, y2⟩ := HACT.out.below (HD.out.sp.below_of ht HD.out.bel (Nat.le_refl _))
            simp only at y0 y1 y2
            clear hs ht hf z0 z1 z2 zl
            go_wp2_with fail
            refine (rtake_any HRM.out htl rc HWX.out.2).mono ?_
            rw [HV.out, HE.out]
            rintro e w5 ⟨rfl, hr, ht2⟩
            have HD5 := Aside0.mk (HD.out.acts HSP.out.1 HSP.out.2.1 HSP.out.2.2 hr ht2 HT.out.2.2)
            clear hr ht2
            go_wp2_with fail
            go_meet
            exact ⟨_, _, _, _, HD5⟩
          · have HT := Aside0.mk (HD.out.rel.hold ra rc)
            obtain ⟨E, hE⟩ : ∃ E, rholdE t ra rc = E := ⟨_, rfl⟩
            have hee : (E != E) = false := by simp
            have HE := Aside0.mk hE
            clear hE
            go_wp2_with fail
            refine (hold_any HD.out.sp (by omega) (by omega) hLl ra rc HWX.out.2).mono ?_
            rw [HT.out.1, HE.out]
            rintro e w4 ⟨F5, rfl, hs, ht, hf⟩
            have HSP := Aside0.mk (And.intro hs (And.intro ht hf))
            have HRM := Aside0.mk (HD.out.mid ht)
            obtain ⟨yl, y0, y1, y2⟩ := HACT.out.below (HD.out.sp.below_of ht HD.out.bel (Nat.le_refl _))
            simp only at y0 y1 y2
            clear hs ht hf z0 z1 z2 zl
            go_wp2_with fail
            refine (rhold_any HRM.out htl ra rc HWX.out.2).mono ?_
            rw [HE.out]
            rintro e w5 ⟨rfl, hr, ht2⟩
            have HD5 := Aside0.mk (HD.out.acts HSP.out.1 HSP.out.2.1 HSP.out.2.2 hr ht2 HT.out.2)
            clear hr ht2
            go_wp2_with fail
            go_meet
            exact ⟨_, _, _, _, HD5⟩
          · have HT := Aside0.mk (HD.out.rel.give ra rc)
            obtain ⟨E, hE⟩ : ∃ E, rgiveE t ra rc = E := ⟨_, rfl⟩
            have hee : (E != E) = false := by simp
            have HE := Aside0.mk hE
            clear hE
            go_wp2_with fail
            refine (give_any HD.out.sp (by omega) (by omega) hLl ra rc HWX.out.2).mono ?_
            rw [HT.out.1, HE.out]
            rintro e w4 ⟨F5, rfl, hs, ht, hf⟩
            have HSP := Aside0.mk (And.intro hs (And.intro ht hf))
            have HRM := Aside0.mk (HD.out.mid ht)
            obtain ⟨yl, y0, y1, y2⟩ := HACT.out.below (HD.out.sp.below_of ht HD.out.bel (Nat.le_refl _))
            simp only at y0 y1 y2
            clear hs ht hf z0 z1 z2 zl
            go_wp2_with fail
            refine (rgive_any HRM.out htl ra rc HWX.out.2).mono ?_
            rw [HE.out]
            rintro e w5 ⟨rfl, hr, ht2⟩
            have HD5 := Aside0.mk (HD.out.acts HSP.out.1 HSP.out.2.1 HSP.out.2.2 hr ht2 HT.out.2)
            clear hr ht2
            go_wp2_with fail
            go_meet
            exact ⟨_, _, _, _, HD5⟩
          · have f0 : (d == 0) = false := by simpa using e0
            have f1 : (d == 1) = false := by simpa using e1
            have f2 : (d == 2) = false := by simpa using e2
            go_wp2_with fail
            go_meet
            exact ⟨_, _, _, _, HD⟩
        case rest =>
          obtain ⟨L2, t2, F5, F6, HD2⟩ := hcut
          clear HD hLl htl hsm HACT HWX zl z0 z1 z2
          have hLl : L2.length ≤ 1000000 := Nat.le_trans (good_length HD2.out.rel.good (by omega)) (by omega)
          have htl : t2.length ≤ 65536 := by rw [HD2.out.rel.len]; omega
          have hsm := Aside0.mk (good_small HD2.out.rel.good (by omega))
          have hsu := Aside0.mk (good_sums HD2.out.rel.good (by omega))
          have HFR := Aside0.mk HD2.out.rel.free
          have HRU := Aside0.mk HD2.out.rel.runs
          obtain ⟨S, hS⟩ : ∃ S, sumC (runL L2) = S := ⟨_, rfl⟩
          have HS := Aside0.mk hS
          have hss : (S != S) = false := by simp
          clear hS
          go_wp2_with (first
            | (go_at_call 16; refine (free_any HD2.out.sp hLl hsm.out hsu.out).mono ?_; rw [HS.out]; rintro e w6 ⟨rfl, hb⟩; have HD3 := Aside0.mk (HD2.out.below hb); clear hb)
            | (go_at_call 17; refine (rfree_any HD3.out.rf htl).mono ?_; rw [HFR.out, HS.out]; rintro e w7 ⟨rfl, rfl⟩)
            | (go_at_call 19; refine (runs_any HD3.out.sp hLl hsm.out).mono ?_; rintro e w8 ⟨v8, rfl, ho, hb⟩; have HD4 := Aside0.mk (HD3.out.below hb); have HO8 := Aside0.mk ho; clear ho hb)
            | (go_at_call 20; refine (rruns_any HD4.out.rf htl).mono ?_; rw [HRU.out]; rintro e w9 ⟨v9, rfl, ho, hb⟩; have HD5 := Aside0.mk (HD4.out.below hb); have HO9 := Aside0.mk ho; have HO89 := Aside0.mk (HO8.out.below hb); clear ho hb)
            | (go_at_call 18; refine (same_any HO89.out.reads HO9.out.reads (by rw [runL_length]; omega)).mono ?_; rintro e w10 ⟨rfl, hb⟩; have HD6 := Aside0.mk (HD5.out.below hb); clear hb))
          go_roundw
          case rel => exact ⟨k + 1, _, _, _, _, by omega, by go_num, HD6⟩
          case measure => simp [intOf]; omega
      · go_wp2_with fail
        refine (wakes_any _).mono ?_
        rintro e w6 ⟨rfl, hb⟩
        have HD2 := Aside0.mk (HD.out.below hb)
        clear hb
        go_wp2_with fail
        go_ret
        exact ⟨rfl, HD2.out.bel⟩
  · have d1 : decide ((1024 : Int) < (N : Int)) = false := decide_eq_false (by omega)
    go_enter Try.func3, Try.ntmps3
    go_wp2_with fail
    refine (new_ok (N : Int) (by omega) (by omega) _).mono ?_
    rintro e w1 ⟨b, F, rfl, hs, hb⟩
    have HS1 := Aside0.mk hs
    have HB1 := Aside0.mk hb
    clear hs hb
    go_wp2_with fail
    refine (rnew_ok N (by omega) _).mono ?_
    rintro e w2 ⟨b2, F2, rfl, hr, hb⟩
    have HD0 : Aside0 (Duo w w2 N b b2 F F2 (freeL (N : Int)) (List.replicate N false)) := ⟨⟨HS1.out.below hb, hr.lower HB1.out.size, rel_start N, fun k hk hk2 => by have h1 := (HS1.out.mine k hk).2; have h2 := (hr.mine k hk2).1; omega, below_then HB1.out HB1.out.size hb⟩⟩
    clear hr hb HS1 HB1
    go_wp2_with fail
    go_loopw [9] (fun i wr => ∃ (k : Nat) (L : List R2) (t : List Bool) (F' F2' : Nat → Prop), k ≤ l.length ∧ i = .int .i64 k ∧ Aside0 (Duo w wr N b b2 F' F2' L t)) (fun i _ => l.length - (intOf i).toNat)
    case atStart => exact ⟨0, _, _, _, _, Nat.zero_le _, rfl, HD0⟩
    case round =>
      obtain ⟨k, L, t, F3, F4, hk, rfl, HD⟩ := hrel
      clear HD0 F F2
      by_cases hlt : k < l.length
      · obtain ⟨ad, rfl, hact⟩ := act_at HR.out rfl hlt
        have hwf := HWF.out _ (List.getElem_mem hlt)
        have HWX := Aside0.mk hwf
        generalize l[k] = x at *
        obtain ⟨d, ra, rc⟩ := x
        have HACT := Aside0.mk hact
        obtain ⟨zl, z0, z1, z2⟩ := hact.below HD.out.bel
        simp only at z0 z1 z2
        clear hact hwf
        have hLl : L.length ≤ 1000000 := Nat.le_trans (good_length HD.out.rel.good (by omega)) (by omega)
        have htl : t.length ≤ 65536 := by rw [HD.out.rel.len]; omega
        have hsm := Aside0.mk (good_small HD.out.rel.good (by omega))
        go_upto_block 2 with (fail)
        go_cut [10] (fun v wx => ∃ (L : List R2) (t : List Bool) (F' F2' : Nat → Prop), Aside0 (Duo w wx N b b2 F' F2' L t))
        case first =>
          have hd : d = 0 ∨ d = 1 ∨ d = 2 ∨ (d ≠ 0 ∧ d ≠ 1 ∧ d ≠ 2) := by omega
          rcases hd with rfl | rfl | rfl | ⟨e0, e1, e2⟩
          · have HT := Aside0.mk (HD.out.rel.take rc)
            obtain ⟨V, hV⟩ : ∃ V, rtakeV t rc = V := ⟨_, rfl⟩
            obtain ⟨E, hE⟩ : ∃ E, rtakeE t rc = E := ⟨_, rfl⟩
            have hvv : (V != V) = false := by simp
            have hee : (E != E) = false := by simp
            have HV := Aside0.mk hV
            have HE := Aside0.mk hE
            clear hV hE
            go_wp2_with fail
            refine (take_any HD.out.sp hLl hsm.out rc).mono ?_
            rw [HT.out.1, HT.out.2.1, HV.out, HE.out]
            rintro e w4 ⟨F5, rfl, hs, ht, hf⟩
            have HSP := Aside0.mk (And.intro hs (And.intro ht hf))
            have HRM := Aside0.mk (HD.out.mid ht)
            obtain ⟨yl, y0, y1, y2⟩ := HACT.out.below (HD.out.sp.below_of ht HD.out.bel (Nat.le_refl _))
            simp only at y0 y1 y2
            clear hs ht hf z0 z1 z2 zl
            go_wp2_with fail
            refine (rtake_any HRM.out htl rc HWX.out.2).mono ?_
            rw [HV.out, HE.out]
            rintro e w5 ⟨rfl, hr, ht2⟩
            have HD5 := Aside0.mk (HD.out.acts HSP.out.1 HSP.out.2.1 HSP.out.2.2 hr ht2 HT.out.2.2)
            clear hr ht2
            go_wp2_with fail
            go_meet
            exact ⟨_, _, _, _, HD5⟩
          · have HT := Aside0.mk (HD.out.rel.hold ra rc)
            obtain ⟨E, hE⟩ : ∃ E, rholdE t ra rc = E := ⟨_, rfl⟩
            have hee : (E != E) = false := by simp
            have HE := Aside0.mk hE
            clear hE
            go_wp2_with fail
            refine (hold_any HD.out.sp (by omega) (by omega) hLl ra rc HWX.out.2).mono ?_
            rw [HT.out.1, HE.out]
            rintro e w4 ⟨F5, rfl, hs, ht, hf⟩
            have HSP := Aside0.mk (And.intro hs (And.intro ht hf))
            have HRM := Aside0.mk (HD.out.mid ht)
            obtain ⟨yl, y0, y1, y2⟩ := HACT.out.below (HD.out.sp.below_of ht HD.out.bel (Nat.le_refl _))
            simp only at y0 y1 y2
            clear hs ht hf z0 z1 z2 zl
            go_wp2_with fail
            refine (rhold_any HRM.out htl ra rc HWX.out.2).mono ?_
            rw [HE.out]
            rintro e w5 ⟨rfl, hr, ht2⟩
            have HD5 := Aside0.mk (HD.out.acts HSP.out.1 HSP.out.2.1 HSP.out.2.2 hr ht2 HT.out.2)
            clear hr ht2
            go_wp2_with fail
            go_meet
            exact ⟨_, _, _, _, HD5⟩
          · have HT := Aside0.mk (HD.out.rel.give ra rc)
            obtain ⟨E, hE⟩ : ∃ E, rgiveE t ra rc = E := ⟨_, rfl⟩
            have hee : (E != E) = false := by simp
            have HE := Aside0.mk hE
            clear hE
            go_wp2_with fail
            refine (give_any HD.out.sp (by omega) (by omega) hLl ra rc HWX.out.2).mono ?_
            rw [HT.out.1, HE.out]
            rintro e w4 ⟨F5, rfl, hs, ht, hf⟩
            have HSP := Aside0.mk (And.intro hs (And.intro ht hf))
            have HRM := Aside0.mk (HD.out.mid ht)
            obtain ⟨yl, y0, y1, y2⟩ := HACT.out.below (HD.out.sp.below_of ht HD.out.bel (Nat.le_refl _))
            simp only at y0 y1 y2
            clear hs ht hf z0 z1 z2 zl
            go_wp2_with fail
            refine (rgive_any HRM.out htl ra rc HWX.out.2).mono ?_
            rw [HE.out]
            rintro e w5 ⟨rfl, hr, ht2⟩
            have HD5 := Aside0.mk (HD.out.acts HSP.out.1 HSP.out.2.1 HSP.out.2.2 hr ht2 HT.out.2)
            clear hr ht2
            go_wp2_with fail
            go_meet
            exact ⟨_, _, _, _, HD5⟩
          · have f0 : (d == 0) = false := by simpa using e0
            have f1 : (d == 1) = false := by simpa using e1
            have f2 : (d == 2) = false := by simpa using e2
            go_wp2_with fail
            go_meet
            exact ⟨_, _, _, _, HD⟩
        case rest =>
          obtain ⟨L2, t2, F5, F6, HD2⟩ := hcut
          clear HD hLl htl hsm HACT HWX zl z0 z1 z2
          have hLl : L2.length ≤ 1000000 := Nat.le_trans (good_length HD2.out.rel.good (by omega)) (by omega)
          have htl : t2.length ≤ 65536 := by rw [HD2.out.rel.len]; omega
          have hsm := Aside0.mk (good_small HD2.out.rel.good (by omega))
          have hsu := Aside0.mk (good_sums HD2.out.rel.good (by omega))
          have HFR := Aside0.mk HD2.out.rel.free
          have HRU := Aside0.mk HD2.out.rel.runs
          obtain ⟨S, hS⟩ : ∃ S, sumC (runL L2) = S := ⟨_, rfl⟩
          have HS := Aside0.mk hS
          have hss : (S != S) = false := by simp
          clear hS
          go_wp2_with (first
            | (go_at_call 16; refine (free_any HD2.out.sp hLl hsm.out hsu.out).mono ?_; rw [HS.out]; rintro e w6 ⟨rfl, hb⟩; have HD3 := Aside0.mk (HD2.out.below hb); clear hb)
            | (go_at_call 17; refine (rfree_any HD3.out.rf htl).mono ?_; rw [HFR.out, HS.out]; rintro e w7 ⟨rfl, rfl⟩)
            | (go_at_call 19; refine (runs_any HD3.out.sp hLl hsm.out).mono ?_; rintro e w8 ⟨v8, rfl, ho, hb⟩; have HD4 := Aside0.mk (HD3.out.below hb); have HO8 := Aside0.mk ho; clear ho hb)
            | (go_at_call 20; refine (rruns_any HD4.out.rf htl).mono ?_; rw [HRU.out]; rintro e w9 ⟨v9, rfl, ho, hb⟩; have HD5 := Aside0.mk (HD4.out.below hb); have HO9 := Aside0.mk ho; have HO89 := Aside0.mk (HO8.out.below hb); clear ho hb)
            | (go_at_call 18; refine (same_any HO89.out.reads HO9.out.reads (by rw [runL_length]; omega)).mono ?_; rintro e w10 ⟨rfl, hb⟩; have HD6 := Aside0.mk (HD5.out.below hb); clear hb))
          go_roundw
          case rel => exact ⟨k + 1, _, _, _, _, by omega, by go_num, HD6⟩
          case measure => simp [intOf]; omega
      · go_wp2_with fail
        refine (wakes_any _).mono ?_
        rintro e w6 ⟨rfl, hb⟩
        have HD2 := Aside0.mk (HD.out.below hb)
        clear hb
        go_wp2_with fail
        go_ret
        exact ⟨rfl, HD2.out.bel⟩
end Go.Proofs.Ytdcccimdgbkniaa.Mine
