/- space: SpaceFirst. -/
import Derived.Test.YtdcccimdgbkniaaSpN
import Derived.Test.YtdcccimdgbkniaaSpJ
import Derived.Test.YtdcccimdgbkniaaSpS
set_option linter.unusedSimpArgs false
set_option linter.unusedVariables false
namespace Go.Proofs.Ytdcccimdgbkniaa.Mine
open Go.RowKit Go.Maps Go.Proofs.YtdcccimdgbkniaaW.PrintWords Go.Proofs.YtdcccimdgbkniaaW.PrintLast Go.Proofs.YtdcccimdgbkniaaW.PrintMore Go.Proofs.Ytdcccimdgbkniaa.Turn

/-- The cells of an act. -/
structure ActAt (w : World) (a : Addr) (x : Act3) : Prop where
  lt : a.block < w.heap.size
  c0 : w.cell? a = some (.int .i64 x.1)
  c1 : w.cell? ⟨a.block, a.off + 1, none⟩ = some (.int .i64 x.2.1)
  c2 : w.cell? ⟨a.block, a.off + 1 + 1, none⟩ = some (.int .i64 x.2.2)
theorem ActAt.below {w w' : World} {a : Addr} {x : Act3} (h : ActAt w a x) (hb : Below w.heap.size w w') : ActAt w' a x :=
  ⟨Nat.lt_of_lt_of_le h.lt hb.size, pw_cell_below hb h.c0, pw_cell_below hb h.c1, pw_cell_below hb h.c2⟩
theorem act_at {w : World} {A : Option Addr} {n : Nat} {l : List Act3} (h : Kd.C kAct w A n l) {k : Nat} (hn : l.length = n) (hk : k < l.length) :
    ∃ ad, A = some ad ∧ ActAt w (ad.add (k * 3)) l[k] := by
  obtain ⟨ad, c, e, hl, hK, hc⟩ := Kd.C_get h (0, (0, 0)) (k : Int) (by omega) (by omega)
  have hx : l.getD (k : Int).toNat (0, (0, 0)) = l[k] := by rw [Int.toNat_natCast, List.getD_eq_getElem?_getD, List.getElem?_eq_getElem hk]; rfl
  rw [hx] at hK
  obtain rfl := kAct_open hK
  rw [Int.toNat_natCast] at hc
  have hz : kAct.sz = 3 := rfl
  rw [hz] at hc
  have h0 := hc 0 _ rfl
  exact ⟨ad, e, World.block_lt_of_cell? w _ h0, h0, by rw [← add_field _ _ 1 (by omega)]; exact hc 1 _ rfl, by have := hc 2 _ rfl; rw [add_field _ _ 2 (by omega)] at this; exact this⟩

/-- The state of a walk over a space: it is in order; what was before is as it was. -/
structure St (w0 w : World) (b : Nat) (F : Nat → Prop) (m : Int) (L : List R2) : Prop where
  sp : Sp w w0.heap.size F b m L
  good : Good m 0 L
  bel : Below w0.heap.size w0 w
theorem St.below {w0 w w' : World} {b : Nat} {F : Nat → Prop} {m : Int} {L : List R2} (h : St w0 w b F m L) (hb : Below w.heap.size w w') : St w0 w' b F m L := ⟨h.sp.below hb, h.good, below_then h.bel h.bel.size hb⟩
theorem St.small {w0 w : World} {b : Nat} {F : Nat → Prop} {m : Int} {L : List R2} (h : St w0 w b F m L) (hm : m ≤ 65536) : Small L := good_small h.good hm
theorem St.len {w0 w : World} {b : Nat} {F : Nat → Prop} {m : Int} {L : List R2} (h : St w0 w b F m L) (hm : m ≤ 65536) : L.length ≤ 1000000 := Nat.le_trans (good_length h.good hm) (by omega)
theorem St.next {w0 w w' : World} {b : Nat} {F F' : Nat → Prop} {m : Int} {L L' : List R2} (h : St w0 w b F m L) (hs : Sp w' w0.heap.size F' b m L') (ht : Turned F w w') (hg : Good m 0 L') : St w0 w' b F' m L' :=
  ⟨hs, hg, h.sp.below_of ht h.bel (Nat.le_refl _)⟩

set_option maxHeartbeats 8000000 in
set_option maxRecDepth 100000 in
theorem spaceFirst_any (n : Int) (A : Option Addr) (cc : Nat) (l : List Act3) (c : Int) (w : World) (hc : l.length ≤ cc) (hr : Kd.C kAct w A l.length l) (hl : l.length ≤ 4611686018427387904) (hb : ∀ x ∈ l, (Lit.int .i64 x.2.2).wf = true) (hwf : (Lit.int .i64 c).wf = true) (hn : (Lit.int .i64 n).wf = true) :
    Calls Try.prog 6 #[.int .i64 n, .slice A l.length cc, .int .i64 c] w fun e w' => e = .returned (.bool true) ∧ Below w.heap.size w w' := by
  have HR := Aside0.mk hr
  have HWF := Aside0.mk hb
  have HC := Aside0.mk hwf
  clear hr hb hwf
  by_cases h60 : 60 < l.length
  · go_enter Try.func6, Try.ntmps6
    go_wp2_with fail
    refine (wakes_any _).mono ?_
    rintro e w1 ⟨rfl, hb⟩
    have HB := Aside0.mk hb
    clear hb
    go_wp2_with fail
    go_ret
    exact ⟨rfl, HB.out⟩
  obtain ⟨m, hm⟩ : ∃ m, (wrap64 (n.tmod 512 + 512)).tmod 512 = m := ⟨_, rfl⟩
  have hm2 := modm (m := 512) (by omega) (by omega) n
  rw [hm] at hm2
  obtain ⟨hm0, hm1⟩ := hm2
  have HM := Aside0.mk hm
  clear hm
  go_enter Try.func6, Try.ntmps6
  go_wp2_with fail
  rw [HM.out]
  refine (new_ok m hm0 (by omega) _).mono ?_
  rintro e w1 ⟨b, F, rfl, hs, hb⟩
  have HS1 : Aside0 (St w w1 b F m (freeL m)) := ⟨hs, free_good m hm0, hb⟩
  clear hs hb
  go_wp2_with fail
  go_loopw [9] (fun i wr => ∃ (k : Nat) (L : List R2) (F' : Nat → Prop), k ≤ l.length ∧ i = .int .i64 k ∧ Aside0 (St w wr b F' m L)) (fun i _ => l.length - (intOf i).toNat)
  case atStart => exact ⟨0, _, _, Nat.zero_le _, rfl, HS1⟩
  case round =>
    obtain ⟨k, L, F1, hk, rfl, HS⟩ := hrel
    clear HS1 F
    by_cases hlt : k < l.length
    · obtain ⟨ad, rfl, hact⟩ := act_at HR.out rfl hlt
      have hwf := HWF.out _ (List.getElem_mem hlt)
      have HWX := Aside0.mk hwf
      generalize l[k] = x at *
      obtain ⟨d, ra, rc⟩ := x
      have HACT := Aside0.mk hact
      obtain ⟨zl, z0, z1, z2⟩ := hact.below HS.out.bel
      simp only at z0 z1 z2
      clear hact hwf
      have hd : d = 0 ∨ d = 1 ∨ d = 2 ∨ (d ≠ 0 ∧ d ≠ 1 ∧ d ≠ 2) := by omega
      rcases hd with rfl | rfl | rfl | ⟨e0, e1, e2⟩
      · go_wp2_with fail
        refine (take_any HS.out.sp (HS.out.len (by omega)) (HS.out.small (by omega)) rc).mono ?_
        rintro e w2 ⟨F2, rfl, hs, ht, hf⟩
        have HS2 := Aside0.mk (HS.out.next hs ht (take_good HS.out.good rc))
        clear hs ht hf z0 z1 z2 zl
        go_wp2_with fail
        go_roundw
        case rel => exact ⟨k + 1, _, _, by omega, by go_num, HS2⟩
        case measure => simp [intOf]; omega
      · go_wp2_with fail
        refine (hold_any HS.out.sp hm0 (by omega) (HS.out.len (by omega)) ra rc HWX.out).mono ?_
        rintro e w2 ⟨F2, rfl, hs, ht, hf⟩
        have HS2 := Aside0.mk (HS.out.next hs ht (hold_good HS.out.good ra rc))
        clear hs ht hf z0 z1 z2 zl
        go_wp2_with fail
        go_roundw
        case rel => exact ⟨k + 1, _, _, by omega, by go_num, HS2⟩
        case measure => simp [intOf]; omega
      · go_wp2_with fail
        refine (give_any HS.out.sp hm0 (by omega) (HS.out.len (by omega)) ra rc HWX.out).mono ?_
        rintro e w2 ⟨F2, rfl, hs, ht, hf⟩
        have HS2 := Aside0.mk (HS.out.next hs ht (give_good HS.out.good ra rc))
        clear hs ht hf z0 z1 z2 zl
        go_wp2_with fail
        go_roundw
        case rel => exact ⟨k + 1, _, _, by omega, by go_num, HS2⟩
        case measure => simp [intOf]; omega
      · have f0 : (d == 0) = false := by simpa using e0
        have f1 : (d == 1) = false := by simpa using e1
        have f2 : (d == 2) = false := by simpa using e2
        go_wp2_with fail
        go_roundw
        case rel => exact ⟨k + 1, _, _, by omega, by go_num, HS⟩
        case measure => simp [intOf]; omega
    · obtain rfl : k = l.length := by omega
      clear hlt hk HR HWF
      go_wp2_with fail
      refine (runs_any HS.out.sp (HS.out.len (by omega)) (HS.out.small (by omega))).mono ?_
      rintro e w2 ⟨v, rfl, ho, hb⟩
      have HS2 := Aside0.mk (HS.out.below hb)
      obtain ⟨A2, c2, rfl, hc2, hc3, -⟩ := ho.reads
      have HO2 := Aside0.mk ho
      have HN2 : Aside0 (∀ q, (Value.slice A2 (runL L).length c2).ownBlock = some q → ¬ F1 q) := ⟨fun q hq hF => by have h1 := (ho.lt q hq).1; have h2 := (HS.out.sp.mine q hF).2; omega⟩
      clear ho hb
      rw [runL_length] at HO2 HN2 hc2 ⊢
      clear HS
      rcases take_spec HS2.out.good c with ⟨t1, t2, t3, t4⟩ | ⟨t1, t2, t3, t4, t5⟩ | ⟨t1, t2, j, hj, t3, t5, t4, t6⟩
      · have HT := Aside0.mk (And.intro t2 (And.intro t3 t4))
        clear t2 t3 t4
        have g1 : decide ((1 : Int) ≤ c) = false := decide_eq_false (by omega)
        (go_wp2_with fail; refine (take_any HS2.out.sp (HS2.out.len (by omega)) (HS2.out.small (by omega)) c).mono ?_; rw [HT.out.1, HT.out.2.1, HT.out.2.2]; rintro e w3 ⟨F3, rfl, hs, ht, hf⟩; have HS3 := Aside0.mk (HS2.out.next hs ht HS2.out.good); have HO3 := Aside0.mk (HO2.out.turn ht HN2.out); clear hs ht hf; go_wp2_with fail)
        go_loop [13] (fun i => ∃ k : Nat, k ≤ L.length ∧ i = .int .i64 k) (fun i => L.length - (intOf i).toNat)
        case atStart => exact ⟨0, Nat.zero_le _, rfl⟩
        case round =>
          obtain ⟨k, hk, rfl⟩ := hrel
          by_cases hlt : k < L.length
          · have hlt3 : k < (runL L).length := by rw [runL_length]; exact hlt
            obtain ⟨A', c', he, -, -, hcell⟩ := HO3.out.reads
            rw [runL_length] at he
            cases he
            obtain ⟨g, o, rfl, hg, y0, y1⟩ := hcell k hlt3
            skip
            clear hcell
            generalize (runL L)[k] = x at *
            go_wp2_with fail
            go_round
            case rel => exact ⟨k + 1, by omega, by go_num⟩
            case measure => simp [intOf]; omega
          · go_wp2_with (first
              | (go_at_call 19; refine (runs_any HS3.out.sp (HS3.out.len (by omega)) (HS3.out.small (by omega))).mono ?_; rintro e w4 ⟨v4, rfl, ho, hb⟩; have HS4 := Aside0.mk (HS3.out.below hb); have HO4 := Aside0.mk ho; have HO5 := Aside0.mk (HO3.out.below hb); clear ho hb)
              | (go_at_call 18; refine (same_any HO4.out.reads HO5.out.reads (by rw [runL_length]; have := HS3.out.len (by omega); omega)).mono ?_; rintro e w5 ⟨rfl, hb⟩; have HS5 := Aside0.mk (HS4.out.below hb); clear hb)
              | (go_at_call 7; refine (wakes_any _).mono ?_; rintro e w6 ⟨rfl, hb⟩; have HS6 := Aside0.mk (HS5.out.below hb); clear hb))
            go_ret
            exact ⟨rfl, HS6.out.bel⟩
      · have HT := Aside0.mk (And.intro t2 (And.intro t3 t4))
        have HT5 := Aside0.mk t5
        clear t2 t3 t4 t5
        have g1 : decide ((1 : Int) ≤ c) = true := decide_eq_true (by omega)
        (go_wp2_with fail; refine (take_any HS2.out.sp (HS2.out.len (by omega)) (HS2.out.small (by omega)) c).mono ?_; rw [HT.out.1, HT.out.2.1, HT.out.2.2]; rintro e w3 ⟨F3, rfl, hs, ht, hf⟩; have HS3 := Aside0.mk (HS2.out.next hs ht HS2.out.good); have HO3 := Aside0.mk (HO2.out.turn ht HN2.out); clear hs ht hf; go_wp2_with fail)
        go_loop [13] (fun i => ∃ k : Nat, k ≤ L.length ∧ i = .int .i64 k) (fun i => L.length - (intOf i).toNat)
        case atStart => exact ⟨0, Nat.zero_le _, rfl⟩
        case round =>
          obtain ⟨k, hk, rfl⟩ := hrel
          by_cases hlt : k < L.length
          · have hlt3 : k < (runL L).length := by rw [runL_length]; exact hlt
            obtain ⟨A', c', he, -, -, hcell⟩ := HO3.out.reads
            rw [runL_length] at he
            cases he
            obtain ⟨g, o, rfl, hg, y0, y1⟩ := hcell k hlt3
            have hcnt : (runL L)[k].2 < c := by
              have := HT5.out L[k] (List.getElem_mem hlt)
              simpa [runL] using this
            clear hcell
            generalize (runL L)[k] = x at *
            go_wp2_with fail
            go_round
            case rel => exact ⟨k + 1, by omega, by go_num⟩
            case measure => simp [intOf]; omega
          · go_wp2_with (first
              | (go_at_call 19; refine (runs_any HS3.out.sp (HS3.out.len (by omega)) (HS3.out.small (by omega))).mono ?_; rintro e w4 ⟨v4, rfl, ho, hb⟩; have HS4 := Aside0.mk (HS3.out.below hb); have HO4 := Aside0.mk ho; have HO5 := Aside0.mk (HO3.out.below hb); clear ho hb)
              | (go_at_call 18; refine (same_any HO4.out.reads HO5.out.reads (by rw [runL_length]; have := HS3.out.len (by omega); omega)).mono ?_; rintro e w5 ⟨rfl, hb⟩; have HS5 := Aside0.mk (HS4.out.below hb); clear hb)
              | (go_at_call 7; refine (wakes_any _).mono ?_; rintro e w6 ⟨rfl, hb⟩; have HS6 := Aside0.mk (HS5.out.below hb); clear hb))
            go_ret
            exact ⟨rfl, HS6.out.bel⟩
      · have hmem := good_mem HS2.out.good _ (List.getElem_mem hj)
        obtain ⟨V, hV⟩ : ∃ V, L[j].1 = V := ⟨_, rfl⟩
        have hbk := take_back HS2.out.good hj t1 t5
        have hbf := fun i => hold_before (i := i) HS2.out.good hj t1 t6
        have hft := hold_first HS2.out.good hj t1 t5
        have hgd : Good m 0 (takeL L c) := take_good HS2.out.good c
        rw [hV] at hbk hbf hft t3 t4 hmem t5
        rw [t4] at hgd
        obtain ⟨L3, hL3⟩ : ∃ L3, cutL L j (V, V + c) = L3 := ⟨_, rfl⟩
        rw [hL3] at hbk hgd t4
        have HT := Aside0.mk (And.intro t2 (And.intro t3 t4))
        have HG3 := Aside0.mk hgd
        have HBK := Aside0.mk hbk
        have HBF := Aside0.mk hbf
        have HFT := Aside0.mk hft
        have hV0 : 0 ≤ V := by omega
        have hVm : V + c ≤ m := by omega
        clear hL3 hgd hbk hbf hft t2 t3 t4 t5 t6 hV hmem hj
        have g1 : decide (c < (1 : Int)) = false := decide_eq_false (by omega)
        go_wp2_with fail
        refine (take_any HS2.out.sp (HS2.out.len (by omega)) (HS2.out.small (by omega)) c).mono ?_
        rw [HT.out.1, HT.out.2.1, HT.out.2.2]
        rintro e w3 ⟨F3, rfl, hs, ht, hf⟩
        have HS3 := Aside0.mk (HS2.out.next hs ht HG3.out)
        have HO3 := Aside0.mk (HO2.out.turn ht HN2.out)
        have HN3 : Aside0 (∀ q, (Value.slice A2 L.length c2).ownBlock = some q → ¬ F3 q) := ⟨fun q hq hF => by
          rcases hf q hF with h1 | h1
          · exact HN2.out q hq h1
          · have := (HO2.out.lt q hq).2; omega⟩
        clear hs ht hf
        go_wp2_with (first
          | (go_at_call 14; refine (give_any HS3.out.sp hm0 (by omega) (HS3.out.len (by omega)) V c HC.out).mono ?_; rw [HBK.out.1, HBK.out.2]; rintro e w4 ⟨F4, rfl, hs, ht, hf⟩; have HS4 := Aside0.mk (HS3.out.next hs ht HS2.out.good); have HO4 := Aside0.mk (HO3.out.turn ht HN3.out); clear hs ht hf)
          | (go_at_call 19; refine (runs_any HS4.out.sp (HS4.out.len (by omega)) (HS4.out.small (by omega))).mono ?_; rintro e w5 ⟨v5, rfl, ho, hb⟩; have HS5 := Aside0.mk (HS4.out.below hb); have HO5 := Aside0.mk ho; have HO6 := Aside0.mk (HO4.out.below hb); clear ho hb)
          | (go_at_call 18; refine (same_any HO5.out.reads HO6.out.reads (by rw [runL_length]; have := HS4.out.len (by omega); omega)).mono ?_; rintro e w6 ⟨rfl, hb⟩; have HS6 := Aside0.mk (HS5.out.below hb); clear hb))
        go_loopw [14] (fun i wr => ∃ (q : Nat) (F' : Nat → Prop), (q : Int) ≤ V ∧ i = .int .i64 q ∧ Aside0 (St w wr b F' m L)) (fun i _ => V.toNat - (intOf i).toNat)
        case atStart => exact ⟨0, _, hV0, rfl, HS6⟩
        case round =>
          obtain ⟨q, F7, hq, rfl, HS⟩ := hrel
          by_cases hlt : (q : Int) < V
          · have g2 : decide ((q : Int) < V) = true := decide_eq_true hlt
            have g3 : decide ((q : Int) < m) = true := decide_eq_true (by omega)
            obtain ⟨h5, h6⟩ := HBF.out q hlt
            have H5 := Aside0.mk h5
            have H6 := Aside0.mk h6
            clear h5 h6
            go_wp2_with fail
            refine (hold_any HS.out.sp hm0 (by omega) (HS.out.len (by omega)) q c HC.out).mono ?_
            rw [H6.out]
            rcases H5.out with h5 | h5
            all_goals
              rw [h5]
              clear h5
              rintro e w7 ⟨F8, rfl, hs, ht, hf⟩
              have HS8 := Aside0.mk (HS.out.next hs ht HS.out.good)
              clear hs ht hf
              go_wp2_with fail
              go_roundw
              case rel => exact ⟨q + 1, _, by omega, by go_num, HS8⟩
              case measure => simp [intOf]; omega
          · have g2 : decide ((q : Int) < V) = false := decide_eq_false hlt
            go_wp2_with (first
              | (go_at_call 12; refine (hold_any HS.out.sp hm0 (by omega) (HS.out.len (by omega)) V c HC.out).mono ?_; rw [HFT.out]; rintro e w7 ⟨F8, rfl, hs, ht, hf⟩; have HS8 := Aside0.mk (HS.out.next hs ht (hold_good HS.out.good V c)); clear hs ht hf)
              | (go_at_call 7; refine (wakes_any _).mono ?_; rintro e w8 ⟨rfl, hb⟩; have HS9 := Aside0.mk (HS8.out.below hb); clear hb))
            go_ret
            exact ⟨rfl, HS9.out.bel⟩
end Go.Proofs.Ytdcccimdgbkniaa.Mine
