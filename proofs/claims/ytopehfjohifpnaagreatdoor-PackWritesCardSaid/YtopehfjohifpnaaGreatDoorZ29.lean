import Derived.Test.YtopehfjohifpnaaGreatDoorZ28
import Derived.Deep.RegionHeld3
import Derived.Test.YtopehfjohifpnaaGreatDoorZ4
section
set_option linter.unusedSimpArgs false
set_option linter.unusedVariables false
namespace Go.Proofs.YtopehfjohifpnaaGreatDoor.Mine
open Go.RowKit Go.Shelf Go.Proofs.YtopehfjohifpnaaGreatDoorW.PrintWords Go.Proofs.YtopehfjohifpnaaGreatDoorW.PrintLast Go.Proofs.YtopehfjohifpnaaGreatDoorW.PrintMore Go.Proofs.YtopehfjohifpnaaGreatDoor.Turn Go.Proofs.YtopehfjohifpnaaGreatDoor.Doc
theorem moreL_len (L : List S64) : (moreL L).length ≤ 80000 := by
  unfold moreL
  split
  · simp
  · have h1 := putF_len L
    have h2 : (putH MoreB NoB 0 (putF L).1.length 0 120 NoB).1.length ≤ 512 := putH_len _ _ _ _ _ _ _
    rw [List.length_append, fillL_len, fillL_len]
    omega
theorem pieces_len {x : S43} (h : mayX x = 0) : (piecesF x).length ≤ 200000 := by
  have h1 := moreL_len (pairsF x.f0 x.f1 x.f2 x.f3 x.f4.length x.f5).1
  have h2 : (ownH x).1.length ≤ 512 := putH_len _ _ _ _ _ _ _
  have h3 := may_body h
  unfold piecesF
  rw [List.length_append, List.length_append, fillL_len, fillL_len]
  omega
set_option maxRecDepth 100000 in
theorem len_tape {T base : Nat} {v : Value} {l : List Int} (W : World) (hT : Tape W T base v l) : Calls Tryz.prog 30 #[.pointer (some ⟨T, 0, none⟩)] W fun e W' => e = .returned (.int .i64 l.length) ∧ Below W.heap.size W W' := by
  obtain ⟨A0, c0, rfl⟩ := Kd.R_slice hT.2
  have k0 : W.cell? ⟨T, 0, none⟩ = some (.slice A0 l.length c0) := (Blk.cell hT.1 0).trans rfl
  have hlt := Blk.lt hT.1
  clear hT
  go_enter Tryz.func30, Tryz.ntmps30
  go_wp2_with fail
  go_ret
  exact ⟨rfl, Below.refl _ _⟩
def EndsWrite (w : World) (r : List Int × Int × Int) (e : Ending) (w' : World) : Prop :=
  ∃ A c, e = .returned (.tuple #[.slice A r.1.length c, .int .i64 r.2.1, .int .i64 r.2.2]) ∧ RB w' w.heap.size (.slice A r.1.length c) r.1 ∧ Below w.heap.size w w'
set_option maxRecDepth 100000 in
set_option maxHeartbeats 8000000 in
theorem write_any (A : Option Addr) (c : Nat) (l : List S43) (i0 : Int) (w : World) (hr : Kd.C k43 w A l.length l) (hV : Vars w i0) :
    Calls Tryz.prog 9 #[.slice A l.length c] w (EndsWrite w (writeF l)) := by
  have HR := Aside0.mk hr
  have HV := Aside0.mk hV
  have HCK := Aside0.mk (checkT_any A c l i0 w hr hV.len)
  have HW : Aside0 (writeF l = if (checkT l).2 ≠ 0 then ([], (checkT l).1, (checkT l).2) else volG l l.length 0 []) := ⟨rfl⟩
  have HOK : Aside0 ((checkT l).2 = 0 → l.length ≤ 256 ∧ ∀ i, i < l.length → mayX (itm l i) = 0) := ⟨checkT_ok⟩
  have HE : Aside0 (EndsWrite w (writeF l) = fun e w' => ∃ A c, e = .returned (.tuple #[.slice A (writeF l).1.length c, .int .i64 (writeF l).2.1, .int .i64 (writeF l).2.2]) ∧ RB w' w.heap.size (.slice A (writeF l).1.length c) (writeF l).1 ∧ Below w.heap.size w w') := ⟨rfl⟩
  obtain ⟨PE, hPE⟩ : ∃ PE, EndsWrite w (writeF l) = PE := ⟨_, rfl⟩
  rw [hPE] at HE ⊢
  generalize writeF l = R at *
  obtain ⟨ct, hct⟩ : ∃ ct, checkT l = ct := ⟨_, rfl⟩
  rw [hct] at HCK HW HOK
  obtain ⟨ca, ce⟩ := ct
  simp only at HCK HW HOK
  clear hr hV hPE hct
  go_enter Tryz.func9, Tryz.ntmps9
  go_wp2_with fail
  refine HCK.out.mono ?_
  rintro e w1 ⟨rfl, hb⟩
  have HB1 := Aside0.mk hb
  clear hb HCK
  by_cases h0 : ce = 0
  case neg =>
    have hne : (ce != 0) = true := bne_iff_ne.2 h0
    have HY : Aside0 (R = ([], ca, ce)) := ⟨by rw [HW.out, if_pos h0]⟩
    clear HW HOK
    go_wp2_with fail
    go_ret3
    rw [HE.out, HY.out]
    exact ⟨none, 0, rfl, Kd.R_nil _ _ _ _ _, HB1.out⟩
  case pos =>
    subst h0
    have HY : Aside0 (R = volG l l.length 0 []) := ⟨by rw [HW.out, if_neg (fun e => e rfl)]⟩
    have hl := (HOK.out rfl).1
    have HM := Aside0.mk (HOK.out rfl).2
    clear HW HOK
    have HT1 : Aside0 (Tape (w1.alloc (.cells #[.slice none 0 0] 74)) w1.heap.size w.heap.size (.slice none 0 0) []) := ⟨Blk.new w1 _ _, Kd.R_nil _ _ _ _ _⟩
    have HB2 := Aside0.mk (below_alloc HB1.out (.cells #[.slice none 0 0] 74))
    have HTB := Aside0.mk HB1.out.size
    obtain ⟨T, hT⟩ : ∃ T, w1.heap.size = T := ⟨_, rfl⟩
    rw [hT] at HT1 HTB
    have hTT := Aside0.mk hT
    clear hT
    go_wp2_with fail
    rw [hTT.out]
    generalize w1.alloc (.cells #[.slice none 0 0] 74) = w2 at *
    clear hTT HB1
    go_loopw [21] (fun u X => ∃ (i : Nat) (acc : List Int) (v : Value), i ≤ l.length ∧ acc.length ≤ 131072 ∧ u = .int .i64 i ∧ Aside0 (Tape X T w.heap.size v acc) ∧ Aside0 (Below w.heap.size w X) ∧ Aside0 (R = volG l (l.length - i) i acc)) (fun u _ => l.length - (intOf u).toNat)
    case atStart => exact ⟨0, [], _, Nat.zero_le _, by simp, rfl, HT1, HB2, HY⟩
    case round =>
      clear HT1 HB2 HY
      rename World => X
      obtain ⟨i, acc, v, hi, hal, rfl, HT, HB, HY⟩ := hrel
      by_cases hlt : i < l.length
      · have HY2 : Aside0 (R = if 131072 < (acc ++ piecesF (itm l i)).length + 1024 then ([], (i : Int), 2) else volG l (l.length - (i + 1)) (i + 1) (acc ++ piecesF (itm l i))) := ⟨by rw [HY.out, show l.length - i = (l.length - (i + 1)) + 1 by omega]; rfl⟩
        obtain ⟨ad, A4, c4, e, h0, h1, h2, h3, h4, h5, h6, h7⟩ := cells_I HR.out hlt
        obtain ⟨ad', A4', c4', e', g0, g1, g2, g3, g4, g5, _, _⟩ := cells_I (Kd.C_below HR.out HB.out) hlt
        subst e
        have hw4 : X.cell? ⟨(ad.add (i * 6)).block, (ad.add (i * 6)).off + 4, none⟩ = some (.slice A4 (itm l i).f4.length c4) := pw_cell_below HB.out h4
        cases e'
        have e9 := g4.symm.trans hw4
        cases e9
        have HC7 := Aside0.mk h7
        have hm0 := HM.out i hlt
        have hpl := pieces_len hm0
        have hbl := World.block_lt_of_cell? _ _ g0
        clear h0 h1 h2 h3 h4 h5 h7 hw4
        have HIT := Aside0.mk (fun (W : World) hT hB => item_any (T := T) (v0 := v) (l := acc) (itm l i) hm0 A4 c4 i0 w W hT HTB.out hB HV.out HC7.out h6 (by omega))
        generalize piecesF (itm l i) = pc at *
        clear HY hm0
        obtain ⟨x, hx⟩ : ∃ x, itm l i = x := ⟨_, rfl⟩
        rw [hx] at g0 g1 g2 g3 g4 g5 HIT h6
        clear hx HC7
        obtain ⟨p, k, m, t, bd, q⟩ := x
        simp only at g0 g1 g2 g3 g4 g5 HIT h6
        have HT2 := Aside0.mk (HT.out.below (below_alloc (Below.refl _ X) (.cells #[.string p, .int .u8 k, .int .i64 m, .int .i64 t, .slice A4 bd.length c4, .string q] 43)))
        have HB2 := Aside0.mk (below_alloc HB.out (.cells #[.string p, .int .u8 k, .int .i64 m, .int .i64 t, .slice A4 bd.length c4, .string q] 43))
        clear HT HB
        go_wp2_with fail
        refine (HIT.out _ HT2.out HB2.out).mono ?_
        rintro e X2 ⟨rfl, v2, hz2⟩
        have HT3 := Aside0.mk hz2.tape
        have HB3 := Aside0.mk hz2.bel
        have hlen : (acc ++ pc).length ≤ 400000 := by rw [List.length_append]; omega
        obtain ⟨ac2, hac2⟩ : ∃ ac2, acc ++ pc = ac2 := ⟨_, rfl⟩
        rw [hac2] at HT3 HY2 hlen
        clear hz2 HIT HT2 HB2 hac2 g0 g1 g2 g3 g4 g5
        go_wp2_with fail
        refine (len_tape X2 HT3.out).mono ?_
        rintro e X3 ⟨rfl, hb⟩
        have HT4 := Aside0.mk (HT3.out.below hb)
        have HB4 := Aside0.mk (below_step HB3.out hb)
        clear hb HT3 HB3
        by_cases hbig : 131072 < ac2.length + 1024
        · have HZ : Aside0 (R = ([], (i : Int), 2)) := ⟨by rw [HY2.out, if_pos hbig]⟩
          have hd : decide ((131072 : Int) < (ac2.length : Int) + 1024) = true := decide_eq_true (by omega)
          clear HY2 hbig
          go_wp2_with fail
          go_ret3
          rw [HE.out, HZ.out]
          exact ⟨none, 0, rfl, Kd.R_nil _ _ _ _ _, HB4.out⟩
        · have HZ : Aside0 (R = volG l (l.length - (i + 1)) (i + 1) ac2) := ⟨by rw [HY2.out, if_neg hbig]⟩
          have hd : decide ((131072 : Int) < (ac2.length : Int) + 1024) = false := decide_eq_false (by omega)
          have hle : ac2.length ≤ 131072 := by omega
          clear HY2 hbig
          go_wp2_with fail
          go_roundw
          case rel => exact ⟨i + 1, ac2, v2, by omega, hle, by go_num, HT4, HB4, HZ⟩
          case measure => simp [intOf]; omega
      · obtain rfl : i = l.length := by omega
        have HZ : Aside0 (R = (acc ++ zs 1024, 0, 0)) := ⟨by rw [HY.out, Nat.sub_self]; rfl⟩
        obtain ⟨A0, c0, rfl⟩ := Kd.R_slice HT.out.2
        have k0 : X.cell? ⟨T, 0, none⟩ = some (.slice A0 acc.length c0) := (Blk.cell HT.out.1 0).trans rfl
        have hlT := Blk.lt HT.out.1
        clear HY
        obtain ⟨n, hn⟩ : ∃ n : Nat, n = 1024 := ⟨_, rfl⟩
        obtain ⟨X2, hmk, hsz2, hbe2, hC2⟩ := make_n n (by omega) X.drew
        have hC1 : Kd.C (Kd.int .u8) X2 A0 acc.length acc := by
          obtain ⟨A', c', e3, hc, hC⟩ := Kd.R_reads HT.out.2
          cases e3
          exact Kd.C_below hC ((below_drew (Below.refl X.heap.size X)).trans hbe2)
        have hcc : acc.length ≤ c0 := by
          obtain ⟨A', c', e3, hc, hC⟩ := Kd.R_reads HT.out.2
          cases e3
          exact hc
        have hz := zs_length n
        obtain ⟨zz, hzz⟩ : ∃ zz, zs n = zz := ⟨_, rfl⟩
        rw [hzz] at hz hC2
        have HZZ : Aside0 (zs 1024 = zz) := ⟨by rw [← hn]; exact hzz⟩
        have h2 := C_two 24 (y := zz) (c2 := n) hC1 hcc (by rw [hz]; exact hC2) (Nat.le_of_eq hz)
        rw [hz] at h2
        have hsl : sumLen [acc, zz] ≤ 1000000 := by simp only [sumLen, List.map_cons, List.map_nil, List.sum_cons, List.sum_nil, hz]; omega
        have hcf : [acc, zz].flatten = acc ++ zz := by simp
        have hcc2 := concat_any (some ⟨X2.heap.size, 0, none⟩) 2 [acc, zz] (by show 2 ≤ 1000; omega) hsl _ h2
        rw [hcf] at hcc2
        have HCC : Aside0 (Calls Tryz.prog 31 #[.slice (some ⟨X2.heap.size, 0, none⟩) 2 2] (X2.alloc (.cells #[.slice A0 acc.length c0, .slice (some ⟨X.heap.size, 0, none⟩) n n] 24)) fun e W' => ∃ A' c', e = .returned (.slice A' (acc ++ zz).length c') ∧ RB W' (X2.alloc (.cells #[.slice A0 acc.length c0, .slice (some ⟨X.heap.size, 0, none⟩) n n] 24)).heap.size (.slice A' (acc ++ zz).length c') (acc ++ zz) ∧ Below (X2.alloc (.cells #[.slice A0 acc.length c0, .slice (some ⟨X.heap.size, 0, none⟩) n n] 24)).heap.size (X2.alloc (.cells #[.slice A0 acc.length c0, .slice (some ⟨X.heap.size, 0, none⟩) n n] 24)) W') := ⟨hcc2⟩
        have HBB : Aside0 (Below w.heap.size w (X2.alloc (.cells #[.slice A0 acc.length c0, .slice (some ⟨X.heap.size, 0, none⟩) n n] 24))) := ⟨below_alloc ((below_drew HB.out).trans (hbe2.mono HB.out.size)) _⟩
        have HLZ : Aside0 ((acc ++ zz).length = (acc ++ zs 1024).length) := ⟨by rw [HZZ.out]⟩
        have HSZ := Aside0.mk hsz2
        have kX2 : X2.cell? ⟨T, 0, none⟩ = some (.slice A0 acc.length c0) := pw_cell_below (w := X) ((below_drew (Below.refl X.heap.size X)).trans hbe2) k0
        clear h2 hC1 hC2 hcc hbe2 hz hzz hsl hsz2 hcc2 hcf
        have hmk2 : (Instr.makeSlice 24 (.int .i64 1024) (.int .i64 1024)).run Tryz.prog X.drew = .ok (.slice (some ⟨X.drew.heap.size, 0, none⟩) n n) X2 := by rw [← hmk, hn]; rfl
        clear hmk
        have HN := Aside0.mk hn
        clear hn
        have hmk3 : (Instr.makeSlice 24 (.int .i64 1024) (.int .i64 1024)).run Tryz.prog X.drew = .ok (.slice (some ⟨X.heap.size, 0, none⟩) n n) X2 := hmk2
        clear hmk2
        go_wp2_with fail
        go_region_held3 (fun w' => w'.cell? ⟨T, 0, none⟩ = some (.slice A0 acc.length c0)) (first | go_keep | assumption | (exact pw_cell_below hb5 (cell_alloc_l _ kX2))) (first | (go_at_call 31; refine HCC.out.mono ?_; rintro e X5 ⟨A5, c5, rfl, ho5, hb5⟩))
        go_wp2_with fail
        go_ret3
        rw [HE.out, HZ.out]
        simp only
        rw [HZZ.out]
        exact ⟨A5, c5, by rw [List.length_append]; rfl, Kd.R_lower ho5 HBB.out.size, HBB.out.trans (hb5.mono HBB.out.size)⟩
end Go.Proofs.YtopehfjohifpnaaGreatDoor.Mine
end
section
namespace Go.Proofs.YtopehfjohifpnaaGreatDoor.Doc
open Go.RowKit Go.Proofs.YtopehfjohifpnaaGreatDoorW.PrintWords Go.Proofs.YtopehfjohifpnaaGreatDoorW.PrintLast Go.Proofs.YtopehfjohifpnaaGreatDoorW.PrintMore
attribute [local go_sem] max2_int min2_int max_two min_two max_three min_three max_four min_four
set_option linter.unusedVariables false
set_option linter.unusedSimpArgs false
def tabularyref12_Filled.l0 : Nat → List Int → Option (List Int)
 | 0, _ => none
 | k + 1, x3 => if ((x3.length : Int) % 512) = 0 then (some x3) else (if x3.length < 140737488355328 then (tabularyref12_Filled.l0 k (x3 ++ [0])) else (none))
def tabularyref12_Filled.f (k : Nat) (l0 : List Int) : Option (List Int) := if ([] : List Int).length + l0.length < 140737488355328 then (tabularyref12_Filled.l0 k (([] : List Int) ++ l0)) else (none)
theorem tabularyref12_Filled.mono_l : ∀ k, (∀ y0, LeO (tabularyref12_Filled.l0 k y0) (tabularyref12_Filled.l0 (k + 1) y0))
 | 0 => fun _ r h => by simp [tabularyref12_Filled.l0] at h
 | k + 1 => by
  have ih0 := tabularyref12_Filled.mono_l k
  ·intro y0
   unfold tabularyref12_Filled.l0
   repeat' first
   | (with_reducible exact ih0 _)
   | (with_reducible exact LeO.refl _)
   | (with_reducible exact LeO.none _)
   | (with_reducible refine LeO.ite ?_ ?_)
   | (with_reducible refine LeO.bind ?_ (fun _ => ?_))
theorem tabularyref12_Filled.mono : ∀ a0 k, LeO (tabularyref12_Filled.f k a0) (tabularyref12_Filled.f (k + 1) a0) := by
 intro a0 k
 have ih0 := tabularyref12_Filled.mono_l k
 unfold tabularyref12_Filled.f
 repeat' first
   | (with_reducible exact ih0 _)
   | (with_reducible exact LeO.refl _)
   | (with_reducible exact LeO.none _)
   | (with_reducible refine LeO.ite ?_ ?_)
   | (with_reducible refine LeO.bind ?_ (fun _ => ?_))
set_option maxHeartbeats 8000000 in
set_option maxRecDepth 100000 in
theorem tabularyref12_Filled.calls (k : Nat) (A0 : Option Addr) (c0 : Nat) (l0 : List Int) (r : List Int) (w : World) (hr0 : Kd.C (Kd.int .u8) w A0 l0.length l0) (hc0 : l0.length ≤ c0) (h : tabularyref12_Filled.f k l0 = some r) :
  Calls Tryz.prog 62 #[.slice A0 l0.length c0] w fun e w' => ∃ v0_ : Value, e = .returned (v0_) ∧ Kd.R (Kd.int .u8) 5 w' w.heap.size (fun _ => True) v0_ r ∧ Below w.heap.size w w' := by
 have HR0 := Aside0.mk hr0
 have HC0 := Aside0.mk hc0
 clear hr0 hc0
 have HB := Aside0.mk (Below.refl w.heap.size w)
 have H : (if ([] : List Int).length + l0.length < 140737488355328 then (tabularyref12_Filled.l0 k (([] : List Int) ++ l0)) else (none)) = some r := h
 clear h
 by_cases c2 : ([] : List Int).length + l0.length < 140737488355328
 ·rw [if_pos c2] at H
  have LMc2 := Aside0.mk c2
  clear c2
  obtain ⟨y405, hy405⟩ : ∃ y_ : List Int, y_ = (([] : List Int) ++ l0) := ⟨_, rfl⟩
  replace H : (tabularyref12_Filled.l0 k y405) = some r := by first | (rw [hy405]; with_reducible exact H) | (have H2_ := (Option.bind_some _ _).symm.trans H; rw [hy405]; with_reducible exact H2_) | (have H2_ := (Option.bind_some _ _).symm.trans H; with_reducible exact H2_) | with_reducible exact H | (rw [hy405]; exact H) | exact H
  have Ny405 := Aside0.mk hy405
  clear hy405
  have H' := Aside0.mk H
  clear H
  go_enter Tryz.func62, Tryz.ntmps62
  go_wp2_with (first | ((with_reducible refine gate_builtin (b := .append) (xs := #[.tmp 4, .tmp 5]) rfl ?_); at_builtin; refine Kd.R_append_rows (Kd.int .u8) (w0 := w) w.heap.size rfl (.tmp 4) (.tmp 5) 24 5 (.int .u8 0) 1 rfl Tryz.underlying24 info5 rfl (by decide) (by omega) (.slice none 0 0) ([] : List Int) l0 _ _ _ (fun _ => True) (fun _ => False) rfl rfl ?aO ?aR (fun _ _ h => h) (fun _ h => h.elim) ?aF ?aB ?aS ?aL ?_; (case aR => repeat (first | exact HR0.out | (with_reducible refine Kd.C_alloc ?_ _) | (with_reducible refine Kd.C_drewN ?_ _) | (with_reducible refine Kd.C_drew ?_))); (case aB => exact (hb_)); (case aF => exact (fun _ _ => trivial)); (case aO => exact ((Kd.R_nil _ _ _ _ (fun _ => True)))); (case aS => exact (below_size (hb_))); (case aL => have := LMc2.out; omega); intro v406 w3 ho hb hg hat; rw [← Ny405.out] at ho; have n0_ := Aside0.mk (hb); have n1_ := Aside0.mk (ho); clear HB; have HB := n0_; have HO407 := n1_; clear n0_ n1_; clear ho hb hg hat))
  go_loopg [3] k (fun kq v3 w' => ∃ (x3_1 : List Int), Aside0 (tabularyref12_Filled.l0 kq x3_1 = some r) ∧ Aside0 (kq ≤ k) ∧ Aside0 (Kd.R (Kd.int .u8) 5 w' w.heap.size (fun _ => True) v3 x3_1) ∧ Aside0 (Below w.heap.size w w'))
  case atStart => exact ⟨(y405), H', ⟨Nat.le_refl _⟩, ⟨by (with_reducible repeat (first | apply Kd.R_alloc | apply Kd.R_drewN | apply Kd.R_drew)); exact HO407.out⟩, ⟨hb_⟩⟩
  case round =>
   clear H'
   try clear c2
   try clear p2
   obtain ⟨x3_1, HA, HK1, HO_3, HB⟩ := hrel
   cases gk with
   | zero => exact absurd HA.out (by simp [tabularyref12_Filled.l0])
   | succ k1 =>
    have H := HA.out
    clear HA
    simp only [tabularyref12_Filled.l0] at H
    by_cases c4 : ((x3_1.length : Int) % 512) = 0
    ·rw [if_pos c4] at H
     have c4b0 : (((x3_1.length : Int) % 512) == 0) = true := beq_iff_eq.mpr c4
     have c4b1 : (((x3_1.length : Int) % 512) != 0) = false := bne_eq_false_iff_eq.mpr c4
     clear c4
     obtain rfl := Option.some.inj H
     obtain ⟨Ao5, co5, eo5⟩ := Kd.R_slice HO_3.out
     subst eo5
     go_wp2
     go_ret
     exact ⟨_, er_, by (with_reducible repeat (first | apply Kd.R_alloc | apply Kd.R_drewN | apply Kd.R_drew)); exact HO_3.out, hb_⟩
    ·rw [if_neg c4] at H
     have c4b0 : (((x3_1.length : Int) % 512) == 0) = false := beq_eq_false_iff_ne.mpr c4
     have c4b1 : (((x3_1.length : Int) % 512) != 0) = true := bne_iff_ne.mpr c4
     by_cases c6 : x3_1.length < 140737488355328
     ·rw [if_pos c6] at H
      have LMc6 := Aside0.mk c6
      clear c6
      obtain ⟨y408, hy408⟩ : ∃ y_ : List Int, y_ = (x3_1 ++ [0]) := ⟨_, rfl⟩
      replace H : (tabularyref12_Filled.l0 k1 y408) = some r := by first | (rw [hy408]; with_reducible exact H) | (have H2_ := (Option.bind_some _ _).symm.trans H; rw [hy408]; with_reducible exact H2_) | (have H2_ := (Option.bind_some _ _).symm.trans H; with_reducible exact H2_) | with_reducible exact H | (rw [hy408]; exact H) | exact H
      have Ny408 := Aside0.mk hy408
      clear hy408
      have H' := Aside0.mk H
      clear H
      obtain ⟨Ao7, co7, eo7⟩ := Kd.R_slice HO_3.out
      subst eo7
      go_wp2_with (first | ((with_reducible refine gate_builtin (b := .append) (xs := #[.tmp 11, .tmp 12]) rfl ?_); at_builtin; refine Kd.R_append (Kd.int .u8) (w0 := w) w.heap.size rfl (.tmp 11) (.tmp 12) 24 5 (.int .u8 0) 1 rfl Tryz.underlying24 info5 rfl (by decide) (by omega) (.slice Ao7 x3_1.length co7) x3_1 0 [.int .u8 0] (fun _ => True) (fun _ => False) rfl rfl ?aP (fun _ hk => hk.elim) ?aF ?aO ?aB ?aS ?aL ?_; (case aP => exact rfl); (case aB => exact (hb_)); (case aF => exact (fun _ _ => trivial)); (case aO => exact (by (with_reducible repeat (first | apply Kd.R_alloc | apply Kd.R_drewN | apply Kd.R_drew)); exact HO_3.out)); (case aS => exact (below_size (hb_))); (case aL => have := LMc6.out; omega); intro v409 w8 ho hb hg hat; rw [← Ny408.out] at ho; have n0_ := Aside0.mk (hb); have n1_ := Aside0.mk (ho); clear HB; clear HO_3; have HB := n0_; have HO410 := n1_; clear n0_ n1_; clear ho hb hg hat))
      go_roundg k1
      case measure => have := HK1.out; omega
      case rel => exact ⟨(y408), H', ⟨by have := HK1.out; omega⟩, ⟨by (with_reducible repeat (first | apply Kd.R_alloc | apply Kd.R_drewN | apply Kd.R_drew)); exact HO410.out⟩, ⟨hb_⟩⟩
     ·rw [if_neg c6] at H
      exact absurd H (by simp)
 ·rw [if_neg c2] at H
  exact absurd H (by simp)
def tabularyref12_typed.f (a0 : Int) : Option (Int) := if a0 = 3 then (some 49) else (if a0 = 4 then (some 50) else (if a0 = 2 then (some 53) else (some 48)))
set_option maxHeartbeats 8000000 in
set_option maxRecDepth 100000 in
theorem tabularyref12_typed.calls (a0 : Int) (r : Int) (w : World) (h : tabularyref12_typed.f a0 = some r) :
  Calls Tryz.prog 63 #[.int .u8 a0] w fun e w' => e = .returned (.int .u8 r) ∧ Drawn0 w w' := by
 have H : (if a0 = 3 then (some 49) else (if a0 = 4 then (some 50) else (if a0 = 2 then (some 53) else (some 48)))) = some r := h
 clear h
 by_cases c2 : a0 = 3
 ·rw [if_pos c2] at H
  have c2b0 : (a0 == 3) = true := beq_iff_eq.mpr c2
  have c2b1 : (a0 != 3) = false := bne_eq_false_iff_eq.mpr c2
  clear c2
  obtain rfl := Option.some.inj H
  go_enter Tryz.func63, Tryz.ntmps63
  go_wp2
  go_ret
  exact ⟨by first | rfl | (simp; done) | (simp [*]; done), by repeat (first | exact Drawn0.refl _ | apply Drawn0.step)⟩
 ·rw [if_neg c2] at H
  have c2b0 : (a0 == 3) = false := beq_eq_false_iff_ne.mpr c2
  have c2b1 : (a0 != 3) = true := bne_iff_ne.mpr c2
  by_cases c3 : a0 = 4
  ·rw [if_pos c3] at H
   have c3b0 : (a0 == 4) = true := beq_iff_eq.mpr c3
   have c3b1 : (a0 != 4) = false := bne_eq_false_iff_eq.mpr c3
   clear c3
   obtain rfl := Option.some.inj H
   go_enter Tryz.func63, Tryz.ntmps63
   go_wp2
   go_ret
   exact ⟨by first | rfl | (simp; done) | (simp [*]; done), by repeat (first | exact Drawn0.refl _ | apply Drawn0.step)⟩
  ·rw [if_neg c3] at H
   have c3b0 : (a0 == 4) = false := beq_eq_false_iff_ne.mpr c3
   have c3b1 : (a0 != 4) = true := bne_iff_ne.mpr c3
   by_cases c4 : a0 = 2
   ·rw [if_pos c4] at H
    have c4b0 : (a0 == 2) = true := beq_iff_eq.mpr c4
    have c4b1 : (a0 != 2) = false := bne_eq_false_iff_eq.mpr c4
    clear c4
    obtain rfl := Option.some.inj H
    go_enter Tryz.func63, Tryz.ntmps63
    go_wp2
    go_ret
    exact ⟨by first | rfl | (simp; done) | (simp [*]; done), by repeat (first | exact Drawn0.refl _ | apply Drawn0.step)⟩
   ·rw [if_neg c4] at H
    have c4b0 : (a0 == 2) = false := beq_eq_false_iff_ne.mpr c4
    have c4b1 : (a0 != 2) = true := bne_iff_ne.mpr c4
    obtain rfl := Option.some.inj H
    go_enter Tryz.func63, Tryz.ntmps63
    go_wp2
    go_ret
    exact ⟨by first | rfl | (simp; done) | (simp [*]; done), by repeat (first | exact Drawn0.refl _ | apply Drawn0.step)⟩
end Go.Proofs.YtopehfjohifpnaaGreatDoor.Doc
end
section
set_option linter.unusedSimpArgs false
set_option linter.unusedVariables false
namespace Go.Proofs.YtopehfjohifpnaaGreatDoor.Mine
open Go.RowKit Go.Shelf Go.Proofs.YtopehfjohifpnaaGreatDoorW.PrintWords Go.Proofs.YtopehfjohifpnaaGreatDoorW.PrintLast Go.Proofs.YtopehfjohifpnaaGreatDoorW.PrintMore Go.Proofs.YtopehfjohifpnaaGreatDoor.Turn Go.Proofs.YtopehfjohifpnaaGreatDoor.Doc
theorem zs_cons (n : Nat) : zs (n + 1) = 0 :: zs n := rfl
theorem filled_l (n : Nat) : ∀ (K : Nat) (x : List Int), (512 - x.length % 512) % 512 = n → n < K → x.length + n ≤ 2000000 → tabularyref12_Filled.l0 K x = some (x ++ zs n) := by
  induction n with
  | zero =>
    intro K x h hK hl
    obtain ⟨K, rfl⟩ : ∃ k, K = k + 1 := ⟨K - 1, by omega⟩
    unfold tabularyref12_Filled.l0
    rw [if_pos (by have : x.length % 512 = 0 := by omega
                   omega)]
    simp [zs]
  | succ n ih =>
    intro K x h hK hl
    obtain ⟨K, rfl⟩ : ∃ k, K = k + 1 := ⟨K - 1, by omega⟩
    unfold tabularyref12_Filled.l0
    rw [if_neg (by have : x.length % 512 ≠ 0 := by omega
                   omega), if_pos (by omega)]
    rw [ih K (x ++ [0]) (by simp only [List.length_append, List.length_cons, List.length_nil]; omega) (by omega) (by simp only [List.length_append, List.length_cons, List.length_nil]; omega), zs_cons, List.append_assoc]
    rfl
theorem filled_f (b : List Int) (K : Nat) (hK : 600 ≤ K) (hl : b.length ≤ 1000000) : tabularyref12_Filled.f K b = some (fillL b) := by
  unfold tabularyref12_Filled.f
  rw [if_pos (by simp only [List.length_nil]; omega), List.nil_append, filled_l _ K b rfl (by omega) (by omega)]
  rfl
theorem filled_any (A : Option Addr) (c : Nat) (b : List Int) (hl : b.length ≤ 1000000) (hc : b.length ≤ c) (W : World) (hC : Kd.C (Kd.int .u8) W A b.length b) :
    Calls Tryz.prog 62 #[.slice A b.length c] W fun e W' => ∃ A' c', e = .returned (.slice A' (fillL b).length c') ∧ (fillL b).length ≤ c' ∧ Kd.C (Kd.int .u8) W' A' (fillL b).length (fillL b) ∧ Below W.heap.size W W' := by
  refine (tabularyref12_Filled.calls 600 A c b (fillL b) W hC hc (filled_f b 600 (Nat.le_refl _) hl)).mono ?_
  rintro e W' ⟨v, rfl, ho, hb⟩
  obtain ⟨A', c', rfl, hc', hC'⟩ := Kd.R_reads ho
  exact ⟨A', c', rfl, hc', hC', hb⟩
theorem headR_any (nm pf : ByteArray) (md sz tm ty : Int) (lk : ByteArray) (W : World) :
    Calls Tryz.prog 61 #[.agg #[.string nm, .string pf, .int .i64 md, .int .i64 sz, .int .i64 tm, .int .u8 ty, .string lk]] W fun e W' => ∃ A' c', e = .returned (.tuple #[.slice A' (putH nm pf md sz tm ty lk).1.length c', .int .i64 (putH nm pf md sz tm ty lk).2]) ∧ (putH nm pf md sz tm ty lk).1.length ≤ c' ∧ Kd.C (Kd.int .u8) W' A' (putH nm pf md sz tm ty lk).1.length (putH nm pf md sz tm ty lk).1 ∧ Below W.heap.size W W' := by
  refine (tabularyref10_Put.calls 1100 nm pf md sz tm ty lk _ _ W (putHR_f nm pf md sz tm ty lk 1100 (Nat.le_refl _))).mono ?_
  rintro e W' ⟨v, rfl, ho, hb⟩
  obtain ⟨A', c', rfl, hc', hC'⟩ := Kd.R_reads ho
  exact ⟨A', c', rfl, hc', hC', hb⟩
theorem pairsR_any (p : ByteArray) (k m t : Int) (A : Option Addr) (c : Nat) (b : List Int) (q : ByteArray) (hc : b.length ≤ c) (W : World) (hC : Kd.C (Kd.int .u8) W A b.length b) :
    Calls Tryz.prog 59 #[.agg #[.string p, .int .u8 k, .int .i64 m, .int .i64 t, .slice A b.length c, .string q]] W fun e W' => ∃ A' c', e = .returned (.tuple #[.slice A' (pairsF p k m t b.length q).1.length c', .int .i64 (pairsF p k m t b.length q).2]) ∧ Kd.C k64 W' A' (pairsF p k m t b.length q).1.length (pairsF p k m t b.length q).1 ∧ Below W.heap.size W W' := by
  refine (tabularyref12_Pairs.calls 7000 p k m t A c b q _ _ W hC hc (pairs_f p k m t b q 7000 (Nat.le_refl _))).mono ?_
  rintro e W' ⟨v, rfl, ho, hb⟩
  obtain ⟨A', c', rfl, hc', hC'⟩ := Kd.R_reads ho
  exact ⟨A', c', rfl, hC', hb⟩
set_option maxRecDepth 100000 in
theorem typed_any (k : Int) (W : World) : Calls Tryz.prog 63 #[.int .u8 k] W fun e W' => e = .returned (.int .u8 (typF k)) ∧ W' = W := by
  have HT : Aside0 (typF k = if k = 3 then 49 else if k = 4 then 50 else if k = 2 then 53 else 48) := ⟨rfl⟩
  generalize typF k = r at *
  by_cases h3 : k = 3
  · have hr : r = 49 := by rw [HT.out, if_pos h3]
    subst h3 hr
    go_enter Tryz.func63, Tryz.ntmps63
    go_wp2_with fail
    go_ret
    exact ⟨rfl, rfl⟩
  by_cases h4 : k = 4
  · have hr : r = 50 := by rw [HT.out, if_neg h3, if_pos h4]
    subst h4 hr
    go_enter Tryz.func63, Tryz.ntmps63
    go_wp2_with fail
    go_ret
    exact ⟨rfl, rfl⟩
  by_cases h2 : k = 2
  · have hr : r = 53 := by rw [HT.out, if_neg h3, if_neg h4, if_pos h2]
    subst h2 hr
    go_enter Tryz.func63, Tryz.ntmps63
    go_wp2_with fail
    go_ret
    exact ⟨rfl, rfl⟩
  have hr : r = 48 := by rw [HT.out, if_neg h3, if_neg h4, if_neg h2]
  subst hr
  have b3 : (k == 3) = false := beq_eq_false_iff_ne.2 h3
  have b4 : (k == 4) = false := beq_eq_false_iff_ne.2 h4
  have b2 : (k == 2) = false := beq_eq_false_iff_ne.2 h2
  go_enter Tryz.func63, Tryz.ntmps63
  go_wp2_with fail
  go_ret
  exact ⟨rfl, rfl⟩
theorem cutR_any (p : ByteArray) (W : World) : Calls Tryz.prog 64 #[.string p] W fun e W' => e = .returned (.bool ((splitF p).2.2 == 0)) ∧ Below W.heap.size W W' :=
  tabularyref12_cut.calls 2000 p _ W (cut_f p 2000 (Nat.le_refl _))
theorem splitR_any (p : ByteArray) (W : World) : Calls Tryz.prog 65 #[.string p] W fun e W' => e = .returned (.tuple #[.string (splitF p).1, .string (splitF p).2.1, .int .i64 (splitF p).2.2]) ∧ Below W.heap.size W W' :=
  tabularyref08_Split.calls 2000 p _ _ _ W (split_f p 2000 (Nat.le_refl _))
theorem split_none (p : ByteArray) (h : (splitF p).2.2 ≠ 0) : (splitF p).1 = NoB ∧ (splitF p).2.1 = NoB := by
  unfold splitF at h ⊢
  split at h
  · rename_i h1; rw [if_pos h1]; exact ⟨rfl, rfl⟩
  · rename_i h1
    rw [if_neg h1]
    split at h
    · exact absurd rfl h
    · rename_i h2
      rw [if_neg h2]
      split at h
      · rename_i h3; rw [if_pos h3]; exact ⟨rfl, rfl⟩
      · exact absurd rfl h
set_option maxRecDepth 100000 in
set_option maxHeartbeats 8000000 in
theorem sizeW_any (A : Option Addr) (c : Nat) (l : List S43) (i0 : Int) (w : World) (hr : Kd.C k43 w A l.length l) (hV : Vars w i0) :
    Calls Tryz.prog 10 #[.slice A l.length c] w fun e w' => e = .returned (.tuple #[.int .i64 (writeF l).1.length, .int .i64 (writeF l).2.2]) ∧ Below w.heap.size w w' := by
  have HWA := Aside0.mk (write_any A c l i0 w hr hV)
  generalize writeF l = R at *
  obtain ⟨vb, va, ve⟩ := R
  unfold EndsWrite at HWA
  simp only at HWA ⊢
  clear hr hV
  go_enter Tryz.func10, Tryz.ntmps10
  go_wp2_with fail
  refine HWA.out.mono ?_
  rintro e w1 ⟨A1, c1, rfl, ho, hb⟩
  have HB := Aside0.mk hb
  clear ho hb HWA
  go_wp2_with fail
  go_ret2
  exact ⟨rfl, HB.out⟩
end Go.Proofs.YtopehfjohifpnaaGreatDoor.Mine
end
