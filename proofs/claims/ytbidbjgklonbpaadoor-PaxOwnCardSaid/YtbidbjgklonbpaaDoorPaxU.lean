/- pax: Over. -/
import Derived.Test.YtbidbjgklonbpaaDoorPaxV
import Derived.Test.YtbidbjgklonbpaaDoorPaxT
import Derived.Test.YtbidbjgklonbpaaDoorIter
import Derived.Maps.OwnOps
import Derived.StringKeys
set_option linter.unusedSimpArgs false
set_option linter.unusedVariables false
namespace Go.Proofs.YtbidbjgklonbpaaDoor.Mine
open Go.RowKit Go.Maps Go.Proofs.YtbidbjgklonbpaaDoorW.PrintWords Go.Proofs.YtbidbjgklonbpaaDoorW.PrintLast Go.Proofs.YtbidbjgklonbpaaDoorW.PrintMore Go.Proofs.YtbidbjgklonbpaaDoor.Turn Go.Proofs.YtbidbjgklonbpaaDoor.PPaxGets

def OverW (w W : World) (c0 c1 : Value) (ps : List S23) : Prop :=
  Below w.heap.size w W ∧ Blk W (w.heap.size + 1) #[c0, c1] 33 ∧ w.heap.size + 2 ≤ W.heap.size ∧ ∃ D : DataW Unit, W.ownsMap Tryd.prog 9 pairE w.heap.size ps.length D ∧ KV D ps
theorem owns_below {w W : World} {b n : Nat} {D : DataW Unit} (h : w.ownsMap Tryd.prog 9 pairE b n D) (hb : Below w.heap.size w W) : W.ownsMap Tryd.prog 9 pairE b n D := by
  have hlt := h.lt
  obtain ⟨es, clock, h1, h2⟩ := h
  exact ⟨es, clock, (hb.block b hlt).trans h1, h2⟩
theorem OverW.step {w W W' : World} {c0 c1 : Value} {ps : List S23} (h : OverW w W c0 c1 ps) (hb : Below W.heap.size W W') : OverW w W' c0 c1 ps := by
  obtain ⟨h1, h2, h3, D, h4, h5⟩ := h
  exact ⟨below_step h1 hb, (hb.block _ h2.lt).trans h2, Nat.le_trans h3 hb.size, D, owns_below h4 hb, h5⟩
theorem OverW.put {w W W' : World} {c0 c1 : Value} {ps : List S23} {D : DataW Unit} (h : OverW w W c0 c1 ps) (p : S23) (hk : KV D ps) (ho : W'.ownsMap Tryd.prog 9 pairE w.heap.size (ps.length + 1) (D.put (.string (kB p)) (dP p.f0 p.f1))) (hg : W.grownBy W' (some w.heap.size)) : OverW w W' c0 c1 (ps ++ [p]) := by
  obtain ⟨h1, h2, h3, -⟩ := h
  refine ⟨h1.grown hg h1.size (fun j hj => by cases hj; exact Nat.le_refl _), (hg.block _ h2.lt (by simp)).trans h2, Nat.le_trans h3 hg.size, _, by rw [List.length_append, List.length_singleton]; exact ho, hk.put p⟩

/-- Which list is gone over, and what is then. -/
def OvJ (l m : List S23) (j : Nat) (ps : List S23) : Prop := (j = 0 ∧ ps = []) ∨ (j = 1 ∧ ps = l ∧ (putF l).2.2 = 0) ∨ (j = 2 ∧ ps = l ++ m ∧ (putF l).2.2 = 0 ∧ (putF m).2.2 = 0)
theorem OvJ.next {l m : List S23} {j : Nat} {ps : List S23} (h : OvJ l m j ps) (hj : j < 2) : ∃ x, ((j = 0 ∧ x = l) ∨ (j = 1 ∧ x = m)) ∧ ps.length ≤ 64 ∧ ((putF x).2.2 ≠ 0 → overF l m = ([], (putF x).2.2)) ∧ ((putF x).2.2 = 0 → OvJ l m (j + 1) (ps ++ x) ∧ x.length ≤ 64 ∧ ∀ p ∈ x, fitN p.f0 p.f1 = 0) := by
  rcases h with ⟨rfl, rfl⟩ | ⟨rfl, rfl, h1⟩ | ⟨rfl, _⟩
  · exact ⟨l, .inl ⟨rfl, rfl⟩, by simp, fun h => by unfold overF; rw [if_pos h], fun h => ⟨.inr (.inl ⟨rfl, rfl, h⟩), (putF_ok h).1, good_fit (putF_ok h).2⟩⟩
  · exact ⟨m, .inr ⟨rfl, rfl⟩, (putF_ok h1).1, fun h => by unfold overF; rw [if_neg (by rw [h1]; simp), if_pos h], fun h => ⟨.inr (.inr ⟨rfl, rfl, h1, h⟩), (putF_ok h).1, good_fit (putF_ok h).2⟩⟩
  · omega
theorem OvJ.done {l m : List S23} {j : Nat} {ps : List S23} (h : OvJ l m j ps) (hj : ¬ j < 2) : ps = l ++ m ∧ Good l ∧ Good m ∧ overF l m = if 64 < (mg l m).length then ([], 3) else (mg l m, 0) := by
  rcases h with ⟨rfl, rfl⟩ | ⟨rfl, rfl, h1⟩ | ⟨rfl, h1, h2, h3⟩
  · omega
  · omega
  · refine ⟨h1, (putF_ok h2).2, (putF_ok h3).2, ?_⟩
    unfold overF
    rw [if_neg (by rw [h2]; simp), if_neg (by rw [h3]; simp)]
def EndsOver (w : World) (r : List S23 × Int) (e : Ending) (w' : World) : Prop :=
  Below w.heap.size w w' ∧ ∃ A c B, e = .returned (.tuple #[.slice A r.1.length r.1.length, .int .i64 r.2]) ∧ w.heap.size ≤ B ∧ Kd.R k23 23 w' B (fun k => B ≤ k) (.slice A r.1.length c) r.1
theorem zero23 (w : World) : (zeroValue 23).run Tryd.prog w = .ok (.agg #[.string ⟨#[]⟩, .string ⟨#[]⟩]) w := by kernel_rfl

set_option maxHeartbeats 8000000 in
set_option maxRecDepth 100000 in
theorem over_any (A B : Option Addr) (c c' : Nat) (l m : List S23) (hl : l.length ≤ 4398046511104) (hm : m.length ≤ 4398046511104) (hsl : SmallP l) (hsm : SmallP m) (hc : l.length ≤ c) (hc' : m.length ≤ c') (w : World) (hr : Kd.C k23 w A l.length l) (hr' : Kd.C k23 w B m.length m) (ht : Tab w) :
    Calls Tryd.prog 21 #[.slice A l.length c, .slice B m.length c'] w (EndsOver w (overF l m)) := by
  have hmm := @run_makeMap Tryd.prog
  have HT := Aside0.mk ht
  have HR := Aside0.mk hr
  have HR' := Aside0.mk hr'
  have HSL := Aside0.mk hsl
  have HSM := Aside0.mk hsm
  have HPUT : Aside0 (∀ (x : List S23) (a : Option Addr) (cc : Nat) (W : World), Below w.heap.size w W → SmallP x → x.length ≤ 4398046511104 → Kd.C k23 w a x.length x → Calls Tryd.prog 18 #[.slice a x.length cc] W (EndsPut W (putF x))) := ⟨fun x a cc W hb hs hx hC => put_any a cc x hs hx W (Kd.C_below hC hb) (ht.below hb)⟩
  have HJ0 : Aside0 (OvJ l m 0 []) := ⟨.inl ⟨rfl, rfl⟩⟩
  have HDONE : Aside0 (∀ (j : Nat) (ps : List S23), OvJ l m j ps → ¬ j < 2 → ps = l ++ m ∧ Good l ∧ Good m ∧ overF l m = if 64 < (mg l m).length then ([], 3) else (mg l m, 0)) := ⟨fun j ps h hj => h.done hj⟩
  have HNEXT : Aside0 (∀ (j : Nat) (ps : List S23), OvJ l m j ps → j < 2 → ∃ x, ((j = 0 ∧ x = l) ∨ (j = 1 ∧ x = m)) ∧ ps.length ≤ 64 ∧ ((putF x).2.2 ≠ 0 → overF l m = ([], (putF x).2.2)) ∧ ((putF x).2.2 = 0 → OvJ l m (j + 1) (ps ++ x) ∧ x.length ≤ 64 ∧ ∀ p ∈ x, fitN p.f0 p.f1 = 0)) := ⟨fun j ps h hj => h.next hj⟩
  obtain ⟨X, hX⟩ : ∃ X, overF l m = X := ⟨_, rfl⟩
  rw [hX] at HDONE HNEXT ⊢
  clear hr hr' ht hsl hsm hX
  go_enter Tryd.func21, Tryd.ntmps21
  go_wp2_with fail
  have HO0 : Aside0 (OverW w ((w.alloc (.map #[] 0)).alloc (.cells #[.slice A l.length c, .slice B m.length c'] 33)) (.slice A l.length c) (.slice B m.length c') []) := by
    refine ⟨⟨below_alloc (below_alloc (Below.refl _ _) _) _, ?_, by simp, _, (World.ownsMap_made w Tryd.prog 9 pairE).alloc _, KV.start⟩⟩
    have := Blk.new (w.alloc (.map #[] 0)) #[.slice A l.length c, .slice B m.length c'] 33
    rwa [show (w.alloc (.map #[] 0)).heap.size = w.heap.size + 1 by simp] at this
  generalize (w.alloc (.map #[] 0)).alloc (.cells #[.slice A l.length c, .slice B m.length c'] 33) = W0 at *
  have law : Keyed Tryd.prog 9 := string_keyed Tryd.underlying9
  have LAW := Aside0.mk law
  clear hmm law
  go_loopw [22] (fun v22 wr => ∃ (j : Nat) (ps : List S23), j ≤ 2 ∧ v22 = .int .i64 j ∧ Aside0 (OvJ l m j ps) ∧ Aside0 (OverW w wr (.slice A l.length c) (.slice B m.length c') ps)) (fun v22 _ => 2 - (intOf v22).toNat)
  case atStart => exact ⟨0, [], by omega, rfl, HJ0, HO0⟩
  case round =>
    obtain ⟨j, ps, hj2, rfl, HJ, HO⟩ := hrel
    clear HO0 HJ0
    by_cases hj : j < 2
    case pos =>
      obtain ⟨x, hx, hps, herr, hok⟩ := HNEXT.out j ps HJ.out hj
      have HERR := Aside0.mk herr
      have HOK := Aside0.mk hok
      obtain ⟨Aj, cj, hcell, hCx, hcx, hsx, hlx⟩ : ∃ Aj cj, wr.cell? ⟨w.heap.size + 1, j, none⟩ = some (.slice Aj x.length cj) ∧ Kd.C k23 w Aj x.length x ∧ x.length ≤ cj ∧ SmallP x ∧ x.length ≤ 4398046511104 := by
        have hb := HO.out.2.1
        rcases hx with ⟨rfl, rfl⟩ | ⟨rfl, rfl⟩
        · exact ⟨A, c, (hb.cell 0).trans rfl, HR.out, hc, HSL.out, hl⟩
        · exact ⟨B, c', (hb.cell 1).trans rfl, HR'.out, hc', HSM.out, hm⟩
      have HCX := Aside0.mk hCx
      have HCALL := Aside0.mk (HPUT.out x Aj cj wr HO.out.1 hsx hlx hCx)
      unfold EndsPut at HCALL
      generalize putF x = r at HCALL HERR HOK
      obtain ⟨r1, r2, r3⟩ := r
      simp only at HCALL HERR HOK
      clear herr hok hCx hsx hx
      go_wp2_with fail
      refine HCALL.out.mono ?_
      rintro e w2 ⟨A2, c2, rfl, -, hb2⟩
      have HO2 := Aside0.mk (HO.out.step hb2)
      clear hb2 HCALL
      by_cases h0 : r3 = 0
      case neg =>
        have HY : Aside0 (X = ([], r3)) := ⟨HERR.out h0⟩
        have hne : (r3 != 0) = true := bne_iff_ne.2 h0
        go_wp2_with fail
        go_ret2
        rw [HY.out]
        exact ⟨HO2.out.1, none, 0, w.heap.size, rfl, Nat.le_refl _, Kd.R_nil _ _ _ _ _⟩
      case pos =>
        subst h0
        obtain ⟨hok1, hx64, hokf⟩ := HOK.out rfl
        have HJ2 := Aside0.mk hok1
        have HFX := Aside0.mk hokf
        clear hok1 hokf hcell
        go_wp2_with fail
        go_loopw [37] (fun v37 wr => ∃ t : Nat, t ≤ x.length ∧ v37 = .int .i64 t ∧ Aside0 (OverW w wr (.slice A l.length c) (.slice B m.length c') (ps ++ x.take t))) (fun v37 _ => x.length - (intOf v37).toNat)
        case atStart => exact ⟨0, Nat.zero_le _, rfl, ⟨by rw [List.take_zero, List.append_nil]; exact HO2.out⟩⟩
        case round =>
          clear HO2 HO HJ
          obtain ⟨t, ht, rfl, HI⟩ := hrel
          by_cases htx : t < x.length
          case pos =>
            obtain ⟨ad, e, hx0, hx1⟩ := cell_pair HCX.out HI.out.1 htx hlx
            subst e
            have hf := HFX.out _ (show rdP x t ∈ x from by rw [rdP_get htx]; exact List.getElem_mem htx)
            have HTK : Aside0 (ps ++ x.take t ++ [rdP x t] = ps ++ x.take (t + 1)) := ⟨by rw [List.append_assoc, List.take_succ_eq_append_getElem htx, rdP_get htx]⟩
            obtain ⟨pk, hpk⟩ : ∃ y, (rdP x t).f0 = y := ⟨_, rfl⟩
            obtain ⟨pv, hpv⟩ : ∃ y, (rdP x t).f1 = y := ⟨_, rfl⟩
            have hfs := fit_small hf
            have hrd : rdP x t = ⟨pk, pv⟩ := by rw [← hpk, ← hpv]
            rw [hpk] at hx0 hfs
            rw [hpv] at hx1 hfs
            rw [hrd] at HTK
            have hk32 := hfs.1
            have hkey : keyOf Tryd.prog 9 (.string pk) = some (.string pk.data.toList) := WideMaps.keyOf_string_mk Tryd.underlying9 (by unfold maxLen; omega)
            have HKEY := Aside0.mk hkey
            have HBK := Aside0.mk (Blk.new wr #[.string pk, .string pv] 23)
            have HI2 := Aside0.mk (HI.out.step (below_alloc (Below.refl _ wr) (.cells #[.string pk, .string pv] 23)))
            obtain ⟨D, hown, hkv⟩ := HI2.out.2.2.2
            have hlen : (ps ++ x.take t).length ≤ 128 := by rw [List.length_append, List.length_take]; omega
            have HOWN := Aside0.mk hown
            have HKV := Aside0.mk hkv
            clear hkey hown hkv hf hfs hpk hpv hrd HI
            go_wp2_with (at_mapUpdate; refine wpList_mapUpdate_own _ rfl _ _ _ 65 rfl 9 23 LAW.out Tryd.underlying65 pairE w.heap.size (ps ++ x.take t).length D rfl HOWN.out (by unfold maxLen; omega) _ _ _ rfl rfl HKEY.out _ [] (pairE_mk pk pv) ?_; intro w1 hown1 hgrow1; have HI3 := Aside0.mk (HI2.out.put ⟨pk, pv⟩ HKV.out hown1 hgrow1); clear hown1 hgrow1)
            go_roundw
            case rel => exact ⟨t + 1, by omega, by go_num, ⟨by rw [← HTK.out]; exact HI3.out⟩⟩
            case measure => simp [intOf]; omega
          case neg =>
            obtain rfl : t = x.length := by omega
            go_wp2_with fail
            go_roundw
            case rel => exact ⟨j + 1, ps ++ x, by omega, by go_num, HJ2, ⟨by have := HI.out; rwa [List.take_length] at this⟩⟩
            case measure => simp [intOf]; omega
    case neg =>
      obtain ⟨hps, hgl, hgm, hX⟩ := HDONE.out j ps HJ.out hj
      subst hps
      obtain ⟨hB, hBk, hsz, D, hown, hkv⟩ := HO.out
      have HB := Aside0.mk hB
      have HOWN := Aside0.mk hown
      have hs1 := good_srt hgl
      have hs2 := good_srt hgm
      have hsize := hkv.size hs1 hs2 hown
      have HPERM := Aside0.mk (hkv.perm hs1 hs2 hown)
      have HKEYS : Aside0 (∀ ss : List (List UInt8), ss.Perm ((mg l m).map kB) → ss.mergeSort (fun x y => decide (x ≤ y)) = (mg l m).map kB) := ⟨fun ss h => keys_perm hs1 hs2 h⟩
      have HAT : Aside0 (∀ p ∈ mg l m, ∀ z, D.atKey (.string (kB p)) z = dP p.f0 p.f1) := ⟨fun p hp z => hkv.at hs1 hs2 hp z⟩
      have HFT := Aside0.mk (mg_fit (good_fit hgl) (good_fit hgm))
      have HX := Aside0.mk hX
      generalize mg l m = M at *
      clear hB hBk hkv hs1 hs2 hX HNEXT HPUT HO HJ hgl hgm HDONE
      have hln : ∀ ty, (Builtin.len_ #[65] ty #[.map (some w.heap.size)]).run Tryd.prog wr = .ok (.int .i64 (M.length : Int)) wr := fun ty => by rw [← hsize]; exact hown.len Tryd.underlying65 ty
      by_cases h64 : 64 < M.length
      case pos =>
        have HY : Aside0 (X = ([], 3)) := ⟨by rw [HX.out, if_pos h64]⟩
        go_wp2_with fail
        go_ret2
        rw [HY.out]
        exact ⟨HB.out, none, 0, w.heap.size, rfl, Nat.le_refl _, Kd.R_nil _ _ _ _ _⟩
      case neg =>
        have HY : Aside0 (X = (M, 0)) := ⟨by rw [HX.out, if_neg h64]⟩
        clear HX hown
        go_wp2_with fail
        refine (callsIn_wide.1 (Tryd.maps_Keys_37 (some w.heap.size) wr)).mono ?_
        rintro e w2 ⟨rfl, rfl⟩
        clear hln
        go_wp2_with fail
        refine (callsIn_wide.1 (Tryd.slices_Sorted_keys_36_37 w.heap.size _ D pairE wr HOWN.out (by unfold maxLen; omega) (by omega))).mono ?_
        rintro e w3 ⟨v, ss, rfl, hS, hrow, -, hb3⟩
        have hp3 : ss.Perm (M.map kB) := hS.trans HPERM.out.symm
        have hsl : ss.length = M.length := by rw [hp3.length_eq, List.length_map]
        rw [HKEYS.out ss hp3, hsl] at hrow
        obtain ⟨Ak, ck, rfl, hck, hrd⟩ := own_reads_of_le (enc := encStr) (d := ([] : List UInt8)) hrow
        have HRD := Aside0.mk hrd
        have hst := below_step (below_alloc (Below.refl wr.heap.size wr) (.cells #[.map (some w.heap.size)] 65)) hb3
        have HB3 := Aside0.mk (below_step HB.out hst)
        have HOWN3 := Aside0.mk (owns_below HOWN.out hst)
        clear hS hrow hb3 hp3 hsl hrd hst HPERM HKEYS HOWN
        go_wp2_with fail
        go_loopw [14, 54] (fun v14 v54 wr => ∃ (t : Nat) (acc : List S23) (Ao : Option Addr) (co : Nat), t ≤ M.length ∧ v54 = .int .i64 t ∧ v14 = .slice Ao acc.length co ∧ Aside0 (acc = M.take t) ∧ Aside0 (Kd.R k23 23 wr w3.heap.size (fun k => w3.heap.size ≤ k) (.slice Ao acc.length co) acc) ∧ Aside0 (Below w3.heap.size w3 wr)) (fun _ v54 _ => M.length - (intOf v54).toNat)
        case atStart => exact ⟨0, [], none, 0, Nat.zero_le _, rfl, rfl, ⟨rfl⟩, ⟨Kd.R_nil _ _ _ _ _⟩, ⟨Below.refl _ _⟩⟩
        case round =>
          obtain ⟨t, acc, Ao, co, ht, rfl, rfl, HACC, HA, HBI⟩ := hrel
          by_cases htx : t < M.length
          case pos =>
            have hal : acc.length ≤ 64 := by rw [HACC.out, List.length_take]; omega
            have hpm : rdP M t ∈ M := by rw [rdP_get htx]; exact List.getElem_mem htx
            have hf := fit_small (HFT.out _ hpm)
            obtain ⟨ad, e, hcell⟩ := HRD.out.2.2 (by omega)
            subst e
            have hkc := hcell t htx
            have ekey : encStr ((M.map kB).getD t []) = .string (rdP M t).f0 := by
              rw [List.getD_eq_getElem?_getD, List.getElem?_map, List.getElem?_eq_getElem htx, rdP_get htx]
              rfl
            rw [ekey] at hkc
            have hkc2 : wr.cell? (ad.add t) = some (.string (rdP M t).f0) := (World.cell?_of_block (HBI.out.block _ (World.block_lt_of_cell? _ _ hkc))).trans hkc
            have hownI := owns_below HOWN3.out HBI.out
            have hat := HAT.out _ hpm
            have HTK : Aside0 (M.take (t + 1) = M.take t ++ [rdP M t]) := ⟨by rw [List.take_succ_eq_append_getElem htx, rdP_get htx]⟩
            obtain ⟨pk, hpk⟩ : ∃ y, (rdP M t).f0 = y := ⟨_, rfl⟩
            obtain ⟨pv, hpv⟩ : ∃ y, (rdP M t).f1 = y := ⟨_, rfl⟩
            have hrd : rdP M t = ⟨pk, pv⟩ := by rw [← hpk, ← hpv]
            rw [hrd] at HTK hat
            rw [hpk] at hkc2 hf
            have hk32 := hf.1
            have hkey : keyOf Tryd.prog 9 (.string pk) = some (.string pk.data.toList) := WideMaps.keyOf_string_mk Tryd.underlying9 (by unfold maxLen; omega)
            obtain ⟨v, pp, hrun, hv⟩ := hownI.lookup LAW.out Tryd.underlying65 (zero23 wr) (pairE_mk ⟨#[]⟩ ⟨#[]⟩) hkey
            rw [show D.atKey (.string pk.data.toList) (dP ⟨#[]⟩ ⟨#[]⟩) = dP pk pv from hat _] at hv
            obtain ⟨a, b, hvv, hdd⟩ := pairE_inv hv
            obtain ⟨rfl, rfl⟩ := dP_inj hdd
            subst hvv
            have HROW := Aside0.mk (row1 (Blk.new wr #[.string pk, .string pv] 23))
            have HR5 : Aside0 (Kd.R k23 23 (wr.alloc (.cells #[.string pk, .string pv] 23)) w3.heap.size (fun k => w3.heap.size ≤ k) (.slice Ao acc.length co) acc) := ⟨Kd.R_step HA.out (fun k _ hlt => (below_alloc (Below.refl _ wr) _).block k hlt)⟩
            have HB5 : Aside0 (Below w3.heap.size w3 (wr.alloc (.cells #[.string pk, .string pv] 23))) := ⟨below_alloc HBI.out _⟩
            clear hcell hkc ekey hownI hat hpk hpv hrd hf hkey hv hdd hpm HA
            go_wp2_with (at_builtin; refine Kd.R_append_rows k23 (w0 := w3) w3.heap.size rfl (.tmp 58) (.tmp 62) 33 23 (.agg #[(.string ⟨#[]⟩), (.string ⟨#[]⟩)]) 32 rfl Tryd.underlying33 info23 rfl (by decide) (by omega) (.slice Ao acc.length co) acc [⟨pk, pv⟩] _ _ _ (fun k => w3.heap.size ≤ k) (fun _ => False) rfl rfl HR5.out HROW.out (fun _ _ h => h) (fun _ h => h.elim) (fun _ hk => Nat.le_trans HB5.out.size hk) HB5.out HB5.out.size (by omega) ?_; intro v1 w1 ho hb hg hat; obtain ⟨A4, c4, rfl, hc4, -⟩ := Kd.R_reads ho; have HO := Aside0.mk ho; have HBB := Aside0.mk hb; clear ho hb hg hat hc4)
            go_roundw
            case rel => exact ⟨t + 1, acc ++ [⟨pk, pv⟩], A4, c4, by omega, by go_num, by simp, ⟨by rw [HTK.out, HACC.out]⟩, HO, HBB⟩
            case measure => simp [intOf]; omega
          case neg =>
            obtain rfl : t = M.length := by omega
            have hacc : acc = M := by rw [HACC.out, List.take_length]
            subst hacc
            obtain ⟨he, hco, -⟩ := Kd.R_reads' HA.out
            go_wp2_with fail
            refine (clip_any Ao co acc.length (by omega) hco wr).mono ?_
            rintro e w5 ⟨rfl, rfl⟩
            go_wp2_with fail
            go_ret2
            rw [HY.out]
            exact ⟨below_step HB3.out HBI.out, Ao, co, w3.heap.size, rfl, HB3.out.size, HA.out⟩
end Go.Proofs.YtbidbjgklonbpaaDoor.Mine
