/- wire: log. -/
import Derived.Test.YtmjbdeoomohanaaWireL
set_option linter.unusedSimpArgs false
set_option linter.unusedVariables false
namespace Go.Proofs.Ytmjbdeoomohanaa.Mine
open Go.RowKit Go.Maps Go.Proofs.YtmjbdeoomohanaaW.PrintWords Go.Proofs.YtmjbdeoomohanaaW.PrintLast Go.Proofs.YtmjbdeoomohanaaW.PrintMore Go.Proofs.Ytmjbdeoomohanaa.PWirePacks Go.Proofs.Ytmjbdeoomohanaa.Turn
variable {lo : Nat}

def prepL (D : List S44) (x : Except Int (List S44 × St)) : Except Int (List S44 × St) :=
  match x with
  | .error e => .error e
  | .ok (rs, S) => .ok (D ++ rs, S)
theorem prepL_nil (x : Except Int (List S44 × St)) : prepL [] x = x := by
  rcases x with e | ⟨r, S⟩ <;> rfl
theorem F_apart2 {α : Type} {d : Kd α} {w w' : World} {G G' : Nat → Prop} {g hh : Nat} {A : Option Addr} {n : Nat} {l : List α} (hg : g < w.heap.size) (hh2 : hh < w.heap.size) (hr : Kd.F d w (fun k => ¬ G k ∧ (Off lo g k ∧ k ≠ hh)) A n l) (ht : Turned G w w') (hG : ∀ k, G' k → G k ∨ w.heap.size ≤ k) : Kd.F d w' (fun k => ¬ G' k ∧ (Off lo g k ∧ k ≠ hh)) A n l :=
  Kd.F_mono (F_turn (Q := fun k => Off lo g k ∧ k ≠ hh) hr ht hG) (fun k hk => ⟨hk.1, hk.2.elim id (fun h => by omega)⟩)
theorem OkT.text {N : Nat} {S S' : St} {bs r : List Int} (h : OkT N S) (hs : textS S bs = .ok (r, S')) (hN : N ≤ 1099511627776) : OkT (N + 2 + bs.length) S' := by
  unfold textS at hs
  split at hs
  · cases hs
  · rename_i m S1 h1
    exact (h.count h1 hN).1.step hs
theorem rowL_step {D : List S44} {S S2 : St} {L : List S44} {k : Nat} {r : S44} (hk : k < L.length) (hs : entS S L[k] = .ok (r, S2)) : prepL D (rowL S (L.drop k)) = prepL (D ++ [r]) (rowL S2 (L.drop (k + 1))) := by
  rw [List.drop_eq_getElem_cons hk]
  simp only [rowL, hs]
  cases rowL S2 (L.drop (k + 1)) with
  | error e => rfl
  | ok x =>
    obtain ⟨rs, S3⟩ := x
    simp [prepL]
/-- Ahead of round k of log. -/
def Ring (lo : Nat) (w : World) (base b g hh n : Nat) (G : Nat → Prop) (m : Msg) (N : Nat) (X : Except Int (List S44 × St)) (L : List S44) (k : Nat) (wr : World) (D : List S44) (S : St) (Gk : Nat → Prop) : Prop :=
  D.length = k ∧ X = prepL D (rowL S (L.drop k)) ∧ OkT (N + 4096 * k) S ∧ RelR lo w base b g hh n G m wr (D ++ L.drop k) S Gk

set_option maxHeartbeats 4000000 in
theorem logM_any {w : World} {base b g : Nat} {G : Nat → Prop} {S : St} {m : Msg} (h : Cod w base G b S) (hM : MsgAt lo w g G m) (hg : ¬ G g) (hb : base ≤ g) {N : Nat} (hS : OkT N S) (hN : N ≤ 274877906944) (hn : m.log.length ≤ 65536) (hok : ∀ x ∈ m.log, x.f2.length ≤ 2048 ∧ 0 ≤ x.f0 ∧ x.f0 < 18446744073709551616 ∧ 0 ≤ x.f1 ∧ x.f1 < 18446744073709551616) :
    Calls Try.prog 40 #[.pointer (some ⟨b, 0, none⟩), .pointer (some ⟨g, 0, none⟩)] w fun e w' => EndsM lo w base G b g (thenS (logS S m.log) fun v => { m with log := v }) e w' := by
  have HN := Aside0.mk (count_any h (hS.ok (by omega)) m.log.length (by omega) (by omega) 1 (by omega) (by omega) 64 2 (by omega) (by omega))
  have HM := Aside0.mk hM
  have HST := Aside0.mk hS
  have HOK := Aside0.mk hok
  obtain ⟨A5, c5, A8, c8, A13, c13, hx, hl1, hl2, hl3, h5, h8, h13⟩ := hM
  have hxl := hx.lt
  have HXF : Aside0 (g < w.heap.size) := ⟨hxl⟩
  have p : w.cell? ⟨g, 5, none⟩ = some (.slice A5 m.log.length c5) := (hx.cell 5).trans rfl
  have HE := Aside0.mk (logS.eq_def S m.log)
  clear h hS hx hl1 hl2 hl3 h5 h8 h13 hok
  obtain ⟨x, hx⟩ : ∃ x, countS S m.log.length 1 64 2 = x := ⟨_, rfl⟩
  have HV : Aside0 (∀ r S', x = .ok (r, S') → OkT (N + 1) S' ∧ 0 ≤ r ∧ r ≤ 64) := ⟨fun r S' e => HST.out.count (by rw [hx, e]) (by omega)⟩
  rw [hx] at HN HE
  clear hx
  generalize logS S m.log = X at HE ⊢
  go_enter Try.func40, Try.ntmps40
  go_wp2_with fail
  refine HN.out.mono ?_
  clear HN p
  cases x with
  | error x =>
    rintro e w2 ⟨G', hG', hT', he⟩
    have he2 : e = .panicked [{ v := .iface 63 (.agg #[.int .i64 x]), recovered := false }] := he
    subst he2
    clear he
    have HG := Aside0.mk hG'
    have HT := Aside0.mk hT'
    clear hG' hT'
    go_wp2_with fail
    rw [HE.out]
    exact ⟨rfl, EndsM.wrong (HM.out.blk14 hg) HG.out HT.out⟩
  | ok x =>
    obtain ⟨r, S'⟩ := x
    rintro e wc ⟨G', hG', hT', rfl, hC2⟩
    obtain ⟨hv1, hv2, hv3⟩ := HV.out r S' rfl
    obtain ⟨n, rfl⟩ : ∃ n : Nat, r = n := ⟨r.toNat, by omega⟩
    have HK := Aside0.mk hv1
    have HX : Aside0 (X = rowL S' (pad m.log n z44)) := ⟨HE.out⟩
    clear HE hv1
    have hmk := run_make_23 n (by omega)
    obtain ⟨A5, c5, A8, c8, A13, c13, hx, hl1, hl2, hl3, h5, h8, h13⟩ := HM.out.turn hg hT' hG'
    have p2 : wc.cell? ⟨g, 5, none⟩ = some (.slice A5 m.log.length c5) := (hx.cell 5).trans rfl
    have hxl2 := hx.lt
    have hnew := N_new k44 44 (base := base) (ok := fun k => ¬ G' k ∧ Off lo g k) wc n #[.int .u64 0, .int .u64 0, .slice none 0 0] z44 rfl (by decide) (FK44_mk (x := z44) (c := 0) (Nat.le_refl 0) (Kd.F_nil _ _ _)) ⟨fun h => by have := (hC2.2.1 _ h).1; omega, by omega⟩ hC2.size (by omega)
    rw [show Kd.sz k44 = 3 from rfl] at hnew
    have hsrc := Kd.F_alloc (Kd.F_bound h5) (.cells (madeCells #[.int .u64 0, .int .u64 0, .slice none 0 0] (n * 3)) 44)
    have HNEW := Aside0.mk hnew
    have HSRC := Aside0.mk hsrc
    have HMC := Aside0.mk (HM.out.turn hg hT' hG')
    have HC := Aside0.mk hC2
    have HG := Aside0.mk hG'
    have HT := Aside0.mk hT'
    clear hx hl1 hl2 hl3 h5 h8 h13 hnew hsrc hC2 hG' hT'
    have HSZ : Aside0 ((Try.prog.info? 44).map (·.size) = some (Kd.sz k44)) := ⟨by kernel_rfl⟩
    go_wp2_with ((with_reducible refine gate_builtin (b := .copy) (xs := #[.tmp 17, .tmp 21]) rfl ?_); refine copy_N k44 rfl (.tmp 17) (.tmp 21) 23 23 rfl 44 Try.underlying23 HSZ.out (by decide) (g := wc.heap.size) (n := n) (cap := n) (m := m.log.length) (c := c5) (A := A5) rfl rfl HNEW.out HSRC.out (fun k hk => ⟨hk.1, by have := hk.2; omega⟩) ?_; intro w3 hr3 ht3; have HR3 := Aside0.mk hr3; have HT3 := Aside0.mk ht3; clear hr3 ht3)
    have hgG : ¬ G' g := fun h => (HG.out g h).elim hg (fun h => by have := HXF.out; omega)
    have hT03 : ∀ Y : Nat → Prop, Turned Y wc w3 := fun Y => ((Turned.refl Y wc).alloc _).then_ HT3.out (fun k hk => .inr (Nat.le_of_eq hk.symm))
    have hls : wc.heap.size < w3.heap.size := Nat.lt_of_lt_of_le (Blk.new wc (madeCells #[.int .u64 0, .int .u64 0, .slice none 0 0] (n * 3)) 44).lt HT3.out.size
    have HREL : Aside0 (Ring lo w base b g wc.heap.size n G m (N + 1) X (pad m.log n z44) 0 w3 [] S' G') :=
      ⟨⟨rfl, by rw [HX.out, prepL_nil]; rfl, HK.out, ⟨HG.out, HT.out.then_ (hT03 (fun _ => False)) (fun _ hk => hk.elim), HC.out.step (hT03 (fun _ => False)) (fun _ hk => hk.elim), HMC.out.turn hgG (hT03 _) (fun q hq => hq.imp id (fun h => Nat.le_of_eq h.symm)), HR3.out, ⟨HT.out.size, hls, HC.out.size⟩, ⟨hgG, by omega, by omega⟩⟩⟩⟩
    clear hT03 hgG HR3 HT3 HNEW HSRC
    go_loopw [25] (fun i wr => ∃ (k : Nat) (D : List S44) (Sk : St) (Gk : Nat → Prop), k ≤ n ∧ i = .int .i64 k ∧ Aside0 (Ring lo w base b g wc.heap.size n G m (N + 1) X (pad m.log n z44) k wr D Sk Gk)) (fun i _ => n - (intOf i).toNat)
    case atStart => exact ⟨0, [], S', G', Nat.zero_le _, rfl, HREL⟩
    case round =>
      obtain ⟨k, D, Sk, Gk, hkn, rfl, HR⟩ := hrel
      clear HREL
      by_cases hlt : k < n
      · obtain ⟨hlen, hspec, hokt, hr⟩ := HR.out
        obtain ⟨A, c, hlc, hF, hcc, hfr⟩ := hr.elem hlt
        have hxe : (D ++ (pad m.log n z44).drop k).getD k z44 = (pad m.log n z44)[k]'(by rw [pad_length]; exact hlt) := by
          rw [List.getD_eq_getElem?_getD, List.getElem?_append_right (by rw [hlen]; exact Nat.le_refl _), hlen, Nat.sub_self, List.getElem?_drop, Nat.add_zero, List.getElem?_eq_getElem (by rw [pad_length]; exact hlt)]
          rfl
        have HXE := Aside0.mk hxe
        generalize hxg : (D ++ (pad m.log n z44).drop k).getD k z44 = x at hlc hF hcc HXE
        have HXG := Aside0.mk hxg
        have x0 : wr.cell? ⟨wc.heap.size, k * 3, none⟩ = some (.int .u64 x.f0) := hcc 0 _ rfl
        have x1 : wr.cell? ⟨wc.heap.size, k * 3 + 1, none⟩ = some (.int .u64 x.f1) := hcc 1 _ rfl
        have x2 : wr.cell? ⟨wc.heap.size, k * 3 + 2, none⟩ = some (.slice A x.f2.length c) := hcc 2 _ rfl
        have HF := Aside0.mk hF
        have HCC := Aside0.mk hcc
        have HRR := Aside0.mk hr
        have HOT := Aside0.mk hokt
        have HSP := Aside0.mk hspec
        clear hF hcc hfr hr hokt hspec hxe hxg
        have hxb : 0 ≤ x.f0 ∧ x.f0 < 18446744073709551616 ∧ 0 ≤ x.f1 ∧ x.f1 < 18446744073709551616 ∧ x.f2.length ≤ 2048 := by
          have hmem := List.getElem_mem (show k < (pad m.log n z44).length by rw [pad_length]; exact hlt)
          rw [← HXE.out] at hmem
          rcases List.mem_append.1 hmem with hmem | hmem
          · obtain ⟨a1, a2, a3, a4, a5⟩ := HOK.out _ (List.mem_of_mem_take hmem)
            exact ⟨a2, a3, a4, a5, a1⟩
          · rw [List.eq_of_mem_replicate (List.mem_of_mem_drop hmem)]
            exact ⟨by decide, by decide, by decide, by decide, by decide⟩
        obtain ⟨b0, b1, b2, b3, b4⟩ := hxb
        have HR1 := Aside0.mk (HRR.out.below (below_alloc (Below.refl _ wr) (.cells #[.int .u64 x.f0, .int .u64 x.f1, .slice A x.f2.length c] 44)))
        have HB1 := Aside0.mk (Blk.new wr #[.int .u64 x.f0, .int .u64 x.f1, .slice A x.f2.length c] 44)
        go_wp2_with fail
        have HSY := Aside0.mk (OkT.ok HOT.out (by omega))
        have HW : Aside0 (∀ e : Int, entS Sk x = .error e → X = .error e) := ⟨fun e he => by rw [HSP.out, List.drop_eq_getElem_cons (show k < (pad m.log n z44).length by rw [pad_length]; exact hlt), ← HXE.out]; simp [rowL, he, prepL]⟩
        refine (number_any HR1.out.cod HSY.out x.f0 b0 b1 8 (by omega) (by omega)).mono ?_
        obtain ⟨y, hy⟩ : ∃ y, step Sk (be x.f0 8) 8 = y := ⟨_, rfl⟩
        rw [hy]
        cases y with
        | error y =>
          rintro e w5 ⟨G2, hG2, hT2, he⟩
          have he2 : e = .panicked [{ v := .iface 63 (.agg #[.int .i64 y]), recovered := false }] := he
          subst he2
          have HX2 := Aside0.mk (HW.out y (by simp [entS, numS, hy]))
          have HE2 : Aside0 (EndsM lo w base G b g (.error y) (wrongs y) w5) := ⟨EndsM.wrong (HM.out.blk14 hg) (fun q hq => (hG2 q hq).elim (HR1.out.own q) (fun h2 => .inr (Nat.le_trans HR1.out.turn.size h2))) (HR1.out.turn.then_ hT2 HR1.out.own)⟩
          clear hG2 hT2 he
          go_wp2_with fail
          rw [HX2.out]
          exact ⟨rfl, HE2.out⟩
        | ok y =>
          obtain ⟨r1, S1⟩ := y
          rintro e w5 ⟨G2, hG2, hT2, rfl, hC2⟩
          have HR2 := Aside0.mk (HR1.out.turned hG2 hT2 hC2)
          have HF2 := Aside0.mk (F_apart2 HR1.out.apart.2.1 HR1.out.new.2.1 (Kd.F_alloc HF.out _) hT2 hG2)
          have hgk : ¬ Gk wr.heap.size := fun h => by have := (HRR.out.cod.2.1 _ h).1; omega
          have HB2 := Aside0.mk (hT2.blk HB1.out hgk)
          have hbl2 := Blk.lt HB2.out
          obtain ⟨A', c', hl', hF', hcc', hfr'⟩ := HR2.out.elem hlt
          rw [HXG.out] at hl' hF' hcc'
          have y0 : w5.cell? ⟨wc.heap.size, k * 3, none⟩ = some (.int .u64 x.f0) := hcc' 0 _ rfl
          have f0 : w5.frozen? ⟨wc.heap.size, k * 3, none⟩ = false := hfr' 0
          have z1 : w5.cell? ⟨wr.heap.size, 1, none⟩ = some (.int .u64 x.f1) := (Blk.cell HB2.out 1).trans rfl
          have HR3 := Aside0.mk (HR2.out.stored (j := 0) hlt (by omega) (.int .u64 (val r1)) [.int .u64 x.f0, .int .u64 x.f1, .slice A' x.f2.length c'] ⟨val r1, x.f1, x.f2⟩ rfl hcc' (FK44_mk (x := ⟨val r1, x.f1, x.f2⟩) hl' hF'))
          have HOT2 := Aside0.mk (HOT.out.step hy)
          have hgk2 : ¬ G2 wr.heap.size := fun h => (hG2 _ h).elim hgk (fun h2 => by have := Blk.lt HB1.out; omega)
          clear hG2 hT2 hC2 hF' hcc' hfr'
          go_wp2_with fail
          have HSY2 := Aside0.mk (OkT.ok HOT2.out (by rw [be_len]; omega))
          refine (number_any HR3.out.cod HSY2.out x.f1 b2 b3 8 (by omega) (by omega)).mono ?_
          obtain ⟨y2, hy2⟩ : ∃ y, step S1 (be x.f1 8) 8 = y := ⟨_, rfl⟩
          rw [hy2]
          cases y2 with
          | error y =>
            rintro e w6 ⟨G3, hG3, hT3, he⟩
            have he2 : e = .panicked [{ v := .iface 63 (.agg #[.int .i64 y]), recovered := false }] := he
            subst he2
            have HX2 := Aside0.mk (HW.out y (by simp [entS, numS, hy, hy2]))
            have HE2 : Aside0 (EndsM lo w base G b g (.error y) (wrongs y) w6) := ⟨EndsM.wrong (HM.out.blk14 hg) (fun q hq => (hG3 q hq).elim (HR3.out.own q) (fun h2 => .inr (Nat.le_trans HR3.out.turn.size h2))) (HR3.out.turn.then_ hT3 HR3.out.own)⟩
            clear hG3 hT3 he
            go_wp2_with fail
            rw [HX2.out]
            exact ⟨rfl, HE2.out⟩
          | ok y =>
            obtain ⟨r2, S2⟩ := y
            rintro e w6 ⟨G3, hG3, hT3, rfl, hC3⟩
            have HR4 := Aside0.mk (HR3.out.turned hG3 hT3 hC3)
            have HF3 := Kd.F_far HF2.out (p := ⟨wc.heap.size, k * 3, none⟩) (fun q hq => hq.2.2) (.int .u64 (val r1))
            have HF4 := F_apart2 HR3.out.apart.2.1 HR3.out.new.2.1 HF3 hT3 hG3
            have HF5 := Aside0.mk (Kd.F_far HF4 (p := ⟨wc.heap.size, k * 3 + 1, none⟩) (fun q hq => hq.2.2) (.int .u64 (val r2)))
            have hne : wr.heap.size ≠ wc.heap.size := by have := HRR.out.new.2.1; omega
            have HB3 : Aside0 (Blk (w5.setCell ⟨wc.heap.size, k * 3, none⟩ (.int .u64 (val r1))) wr.heap.size #[.int .u64 x.f0, .int .u64 x.f1, .slice A x.f2.length c] 44) := ⟨(Below.heap_setCell w5 _ _ wr.heap.size hne).trans HB2.out⟩
            have HB4 := Aside0.mk (hT3.blk HB3.out hgk2)
            have hbl4 := Blk.lt HB4.out
            have HGE : Aside0 (((D ++ (pad m.log n z44).drop k).set k ⟨val r1, x.f1, x.f2⟩).getD k z44 = ⟨val r1, x.f1, x.f2⟩) := ⟨by rw [List.getD_eq_getElem?_getD, List.getElem?_set_self (by rw [List.length_append, List.length_drop, pad_length, hlen]; omega)]; rfl⟩
            obtain ⟨A4, c4, hl4, hF4, hcc4, hfr4⟩ := HR4.out.elem hlt
            rw [HGE.out] at hl4 hF4 hcc4
            have v1 : w6.cell? ⟨wc.heap.size, k * 3 + 1, none⟩ = some (.int .u64 x.f1) := hcc4 1 _ rfl
            have g1 : w6.frozen? ⟨wc.heap.size, k * 3 + 1, none⟩ = false := hfr4 1
            have z2 : w6.cell? ⟨wr.heap.size, 2, none⟩ = some (.slice A x.f2.length c) := (Blk.cell HB4.out 2).trans rfl
            have HR5 := Aside0.mk (HR4.out.stored (j := 1) hlt (by omega) (.int .u64 (val r2)) [.int .u64 (val r1), .int .u64 x.f1, .slice A4 x.f2.length c4] ⟨val r1, val r2, x.f2⟩ rfl hcc4 (FK44_mk (x := ⟨val r1, val r2, x.f2⟩) hl4 hF4))
            have HOT3 := Aside0.mk (HOT2.out.step hy2)
            have hgk3 : ¬ G3 wr.heap.size := fun h => (hG3 _ h).elim hgk2 (fun h2 => Nat.lt_irrefl _ (Nat.lt_of_lt_of_le (Blk.lt HB3.out) h2))
            clear hG3 hT3 hC3 hF4 hcc4 hfr4 HF3 HF4
            go_wp2_with fail
            refine (text_any HR5.out.cod HOT3.out (by rw [be_len, be_len]; omega) A c x.f2 hlc (by omega) HF5.out).mono ?_
            obtain ⟨y3, hy3⟩ : ∃ y, textS S2 x.f2 = y := ⟨_, rfl⟩
            rw [hy3]
            cases y3 with
            | error y =>
              rintro e w7 ⟨G4, hG4, hT4, he⟩
              have he2 : e = .panicked [{ v := .iface 63 (.agg #[.int .i64 y]), recovered := false }] := he
              subst he2
              have HX2 := Aside0.mk (HW.out y (by simp [entS, numS, hy, hy2, hy3]))
              have HE2 : Aside0 (EndsM lo w base G b g (.error y) (wrongs y) w7) := ⟨EndsM.wrong (HM.out.blk14 hg) (fun q hq => (hG4 q hq).elim (HR5.out.own q) (fun h2 => .inr (Nat.le_trans HR5.out.turn.size h2))) (HR5.out.turn.then_ hT4 HR5.out.own)⟩
              clear hG4 hT4 he
              go_wp2_with fail
              rw [HX2.out]
              exact ⟨rfl, HE2.out⟩
            | ok y =>
              obtain ⟨r3, S3⟩ := y
              rintro e w7 ⟨G4, hG4, hT4, ⟨A6, c6, rfl, hc6, hF6⟩, hC4⟩
              have HR6 := Aside0.mk (HR5.out.turned hG4 hT4 hC4)
              have HGE2 : Aside0 ((((D ++ (pad m.log n z44).drop k).set k ⟨val r1, x.f1, x.f2⟩).set k ⟨val r1, val r2, x.f2⟩).getD k z44 = ⟨val r1, val r2, x.f2⟩) := ⟨by rw [List.getD_eq_getElem?_getD, List.getElem?_set_self (by rw [List.length_set, List.length_append, List.length_drop, pad_length, hlen]; omega)]; rfl⟩
              obtain ⟨A7, c7, hl7, hF7, hcc7, hfr7⟩ := HR6.out.elem hlt
              rw [HGE2.out] at hl7 hF7 hcc7
              have v2 : w7.cell? ⟨wc.heap.size, k * 3 + 2, none⟩ = some (.slice A7 x.f2.length c7) := hcc7 2 _ rfl
              have g2 : w7.frozen? ⟨wc.heap.size, k * 3 + 2, none⟩ = false := hfr7 2
              have hg5 := HR5.out.apart.2.1
              have hh5 := HR5.out.new.2.1
              have HR7 := Aside0.mk (HR6.out.stored (j := 2) hlt (by omega) (.slice A6 r3.length c6) [.int .u64 (val r1), .int .u64 (val r2), .slice A7 x.f2.length c7] ⟨val r1, val r2, r3⟩ rfl hcc7 (FK44_mk (x := ⟨val r1, val r2, r3⟩) hc6 (Kd.F_mono hF6 (fun q hq => ⟨hq.1, hq.2.elim id (fun h => ⟨⟨by rintro rfl; exact Nat.lt_irrefl _ (Nat.lt_of_lt_of_le hg5 h), .inr (Nat.lt_of_lt_of_le hg5 h)⟩, by rintro rfl; exact Nat.lt_irrefl _ (Nat.lt_of_lt_of_le hh5 h)⟩)⟩))))
              have HEX : Aside0 (entS Sk x = .ok (⟨val r1, val r2, r3⟩, S3)) := ⟨by simp [entS, numS, hy, hy2, hy3]⟩
              have HOT4 := Aside0.mk (HOT3.out.text hy3 (by rw [be_len, be_len]; omega))
              have HRING : Aside0 (Ring lo w base b g wc.heap.size n G m (N + 1) X (pad m.log n z44) (k + 1) (w7.setCell ⟨wc.heap.size, k * 3 + 2, none⟩ (.slice A6 r3.length c6)) (D ++ [⟨val r1, val r2, r3⟩]) S3 G4) := by
                refine ⟨⟨by rw [List.length_append, hlen]; rfl, ?_, HOT4.out.mono (by rw [be_len, be_len]; omega), ?_⟩⟩
                · rw [HSP.out]
                  exact rowL_step (show k < (pad m.log n z44).length by rw [pad_length]; exact hlt) (by rw [← HXE.out]; exact HEX.out)
                · have h9 := HR7.out
                  have e1 : (((D ++ (pad m.log n z44).drop k).set k ⟨val r1, x.f1, x.f2⟩).set k ⟨val r1, val r2, x.f2⟩).set k ⟨val r1, val r2, r3⟩ = (D ++ [⟨val r1, val r2, r3⟩]) ++ (pad m.log n z44).drop (k + 1) := by
                    rw [List.set_set, List.set_set, List.set_append, if_neg (by rw [hlen]; exact Nat.lt_irrefl _), hlen, Nat.sub_self, List.drop_eq_getElem_cons (show k < (pad m.log n z44).length by rw [pad_length]; exact hlt), List.set_cons_zero, List.append_assoc]
                    rfl
                  rw [e1] at h9
                  exact h9
              clear hG4 hT4 hC4 hF6 hF7 hcc7 hfr7
              go_wp2_with fail
              go_roundw
              case rel => exact ⟨k + 1, _, _, _, by omega, by go_num, HRING⟩
              case measure => simp [intOf]; omega
      · obtain rfl : k = n := by omega
        obtain ⟨hlen, hspec, hokt, hr⟩ := HR.out
        have hd : (pad m.log k z44).drop k = [] := List.drop_eq_nil_of_le (by rw [pad_length]; exact Nat.le_refl _)
        have hrow := hr.row
        rw [hd, List.append_nil] at hrow
        rw [hd] at hspec
        have hspec2 : X = .ok (D, Sk) := by rw [hspec]; simp [rowL, prepL]
        obtain ⟨A5, c5, A8, c8, A13, c13, hx, hl1, hl2, hl3, h5, h8, h13⟩ := hr.msg
        have hFD := Kd.N_F hrow
        have hmono : ∀ q, ¬ (Gk q ∨ q = wc.heap.size) ∧ Off lo g q → ¬ Gk q ∧ Off lo g q := fun q hq => ⟨fun h => hq.1 (.inl h), hq.2⟩
        have HEND : Aside0 (EndsM lo w base G b g (.ok ({ m with log := D }, Sk)) (.returned (.tuple #[])) (wr.setCell ⟨g, 5, none⟩ (.slice (some ⟨wc.heap.size, 0, none⟩) k k))) :=
          ⟨EndsM.right hr.own hr.turn hr.apart.1 hb hr.cod ⟨some ⟨wc.heap.size, 0, none⟩, k, A8, c8, A13, c13, (by rw [← hlen]; exact hx.set 5 _), (by rw [← hlen]; exact Nat.le_refl _), hl2, hl3, (by rw [hlen]; exact F_set hFD _), F_set (Kd.F_mono h8 hmono) _, F_set (Kd.F_mono h13 hmono) _⟩⟩
        have pe : wr.cell? ⟨g, 5, none⟩ = some (.slice A5 m.log.length c5) := (hx.cell 5).trans rfl
        have pf : wr.frozen? ⟨g, 5, none⟩ = false := hx.free 5
        have hgl := hr.apart.2.1
        have HX2 := Aside0.mk hspec2
        clear hd hrow hspec hspec2 hx hl1 hl2 hl3 h5 h8 h13 hFD hmono hr hokt
        go_wp2_with fail
        rw [HX2.out]
        refine bodyPost_end (results_none rfl _ _ _) rfl ?_
        exact HEND.out
end Go.Proofs.Ytmjbdeoomohanaa.Mine
