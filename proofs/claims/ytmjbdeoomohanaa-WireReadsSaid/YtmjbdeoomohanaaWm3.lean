import Derived.Test.YtmjbdeoomohanaaWm2
import Derived.Deep.DeepCutAuto
import Derived.Deep.CutBlock
import Derived.Test.YtmjbdeoomohanaaWm1

/- wire: what holds ahead of each round of blocks. -/
set_option linter.unusedSimpArgs false
set_option linter.unusedVariables false
namespace Go.Proofs.Ytmjbdeoomohanaa.Mine
open Go.RowKit Go.Maps Go.Proofs.YtmjbdeoomohanaaW.PrintWords Go.Proofs.YtmjbdeoomohanaaW.PrintLast Go.Proofs.YtmjbdeoomohanaaW.PrintMore Go.Proofs.Ytmjbdeoomohanaa.PWirePacks Go.Proofs.Ytmjbdeoomohanaa.Turn
variable {lo : Nat}

abbrev kB := Kd.slice 5 (Kd.int .u8)

theorem prep_step {D : List (List Int)} {S S2 : St} {L : List (List Int)} {k : Nat} {r : List Int} (hk : k < L.length) (hs : step S L[k] 128 = .ok (r, S2)) : prep D (rowS S (L.drop k)) = prep (D ++ [r]) (rowS S2 (L.drop (k + 1))) := by
  rw [List.drop_eq_getElem_cons hk]
  simp only [rowS, hs]
  cases rowS S2 (L.drop (k + 1)) with
  | error e => rfl
  | ok x =>
    obtain ⟨rs, S3⟩ := x
    simp [prep]
theorem prep_wrong {D : List (List Int)} {S : St} {L : List (List Int)} {k : Nat} {e : Int} (hk : k < L.length) (hs : step S L[k] 128 = .error e) : prep D (rowS S (L.drop k)) = .error e := by
  rw [List.drop_eq_getElem_cons hk]
  simp only [rowS, hs, prep]

/-- Ahead of round k. -/
structure RelB (lo : Nat) (w : World) (base b g hh n : Nat) (G : Nat → Prop) (m : Msg) (N : Nat) (X : Except Int (List (List Int) × St)) (L : List (List Int)) (k : Nat) (wr : World) (D : List (List Int)) (S : St) (Gk : Nat → Prop) : Prop where
  len : D.length = k
  spec : X = prep D (rowS S (L.drop k))
  ok : OkT (N + 128 * k) S
  own : ∀ q, Gk q → G q ∨ w.heap.size ≤ q
  turn : Turned G w wr
  cod : Cod wr base Gk b S
  msg : MsgAt lo wr g (fun q => Gk q ∨ q = hh) m
  row : Kd.N kB 24 wr base (fun k => ¬ Gk k ∧ Off lo g k) (.slice (some ⟨hh, 0, none⟩) n n) (D ++ L.drop k)
  new : w.heap.size ≤ hh ∧ hh < wr.heap.size ∧ base ≤ hh

theorem RelB.elem {w : World} {base b g hh n : Nat} {G : Nat → Prop} {m : Msg} {N : Nat} {X : Except Int (List (List Int) × St)} {L : List (List Int)} {k : Nat} {wr : World} {D : List (List Int)} {S : St} {Gk : Nat → Prop} (h : RelB lo w base b g hh n G m N X L k wr D S Gk) (hL : L.length = n) (hk : k < n) :
    ∃ A c, wr.cell? ⟨hh, k, none⟩ = some (.slice A (L[k]'(by omega)).length c) ∧ (L[k]'(by omega)).length ≤ c ∧ Kd.F (Kd.int .u8) wr (fun q => ¬ Gk q ∧ (Off lo g q ∧ q ≠ hh)) A (L[k]'(by omega)).length (L[k]'(by omega)) := by
  obtain ⟨c, hc1, hc2, hc3, hc4⟩ := Kd.N_elem h.row [] (k : Int) (by omega) (by omega)
  have hx : (D ++ L.drop k).getD ((k : Int)).toNat [] = L[k]'(by omega) := by
    rw [Int.toNat_natCast, List.getD_eq_getElem?_getD, List.getElem?_append_right (by rw [h.len]; exact Nat.le_refl _), h.len, Nat.sub_self, List.getElem?_drop, Nat.add_zero, List.getElem?_eq_getElem (by omega)]
    rfl
  rw [hx] at hc2
  obtain ⟨A, c', hce, hl, hF⟩ := Kd.FK_slice_open hc2
  have := hc3 0 (.slice A (L[k]'(by omega)).length c') (by rw [hce]; rfl)
  refine ⟨A, c', ?_, hl, Kd.F_mono hF (fun q hq => ⟨hq.1.1, hq.1.2, hq.2⟩)⟩
  rw [Int.toNat_natCast] at this
  have e : k * Kd.sz kB + 0 = k := Nat.mul_one k
  rwa [e] at this
theorem RelB.next {w : World} {base b g hh n : Nat} {G : Nat → Prop} {m : Msg} {N : Nat} {X : Except Int (List (List Int) × St)} {L : List (List Int)} {k : Nat} {wr : World} {D : List (List Int)} {S : St} {Gk : Nat → Prop} (h : RelB lo w base b g hh n G m N X L k wr D S Gk) (hL : L.length = n) (hk : k < n) (hg : ¬ Gk g) (hgl : g < wr.heap.size) (hne : hh ≠ g)
    {w5 : World} {G2 : Nat → Prop} {r : List Int} {S2 : St} {A3 : Option Addr} {c3 : Nat} (hs : step S (L[k]'(by omega)) 128 = .ok (r, S2)) (h128 : (L[k]'(by omega)).length ≤ 128) (hG2 : ∀ q, G2 q → Gk q ∨ wr.heap.size ≤ q) (hT : Turned Gk wr w5) (hc3 : r.length ≤ c3)
    (hF : Kd.F (Kd.int .u8) w5 (fun q => ¬ G2 q ∧ ((Off lo g q ∧ q ≠ hh) ∨ wr.heap.size ≤ q)) A3 r.length r) (hC : Cod w5 base G2 b S2) :
    RelB lo w base b g hh n G m N X L (k + 1) (w5.setCell ⟨hh, k, none⟩ (.slice A3 r.length c3)) (D ++ [r]) S2 G2 ∧ (∃ v, w5.cell? ⟨hh, k, none⟩ = some v) ∧ w5.frozen? ⟨hh, k, none⟩ = false := by
  have hrow := N_turn hgl h.row hT hG2
  obtain ⟨c, hc1, hc2, hcc, hc4⟩ := Kd.N_elem hrow [] (k : Int) (by omega) (by omega)
  have hok := hrow.1 hh (by simp [Value.ownBlock])
  have hnew := h.new
  have hs5 : (w5.setCell ⟨hh, k, none⟩ (.slice A3 r.length c3)).heap.size = w5.heap.size := by simp [World.setCell]
  have e0 : (k : Int).toNat * Kd.sz kB + 0 = k := by rw [Int.toNat_natCast]; exact Nat.mul_one k
  have hseg := Kd.N_seg hrow (k : Int) (by omega) (by omega) (c := c) (seg := [.slice A3 r.length c3]) (j := 0) hc1 hcc (Nat.le_refl 1) (x' := r) (okp := fun q => ¬ G2 q ∧ (Off lo g q ∧ q ≠ hh))
    (by
      have hcl : c.length = 1 := hc1
      rw [List.take_zero, List.nil_append, List.drop_eq_nil_of_le (by rw [hcl]; exact Nat.le_refl 1), List.append_nil]
      exact Kd.FK_slice_mk hc3 (Kd.F_mono hF (fun q hq => ⟨hq.1, hq.2.elim id (fun h => by omega)⟩)))
    (fun q hq => ⟨⟨hq.1, hq.2.1⟩, hq.2.2⟩)
  refine ⟨⟨?_, ?_, ?_, ?_, ?_, ?_, ?_, ?_, ?_⟩, ?_, ?_⟩
  · rw [List.length_append, h.len]; rfl
  · rw [h.spec, prep_step (by omega) hs]
  · exact (h.ok.step hs).mono (by omega)
  · exact fun q hq => (hG2 q hq).elim (h.own q) (fun h2 => .inr (Nat.le_trans h.turn.size h2))
  · exact (h.turn.then_ hT h.own).setCell (.inr hnew.1) _
  · exact hC.step (X := fun q => q = hh) ((Turned.refl (fun q => q = hh) w5).setCell (.inl rfl) _) (fun q hq => by rw [hq]; exact ⟨hok.1, hnew.2.2⟩)
  · have hT5 : Turned (fun q => Gk q ∨ q = hh) wr (w5.setCell ⟨hh, k, none⟩ (.slice A3 r.length c3)) := ((Turned.refl _ wr).then_ hT (fun _ h => .inl (.inl h))).setCell (.inl (.inr rfl)) _
    exact h.msg.turn (fun hq => hq.elim hg (fun e => hne e.symm)) hT5 (fun q hq => hq.elim (fun h => (hG2 q h).imp .inl id) (fun h => .inl (.inr h)))
  · have h1 := hseg.1
    rw [e0, Int.toNat_natCast] at h1
    have e1 : (D ++ L.drop k).set k r = (D ++ [r]) ++ L.drop (k + 1) := by
      rw [List.set_append, if_neg (by rw [h.len]; exact Nat.lt_irrefl _), h.len, Nat.sub_self, List.drop_eq_getElem_cons (by omega), List.set_cons_zero, List.append_assoc]
      rfl
    rw [e1] at h1
    exact h1
  · rw [hs5]
    exact ⟨hnew.1, Nat.lt_of_lt_of_le hnew.2.1 hT.size, hnew.2.2⟩
  · have hcl : c.length = 1 := hc1
    have := hcc 0 (c[0]'(by omega)) (List.getElem?_eq_getElem (by omega))
    rw [e0] at this
    exact ⟨_, this⟩
  · have := hc4 0
    rwa [e0] at this
end Go.Proofs.Ytmjbdeoomohanaa.Mine

/- wire: blocks. -/
set_option linter.unusedSimpArgs false
set_option linter.unusedVariables false
namespace Go.Proofs.Ytmjbdeoomohanaa.Mine
open Go.RowKit Go.Maps Go.Proofs.YtmjbdeoomohanaaW.PrintWords Go.Proofs.YtmjbdeoomohanaaW.PrintLast Go.Proofs.YtmjbdeoomohanaaW.PrintMore Go.Proofs.Ytmjbdeoomohanaa.PWirePacks Go.Proofs.Ytmjbdeoomohanaa.Turn
variable {lo : Nat}


theorem prep_nil {α : Type} (x : Except Int (List α × St)) : prep [] x = x := by
  rcases x with e | ⟨r, S⟩ <;> rfl

/-- Ahead of the loop of blocks. -/
def Ahead (lo : Nat) (w : World) (base : Nat) (G : Nat → Prop) (b g : Nat) (m : Msg) (S1 : St) (n : Nat) (w2 : World) : Prop :=
  ∃ G' : Nat → Prop, (∀ k, G' k → G k ∨ w.heap.size ≤ k) ∧ Turned G w w2 ∧ Cod w2 base G' b S1 ∧ MsgAt lo w2 g G' m

set_option maxHeartbeats 4000000 in
theorem blocksM_any {w : World} {base b g : Nat} {G : Nat → Prop} {S : St} {m : Msg} (h : Cod w base G b S) (hM : MsgAt lo w g G m) (hg : ¬ G g) (hb : base ≤ g) {N : Nat} (hS : OkT N S) (hN : N ≤ 549755813888) (hn : m.blocks.length ≤ 65536) (h128 : ∀ x ∈ m.blocks, x.length ≤ 128) :
    Calls Try.prog 48 #[.pointer (some ⟨b, 0, none⟩), .pointer (some ⟨g, 0, none⟩)] w fun e w' => EndsM lo w base G b g (thenS (blocksS S m.blocks) fun v => { m with blocks := v }) e w' := by
  have HN := Aside0.mk (count_any h (hS.ok (by omega)) m.blocks.length (by omega) (by omega) 2 (by omega) (by omega) 4096 2 (by omega) (by omega))
  have HM := Aside0.mk hM
  have HST := Aside0.mk hS
  have H128 := Aside0.mk h128
  obtain ⟨A5, c5, A8, c8, A13, c13, hx, hl1, hl2, hl3, h5, h8, h13⟩ := hM
  have hxl := hx.lt
  have HXF : Aside0 (g < w.heap.size) := ⟨hxl⟩
  have p : w.cell? ⟨g, 13, none⟩ = some (.slice A13 m.blocks.length c13) := (hx.cell 13).trans rfl
  have HE := Aside0.mk (blocksS.eq_def S m.blocks)
  clear h hS hx hl1 hl2 hl3 h5 h8 h13 h128
  obtain ⟨x, hx⟩ : ∃ x, countS S m.blocks.length 2 4096 2 = x := ⟨_, rfl⟩
  have HV : Aside0 (∀ r S', x = .ok (r, S') → OkT (N + 2) S' ∧ 0 ≤ r ∧ r ≤ 4096) := ⟨fun r S' e => HST.out.count (by rw [hx, e]) (by omega)⟩
  rw [hx] at HN HE
  clear hx
  generalize blocksS S m.blocks = X at HE ⊢
  go_enter Try.func48, Try.ntmps48
  go_wp2_with fail
  refine HN.out.mono ?_
  clear HN p
  cases x with
  | error x =>
    rintro e w2 ⟨G', hG', hT', he⟩
    have he2 : e = .panicked [{ v := .iface 63 (.agg #[.int .i64 x]), recovered := false }] := he
    subst he2
    clear he
    have HG := Aside0.mk hG'
    have HT := Aside0.mk hT'
    clear hG' hT'
    go_wp2_with fail
    rw [HE.out]
    exact ⟨rfl, EndsM.wrong (HM.out.blk14 hg) HG.out HT.out⟩
  | ok x =>
    obtain ⟨r, S'⟩ := x
    rintro e w2 ⟨G', hG', hT', rfl, hC2⟩
    obtain ⟨hv1, hv2, hv3⟩ := HV.out r S' rfl
    obtain ⟨n, rfl⟩ : ∃ n : Nat, r = n := ⟨r.toNat, by omega⟩
    have HK := Aside0.mk hv1
    have HE2 : Aside0 (X = if shortS S' n then .error 201 else rowS S' (pad m.blocks n [])) := ⟨HE.out⟩
    clear HE hv1
    have HA : Aside0 (Ahead lo w base G b g m S' n w2) := ⟨G', hG', hT', hC2, HM.out.turn hg hT' hG'⟩
    have hw128 : IntKind.i64.wrap ((n : Int) * 128) = (n : Int) * 128 := IntWalk.i64_in _ (by omega)
    go_upto_region 1 with (fail)
    go_cut [28] (fun v wx => v = .bool (shortS S' n) ∧ wx = w2)
    case first =>
      cases S' with
      | W l =>
        obtain ⟨q1, q2, v, q3, q4⟩ := hC2
        have p1 : w2.cell? ⟨b, 1, none⟩ = some (.bool false) := (q3.cell 1).trans rfl
        clear q1 q2 q3 q4 hG' hT'
        go_wp2_with fail
        go_meet
        exact ⟨rfl, rfl⟩
      | R l =>
        obtain ⟨q1, q2, A0, c0, q3, q4, q5⟩ := hC2
        have p1 : w2.cell? ⟨b, 1, none⟩ = some (.bool true) := (q3.cell 1).trans rfl
        have p0 : w2.cell? ⟨b, 0, none⟩ = some (.slice A0 l.length c0) := (q3.cell 0).trans rfl
        have HSH : Aside0 (decide ((l.length : Int) < (n : Int) * 128) = shortS (.R l) n) := ⟨by unfold shortS; congr 1; apply propext; omega⟩
        clear q1 q2 q3 q4 q5 hG' hT'
        go_wp2_with fail
        go_meet
        exact ⟨by rw [HSH.out], rfl⟩
    case rest =>
      obtain ⟨rfl, rfl⟩ := hcut
      cases hsh : shortS S' n with
      | true =>
        have HX : Aside0 (X = .error 201) := ⟨by rw [HE2.out, if_pos hsh]⟩
        have HG := Aside0.mk hG'
        have HT := Aside0.mk hT'
        clear hsh HE2 hG' hT'
        go_wp2_with fail
        rw [HX.out]
        exact ⟨rfl, EndsM.wrong (HM.out.blk14 hg) HG.out HT.out⟩
      | false =>
        have HX : Aside0 (X = rowS S' (pad m.blocks n [])) := ⟨by rw [HE2.out, if_neg (by rw [hsh]; simp)]⟩
        have hmk := run_make_27 n (by omega)
        obtain ⟨A5, c5, A8, c8, A13, c13, hx, hl1, hl2, hl3, h5, h8, h13⟩ := HM.out.turn hg hT' hG'
        have p2 : wc.cell? ⟨g, 13, none⟩ = some (.slice A13 m.blocks.length c13) := (hx.cell 13).trans rfl
        have hxl2 := hx.lt
        have hnew := N_new kB 24 (base := base) (ok := fun k => ¬ G' k ∧ Off lo g k) wc n #[.slice none 0 0] [] rfl (by decide) (Kd.FK_slice_mk (c := 0) (Nat.le_refl 0) (Kd.F_nil _ _ _)) ⟨fun h => by have := (hC2.2.1 _ h).1; omega, by omega⟩ hC2.size (by omega)
        rw [show n * Kd.sz kB = n from Nat.mul_one n] at hnew
        have hsrc := Kd.F_alloc (Kd.F_bound h13) (.cells (madeCells #[.slice none 0 0] n) 24)
        have HNEW := Aside0.mk hnew
        have HSRC := Aside0.mk hsrc
        have HMC := Aside0.mk (HM.out.turn hg hT' hG')
        have HC := Aside0.mk hC2
        have HG := Aside0.mk hG'
        have HT := Aside0.mk hT'
        clear hsh HE2 hx hl1 hl2 hl3 h5 h8 h13 hnew hsrc hC2 hG' hT' HA
        have HSZ : Aside0 ((Try.prog.info? 24).map (·.size) = some (Kd.sz kB)) := ⟨by kernel_rfl⟩
        go_wp2_with ((with_reducible refine gate_builtin (b := .copy) (xs := #[.tmp 33, .tmp 37]) rfl ?_); refine copy_N kB rfl (.tmp 33) (.tmp 37) 27 27 rfl 24 Try.underlying27 HSZ.out (by decide) (g := wc.heap.size) (n := n) (cap := n) (m := m.blocks.length) (c := c13) (A := A13) rfl rfl HNEW.out HSRC.out (fun k hk => ⟨hk.1, by have := hk.2; omega⟩) ?_; intro w3 hr3 ht3; have HR3 := Aside0.mk hr3; have HT3 := Aside0.mk ht3; clear hr3 ht3)
        have hgG : ¬ G' g := fun h => (HG.out g h).elim hg (fun h => by have := HXF.out; omega)
        have hT03 : ∀ Y : Nat → Prop, Turned Y wc w3 := fun Y => ((Turned.refl Y wc).alloc _).then_ HT3.out (fun k hk => .inr (Nat.le_of_eq hk.symm))
        have hls : wc.heap.size < w3.heap.size := Nat.lt_of_lt_of_le (Blk.new wc (madeCells #[.slice none 0 0] n) 24).lt HT3.out.size
        have HREL : Aside0 (RelB lo w base b g wc.heap.size n G m (N + 2) X (pad m.blocks n []) 0 w3 [] S' G') :=
          ⟨⟨rfl, by rw [HX.out, prep_nil]; rfl, HK.out, HG.out, HT.out.then_ (hT03 (fun _ => False)) (fun _ hk => hk.elim), HC.out.step (hT03 (fun _ => False)) (fun _ hk => hk.elim), HMC.out.turn hgG (hT03 _) (fun q hq => hq.imp id (fun h => Nat.le_of_eq h.symm)), HR3.out, HT.out.size, hls, HC.out.size⟩⟩
        clear hT03 hgG HR3 HT3 HNEW HSRC
        go_loopw [41] (fun i wr => ∃ (k : Nat) (D : List (List Int)) (Sk : St) (Gk : Nat → Prop), k ≤ n ∧ i = .int .i64 k ∧ Aside0 (RelB lo w base b g wc.heap.size n G m (N + 2) X (pad m.blocks n []) k wr D Sk Gk)) (fun i _ => n - (intOf i).toNat)
        case atStart => exact ⟨0, [], S', G', Nat.zero_le _, rfl, HREL⟩
        case round =>
          obtain ⟨k, D, Sk, Gk, hkn, rfl, HR⟩ := hrel
          clear HREL
          have hgk : ¬ Gk g := fun h => (HR.out.own g h).elim hg (fun h => by have := HXF.out; omega)
          have hgl : g < wr.heap.size := Nat.lt_of_lt_of_le HXF.out HR.out.turn.size
          have HGK := Aside0.mk hgk
          clear hgk
          by_cases hlt : k < n
          · have hpl := pad_length m.blocks n ([] : List Int)
            obtain ⟨A, c, hcell, hlc, hF⟩ := HR.out.elem hpl hlt
            have hx128 : ((pad m.blocks n [])[k]'(by omega)).length ≤ 128 := by
              have hmem := List.getElem_mem (show k < (pad m.blocks n []).length by omega)
              rcases List.mem_append.1 hmem with hmem | hmem
              · exact H128.out _ (List.mem_of_mem_take hmem)
              · rw [List.eq_of_mem_replicate (List.mem_of_mem_drop hmem)]; exact Nat.zero_le _
            have HBY := Aside0.mk (bytes_any HR.out.cod A c ((pad m.blocks n [])[k]'(by omega)) 128 hlc hF (HR.out.ok.fits _ (by omega)))
            have HNX := Aside0.mk (fun {w5 : World} {G2 : Nat → Prop} {r : List Int} {S2 : St} {A3 : Option Addr} {c3 : Nat} (hs : step Sk ((pad m.blocks n [])[k]'(by omega)) 128 = .ok (r, S2)) => HR.out.next hpl hlt HGK.out hgl (by omega) (w5 := w5) (G2 := G2) (A3 := A3) (c3 := c3) hs hx128)
            have HWR := Aside0.mk (fun {e : Int} (hs : step Sk ((pad m.blocks n [])[k]'(by omega)) 128 = .error e) => (HR.out.spec.trans (prep_wrong (D := D) (by omega) hs)))
            clear hF hx128
            generalize (pad m.blocks n [])[k]'(by omega) = x at *
            generalize step Sk x 128 = y at *
            go_wp2_with fail
            refine HBY.out.mono ?_
            cases y with
            | error y =>
              rintro e w5 ⟨G2, hG2, hT2, he⟩
              have he2 : e = .panicked [{ v := .iface 63 (.agg #[.int .i64 y]), recovered := false }] := he
              subst he2
              have HX2 := Aside0.mk (HWR.out rfl)
              have HE2 : Aside0 (EndsM lo w base G b g (.error y) (wrongs y) w5) := ⟨EndsM.wrong (HM.out.blk14 hg) (fun q hq => (hG2 q hq).elim (HR.out.own q) (fun h2 => .inr (Nat.le_trans HR.out.turn.size h2))) (HR.out.turn.then_ hT2 HR.out.own)⟩
              clear hG2 hT2 he
              go_wp2_with fail
              rw [HX2.out]
              exact ⟨rfl, HE2.out⟩
            | ok y =>
              obtain ⟨q, S3⟩ := y
              rintro e w5 ⟨G2, hG2, hT2, ⟨A3, c3, rfl, hc3, hF3⟩, hC3⟩
              obtain ⟨hrel2, ⟨v5, hc5⟩, hf5⟩ := HNX.out rfl hG2 hT2 hc3 hF3 hC3
              have HREL2 := Aside0.mk hrel2
              clear hG2 hT2 hF3 hC3 hrel2
              go_wp2_with fail
              go_roundw
              case rel => exact ⟨k + 1, D ++ [q], S3, G2, by omega, by go_num, HREL2⟩
              case measure => simp [intOf]; omega
          · obtain rfl : k = n := by omega
            have hd : (pad m.blocks k ([] : List Int)).drop k = [] := List.drop_eq_nil_of_le (by rw [pad_length]; exact Nat.le_refl _)
            have hrow := HR.out.row
            have hspec := HR.out.spec
            have hlen := HR.out.len
            rw [hd, List.append_nil] at hrow
            rw [hd] at hspec
            have hspec2 : X = .ok (D, Sk) := by rw [hspec]; simp [rowS, prep]
            obtain ⟨A5, c5, A8, c8, A13, c13, hx, hl1, hl2, hl3, h5, h8, h13⟩ := HR.out.msg
            have hFD := Kd.N_F hrow
            have hmono : ∀ q, ¬ (Gk q ∨ q = wc.heap.size) ∧ Off lo g q → ¬ Gk q ∧ Off lo g q := fun q hq => ⟨fun h => hq.1 (.inl h), hq.2⟩
            have HEND : Aside0 (EndsM lo w base G b g (.ok ({ m with blocks := D }, Sk)) (.returned (.tuple #[])) (wr.setCell ⟨g, 13, none⟩ (.slice (some ⟨wc.heap.size, 0, none⟩) k k))) :=
              ⟨EndsM.right HR.out.own HR.out.turn HGK.out hb HR.out.cod ⟨A5, c5, A8, c8, some ⟨wc.heap.size, 0, none⟩, k, (by rw [← hlen]; exact hx.set 13 _), hl1, hl2, (by rw [← hlen]; exact Nat.le_refl _), F_set (Kd.F_mono h5 hmono) _, F_set (Kd.F_mono h8 hmono) _, (by rw [hlen]; exact F_set hFD _)⟩⟩
            have pe : wr.cell? ⟨g, 13, none⟩ = some (.slice A13 m.blocks.length c13) := (hx.cell 13).trans rfl
            have pf : wr.frozen? ⟨g, 13, none⟩ = false := hx.free 13
            have HX2 := Aside0.mk hspec2
            clear hd hrow hspec hspec2 hx hl1 hl2 hl3 h5 h8 h13 hFD hmono
            go_wp2_with fail
            rw [HX2.out]
            refine bodyPost_end (results_none rfl _ _ _) rfl ?_
            exact HEND.out
end Go.Proofs.Ytmjbdeoomohanaa.Mine

/- wire: what holds within a round of log. -/
set_option linter.unusedSimpArgs false
set_option linter.unusedVariables false
namespace Go.Proofs.Ytmjbdeoomohanaa.Mine
open Go.RowKit Go.Maps Go.Proofs.YtmjbdeoomohanaaW.PrintWords Go.Proofs.YtmjbdeoomohanaaW.PrintLast Go.Proofs.YtmjbdeoomohanaaW.PrintMore Go.Proofs.Ytmjbdeoomohanaa.PWirePacks Go.Proofs.Ytmjbdeoomohanaa.Turn
variable {lo : Nat}

def entS (S : St) (x : S44) : Except Int (S44 × St) :=
  match numS S x.f0 8 with
  | .error e => .error e
  | .ok (a, S1) => match numS S1 x.f1 8 with
    | .error e => .error e
    | .ok (c, S2) => match textS S2 x.f2 with
      | .error e => .error e
      | .ok (r, S3) => .ok (⟨a, c, r⟩, S3)
def rowL (S : St) : List S44 → Except Int (List S44 × St)
  | [] => .ok ([], S)
  | x :: xs => match entS S x with
    | .error e => .error e
    | .ok (r, S') => match rowL S' xs with
      | .error e => .error e
      | .ok (rs, S'') => .ok (r :: rs, S'')
def logS (S : St) (l : List S44) : Except Int (List S44 × St) :=
  match countS S l.length 1 64 2 with
  | .error x => .error x
  | .ok (n, S1) => rowL S1 (pad l n.toNat z44)

/-- Within a round: the row holds xs. -/
structure RelR (lo : Nat) (w : World) (base b g hh n : Nat) (G : Nat → Prop) (m : Msg) (wr : World) (xs : List S44) (S : St) (Gk : Nat → Prop) : Prop where
  own : ∀ q, Gk q → G q ∨ w.heap.size ≤ q
  turn : Turned G w wr
  cod : Cod wr base Gk b S
  msg : MsgAt lo wr g (fun q => Gk q ∨ q = hh) m
  row : Kd.N k44 44 wr base (fun k => ¬ Gk k ∧ Off lo g k) (.slice (some ⟨hh, 0, none⟩) n n) xs
  new : w.heap.size ≤ hh ∧ hh < wr.heap.size ∧ base ≤ hh
  apart : ¬ Gk g ∧ g < wr.heap.size ∧ hh ≠ g

theorem RelR.turned {w : World} {base b g hh n : Nat} {G : Nat → Prop} {m : Msg} {wr : World} {xs : List S44} {S : St} {Gk : Nat → Prop} (h : RelR lo w base b g hh n G m wr xs S Gk) {w5 : World} {G2 : Nat → Prop} {S2 : St} (hG2 : ∀ q, G2 q → Gk q ∨ wr.heap.size ≤ q) (hT : Turned Gk wr w5) (hC : Cod w5 base G2 b S2) : RelR lo w base b g hh n G m w5 xs S2 G2 := by
  obtain ⟨h1, h2, h3, h4, h5, h6, h7⟩ := h
  refine ⟨fun q hq => (hG2 q hq).elim (h1 q) (fun h => .inr (Nat.le_trans h2.size h)), h2.then_ hT h1, hC, ?_, N_turn h7.2.1 h5 hT hG2, ⟨h6.1, Nat.lt_of_lt_of_le h6.2.1 hT.size, h6.2.2⟩, ⟨fun h => (hG2 g h).elim h7.1 (fun h => by have := h7.2.1; omega), Nat.lt_of_lt_of_le h7.2.1 hT.size, h7.2.2⟩⟩
  exact h4.turn (fun hq => hq.elim h7.1 (fun e => h7.2.2 e.symm)) ((Turned.refl _ wr).then_ hT (fun _ h => .inl (.inl h))) (fun q hq => hq.elim (fun h => (hG2 q h).imp .inl id) (fun h => .inl (.inr h)))

theorem RelR.below {w : World} {base b g hh n : Nat} {G : Nat → Prop} {m : Msg} {wr : World} {xs : List S44} {S : St} {Gk : Nat → Prop} (h : RelR lo w base b g hh n G m wr xs S Gk) {w5 : World} (hb : Below wr.heap.size wr w5) : RelR lo w base b g hh n G m w5 xs S Gk :=
  h.turned (fun _ hq => .inl hq) (Turned.of_below hb _) (h.cod.below hb)
theorem FK44_open {W : World} {ok : Nat → Prop} {x : S44} {cs : List Value} (h : Kd.FK k44 W ok x cs) : ∃ A c, cs = [.int .u64 x.f0, .int .u64 x.f1, .slice A x.f2.length c] ∧ x.f2.length ≤ c ∧ Kd.F (Kd.int .u8) W ok A x.f2.length x.f2 := by
  obtain ⟨A, c, rfl, hl, _⟩ := k44_open (Kd.FK_now h)
  refine ⟨A, c, rfl, hl, fun W' hW => ?_⟩
  obtain ⟨A', c', e, _, hC⟩ := k44_open (h W' hW)
  simp only [List.cons.injEq, Value.slice.injEq, true_and, and_true] at e
  obtain ⟨rfl, rfl⟩ := e
  exact hC
theorem FK44_mk {W : World} {ok : Nat → Prop} {x : S44} {A : Option Addr} {c : Nat} (hl : x.f2.length ≤ c) (hF : Kd.F (Kd.int .u8) W ok A x.f2.length x.f2) : Kd.FK k44 W ok x [.int .u64 x.f0, .int .u64 x.f1, .slice A x.f2.length c] := fun W' hW => k44_mk W' x hl (hF W' hW)

theorem RelR.elem {w : World} {base b g hh n : Nat} {G : Nat → Prop} {m : Msg} {wr : World} {xs : List S44} {S : St} {Gk : Nat → Prop} (h : RelR lo w base b g hh n G m wr xs S Gk) {k : Nat} (hk : k < n) :
    ∃ A c, (xs.getD k z44).f2.length ≤ c ∧ Kd.F (Kd.int .u8) wr (fun q => ¬ Gk q ∧ (Off lo g q ∧ q ≠ hh)) A (xs.getD k z44).f2.length (xs.getD k z44).f2 ∧
      (∀ j u, ([.int .u64 (xs.getD k z44).f0, .int .u64 (xs.getD k z44).f1, .slice A (xs.getD k z44).f2.length c] : List Value)[j]? = some u → wr.cell? ⟨hh, k * 3 + j, none⟩ = some u) ∧ ∀ j, wr.frozen? ⟨hh, k * 3 + j, none⟩ = false := by
  obtain ⟨c, hc1, hc2, hc3, hc4⟩ := Kd.N_elem h.row z44 (k : Int) (by omega) (by omega)
  rw [Int.toNat_natCast] at hc2 hc3 hc4
  obtain ⟨A, c', hce, hl, hF⟩ := FK44_open hc2
  subst hce
  exact ⟨A, c', hl, Kd.F_mono hF (fun q hq => ⟨hq.1.1, hq.1.2, hq.2⟩), hc3, hc4⟩

theorem RelR.stored {w : World} {base b g hh n : Nat} {G : Nat → Prop} {m : Msg} {wr : World} {xs : List S44} {S : St} {Gk : Nat → Prop} (h : RelR lo w base b g hh n G m wr xs S Gk) {k j : Nat} (hk : k < n) (hj : j < 3) (u : Value) (c : List Value) (x' : S44) (hcl : c.length = 3) (hcc : ∀ j u, c[j]? = some u → wr.cell? ⟨hh, k * 3 + j, none⟩ = some u)
    (hM : Kd.FK k44 wr (fun q => ¬ Gk q ∧ (Off lo g q ∧ q ≠ hh)) x' (c.take j ++ [u] ++ c.drop (j + 1))) : RelR lo w base b g hh n G m (wr.setCell ⟨hh, k * 3 + j, none⟩ u) (xs.set k x') S Gk := by
  have hseg := (Kd.N_seg h.row (k : Int) (by omega) (by omega) (c := c) (seg := [u]) (j := j) hcl (by rw [Int.toNat_natCast]; exact hcc) (show j + 1 ≤ 3 by omega) hM (fun q hq => ⟨⟨hq.1, hq.2.1⟩, hq.2.2⟩)).1
  rw [Int.toNat_natCast] at hseg
  obtain ⟨h1, h2, h3, h4, h5, h6, h7⟩ := h
  have hok := h5.1 hh (by simp [Value.ownBlock])
  have hs : (wr.setCell ⟨hh, k * 3 + j, none⟩ u).heap.size = wr.heap.size := by simp [World.setCell]
  refine ⟨h1, h2.setCell (.inr h6.1) _, h3.step (X := fun q => q = hh) ((Turned.refl (fun q => q = hh) wr).setCell (.inl rfl) _) (fun q hq => by rw [hq]; exact ⟨hok.1, h6.2.2⟩), ?_, hseg, by rw [hs]; exact h6, by rw [hs]; exact h7⟩
  exact h4.turn (fun hq => hq.elim h7.1 (fun e => h7.2.2 e.symm)) ((Turned.refl (fun q => Gk q ∨ q = hh) wr).setCell (.inl (.inr rfl)) u) (fun q hq => .inl hq)
end Go.Proofs.Ytmjbdeoomohanaa.Mine

/- wire: log. -/
set_option linter.unusedSimpArgs false
set_option linter.unusedVariables false
namespace Go.Proofs.Ytmjbdeoomohanaa.Mine
open Go.RowKit Go.Maps Go.Proofs.YtmjbdeoomohanaaW.PrintWords Go.Proofs.YtmjbdeoomohanaaW.PrintLast Go.Proofs.YtmjbdeoomohanaaW.PrintMore Go.Proofs.Ytmjbdeoomohanaa.PWirePacks Go.Proofs.Ytmjbdeoomohanaa.Turn
variable {lo : Nat}

def prepL (D : List S44) (x : Except Int (List S44 × St)) : Except Int (List S44 × St) :=
  match x with
  | .error e => .error e
  | .ok (rs, S) => .ok (D ++ rs, S)
theorem prepL_nil (x : Except Int (List S44 × St)) : prepL [] x = x := by
  rcases x with e | ⟨r, S⟩ <;> rfl
theorem F_apart2 {α : Type} {d : Kd α} {w w' : World} {G G' : Nat → Prop} {g hh : Nat} {A : Option Addr} {n : Nat} {l : List α} (hg : g < w.heap.size) (hh2 : hh < w.heap.size) (hr : Kd.F d w (fun k => ¬ G k ∧ (Off lo g k ∧ k ≠ hh)) A n l) (ht : Turned G w w') (hG : ∀ k, G' k → G k ∨ w.heap.size ≤ k) : Kd.F d w' (fun k => ¬ G' k ∧ (Off lo g k ∧ k ≠ hh)) A n l :=
  Kd.F_mono (F_turn (Q := fun k => Off lo g k ∧ k ≠ hh) hr ht hG) (fun k hk => ⟨hk.1, hk.2.elim id (fun h => by omega)⟩)
theorem OkT.text {N : Nat} {S S' : St} {bs r : List Int} (h : OkT N S) (hs : textS S bs = .ok (r, S')) (hN : N ≤ 1099511627776) : OkT (N + 2 + bs.length) S' := by
  unfold textS at hs
  split at hs
  · cases hs
  · rename_i m S1 h1
    exact (h.count h1 hN).1.step hs
theorem rowL_step {D : List S44} {S S2 : St} {L : List S44} {k : Nat} {r : S44} (hk : k < L.length) (hs : entS S L[k] = .ok (r, S2)) : prepL D (rowL S (L.drop k)) = prepL (D ++ [r]) (rowL S2 (L.drop (k + 1))) := by
  rw [List.drop_eq_getElem_cons hk]
  simp only [rowL, hs]
  cases rowL S2 (L.drop (k + 1)) with
  | error e => rfl
  | ok x =>
    obtain ⟨rs, S3⟩ := x
    simp [prepL]
/-- Ahead of round k of log. -/
def Ring (lo : Nat) (w : World) (base b g hh n : Nat) (G : Nat → Prop) (m : Msg) (N : Nat) (X : Except Int (List S44 × St)) (L : List S44) (k : Nat) (wr : World) (D : List S44) (S : St) (Gk : Nat → Prop) : Prop :=
  D.length = k ∧ X = prepL D (rowL S (L.drop k)) ∧ OkT (N + 4096 * k) S ∧ RelR lo w base b g hh n G m wr (D ++ L.drop k) S Gk

set_option maxHeartbeats 4000000 in
theorem logM_any {w : World} {base b g : Nat} {G : Nat → Prop} {S : St} {m : Msg} (h : Cod w base G b S) (hM : MsgAt lo w g G m) (hg : ¬ G g) (hb : base ≤ g) {N : Nat} (hS : OkT N S) (hN : N ≤ 274877906944) (hn : m.log.length ≤ 65536) (hok : ∀ x ∈ m.log, x.f2.length ≤ 2048 ∧ 0 ≤ x.f0 ∧ x.f0 < 18446744073709551616 ∧ 0 ≤ x.f1 ∧ x.f1 < 18446744073709551616) :
    Calls Try.prog 40 #[.pointer (some ⟨b, 0, none⟩), .pointer (some ⟨g, 0, none⟩)] w fun e w' => EndsM lo w base G b g (thenS (logS S m.log) fun v => { m with log := v }) e w' := by
  have HN := Aside0.mk (count_any h (hS.ok (by omega)) m.log.length (by omega) (by omega) 1 (by omega) (by omega) 64 2 (by omega) (by omega))
  have HM := Aside0.mk hM
  have HST := Aside0.mk hS
  have HOK := Aside0.mk hok
  obtain ⟨A5, c5, A8, c8, A13, c13, hx, hl1, hl2, hl3, h5, h8, h13⟩ := hM
  have hxl := hx.lt
  have HXF : Aside0 (g < w.heap.size) := ⟨hxl⟩
  have p : w.cell? ⟨g, 5, none⟩ = some (.slice A5 m.log.length c5) := (hx.cell 5).trans rfl
  have HE := Aside0.mk (logS.eq_def S m.log)
  clear h hS hx hl1 hl2 hl3 h5 h8 h13 hok
  obtain ⟨x, hx⟩ : ∃ x, countS S m.log.length 1 64 2 = x := ⟨_, rfl⟩
  have HV : Aside0 (∀ r S', x = .ok (r, S') → OkT (N + 1) S' ∧ 0 ≤ r ∧ r ≤ 64) := ⟨fun r S' e => HST.out.count (by rw [hx, e]) (by omega)⟩
  rw [hx] at HN HE
  clear hx
  generalize logS S m.log = X at HE ⊢
  go_enter Try.func40, Try.ntmps40
  go_wp2_with fail
  refine HN.out.mono ?_
  clear HN p
  cases x with
  | error x =>
    rintro e w2 ⟨G', hG', hT', he⟩
    have he2 : e = .panicked [{ v := .iface 63 (.agg #[.int .i64 x]), recovered := false }] := he
    subst he2
    clear he
    have HG := Aside0.mk hG'
    have HT := Aside0.mk hT'
    clear hG' hT'
    go_wp2_with fail
    rw [HE.out]
    exact ⟨rfl, EndsM.wrong (HM.out.blk14 hg) HG.out HT.out⟩
  | ok x =>
    obtain ⟨r, S'⟩ := x
    rintro e wc ⟨G', hG', hT', rfl, hC2⟩
    obtain ⟨hv1, hv2, hv3⟩ := HV.out r S' rfl
    obtain ⟨n, rfl⟩ : ∃ n : Nat, r = n := ⟨r.toNat, by omega⟩
    have HK := Aside0.mk hv1
    have HX : Aside0 (X = rowL S' (pad m.log n z44)) := ⟨HE.out⟩
    clear HE hv1
    have hmk := run_make_23 n (by omega)
    obtain ⟨A5, c5, A8, c8, A13, c13, hx, hl1, hl2, hl3, h5, h8, h13⟩ := HM.out.turn hg hT' hG'
    have p2 : wc.cell? ⟨g, 5, none⟩ = some (.slice A5 m.log.length c5) := (hx.cell 5).trans rfl
    have hxl2 := hx.lt
    have hnew := N_new k44 44 (base := base) (ok := fun k => ¬ G' k ∧ Off lo g k) wc n #[.int .u64 0, .int .u64 0, .slice none 0 0] z44 rfl (by decide) (FK44_mk (x := z44) (c := 0) (Nat.le_refl 0) (Kd.F_nil _ _ _)) ⟨fun h => by have := (hC2.2.1 _ h).1; omega, by omega⟩ hC2.size (by omega)
    rw [show Kd.sz k44 = 3 from rfl] at hnew
    have hsrc := Kd.F_alloc (Kd.F_bound h5) (.cells (madeCells #[.int .u64 0, .int .u64 0, .slice none 0 0] (n * 3)) 44)
    have HNEW := Aside0.mk hnew
    have HSRC := Aside0.mk hsrc
    have HMC := Aside0.mk (HM.out.turn hg hT' hG')
    have HC := Aside0.mk hC2
    have HG := Aside0.mk hG'
    have HT := Aside0.mk hT'
    clear hx hl1 hl2 hl3 h5 h8 h13 hnew hsrc hC2 hG' hT'
    have HSZ : Aside0 ((Try.prog.info? 44).map (·.size) = some (Kd.sz k44)) := ⟨by kernel_rfl⟩
    go_wp2_with ((with_reducible refine gate_builtin (b := .copy) (xs := #[.tmp 17, .tmp 21]) rfl ?_); refine copy_N k44 rfl (.tmp 17) (.tmp 21) 23 23 rfl 44 Try.underlying23 HSZ.out (by decide) (g := wc.heap.size) (n := n) (cap := n) (m := m.log.length) (c := c5) (A := A5) rfl rfl HNEW.out HSRC.out (fun k hk => ⟨hk.1, by have := hk.2; omega⟩) ?_; intro w3 hr3 ht3; have HR3 := Aside0.mk hr3; have HT3 := Aside0.mk ht3; clear hr3 ht3)
    have hgG : ¬ G' g := fun h => (HG.out g h).elim hg (fun h => by have := HXF.out; omega)
    have hT03 : ∀ Y : Nat → Prop, Turned Y wc w3 := fun Y => ((Turned.refl Y wc).alloc _).then_ HT3.out (fun k hk => .inr (Nat.le_of_eq hk.symm))
    have hls : wc.heap.size < w3.heap.size := Nat.lt_of_lt_of_le (Blk.new wc (madeCells #[.int .u64 0, .int .u64 0, .slice none 0 0] (n * 3)) 44).lt HT3.out.size
    have HREL : Aside0 (Ring lo w base b g wc.heap.size n G m (N + 1) X (pad m.log n z44) 0 w3 [] S' G') :=
      ⟨⟨rfl, by rw [HX.out, prepL_nil]; rfl, HK.out, ⟨HG.out, HT.out.then_ (hT03 (fun _ => False)) (fun _ hk => hk.elim), HC.out.step (hT03 (fun _ => False)) (fun _ hk => hk.elim), HMC.out.turn hgG (hT03 _) (fun q hq => hq.imp id (fun h => Nat.le_of_eq h.symm)), HR3.out, ⟨HT.out.size, hls, HC.out.size⟩, ⟨hgG, by omega, by omega⟩⟩⟩⟩
    clear hT03 hgG HR3 HT3 HNEW HSRC
    go_loopw [25] (fun i wr => ∃ (k : Nat) (D : List S44) (Sk : St) (Gk : Nat → Prop), k ≤ n ∧ i = .int .i64 k ∧ Aside0 (Ring lo w base b g wc.heap.size n G m (N + 1) X (pad m.log n z44) k wr D Sk Gk)) (fun i _ => n - (intOf i).toNat)
    case atStart => exact ⟨0, [], S', G', Nat.zero_le _, rfl, HREL⟩
    case round =>
      obtain ⟨k, D, Sk, Gk, hkn, rfl, HR⟩ := hrel
      clear HREL
      by_cases hlt : k < n
      · obtain ⟨hlen, hspec, hokt, hr⟩ := HR.out
        obtain ⟨A, c, hlc, hF, hcc, hfr⟩ := hr.elem hlt
        have hxe : (D ++ (pad m.log n z44).drop k).getD k z44 = (pad m.log n z44)[k]'(by rw [pad_length]; exact hlt) := by
          rw [List.getD_eq_getElem?_getD, List.getElem?_append_right (by rw [hlen]; exact Nat.le_refl _), hlen, Nat.sub_self, List.getElem?_drop, Nat.add_zero, List.getElem?_eq_getElem (by rw [pad_length]; exact hlt)]
          rfl
        have HXE := Aside0.mk hxe
        generalize hxg : (D ++ (pad m.log n z44).drop k).getD k z44 = x at hlc hF hcc HXE
        have HXG := Aside0.mk hxg
        have x0 : wr.cell? ⟨wc.heap.size, k * 3, none⟩ = some (.int .u64 x.f0) := hcc 0 _ rfl
        have x1 : wr.cell? ⟨wc.heap.size, k * 3 + 1, none⟩ = some (.int .u64 x.f1) := hcc 1 _ rfl
        have x2 : wr.cell? ⟨wc.heap.size, k * 3 + 2, none⟩ = some (.slice A x.f2.length c) := hcc 2 _ rfl
        have HF := Aside0.mk hF
        have HCC := Aside0.mk hcc
        have HRR := Aside0.mk hr
        have HOT := Aside0.mk hokt
        have HSP := Aside0.mk hspec
        clear hF hcc hfr hr hokt hspec hxe hxg
        have hxb : 0 ≤ x.f0 ∧ x.f0 < 18446744073709551616 ∧ 0 ≤ x.f1 ∧ x.f1 < 18446744073709551616 ∧ x.f2.length ≤ 2048 := by
          have hmem := List.getElem_mem (show k < (pad m.log n z44).length by rw [pad_length]; exact hlt)
          rw [← HXE.out] at hmem
          rcases List.mem_append.1 hmem with hmem | hmem
          · obtain ⟨a1, a2, a3, a4, a5⟩ := HOK.out _ (List.mem_of_mem_take hmem)
            exact ⟨a2, a3, a4, a5, a1⟩
          · rw [List.eq_of_mem_replicate (List.mem_of_mem_drop hmem)]
            exact ⟨by decide, by decide, by decide, by decide, by decide⟩
        obtain ⟨b0, b1, b2, b3, b4⟩ := hxb
        have HR1 := Aside0.mk (HRR.out.below (below_alloc (Below.refl _ wr) (.cells #[.int .u64 x.f0, .int .u64 x.f1, .slice A x.f2.length c] 44)))
        have HB1 := Aside0.mk (Blk.new wr #[.int .u64 x.f0, .int .u64 x.f1, .slice A x.f2.length c] 44)
        go_wp2_with fail
        have HSY := Aside0.mk (OkT.ok HOT.out (by omega))
        have HW : Aside0 (∀ e : Int, entS Sk x = .error e → X = .error e) := ⟨fun e he => by rw [HSP.out, List.drop_eq_getElem_cons (show k < (pad m.log n z44).length by rw [pad_length]; exact hlt), ← HXE.out]; simp [rowL, he, prepL]⟩
        refine (number_any HR1.out.cod HSY.out x.f0 b0 b1 8 (by omega) (by omega)).mono ?_
        obtain ⟨y, hy⟩ : ∃ y, step Sk (be x.f0 8) 8 = y := ⟨_, rfl⟩
        rw [hy]
        cases y with
        | error y =>
          rintro e w5 ⟨G2, hG2, hT2, he⟩
          have he2 : e = .panicked [{ v := .iface 63 (.agg #[.int .i64 y]), recovered := false }] := he
          subst he2
          have HX2 := Aside0.mk (HW.out y (by simp [entS, numS, hy]))
          have HE2 : Aside0 (EndsM lo w base G b g (.error y) (wrongs y) w5) := ⟨EndsM.wrong (HM.out.blk14 hg) (fun q hq => (hG2 q hq).elim (HR1.out.own q) (fun h2 => .inr (Nat.le_trans HR1.out.turn.size h2))) (HR1.out.turn.then_ hT2 HR1.out.own)⟩
          clear hG2 hT2 he
          go_wp2_with fail
          rw [HX2.out]
          exact ⟨rfl, HE2.out⟩
        | ok y =>
          obtain ⟨r1, S1⟩ := y
          rintro e w5 ⟨G2, hG2, hT2, rfl, hC2⟩
          have HR2 := Aside0.mk (HR1.out.turned hG2 hT2 hC2)
          have HF2 := Aside0.mk (F_apart2 HR1.out.apart.2.1 HR1.out.new.2.1 (Kd.F_alloc HF.out _) hT2 hG2)
          have hgk : ¬ Gk wr.heap.size := fun h => by have := (HRR.out.cod.2.1 _ h).1; omega
          have HB2 := Aside0.mk (hT2.blk HB1.out hgk)
          have hbl2 := Blk.lt HB2.out
          obtain ⟨A', c', hl', hF', hcc', hfr'⟩ := HR2.out.elem hlt
          rw [HXG.out] at hl' hF' hcc'
          have y0 : w5.cell? ⟨wc.heap.size, k * 3, none⟩ = some (.int .u64 x.f0) := hcc' 0 _ rfl
          have f0 : w5.frozen? ⟨wc.heap.size, k * 3, none⟩ = false := hfr' 0
          have z1 : w5.cell? ⟨wr.heap.size, 1, none⟩ = some (.int .u64 x.f1) := (Blk.cell HB2.out 1).trans rfl
          have HR3 := Aside0.mk (HR2.out.stored (j := 0) hlt (by omega) (.int .u64 (val r1)) [.int .u64 x.f0, .int .u64 x.f1, .slice A' x.f2.length c'] ⟨val r1, x.f1, x.f2⟩ rfl hcc' (FK44_mk (x := ⟨val r1, x.f1, x.f2⟩) hl' hF'))
          have HOT2 := Aside0.mk (HOT.out.step hy)
          have hgk2 : ¬ G2 wr.heap.size := fun h => (hG2 _ h).elim hgk (fun h2 => by have := Blk.lt HB1.out; omega)
          clear hG2 hT2 hC2 hF' hcc' hfr'
          go_wp2_with fail
          have HSY2 := Aside0.mk (OkT.ok HOT2.out (by rw [be_len]; omega))
          refine (number_any HR3.out.cod HSY2.out x.f1 b2 b3 8 (by omega) (by omega)).mono ?_
          obtain ⟨y2, hy2⟩ : ∃ y, step S1 (be x.f1 8) 8 = y := ⟨_, rfl⟩
          rw [hy2]
          cases y2 with
          | error y =>
            rintro e w6 ⟨G3, hG3, hT3, he⟩
            have he2 : e = .panicked [{ v := .iface 63 (.agg #[.int .i64 y]), recovered := false }] := he
            subst he2
            have HX2 := Aside0.mk (HW.out y (by simp [entS, numS, hy, hy2]))
            have HE2 : Aside0 (EndsM lo w base G b g (.error y) (wrongs y) w6) := ⟨EndsM.wrong (HM.out.blk14 hg) (fun q hq => (hG3 q hq).elim (HR3.out.own q) (fun h2 => .inr (Nat.le_trans HR3.out.turn.size h2))) (HR3.out.turn.then_ hT3 HR3.out.own)⟩
            clear hG3 hT3 he
            go_wp2_with fail
            rw [HX2.out]
            exact ⟨rfl, HE2.out⟩
          | ok y =>
            obtain ⟨r2, S2⟩ := y
            rintro e w6 ⟨G3, hG3, hT3, rfl, hC3⟩
            have HR4 := Aside0.mk (HR3.out.turned hG3 hT3 hC3)
            have HF3 := Kd.F_far HF2.out (p := ⟨wc.heap.size, k * 3, none⟩) (fun q hq => hq.2.2) (.int .u64 (val r1))
            have HF4 := F_apart2 HR3.out.apart.2.1 HR3.out.new.2.1 HF3 hT3 hG3
            have HF5 := Aside0.mk (Kd.F_far HF4 (p := ⟨wc.heap.size, k * 3 + 1, none⟩) (fun q hq => hq.2.2) (.int .u64 (val r2)))
            have hne : wr.heap.size ≠ wc.heap.size := by have := HRR.out.new.2.1; omega
            have HB3 : Aside0 (Blk (w5.setCell ⟨wc.heap.size, k * 3, none⟩ (.int .u64 (val r1))) wr.heap.size #[.int .u64 x.f0, .int .u64 x.f1, .slice A x.f2.length c] 44) := ⟨(Below.heap_setCell w5 _ _ wr.heap.size hne).trans HB2.out⟩
            have HB4 := Aside0.mk (hT3.blk HB3.out hgk2)
            have hbl4 := Blk.lt HB4.out
            have HGE : Aside0 (((D ++ (pad m.log n z44).drop k).set k ⟨val r1, x.f1, x.f2⟩).getD k z44 = ⟨val r1, x.f1, x.f2⟩) := ⟨by rw [List.getD_eq_getElem?_getD, List.getElem?_set_self (by rw [List.length_append, List.length_drop, pad_length, hlen]; omega)]; rfl⟩
            obtain ⟨A4, c4, hl4, hF4, hcc4, hfr4⟩ := HR4.out.elem hlt
            rw [HGE.out] at hl4 hF4 hcc4
            have v1 : w6.cell? ⟨wc.heap.size, k * 3 + 1, none⟩ = some (.int .u64 x.f1) := hcc4 1 _ rfl
            have g1 : w6.frozen? ⟨wc.heap.size, k * 3 + 1, none⟩ = false := hfr4 1
            have z2 : w6.cell? ⟨wr.heap.size, 2, none⟩ = some (.slice A x.f2.length c) := (Blk.cell HB4.out 2).trans rfl
            have HR5 := Aside0.mk (HR4.out.stored (j := 1) hlt (by omega) (.int .u64 (val r2)) [.int .u64 (val r1), .int .u64 x.f1, .slice A4 x.f2.length c4] ⟨val r1, val r2, x.f2⟩ rfl hcc4 (FK44_mk (x := ⟨val r1, val r2, x.f2⟩) hl4 hF4))
            have HOT3 := Aside0.mk (HOT2.out.step hy2)
            have hgk3 : ¬ G3 wr.heap.size := fun h => (hG3 _ h).elim hgk2 (fun h2 => Nat.lt_irrefl _ (Nat.lt_of_lt_of_le (Blk.lt HB3.out) h2))
            clear hG3 hT3 hC3 hF4 hcc4 hfr4 HF3 HF4
            go_wp2_with fail
            refine (text_any HR5.out.cod HOT3.out (by rw [be_len, be_len]; omega) A c x.f2 hlc (by omega) HF5.out).mono ?_
            obtain ⟨y3, hy3⟩ : ∃ y, textS S2 x.f2 = y := ⟨_, rfl⟩
            rw [hy3]
            cases y3 with
            | error y =>
              rintro e w7 ⟨G4, hG4, hT4, he⟩
              have he2 : e = .panicked [{ v := .iface 63 (.agg #[.int .i64 y]), recovered := false }] := he
              subst he2
              have HX2 := Aside0.mk (HW.out y (by simp [entS, numS, hy, hy2, hy3]))
              have HE2 : Aside0 (EndsM lo w base G b g (.error y) (wrongs y) w7) := ⟨EndsM.wrong (HM.out.blk14 hg) (fun q hq => (hG4 q hq).elim (HR5.out.own q) (fun h2 => .inr (Nat.le_trans HR5.out.turn.size h2))) (HR5.out.turn.then_ hT4 HR5.out.own)⟩
              clear hG4 hT4 he
              go_wp2_with fail
              rw [HX2.out]
              exact ⟨rfl, HE2.out⟩
            | ok y =>
              obtain ⟨r3, S3⟩ := y
              rintro e w7 ⟨G4, hG4, hT4, ⟨A6, c6, rfl, hc6, hF6⟩, hC4⟩
              have HR6 := Aside0.mk (HR5.out.turned hG4 hT4 hC4)
              have HGE2 : Aside0 ((((D ++ (pad m.log n z44).drop k).set k ⟨val r1, x.f1, x.f2⟩).set k ⟨val r1, val r2, x.f2⟩).getD k z44 = ⟨val r1, val r2, x.f2⟩) := ⟨by rw [List.getD_eq_getElem?_getD, List.getElem?_set_self (by rw [List.length_set, List.length_append, List.length_drop, pad_length, hlen]; omega)]; rfl⟩
              obtain ⟨A7, c7, hl7, hF7, hcc7, hfr7⟩ := HR6.out.elem hlt
              rw [HGE2.out] at hl7 hF7 hcc7
              have v2 : w7.cell? ⟨wc.heap.size, k * 3 + 2, none⟩ = some (.slice A7 x.f2.length c7) := hcc7 2 _ rfl
              have g2 : w7.frozen? ⟨wc.heap.size, k * 3 + 2, none⟩ = false := hfr7 2
              have hg5 := HR5.out.apart.2.1
              have hh5 := HR5.out.new.2.1
              have HR7 := Aside0.mk (HR6.out.stored (j := 2) hlt (by omega) (.slice A6 r3.length c6) [.int .u64 (val r1), .int .u64 (val r2), .slice A7 x.f2.length c7] ⟨val r1, val r2, r3⟩ rfl hcc7 (FK44_mk (x := ⟨val r1, val r2, r3⟩) hc6 (Kd.F_mono hF6 (fun q hq => ⟨hq.1, hq.2.elim id (fun h => ⟨⟨by rintro rfl; exact Nat.lt_irrefl _ (Nat.lt_of_lt_of_le hg5 h), .inr (Nat.lt_of_lt_of_le hg5 h)⟩, by rintro rfl; exact Nat.lt_irrefl _ (Nat.lt_of_lt_of_le hh5 h)⟩)⟩))))
              have HEX : Aside0 (entS Sk x = .ok (⟨val r1, val r2, r3⟩, S3)) := ⟨by simp [entS, numS, hy, hy2, hy3]⟩
              have HOT4 := Aside0.mk (HOT3.out.text hy3 (by rw [be_len, be_len]; omega))
              have HRING : Aside0 (Ring lo w base b g wc.heap.size n G m (N + 1) X (pad m.log n z44) (k + 1) (w7.setCell ⟨wc.heap.size, k * 3 + 2, none⟩ (.slice A6 r3.length c6)) (D ++ [⟨val r1, val r2, r3⟩]) S3 G4) := by
                refine ⟨⟨by rw [List.length_append, hlen]; rfl, ?_, HOT4.out.mono (by rw [be_len, be_len]; omega), ?_⟩⟩
                · rw [HSP.out]
                  exact rowL_step (show k < (pad m.log n z44).length by rw [pad_length]; exact hlt) (by rw [← HXE.out]; exact HEX.out)
                · have h9 := HR7.out
                  have e1 : (((D ++ (pad m.log n z44).drop k).set k ⟨val r1, x.f1, x.f2⟩).set k ⟨val r1, val r2, x.f2⟩).set k ⟨val r1, val r2, r3⟩ = (D ++ [⟨val r1, val r2, r3⟩]) ++ (pad m.log n z44).drop (k + 1) := by
                    rw [List.set_set, List.set_set, List.set_append, if_neg (by rw [hlen]; exact Nat.lt_irrefl _), hlen, Nat.sub_self, List.drop_eq_getElem_cons (show k < (pad m.log n z44).length by rw [pad_length]; exact hlt), List.set_cons_zero, List.append_assoc]
                    rfl
                  rw [e1] at h9
                  exact h9
              clear hG4 hT4 hC4 hF6 hF7 hcc7 hfr7
              go_wp2_with fail
              go_roundw
              case rel => exact ⟨k + 1, _, _, _, by omega, by go_num, HRING⟩
              case measure => simp [intOf]; omega
      · obtain rfl : k = n := by omega
        obtain ⟨hlen, hspec, hokt, hr⟩ := HR.out
        have hd : (pad m.log k z44).drop k = [] := List.drop_eq_nil_of_le (by rw [pad_length]; exact Nat.le_refl _)
        have hrow := hr.row
        rw [hd, List.append_nil] at hrow
        rw [hd] at hspec
        have hspec2 : X = .ok (D, Sk) := by rw [hspec]; simp [rowL, prepL]
        obtain ⟨A5, c5, A8, c8, A13, c13, hx, hl1, hl2, hl3, h5, h8, h13⟩ := hr.msg
        have hFD := Kd.N_F hrow
        have hmono : ∀ q, ¬ (Gk q ∨ q = wc.heap.size) ∧ Off lo g q → ¬ Gk q ∧ Off lo g q := fun q hq => ⟨fun h => hq.1 (.inl h), hq.2⟩
        have HEND : Aside0 (EndsM lo w base G b g (.ok ({ m with log := D }, Sk)) (.returned (.tuple #[])) (wr.setCell ⟨g, 5, none⟩ (.slice (some ⟨wc.heap.size, 0, none⟩) k k))) :=
          ⟨EndsM.right hr.own hr.turn hr.apart.1 hb hr.cod ⟨some ⟨wc.heap.size, 0, none⟩, k, A8, c8, A13, c13, (by rw [← hlen]; exact hx.set 5 _), (by rw [← hlen]; exact Nat.le_refl _), hl2, hl3, (by rw [hlen]; exact F_set hFD _), F_set (Kd.F_mono h8 hmono) _, F_set (Kd.F_mono h13 hmono) _⟩⟩
        have pe : wr.cell? ⟨g, 5, none⟩ = some (.slice A5 m.log.length c5) := (hx.cell 5).trans rfl
        have pf : wr.frozen? ⟨g, 5, none⟩ = false := hx.free 5
        have hgl := hr.apart.2.1
        have HX2 := Aside0.mk hspec2
        clear hd hrow hspec hspec2 hx hl1 hl2 hl3 h5 h8 h13 hFD hmono hr hokt
        go_wp2_with fail
        rw [HX2.out]
        refine bodyPost_end (results_none rfl _ _ _) rfl ?_
        exact HEND.out
end Go.Proofs.Ytmjbdeoomohanaa.Mine

/- wire: Check. -/
set_option linter.unusedSimpArgs false
set_option linter.unusedVariables false
namespace Go.Proofs.Ytmjbdeoomohanaa.Mine
open Go.RowKit Go.Maps Go.Proofs.YtmjbdeoomohanaaW.PrintWords Go.Proofs.YtmjbdeoomohanaaW.PrintLast Go.Proofs.YtmjbdeoomohanaaW.PrintMore Go.Proofs.Ytmjbdeoomohanaa.PWirePacks Go.Proofs.Ytmjbdeoomohanaa.Turn

def hasB (t : Int) : Nat := (hasN t).toNat
theorem hasN_nat (t : Int) : hasN t = (hasB t : Int) ∧ hasB t < 8192 := by
  have h : ∀ k : Nat, 0 ≤ ([0, 29, 5, 1, 27, 25, 1, 224, 224, 4864, 2816, 256, 6912, 5376, 3328] : List Int).getD k 0 ∧ ([0, 29, 5, 1, 27, 25, 1, 224, 224, 4864, 2816, 256, 6912, 5376, 3328] : List Int).getD k 0 < 8192 := by
    intro k
    by_cases hk : k < 15
    · have : k = 0 ∨ k = 1 ∨ k = 2 ∨ k = 3 ∨ k = 4 ∨ k = 5 ∨ k = 6 ∨ k = 7 ∨ k = 8 ∨ k = 9 ∨ k = 10 ∨ k = 11 ∨ k = 12 ∨ k = 13 ∨ k = 14 := by omega
      rcases this with rfl | rfl | rfl | rfl | rfl | rfl | rfl | rfl | rfl | rfl | rfl | rfl | rfl | rfl | rfl <;> decide
    · rw [List.getD_eq_getElem?_getD, List.getElem?_eq_none (by simp; omega)]
      decide
  have := h t.toNat
  unfold hasB hasN
  omega
def numBad (m : Msg) : Bool := decide (m.op < 0) || decide (64 < m.op) || decide (m.commit < 0) || decide (64 < m.commit) || decide (m.code < 0) || decide (65535 < m.code)
def longBad (m : Msg) : Bool := decide (64 < m.log.length) || decide (2048 < m.body.length) || decide (4096 < m.blocks.length) || m.log.any longE
/-- What Check says. -/
def chk (m : Msg) : Int :=
  if hasB m.ty = 0 then 1 else if badF (setL m) (hasB m.ty) then 6 else if numBad m then 1 else if longBad m then 2 else if m.blocks.any oddB then 6 else 0

set_option maxHeartbeats 8000000 in
set_option maxRecDepth 100000 in
theorem check_any (m : Msg) (A5 : Option Addr) (c5 : Nat) (A8 : Option Addr) (c8 : Nat) (A13 : Option Addr) (c13 : Nat) (w : World) (h0 : 0 ≤ m.ty) (h1 : m.ty ≤ 255)
    (hl5 : m.log.length ≤ 4611686018427387904) (hr5 : Kd.C k44 w A5 m.log.length m.log) (hl8 : m.body.length ≤ 4611686018427387904) (hl13 : m.blocks.length ≤ 4611686018427387904) (hr13 : Kd.C (Kd.slice 5 (Kd.int .u8)) w A13 m.blocks.length m.blocks) :
    Calls Try.prog 12 #[.agg (mcells m A5 c5 A8 c8 A13 c13)] w fun e w' => e = .returned (.int .i64 (chk m)) ∧ Below w.heap.size w w' := by
  have HR5 := Aside0.mk hr5
  have HR13 := Aside0.mk hr13
  clear hr5 hr13
  have HC := Aside0.mk (chk.eq_def m)
  obtain ⟨R, hR⟩ : ∃ R, chk m = R := ⟨_, rfl⟩
  rw [hR] at HC ⊢
  clear hR
  have HHN := Aside0.mk (hasN_nat m.ty)
  obtain ⟨h, hh⟩ : ∃ h, hasB m.ty = h := ⟨_, rfl⟩
  rw [hh] at HC HHN
  clear hh
  obtain ⟨S, hS⟩ : ∃ S, setN m = S := ⟨_, rfl⟩
  have HB := Aside0.mk (setN_bad m h (by have := HHN.out.2; omega))
  have HS := Aside0.mk (fun (w : World) => set_any m A5 c5 A8 c8 A13 c13 w)
  rw [hS] at HB HS
  clear hS
  have HH := Aside0.mk (fun (w : World) => has_any m.ty h0 h1 w)
  rw [HHN.out.1] at HH
  have HL := Aside0.mk (longBad.eq_def m)
  have HNB := Aside0.mk (numBad.eq_def m)
  obtain ⟨LB, hLB⟩ : ∃ x, longBad m = x := ⟨_, rfl⟩
  obtain ⟨NB, hNB⟩ : ∃ x, numBad m = x := ⟨_, rfl⟩
  obtain ⟨BF, hBF⟩ : ∃ x, badF (setL m) h = x := ⟨_, rfl⟩
  rw [hLB] at HL HC
  rw [hNB] at HNB HC
  rw [hBF] at HB HC
  clear hLB hNB hBF
  obtain ⟨ty, view, normal, op, commit, log, client, seq, body, key, shard, stripe, code, blocks⟩ := m
  unfold mcells at HS ⊢
  simp only at HR5 HR13 HC HS HH HL HNB HB hl5 hl8 hl13 ⊢
  have HX := Aside0.mk (Blk.new w #[.int .u8 ty, .int .u64 view, .int .u64 normal, .int .i64 op, .int .i64 commit, .slice A5 log.length c5, .int .u64 client, .int .u64 seq, .slice A8 body.length c8, .int .u64 key, .int .u8 shard, .int .u32 stripe, .int .i64 code, .slice A13 blocks.length c13] 29)
  have HA := Aside0.mk (below_alloc (Below.refl w.heap.size w) (.cells #[.int .u8 ty, .int .u64 view, .int .u64 normal, .int .i64 op, .int .i64 commit, .slice A5 log.length c5, .int .u64 client, .int .u64 seq, .slice A8 body.length c8, .int .u64 key, .int .u8 shard, .int .u32 stripe, .int .i64 code, .slice A13 blocks.length c13] 29))
  go_enter Try.func12, Try.ntmps12
  go_wp2_with fail
  refine (HH.out _).mono ?_
  rintro e w1 ⟨rfl, hb⟩
  have HB1 := Aside0.mk (below_step HA.out hb)
  have hx1 : Blk w1 w.heap.size _ 29 := (hb.block _ HX.out.lt).trans HX.out
  have HX1 := Aside0.mk hx1
  have hxl1 := hx1.lt
  have hx10 : World.cell? w1 ⟨w.heap.size, 0, none⟩ = some (.int .u8 ty) := Blk.cell hx1 0
  have hx11 : World.cell? w1 ⟨w.heap.size, 1, none⟩ = some (.int .u64 view) := Blk.cell hx1 1
  have hx12 : World.cell? w1 ⟨w.heap.size, 2, none⟩ = some (.int .u64 normal) := Blk.cell hx1 2
  have hx13 : World.cell? w1 ⟨w.heap.size, 3, none⟩ = some (.int .i64 op) := Blk.cell hx1 3
  have hx14 : World.cell? w1 ⟨w.heap.size, 4, none⟩ = some (.int .i64 commit) := Blk.cell hx1 4
  have hx15 : World.cell? w1 ⟨w.heap.size, 5, none⟩ = some (.slice A5 log.length c5) := Blk.cell hx1 5
  have hx16 : World.cell? w1 ⟨w.heap.size, 6, none⟩ = some (.int .u64 client) := Blk.cell hx1 6
  have hx17 : World.cell? w1 ⟨w.heap.size, 7, none⟩ = some (.int .u64 seq) := Blk.cell hx1 7
  have hx18 : World.cell? w1 ⟨w.heap.size, 8, none⟩ = some (.slice A8 body.length c8) := Blk.cell hx1 8
  have hx19 : World.cell? w1 ⟨w.heap.size, 9, none⟩ = some (.int .u64 key) := Blk.cell hx1 9
  have hx110 : World.cell? w1 ⟨w.heap.size, 10, none⟩ = some (.int .u8 shard) := Blk.cell hx1 10
  have hx111 : World.cell? w1 ⟨w.heap.size, 11, none⟩ = some (.int .u32 stripe) := Blk.cell hx1 11
  have hx112 : World.cell? w1 ⟨w.heap.size, 12, none⟩ = some (.int .i64 code) := Blk.cell hx1 12
  have hx113 : World.cell? w1 ⟨w.heap.size, 13, none⟩ = some (.slice A13 blocks.length c13) := Blk.cell hx1 13
  clear hb hx1
  by_cases hz : h = 0
  · have HR : Aside0 (R = 1) := ⟨by rw [HC.out, if_pos hz]⟩
    have hz1 : ((h : Int) == 0) = true := by rw [hz]; rfl
    clear hz
    go_wp2_with fail
    go_ret
    exact ⟨by rw [HR.out]; rfl, HB1.out⟩
  have hz1 : ((h : Int) == 0) = false := beq_eq_false_iff_ne.2 (by omega)
  cases BF with
  | true =>
    have HR : Aside0 (R = 6) := ⟨by rw [HC.out, if_neg hz]; rfl⟩
    have hb1 := HB.out
    go_wp2_with (go_at_call 22; refine (HS.out _).mono ?_; rintro e w2 ⟨rfl, hb⟩; have HB2 := Aside0.mk (below_step HB1.out hb); clear hb)
    go_ret
    exact ⟨by rw [HR.out]; rfl, HB2.out⟩
  | false =>
    have hb1 := HB.out
    cases NB with
    | true =>
      have HR : Aside0 (R = 1) := ⟨by rw [HC.out, if_neg hz]; rfl⟩
      have hnb := HNB.out
      simp only [Bool.or_eq_true, Bool.true_eq, decide_eq_true_eq] at hnb
      have HHH := Aside0.mk hnb
      clear hnb
      go_wp2_with (go_at_call 22; refine (HS.out _).mono ?_; rintro e w2 ⟨rfl, hb⟩; have HB2 := Aside0.mk (below_step HB1.out hb); have hx2 : Blk w2 w.heap.size _ 29 := (hb.block _ HX1.out.lt).trans HX1.out; have hxl2 := hx2.lt; have p3 := (hx2.cell 3).trans rfl; have p4 := (hx2.cell 4).trans rfl; have p12 := (hx2.cell 12).trans rfl; clear hb hx2)
      all_goals first
        | (exfalso; have := HHH.out; omega)
        | (go_ret; exact ⟨by rw [HR.out]; rfl, HB2.out⟩)
        | skip
      done
    | false =>
      have hnb := HNB.out
      simp only [Bool.false_eq, Bool.or_eq_false_iff, decide_eq_false_iff_not] at hnb
      obtain ⟨⟨⟨⟨⟨n0, n1⟩, n2⟩, n3⟩, n4⟩, n5⟩ := hnb
      have HR23 := Aside0.mk (fun (w2 : World) (hb : Below w.heap.size w w2) => any23_any A5 c5 log w2 hl5 (Kd.C_below HR5.out hb))
      have HR25 := Aside0.mk (fun (w2 : World) (hb : Below w.heap.size w w2) => any25_any A13 c13 blocks w2 hl13 (Kd.C_below HR13.out hb))
      obtain ⟨L, hL⟩ : ∃ x, log.any longE = x := ⟨_, rfl⟩
      obtain ⟨O, hO⟩ : ∃ x, blocks.any oddB = x := ⟨_, rfl⟩
      rw [hL] at HR23 HL
      rw [hO] at HR25 HC
      clear hL hO
      cases LB with
      | true =>
        have HR : Aside0 (R = 2) := ⟨by rw [HC.out, if_neg hz]; rfl⟩
        have hnb := HL.out
        simp only [Bool.or_eq_true, Bool.true_eq, decide_eq_true_eq] at hnb
        have hcond : (decide (64 < (log.length : Int)) || decide (2048 < (body.length : Int)) || decide (4096 < (blocks.length : Int)) || L) = true := by
          simp only [Bool.or_eq_true, decide_eq_true_eq]
          rcases hnb with ((q | q) | q) | q
          · exact Or.inl (Or.inl (Or.inl (by omega)))
          · exact Or.inl (Or.inl (Or.inr (by omega)))
          · exact Or.inl (Or.inr (by omega))
          · exact Or.inr q
        clear hnb
        go_wp2_with (first
          | (go_at_call 22; refine (HS.out _).mono ?_; rintro e w2 ⟨rfl, hb⟩; have HB2 := Aside0.mk (below_step HB1.out hb); have hx2 : Blk w2 w.heap.size _ 29 := (hb.block _ HX1.out.lt).trans HX1.out; have HX2 := Aside0.mk hx2; have hxl2 := hx2.lt; have p3 : w2.cell? { block := w.heap.size, off := 3 } = some (.int .i64 op) := (hx2.cell 3).trans rfl; have p4 : w2.cell? { block := w.heap.size, off := 4 } = some (.int .i64 commit) := (hx2.cell 4).trans rfl; have p5 : w2.cell? { block := w.heap.size, off := 5 } = some (.slice A5 log.length c5) := (hx2.cell 5).trans rfl; have p8 : w2.cell? { block := w.heap.size, off := 8 } = some (.slice A8 body.length c8) := (hx2.cell 8).trans rfl; have p12 : w2.cell? { block := w.heap.size, off := 12 } = some (.int .i64 code) := (hx2.cell 12).trans rfl; have p13 : w2.cell? { block := w.heap.size, off := 13 } = some (.slice A13 blocks.length c13) := (hx2.cell 13).trans rfl; clear hb hx2)
          | (go_at_call 23; refine (HR23.out _ HB2.out).mono ?_; rintro e w3 ⟨rfl, hb⟩; have HB3 := Aside0.mk (below_step HB2.out hb); clear hb))
        all_goals first
          | (go_ret; first | exact ⟨by rw [HR.out]; rfl, HB3.out⟩ | exact ⟨by rw [HR.out]; rfl, HB2.out⟩)
          | skip
        done
      | false =>
        have hnb := HL.out
        simp only [Bool.false_eq, Bool.or_eq_false_iff, decide_eq_false_iff_not] at hnb
        obtain ⟨⟨⟨m0, m1⟩, m2⟩, rfl⟩ := hnb
        have HR : Aside0 (R = if O then 6 else 0) := ⟨by rw [HC.out, if_neg hz]; cases O <;> rfl⟩
        go_wp2_with (first
          | (go_at_call 22; refine (HS.out _).mono ?_; rintro e w2 ⟨rfl, hb⟩; have HB2 := Aside0.mk (below_step HB1.out hb); have hx2 : Blk w2 w.heap.size _ 29 := (hb.block _ HX1.out.lt).trans HX1.out; have HX2 := Aside0.mk hx2; have hxl2 := hx2.lt; have p3 : w2.cell? { block := w.heap.size, off := 3 } = some (.int .i64 op) := (hx2.cell 3).trans rfl; have p4 : w2.cell? { block := w.heap.size, off := 4 } = some (.int .i64 commit) := (hx2.cell 4).trans rfl; have p5 : w2.cell? { block := w.heap.size, off := 5 } = some (.slice A5 log.length c5) := (hx2.cell 5).trans rfl; have p8 : w2.cell? { block := w.heap.size, off := 8 } = some (.slice A8 body.length c8) := (hx2.cell 8).trans rfl; have p12 : w2.cell? { block := w.heap.size, off := 12 } = some (.int .i64 code) := (hx2.cell 12).trans rfl; have p13 : w2.cell? { block := w.heap.size, off := 13 } = some (.slice A13 blocks.length c13) := (hx2.cell 13).trans rfl; clear hb hx2)
          | (go_at_call 23; refine (HR23.out _ HB2.out).mono ?_; rintro e w3 ⟨rfl, hb⟩; have HB3 := Aside0.mk (below_step HB2.out hb); have hx2 : Blk w3 w.heap.size _ 29 := (hb.block _ HX2.out.lt).trans HX2.out; have hxl3 := hx2.lt; have q13 : w3.cell? { block := w.heap.size, off := 13 } = some (.slice A13 blocks.length c13) := (hx2.cell 13).trans rfl; clear hb hx2)
          | (go_at_call 25; refine (HR25.out _ HB3.out).mono ?_; rintro e w4 ⟨rfl, hb⟩; have HB4 := Aside0.mk (below_step HB3.out hb); clear hb; cases O))
        all_goals first
          | (go_ret; exact ⟨by rw [HR.out]; rfl, HB4.out⟩)
          | skip
        done
end Go.Proofs.Ytmjbdeoomohanaa.Mine
