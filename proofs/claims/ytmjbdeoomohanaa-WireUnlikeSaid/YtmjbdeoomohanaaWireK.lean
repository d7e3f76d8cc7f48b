/- wire: blocks. -/
import Derived.Test.YtmjbdeoomohanaaWireJ2
import Derived.Deep.DeepCutAuto
import Derived.Deep.CutBlock
set_option linter.unusedSimpArgs false
set_option linter.unusedVariables false
namespace Go.Proofs.Ytmjbdeoomohanaa.Mine
open Go.RowKit Go.Maps Go.Proofs.YtmjbdeoomohanaaW.PrintWords Go.Proofs.YtmjbdeoomohanaaW.PrintLast Go.Proofs.YtmjbdeoomohanaaW.PrintMore Go.Proofs.Ytmjbdeoomohanaa.PWirePacks Go.Proofs.Ytmjbdeoomohanaa.Turn
variable {lo : Nat}


theorem prep_nil {α : Type} (x : Except Int (List α × St)) : prep [] x = x := by
  rcases x with e | ⟨r, S⟩ <;> rfl

/-- Ahead of the loop of blocks. -/
def Ahead (lo : Nat) (w : World) (base : Nat) (G : Nat → Prop) (b g : Nat) (m : Msg) (S1 : St) (n : Nat) (w2 : World) : Prop :=
  ∃ G' : Nat → Prop, (∀ k, G' k → G k ∨ w.heap.size ≤ k) ∧ Turned G w w2 ∧ Cod w2 base G' b S1 ∧ MsgAt lo w2 g G' m

set_option maxHeartbeats 4000000 in
theorem blocksM_any {w : World} {base b g : Nat} {G : Nat → Prop} {S : St} {m : Msg} (h : Cod w base G b S) (hM : MsgAt lo w g G m) (hg : ¬ G g) (hb : base ≤ g) {N : Nat} (hS : OkT N S) (hN : N ≤ 549755813888) (hn : m.blocks.length ≤ 65536) (h128 : ∀ x ∈ m.blocks, x.length ≤ 128) :
    Calls Try.prog 48 #[.pointer (some ⟨b, 0, none⟩), .pointer (some ⟨g, 0, none⟩)] w fun e w' => EndsM lo w base G b g (thenS (blocksS S m.blocks) fun v => { m with blocks := v }) e w' := by
  have HN := Aside0.mk (count_any h (hS.ok (by omega)) m.blocks.length (by omega) (by omega) 2 (by omega) (by omega) 4096 2 (by omega) (by omega))
  have HM := Aside0.mk hM
  have HST := Aside0.mk hS
  have H128 := Aside0.mk h128
  obtain ⟨A5, c5, A8, c8, A13, c13, hx, hl1, hl2, hl3, h5, h8, h13⟩ := hM
  have hxl := hx.lt
  have HXF : Aside0 (g < w.heap.size) := ⟨hxl⟩
  have p : w.cell? ⟨g, 13, none⟩ = some (.slice A13 m.blocks.length c13) := (hx.cell 13).trans rfl
  have HE := Aside0.mk (blocksS.eq_def S m.blocks)
  clear h hS hx hl1 hl2 hl3 h5 h8 h13 h128
  obtain ⟨x, hx⟩ : ∃ x, countS S m.blocks.length 2 4096 2 = x := ⟨_, rfl⟩
  have HV : Aside0 (∀ r S', x = .ok (r, S') → OkT (N + 2) S' ∧ 0 ≤ r ∧ r ≤ 4096) := ⟨fun r S' e => HST.out.count (by rw [hx, e]) (by omega)⟩
  rw [hx] at HN HE
  clear hx
  generalize blocksS S m.blocks = X at HE ⊢
  go_enter Try.func48, Try.ntmps48
  go_wp2_with fail
  refine HN.out.mono ?_
  clear HN p
  cases x with
  | error x =>
    rintro e w2 ⟨G', hG', hT', he⟩
    have he2 : e = .panicked [{ v := .iface 63 (.agg #[.int .i64 x]), recovered := false }] := he
    subst he2
    clear he
    have HG := Aside0.mk hG'
    have HT := Aside0.mk hT'
    clear hG' hT'
    go_wp2_with fail
    rw [HE.out]
    exact ⟨rfl, EndsM.wrong (HM.out.blk14 hg) HG.out HT.out⟩
  | ok x =>
    obtain ⟨r, S'⟩ := x
    rintro e w2 ⟨G', hG', hT', rfl, hC2⟩
    obtain ⟨hv1, hv2, hv3⟩ := HV.out r S' rfl
    obtain ⟨n, rfl⟩ : ∃ n : Nat, r = n := ⟨r.toNat, by omega⟩
    have HK := Aside0.mk hv1
    have HE2 : Aside0 (X = if shortS S' n then .error 201 else rowS S' (pad m.blocks n [])) := ⟨HE.out⟩
    clear HE hv1
    have HA : Aside0 (Ahead lo w base G b g m S' n w2) := ⟨G', hG', hT', hC2, HM.out.turn hg hT' hG'⟩
    have hw128 : IntKind.i64.wrap ((n : Int) * 128) = (n : Int) * 128 := IntWalk.i64_in _ (by omega)
    go_upto_region 1 with (fail)
    go_cut [28] (fun v wx => v = .bool (shortS S' n) ∧ wx = w2)
    case first =>
      cases S' with
      | W l =>
        obtain ⟨q1, q2, v, q3, q4⟩ := hC2
        have p1 : w2.cell? ⟨b, 1, none⟩ = some (.bool false) := (q3.cell 1).trans rfl
        clear q1 q2 q3 q4 hG' hT'
        go_wp2_with fail
        go_meet
        exact ⟨rfl, rfl⟩
      | R l =>
        obtain ⟨q1, q2, A0, c0, q3, q4, q5⟩ := hC2
        have p1 : w2.cell? ⟨b, 1, none⟩ = some (.bool true) := (q3.cell 1).trans rfl
        have p0 : w2.cell? ⟨b, 0, none⟩ = some (.slice A0 l.length c0) := (q3.cell 0).trans rfl
        have HSH : Aside0 (decide ((l.length : Int) < (n : Int) * 128) = shortS (.R l) n) := ⟨by unfold shortS; congr 1; apply propext; omega⟩
        clear q1 q2 q3 q4 q5 hG' hT'
        go_wp2_with fail
        go_meet
        exact ⟨by rw [HSH.out], rfl⟩
    case rest =>
      obtain ⟨rfl, rfl⟩ := hcut
      cases hsh : shortS S' n with
      | true =>
        have HX : Aside0 (X = .error 201) := ⟨by rw [HE2.out, if_pos hsh]⟩
        have HG := Aside0.mk hG'
        have HT := Aside0.mk hT'
        clear hsh HE2 hG' hT'
        go_wp2_with fail
        rw [HX.out]
        exact ⟨rfl, EndsM.wrong (HM.out.blk14 hg) HG.out HT.out⟩
      | false =>
        have HX : Aside0 (X = rowS S' (pad m.blocks n [])) := ⟨by rw [HE2.out, if_neg (by rw [hsh]; simp)]⟩
        have hmk := run_make_27 n (by omega)
        obtain ⟨A5, c5, A8, c8, A13, c13, hx, hl1, hl2, hl3, h5, h8, h13⟩ := HM.out.turn hg hT' hG'
        have p2 : wc.cell? ⟨g, 13, none⟩ = some (.slice A13 m.blocks.length c13) := (hx.cell 13).trans rfl
        have hxl2 := hx.lt
        have hnew := N_new kB 24 (base := base) (ok := fun k => ¬ G' k ∧ Off lo g k) wc n #[.slice none 0 0] [] rfl (by decide) (Kd.FK_slice_mk (c := 0) (Nat.le_refl 0) (Kd.F_nil _ _ _)) ⟨fun h => by have := (hC2.2.1 _ h).1; omega, by omega⟩ hC2.size (by omega)
        rw [show n * Kd.sz kB = n from Nat.mul_one n] at hnew
        have hsrc := Kd.F_alloc (Kd.F_bound h13) (.cells (madeCells #[.slice none 0 0] n) 24)
        have HNEW := Aside0.mk hnew
        have HSRC := Aside0.mk hsrc
        have HMC := Aside0.mk (HM.out.turn hg hT' hG')
        have HC := Aside0.mk hC2
        have HG := Aside0.mk hG'
        have HT := Aside0.mk hT'
        clear hsh HE2 hx hl1 hl2 hl3 h5 h8 h13 hnew hsrc hC2 hG' hT' HA
        have HSZ : Aside0 ((Try.prog.info? 24).map (·.size) = some (Kd.sz kB)) := ⟨by kernel_rfl⟩
        go_wp2_with ((with_reducible refine gate_builtin (b := .copy) (xs := #[.tmp 33, .tmp 37]) rfl ?_); refine copy_N kB rfl (.tmp 33) (.tmp 37) 27 27 rfl 24 Try.underlying27 HSZ.out (by decide) (g := wc.heap.size) (n := n) (cap := n) (m := m.blocks.length) (c := c13) (A := A13) rfl rfl HNEW.out HSRC.out (fun k hk => ⟨hk.1, by have := hk.2; omega⟩) ?_; intro w3 hr3 ht3; have HR3 := Aside0.mk hr3; have HT3 := Aside0.mk ht3; clear hr3 ht3)
        have hgG : ¬ G' g := fun h => (HG.out g h).elim hg (fun h => by have := HXF.out; omega)
        have hT03 : ∀ Y : Nat → Prop, Turned Y wc w3 := fun Y => ((Turned.refl Y wc).alloc _).then_ HT3.out (fun k hk => .inr (Nat.le_of_eq hk.symm))
        have hls : wc.heap.size < w3.heap.size := Nat.lt_of_lt_of_le (Blk.new wc (madeCells #[.slice none 0 0] n) 24).lt HT3.out.size
        have HREL : Aside0 (RelB lo w base b g wc.heap.size n G m (N + 2) X (pad m.blocks n []) 0 w3 [] S' G') :=
          ⟨⟨rfl, by rw [HX.out, prep_nil]; rfl, HK.out, HG.out, HT.out.then_ (hT03 (fun _ => False)) (fun _ hk => hk.elim), HC.out.step (hT03 (fun _ => False)) (fun _ hk => hk.elim), HMC.out.turn hgG (hT03 _) (fun q hq => hq.imp id (fun h => Nat.le_of_eq h.symm)), HR3.out, HT.out.size, hls, HC.out.size⟩⟩
        clear hT03 hgG HR3 HT3 HNEW HSRC
        go_loopw [41] (fun i wr => ∃ (k : Nat) (D : List (List Int)) (Sk : St) (Gk : Nat → Prop), k ≤ n ∧ i = .int .i64 k ∧ Aside0 (RelB lo w base b g wc.heap.size n G m (N + 2) X (pad m.blocks n []) k wr D Sk Gk)) (fun i _ => n - (intOf i).toNat)
        case atStart => exact ⟨0, [], S', G', Nat.zero_le _, rfl, HREL⟩
        case round =>
          obtain ⟨k, D, Sk, Gk, hkn, rfl, HR⟩ := hrel
          clear HREL
          have hgk : ¬ Gk g := fun h => (HR.out.own g h).elim hg (fun h => by have := HXF.out; omega)
          have hgl : g < wr.heap.size := Nat.lt_of_lt_of_le HXF.out HR.out.turn.size
          have HGK := Aside0.mk hgk
          clear hgk
          by_cases hlt : k < n
          · have hpl := pad_length m.blocks n ([] : List Int)
            obtain ⟨A, c, hcell, hlc, hF⟩ := HR.out.elem hpl hlt
            have hx128 : ((pad m.blocks n [])[k]'(by omega)).length ≤ 128 := by
              have hmem := List.getElem_mem (show k < (pad m.blocks n []).length by omega)
              rcases List.mem_append.1 hmem with hmem | hmem
              · exact H128.out _ (List.mem_of_mem_take hmem)
              · rw [List.eq_of_mem_replicate (List.mem_of_mem_drop hmem)]; exact Nat.zero_le _
            have HBY := Aside0.mk (bytes_any HR.out.cod A c ((pad m.blocks n [])[k]'(by omega)) 128 hlc hF (HR.out.ok.fits _ (by omega)))
            have HNX := Aside0.mk (fun {w5 : World} {G2 : Nat → Prop} {r : List Int} {S2 : St} {A3 : Option Addr} {c3 : Nat} (hs : step Sk ((pad m.blocks n [])[k]'(by omega)) 128 = .ok (r, S2)) => HR.out.next hpl hlt HGK.out hgl (by omega) (w5 := w5) (G2 := G2) (A3 := A3) (c3 := c3) hs hx128)
            have HWR := Aside0.mk (fun {e : Int} (hs : step Sk ((pad m.blocks n [])[k]'(by omega)) 128 = .error e) => (HR.out.spec.trans (prep_wrong (D := D) (by omega) hs)))
            clear hF hx128
            generalize (pad m.blocks n [])[k]'(by omega) = x at *
            generalize step Sk x 128 = y at *
            go_wp2_with fail
            refine HBY.out.mono ?_
            cases y with
            | error y =>
              rintro e w5 ⟨G2, hG2, hT2, he⟩
              have he2 : e = .panicked [{ v := .iface 63 (.agg #[.int .i64 y]), recovered := false }] := he
              subst he2
              have HX2 := Aside0.mk (HWR.out rfl)
              have HE2 : Aside0 (EndsM lo w base G b g (.error y) (wrongs y) w5) := ⟨EndsM.wrong (HM.out.blk14 hg) (fun q hq => (hG2 q hq).elim (HR.out.own q) (fun h2 => .inr (Nat.le_trans HR.out.turn.size h2))) (HR.out.turn.then_ hT2 HR.out.own)⟩
              clear hG2 hT2 he
              go_wp2_with fail
              rw [HX2.out]
              exact ⟨rfl, HE2.out⟩
            | ok y =>
              obtain ⟨q, S3⟩ := y
              rintro e w5 ⟨G2, hG2, hT2, ⟨A3, c3, rfl, hc3, hF3⟩, hC3⟩
              obtain ⟨hrel2, ⟨v5, hc5⟩, hf5⟩ := HNX.out rfl hG2 hT2 hc3 hF3 hC3
              have HREL2 := Aside0.mk hrel2
              clear hG2 hT2 hF3 hC3 hrel2
              go_wp2_with fail
              go_roundw
              case rel => exact ⟨k + 1, D ++ [q], S3, G2, by omega, by go_num, HREL2⟩
              case measure => simp [intOf]; omega
          · obtain rfl : k = n := by omega
            have hd : (pad m.blocks k ([] : List Int)).drop k = [] := List.drop_eq_nil_of_le (by rw [pad_length]; exact Nat.le_refl _)
            have hrow := HR.out.row
            have hspec := HR.out.spec
            have hlen := HR.out.len
            rw [hd, List.append_nil] at hrow
            rw [hd] at hspec
            have hspec2 : X = .ok (D, Sk) := by rw [hspec]; simp [rowS, prep]
            obtain ⟨A5, c5, A8, c8, A13, c13, hx, hl1, hl2, hl3, h5, h8, h13⟩ := HR.out.msg
            have hFD := Kd.N_F hrow
            have hmono : ∀ q, ¬ (Gk q ∨ q = wc.heap.size) ∧ Off lo g q → ¬ Gk q ∧ Off lo g q := fun q hq => ⟨fun h => hq.1 (.inl h), hq.2⟩
            have HEND : Aside0 (EndsM lo w base G b g (.ok ({ m with blocks := D }, Sk)) (.returned (.tuple #[])) (wr.setCell ⟨g, 13, none⟩ (.slice (some ⟨wc.heap.size, 0, none⟩) k k))) :=
              ⟨EndsM.right HR.out.own HR.out.turn HGK.out hb HR.out.cod ⟨A5, c5, A8, c8, some ⟨wc.heap.size, 0, none⟩, k, (by rw [← hlen]; exact hx.set 13 _), hl1, hl2, (by rw [← hlen]; exact Nat.le_refl _), F_set (Kd.F_mono h5 hmono) _, F_set (Kd.F_mono h8 hmono) _, (by rw [hlen]; exact F_set hFD _)⟩⟩
            have pe : wr.cell? ⟨g, 13, none⟩ = some (.slice A13 m.blocks.length c13) := (hx.cell 13).trans rfl
            have pf : wr.frozen? ⟨g, 13, none⟩ = false := hx.free 13
            have HX2 := Aside0.mk hspec2
            clear hd hrow hspec hspec2 hx hl1 hl2 hl3 h5 h8 h13 hFD hmono
            go_wp2_with fail
            rw [HX2.out]
            refine bodyPost_end (results_none rfl _ _ _) rfl ?_
            exact HEND.out
end Go.Proofs.Ytmjbdeoomohanaa.Mine
