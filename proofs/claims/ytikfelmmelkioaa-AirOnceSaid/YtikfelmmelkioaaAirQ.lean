/- The walk of AirOnce. -/
import Derived.Test.YtikfelmmelkioaaAirP
import Derived.Deep.RegionWith
import Derived.Deep.DeepCutAuto
import Derived.StillTailTactics
set_option linter.unusedSimpArgs false
set_option linter.unusedVariables false
namespace Go.Proofs.Ytikfelmmelkioaa.Mine
open Go.RowKit Go.Maps Go.Proofs.YtikfelmmelkioaaW.PrintWords Go.Proofs.YtikfelmmelkioaaW.PrintLast Go.Proofs.YtikfelmmelkioaaW.PrintMore Go.Proofs.Ytikfelmmelkioaa.PAirOnce Go.Proofs.Ytikfelmmelkioaa.Turn

def ActAt (W : World) (a : Addr) (x : S26) (A : Option Addr) (c : Nat) : Prop :=
  W.cell? a = some (.int .i64 x.f0) ∧ W.cell? ⟨a.block, a.off + 1, none⟩ = some (.int .i64 x.f1) ∧ W.cell? ⟨a.block, a.off + 2, none⟩ = some (.int .i64 x.f2.f0) ∧ W.cell? ⟨a.block, a.off + 3, none⟩ = some (.int .i64 x.f2.f1) ∧ W.cell? ⟨a.block, a.off + 4, none⟩ = some (.slice A x.f2.f2.length c) ∧ a.block < W.heap.size
theorem cell_old {w W : World} (hb : Below w.heap.size w W) {a : Addr} {v : Value} (h : w.cell? a = some v) : W.cell? a = some v :=
  (World.cell?_of_block (hb.block a.block (World.block_lt_of_cell? w a h))).trans h
theorem act_at {w : World} {A : Option Addr} {n : Nat} {l : List S26} (h : Kd.C k26 w A n l) (k : Nat) (hk : k < n) :
    ∃ ad A4 c4, A = some ad ∧ (∀ W, Below w.heap.size w W → ActAt W (ad.add (k * 5)) (rd_T26 l k) A4 c4) ∧ Held w (fun q => q < w.heap.size) (rd_T26 l k).f2 A4 c4 := by
  obtain ⟨ad, A4, c4, e, h0, h1, h2, h3, h4, h5, h6⟩ := at_T26 h (k : Int) (by omega) (by omega)
  rw [Int.toNat_natCast] at h0 h1 h2 h3 h4
  exact ⟨ad, A4, c4, e, fun W hb => ⟨cell_old hb h0, cell_old hb h1, cell_old hb h2, cell_old hb h3, cell_old hb h4, Nat.lt_of_lt_of_le (World.block_lt_of_cell? w _ h0) hb.size⟩,
    fun W' hW => k24_mk W' _ h5 (Kd.C_F (Kd.heap_int .u8) h6 W' hW)⟩

def ActOk (x : S26) : Prop := (Lit.int .i64 x.f2.f0).wf = true ∧ (Lit.int .i64 x.f2.f1).wf = true ∧ x.f2.f2.length ≤ 140737488351232
theorem rd_mem26 {l : List S26} {k : Nat} (hk : k < l.length) : rd_T26 l k ∈ l := by
  unfold rd_T26
  rw [List.getD_eq_getElem?_getD, Int.toNat_natCast, List.getElem?_eq_getElem hk]
  exact List.getElem_mem _

set_option maxHeartbeats 8000000 in
set_option maxRecDepth 100000 in
theorem once_any (A : Option Addr) (c : Nat) (l : List S26) (w : World) (hc : l.length ≤ c) (hr : Kd.C k26 w A l.length l) (hb : ∀ x ∈ l, ActOk x) :
    Calls Try.prog 5 #[.slice A l.length c] w fun e w' => e = .returned (.bool true) ∧ Below w.heap.size w w' := by
  obtain ⟨kk, r, hg, hr2⟩ := great_any l (fun x hx => (hb x hx).2.2)
  have HR := Aside0.mk hr
  have HC := Aside0.mk hc
  have HG := Aside0.mk hg
  have HB := Aside0.mk hb
  clear hr hc hg hb
  cases r with
  | true =>
    clear hr2
    go_enter Try.func5, Try.ntmps5
    go_wp2_with fail
    refine (tabularylaw19_Great.calls kk A c l true w HR.out HC.out HG.out).mono ?_
    rintro e w1 ⟨rfl, hd⟩
    have HB1 := Aside0.mk hd.below
    clear hd
    go_wp2_with fail
    refine (wakes_any _).mono ?_
    rintro e w2 ⟨rfl, hb2⟩
    have HB2 := Aside0.mk (below_then HB1.out HB1.out.size hb2)
    clear hb2
    go_wp2_with fail
    go_ret
    exact ⟨rfl, HB2.out⟩
  | false =>
    obtain ⟨hl2, hs2⟩ := hr2 rfl
    have HS := Aside0.mk hs2
    clear hr2 hs2
    go_enter Try.func5, Try.ntmps5
    go_wp2_with fail
    refine (tabularylaw19_Great.calls kk A c l false w HR.out HC.out HG.out).mono ?_
    rintro e w1 ⟨rfl, hd⟩
    have HB1 := Aside0.mk hd.below
    clear hd
    go_wp2_with fail
    refine (new_any 4 (by omega) (by omega) _).mono ?_
    rintro e w2 ⟨b, F2, rfl, hA2, hF2, hB2⟩
    have HM2 : Aside0 (Mem w w2 b (.slice none 0 0) (.slice none 0 0) [] [] [] F2 (.map []) 0) := ⟨⟨hA2, fun q hq => Nat.le_trans HB1.out.size (hF2 q hq), below_then HB1.out HB1.out.size hB2, Kd.N_nil _ _ _ _ _, Kd.N_nil _ _ _ _ _⟩⟩
    clear hA2 hF2 hB2
    go_wp2_with fail
    go_loopw [5, 6, 7] (fun vc vw i wr => ∃ (k : Nat) (cm wn L : List S24) (F : Nat → Prop) (D : DataW Unit) (M : Nat), k ≤ l.length ∧ i = .int .i64 k ∧ Aside0 (Mem w wr b vc vw cm wn L F D M) ∧ Aside0 (Plain cm wn L k) ∧ M ≤ k) (fun _ _ i _ => l.length - (intOf i).toNat)
    case atStart => exact ⟨0, [], [], [], F2, .map [], 0, by omega, rfl, HM2, ⟨Plain.start⟩, by omega⟩
    case round =>
      obtain ⟨k, cm, wn, L, F, D, M, hk, rfl, HM, HP, hM⟩ := hrel
      obtain ⟨Ac, cc, rfl⟩ := Kd.N_slice HM.out.came
      obtain ⟨Aw, cw, rfl⟩ := Kd.N_slice HM.out.went
      clear HM2 HB1
      by_cases hlt : k < l.length
      · obtain ⟨ad, A4, c4, rfl, hact, hheld⟩ := act_at HR.out k hlt
        have hok := HB.out _ (rd_mem26 hlt)
        have hsm := HS.out k hlt
        generalize rd_T26 l k = x at hact hheld hok hsm
        obtain ⟨d, i, f, t, bd⟩ := x
        have HACT := Aside0.mk hact
        have HHELD : Aside0 (Held w (fun q => q < w.heap.size) ⟨f, t, bd⟩ A4 c4) := ⟨hheld⟩
        obtain ⟨hf, ht, -⟩ := hok
        have HF := Aside0.mk hf
        have HT := Aside0.mk ht
        have hsm2 : bd.length ≤ 65536 := hsm
        clear hf ht hheld hact hsm
        have hLk : L.length ≤ k := by have h1 := HP.out.total; have h2 := HP.out.len; omega
        obtain ⟨-, x1, -, -, -, xl⟩ := HACT.out wr HM.out.bel
        go_wp2_with fail
        obtain ⟨y, hy⟩ : ∃ y, rdAt L i = y := ⟨_, rfl⟩
        obtain ⟨r, hr⟩ : ∃ r, inR L i = r := ⟨_, rfl⟩
        have HY := Aside0.mk hy
        have HI := Aside0.mk hr
        clear hy hr
        refine (at_all HM.out.air i HP.out.smallL y r HY.out HI.out).mono ?_
        rintro e w3 ⟨A5, c5, rfl, hh, hb3⟩
        have HO := Aside0.mk (HM.out.offNew w3.heap.size)
        have HH : Aside0 (Held w3 (fun q => wr.heap.size ≤ q ∧ q < w3.heap.size) y A5 c5) := ⟨hh⟩
        have HBX := Aside0.mk (Blk.new w3 #[.int .i64 y.f0, .int .i64 y.f1, .slice A5 y.f2.length c5] 24)
        have HM3 := Aside0.mk ((HM.out.below hb3).below (below_alloc (Below.refl _ w3) (.cells #[.int .i64 y.f0, .int .i64 y.f1, .slice A5 y.f2.length c5] 24)))
        have HM3a := Aside0.mk (HM.out.below hb3)
        have hsz3 : wr.heap.size ≤ w3.heap.size := hb3.size
        clear hh hb3 x1 xl HM
        obtain ⟨x0, x1, x2, x3, x4, xl⟩ := HACT.out w3 HM3a.out.bel
        have hd : d = 0 ∨ d = 1 ∨ d = 2 ∨ d = 3 ∨ d = 4 ∨ d = 5 ∨ d = 6 ∨ (d ≠ 0 ∧ d ≠ 1 ∧ d ≠ 2 ∧ d ≠ 3 ∧ d ≠ 4 ∧ d ≠ 5 ∧ d ≠ 6) := by omega
        rcases hd with rfl | rfl | rfl | rfl | rfl | rfl | rfl | ⟨e0, e1, e2, e3, e4, e5, e6⟩
        ·
          go_upto_region 13 with (fail)
          have HA4 := Aside0.mk (HM3.out.air.below (below_drew (Below.refl _ _)))
          have HM3d := Aside0.mk (HM3.out.below (below_drew (Below.refl _ _)))
          obtain ⟨off, hoff⟩ : ∃ off, Maps.has D (wayLit f t) = off := ⟨_, rfl⟩
          have HOF := Aside0.mk hoff
          clear hoff
          go_cut [10] (fun s10 wx => s10 = .bool off ∧ Aside0 (Mem w wx b (.slice Ac cm.length cc) (.slice Aw wn.length cw) cm wn L F D M))
          case first =>
            go_region_with (go_at_call 15; refine (is_any HA4.out f t HF.out HT.out).mono ?_; rintro e w4 ⟨rfl, hb4⟩; rw [HOF.out]; have HM4 := Aside0.mk (HM3d.out.below hb4); clear hb4)
            all_goals (go_wp2_with fail; go_meet; exact ⟨rfl, HM4⟩)
          case rest =>
            obtain ⟨rfl, HM4⟩ := hcut
            have HA0 := Aside0.mk (HACT.out wc HM4.out.bel)
            obtain ⟨z0, z1, z2, z3, z4, zl⟩ := HA0.out
            have HR4 := Aside0.mk ((HHELD.out.step (fun q hq _ => HM4.out.bel.block q hq)).reads.2)
            have HLL := Aside0.mk (HP.out.fits (by omega)).1
            cases hbb : (bad 4 f || bad 4 t) with
            | true =>
              go_wp2_with fail
              refine (send_all HM4.out.air ⟨f, t, bd⟩ A4 c4 hsm2 HF.out HT.out off HOF.out HLL.out HR4.out).mono ?_
              rw [show sendNo 4 ⟨f, t, bd⟩ = 1 from by simp [sendNo, hbb], show sent 4 L ⟨f, t, bd⟩ off = L from by simp [sent, hbb]]
              rintro e w5 ⟨F5, rfl, hA5, hT5, hF5⟩
              have HM5 := Aside0.mk (HM4.out.turn hA5 hT5 hF5)
              clear hA5 hT5 hF5 hbb
              go_wp2_with fail
              go_roundw
              case rel => exact ⟨k + 1, cm, wn, L, F5, D, M, by omega, by go_num, HM5, ⟨HP.out.more⟩, by omega⟩
              case measure => first | (simp [intOf]; done) | (simp [intOf]; omega)
            | false =>
              cases off with
              | true =>
                go_wp2_with fail
                refine (send_all HM4.out.air ⟨f, t, bd⟩ A4 c4 hsm2 HF.out HT.out true HOF.out HLL.out HR4.out).mono ?_
                rw [show sendNo 4 ⟨f, t, bd⟩ = 0 from by simp [sendNo, hbb], show sent 4 L ⟨f, t, bd⟩ true = L from by simp [sent, hbb]]
                rintro e w5 ⟨F5, rfl, hA5, hT5, hF5⟩
                have HM5 := Aside0.mk (HM4.out.turn hA5 hT5 hF5)
                clear hA5 hT5 hF5 hbb
                go_wp2_with fail
                go_roundw
                case rel => exact ⟨k + 1, cm, wn, L, F5, D, M, by omega, by go_num, HM5, ⟨HP.out.more⟩, by omega⟩
                case measure => first | (simp [intOf]; done) | (simp [intOf]; omega)
              | false =>
                go_wp2_with fail
                refine (send_all HM4.out.air ⟨f, t, bd⟩ A4 c4 hsm2 HF.out HT.out false HOF.out HLL.out HR4.out).mono ?_
                rw [show sendNo 4 ⟨f, t, bd⟩ = 0 from by simp [sendNo, hbb], show sent 4 L ⟨f, t, bd⟩ false = L ++ [⟨f, t, bd⟩] from by simp [sent, hbb]]
                rintro e w5 ⟨F5, rfl, hA5, hT5, hF5⟩
                have HM5 := Aside0.mk (HM4.out.turn hA5 hT5 hF5)
                clear hA5 hT5 hF5 hbb
                clear z0 z1 z2 z3 z4 zl
                have HA1 := Aside0.mk (HACT.out w5 HM5.out.bel)
                obtain ⟨z0, z1, z2, z3, z4, zl⟩ := HA1.out
                have HQ := Aside0.mk (HHELD.out.step (fun q hq _ => HM5.out.bel.block q hq))
                have HO5 := Aside0.mk HM5.out.offOld
                have HFR5 : Aside0 (∀ q, (World.heap w5).size ≤ q → ¬ F5 q ∧ some q ≠ (Value.slice Aw wn.length cw).ownBlock) := ⟨HM5.out.freshC⟩
                have HOK5 := Aside0.mk (HO5.out.toC)
                have HFit5 := Aside0.mk (HP.out.fits (by omega))
                go_wp2_with ((with_reducible refine gate_builtin (b := .append) (xs := #[.tmp 79, .tmp 85]) rfl ?_); at_builtin; refine Kd.N_append k24 (w0 := w) (W := w5) w.heap.size rfl (.tmp 79) (.tmp 85) 44 24 (.agg #[(.int .i64 0), (.int .i64 0), (.slice none 0 0)]) 40 rfl Try.underlying44 info24 rfl (by decide) (by omega) (.slice Ac cm.length cc) cm (⟨f, t, bd⟩ : S24) [.int .i64 ((⟨f, t, bd⟩ : S24)).f0, .int .i64 ((⟨f, t, bd⟩ : S24)).f1, .slice A4 ((⟨f, t, bd⟩ : S24)).f2.length c4] (fun q => ¬ F5 q ∧ some q ≠ (Value.slice Aw wn.length cw).ownBlock) (fun q => q < w.heap.size) rfl rfl HQ.out HOK5.out HFR5.out HM5.out.came HM5.out.bel HM5.out.bel.size HFit5.out.2.1 ?_; intro v6 w6 ho hb hg hat; have HM6 := Aside0.mk (HM5.out.cameApp ho hb hg hat); obtain ⟨A6, c6, rfl⟩ := Kd.N_slice ho; rw [show (cm ++ [(⟨f, t, bd⟩ : S24)]).length = cm.length + 1 from by simp] at HM6; clear ho hb hg hat)
                go_roundw
                case rel => exact ⟨k + 1, cm ++ [⟨f, t, bd⟩], wn, L ++ [⟨f, t, bd⟩], F5, D, M, by omega, by go_num, HM6, ⟨HP.out.send hsm2⟩, by omega⟩
                case measure => first | (simp [intOf]; done) | (simp [intOf]; omega)
        · as_aux_lemma =>
          go_wp2_with fail
          refine (carry_all HM3.out.air i HP.out.smallL y r HY.out HI.out).mono ?_
          rintro e w4 ⟨A7, c7, rfl, hh7, hA7, hT7⟩
          have HX4 : Aside0 (Blk w4 w3.heap.size #[.int .i64 y.f0, .int .i64 y.f1, .slice A5 y.f2.length c5] 24) := ⟨hT7.blk HBX.out (fun hF => by have := HM3a.out.air.lt _ hF; omega)⟩
          have HO7 := Aside0.mk (HM3.out.offNew w4.heap.size)
          have HM4 := Aside0.mk (HM3.out.turn hA7 hT7 (fun _ hk => .inl hk))
          have HM5 := Aside0.mk (HM4.out.below (below_alloc (Below.refl _ w4) (.cells #[.int .i64 y.f0, .int .i64 y.f1, .slice A7 y.f2.length c7] 24)))
          have HH4 := Aside0.mk (((HH.out.below (below_alloc (Below.refl _ w3) (.cells #[.int .i64 y.f0, .int .i64 y.f1, .slice A5 y.f2.length c5] 24))).turn hT7 HO.out).below (below_alloc (Below.refl _ w4) (.cells #[.int .i64 y.f0, .int .i64 y.f1, .slice A7 y.f2.length c7] 24)))
          have HH7 : Aside0 (Held (w4.alloc (.cells #[.int .i64 y.f0, .int .i64 y.f1, .slice A7 y.f2.length c7] 24)) (fun q => (World.heap (w3.alloc (.cells #[.int .i64 y.f0, .int .i64 y.f1, .slice A5 y.f2.length c5] 24))).size ≤ q ∧ q < w4.heap.size) y A7 c7) := Aside0.mk (Held.below hh7 (below_alloc (Below.refl _ w4) (.cells #[.int .i64 y.f0, .int .i64 y.f1, .slice A7 y.f2.length c7] 24)))
          have HX7 := Aside0.mk (Blk.new w4 #[.int .i64 y.f0, .int .i64 y.f1, .slice A7 y.f2.length c7] 24)
          clear hh7 hA7 hT7
          have hx4 := HX4.out
          have hxl : w3.heap.size < w4.heap.size := hx4.lt
          have hx40 : World.cell? w4 ⟨w3.heap.size, 0, none⟩ = some (.int .i64 y.f0) := Blk.cell hx4 0
          have hx4f0 : World.frozen? w4 ⟨w3.heap.size, 0, none⟩ = false := Blk.free hx4 0
          have hx41 : World.cell? w4 ⟨w3.heap.size, 1, none⟩ = some (.int .i64 y.f1) := Blk.cell hx4 1
          have hx4f1 : World.frozen? w4 ⟨w3.heap.size, 1, none⟩ = false := Blk.free hx4 1
          have hx42 : World.cell? w4 ⟨w3.heap.size, 2, none⟩ = some (.slice A5 y.f2.length c5) := Blk.cell hx4 2
          have hx4f2 : World.frozen? w4 ⟨w3.heap.size, 2, none⟩ = false := Blk.free hx4 2
          clear hx4
          cases r with
          | true =>
            go_wp2_with fail
            refine (tabularyref19_Same.calls y.f0 y.f1 A7 c7 y.f2 y.f0 y.f1 A5 c5 y.f2 true _ HH7.out.reads.2 HH7.out.reads.1 HH4.out.reads.2 HH4.out.reads.1 (same_self y)).mono ?_
            rintro e w5 ⟨rfl, hb5⟩
            have HM6 := Aside0.mk (HM5.out.below hb5)
            have HH8 := Aside0.mk (HH7.out.below hb5)
            have hx7 : Blk w5 w4.heap.size #[.int .i64 y.f0, .int .i64 y.f1, .slice A7 y.f2.length c7] 24 := (hb5.block _ HX7.out.lt).trans HX7.out
            have hx7l := hx7.lt
            have hx70 : World.cell? w5 ⟨w4.heap.size, 0, none⟩ = some (.int .i64 y.f0) := Blk.cell hx7 0
            have hx7f0 : World.frozen? w5 ⟨w4.heap.size, 0, none⟩ = false := Blk.free hx7 0
            have hx71 : World.cell? w5 ⟨w4.heap.size, 1, none⟩ = some (.int .i64 y.f1) := Blk.cell hx7 1
            have hx7f1 : World.frozen? w5 ⟨w4.heap.size, 1, none⟩ = false := Blk.free hx7 1
            have hx72 : World.cell? w5 ⟨w4.heap.size, 2, none⟩ = some (.slice A7 y.f2.length c7) := Blk.cell hx7 2
            have hx7f2 : World.frozen? w5 ⟨w4.heap.size, 2, none⟩ = false := Blk.free hx7 2
            clear hb5 hx7
            have HFR6 : Aside0 (∀ q, (World.heap w5).size ≤ q → ¬ F q ∧ some q ≠ (Value.slice Ac cm.length cc).ownBlock) := ⟨HM6.out.freshW⟩
            have HOK6 := Aside0.mk (HO7.out.toW)
            have HFit6 := Aside0.mk (HP.out.fits (by omega))
            go_wp2_with ((with_reducible refine gate_builtin (b := .append) (xs := #[.tmp 109, .tmp 111]) rfl ?_); at_builtin; refine Kd.N_append k24 (w0 := w) (W := w5) w.heap.size rfl (.tmp 109) (.tmp 111) 44 24 (.agg #[(.int .i64 0), (.int .i64 0), (.slice none 0 0)]) 40 rfl Try.underlying44 info24 rfl (by decide) (by omega) (.slice Aw wn.length cw) wn y [.int .i64 (y).f0, .int .i64 (y).f1, .slice A7 (y).f2.length c7] (fun q => ¬ F q ∧ some q ≠ (Value.slice Ac cm.length cc).ownBlock) (fun q => (World.heap (w3.alloc (.cells #[.int .i64 y.f0, .int .i64 y.f1, .slice A5 y.f2.length c5] 24))).size ≤ q ∧ q < w4.heap.size) rfl rfl HH8.out HOK6.out HFR6.out HM6.out.went HM6.out.bel HM6.out.bel.size HFit6.out.2.2 ?_; intro v8 w8 ho hb hg hat; have HM8 := Aside0.mk (HM6.out.wentApp ho hb hg hat); obtain ⟨A8, c8, rfl⟩ := Kd.N_slice ho; rw [show (wn ++ [y]).length = wn.length + 1 from by simp] at HM8; clear ho hb hg hat)
            go_roundw
            case rel => exact ⟨k + 1, cm, wn ++ [y], dropAt L i, F, D, M, by omega, by go_num, HM8, ⟨HP.out.drop HI.out HY.out⟩, by omega⟩
            case measure => first | (simp [intOf]; done) | (simp [intOf]; omega)
          | false =>
            go_wp2_with fail
            refine (tabularyref19_Same.calls y.f0 y.f1 A7 c7 y.f2 y.f0 y.f1 A5 c5 y.f2 true _ HH7.out.reads.2 HH7.out.reads.1 HH4.out.reads.2 HH4.out.reads.1 (same_self y)).mono ?_
            rintro e w5 ⟨rfl, hb5⟩
            have HM6 := Aside0.mk (HM5.out.below hb5)
            clear hb5
            go_wp2_with fail
            go_roundw
            case rel => exact ⟨k + 1, cm, wn, dropAt L i, F, D, M, by omega, by go_num, HM6, ⟨HP.out.keep HI.out⟩, by omega⟩
            case measure => first | (simp [intOf]; done) | (simp [intOf]; omega)
        · as_aux_lemma =>
          go_wp2_with fail
          refine (lose_all HM3.out.air i r HI.out).mono ?_
          rintro e w4 ⟨rfl, hA7, hT7⟩
          have HM4 := Aside0.mk (HM3.out.turn hA7 hT7 (fun _ hk => .inl hk))
          have hx4 : Blk w4 w3.heap.size #[.int .i64 y.f0, .int .i64 y.f1, .slice A5 y.f2.length c5] 24 := hT7.blk HBX.out (fun hF => by have := HM3a.out.air.lt _ hF; omega)
          have hxl := hx4.lt
          have hx40 : World.cell? w4 ⟨w3.heap.size, 0, none⟩ = some (.int .i64 y.f0) := Blk.cell hx4 0
          have hx4f0 : World.frozen? w4 ⟨w3.heap.size, 0, none⟩ = false := Blk.free hx4 0
          have hx41 : World.cell? w4 ⟨w3.heap.size, 1, none⟩ = some (.int .i64 y.f1) := Blk.cell hx4 1
          have hx4f1 : World.frozen? w4 ⟨w3.heap.size, 1, none⟩ = false := Blk.free hx4 1
          have hx42 : World.cell? w4 ⟨w3.heap.size, 2, none⟩ = some (.slice A5 y.f2.length c5) := Blk.cell hx4 2
          have hx4f2 : World.frozen? w4 ⟨w3.heap.size, 2, none⟩ = false := Blk.free hx4 2
          have HH4 := Aside0.mk ((HH.out.below (below_alloc (Below.refl _ w3) (.cells #[.int .i64 y.f0, .int .i64 y.f1, .slice A5 y.f2.length c5] 24))).turn hT7 HO.out)
          clear hA7 hT7 hx4
          cases r with
          | true =>
            have HFR6 : Aside0 (∀ q, (World.heap w4).size ≤ q → ¬ F q ∧ some q ≠ (Value.slice Ac cm.length cc).ownBlock) := ⟨HM4.out.freshW⟩
            have HOK6 := Aside0.mk (HO.out.toW)
            have HFit6 := Aside0.mk (HP.out.fits (by omega))
            go_wp2_with ((with_reducible refine gate_builtin (b := .append) (xs := #[.tmp 125, .tmp 127]) rfl ?_); at_builtin; refine Kd.N_append k24 (w0 := w) (W := w4) w.heap.size rfl (.tmp 125) (.tmp 127) 44 24 (.agg #[(.int .i64 0), (.int .i64 0), (.slice none 0 0)]) 40 rfl Try.underlying44 info24 rfl (by decide) (by omega) (.slice Aw wn.length cw) wn y [.int .i64 (y).f0, .int .i64 (y).f1, .slice A5 (y).f2.length c5] (fun q => ¬ F q ∧ some q ≠ (Value.slice Ac cm.length cc).ownBlock) (fun q => wr.heap.size ≤ q ∧ q < w3.heap.size) rfl rfl HH4.out HOK6.out HFR6.out HM4.out.went HM4.out.bel HM4.out.bel.size HFit6.out.2.2 ?_; intro v8 w8 ho hb hg hat; have HM8 := Aside0.mk (HM4.out.wentApp ho hb hg hat); obtain ⟨A8, c8, rfl⟩ := Kd.N_slice ho; rw [show (wn ++ [y]).length = wn.length + 1 from by simp] at HM8; clear ho hb hg hat)
            go_roundw
            case rel => exact ⟨k + 1, cm, wn ++ [y], dropAt L i, F, D, M, by omega, by go_num, HM8, ⟨HP.out.drop HI.out HY.out⟩, by omega⟩
            case measure => first | (simp [intOf]; done) | (simp [intOf]; omega)
          | false =>
            go_wp2_with fail
            go_roundw
            case rel => exact ⟨k + 1, cm, wn, dropAt L i, F, D, M, by omega, by go_num, HM4, ⟨HP.out.keep HI.out⟩, by omega⟩
            case measure => first | (simp [intOf]; done) | (simp [intOf]; omega)
        · as_aux_lemma =>
          have HLL := Aside0.mk (HP.out.fits (by omega)).1
          go_wp2_with fail
          refine (double_all HM3.out.air i HP.out.smallL HLL.out r HI.out).mono ?_
          rintro e w4 ⟨F4, rfl, hA7, hT7, hF7⟩
          have HM4 := Aside0.mk (HM3.out.turn hA7 hT7 hF7)
          have HO4 := Aside0.mk (HO.out.more (N := (World.heap (w3.alloc (.cells #[.int .i64 y.f0, .int .i64 y.f1, .slice A5 y.f2.length c5] 24))).size) (fun q hq => Nat.lt_of_lt_of_le hq.2 (below_alloc (Below.refl _ w3) _).size) (fun q hq => (hF7 q hq).imp id (fun h => h.1)))
          have hx4 : Blk w4 w3.heap.size #[.int .i64 y.f0, .int .i64 y.f1, .slice A5 y.f2.length c5] 24 := hT7.blk HBX.out (fun hF => by have := HM3a.out.air.lt _ hF; omega)
          have hxl := hx4.lt
          have hx40 : World.cell? w4 ⟨w3.heap.size, 0, none⟩ = some (.int .i64 y.f0) := Blk.cell hx4 0
          have hx4f0 : World.frozen? w4 ⟨w3.heap.size, 0, none⟩ = false := Blk.free hx4 0
          have hx41 : World.cell? w4 ⟨w3.heap.size, 1, none⟩ = some (.int .i64 y.f1) := Blk.cell hx4 1
          have hx4f1 : World.frozen? w4 ⟨w3.heap.size, 1, none⟩ = false := Blk.free hx4 1
          have hx42 : World.cell? w4 ⟨w3.heap.size, 2, none⟩ = some (.slice A5 y.f2.length c5) := Blk.cell hx4 2
          have hx4f2 : World.frozen? w4 ⟨w3.heap.size, 2, none⟩ = false := Blk.free hx4 2
          have HH4 := Aside0.mk ((HH.out.below (below_alloc (Below.refl _ w3) (.cells #[.int .i64 y.f0, .int .i64 y.f1, .slice A5 y.f2.length c5] 24))).turn hT7 HO.out)
          clear hA7 hT7 hF7 hx4
          cases r with
          | true =>
            have HFR6 : Aside0 (∀ q, (World.heap w4).size ≤ q → ¬ F4 q ∧ some q ≠ (Value.slice Aw wn.length cw).ownBlock) := ⟨HM4.out.freshC⟩
            have HOK6 := Aside0.mk (HO4.out.toC)
            have HFit6 := Aside0.mk (HP.out.fits (by omega))
            go_wp2_with ((with_reducible refine gate_builtin (b := .append) (xs := #[.tmp 138, .tmp 140]) rfl ?_); at_builtin; refine Kd.N_append k24 (w0 := w) (W := w4) w.heap.size rfl (.tmp 138) (.tmp 140) 44 24 (.agg #[(.int .i64 0), (.int .i64 0), (.slice none 0 0)]) 40 rfl Try.underlying44 info24 rfl (by decide) (by omega) (.slice Ac cm.length cc) cm y [.int .i64 (y).f0, .int .i64 (y).f1, .slice A5 (y).f2.length c5] (fun q => ¬ F4 q ∧ some q ≠ (Value.slice Aw wn.length cw).ownBlock) (fun q => wr.heap.size ≤ q ∧ q < w3.heap.size) rfl rfl HH4.out HOK6.out HFR6.out HM4.out.came HM4.out.bel HM4.out.bel.size HFit6.out.2.1 ?_; intro v8 w8 ho hb hg hat; have HM8 := Aside0.mk (HM4.out.cameApp ho hb hg hat); obtain ⟨A8, c8, rfl⟩ := Kd.N_slice ho; rw [show (cm ++ [y]).length = cm.length + 1 from by simp] at HM8; clear ho hb hg hat)
            go_roundw
            case rel => exact ⟨k + 1, cm ++ [y], wn, twoAt L i, F4, D, M, by omega, by go_num, HM8, ⟨HP.out.two HI.out HY.out⟩, by omega⟩
            case measure => first | (simp [intOf]; done) | (simp [intOf]; omega)
          | false =>
            go_wp2_with fail
            go_roundw
            case rel => exact ⟨k + 1, cm, wn, twoAt L i, F4, D, M, by omega, by go_num, HM4, ⟨HP.out.twoNo HI.out⟩, by omega⟩
            case measure => first | (simp [intOf]; done) | (simp [intOf]; omega)
        · as_aux_lemma =>
          go_wp2_with fail
          refine (hold_all HM3.out.air i r HI.out).mono ?_
          rintro e w4 ⟨rfl, hA7, hT7⟩
          have HM4 := Aside0.mk (HM3.out.turn hA7 hT7 (fun _ hk => .inl hk))
          clear hA7 hT7
          cases r with
          | true =>
            go_wp2_with fail
            go_roundw
            case rel => exact ⟨k + 1, cm, wn, endAt L i, F, D, M, by omega, by go_num, HM4, ⟨HP.out.hold⟩, by omega⟩
            case measure => first | (simp [intOf]; done) | (simp [intOf]; omega)
          | false =>
            go_wp2_with fail
            go_roundw
            case rel => exact ⟨k + 1, cm, wn, endAt L i, F, D, M, by omega, by go_num, HM4, ⟨HP.out.hold⟩, by omega⟩
            case measure => first | (simp [intOf]; done) | (simp [intOf]; omega)
        ·
          go_upto_region 35 with (fail)
          have HA4 := Aside0.mk (HM3.out.air.below (below_drew (Below.refl _ _)))
          have HM3d := Aside0.mk (HM3.out.below (below_drew (Below.refl _ _)))
          go_region_with (go_at_call 14; refine (cut_all HA4.out f t HF.out HT.out (by omega) true).mono ?_; rintro e w4 ⟨q1, D4, M4, rfl, hA4, hM4, hT4⟩; have HM4 := Aside0.mk (HM3d.out.turn hA4 hT4 (fun _ hk => .inl hk)); clear hA4 hT4)
          all_goals
            go_wp2_with fail
            go_roundw
            case rel => exact ⟨k + 1, cm, wn, L, F, D4, M4, by omega, by go_num, HM4, ⟨HP.out.more⟩, by omega⟩
            case measure => first | (simp [intOf]; done) | (simp [intOf]; omega)
        ·
          go_upto_region 35 with (fail)
          have HA4 := Aside0.mk (HM3.out.air.below (below_drew (Below.refl _ _)))
          have HM3d := Aside0.mk (HM3.out.below (below_drew (Below.refl _ _)))
          go_region_with (go_at_call 14; refine (cut_all HA4.out f t HF.out HT.out (by omega) false).mono ?_; rintro e w4 ⟨q1, D4, M4, rfl, hA4, hM4, hT4⟩; have HM4 := Aside0.mk (HM3d.out.turn hA4 hT4 (fun _ hk => .inl hk)); clear hA4 hT4)
          all_goals
            go_wp2_with fail
            go_roundw
            case rel => exact ⟨k + 1, cm, wn, L, F, D4, M4, by omega, by go_num, HM4, ⟨HP.out.more⟩, by omega⟩
            case measure => first | (simp [intOf]; done) | (simp [intOf]; omega)
        · as_aux_lemma =>
          go_wp2_with fail
          go_roundw
          case rel => exact ⟨k + 1, cm, wn, L, F, D, M, by omega, by go_num, HM3, ⟨HP.out.more⟩, by omega⟩
          case measure => first | (simp [intOf]; done) | (simp [intOf]; omega)
      · obtain rfl : k = l.length := by omega
        have HM0 := HM
        have hLk : L.length ≤ 200 := by have h1 := HP.out.total; have h2 := HP.out.len; omega
        have hWk : wn.length + L.length ≤ 200 := by have h1 := HP.out.total; have h2 := HP.out.len; omega
        clear HC HG HB HS HR hlt hM
        go_wp2_with fail
        go_loopw [6, 13] (fun vw i wr => ∃ (j : Nat), j ≤ L.length ∧ i = .int .i64 j ∧ Aside0 (Mem w wr b (.slice Ac cm.length cc) vw cm (wn ++ L.take j) L F D M)) (fun _ i _ => L.length - (intOf i).toNat)
        case atStart => exact ⟨0, by omega, rfl, ⟨by rw [List.take_zero, List.append_nil]; exact HM0.out⟩⟩
        case round => 
          obtain ⟨j, hj, rfl, HM⟩ := hrel
          clear HM0
          obtain ⟨Aw2, cw2, rfl⟩ := Kd.N_slice HM.out.went
          have hlen : (wn ++ L.take j).length = wn.length + j := by rw [List.length_append, List.length_take]; omega
          rw [hlen] at HM
          rw [hlen]
          clear hlen
          by_cases hjl : j < L.length
          · as_aux_lemma =>
            have hj5 : j < 500 := by omega
            go_wp2_with fail
            refine (count_any HM.out.air).mono ?_
            rintro e wr ⟨rfl, rfl⟩
            go_wp2_with fail
            obtain ⟨y, hy⟩ : ∃ y, rdAt L j = y := ⟨_, rfl⟩
            have hin : inR L j = true := by simp [inR, hjl]
            have HY := Aside0.mk hy
            have HI := Aside0.mk hin
            clear hy hin
            refine (at_all HM.out.air j HP.out.smallL y true HY.out HI.out).mono ?_
            rintro e w3 ⟨A5, c5, rfl, hh, hb3⟩
            have HO := Aside0.mk (HM.out.offNew w3.heap.size)
            have HH : Aside0 (Held (w3.alloc (.cells #[.int .i64 y.f0, .int .i64 y.f1, .slice A5 y.f2.length c5] 24)) (fun q => wr.heap.size ≤ q ∧ q < w3.heap.size) y A5 c5) := ⟨Held.below hh (below_alloc (Below.refl _ _) _)⟩
            have HM3 := Aside0.mk ((HM.out.below hb3).below (below_alloc (Below.refl _ w3) (.cells #[.int .i64 y.f0, .int .i64 y.f1, .slice A5 y.f2.length c5] 24)))
            have HFR3 : Aside0 (∀ q, (World.heap (w3.alloc (.cells #[.int .i64 y.f0, .int .i64 y.f1, .slice A5 y.f2.length c5] 24))).size ≤ q → ¬ F q ∧ some q ≠ (Value.slice Ac cm.length cc).ownBlock) := ⟨HM3.out.freshW⟩
            have HOK3 := Aside0.mk HO.out.toW
            have HL3 := Aside0.mk (show (wn ++ L.take j).length = wn.length + j from by rw [List.length_append, List.length_take]; omega)
            have HE3 := Aside0.mk (show L.take j ++ [y] = L.take (j + 1) from by
              obtain ⟨hi, e⟩ := rd_in HI.out
              rw [← HY.out, rdAt, if_pos HI.out, e, List.take_succ_eq_append_getElem hjl]
              simp)
            clear hh hb3
            go_wp2_with ((with_reducible refine gate_builtin (b := .append) (xs := #[.tmp 194, .tmp 196]) rfl ?_); at_builtin; refine Kd.N_append k24 (w0 := w) (W := (w3.alloc (.cells #[.int .i64 y.f0, .int .i64 y.f1, .slice A5 y.f2.length c5] 24))) w.heap.size rfl (.tmp 194) (.tmp 196) 44 24 (.agg #[(.int .i64 0), (.int .i64 0), (.slice none 0 0)]) 40 rfl Try.underlying44 info24 rfl (by decide) (by omega) (.slice Aw2 (wn.length + j) cw2) (wn ++ L.take j) y [.int .i64 y.f0, .int .i64 y.f1, .slice A5 y.f2.length c5] (fun q => ¬ F q ∧ some q ≠ (Value.slice Ac cm.length cc).ownBlock) (fun q => wr.heap.size ≤ q ∧ q < w3.heap.size) rfl (by first | exact rfl | simp [Act.eval, Act.put]) HH.out HOK3.out HFR3.out HM3.out.went HM3.out.bel HM3.out.bel.size (by rw [HL3.out]; omega) ?_; intro v8 w8 ho hb hg hat; have HM8 := Aside0.mk (HM3.out.wentApp ho hb hg hat); rw [List.append_assoc, HE3.out] at HM8; clear ho hb hg hat)
            go_roundw
            case rel => exact ⟨j + 1, by omega, by go_num, HM8⟩
            case measure => first | (simp [intOf]; done) | (simp [intOf]; omega)
          · obtain rfl : j = L.length := by omega
            have HPP : Aside0 ((wn ++ L).Perm cm) := ⟨HP.out.perm⟩
            rw [List.take_length] at HM
            have hlen : wn.length + L.length = cm.length := HP.out.total
            have hcm : cm.length ≤ 200 := by omega
            clear HP
            rw [hlen] at HM ⊢
            go_wp2_with fail
            refine (count_any HM.out.air).mono ?_
            rintro e w' ⟨rfl, rfl⟩
            go_wp2_with fail
            go_loopw [16] (fun i wr => ∃ (m : Nat), m ≤ cm.length ∧ i = .int .i64 m ∧ Aside0 (Mem w wr b (.slice Ac cm.length cc) (.slice Aw2 cm.length cw2) cm (wn ++ L) L F D M)) (fun i _ => cm.length - (intOf i).toNat)
            case atStart => exact ⟨0, by omega, rfl, HM⟩
            case round => 
              obtain ⟨m, hm, rfl, HM3⟩ := hrel
              clear HM
              by_cases hml : m < cm.length
              · obtain ⟨ad, A2, c2, rfl, hcl, hhl⟩ := came_at HM3.out rfl m hml
                generalize rd_T24 cm m = y at hcl hhl
                obtain ⟨n, hn⟩ : ∃ n, cm.countP (fun x => alike x y) = n := ⟨_, rfl⟩
                have HN1 := Aside0.mk hn
                have HN2 := Aside0.mk ((HPP.out.countP_eq (fun x => alike x y)).trans hn)
                have HCL := Aside0.mk hcl
                have HH : Aside0 (Held wr (fun k => k < wr.heap.size) y A2 c2) := ⟨hhl⟩
                clear hcl hhl hn
                have HMd := Aside0.mk (HM3.out.below (below_drew (Below.refl _ wr)))
                have HHd : Aside0 (Held wr.drew (fun k => k < wr.heap.size) y A2 c2) := ⟨HH.out.below (below_drew (Below.refl _ wr))⟩
                have HBd := Aside0.mk (below_drew (Below.refl wr.heap.size wr))
                have HLn : Aside0 ((wn ++ L).length = cm.length) := ⟨by rw [List.length_append]; exact hlen⟩
                have HWd : Aside0 (Kd.N k24 24 wr.drew w.heap.size (fun q => ¬ F q ∧ some q ≠ (Value.slice (some ad) cm.length cc).ownBlock) (.slice Aw2 (wn ++ L).length cw2) (wn ++ L)) := ⟨by rw [HLn.out]; exact HMd.out.went⟩
                have HCd : Aside0 (Kd.N k24 24 wr.drew w.heap.size (fun q => ¬ F q ∧ some q ≠ (Value.slice Aw2 cm.length cw2).ownBlock) (.slice (some ad) cm.length cc) cm) := ⟨HMd.out.came⟩
                obtain ⟨x0, x1, x2, xl⟩ := HCL.out wr (Below.refl _ _)
                go_wp2_with fail
                go_region_with (first
                  | (go_at_call_of 19 (Value.slice (some ad) cm.length cc); (first | (refine (count_row HCe.out (by omega) y HHe.out n HN1.out).mono ?_) | (refine (count_row HCd.out (by omega) y HHd.out n HN1.out).mono ?_)); rintro e w4 ⟨rfl, hb4⟩; (first | (have HMf := Aside0.mk (HMe.out.below hb4)) | (have HMe := Aside0.mk (HMd.out.below hb4); have HBe := Aside0.mk (below_then HBd.out HBd.out.size hb4); have HHe := Aside0.mk (Held.below HHd.out hb4); have HWe := Aside0.mk (Kd.N_below HWd.out hb4); obtain ⟨e0, e1, e2, el⟩ := HCL.out w4 HBe.out)); clear hb4)
                  | (go_at_call_of 19 (Value.slice Aw2 cm.length cw2); rw [← HLn.out]; (first | (refine (count_row HWe.out (by rw [HLn.out]; omega) y HHe.out n HN2.out).mono ?_) | (refine (count_row HWd.out (by rw [HLn.out]; omega) y HHd.out n HN2.out).mono ?_)); rw [HLn.out]; rintro e w4 ⟨rfl, hb4⟩; (first | (have HMf := Aside0.mk (HMe.out.below hb4)) | (have HMe := Aside0.mk (HMd.out.below hb4); have HBe := Aside0.mk (below_then HBd.out HBd.out.size hb4); have HHe := Aside0.mk (Held.below HHd.out hb4); have HCe := Aside0.mk (Kd.N_below HCd.out hb4); obtain ⟨e0, e1, e2, el⟩ := HCL.out w4 HBe.out)); clear hb4))
                all_goals
                  go_wp2_with fail
                  go_roundw
                  case rel => exact ⟨m + 1, by omega, by go_num, HMf⟩
                  case measure => first | (simp [intOf]; done) | (simp [intOf]; omega)
              · go_wp2_with fail
                refine (wakes_any _).mono ?_
                rintro e w2 ⟨rfl, hb2⟩
                have HB2 := Aside0.mk (HM3.out.below hb2).bel
                clear hb2
                go_wp2_with fail
                go_ret
                exact ⟨rfl, HB2.out⟩
end Go.Proofs.Ytikfelmmelkioaa.Mine
