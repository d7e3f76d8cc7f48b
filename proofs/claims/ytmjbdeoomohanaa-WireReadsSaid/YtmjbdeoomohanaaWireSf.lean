/- wire: WireReads. -/
import Derived.Test.YtmjbdeoomohanaaWireSe
set_option linter.unusedSimpArgs false
set_option linter.unusedVariables false
namespace Go.Proofs.Ytmjbdeoomohanaa.Mine
open Go.RowKit Go.Maps Go.Proofs.YtmjbdeoomohanaaW.PrintWords Go.Proofs.YtmjbdeoomohanaaW.PrintLast Go.Proofs.YtmjbdeoomohanaaW.PrintMore Go.Proofs.Ytmjbdeoomohanaa.PWirePacks Go.Proofs.Ytmjbdeoomohanaa.Turn

def msgX (X : Except Int Msg) : Msg := match X with
  | .ok m => m
  | .error _ => zM 0
def codeX (X : Except Int Msg) : Int := match X with
  | .ok _ => 0
  | .error x => x
theorem EndsP.u {w w' : World} {X : Except Int Msg} {e : Ending} (h : EndsP w X e w') : Below w.heap.size w w' ∧ ∃ cs, e = .returned (.tuple #[.agg cs, .int .i64 (codeX X)]) ∧ ArgF w' (fun k => w.heap.size ≤ k) (msgX X) cs := by
  obtain ⟨h1, cs, h2⟩ := h
  cases X with
  | ok m => exact ⟨h1, cs, h2⟩
  | error x => exact ⟨h1, cs, h2⟩
theorem codeX_rg {l : List Int} : -9223372036854775808 ≤ codeX (parseS l) ∧ codeX (parseS l) ≤ 9223372036854775807 := by
  cases h : parseS l with
  | ok m => exact ⟨by show (-9223372036854775808 : Int) ≤ 0; omega, by show (0 : Int) ≤ 9223372036854775807; omega⟩
  | error x =>
    have := parseS_err h
    unfold Err at this
    exact ⟨by show (-9223372036854775808 : Int) ≤ x; omega, by show x ≤ 9223372036854775807; omega⟩
theorem msgX_rg {l : List Int} (hb : Byt l) : RgM (msgX (parseS l)) := by
  cases h : parseS l with
  | ok m => exact (parse_read hb h).2.1
  | error x => exact zM_rg

set_option maxHeartbeats 8000000 in
set_option maxRecDepth 100000 in
theorem wireReads_any {w : World} {A : Option Addr} {c : Nat} {l : List Int} (hl : l.length ≤ c) (hb : Byt l) (hr : Kd.C (Kd.int .u8) w A l.length l) :
    Calls Try.prog 4 #[.slice A l.length c] w fun e w' => e = .returned (.bool true) ∧ Below w.heap.size w w' := by
  have HR := Aside0.mk hr
  have HL := Aside0.mk hl
  have HBY := Aside0.mk hb
  clear hr hl hb
  by_cases hbig : 262144 < l.length
  · go_enter Try.func4, Try.ntmps4
    go_wp2_with fail
    refine (wakes_any _).mono ?_
    rintro e w2 ⟨rfl, hb2⟩
    have HB2 := Aside0.mk hb2
    clear hb2
    go_wp2_with fail
    go_ret
    exact ⟨rfl, HB2.out⟩
  · go_enter Try.func4, Try.ntmps4
    have HEM := Aside0.mk (R_empty (Kd.int .u8) 5 w w.heap.size (Nat.le_refl _))
    have HRA := Aside0.mk (Kd.C_alloc HR.out (.cells #[] 5))
    have HBA := Aside0.mk (below_alloc (Below.refl w.heap.size w) (.cells #[] 5))
    go_wp2_with (at_builtin; refine Kd.R_append_rows (Kd.int .u8) (w0 := w) w.heap.size rfl (.tmp 13) (.tmp 14) 24 5 (.int .u8 0) 1 rfl Try.underlying24 info5 rfl (by decide) (by omega) (.slice (some ⟨w.heap.size, 0, none⟩) 0 0) ([] : List Int) l _ _ _ (fun _ => True) (fun _ => False) rfl rfl HEM.out HRA.out (fun _ _ h => h) (fun _ h => h.elim) (fun _ _ => trivial) HBA.out (by simp) (by simp; omega) ?_; intro v1 w1 ho hb hg hat; rw [List.nil_append] at ho; obtain ⟨A1, c1, rfl⟩ := Kd.R_slice ho; have HO := Aside0.mk ho; have HB1 := Aside0.mk hb; clear ho hb hg hat)
    have hc1 := (Kd.R_reads' HO.out).2.1
    have hC1 := (Kd.R_F (Kd.R_bound HO.out))
    have HF1 : Aside0 (Kd.F (Kd.int .u8) w1 (OwnB w w1) A1 l.length l) := ⟨Kd.F_mono hC1 (fun k hk => ⟨hk.2.1, hk.2.2.1, let ⟨q, _, c, hc⟩ := hk.2.2.2; ⟨q, c, hc⟩⟩)⟩
    have HFR : Aside0 (∀ p : Addr, OwnB w w1 p.block → w1.frozen? p = false) := ⟨fun p hp => by
      obtain ⟨-, -, q, cells, h3⟩ := hp
      simp [World.frozen?, h3]⟩
    clear hC1
    refine (parse_any hc1 (by omega) HBY.out (Kd.F_now HF1.out)).mono ?_
    intro e w2 hE
    obtain ⟨hb2, cs, rfl, hA⟩ := hE.u
    clear hE
    obtain ⟨m, hm⟩ : ∃ m, msgX (parseS l) = m := ⟨_, rfl⟩
    obtain ⟨x, hx⟩ : ∃ x, codeX (parseS l) = x := ⟨_, rfl⟩
    rw [hm] at hA
    rw [hx]
    have HRG : Aside0 (RgM m) := ⟨by rw [← hm]; exact msgX_rg HBY.out⟩
    have HM := Aside0.mk hm
    have HX := Aside0.mk hx
    have hx0 := (codeX_rg (l := l)).1
    have hx1 := (codeX_rg (l := l)).2
    rw [hx] at hx0 hx1
    have hA0 := hA
    obtain ⟨B5, d5, B8, d8, B13, d13, rfl, -⟩ := hA0
    simp only [mcells] at hA ⊢
    have HB2 := Aside0.mk (below_step HB1.out hb2)
    have HD2 := Aside0.mk hb2
    have HA2 := Aside0.mk hA
    have HF2 := Aside0.mk (Kd.F_below HF1.out hb2)
    have HR2 := Aside0.mk (Kd.C_below HR.out HB2.out)
    clear hb2 hm hx
    have hsz3 : (w2.alloc (.cells #[.int .u8 m.ty, .int .u64 m.view, .int .u64 m.normal, .int .i64 m.op, .int .i64 m.commit, .slice B5 m.log.length d5, .int .u64 m.client, .int .u64 m.seq, .slice B8 m.body.length d8, .int .u64 m.key, .int .u8 m.shard, .int .u32 m.stripe, .int .i64 m.code, .slice B13 m.blocks.length d13] 29)).heap.size = w2.heap.size + 1 := by simp
    have hb3 := below_alloc (Below.refl w2.heap.size w2) (.cells #[.int .u8 m.ty, .int .u64 m.view, .int .u64 m.normal, .int .i64 m.op, .int .i64 m.commit, .slice B5 m.log.length d5, .int .u64 m.client, .int .u64 m.seq, .slice B8 m.body.length d8, .int .u64 m.key, .int .u8 m.shard, .int .u32 m.stripe, .int .i64 m.code, .slice B13 m.blocks.length d13] 29)
    have hg3 := Blk.new w2 #[.int .u8 m.ty, .int .u64 m.view, .int .u64 m.normal, .int .i64 m.op, .int .i64 m.commit, .slice B5 m.log.length d5, .int .u64 m.client, .int .u64 m.seq, .slice B8 m.body.length d8, .int .u64 m.key, .int .u8 m.shard, .int .u32 m.stripe, .int .i64 m.code, .slice B13 m.blocks.length d13] 29
    have hcv1 := Kd.C_string (P := Try.prog) (A := A1) (c := c1) Try.underlying24 Try.underlying5 Try.underlying9 (Kd.C_below (Kd.F_now HF2.out) hb3)
    have hcv2 := Kd.C_string (P := Try.prog) (A := A) (c := c) Try.underlying24 Try.underlying5 Try.underlying9 (Kd.C_below HR2.out hb3)
    go_upto_region 7 with (fail)
    obtain ⟨Sx, hSx⟩ : ∃ Sx, OwnB w w1 = Sx := ⟨_, rfl⟩
    have HSX : Aside0 (∀ k, Sx k → w.heap.size ≤ k ∧ k < w1.heap.size) := ⟨fun k hk => by rw [← hSx] at hk; exact ⟨hk.1, hk.2.1⟩⟩
    have HFR3 : Aside0 (∀ p : Addr, Sx p.block → (w2.alloc (.cells #[.int .u8 m.ty, .int .u64 m.view, .int .u64 m.normal, .int .i64 m.op, .int .i64 m.commit, .slice B5 m.log.length d5, .int .u64 m.client, .int .u64 m.seq, .slice B8 m.body.length d8, .int .u64 m.key, .int .u8 m.shard, .int .u32 m.stripe, .int .i64 m.code, .slice B13 m.blocks.length d13] 29)).frozen? p = false) := ⟨fun p hp => by
      rw [← hSx] at hp
      obtain ⟨-, h2, q, cells, h3⟩ := hp
      have h4 := (hb3.block _ (Nat.lt_of_lt_of_le h2 HD2.out.size)).trans ((HD2.out.block _ h2).trans h3)
      unfold World.frozen?
      rw [h4]
      simp⟩
    have hF3 := Kd.F_below HF2.out hb3
    rw [hSx] at hF3
    have HF3 := Aside0.mk hF3
    have HA3 := Aside0.mk (hA.below hb3)
    have HB3 := Aside0.mk (below_step HB2.out hb3)
    obtain ⟨g, hg⟩ : ∃ g, w2.heap.size = g := ⟨_, rfl⟩
    rw [hg] at hg3 hsz3
    simp only [hg]
    have hgl : w1.heap.size ≤ g := by have := HD2.out.size; omega
    have hwl : w.heap.size ≤ w1.heap.size := HB1.out.size
    clear hg
    generalize w2.alloc (.cells #[.int .u8 m.ty, .int .u64 m.view, .int .u64 m.normal, .int .i64 m.op, .int .i64 m.commit, .slice B5 m.log.length d5, .int .u64 m.client, .int .u64 m.seq, .slice B8 m.body.length d8, .int .u64 m.key, .int .u8 m.shard, .int .u32 m.stripe, .int .i64 m.code, .slice B13 m.blocks.length d13] 29) = w3 at *
    have HG3 := Aside0.mk hg3
    clear hg3 hF3 hSx hcv1 hcv2 hb3 HD2 HF2 HF1 HFR hA HA2 HB2 HR2 HO HEM HRA HBA hc1
    go_wp2_with fail
    go_loopw [6] (fun i wr => ∃ q : Nat, q ≤ l.length ∧ i = .int .i64 q ∧ Aside0 (Sim Sx w3 wr)) (fun i _ => l.length - (intOf i).toNat)
    case atStart => exact ⟨0, Nat.zero_le _, rfl, ⟨Sim.refl _ _⟩⟩
    case round =>
      obtain ⟨q, hq, rfl, HS⟩ := hrel
      by_cases hql : q < l.length
      · obtain ⟨a2, u, rfl, yb, ys⟩ := HS.out.byte HF3.out hql
        have hab := World.block_lt_of_cell? _ _ yb
        have hfb := (HS.out.free (a2.add q)).trans (HFR3.out _ (by rw [blkAdd]; exact ys))
        have HS3 := Aside0.mk (HS.out.set yb (by rw [blkAdd]; exact ys) (bits BinOp.xor IntKind.u8 (if IntKind.u8.signed = true then -1 else IntKind.u8.max) u))
        go_wp2_with fail
        go_roundw
        case rel => exact ⟨q + 1, by omega, by go_num, HS3⟩
        case measure => simp [intOf]; omega
      · obtain rfl : q = l.length := by omega
        have ht := HS.out.turn
        have HB4 := Aside0.mk (below_turned HB3.out ht HB3.out.size (fun k hk => (HSX.out k hk).1))
        have HG4 : Aside0 (Blk wr g #[.int .u8 m.ty, .int .u64 m.view, .int .u64 m.normal, .int .i64 m.op, .int .i64 m.commit, .slice B5 m.log.length d5, .int .u64 m.client, .int .u64 m.seq, .slice B8 m.body.length d8, .int .u64 m.key, .int .u8 m.shard, .int .u32 m.stripe, .int .i64 m.code, .slice B13 m.blocks.length d13] 29) := ⟨ht.blk HG3.out (fun hk => by have := (HSX.out g hk).2; omega)⟩
        have HA4 : Aside0 (ArgF wr (fun k => w1.heap.size ≤ k) m #[.int .u8 m.ty, .int .u64 m.view, .int .u64 m.normal, .int .i64 m.op, .int .i64 m.commit, .slice B5 m.log.length d5, .int .u64 m.client, .int .u64 m.seq, .slice B8 m.body.length d8, .int .u64 m.key, .int .u8 m.shard, .int .u32 m.stripe, .int .i64 m.code, .slice B13 m.blocks.length d13]) := ⟨(HA3.out.step (fun k hk hlt => ht.block k hlt (fun h => by have := (HSX.out k h).2; have := hk.1; omega))).mono (fun k hk => hk.1)⟩
        have HC4 := Aside0.mk (Kd.C_below HR.out HB4.out)
        have hgx := HG4.out.lt
        clear ht hql hq
        go_wp2_with fail
        refine (parseR_any HL.out (by omega) HBY.out HC4.out).mono ?_
        rw [← parseS_L]
        intro e w5 hE
        obtain ⟨hb5, cs, rfl, hA5⟩ := hE.u
        clear hE
        rw [HM.out] at hA5
        rw [HX.out]
        have hA0 := hA5
        obtain ⟨E5, f5, E8, f8, E13, f13, rfl, -⟩ := hA0
        simp only [mcells] at hA5 ⊢
        have HB5 := Aside0.mk (below_step HB4.out hb5)
        have hb6 := below_alloc (Below.refl w5.heap.size w5) (.cells #[.int .u8 m.ty, .int .u64 m.view, .int .u64 m.normal, .int .i64 m.op, .int .i64 m.commit, .slice E5 m.log.length f5, .int .u64 m.client, .int .u64 m.seq, .slice E8 m.body.length f8, .int .u64 m.key, .int .u8 m.shard, .int .u32 m.stripe, .int .i64 m.code, .slice E13 m.blocks.length f13] 29)
        have HB6 := Aside0.mk (below_step HB5.out hb6)
        have hg6 : Blk (w5.alloc (.cells #[.int .u8 m.ty, .int .u64 m.view, .int .u64 m.normal, .int .i64 m.op, .int .i64 m.commit, .slice E5 m.log.length f5, .int .u64 m.client, .int .u64 m.seq, .slice E8 m.body.length f8, .int .u64 m.key, .int .u8 m.shard, .int .u32 m.stripe, .int .i64 m.code, .slice E13 m.blocks.length f13] 29)) g #[.int .u8 m.ty, .int .u64 m.view, .int .u64 m.normal, .int .i64 m.op, .int .i64 m.commit, .slice B5 m.log.length d5, .int .u64 m.client, .int .u64 m.seq, .slice B8 m.body.length d8, .int .u64 m.key, .int .u8 m.shard, .int .u32 m.stripe, .int .i64 m.code, .slice B13 m.blocks.length d13] 29 := Blk.alloc ((hb5.block _ HG4.out.lt).trans HG4.out) _
        have he6 := Blk.new w5 #[.int .u8 m.ty, .int .u64 m.view, .int .u64 m.normal, .int .i64 m.op, .int .i64 m.commit, .slice E5 m.log.length f5, .int .u64 m.client, .int .u64 m.seq, .slice E8 m.body.length f8, .int .u64 m.key, .int .u8 m.shard, .int .u32 m.stripe, .int .i64 m.code, .slice E13 m.blocks.length f13] 29
        have HA6 := Aside0.mk ((HA4.out.below hb5).below hb6)
        have HE6 := Aside0.mk (hA5.below hb6)
        have hxx : (x == x) = true := by simp
        have he6l := he6.lt
        obtain ⟨g2, hg2⟩ : ∃ g2, w5.heap.size = g2 := ⟨_, rfl⟩
        rw [hg2] at he6 he6l
        generalize hw7 : (w5.alloc (.cells #[.int .u8 m.ty, .int .u64 m.view, .int .u64 m.normal, .int .i64 m.op, .int .i64 m.commit, .slice E5 m.log.length f5, .int .u64 m.client, .int .u64 m.seq, .slice E8 m.body.length f8, .int .u64 m.key, .int .u8 m.shard, .int .u32 m.stripe, .int .i64 m.code, .slice E13 m.blocks.length f13] 29)) = w7 at *
        have hg60 : World.cell? w7 ⟨g, 0, none⟩ = some (.int .u8 m.ty) := Blk.cell hg6 0
        have hg61 : World.cell? w7 ⟨g, 1, none⟩ = some (.int .u64 m.view) := Blk.cell hg6 1
        have hg62 : World.cell? w7 ⟨g, 2, none⟩ = some (.int .u64 m.normal) := Blk.cell hg6 2
        have hg63 : World.cell? w7 ⟨g, 3, none⟩ = some (.int .i64 m.op) := Blk.cell hg6 3
        have hg64 : World.cell? w7 ⟨g, 4, none⟩ = some (.int .i64 m.commit) := Blk.cell hg6 4
        have hg65 : World.cell? w7 ⟨g, 5, none⟩ = some (.slice B5 m.log.length d5) := Blk.cell hg6 5
        have hg66 : World.cell? w7 ⟨g, 6, none⟩ = some (.int .u64 m.client) := Blk.cell hg6 6
        have hg67 : World.cell? w7 ⟨g, 7, none⟩ = some (.int .u64 m.seq) := Blk.cell hg6 7
        have hg68 : World.cell? w7 ⟨g, 8, none⟩ = some (.slice B8 m.body.length d8) := Blk.cell hg6 8
        have hg69 : World.cell? w7 ⟨g, 9, none⟩ = some (.int .u64 m.key) := Blk.cell hg6 9
        have hg610 : World.cell? w7 ⟨g, 10, none⟩ = some (.int .u8 m.shard) := Blk.cell hg6 10
        have hg611 : World.cell? w7 ⟨g, 11, none⟩ = some (.int .u32 m.stripe) := Blk.cell hg6 11
        have hg612 : World.cell? w7 ⟨g, 12, none⟩ = some (.int .i64 m.code) := Blk.cell hg6 12
        have hg613 : World.cell? w7 ⟨g, 13, none⟩ = some (.slice B13 m.blocks.length d13) := Blk.cell hg6 13
        have hgl6 := hg6.lt
        have HSAME := Aside0.mk ((sameM_iff HRG.out HRG.out).2 rfl)
        have he60 : World.cell? w7 ⟨g2, 0, none⟩ = some (.int .u8 m.ty) := Blk.cell he6 0
        have he61 : World.cell? w7 ⟨g2, 1, none⟩ = some (.int .u64 m.view) := Blk.cell he6 1
        have he62 : World.cell? w7 ⟨g2, 2, none⟩ = some (.int .u64 m.normal) := Blk.cell he6 2
        have he63 : World.cell? w7 ⟨g2, 3, none⟩ = some (.int .i64 m.op) := Blk.cell he6 3
        have he64 : World.cell? w7 ⟨g2, 4, none⟩ = some (.int .i64 m.commit) := Blk.cell he6 4
        have he65 : World.cell? w7 ⟨g2, 5, none⟩ = some (.slice E5 m.log.length f5) := Blk.cell he6 5
        have he66 : World.cell? w7 ⟨g2, 6, none⟩ = some (.int .u64 m.client) := Blk.cell he6 6
        have he67 : World.cell? w7 ⟨g2, 7, none⟩ = some (.int .u64 m.seq) := Blk.cell he6 7
        have he68 : World.cell? w7 ⟨g2, 8, none⟩ = some (.slice E8 m.body.length f8) := Blk.cell he6 8
        have he69 : World.cell? w7 ⟨g2, 9, none⟩ = some (.int .u64 m.key) := Blk.cell he6 9
        have he610 : World.cell? w7 ⟨g2, 10, none⟩ = some (.int .u8 m.shard) := Blk.cell he6 10
        have he611 : World.cell? w7 ⟨g2, 11, none⟩ = some (.int .u32 m.stripe) := Blk.cell he6 11
        have he612 : World.cell? w7 ⟨g2, 12, none⟩ = some (.int .i64 m.code) := Blk.cell he6 12
        have he613 : World.cell? w7 ⟨g2, 13, none⟩ = some (.slice E13 m.blocks.length f13) := Blk.cell he6 13
        clear hb5 hA5 hb6 hg6 he6
        go_wp2_with fail
        refine (same_any m m _ _ _ HA6.out HE6.out HRG.out.log.1 HRG.out.blocks.1).mono ?_
        rw [HSAME.out]
        rintro e w6 ⟨rfl, hb⟩
        have HB7 := Aside0.mk (below_step HB6.out hb)
        clear hb
        go_wp2_with fail
        refine (wakes_any _).mono ?_
        rintro e wa ⟨rfl, hb⟩
        have HBA := Aside0.mk (below_step HB7.out hb)
        clear hb
        go_wp2_with fail
        go_ret
        exact ⟨rfl, HBA.out⟩
end Go.Proofs.Ytmjbdeoomohanaa.Mine
