import Derived.Test.YtmjbdeoomohanaaWm10
import Derived.BigQuiet

/- wire: the document's SpoiltLog, Spoilt. -/
set_option linter.unusedSimpArgs false
set_option linter.unusedVariables false
namespace Go.Proofs.Ytmjbdeoomohanaa.Mine
open Go.RowKit Go.Maps Go.Proofs.YtmjbdeoomohanaaW.PrintWords Go.Proofs.YtmjbdeoomohanaaW.PrintLast Go.Proofs.YtmjbdeoomohanaaW.PrintMore Go.Proofs.Ytmjbdeoomohanaa.PWirePacks Go.Proofs.Ytmjbdeoomohanaa.Turn

set_option maxHeartbeats 8000000 in
set_option maxRecDepth 100000 in
theorem spoiltLog_any {w0 w : World} {S : Nat → Prop} {A : Option Addr} {c : Nat} {l : List S44} (hs : Sim S w0 w) (hF : Kd.F k44 w0 S A l.length l) (hfree : ∀ p : Addr, S p.block → w0.frozen? p = false) (hl : l.length ≤ 4611686018427387904) (hx : ∀ x ∈ l, x.f2.length ≤ 4611686018427387904) :
    Calls Try.prog 28 #[.slice A l.length c] w fun e w' => e = .returned (.tuple #[]) ∧ Sim S w0 w' := by
  have HS0 := Aside0.mk hs
  have HF := Aside0.mk hF
  have HFR := Aside0.mk hfree
  have HX := Aside0.mk hx
  clear hF hfree hx hs
  go_enter Try.func28, Try.ntmps28
  go_wp2_with fail
  go_loopw [2] (fun i wr => ∃ k : Nat, k ≤ l.length ∧ i = .int .i64 k ∧ Aside0 (Sim S w0 wr)) (fun i _ => l.length - (intOf i).toNat)
  case atStart => exact ⟨0, Nat.zero_le _, rfl, HS0⟩
  case round =>
    obtain ⟨k, hk, rfl, HS⟩ := hrel
    by_cases hlt : k < l.length
    · have hx2 := HX.out _ (List.getElem_mem hlt)
      go_wp2_with fail
      go_loopw [3] (fun i wr => ∃ q : Nat, q ≤ l[k].f2.length ∧ i = .int .i64 q ∧ Aside0 (Sim S w0 wr)) (fun i _ => l[k].f2.length - (intOf i).toNat)
      case atStart => exact ⟨0, Nat.zero_le _, rfl, HS⟩
      case round =>
        obtain ⟨q, hq, rfl, HS2⟩ := hrel
        obtain ⟨ad, A2, c2, u0, u1, rfl, y0, y1, y2, y3, y4, HB⟩ := HS2.out.entry HF.out hlt
        have han := World.block_lt_of_cell? _ _ y0
        by_cases hql : q < l[k].f2.length
        · obtain ⟨a2, u, rfl, yb, ys⟩ := HB.out q hql
          have hab := World.block_lt_of_cell? _ _ yb
          have hfb := (HS2.out.free (a2.add q)).trans (HFR.out _ (by rw [blkAdd]; exact ys))
          have HS3 := Aside0.mk (HS2.out.set yb (by rw [blkAdd]; exact ys) (bits BinOp.xor IntKind.u8 (if IntKind.u8.signed = true then -1 else IntKind.u8.max) u))
          clear HB
          go_wp2_with fail
          go_region
          go_wp2_with fail
          exact ⟨⟨q + 1, by omega, by go_num, ⟨HS3.out.drew⟩⟩, by simp [intOf]; omega⟩
        · have hf0 := (HS2.out.free (ad.add (k * 3))).trans (HFR.out _ (by rw [blkAdd]; exact y4))
          have HS3 := Aside0.mk (HS2.out.set y0 (by rw [blkAdd]; exact y4) (bits BinOp.xor IntKind.u64 IntKind.u64.max u0))
          obtain ⟨ad', A2', c2', u0', u1', e, -, z1, -⟩ := HS3.out.entry HF.out hlt
          cases e
          have hf1 := (HS2.out.free ⟨(ad.add (k * 3)).block, (ad.add (k * 3)).off + 1, none⟩).trans (HFR.out _ (by show S (ad.add (k * 3)).block; rw [blkAdd]; exact y4))
          have HS4 := Aside0.mk (HS3.out.set z1 (by show S (ad.add (k * 3)).block; rw [blkAdd]; exact y4) 77)
          clear HB
          go_wp2_with fail
          go_roundw
          case rel => exact ⟨k + 1, by omega, by go_num, HS4⟩
          case measure => simp [intOf]; omega
    · go_wp2_with fail
      refine bodyPost_end (results_none rfl _ _ _) rfl ?_
      exact ⟨rfl, HS.out⟩
end Go.Proofs.Ytmjbdeoomohanaa.Mine

/- wire: the document's Spoilt (printed by wip/gen/wireRj.py). -/
set_option linter.unusedSimpArgs false
set_option linter.unusedVariables false
namespace Go.Proofs.Ytmjbdeoomohanaa.Mine
open Go.RowKit Go.Maps Go.Proofs.YtmjbdeoomohanaaW.PrintWords Go.Proofs.YtmjbdeoomohanaaW.PrintLast Go.Proofs.YtmjbdeoomohanaaW.PrintMore Go.Proofs.Ytmjbdeoomohanaa.PWirePacks Go.Proofs.Ytmjbdeoomohanaa.Turn

set_option maxHeartbeats 16000000 in
set_option maxRecDepth 100000 in
theorem spoilt_any {w : World} {S : Nat → Prop} {m : Msg} {cs : Array Value} (hm : ArgF w S m cs) (hfree : ∀ k, S k → k < w.heap.size ∧ ∃ q cells, w.heap[k]? = some (.cells cells q (0, 0))) (hs : SmallM m) :
    Calls Try.prog 14 #[.agg cs] w fun e w' => e = .returned (.tuple #[]) ∧ Turned S w w' := by
  obtain ⟨A5, c5, A8, c8, A13, c13, rfl, h1, h2, h3, f5, f8, f13⟩ := hm
  have HX := Aside0.mk (Blk.new w (mcells m A5 c5 A8 c8 A13 c13) 29)
  have HA := Aside0.mk (below_alloc (Below.refl w.heap.size w) (.cells (mcells m A5 c5 A8 c8 A13 c13) 29))
  have F5 := Aside0.mk (Kd.F_alloc f5 (.cells (mcells m A5 c5 A8 c8 A13 c13) 29))
  have F8 := Aside0.mk (Kd.F_alloc f8 (.cells (mcells m A5 c5 A8 c8 A13 c13) 29))
  have F13 := Aside0.mk (Kd.F_alloc f13 (.cells (mcells m A5 c5 A8 c8 A13 c13) 29))
  have HT := Aside0.mk ((Turned.refl S w).alloc (.cells (mcells m A5 c5 A8 c8 A13 c13) 29))
  have HFR : Aside0 (∀ p : Addr, S p.block → (w.alloc (.cells (mcells m A5 c5 A8 c8 A13 c13) 29)).frozen? p = false) := ⟨fun p hp => by
    obtain ⟨h1, q, cells, h2⟩ := hfree _ hp
    have h3 := (HA.out.block _ h1).trans h2
    simp [World.frozen?, h3]⟩
  have HS := Aside0.mk hs
  clear f5 f8 f13 h1 h2 h3 hfree hs
  obtain ⟨x0, x1, x2, x3, x4, x5, x6, x7, x8, x9, x10, x11, x12, x13⟩ := m
  unfold mcells at *
  simp only at HX HA F5 F8 F13 HT HFR ⊢
  have hb5 : x5.length ≤ 4611686018427387904 := by have := HS.out.log.1; simp only at this; omega
  have hb8 : x8.length ≤ 4611686018427387904 := by have := HS.out.body; simp only at this; omega
  have hb13 : x13.length ≤ 4611686018427387904 := by have := HS.out.blocks.1; simp only at this; omega
  have HLX : Aside0 (∀ x ∈ x5, x.f2.length ≤ 4611686018427387904) := ⟨fun x hx => by have := HS.out.log.2 x hx; omega⟩
  have HBX : Aside0 (∀ x ∈ x13, x.length ≤ 4611686018427387904) := ⟨fun x hx => by have := HS.out.blocks.2 x hx; omega⟩
  clear HS
  go_enter Try.func14, Try.ntmps14
  go_wp2_with fail
  generalize w.alloc (.cells #[.int .u8 x0, .int .u64 x1, .int .u64 x2, .int .i64 x3, .int .i64 x4, .slice A5 x5.length c5, .int .u64 x6, .int .u64 x7, .slice A8 x8.length c8, .int .u64 x9, .int .u8 x10, .int .u32 x11, .int .i64 x12, .slice A13 x13.length c13] 29) = w1 at *
  have H5 : Aside0 (∀ wr, Sim S w1 wr → wr.cell? ⟨w.heap.size, 5, none⟩ = some (.slice A5 x5.length c5)) := ⟨fun wr h => h.other _ _ ((HX.out.cell 5).trans rfl) (by intro k x h; cases h)⟩
  have H8 : Aside0 (∀ wr, Sim S w1 wr → wr.cell? ⟨w.heap.size, 8, none⟩ = some (.slice A8 x8.length c8)) := ⟨fun wr h => h.other _ _ ((HX.out.cell 8).trans rfl) (by intro k x h; cases h)⟩
  have H13 : Aside0 (∀ wr, Sim S w1 wr → wr.cell? ⟨w.heap.size, 13, none⟩ = some (.slice A13 x13.length c13)) := ⟨fun wr h => h.other _ _ ((HX.out.cell 13).trans rfl) (by intro k x h; cases h)⟩
  go_loopw [2] (fun i wr => ∃ q : Nat, q ≤ x8.length ∧ i = .int .i64 q ∧ Aside0 (Sim S w1 wr)) (fun i _ => x8.length - (intOf i).toNat)
  case atStart => exact ⟨0, Nat.zero_le _, rfl, ⟨Sim.refl _ _⟩⟩
  case round =>
    obtain ⟨q, hq, rfl, HS⟩ := hrel
    have p8 := H8.out _ HS.out
    have hlt8 := World.block_lt_of_cell? _ _ p8
    by_cases hql : q < x8.length
    · obtain ⟨a2, u, rfl, yb, ys⟩ := HS.out.byte F8.out hql
      have hab := World.block_lt_of_cell? _ _ yb
      have hfb := (HS.out.free (a2.add q)).trans (HFR.out _ (by rw [blkAdd]; exact ys))
      have HS3 := Aside0.mk (HS.out.set yb (by rw [blkAdd]; exact ys) (bits BinOp.xor IntKind.u8 (if IntKind.u8.signed = true then -1 else IntKind.u8.max) u))
      go_wp2_with fail
      go_region
      go_wp2_with fail
      exact ⟨⟨q + 1, by omega, by go_num, ⟨HS3.out.drew⟩⟩, by simp [intOf]; omega⟩
    · go_wp2_with fail
      go_loopw [3] (fun i wr => ∃ k : Nat, k ≤ x13.length ∧ i = .int .i64 k ∧ Aside0 (Sim S w1 wr)) (fun i _ => x13.length - (intOf i).toNat)
      case atStart => exact ⟨0, Nat.zero_le _, rfl, HS⟩
      case round =>
        clear HS p8 hlt8
        obtain ⟨k, hk, rfl, HS⟩ := hrel
        have p13 := H13.out _ HS.out
        have hlt13 := World.block_lt_of_cell? _ _ p13
        by_cases hlt : k < x13.length
        · have hx2 := HBX.out _ (List.getElem_mem hlt)
          go_wp2_with fail
          go_loopw [4] (fun i wr => ∃ q : Nat, q ≤ x13[k].length ∧ i = .int .i64 q ∧ Aside0 (Sim S w1 wr)) (fun i _ => x13[k].length - (intOf i).toNat)
          case atStart => exact ⟨0, Nat.zero_le _, rfl, HS⟩
          case round =>
            clear HS p13 hlt13
            obtain ⟨q2, hq2, rfl, HS⟩ := hrel
            have p13 := H13.out _ HS.out
            have hlt13 := World.block_lt_of_cell? _ _ p13
            obtain ⟨ad, A2, c2, rfl, y2, y3, y4, HB⟩ := HS.out.block F13.out hlt
            have han := World.block_lt_of_cell? _ _ y2
            by_cases hql2 : q2 < x13[k].length
            · obtain ⟨a2, u, rfl, yb, ys⟩ := HB.out q2 hql2
              have hab := World.block_lt_of_cell? _ _ yb
              have hfb := (HS.out.free (a2.add q2)).trans (HFR.out _ (by rw [blkAdd]; exact ys))
              have HS3 := Aside0.mk (HS.out.set yb (by rw [blkAdd]; exact ys) (bits BinOp.xor IntKind.u8 (if IntKind.u8.signed = true then -1 else IntKind.u8.max) u))
              clear HB
              go_wp2_with fail
              go_region
              go_wp2_with fail
              exact ⟨⟨q2 + 1, by omega, by go_num, ⟨HS3.out.drew⟩⟩, by simp [intOf]; omega⟩
            · clear HB
              go_wp2_with fail
              exact ⟨⟨k + 1, by omega, by go_num, HS⟩, by simp [intOf]; omega⟩
        · have p5 := H5.out _ HS.out
          have hlt5 := World.block_lt_of_cell? _ _ p5
          have HLOG := Aside0.mk (spoiltLog_any (c := c5) HS.out F5.out HFR.out hb5 HLX.out)
          go_wp2_with fail
          refine HLOG.out.mono ?_
          rintro e w9 ⟨rfl, hs9⟩
          have HEND : Aside0 (Turned S w w9) := ⟨HT.out.then_ hs9.turn (fun _ hk => .inl hk)⟩
          go_wp2_with fail
          refine bodyPost_end (results_none rfl _ _ _) rfl ?_
          exact ⟨rfl, HEND.out⟩
end Go.Proofs.Ytmjbdeoomohanaa.Mine

/- wire: WireUnlike. -/
set_option linter.unusedSimpArgs false
set_option linter.unusedVariables false
namespace Go.Proofs.Ytmjbdeoomohanaa.Turn
open Go.RowKit Go.Proofs.YtmjbdeoomohanaaW.PrintWords

/-- A world in which w's blocks are as they were. -/
structure Behind (w : World) where
  W : World
  below : Below w.heap.size w W
instance (w : World) : Nonempty (Behind w) := ⟨⟨w, Below.refl _ w⟩⟩
def later (w : World) (x : Behind w) : World := x.W
theorem later_below {w : World} (x : Behind w) : Below w.heap.size w (later w x) := x.below
theorem wp_region_behind {P : Program} {id : Nat} {Q : Exit → Act → World → Prop} {a : Act} {w : World} {l : List Oper} (hm : P.follows .mixedOrders = true) (hB : Region.lexB .any l.toArray = true)
    (h : wpQuiet P l.toArray (fun w' => ∃ x : Behind w, w' = later w x) (fun a' => ∀ w', (∃ x : Behind w, w' = later w x) → Q .normal a' w') l a) : (Code.region id l.toArray true).wp P Q a w :=
  wp_region_quiet (C := fun w' => ∃ x : Behind w, w' = later w x) hm hB ⟨⟨_, below_drew (Below.refl _ w)⟩, rfl⟩ (by simpa using h)
theorem calls_behind {P : Program} {f : FuncId} {args : Array Value} {w : World} {v : Value} (x : Behind w) (h : Calls P f args (later w x) fun e w' => e = .returned v ∧ Below (later w x).heap.size (later w x) w') :
    Calls P f args (later w x) fun e w'' => e = .returned v ∧ ∃ y : Behind w, w'' = later w y :=
  h.mono fun _ w' ⟨he, hb⟩ => ⟨he, ⟨w', below_step x.below hb⟩, rfl⟩
theorem later_cell {w : World} {a : Addr} {v : Value} (h : w.cell? a = some v) (x : Behind w) : (later w x).cell? a = some v := pw_cell_below x.below h
theorem later_blk {w : World} {b : Nat} {cs : Array Value} {t : TypeId} (h : Blk w b cs t) (x : Behind w) : Blk (later w x) b cs t := (x.below.block b h.lt).trans h
theorem later_C {α : Type} {d : Kd α} {w : World} {A : Option Addr} {n : Nat} {xs : List α} (h : d.C w A n xs) (x : Behind w) : d.C (later w x) A n xs := Kd.C_below h x.below
end Go.Proofs.Ytmjbdeoomohanaa.Turn
namespace Go.Proofs.Ytmjbdeoomohanaa.Mine
open Go.RowKit Go.Maps Go.Proofs.YtmjbdeoomohanaaW.PrintWords Go.Proofs.YtmjbdeoomohanaaW.PrintLast Go.Proofs.YtmjbdeoomohanaaW.PrintMore Go.Proofs.Ytmjbdeoomohanaa.PWirePacks Go.Proofs.Ytmjbdeoomohanaa.Turn

theorem enc_inj {a b : Msg} (ha : GoodM a) (ra : RgM a) (hb : GoodM b) (rb : RgM b) (h : enc a = enc b) : a = b := by
  have h1 := parse_back ha ra []
  have h2 := parse_back hb rb []
  rw [h] at h1
  rw [h1] at h2
  simpa using h2
/-- Are the bytes as alike as the messages? -/
theorem alike {a b : Msg} (ha : GoodM a) (ra : RgM a) (hb : GoodM b) (rb : RgM b) : ((strOfNums (enc a)).toList == (strOfNums (enc b)).toList) = sameM a b := by
  rw [Bool.eq_iff_iff]
  have h1 := strEq_iff (enc_bytes ha ra) (enc_bytes hb rb)
  unfold strEq at h1
  rw [h1, sameM_iff ra rb]
  exact ⟨enc_inj ha ra hb rb, fun h => by rw [h]⟩

/-- Some bytes, some word. -/
def SomePack (w : World) (e : Ending) (w' : World) : Prop := ∃ A n c f, e = .returned (.tuple #[.slice A n c, .int .i64 f]) ∧ Below w.heap.size w w'
theorem pack_some {w : World} {m : Msg} {cs : Array Value} (h : ArgF w (fun k => k < w.heap.size) m cs) (hr : RgM m) : Calls Try.prog 11 #[.agg cs] w (SomePack w) := by
  by_cases hc : chk m = 0
  · have hg := (chk_good m).1 hc
    exact (pack_yes h hr hg (pack_all hg hr)).mono (fun e w' ⟨A, c, he, _, _, hb⟩ => ⟨A, _, c, 0, he, hb⟩)
  · exact (pack_no h hr rfl hc).mono (fun e w' ⟨he, hb⟩ => ⟨none, 0, 0, _, he, hb⟩)

set_option maxHeartbeats 16000000 in
set_option maxRecDepth 100000 in
theorem wireUnlike_any {w : World} {m n : Msg} {cs ds : Array Value} (hm : ArgF w (fun k => k < w.heap.size) m cs) (hr : RgM m) (hn : ArgF w (fun k => k < w.heap.size) n ds) (rn : RgM n) :
    Calls Try.prog 7 #[.agg cs, .agg ds] w fun e w' => e = .returned (.bool true) ∧ Below w.heap.size w w' := by
  obtain ⟨u0, u1, u2, u3, u4, u5, u6, u7, u8, u9, u10, u11, u12, u13, rfl⟩ := arg14 hm
  obtain ⟨v0, v1, v2, v3, v4, v5, v6, v7, v8, v9, v10, v11, v12, v13, rfl⟩ := arg14 hn
  have HR := Aside0.mk hr
  have RN := Aside0.mk rn
  have HB0 := Aside0.mk (below_alloc (below_alloc (Below.refl w.heap.size w) (.cells #[u0, u1, u2, u3, u4, u5, u6, u7, u8, u9, u10, u11, u12, u13] 29)) (.cells #[v0, v1, v2, v3, v4, v5, v6, v7, v8, v9, v10, v11, v12, v13] 29))
  have HM0 := Aside0.mk ((hm.below HB0.out).mono (fun k hk => hk.2))
  have HN0 := Aside0.mk ((hn.below HB0.out).mono (fun k hk => hk.2))
  have HX0 := Aside0.mk ((Blk.new w #[u0, u1, u2, u3, u4, u5, u6, u7, u8, u9, u10, u11, u12, u13] 29).alloc (.cells #[v0, v1, v2, v3, v4, v5, v6, v7, v8, v9, v10, v11, v12, v13] 29))
  have hy0 := Blk.new (w.alloc (.cells #[u0, u1, u2, u3, u4, u5, u6, u7, u8, u9, u10, u11, u12, u13] 29)) #[v0, v1, v2, v3, v4, v5, v6, v7, v8, v9, v10, v11, v12, v13] 29
  rw [show (w.alloc (.cells #[u0, u1, u2, u3, u4, u5, u6, u7, u8, u9, u10, u11, u12, u13] 29)).heap.size = w.heap.size + 1 by simp] at hy0
  have HY0 := Aside0.mk hy0
  clear hr rn hm hn hy0
  go_enter Try.func7, Try.ntmps7
  go_wp2_with fail
  refine (great_any m _ _ HM0.out (by have := HR.out.log.1; omega) HR.out.blocks.1).mono ?_
  rintro e w1 ⟨q, rfl, hb1⟩
  have HB1 := Aside0.mk (below_step HB0.out hb1)
  have HM1 := Aside0.mk ((HM0.out.below hb1).mono (fun k hk => hk.1))
  have HN1 := Aside0.mk ((HN0.out.below hb1).mono (fun k hk => hk.1))
  have hx1 : Blk w1 w.heap.size #[u0, u1, u2, u3, u4, u5, u6, u7, u8, u9, u10, u11, u12, u13] 29 := (hb1.block _ HX0.out.lt).trans HX0.out
  have hy1 : Blk w1 (w.heap.size + 1) #[v0, v1, v2, v3, v4, v5, v6, v7, v8, v9, v10, v11, v12, v13] 29 := (hb1.block _ HY0.out.lt).trans HY0.out
  have HX1 := Aside0.mk hx1
  have HY1 := Aside0.mk hy1
  have hx10 : World.cell? w1 ⟨w.heap.size, 0, none⟩ = some (u0) := Blk.cell hx1 0
  have hx11 : World.cell? w1 ⟨w.heap.size, 1, none⟩ = some (u1) := Blk.cell hx1 1
  have hx12 : World.cell? w1 ⟨w.heap.size, 2, none⟩ = some (u2) := Blk.cell hx1 2
  have hx13 : World.cell? w1 ⟨w.heap.size, 3, none⟩ = some (u3) := Blk.cell hx1 3
  have hx14 : World.cell? w1 ⟨w.heap.size, 4, none⟩ = some (u4) := Blk.cell hx1 4
  have hx15 : World.cell? w1 ⟨w.heap.size, 5, none⟩ = some (u5) := Blk.cell hx1 5
  have hx16 : World.cell? w1 ⟨w.heap.size, 6, none⟩ = some (u6) := Blk.cell hx1 6
  have hx17 : World.cell? w1 ⟨w.heap.size, 7, none⟩ = some (u7) := Blk.cell hx1 7
  have hx18 : World.cell? w1 ⟨w.heap.size, 8, none⟩ = some (u8) := Blk.cell hx1 8
  have hx19 : World.cell? w1 ⟨w.heap.size, 9, none⟩ = some (u9) := Blk.cell hx1 9
  have hx110 : World.cell? w1 ⟨w.heap.size, 10, none⟩ = some (u10) := Blk.cell hx1 10
  have hx111 : World.cell? w1 ⟨w.heap.size, 11, none⟩ = some (u11) := Blk.cell hx1 11
  have hx112 : World.cell? w1 ⟨w.heap.size, 12, none⟩ = some (u12) := Blk.cell hx1 12
  have hx113 : World.cell? w1 ⟨w.heap.size, 13, none⟩ = some (u13) := Blk.cell hx1 13
  have hy10 : World.cell? w1 ⟨(w.heap.size + 1), 0, none⟩ = some (v0) := Blk.cell hy1 0
  have hy11 : World.cell? w1 ⟨(w.heap.size + 1), 1, none⟩ = some (v1) := Blk.cell hy1 1
  have hy12 : World.cell? w1 ⟨(w.heap.size + 1), 2, none⟩ = some (v2) := Blk.cell hy1 2
  have hy13 : World.cell? w1 ⟨(w.heap.size + 1), 3, none⟩ = some (v3) := Blk.cell hy1 3
  have hy14 : World.cell? w1 ⟨(w.heap.size + 1), 4, none⟩ = some (v4) := Blk.cell hy1 4
  have hy15 : World.cell? w1 ⟨(w.heap.size + 1), 5, none⟩ = some (v5) := Blk.cell hy1 5
  have hy16 : World.cell? w1 ⟨(w.heap.size + 1), 6, none⟩ = some (v6) := Blk.cell hy1 6
  have hy17 : World.cell? w1 ⟨(w.heap.size + 1), 7, none⟩ = some (v7) := Blk.cell hy1 7
  have hy18 : World.cell? w1 ⟨(w.heap.size + 1), 8, none⟩ = some (v8) := Blk.cell hy1 8
  have hy19 : World.cell? w1 ⟨(w.heap.size + 1), 9, none⟩ = some (v9) := Blk.cell hy1 9
  have hy110 : World.cell? w1 ⟨(w.heap.size + 1), 10, none⟩ = some (v10) := Blk.cell hy1 10
  have hy111 : World.cell? w1 ⟨(w.heap.size + 1), 11, none⟩ = some (v11) := Blk.cell hy1 11
  have hy112 : World.cell? w1 ⟨(w.heap.size + 1), 12, none⟩ = some (v12) := Blk.cell hy1 12
  have hy113 : World.cell? w1 ⟨(w.heap.size + 1), 13, none⟩ = some (v13) := Blk.cell hy1 13
  have hlt1 := hy1.lt
  clear hb1 hx1 hy1
  cases q with
  | true =>
    go_wp2_with fail
    refine (wakes_any _).mono ?_
    rintro e w2 ⟨rfl, hb2⟩
    have HB2 := Aside0.mk (below_step HB1.out hb2)
    clear hb2
    go_wp2_with fail
    go_ret
    exact ⟨rfl, HB2.out⟩
  | false =>
    go_wp2_with fail
    refine (great_any n _ _ HN1.out (by have := RN.out.log.1; omega) RN.out.blocks.1).mono ?_
    rintro e w2 ⟨q, rfl, hb2⟩
    have HB2 := Aside0.mk (below_step HB1.out hb2)
    have HM2 := Aside0.mk ((HM1.out.below hb2).mono (fun k hk => hk.1))
    have HN2 := Aside0.mk ((HN1.out.below hb2).mono (fun k hk => hk.1))
    have hx2 : Blk w2 w.heap.size #[u0, u1, u2, u3, u4, u5, u6, u7, u8, u9, u10, u11, u12, u13] 29 := (hb2.block _ HX1.out.lt).trans HX1.out
    have hy2 : Blk w2 (w.heap.size + 1) #[v0, v1, v2, v3, v4, v5, v6, v7, v8, v9, v10, v11, v12, v13] 29 := (hb2.block _ HY1.out.lt).trans HY1.out
    have HX2 := Aside0.mk hx2
    have HY2 := Aside0.mk hy2
    clear HB1 HM1 HN1 HX1 HY1 HM0 HN0 HX0 HY0 hx10 hx11 hx12 hx13 hx14 hx15 hx16 hx17 hx18 hx19 hx110 hx111 hx112 hx113 hy10 hy11 hy12 hy13 hy14 hy15 hy16 hy17 hy18 hy19 hy110 hy111 hy112 hy113 hlt1
    have hx20 : World.cell? w2 ⟨w.heap.size, 0, none⟩ = some (u0) := Blk.cell hx2 0
    have hx21 : World.cell? w2 ⟨w.heap.size, 1, none⟩ = some (u1) := Blk.cell hx2 1
    have hx22 : World.cell? w2 ⟨w.heap.size, 2, none⟩ = some (u2) := Blk.cell hx2 2
    have hx23 : World.cell? w2 ⟨w.heap.size, 3, none⟩ = some (u3) := Blk.cell hx2 3
    have hx24 : World.cell? w2 ⟨w.heap.size, 4, none⟩ = some (u4) := Blk.cell hx2 4
    have hx25 : World.cell? w2 ⟨w.heap.size, 5, none⟩ = some (u5) := Blk.cell hx2 5
    have hx26 : World.cell? w2 ⟨w.heap.size, 6, none⟩ = some (u6) := Blk.cell hx2 6
    have hx27 : World.cell? w2 ⟨w.heap.size, 7, none⟩ = some (u7) := Blk.cell hx2 7
    have hx28 : World.cell? w2 ⟨w.heap.size, 8, none⟩ = some (u8) := Blk.cell hx2 8
    have hx29 : World.cell? w2 ⟨w.heap.size, 9, none⟩ = some (u9) := Blk.cell hx2 9
    have hx210 : World.cell? w2 ⟨w.heap.size, 10, none⟩ = some (u10) := Blk.cell hx2 10
    have hx211 : World.cell? w2 ⟨w.heap.size, 11, none⟩ = some (u11) := Blk.cell hx2 11
    have hx212 : World.cell? w2 ⟨w.heap.size, 12, none⟩ = some (u12) := Blk.cell hx2 12
    have hx213 : World.cell? w2 ⟨w.heap.size, 13, none⟩ = some (u13) := Blk.cell hx2 13
    have hy20 : World.cell? w2 ⟨(w.heap.size + 1), 0, none⟩ = some (v0) := Blk.cell hy2 0
    have hy21 : World.cell? w2 ⟨(w.heap.size + 1), 1, none⟩ = some (v1) := Blk.cell hy2 1
    have hy22 : World.cell? w2 ⟨(w.heap.size + 1), 2, none⟩ = some (v2) := Blk.cell hy2 2
    have hy23 : World.cell? w2 ⟨(w.heap.size + 1), 3, none⟩ = some (v3) := Blk.cell hy2 3
    have hy24 : World.cell? w2 ⟨(w.heap.size + 1), 4, none⟩ = some (v4) := Blk.cell hy2 4
    have hy25 : World.cell? w2 ⟨(w.heap.size + 1), 5, none⟩ = some (v5) := Blk.cell hy2 5
    have hy26 : World.cell? w2 ⟨(w.heap.size + 1), 6, none⟩ = some (v6) := Blk.cell hy2 6
    have hy27 : World.cell? w2 ⟨(w.heap.size + 1), 7, none⟩ = some (v7) := Blk.cell hy2 7
    have hy28 : World.cell? w2 ⟨(w.heap.size + 1), 8, none⟩ = some (v8) := Blk.cell hy2 8
    have hy29 : World.cell? w2 ⟨(w.heap.size + 1), 9, none⟩ = some (v9) := Blk.cell hy2 9
    have hy210 : World.cell? w2 ⟨(w.heap.size + 1), 10, none⟩ = some (v10) := Blk.cell hy2 10
    have hy211 : World.cell? w2 ⟨(w.heap.size + 1), 11, none⟩ = some (v11) := Blk.cell hy2 11
    have hy212 : World.cell? w2 ⟨(w.heap.size + 1), 12, none⟩ = some (v12) := Blk.cell hy2 12
    have hy213 : World.cell? w2 ⟨(w.heap.size + 1), 13, none⟩ = some (v13) := Blk.cell hy2 13
    have hlt2 := hy2.lt
    clear hb2 hx2 hy2
    cases q with
    | true =>
      go_wp2_with fail
      refine (wakes_any _).mono ?_
      rintro e w3 ⟨rfl, hb3⟩
      have HB3 := Aside0.mk (below_step HB2.out hb3)
      clear hb3
      go_wp2_with fail
      go_ret
      exact ⟨rfl, HB3.out⟩
    | false =>
      by_cases hch : chk m = 0
      · have HG := Aside0.mk ((chk_good m).1 hch)
        have HAL := Aside0.mk (pack_all HG.out HR.out)
        obtain ⟨la, hla⟩ : ∃ la, enc m = la := ⟨_, rfl⟩
        have HLA := Aside0.mk hla
        rw [hla] at HAL
        clear hch hla
        go_wp2_with fail
        refine (pack_yes (HM2.out.mono (fun k hk => Nat.lt_of_lt_of_le hk HB2.out.size)) HR.out HG.out HAL.out).mono ?_
        rintro e w3 ⟨A2, c2, rfl, hc2, hF2, hb3⟩
        have HB3 := Aside0.mk (below_step HB2.out hb3)
        have HM3 := Aside0.mk ((HM2.out.below hb3).mono (fun k hk => hk.1))
        have HN3 := Aside0.mk ((HN2.out.below hb3).mono (fun k hk => hk.1))
        have HC3 := Aside0.mk (Kd.F_now hF2)
        have hx3 : Blk w3 w.heap.size #[u0, u1, u2, u3, u4, u5, u6, u7, u8, u9, u10, u11, u12, u13] 29 := (hb3.block _ HX2.out.lt).trans HX2.out
        have hy3 : Blk w3 (w.heap.size + 1) #[v0, v1, v2, v3, v4, v5, v6, v7, v8, v9, v10, v11, v12, v13] 29 := (hb3.block _ HY2.out.lt).trans HY2.out
        have HX3 := Aside0.mk hx3
        have HY3 := Aside0.mk hy3
        have hy30 : World.cell? w3 ⟨(w.heap.size + 1), 0, none⟩ = some (v0) := Blk.cell hy3 0
        have hy31 : World.cell? w3 ⟨(w.heap.size + 1), 1, none⟩ = some (v1) := Blk.cell hy3 1
        have hy32 : World.cell? w3 ⟨(w.heap.size + 1), 2, none⟩ = some (v2) := Blk.cell hy3 2
        have hy33 : World.cell? w3 ⟨(w.heap.size + 1), 3, none⟩ = some (v3) := Blk.cell hy3 3
        have hy34 : World.cell? w3 ⟨(w.heap.size + 1), 4, none⟩ = some (v4) := Blk.cell hy3 4
        have hy35 : World.cell? w3 ⟨(w.heap.size + 1), 5, none⟩ = some (v5) := Blk.cell hy3 5
        have hy36 : World.cell? w3 ⟨(w.heap.size + 1), 6, none⟩ = some (v6) := Blk.cell hy3 6
        have hy37 : World.cell? w3 ⟨(w.heap.size + 1), 7, none⟩ = some (v7) := Blk.cell hy3 7
        have hy38 : World.cell? w3 ⟨(w.heap.size + 1), 8, none⟩ = some (v8) := Blk.cell hy3 8
        have hy39 : World.cell? w3 ⟨(w.heap.size + 1), 9, none⟩ = some (v9) := Blk.cell hy3 9
        have hy310 : World.cell? w3 ⟨(w.heap.size + 1), 10, none⟩ = some (v10) := Blk.cell hy3 10
        have hy311 : World.cell? w3 ⟨(w.heap.size + 1), 11, none⟩ = some (v11) := Blk.cell hy3 11
        have hy312 : World.cell? w3 ⟨(w.heap.size + 1), 12, none⟩ = some (v12) := Blk.cell hy3 12
        have hy313 : World.cell? w3 ⟨(w.heap.size + 1), 13, none⟩ = some (v13) := Blk.cell hy3 13
        have hlt3 := hy3.lt
        clear hb3 hx3 hy3 hF2 hc2 hlt2 hx20 hx21 hx22 hx23 hx24 hx25 hx26 hx27 hx28 hx29 hx210 hx211 hx212 hx213 hy20 hy21 hy22 hy23 hy24 hy25 hy26 hy27 hy28 hy29 hy210 hy211 hy212 hy213 HAL
        by_cases hcn : chk n = 0
        · have HGN := Aside0.mk ((chk_good n).1 hcn)
          have HAL := Aside0.mk (pack_all HGN.out RN.out)
          have HS := Aside0.mk (alike HG.out HR.out HGN.out RN.out)
          obtain ⟨lb, hlb⟩ : ∃ lb, enc n = lb := ⟨_, rfl⟩
          rw [hlb] at HAL HS
          rw [HLA.out] at HS
          clear hcn hlb
          go_wp2_with fail
          refine (pack_yes (HN3.out.mono (fun k hk => Nat.lt_of_lt_of_le hk HB3.out.size)) RN.out HGN.out HAL.out).mono ?_
          rintro e w4 ⟨A3, c3, rfl, hc3, hF3, hb4⟩
          have HB4 := Aside0.mk (below_step HB3.out hb4)
          have HM4 := Aside0.mk (fun x : Behind w4 => ((HM3.out.below hb4).below x.below))
          have HN4 := Aside0.mk (fun x : Behind w4 => ((HN3.out.below hb4).below x.below))
          have hcv1 := fun x : Behind w4 => Kd.C_string (P := Try.prog) (A := A2) (c := c2) Try.underlying24 Try.underlying5 Try.underlying9 (later_C (Kd.C_below HC3.out hb4) x)
          have hcv2 := fun x : Behind w4 => Kd.C_string (P := Try.prog) (A := A3) (c := c3) Try.underlying24 Try.underlying5 Try.underlying9 (later_C (Kd.F_now hF3) x)
          have hx4 : Blk w4 w.heap.size #[u0, u1, u2, u3, u4, u5, u6, u7, u8, u9, u10, u11, u12, u13] 29 := (hb4.block _ HX3.out.lt).trans HX3.out
          have hy4 : Blk w4 (w.heap.size + 1) #[v0, v1, v2, v3, v4, v5, v6, v7, v8, v9, v10, v11, v12, v13] 29 := (hb4.block _ HY3.out.lt).trans HY3.out
          have hx40 : World.cell? w4 ⟨w.heap.size, 0, none⟩ = some (u0) := Blk.cell hx4 0
          have hx41 : World.cell? w4 ⟨w.heap.size, 1, none⟩ = some (u1) := Blk.cell hx4 1
          have hx42 : World.cell? w4 ⟨w.heap.size, 2, none⟩ = some (u2) := Blk.cell hx4 2
          have hx43 : World.cell? w4 ⟨w.heap.size, 3, none⟩ = some (u3) := Blk.cell hx4 3
          have hx44 : World.cell? w4 ⟨w.heap.size, 4, none⟩ = some (u4) := Blk.cell hx4 4
          have hx45 : World.cell? w4 ⟨w.heap.size, 5, none⟩ = some (u5) := Blk.cell hx4 5
          have hx46 : World.cell? w4 ⟨w.heap.size, 6, none⟩ = some (u6) := Blk.cell hx4 6
          have hx47 : World.cell? w4 ⟨w.heap.size, 7, none⟩ = some (u7) := Blk.cell hx4 7
          have hx48 : World.cell? w4 ⟨w.heap.size, 8, none⟩ = some (u8) := Blk.cell hx4 8
          have hx49 : World.cell? w4 ⟨w.heap.size, 9, none⟩ = some (u9) := Blk.cell hx4 9
          have hx410 : World.cell? w4 ⟨w.heap.size, 10, none⟩ = some (u10) := Blk.cell hx4 10
          have hx411 : World.cell? w4 ⟨w.heap.size, 11, none⟩ = some (u11) := Blk.cell hx4 11
          have hx412 : World.cell? w4 ⟨w.heap.size, 12, none⟩ = some (u12) := Blk.cell hx4 12
          have hx413 : World.cell? w4 ⟨w.heap.size, 13, none⟩ = some (u13) := Blk.cell hx4 13
          have hy40 : World.cell? w4 ⟨(w.heap.size + 1), 0, none⟩ = some (v0) := Blk.cell hy4 0
          have hy41 : World.cell? w4 ⟨(w.heap.size + 1), 1, none⟩ = some (v1) := Blk.cell hy4 1
          have hy42 : World.cell? w4 ⟨(w.heap.size + 1), 2, none⟩ = some (v2) := Blk.cell hy4 2
          have hy43 : World.cell? w4 ⟨(w.heap.size + 1), 3, none⟩ = some (v3) := Blk.cell hy4 3
          have hy44 : World.cell? w4 ⟨(w.heap.size + 1), 4, none⟩ = some (v4) := Blk.cell hy4 4
          have hy45 : World.cell? w4 ⟨(w.heap.size + 1), 5, none⟩ = some (v5) := Blk.cell hy4 5
          have hy46 : World.cell? w4 ⟨(w.heap.size + 1), 6, none⟩ = some (v6) := Blk.cell hy4 6
          have hy47 : World.cell? w4 ⟨(w.heap.size + 1), 7, none⟩ = some (v7) := Blk.cell hy4 7
          have hy48 : World.cell? w4 ⟨(w.heap.size + 1), 8, none⟩ = some (v8) := Blk.cell hy4 8
          have hy49 : World.cell? w4 ⟨(w.heap.size + 1), 9, none⟩ = some (v9) := Blk.cell hy4 9
          have hy410 : World.cell? w4 ⟨(w.heap.size + 1), 10, none⟩ = some (v10) := Blk.cell hy4 10
          have hy411 : World.cell? w4 ⟨(w.heap.size + 1), 11, none⟩ = some (v11) := Blk.cell hy4 11
          have hy412 : World.cell? w4 ⟨(w.heap.size + 1), 12, none⟩ = some (v12) := Blk.cell hy4 12
          have hy413 : World.cell? w4 ⟨(w.heap.size + 1), 13, none⟩ = some (v13) := Blk.cell hy4 13
          have hlt4 := hy4.lt
          have lx0 := fun x : Behind w4 => later_cell hx40 x
          have lx1 := fun x : Behind w4 => later_cell hx41 x
          have lx2 := fun x : Behind w4 => later_cell hx42 x
          have lx3 := fun x : Behind w4 => later_cell hx43 x
          have lx4 := fun x : Behind w4 => later_cell hx44 x
          have lx5 := fun x : Behind w4 => later_cell hx45 x
          have lx6 := fun x : Behind w4 => later_cell hx46 x
          have lx7 := fun x : Behind w4 => later_cell hx47 x
          have lx8 := fun x : Behind w4 => later_cell hx48 x
          have lx9 := fun x : Behind w4 => later_cell hx49 x
          have lx10 := fun x : Behind w4 => later_cell hx410 x
          have lx11 := fun x : Behind w4 => later_cell hx411 x
          have lx12 := fun x : Behind w4 => later_cell hx412 x
          have lx13 := fun x : Behind w4 => later_cell hx413 x
          have ly0 := fun x : Behind w4 => later_cell hy40 x
          have ly1 := fun x : Behind w4 => later_cell hy41 x
          have ly2 := fun x : Behind w4 => later_cell hy42 x
          have ly3 := fun x : Behind w4 => later_cell hy43 x
          have ly4 := fun x : Behind w4 => later_cell hy44 x
          have ly5 := fun x : Behind w4 => later_cell hy45 x
          have ly6 := fun x : Behind w4 => later_cell hy46 x
          have ly7 := fun x : Behind w4 => later_cell hy47 x
          have ly8 := fun x : Behind w4 => later_cell hy48 x
          have ly9 := fun x : Behind w4 => later_cell hy49 x
          have ly10 := fun x : Behind w4 => later_cell hy410 x
          have ly11 := fun x : Behind w4 => later_cell hy411 x
          have ly12 := fun x : Behind w4 => later_cell hy412 x
          have ly13 := fun x : Behind w4 => later_cell hy413 x
          have hs := HS.out
          have HSM := Aside0.mk (fun x : Behind w4 => same_any m n _ _ (later w4 x) (HM4.out x) (HN4.out x) HR.out.log.1 HR.out.blocks.1)
          obtain ⟨B, hB⟩ : ∃ B, sameM m n = B := ⟨_, rfl⟩
          rw [hB] at hs HSM
          clear hB hb4 hx4 hy4 hF3 hc3 hlt3 hy30 hy31 hy32 hy33 hy34 hy35 hy36 hy37 hy38 hy39 hy310 hy311 hy312 hy313
          go_wp2_with fail
          refine wp_region_behind (by kernel_rfl) (by kernel_rfl) ?_
          repeat (go_big_quiet_step (first | (go_at_call 9; exact calls_behind _ (wakes_any _)) | (go_at_call 13; exact calls_behind _ (HSM.out _))))
          refine wpQuiet_nil ?_
          rintro _ ⟨x, rfl⟩
          have HB5 := Aside0.mk (below_step HB4.out x.below)
          go_wp2_with fail
          go_ret
          exact ⟨rfl, HB5.out⟩
        · have e1 : (chk n != 0) = true := bne_iff_ne.2 hcn
          have HE := Aside0.mk hcn
          clear hcn
          go_wp2_with fail
          refine (pack_no HN3.out RN.out rfl HE.out).mono ?_
          rintro e w4 ⟨rfl, hb4⟩
          have HB4 := Aside0.mk (below_step HB3.out hb4)
          clear hb4 hlt3 hy30 hy31 hy32 hy33 hy34 hy35 hy36 hy37 hy38 hy39 hy310 hy311 hy312 hy313
          go_wp2_with fail
          refine wp_region_behind (by kernel_rfl) (by kernel_rfl) ?_
          repeat (go_big_quiet_step ((go_at_call 9; exact calls_behind _ (wakes_any _))))
          refine wpQuiet_nil ?_
          rintro _ ⟨x, rfl⟩
          have HB5 := Aside0.mk (below_step HB4.out x.below)
          go_wp2_with fail
          go_ret
          exact ⟨rfl, HB5.out⟩
      · obtain ⟨E, hE⟩ : ∃ E, chk m = E := ⟨_, rfl⟩
        have HCE := Aside0.mk hE
        rw [hE] at hch
        have HE := Aside0.mk hch
        have e1 : (E != 0) = true := bne_iff_ne.2 hch
        clear hch hE
        go_wp2_with fail
        refine (pack_no HM2.out HR.out HCE.out HE.out).mono ?_
        rintro e w3 ⟨rfl, hb3⟩
        have HB3 := Aside0.mk (below_step HB2.out hb3)
        have HN3 := Aside0.mk ((HN2.out.below hb3).mono (fun k hk => hk.1))
        have hy3 : Blk w3 (w.heap.size + 1) #[v0, v1, v2, v3, v4, v5, v6, v7, v8, v9, v10, v11, v12, v13] 29 := (hb3.block _ HY2.out.lt).trans HY2.out
        have hy30 : World.cell? w3 ⟨(w.heap.size + 1), 0, none⟩ = some (v0) := Blk.cell hy3 0
        have hy31 : World.cell? w3 ⟨(w.heap.size + 1), 1, none⟩ = some (v1) := Blk.cell hy3 1
        have hy32 : World.cell? w3 ⟨(w.heap.size + 1), 2, none⟩ = some (v2) := Blk.cell hy3 2
        have hy33 : World.cell? w3 ⟨(w.heap.size + 1), 3, none⟩ = some (v3) := Blk.cell hy3 3
        have hy34 : World.cell? w3 ⟨(w.heap.size + 1), 4, none⟩ = some (v4) := Blk.cell hy3 4
        have hy35 : World.cell? w3 ⟨(w.heap.size + 1), 5, none⟩ = some (v5) := Blk.cell hy3 5
        have hy36 : World.cell? w3 ⟨(w.heap.size + 1), 6, none⟩ = some (v6) := Blk.cell hy3 6
        have hy37 : World.cell? w3 ⟨(w.heap.size + 1), 7, none⟩ = some (v7) := Blk.cell hy3 7
        have hy38 : World.cell? w3 ⟨(w.heap.size + 1), 8, none⟩ = some (v8) := Blk.cell hy3 8
        have hy39 : World.cell? w3 ⟨(w.heap.size + 1), 9, none⟩ = some (v9) := Blk.cell hy3 9
        have hy310 : World.cell? w3 ⟨(w.heap.size + 1), 10, none⟩ = some (v10) := Blk.cell hy3 10
        have hy311 : World.cell? w3 ⟨(w.heap.size + 1), 11, none⟩ = some (v11) := Blk.cell hy3 11
        have hy312 : World.cell? w3 ⟨(w.heap.size + 1), 12, none⟩ = some (v12) := Blk.cell hy3 12
        have hy313 : World.cell? w3 ⟨(w.heap.size + 1), 13, none⟩ = some (v13) := Blk.cell hy3 13
        have hlt3 := hy3.lt
        clear hb3 hy3 hlt2 hx20 hx21 hx22 hx23 hx24 hx25 hx26 hx27 hx28 hx29 hx210 hx211 hx212 hx213 hy20 hy21 hy22 hy23 hy24 hy25 hy26 hy27 hy28 hy29 hy210 hy211 hy212 hy213
        go_wp2_with fail
        refine (pack_some (HN3.out.mono (fun k hk => Nat.lt_of_lt_of_le hk HB3.out.size)) RN.out).mono ?_
        rintro e w4 ⟨A4, n4, c4, f4, rfl, hb4⟩
        have HB4 := Aside0.mk (below_step HB3.out hb4)
        clear hb4 hlt3 hy30 hy31 hy32 hy33 hy34 hy35 hy36 hy37 hy38 hy39 hy310 hy311 hy312 hy313
        go_wp2_with fail
        refine wp_region_behind (by kernel_rfl) (by kernel_rfl) ?_
        repeat (go_big_quiet_step ((go_at_call 9; exact calls_behind _ (wakes_any _))))
        refine wpQuiet_nil ?_
        rintro _ ⟨x, rfl⟩
        have HB5 := Aside0.mk (below_step HB4.out x.below)
        go_wp2_with fail
        go_ret
        exact ⟨rfl, HB5.out⟩
end Go.Proofs.Ytmjbdeoomohanaa.Mine

/- wire: WirePacks (printed by wip/gen/wireRk.py). -/
set_option linter.unusedSimpArgs false
set_option linter.unusedVariables false
namespace Go.Proofs.Ytmjbdeoomohanaa.Mine
open Go.RowKit Go.Maps Go.Proofs.YtmjbdeoomohanaaW.PrintWords Go.Proofs.YtmjbdeoomohanaaW.PrintLast Go.Proofs.YtmjbdeoomohanaaW.PrintMore Go.Proofs.Ytmjbdeoomohanaa.PWirePacks Go.Proofs.Ytmjbdeoomohanaa.Turn

/-- What is packed: nothing if something is ill. -/
def packL (m : Msg) : List Int := if chk m = 0 then enc m else []
def PackU (w : World) (m : Msg) (e : Ending) (w' : World) : Prop := ∃ A c, e = .returned (.tuple #[.slice A (packL m).length c, .int .i64 (chk m)]) ∧ Kd.F (Kd.int .u8) w' (fun k => w.heap.size ≤ k) A (packL m).length (packL m) ∧ Below w.heap.size w w'
theorem pack_u {w : World} {m : Msg} {cs : Array Value} (h : ArgF w (fun k => k < w.heap.size) m cs) (hr : RgM m) : Calls Try.prog 11 #[.agg cs] w (PackU w m) := by
  by_cases hc : chk m = 0
  · have hg := (chk_good m).1 hc
    refine (pack_yes h hr hg (pack_all hg hr)).mono (fun e w' ⟨A, c, he, _, hf, hb⟩ => ⟨A, c, ?_, ?_, hb⟩)
    · unfold packL; rw [if_pos hc, hc]; exact he
    · unfold packL; rw [if_pos hc]; exact hf
  · refine (pack_no h hr rfl hc).mono (fun e w' ⟨he, hb⟩ => ⟨none, 0, ?_, ?_, hb⟩)
    · unfold packL; rw [if_neg hc]; exact he
    · unfold packL; rw [if_neg hc]; exact Kd.F_nil _ _ _
theorem packR_u {w : World} {m : Msg} {cs : Array Value} (h : ArgF w (fun k => k < w.heap.size) m cs) (hr : RgM m) : Calls Try.prog 15 #[.agg cs] w (PackU w m) := by
  by_cases hc : chk m = 0
  · have hg := (chk_good m).1 hc
    refine (packR_yes h hr hg).mono (fun e w' ⟨v, he, hR, hb⟩ => ?_)
    have h2 := Kd.R_bound hR
    obtain ⟨A, c, rfl⟩ := Kd.R_slice hR
    refine ⟨A, c, ?_, ?_, hb⟩
    · unfold packL; rw [if_pos hc, hc]; exact he
    · unfold packL; rw [if_pos hc]; exact Kd.F_mono (Kd.R_F h2) (fun k hk => hk.2.1)
  · refine (packR_no h hr hc).mono (fun e w' ⟨he, hb⟩ => ⟨none, 0, ?_, ?_, hb⟩)
    · unfold packL; rw [if_neg hc]; exact he
    · unfold packL; rw [if_neg hc]; exact Kd.F_nil _ _ _

set_option maxHeartbeats 16000000 in
set_option maxRecDepth 100000 in
theorem wirePacks_any {w : World} {m : Msg} {cs : Array Value} (hm : ArgF w (fun k => k < w.heap.size) m cs) (hr : RgM m) (hs : SmallM m) :
    Calls Try.prog 3 #[.agg cs] w fun e w' => e = .returned (.bool true) ∧ Below w.heap.size w w' := by
  obtain ⟨u0, u1, u2, u3, u4, u5, u6, u7, u8, u9, u10, u11, u12, u13, rfl⟩ := arg14 hm
  have HR := Aside0.mk hr
  have HSM := Aside0.mk hs
  have HB0 := Aside0.mk (below_alloc (Below.refl w.heap.size w) (.cells #[u0, u1, u2, u3, u4, u5, u6, u7, u8, u9, u10, u11, u12, u13] 29))
  have HM0 := Aside0.mk ((hm.below HB0.out).mono (fun k hk => hk.2))
  have HX0 := Aside0.mk (Blk.new w #[u0, u1, u2, u3, u4, u5, u6, u7, u8, u9, u10, u11, u12, u13] 29)
  have HSAME := Aside0.mk ((sameM_iff hr hr).2 rfl)
  clear hr hm hs
  go_enter Try.func3, Try.ntmps3
  go_wp2_with fail
  refine (great_any m _ _ HM0.out (by have := HR.out.log.1; omega) HR.out.blocks.1).mono ?_
  rintro e w1 ⟨q, rfl, hb⟩
  have HB1 := Aside0.mk (below_step HB0.out hb)
  have HM1 := Aside0.mk ((HM0.out.below hb).mono (fun k hk => hk.1))
  have hx1 : Blk w1 w.heap.size #[u0, u1, u2, u3, u4, u5, u6, u7, u8, u9, u10, u11, u12, u13] 29 := (hb.block _ HX0.out.lt).trans HX0.out
  have HX1 := Aside0.mk hx1
  have hx10 : World.cell? w1 ⟨w.heap.size, 0, none⟩ = some (u0) := Blk.cell hx1 0
  have hx11 : World.cell? w1 ⟨w.heap.size, 1, none⟩ = some (u1) := Blk.cell hx1 1
  have hx12 : World.cell? w1 ⟨w.heap.size, 2, none⟩ = some (u2) := Blk.cell hx1 2
  have hx13 : World.cell? w1 ⟨w.heap.size, 3, none⟩ = some (u3) := Blk.cell hx1 3
  have hx14 : World.cell? w1 ⟨w.heap.size, 4, none⟩ = some (u4) := Blk.cell hx1 4
  have hx15 : World.cell? w1 ⟨w.heap.size, 5, none⟩ = some (u5) := Blk.cell hx1 5
  have hx16 : World.cell? w1 ⟨w.heap.size, 6, none⟩ = some (u6) := Blk.cell hx1 6
  have hx17 : World.cell? w1 ⟨w.heap.size, 7, none⟩ = some (u7) := Blk.cell hx1 7
  have hx18 : World.cell? w1 ⟨w.heap.size, 8, none⟩ = some (u8) := Blk.cell hx1 8
  have hx19 : World.cell? w1 ⟨w.heap.size, 9, none⟩ = some (u9) := Blk.cell hx1 9
  have hx110 : World.cell? w1 ⟨w.heap.size, 10, none⟩ = some (u10) := Blk.cell hx1 10
  have hx111 : World.cell? w1 ⟨w.heap.size, 11, none⟩ = some (u11) := Blk.cell hx1 11
  have hx112 : World.cell? w1 ⟨w.heap.size, 12, none⟩ = some (u12) := Blk.cell hx1 12
  have hx113 : World.cell? w1 ⟨w.heap.size, 13, none⟩ = some (u13) := Blk.cell hx1 13
  have hlt1 := hx1.lt
  clear hb hx1
  cases q with
  | true =>
    go_wp2_with fail
    refine (wakes_any _).mono ?_
    rintro e w2 ⟨rfl, hb2⟩
    have HB2 := Aside0.mk (below_step HB1.out hb2)
    clear hb2
    go_wp2_with fail
    go_ret
    exact ⟨rfl, HB2.out⟩
  | false =>
  go_wp2_with fail
  refine (copied_any HM1.out HSM.out).mono ?_
  rintro e w2 ⟨cc, rfl, hcc, hb⟩
  have HB2 := Aside0.mk (below_step HB1.out hb)
  have HM2 := Aside0.mk ((HM1.out.below hb).mono (fun k hk => hk.1))
  have hx2 : Blk w2 w.heap.size #[u0, u1, u2, u3, u4, u5, u6, u7, u8, u9, u10, u11, u12, u13] 29 := (hb.block _ HX1.out.lt).trans HX1.out
  have HX2 := Aside0.mk hx2
  have hcb := hcc
  obtain ⟨B5, d5, B8, d8, B13, d13, rfl, -⟩ := hcb
  obtain ⟨Sx, hSx⟩ : ∃ Sx, OwnB w1 w2 = Sx := ⟨_, rfl⟩
  have HOWN : Aside0 (∀ k, Sx k → w1.heap.size ≤ k ∧ k < w2.heap.size ∧ ∃ q cells, w2.heap[k]? = some (.cells cells q (0, 0))) := ⟨fun k hk => by rw [← hSx] at hk; exact hk⟩
  rw [hSx] at hcc
  have HC2 := Aside0.mk hcc
  clear hb hx2 hSx hcc hx10 hx11 hx12 hx13 hx14 hx15 hx16 hx17 hx18 hx19 hx110 hx111 hx112 hx113 hlt1
  simp only [mcells] at HC2 ⊢
  go_wp2_with fail
  obtain ⟨g, hg⟩ : ∃ g, w2.heap.size = g := ⟨_, rfl⟩
  have hb : Below w2.heap.size w2 (w2.alloc (.cells #[.int .u8 m.ty, .int .u64 m.view, .int .u64 m.normal, .int .i64 m.op, .int .i64 m.commit, .slice B5 m.log.length d5, .int .u64 m.client, .int .u64 m.seq, .slice B8 m.body.length d8, .int .u64 m.key, .int .u8 m.shard, .int .u32 m.stripe, .int .i64 m.code, .slice B13 m.blocks.length d13] 29)) := below_alloc (Below.refl _ w2) _
  have hy3 := Blk.new w2 #[.int .u8 m.ty, .int .u64 m.view, .int .u64 m.normal, .int .i64 m.op, .int .i64 m.commit, .slice B5 m.log.length d5, .int .u64 m.client, .int .u64 m.seq, .slice B8 m.body.length d8, .int .u64 m.key, .int .u8 m.shard, .int .u32 m.stripe, .int .i64 m.code, .slice B13 m.blocks.length d13] 29
  have hsz : (w2.alloc (.cells #[.int .u8 m.ty, .int .u64 m.view, .int .u64 m.normal, .int .i64 m.op, .int .i64 m.commit, .slice B5 m.log.length d5, .int .u64 m.client, .int .u64 m.seq, .slice B8 m.body.length d8, .int .u64 m.key, .int .u8 m.shard, .int .u32 m.stripe, .int .i64 m.code, .slice B13 m.blocks.length d13] 29)).heap.size = w2.heap.size + 1 := by simp
  rw [hg] at hy3 ⊢
  generalize w2.alloc (.cells #[.int .u8 m.ty, .int .u64 m.view, .int .u64 m.normal, .int .i64 m.op, .int .i64 m.commit, .slice B5 m.log.length d5, .int .u64 m.client, .int .u64 m.seq, .slice B8 m.body.length d8, .int .u64 m.key, .int .u8 m.shard, .int .u32 m.stripe, .int .i64 m.code, .slice B13 m.blocks.length d13] 29) = w3 at *
  have HY3 := Aside0.mk hy3
  have HB3 := Aside0.mk (below_step HB2.out hb)
  have HM3 := Aside0.mk ((HM2.out.below hb).mono (fun k hk => hk.1))
  have hx3 : Blk w3 w.heap.size #[u0, u1, u2, u3, u4, u5, u6, u7, u8, u9, u10, u11, u12, u13] 29 := (hb.block _ HX2.out.lt).trans HX2.out
  have HX3 := Aside0.mk hx3
  have HD3 := Aside0.mk hb
  have HC3 := Aside0.mk ((HC2.out.below hb).mono (fun k hk => hk.1))
  have HSZ := Aside0.mk hsz
  have hy30 : World.cell? w3 ⟨g, 0, none⟩ = some (.int .u8 m.ty) := Blk.cell hy3 0
  have hy31 : World.cell? w3 ⟨g, 1, none⟩ = some (.int .u64 m.view) := Blk.cell hy3 1
  have hy32 : World.cell? w3 ⟨g, 2, none⟩ = some (.int .u64 m.normal) := Blk.cell hy3 2
  have hy33 : World.cell? w3 ⟨g, 3, none⟩ = some (.int .i64 m.op) := Blk.cell hy3 3
  have hy34 : World.cell? w3 ⟨g, 4, none⟩ = some (.int .i64 m.commit) := Blk.cell hy3 4
  have hy35 : World.cell? w3 ⟨g, 5, none⟩ = some (.slice B5 m.log.length d5) := Blk.cell hy3 5
  have hy36 : World.cell? w3 ⟨g, 6, none⟩ = some (.int .u64 m.client) := Blk.cell hy3 6
  have hy37 : World.cell? w3 ⟨g, 7, none⟩ = some (.int .u64 m.seq) := Blk.cell hy3 7
  have hy38 : World.cell? w3 ⟨g, 8, none⟩ = some (.slice B8 m.body.length d8) := Blk.cell hy3 8
  have hy39 : World.cell? w3 ⟨g, 9, none⟩ = some (.int .u64 m.key) := Blk.cell hy3 9
  have hy310 : World.cell? w3 ⟨g, 10, none⟩ = some (.int .u8 m.shard) := Blk.cell hy3 10
  have hy311 : World.cell? w3 ⟨g, 11, none⟩ = some (.int .u32 m.stripe) := Blk.cell hy3 11
  have hy312 : World.cell? w3 ⟨g, 12, none⟩ = some (.int .i64 m.code) := Blk.cell hy3 12
  have hy313 : World.cell? w3 ⟨g, 13, none⟩ = some (.slice B13 m.blocks.length d13) := Blk.cell hy3 13
  have hgl := hy3.lt
  clear hb hx3 hy3 hsz
  have HG := Aside0.mk hg
  clear hg
  go_wp2_with fail
  refine (pack_u (HC3.out.mono (fun k hk => by have h1 := HOWN.out k hk; have h2 := HSZ.out; omega)) HR.out).mono ?_
  rintro e w4 ⟨A2, c2, rfl, hF, hb⟩
  have HB4 := Aside0.mk (below_step HB3.out hb)
  have HM4 := Aside0.mk ((HM3.out.below hb).mono (fun k hk => hk.1))
  have hx4 : Blk w4 w.heap.size #[u0, u1, u2, u3, u4, u5, u6, u7, u8, u9, u10, u11, u12, u13] 29 := (hb.block _ HX3.out.lt).trans HX3.out
  have HX4 := Aside0.mk hx4
  have HD4 := Aside0.mk (below_step HD3.out hb)
  have HC4 := Aside0.mk ((HC3.out.below hb).mono (fun k hk => hk.1))
  have hy4 : Blk w4 g #[.int .u8 m.ty, .int .u64 m.view, .int .u64 m.normal, .int .i64 m.op, .int .i64 m.commit, .slice B5 m.log.length d5, .int .u64 m.client, .int .u64 m.seq, .slice B8 m.body.length d8, .int .u64 m.key, .int .u8 m.shard, .int .u32 m.stripe, .int .i64 m.code, .slice B13 m.blocks.length d13] 29 := (hb.block _ HY3.out.lt).trans HY3.out
  have HY4 := Aside0.mk hy4
  have HF4 := Aside0.mk hF
  have hy40 : World.cell? w4 ⟨g, 0, none⟩ = some (.int .u8 m.ty) := Blk.cell hy4 0
  have hy41 : World.cell? w4 ⟨g, 1, none⟩ = some (.int .u64 m.view) := Blk.cell hy4 1
  have hy42 : World.cell? w4 ⟨g, 2, none⟩ = some (.int .u64 m.normal) := Blk.cell hy4 2
  have hy43 : World.cell? w4 ⟨g, 3, none⟩ = some (.int .i64 m.op) := Blk.cell hy4 3
  have hy44 : World.cell? w4 ⟨g, 4, none⟩ = some (.int .i64 m.commit) := Blk.cell hy4 4
  have hy45 : World.cell? w4 ⟨g, 5, none⟩ = some (.slice B5 m.log.length d5) := Blk.cell hy4 5
  have hy46 : World.cell? w4 ⟨g, 6, none⟩ = some (.int .u64 m.client) := Blk.cell hy4 6
  have hy47 : World.cell? w4 ⟨g, 7, none⟩ = some (.int .u64 m.seq) := Blk.cell hy4 7
  have hy48 : World.cell? w4 ⟨g, 8, none⟩ = some (.slice B8 m.body.length d8) := Blk.cell hy4 8
  have hy49 : World.cell? w4 ⟨g, 9, none⟩ = some (.int .u64 m.key) := Blk.cell hy4 9
  have hy410 : World.cell? w4 ⟨g, 10, none⟩ = some (.int .u8 m.shard) := Blk.cell hy4 10
  have hy411 : World.cell? w4 ⟨g, 11, none⟩ = some (.int .u32 m.stripe) := Blk.cell hy4 11
  have hy412 : World.cell? w4 ⟨g, 12, none⟩ = some (.int .i64 m.code) := Blk.cell hy4 12
  have hy413 : World.cell? w4 ⟨g, 13, none⟩ = some (.slice B13 m.blocks.length d13) := Blk.cell hy4 13
  have hgl4 := hy4.lt
  clear hb hx4 hy4 hF hy30 hy31 hy32 hy33 hy34 hy35 hy36 hy37 hy38 hy39 hy310 hy311 hy312 hy313 hgl
  go_wp2_with fail
  refine (check_arg HC4.out HR.out).mono ?_
  rintro e w5 ⟨rfl, hb⟩
  have HB5 := Aside0.mk (below_step HB4.out hb)
  have HM5 := Aside0.mk ((HM4.out.below hb).mono (fun k hk => hk.1))
  have hx5 : Blk w5 w.heap.size #[u0, u1, u2, u3, u4, u5, u6, u7, u8, u9, u10, u11, u12, u13] 29 := (hb.block _ HX4.out.lt).trans HX4.out
  have HX5 := Aside0.mk hx5
  have HD5 := Aside0.mk (below_step HD4.out hb)
  have HC5 := Aside0.mk ((HC4.out.below hb).mono (fun k hk => hk.1))
  have hy5 : Blk w5 g #[.int .u8 m.ty, .int .u64 m.view, .int .u64 m.normal, .int .i64 m.op, .int .i64 m.commit, .slice B5 m.log.length d5, .int .u64 m.client, .int .u64 m.seq, .slice B8 m.body.length d8, .int .u64 m.key, .int .u8 m.shard, .int .u32 m.stripe, .int .i64 m.code, .slice B13 m.blocks.length d13] 29 := (hb.block _ HY4.out.lt).trans HY4.out
  have HY5 := Aside0.mk hy5
  have HF5 := Aside0.mk (Kd.F_step HF4.out (fun k _ hlt => hb.block k hlt))
  have hx50 : World.cell? w5 ⟨w.heap.size, 0, none⟩ = some (u0) := Blk.cell hx5 0
  have hx51 : World.cell? w5 ⟨w.heap.size, 1, none⟩ = some (u1) := Blk.cell hx5 1
  have hx52 : World.cell? w5 ⟨w.heap.size, 2, none⟩ = some (u2) := Blk.cell hx5 2
  have hx53 : World.cell? w5 ⟨w.heap.size, 3, none⟩ = some (u3) := Blk.cell hx5 3
  have hx54 : World.cell? w5 ⟨w.heap.size, 4, none⟩ = some (u4) := Blk.cell hx5 4
  have hx55 : World.cell? w5 ⟨w.heap.size, 5, none⟩ = some (u5) := Blk.cell hx5 5
  have hx56 : World.cell? w5 ⟨w.heap.size, 6, none⟩ = some (u6) := Blk.cell hx5 6
  have hx57 : World.cell? w5 ⟨w.heap.size, 7, none⟩ = some (u7) := Blk.cell hx5 7
  have hx58 : World.cell? w5 ⟨w.heap.size, 8, none⟩ = some (u8) := Blk.cell hx5 8
  have hx59 : World.cell? w5 ⟨w.heap.size, 9, none⟩ = some (u9) := Blk.cell hx5 9
  have hx510 : World.cell? w5 ⟨w.heap.size, 10, none⟩ = some (u10) := Blk.cell hx5 10
  have hx511 : World.cell? w5 ⟨w.heap.size, 11, none⟩ = some (u11) := Blk.cell hx5 11
  have hx512 : World.cell? w5 ⟨w.heap.size, 12, none⟩ = some (u12) := Blk.cell hx5 12
  have hx513 : World.cell? w5 ⟨w.heap.size, 13, none⟩ = some (u13) := Blk.cell hx5 13
  have hy50 : World.cell? w5 ⟨g, 0, none⟩ = some (.int .u8 m.ty) := Blk.cell hy5 0
  have hy51 : World.cell? w5 ⟨g, 1, none⟩ = some (.int .u64 m.view) := Blk.cell hy5 1
  have hy52 : World.cell? w5 ⟨g, 2, none⟩ = some (.int .u64 m.normal) := Blk.cell hy5 2
  have hy53 : World.cell? w5 ⟨g, 3, none⟩ = some (.int .i64 m.op) := Blk.cell hy5 3
  have hy54 : World.cell? w5 ⟨g, 4, none⟩ = some (.int .i64 m.commit) := Blk.cell hy5 4
  have hy55 : World.cell? w5 ⟨g, 5, none⟩ = some (.slice B5 m.log.length d5) := Blk.cell hy5 5
  have hy56 : World.cell? w5 ⟨g, 6, none⟩ = some (.int .u64 m.client) := Blk.cell hy5 6
  have hy57 : World.cell? w5 ⟨g, 7, none⟩ = some (.int .u64 m.seq) := Blk.cell hy5 7
  have hy58 : World.cell? w5 ⟨g, 8, none⟩ = some (.slice B8 m.body.length d8) := Blk.cell hy5 8
  have hy59 : World.cell? w5 ⟨g, 9, none⟩ = some (.int .u64 m.key) := Blk.cell hy5 9
  have hy510 : World.cell? w5 ⟨g, 10, none⟩ = some (.int .u8 m.shard) := Blk.cell hy5 10
  have hy511 : World.cell? w5 ⟨g, 11, none⟩ = some (.int .u32 m.stripe) := Blk.cell hy5 11
  have hy512 : World.cell? w5 ⟨g, 12, none⟩ = some (.int .i64 m.code) := Blk.cell hy5 12
  have hy513 : World.cell? w5 ⟨g, 13, none⟩ = some (.slice B13 m.blocks.length d13) := Blk.cell hy5 13
  have hgl5 := hy5.lt
  have hxl5 := hx5.lt
  clear hb hx5 hy5 hy40 hy41 hy42 hy43 hy44 hy45 hy46 hy47 hy48 hy49 hy410 hy411 hy412 hy413 hgl4
  go_wp2_with fail
  refine (same_any m m _ _ _ HC5.out HM5.out HR.out.log.1 HR.out.blocks.1).mono ?_
  rw [HSAME.out]
  rintro e w6 ⟨rfl, hb⟩
  have HB6 := Aside0.mk (below_step HB5.out hb)
  have HM6 := Aside0.mk ((HM5.out.below hb).mono (fun k hk => hk.1))
  have hx6 : Blk w6 w.heap.size #[u0, u1, u2, u3, u4, u5, u6, u7, u8, u9, u10, u11, u12, u13] 29 := (hb.block _ HX5.out.lt).trans HX5.out
  have HX6 := Aside0.mk hx6
  have HD6 := Aside0.mk (below_step HD5.out hb)
  have HC6 := Aside0.mk ((HC5.out.below hb).mono (fun k hk => hk.1))
  have hy6 : Blk w6 g #[.int .u8 m.ty, .int .u64 m.view, .int .u64 m.normal, .int .i64 m.op, .int .i64 m.commit, .slice B5 m.log.length d5, .int .u64 m.client, .int .u64 m.seq, .slice B8 m.body.length d8, .int .u64 m.key, .int .u8 m.shard, .int .u32 m.stripe, .int .i64 m.code, .slice B13 m.blocks.length d13] 29 := (hb.block _ HY5.out.lt).trans HY5.out
  have HY6 := Aside0.mk hy6
  have HF6 := Aside0.mk (Kd.F_step HF5.out (fun k _ hlt => hb.block k hlt))
  have hy60 : World.cell? w6 ⟨g, 0, none⟩ = some (.int .u8 m.ty) := Blk.cell hy6 0
  have hy61 : World.cell? w6 ⟨g, 1, none⟩ = some (.int .u64 m.view) := Blk.cell hy6 1
  have hy62 : World.cell? w6 ⟨g, 2, none⟩ = some (.int .u64 m.normal) := Blk.cell hy6 2
  have hy63 : World.cell? w6 ⟨g, 3, none⟩ = some (.int .i64 m.op) := Blk.cell hy6 3
  have hy64 : World.cell? w6 ⟨g, 4, none⟩ = some (.int .i64 m.commit) := Blk.cell hy6 4
  have hy65 : World.cell? w6 ⟨g, 5, none⟩ = some (.slice B5 m.log.length d5) := Blk.cell hy6 5
  have hy66 : World.cell? w6 ⟨g, 6, none⟩ = some (.int .u64 m.client) := Blk.cell hy6 6
  have hy67 : World.cell? w6 ⟨g, 7, none⟩ = some (.int .u64 m.seq) := Blk.cell hy6 7
  have hy68 : World.cell? w6 ⟨g, 8, none⟩ = some (.slice B8 m.body.length d8) := Blk.cell hy6 8
  have hy69 : World.cell? w6 ⟨g, 9, none⟩ = some (.int .u64 m.key) := Blk.cell hy6 9
  have hy610 : World.cell? w6 ⟨g, 10, none⟩ = some (.int .u8 m.shard) := Blk.cell hy6 10
  have hy611 : World.cell? w6 ⟨g, 11, none⟩ = some (.int .u32 m.stripe) := Blk.cell hy6 11
  have hy612 : World.cell? w6 ⟨g, 12, none⟩ = some (.int .i64 m.code) := Blk.cell hy6 12
  have hy613 : World.cell? w6 ⟨g, 13, none⟩ = some (.slice B13 m.blocks.length d13) := Blk.cell hy6 13
  have hgl6 := hy6.lt
  clear hb hx6 hy6 hy50 hy51 hy52 hy53 hy54 hy55 hy56 hy57 hy58 hy59 hy510 hy511 hy512 hy513 hx50 hx51 hx52 hx53 hx54 hx55 hx56 hx57 hx58 hx59 hx510 hx511 hx512 hx513 hgl5 hxl5
  go_wp2_with fail
  have HLE : Aside0 (w2.heap.size ≤ w6.heap.size) := ⟨HD6.out.size⟩
  refine (spoilt_any (S := Sx) HC6.out (fun k hk => ?_) HSM.out).mono ?_
  · obtain ⟨h1, h2, q, cells, h3⟩ := HOWN.out k hk
    exact ⟨by have := HLE.out; omega, q, cells, (HD6.out.block k h2).trans h3⟩
  rintro e w7 ⟨rfl, ht⟩
  have hnx : ¬ Sx w.heap.size := fun h => by have h1 := (HOWN.out _ h).1; have h2 := HX1.out.lt; omega
  have HX7 : Aside0 (Blk w7 w.heap.size #[u0, u1, u2, u3, u4, u5, u6, u7, u8, u9, u10, u11, u12, u13] 29) := ⟨ht.blk HX6.out hnx⟩
  have HM7 : Aside0 (ArgF w7 (fun k => k < w.heap.size) m #[u0, u1, u2, u3, u4, u5, u6, u7, u8, u9, u10, u11, u12, u13]) := ⟨HM6.out.step (fun k hk hlt => ht.block k hlt (fun h => by have h1 := (HOWN.out _ h).1; have h2 := HX1.out.lt; omega))⟩
  have HF7 : Aside0 (Kd.F (Kd.int .u8) w7 (fun k => w3.heap.size ≤ k) A2 (packL m).length (packL m)) := ⟨Kd.F_step HF6.out (fun k hk hlt => ht.block k hlt (fun h => by have h1 := (HOWN.out _ h).2.1; have h2 := HSZ.out; omega))⟩
  have HB7 : Aside0 (Below w.heap.size w w7) := ⟨below_turned HB6.out ht HB6.out.size (fun k h => by have h1 := (HOWN.out _ h).1; have h2 := HX1.out.lt; omega)⟩
  have hx7 := HX7.out
  have hx70 : World.cell? w7 ⟨w.heap.size, 0, none⟩ = some (u0) := Blk.cell hx7 0
  have hx71 : World.cell? w7 ⟨w.heap.size, 1, none⟩ = some (u1) := Blk.cell hx7 1
  have hx72 : World.cell? w7 ⟨w.heap.size, 2, none⟩ = some (u2) := Blk.cell hx7 2
  have hx73 : World.cell? w7 ⟨w.heap.size, 3, none⟩ = some (u3) := Blk.cell hx7 3
  have hx74 : World.cell? w7 ⟨w.heap.size, 4, none⟩ = some (u4) := Blk.cell hx7 4
  have hx75 : World.cell? w7 ⟨w.heap.size, 5, none⟩ = some (u5) := Blk.cell hx7 5
  have hx76 : World.cell? w7 ⟨w.heap.size, 6, none⟩ = some (u6) := Blk.cell hx7 6
  have hx77 : World.cell? w7 ⟨w.heap.size, 7, none⟩ = some (u7) := Blk.cell hx7 7
  have hx78 : World.cell? w7 ⟨w.heap.size, 8, none⟩ = some (u8) := Blk.cell hx7 8
  have hx79 : World.cell? w7 ⟨w.heap.size, 9, none⟩ = some (u9) := Blk.cell hx7 9
  have hx710 : World.cell? w7 ⟨w.heap.size, 10, none⟩ = some (u10) := Blk.cell hx7 10
  have hx711 : World.cell? w7 ⟨w.heap.size, 11, none⟩ = some (u11) := Blk.cell hx7 11
  have hx712 : World.cell? w7 ⟨w.heap.size, 12, none⟩ = some (u12) := Blk.cell hx7 12
  have hx713 : World.cell? w7 ⟨w.heap.size, 13, none⟩ = some (u13) := Blk.cell hx7 13
  have hxl7 := hx7.lt
  clear ht hx7 hnx hy60 hy61 hy62 hy63 hy64 hy65 hy66 hy67 hy68 hy69 hy610 hy611 hy612 hy613 hgl6
  go_wp2_with fail
  refine (packR_u (HM7.out.mono (fun k hk => Nat.lt_of_lt_of_le hk HB7.out.size)) HR.out).mono ?_
  rintro e w8 ⟨A3, c3, rfl, hF, hb⟩
  have HB8 := Aside0.mk (below_step HB7.out hb)
  have HM8 := Aside0.mk ((HM7.out.below hb).mono (fun k hk => hk.1))
  have hx8 : Blk w8 w.heap.size #[u0, u1, u2, u3, u4, u5, u6, u7, u8, u9, u10, u11, u12, u13] 29 := (hb.block _ HX7.out.lt).trans HX7.out
  have HX8 := Aside0.mk hx8
  have hcv1 := Kd.C_string (P := Try.prog) (A := A2) (c := c2) Try.underlying24 Try.underlying5 Try.underlying9 (Kd.C_below (Kd.F_now HF7.out) hb)
  have hcv2 := Kd.C_string (P := Try.prog) (A := A3) (c := c3) Try.underlying24 Try.underlying5 Try.underlying9 (Kd.F_now hF)
  have hx80 : World.cell? w8 ⟨w.heap.size, 0, none⟩ = some (u0) := Blk.cell hx8 0
  have hx81 : World.cell? w8 ⟨w.heap.size, 1, none⟩ = some (u1) := Blk.cell hx8 1
  have hx82 : World.cell? w8 ⟨w.heap.size, 2, none⟩ = some (u2) := Blk.cell hx8 2
  have hx83 : World.cell? w8 ⟨w.heap.size, 3, none⟩ = some (u3) := Blk.cell hx8 3
  have hx84 : World.cell? w8 ⟨w.heap.size, 4, none⟩ = some (u4) := Blk.cell hx8 4
  have hx85 : World.cell? w8 ⟨w.heap.size, 5, none⟩ = some (u5) := Blk.cell hx8 5
  have hx86 : World.cell? w8 ⟨w.heap.size, 6, none⟩ = some (u6) := Blk.cell hx8 6
  have hx87 : World.cell? w8 ⟨w.heap.size, 7, none⟩ = some (u7) := Blk.cell hx8 7
  have hx88 : World.cell? w8 ⟨w.heap.size, 8, none⟩ = some (u8) := Blk.cell hx8 8
  have hx89 : World.cell? w8 ⟨w.heap.size, 9, none⟩ = some (u9) := Blk.cell hx8 9
  have hx810 : World.cell? w8 ⟨w.heap.size, 10, none⟩ = some (u10) := Blk.cell hx8 10
  have hx811 : World.cell? w8 ⟨w.heap.size, 11, none⟩ = some (u11) := Blk.cell hx8 11
  have hx812 : World.cell? w8 ⟨w.heap.size, 12, none⟩ = some (u12) := Blk.cell hx8 12
  have hx813 : World.cell? w8 ⟨w.heap.size, 13, none⟩ = some (u13) := Blk.cell hx8 13
  have hlt8 := hx8.lt
  clear hb hx8 hF hx70 hx71 hx72 hx73 hx74 hx75 hx76 hx77 hx78 hx79 hx710 hx711 hx712 hx713 hxl7
  go_wp2_with fail
  refine (checkR_any HM8.out HR.out).mono ?_
  rintro e w9 ⟨rfl, hb⟩
  have HB9 := Aside0.mk (below_step HB8.out hb)
  clear hb hcv1 hcv2 hlt8 hx80 hx81 hx82 hx83 hx84 hx85 hx86 hx87 hx88 hx89 hx810 hx811 hx812 hx813
  go_wp2_with fail
  refine (wakes_any _).mono ?_
  rintro e wa ⟨rfl, hb⟩
  have HBA := Aside0.mk (below_step HB9.out hb)
  clear hb
  go_wp2_with fail
  go_ret
  exact ⟨rfl, HBA.out⟩
end Go.Proofs.Ytmjbdeoomohanaa.Mine
