/- wire: WireUnlike. -/
import Derived.Test.YtmjbdeoomohanaaWireZ
import Derived.BigQuiet
set_option linter.unusedSimpArgs false
set_option linter.unusedVariables false
namespace Go.Proofs.Ytmjbdeoomohanaa.Turn
open Go.RowKit Go.Proofs.YtmjbdeoomohanaaW.PrintWords

/-- A world in which w's blocks are as they were. -/
structure Behind (w : World) where
  W : World
  below : Below w.heap.size w W
instance (w : World) : Nonempty (Behind w) := ⟨⟨w, Below.refl _ w⟩⟩
def later (w : World) (x : Behind w) : World := x.W
theorem later_below {w : World} (x : Behind w) : Below w.heap.size w (later w x) := x.below
theorem wp_region_behind {P : Program} {id : Nat} {Q : Exit → Act → World → Prop} {a : Act} {w : World} {l : List Oper} (hm : P.follows .mixedOrders = true) (hB : Region.lexB .any l.toArray = true)
    (h : wpQuiet P l.toArray (fun w' => ∃ x : Behind w, w' = later w x) (fun a' => ∀ w', (∃ x : Behind w, w' = later w x) → Q .normal a' w') l a) : (Code.region id l.toArray true).wp P Q a w :=
  wp_region_quiet (C := fun w' => ∃ x : Behind w, w' = later w x) hm hB ⟨⟨_, below_drew (Below.refl _ w)⟩, rfl⟩ (by simpa using h)
theorem calls_behind {P : Program} {f : FuncId} {args : Array Value} {w : World} {v : Value} (x : Behind w) (h : Calls P f args (later w x) fun e w' => e = .returned v ∧ Below (later w x).heap.size (later w x) w') :
    Calls P f args (later w x) fun e w'' => e = .returned v ∧ ∃ y : Behind w, w'' = later w y :=
  h.mono fun _ w' ⟨he, hb⟩ => ⟨he, ⟨w', below_step x.below hb⟩, rfl⟩
theorem later_cell {w : World} {a : Addr} {v : Value} (h : w.cell? a = some v) (x : Behind w) : (later w x).cell? a = some v := pw_cell_below x.below h
theorem later_blk {w : World} {b : Nat} {cs : Array Value} {t : TypeId} (h : Blk w b cs t) (x : Behind w) : Blk (later w x) b cs t := (x.below.block b h.lt).trans h
theorem later_C {α : Type} {d : Kd α} {w : World} {A : Option Addr} {n : Nat} {xs : List α} (h : d.C w A n xs) (x : Behind w) : d.C (later w x) A n xs := Kd.C_below h x.below
end Go.Proofs.Ytmjbdeoomohanaa.Turn
namespace Go.Proofs.Ytmjbdeoomohanaa.Mine
open Go.RowKit Go.Maps Go.Proofs.YtmjbdeoomohanaaW.PrintWords Go.Proofs.YtmjbdeoomohanaaW.PrintLast Go.Proofs.YtmjbdeoomohanaaW.PrintMore Go.Proofs.Ytmjbdeoomohanaa.PWirePacks Go.Proofs.Ytmjbdeoomohanaa.Turn

theorem enc_inj {a b : Msg} (ha : GoodM a) (ra : RgM a) (hb : GoodM b) (rb : RgM b) (h : enc a = enc b) : a = b := by
  have h1 := parse_back ha ra []
  have h2 := parse_back hb rb []
  rw [h] at h1
  rw [h1] at h2
  simpa using h2
/-- Are the bytes as alike as the messages? -/
theorem alike {a b : Msg} (ha : GoodM a) (ra : RgM a) (hb : GoodM b) (rb : RgM b) : ((strOfNums (enc a)).toList == (strOfNums (enc b)).toList) = sameM a b := by
  rw [Bool.eq_iff_iff]
  have h1 := strEq_iff (enc_bytes ha ra) (enc_bytes hb rb)
  unfold strEq at h1
  rw [h1, sameM_iff ra rb]
  exact ⟨enc_inj ha ra hb rb, fun h => by rw [h]⟩

/-- Some bytes, some word. -/
def SomePack (w : World) (e : Ending) (w' : World) : Prop := ∃ A n c f, e = .returned (.tuple #[.slice A n c, .int .i64 f]) ∧ Below w.heap.size w w'
theorem pack_some {w : World} {m : Msg} {cs : Array Value} (h : ArgF w (fun k => k < w.heap.size) m cs) (hr : RgM m) : Calls Try.prog 11 #[.agg cs] w (SomePack w) := by
  by_cases hc : chk m = 0
  · have hg := (chk_good m).1 hc
    exact (pack_yes h hr hg (pack_all hg hr)).mono (fun e w' ⟨A, c, he, _, _, hb⟩ => ⟨A, _, c, 0, he, hb⟩)
  · exact (pack_no h hr rfl hc).mono (fun e w' ⟨he, hb⟩ => ⟨none, 0, 0, _, he, hb⟩)

set_option maxHeartbeats 16000000 in
set_option maxRecDepth 100000 in
theorem wireUnlike_any {w : World} {m n : Msg} {cs ds : Array Value} (hm : ArgF w (fun k => k < w.heap.size) m cs) (hr : RgM m) (hn : ArgF w (fun k => k < w.heap.size) n ds) (rn : RgM n) :
    Calls Try.prog 7 #[.agg cs, .agg ds] w fun e w' => e = .returned (.bool true) ∧ Below w.heap.size w w' := by
  obtain ⟨u0, u1, u2, u3, u4, u5, u6, u7, u8, u9, u10, u11, u12, u13, rfl⟩ := arg14 hm
  obtain ⟨v0, v1, v2, v3, v4, v5, v6, v7, v8, v9, v10, v11, v12, v13, rfl⟩ := arg14 hn
  have HR := Aside0.mk hr
  have RN := Aside0.mk rn
  have HB0 := Aside0.mk (below_alloc (below_alloc (Below.refl w.heap.size w) (.cells #[u0, u1, u2, u3, u4, u5, u6, u7, u8, u9, u10, u11, u12, u13] 29)) (.cells #[v0, v1, v2, v3, v4, v5, v6, v7, v8, v9, v10, v11, v12, v13] 29))
  have HM0 := Aside0.mk ((hm.below HB0.out).mono (fun k hk => hk.2))
  have HN0 := Aside0.mk ((hn.below HB0.out).mono (fun k hk => hk.2))
  have HX0 := Aside0.mk ((Blk.new w #[u0, u1, u2, u3, u4, u5, u6, u7, u8, u9, u10, u11, u12, u13] 29).alloc (.cells #[v0, v1, v2, v3, v4, v5, v6, v7, v8, v9, v10, v11, v12, v13] 29))
  have hy0 := Blk.new (w.alloc (.cells #[u0, u1, u2, u3, u4, u5, u6, u7, u8, u9, u10, u11, u12, u13] 29)) #[v0, v1, v2, v3, v4, v5, v6, v7, v8, v9, v10, v11, v12, v13] 29
  rw [show (w.alloc (.cells #[u0, u1, u2, u3, u4, u5, u6, u7, u8, u9, u10, u11, u12, u13] 29)).heap.size = w.heap.size + 1 by simp] at hy0
  have HY0 := Aside0.mk hy0
  clear hr rn hm hn hy0
  go_enter Try.func7, Try.ntmps7
  go_wp2_with fail
  refine (great_any m _ _ HM0.out (by have := HR.out.log.1; omega) HR.out.blocks.1).mono ?_
  rintro e w1 ⟨q, rfl, hb1⟩
  have HB1 := Aside0.mk (below_step HB0.out hb1)
  have HM1 := Aside0.mk ((HM0.out.below hb1).mono (fun k hk => hk.1))
  have HN1 := Aside0.mk ((HN0.out.below hb1).mono (fun k hk => hk.1))
  have hx1 : Blk w1 w.heap.size #[u0, u1, u2, u3, u4, u5, u6, u7, u8, u9, u10, u11, u12, u13] 29 := (hb1.block _ HX0.out.lt).trans HX0.out
  have hy1 : Blk w1 (w.heap.size + 1) #[v0, v1, v2, v3, v4, v5, v6, v7, v8, v9, v10, v11, v12, v13] 29 := (hb1.block _ HY0.out.lt).trans HY0.out
  have HX1 := Aside0.mk hx1
  have HY1 := Aside0.mk hy1
  have hx10 : World.cell? w1 ⟨w.heap.size, 0, none⟩ = some (u0) := Blk.cell hx1 0
  have hx11 : World.cell? w1 ⟨w.heap.size, 1, none⟩ = some (u1) := Blk.cell hx1 1
  have hx12 : World.cell? w1 ⟨w.heap.size, 2, none⟩ = some (u2) := Blk.cell hx1 2
  have hx13 : World.cell? w1 ⟨w.heap.size, 3, none⟩ = some (u3) := Blk.cell hx1 3
  have hx14 : World.cell? w1 ⟨w.heap.size, 4, none⟩ = some (u4) := Blk.cell hx1 4
  have hx15 : World.cell? w1 ⟨w.heap.size, 5, none⟩ = some (u5) := Blk.cell hx1 5
  have hx16 : World.cell? w1 ⟨w.heap.size, 6, none⟩ = some (u6) := Blk.cell hx1 6
  have hx17 : World.cell? w1 ⟨w.heap.size, 7, none⟩ = some (u7) := Blk.cell hx1 7
  have hx18 : World.cell? w1 ⟨w.heap.size, 8, none⟩ = some (u8) := Blk.cell hx1 8
  have hx19 : World.cell? w1 ⟨w.heap.size, 9, none⟩ = some (u9) := Blk.cell hx1 9
  have hx110 : World.cell? w1 ⟨w.heap.size, 10, none⟩ = some (u10) := Blk.cell hx1 10
  have hx111 : World.cell? w1 ⟨w.heap.size, 11, none⟩ = some (u11) := Blk.cell hx1 11
  have hx112 : World.cell? w1 ⟨w.heap.size, 12, none⟩ = some (u12) := Blk.cell hx1 12
  have hx113 : World.cell? w1 ⟨w.heap.size, 13, none⟩ = some (u13) := Blk.cell hx1 13
  have hy10 : World.cell? w1 ⟨(w.heap.size + 1), 0, none⟩ = some (v0) := Blk.cell hy1 0
  have hy11 : World.cell? w1 ⟨(w.heap.size + 1), 1, none⟩ = some (v1) := Blk.cell hy1 1
  have hy12 : World.cell? w1 ⟨(w.heap.size + 1), 2, none⟩ = some (v2) := Blk.cell hy1 2
  have hy13 : World.cell? w1 ⟨(w.heap.size + 1), 3, none⟩ = some (v3) := Blk.cell hy1 3
  have hy14 : World.cell? w1 ⟨(w.heap.size + 1), 4, none⟩ = some (v4) := Blk.cell hy1 4
  have hy15 : World.cell? w1 ⟨(w.heap.size + 1), 5, none⟩ = some (v5) := Blk.cell hy1 5
  have hy16 : World.cell? w1 ⟨(w.heap.size + 1), 6, none⟩ = some (v6) := Blk.cell hy1 6
  have hy17 : World.cell? w1 ⟨(w.heap.size + 1), 7, none⟩ = some (v7) := Blk.cell hy1 7
  have hy18 : World.cell? w1 ⟨(w.heap.size + 1), 8, none⟩ = some (v8) := Blk.cell hy1 8
  have hy19 : World.cell? w1 ⟨(w.heap.size + 1), 9, none⟩ = some (v9) := Blk.cell hy1 9
  have hy110 : World.cell? w1 ⟨(w.heap.size + 1), 10, none⟩ = some (v10) := Blk.cell hy1 10
  have hy111 : World.cell? w1 ⟨(w.heap.size + 1), 11, none⟩ = some (v11) := Blk.cell hy1 11
  have hy112 : World.cell? w1 ⟨(w.heap.size + 1), 12, none⟩ = some (v12) := Blk.cell hy1 12
  have hy113 : World.cell? w1 ⟨(w.heap.size + 1), 13, none⟩ = some (v13) := Blk.cell hy1 13
  have hlt1 := hy1.lt
  clear hb1 hx1 hy1
  cases q with
  | true =>
    go_wp2_with fail
    refine (wakes_any _).mono ?_
    rintro e w2 ⟨rfl, hb2⟩
    have HB2 := Aside0.mk (below_step HB1.out hb2)
    clear hb2
    go_wp2_with fail
    go_ret
    exact ⟨rfl, HB2.out⟩
  | false =>
    go_wp2_with fail
    refine (great_any n _ _ HN1.out (by have := RN.out.log.1; omega) RN.out.blocks.1).mono ?_
    rintro e w2 ⟨q, rfl, hb2⟩
    have HB2 := Aside0.mk (below_step HB1.out hb2)
    have HM2 := Aside0.mk ((HM1.out.below hb2).mono (fun k hk => hk.1))
    have HN2 := Aside0.mk ((HN1.out.below hb2).mono (fun k hk => hk.1))
    have hx2 : Blk w2 w.heap.size #[u0, u1, u2, u3, u4, u5, u6, u7, u8, u9, u10, u11, u12, u13] 29 := (hb2.block _ HX1.out.lt).trans HX1.out
    have hy2 : Blk w2 (w.heap.size + 1) #[v0, v1, v2, v3, v4, v5, v6, v7, v8, v9, v10, v11, v12, v13] 29 := (hb2.block _ HY1.out.lt).trans HY1.out
    have HX2 := Aside0.mk hx2
    have HY2 := Aside0.mk hy2
    clear HB1 HM1 HN1 HX1 HY1 HM0 HN0 HX0 HY0 hx10 hx11 hx12 hx13 hx14 hx15 hx16 hx17 hx18 hx19 hx110 hx111 hx112 hx113 hy10 hy11 hy12 hy13 hy14 hy15 hy16 hy17 hy18 hy19 hy110 hy111 hy112 hy113 hlt1
    have hx20 : World.cell? w2 ⟨w.heap.size, 0, none⟩ = some (u0) := Blk.cell hx2 0
    have hx21 : World.cell? w2 ⟨w.heap.size, 1, none⟩ = some (u1) := Blk.cell hx2 1
    have hx22 : World.cell? w2 ⟨w.heap.size, 2, none⟩ = some (u2) := Blk.cell hx2 2
    have hx23 : World.cell? w2 ⟨w.heap.size, 3, none⟩ = some (u3) := Blk.cell hx2 3
    have hx24 : World.cell? w2 ⟨w.heap.size, 4, none⟩ = some (u4) := Blk.cell hx2 4
    have hx25 : World.cell? w2 ⟨w.heap.size, 5, none⟩ = some (u5) := Blk.cell hx2 5
    have hx26 : World.cell? w2 ⟨w.heap.size, 6, none⟩ = some (u6) := Blk.cell hx2 6
    have hx27 : World.cell? w2 ⟨w.heap.size, 7, none⟩ = some (u7) := Blk.cell hx2 7
    have hx28 : World.cell? w2 ⟨w.heap.size, 8, none⟩ = some (u8) := Blk.cell hx2 8
    have hx29 : World.cell? w2 ⟨w.heap.size, 9, none⟩ = some (u9) := Blk.cell hx2 9
    have hx210 : World.cell? w2 ⟨w.heap.size, 10, none⟩ = some (u10) := Blk.cell hx2 10
    have hx211 : World.cell? w2 ⟨w.heap.size, 11, none⟩ = some (u11) := Blk.cell hx2 11
    have hx212 : World.cell? w2 ⟨w.heap.size, 12, none⟩ = some (u12) := Blk.cell hx2 12
    have hx213 : World.cell? w2 ⟨w.heap.size, 13, none⟩ = some (u13) := Blk.cell hx2 13
    have hy20 : World.cell? w2 ⟨(w.heap.size + 1), 0, none⟩ = some (v0) := Blk.cell hy2 0
    have hy21 : World.cell? w2 ⟨(w.heap.size + 1), 1, none⟩ = some (v1) := Blk.cell hy2 1
    have hy22 : World.cell? w2 ⟨(w.heap.size + 1), 2, none⟩ = some (v2) := Blk.cell hy2 2
    have hy23 : World.cell? w2 ⟨(w.heap.size + 1), 3, none⟩ = some (v3) := Blk.cell hy2 3
    have hy24 : World.cell? w2 ⟨(w.heap.size + 1), 4, none⟩ = some (v4) := Blk.cell hy2 4
    have hy25 : World.cell? w2 ⟨(w.heap.size + 1), 5, none⟩ = some (v5) := Blk.cell hy2 5
    have hy26 : World.cell? w2 ⟨(w.heap.size + 1), 6, none⟩ = some (v6) := Blk.cell hy2 6
    have hy27 : World.cell? w2 ⟨(w.heap.size + 1), 7, none⟩ = some (v7) := Blk.cell hy2 7
    have hy28 : World.cell? w2 ⟨(w.heap.size + 1), 8, none⟩ = some (v8) := Blk.cell hy2 8
    have hy29 : World.cell? w2 ⟨(w.heap.size + 1), 9, none⟩ = some (v9) := Blk.cell hy2 9
    have hy210 : World.cell? w2 ⟨(w.heap.size + 1), 10, none⟩ = some (v10) := Blk.cell hy2 10
    have hy211 : World.cell? w2 ⟨(w.heap.size + 1), 11, none⟩ = some (v11) := Blk.cell hy2 11
    have hy212 : World.cell? w2 ⟨(w.heap.size + 1), 12, none⟩ = some (v12) := Blk.cell hy2 12
    have hy213 : World.cell? w2 ⟨(w.heap.size + 1), 13, none⟩ = some (v13) := Blk.cell hy2 13
    have hlt2 := hy2.lt
    clear hb2 hx2 hy2
    cases q with
    | true =>
      go_wp2_with fail
      refine (wakes_any _).mono ?_
      rintro e w3 ⟨rfl, hb3⟩
      have HB3 := Aside0.mk (below_step HB2.out hb3)
      clear hb3
      go_wp2_with fail
      go_ret
      exact ⟨rfl, HB3.out⟩
    | false =>
      by_cases hch : chk m = 0
      · have HG := Aside0.mk ((chk_good m).1 hch)
        have HAL := Aside0.mk (pack_all HG.out HR.out)
        obtain ⟨la, hla⟩ : ∃ la, enc m = la := ⟨_, rfl⟩
        have HLA := Aside0.mk hla
        rw [hla] at HAL
        clear hch hla
        go_wp2_with fail
        refine (pack_yes (HM2.out.mono (fun k hk => Nat.lt_of_lt_of_le hk HB2.out.size)) HR.out HG.out HAL.out).mono ?_
        rintro e w3 ⟨A2, c2, rfl, hc2, hF2, hb3⟩
        have HB3 := Aside0.mk (below_step HB2.out hb3)
        have HM3 := Aside0.mk ((HM2.out.below hb3).mono (fun k hk => hk.1))
        have HN3 := Aside0.mk ((HN2.out.below hb3).mono (fun k hk => hk.1))
        have HC3 := Aside0.mk (Kd.F_now hF2)
        have hx3 : Blk w3 w.heap.size #[u0, u1, u2, u3, u4, u5, u6, u7, u8, u9, u10, u11, u12, u13] 29 := (hb3.block _ HX2.out.lt).trans HX2.out
        have hy3 : Blk w3 (w.heap.size + 1) #[v0, v1, v2, v3, v4, v5, v6, v7, v8, v9, v10, v11, v12, v13] 29 := (hb3.block _ HY2.out.lt).trans HY2.out
        have HX3 := Aside0.mk hx3
        have HY3 := Aside0.mk hy3
        have hy30 : World.cell? w3 ⟨(w.heap.size + 1), 0, none⟩ = some (v0) := Blk.cell hy3 0
        have hy31 : World.cell? w3 ⟨(w.heap.size + 1), 1, none⟩ = some (v1) := Blk.cell hy3 1
        have hy32 : World.cell? w3 ⟨(w.heap.size + 1), 2, none⟩ = some (v2) := Blk.cell hy3 2
        have hy33 : World.cell? w3 ⟨(w.heap.size + 1), 3, none⟩ = some (v3) := Blk.cell hy3 3
        have hy34 : World.cell? w3 ⟨(w.heap.size + 1), 4, none⟩ = some (v4) := Blk.cell hy3 4
        have hy35 : World.cell? w3 ⟨(w.heap.size + 1), 5, none⟩ = some (v5) := Blk.cell hy3 5
        have hy36 : World.cell? w3 ⟨(w.heap.size + 1), 6, none⟩ = some (v6) := Blk.cell hy3 6
        have hy37 : World.cell? w3 ⟨(w.heap.size + 1), 7, none⟩ = some (v7) := Blk.cell hy3 7
        have hy38 : World.cell? w3 ⟨(w.heap.size + 1), 8, none⟩ = some (v8) := Blk.cell hy3 8
        have hy39 : World.cell? w3 ⟨(w.heap.size + 1), 9, none⟩ = some (v9) := Blk.cell hy3 9
        have hy310 : World.cell? w3 ⟨(w.heap.size + 1), 10, none⟩ = some (v10) := Blk.cell hy3 10
        have hy311 : World.cell? w3 ⟨(w.heap.size + 1), 11, none⟩ = some (v11) := Blk.cell hy3 11
        have hy312 : World.cell? w3 ⟨(w.heap.size + 1), 12, none⟩ = some (v12) := Blk.cell hy3 12
        have hy313 : World.cell? w3 ⟨(w.heap.size + 1), 13, none⟩ = some (v13) := Blk.cell hy3 13
        have hlt3 := hy3.lt
        clear hb3 hx3 hy3 hF2 hc2 hlt2 hx20 hx21 hx22 hx23 hx24 hx25 hx26 hx27 hx28 hx29 hx210 hx211 hx212 hx213 hy20 hy21 hy22 hy23 hy24 hy25 hy26 hy27 hy28 hy29 hy210 hy211 hy212 hy213 HAL
        by_cases hcn : chk n = 0
        · have HGN := Aside0.mk ((chk_good n).1 hcn)
          have HAL := Aside0.mk (pack_all HGN.out RN.out)
          have HS := Aside0.mk (alike HG.out HR.out HGN.out RN.out)
          obtain ⟨lb, hlb⟩ : ∃ lb, enc n = lb := ⟨_, rfl⟩
          rw [hlb] at HAL HS
          rw [HLA.out] at HS
          clear hcn hlb
          go_wp2_with fail
          refine (pack_yes (HN3.out.mono (fun k hk => Nat.lt_of_lt_of_le hk HB3.out.size)) RN.out HGN.out HAL.out).mono ?_
          rintro e w4 ⟨A3, c3, rfl, hc3, hF3, hb4⟩
          have HB4 := Aside0.mk (below_step HB3.out hb4)
          have HM4 := Aside0.mk (fun x : Behind w4 => ((HM3.out.below hb4).below x.below))
          have HN4 := Aside0.mk (fun x : Behind w4 => ((HN3.out.below hb4).below x.below))
          have hcv1 := fun x : Behind w4 => Kd.C_string (P := Try.prog) (A := A2) (c := c2) Try.underlying24 Try.underlying5 Try.underlying9 (later_C (Kd.C_below HC3.out hb4) x)
          have hcv2 := fun x : Behind w4 => Kd.C_string (P := Try.prog) (A := A3) (c := c3) Try.underlying24 Try.underlying5 Try.underlying9 (later_C (Kd.F_now hF3) x)
          have hx4 : Blk w4 w.heap.size #[u0, u1, u2, u3, u4, u5, u6, u7, u8, u9, u10, u11, u12, u13] 29 := (hb4.block _ HX3.out.lt).trans HX3.out
          have hy4 : Blk w4 (w.heap.size + 1) #[v0, v1, v2, v3, v4, v5, v6, v7, v8, v9, v10, v11, v12, v13] 29 := (hb4.block _ HY3.out.lt).trans HY3.out
          have hx40 : World.cell? w4 ⟨w.heap.size, 0, none⟩ = some (u0) := Blk.cell hx4 0
          have hx41 : World.cell? w4 ⟨w.heap.size, 1, none⟩ = some (u1) := Blk.cell hx4 1
          have hx42 : World.cell? w4 ⟨w.heap.size, 2, none⟩ = some (u2) := Blk.cell hx4 2
          have hx43 : World.cell? w4 ⟨w.heap.size, 3, none⟩ = some (u3) := Blk.cell hx4 3
          have hx44 : World.cell? w4 ⟨w.heap.size, 4, none⟩ = some (u4) := Blk.cell hx4 4
          have hx45 : World.cell? w4 ⟨w.heap.size, 5, none⟩ = some (u5) := Blk.cell hx4 5
          have hx46 : World.cell? w4 ⟨w.heap.size, 6, none⟩ = some (u6) := Blk.cell hx4 6
          have hx47 : World.cell? w4 ⟨w.heap.size, 7, none⟩ = some (u7) := Blk.cell hx4 7
          have hx48 : World.cell? w4 ⟨w.heap.size, 8, none⟩ = some (u8) := Blk.cell hx4 8
          have hx49 : World.cell? w4 ⟨w.heap.size, 9, none⟩ = some (u9) := Blk.cell hx4 9
          have hx410 : World.cell? w4 ⟨w.heap.size, 10, none⟩ = some (u10) := Blk.cell hx4 10
          have hx411 : World.cell? w4 ⟨w.heap.size, 11, none⟩ = some (u11) := Blk.cell hx4 11
          have hx412 : World.cell? w4 ⟨w.heap.size, 12, none⟩ = some (u12) := Blk.cell hx4 12
          have hx413 : World.cell? w4 ⟨w.heap.size, 13, none⟩ = some (u13) := Blk.cell hx4 13
          have hy40 : World.cell? w4 ⟨(w.heap.size + 1), 0, none⟩ = some (v0) := Blk.cell hy4 0
          have hy41 : World.cell? w4 ⟨(w.heap.size + 1), 1, none⟩ = some (v1) := Blk.cell hy4 1
          have hy42 : World.cell? w4 ⟨(w.heap.size + 1), 2, none⟩ = some (v2) := Blk.cell hy4 2
          have hy43 : World.cell? w4 ⟨(w.heap.size + 1), 3, none⟩ = some (v3) := Blk.cell hy4 3
          have hy44 : World.cell? w4 ⟨(w.heap.size + 1), 4, none⟩ = some (v4) := Blk.cell hy4 4
          have hy45 : World.cell? w4 ⟨(w.heap.size + 1), 5, none⟩ = some (v5) := Blk.cell hy4 5
          have hy46 : World.cell? w4 ⟨(w.heap.size + 1), 6, none⟩ = some (v6) := Blk.cell hy4 6
          have hy47 : World.cell? w4 ⟨(w.heap.size + 1), 7, none⟩ = some (v7) := Blk.cell hy4 7
          have hy48 : World.cell? w4 ⟨(w.heap.size + 1), 8, none⟩ = some (v8) := Blk.cell hy4 8
          have hy49 : World.cell? w4 ⟨(w.heap.size + 1), 9, none⟩ = some (v9) := Blk.cell hy4 9
          have hy410 : World.cell? w4 ⟨(w.heap.size + 1), 10, none⟩ = some (v10) := Blk.cell hy4 10
          have hy411 : World.cell? w4 ⟨(w.heap.size + 1), 11, none⟩ = some (v11) := Blk.cell hy4 11
          have hy412 : World.cell? w4 ⟨(w.heap.size + 1), 12, none⟩ = some (v12) := Blk.cell hy4 12
          have hy413 : World.cell? w4 ⟨(w.heap.size + 1), 13, none⟩ = some (v13) := Blk.cell hy4 13
          have hlt4 := hy4.lt
          have lx0 := fun x : Behind w4 => later_cell hx40 x
          have lx1 := fun x : Behind w4 => later_cell hx41 x
          have lx2 := fun x : Behind w4 => later_cell hx42 x
          have lx3 := fun x : Behind w4 => later_cell hx43 x
          have lx4 := fun x : Behind w4 => later_cell hx44 x
          have lx5 := fun x : Behind w4 => later_cell hx45 x
          have lx6 := fun x : Behind w4 => later_cell hx46 x
          have lx7 := fun x : Behind w4 => later_cell hx47 x
          have lx8 := fun x : Behind w4 => later_cell hx48 x
          have lx9 := fun x : Behind w4 => later_cell hx49 x
          have lx10 := fun x : Behind w4 => later_cell hx410 x
          have lx11 := fun x : Behind w4 => later_cell hx411 x
          have lx12 := fun x : Behind w4 => later_cell hx412 x
          have lx13 := fun x : Behind w4 => later_cell hx413 x
          have ly0 := fun x : Behind w4 => later_cell hy40 x
          have ly1 := fun x : Behind w4 => later_cell hy41 x
          have ly2 := fun x : Behind w4 => later_cell hy42 x
          have ly3 := fun x : Behind w4 => later_cell hy43 x
          have ly4 := fun x : Behind w4 => later_cell hy44 x
          have ly5 := fun x : Behind w4 => later_cell hy45 x
          have ly6 := fun x : Behind w4 => later_cell hy46 x
          have ly7 := fun x : Behind w4 => later_cell hy47 x
          have ly8 := fun x : Behind w4 => later_cell hy48 x
          have ly9 := fun x : Behind w4 => later_cell hy49 x
          have ly10 := fun x : Behind w4 => later_cell hy410 x
          have ly11 := fun x : Behind w4 => later_cell hy411 x
          have ly12 := fun x : Behind w4 => later_cell hy412 x
          have ly13 := fun x : Behind w4 => later_cell hy413 x
          have hs := HS.out
          have HSM := Aside0.mk (fun x : Behind w4 => same_any m n _ _ (later w4 x) (HM4.out x) (HN4.out x) HR.out.log.1 HR.out.blocks.1)
          obtain ⟨B, hB⟩ : ∃ B, sameM m n = B := ⟨_, rfl⟩
          rw [hB] at hs HSM
          clear hB hb4 hx4 hy4 hF3 hc3 hlt3 hy30 hy31 hy32 hy33 hy34 hy35 hy36 hy37 hy38 hy39 hy310 hy311 hy312 hy313
          go_wp2_with fail
          refine wp_region_behind (by kernel_rfl) (by kernel_rfl) ?_
          repeat (go_big_quiet_step (first | (go_at_call 9; exact calls_behind _ (wakes_any _)) | (go_at_call 13; exact calls_behind _ (HSM.out _))))
          refine wpQuiet_nil ?_
          rintro _ ⟨x, rfl⟩
          have HB5 := Aside0.mk (below_step HB4.out x.below)
          go_wp2_with fail
          go_ret
          exact ⟨rfl, HB5.out⟩
        · have e1 : (chk n != 0) = true := bne_iff_ne.2 hcn
          have HE := Aside0.mk hcn
          clear hcn
          go_wp2_with fail
          refine (pack_no HN3.out RN.out rfl HE.out).mono ?_
          rintro e w4 ⟨rfl, hb4⟩
          have HB4 := Aside0.mk (below_step HB3.out hb4)
          clear hb4 hlt3 hy30 hy31 hy32 hy33 hy34 hy35 hy36 hy37 hy38 hy39 hy310 hy311 hy312 hy313
          go_wp2_with fail
          refine wp_region_behind (by kernel_rfl) (by kernel_rfl) ?_
          repeat (go_big_quiet_step ((go_at_call 9; exact calls_behind _ (wakes_any _))))
          refine wpQuiet_nil ?_
          rintro _ ⟨x, rfl⟩
          have HB5 := Aside0.mk (below_step HB4.out x.below)
          go_wp2_with fail
          go_ret
          exact ⟨rfl, HB5.out⟩
      · obtain ⟨E, hE⟩ : ∃ E, chk m = E := ⟨_, rfl⟩
        have HCE := Aside0.mk hE
        rw [hE] at hch
        have HE := Aside0.mk hch
        have e1 : (E != 0) = true := bne_iff_ne.2 hch
        clear hch hE
        go_wp2_with fail
        refine (pack_no HM2.out HR.out HCE.out HE.out).mono ?_
        rintro e w3 ⟨rfl, hb3⟩
        have HB3 := Aside0.mk (below_step HB2.out hb3)
        have HN3 := Aside0.mk ((HN2.out.below hb3).mono (fun k hk => hk.1))
        have hy3 : Blk w3 (w.heap.size + 1) #[v0, v1, v2, v3, v4, v5, v6, v7, v8, v9, v10, v11, v12, v13] 29 := (hb3.block _ HY2.out.lt).trans HY2.out
        have hy30 : World.cell? w3 ⟨(w.heap.size + 1), 0, none⟩ = some (v0) := Blk.cell hy3 0
        have hy31 : World.cell? w3 ⟨(w.heap.size + 1), 1, none⟩ = some (v1) := Blk.cell hy3 1
        have hy32 : World.cell? w3 ⟨(w.heap.size + 1), 2, none⟩ = some (v2) := Blk.cell hy3 2
        have hy33 : World.cell? w3 ⟨(w.heap.size + 1), 3, none⟩ = some (v3) := Blk.cell hy3 3
        have hy34 : World.cell? w3 ⟨(w.heap.size + 1), 4, none⟩ = some (v4) := Blk.cell hy3 4
        have hy35 : World.cell? w3 ⟨(w.heap.size + 1), 5, none⟩ = some (v5) := Blk.cell hy3 5
        have hy36 : World.cell? w3 ⟨(w.heap.size + 1), 6, none⟩ = some (v6) := Blk.cell hy3 6
        have hy37 : World.cell? w3 ⟨(w.heap.size + 1), 7, none⟩ = some (v7) := Blk.cell hy3 7
        have hy38 : World.cell? w3 ⟨(w.heap.size + 1), 8, none⟩ = some (v8) := Blk.cell hy3 8
        have hy39 : World.cell? w3 ⟨(w.heap.size + 1), 9, none⟩ = some (v9) := Blk.cell hy3 9
        have hy310 : World.cell? w3 ⟨(w.heap.size + 1), 10, none⟩ = some (v10) := Blk.cell hy3 10
        have hy311 : World.cell? w3 ⟨(w.heap.size + 1), 11, none⟩ = some (v11) := Blk.cell hy3 11
        have hy312 : World.cell? w3 ⟨(w.heap.size + 1), 12, none⟩ = some (v12) := Blk.cell hy3 12
        have hy313 : World.cell? w3 ⟨(w.heap.size + 1), 13, none⟩ = some (v13) := Blk.cell hy3 13
        have hlt3 := hy3.lt
        clear hb3 hy3 hlt2 hx20 hx21 hx22 hx23 hx24 hx25 hx26 hx27 hx28 hx29 hx210 hx211 hx212 hx213 hy20 hy21 hy22 hy23 hy24 hy25 hy26 hy27 hy28 hy29 hy210 hy211 hy212 hy213
        go_wp2_with fail
        refine (pack_some (HN3.out.mono (fun k hk => Nat.lt_of_lt_of_le hk HB3.out.size)) RN.out).mono ?_
        rintro e w4 ⟨A4, n4, c4, f4, rfl, hb4⟩
        have HB4 := Aside0.mk (below_step HB3.out hb4)
        clear hb4 hlt3 hy30 hy31 hy32 hy33 hy34 hy35 hy36 hy37 hy38 hy39 hy310 hy311 hy312 hy313
        go_wp2_with fail
        refine wp_region_behind (by kernel_rfl) (by kernel_rfl) ?_
        repeat (go_big_quiet_step ((go_at_call 9; exact calls_behind _ (wakes_any _))))
        refine wpQuiet_nil ?_
        rintro _ ⟨x, rfl⟩
        have HB5 := Aside0.mk (below_step HB4.out x.below)
        go_wp2_with fail
        go_ret
        exact ⟨rfl, HB5.out⟩
end Go.Proofs.Ytmjbdeoomohanaa.Mine
