/- The law AirNil: a nil air answers every call with its none. -/
import Derived.Test.YtikfelmmelkioaaAirW
set_option linter.unusedSimpArgs false
set_option linter.unusedVariables false
namespace Go.Proofs.Ytikfelmmelkioaa.Mine
open Go.RowKit Go.Maps Go.Proofs.YtikfelmmelkioaaW.PrintWords Go.Proofs.YtikfelmmelkioaaW.PrintLast Go.Proofs.YtikfelmmelkioaaW.PrintMore Go.Proofs.Ytikfelmmelkioaa.PAirOnce Go.Proofs.Ytikfelmmelkioaa.Turn

theorem count_nil (w : World) : Calls Try.prog 9 #[.pointer none] w fun e w' => e = .returned (.int .i64 0) ∧ w = w' := by
  go_enter Try.func9, Try.ntmps9
  go_wp2
  go_ret
  exact ⟨rfl, rfl⟩

theorem same_zero (w : World) : Calls Try.prog 10 #[.agg #[.int .i64 0, .int .i64 0, .slice none 0 0], .agg #[.int .i64 0, .int .i64 0, .slice none 0 0]] w fun e w' => e = .returned (.bool true) ∧ Below w.heap.size w w' :=
  tabularyref19_Same.calls 0 0 none 0 [] 0 0 none 0 [] true w (Kd.C_nil _ _) (by simp) (Kd.C_nil _ _) (by simp) (by simp [tabularyref19_Same.f])

set_option maxHeartbeats 4000000 in
set_option maxRecDepth 100000 in
theorem nil_any (d i p q : Int) (A : Option Addr) (m c : Nat) (w : World) : Calls Try.prog 3 #[.agg #[.int .i64 d, .int .i64 i, .int .i64 p, .int .i64 q, .slice A m c]] w fun e w' => e = .returned (.bool true) ∧ Below w.heap.size w w' := by
  go_enter Try.func3, Try.ntmps3
  have HX := Aside0.mk (Blk.new w #[.int .i64 d, .int .i64 i, .int .i64 p, .int .i64 q, .slice A m c] 26)
  have HB0 := Aside0.mk (below_alloc (Below.refl w.heap.size w) (.cells #[.int .i64 d, .int .i64 i, .int .i64 p, .int .i64 q, .slice A m c] 26))
  go_wp2_with fail
  refine (at_nil i _).mono ?_
  rintro e w1 ⟨rfl, hb1⟩
  have HX1 := Aside0.mk ((hb1.block _ HX.out.lt).trans HX.out)
  have HB1 := Aside0.mk (below_then HB0.out HB0.out.size hb1)
  clear hb1
  have x1 : w1.cell? ⟨w.heap.size, 1, none⟩ = some (.int .i64 i) := (Blk.cell HX1.out 1).trans rfl
  have l1 : w.heap.size < w1.heap.size := Blk.lt HX1.out
  go_wp2_with fail
  have y1 := Blk.new w1 #[.int .i64 0, .int .i64 0, .slice none 0 0] 24
  have X1 := Blk.alloc HX1.out (.cells #[.int .i64 0, .int .i64 0, .slice none 0 0] 24)
  have B1 := below_alloc HB1.out (.cells #[.int .i64 0, .int .i64 0, .slice none 0 0] 24)
  refine (carry_nil i _).mono ?_
  rintro e w2 ⟨rfl, hb2⟩
  have HX2 : Aside0 (Blk w2 w.heap.size #[.int .i64 d, .int .i64 i, .int .i64 p, .int .i64 q, .slice A m c] 26) := ⟨(hb2.block _ X1.lt).trans X1⟩
  have HY2 : Aside0 (Blk w2 w1.heap.size #[.int .i64 0, .int .i64 0, .slice none 0 0] 24) := ⟨(hb2.block _ y1.lt).trans y1⟩
  have HB2 := Aside0.mk (below_then B1 B1.size hb2)
  clear hb2 y1 X1 B1 x1 l1
  have GHX2 := HX2.out
  have lGHX2 : w.heap.size < w2.heap.size := GHX2.lt
  have GHX20 : World.cell? w2 ⟨w.heap.size, 0, none⟩ = some (.int .i64 d) := Blk.cell GHX2 0
  have GHX2f0 : World.frozen? w2 ⟨w.heap.size, 0, none⟩ = false := Blk.free GHX2 0
  have GHX21 : World.cell? w2 ⟨w.heap.size, 1, none⟩ = some (.int .i64 i) := Blk.cell GHX2 1
  have GHX2f1 : World.frozen? w2 ⟨w.heap.size, 1, none⟩ = false := Blk.free GHX2 1
  have GHX22 : World.cell? w2 ⟨w.heap.size, 2, none⟩ = some (.int .i64 p) := Blk.cell GHX2 2
  have GHX2f2 : World.frozen? w2 ⟨w.heap.size, 2, none⟩ = false := Blk.free GHX2 2
  have GHX23 : World.cell? w2 ⟨w.heap.size, 3, none⟩ = some (.int .i64 q) := Blk.cell GHX2 3
  have GHX2f3 : World.frozen? w2 ⟨w.heap.size, 3, none⟩ = false := Blk.free GHX2 3
  have GHX24 : World.cell? w2 ⟨w.heap.size, 4, none⟩ = some (.slice A m c) := Blk.cell GHX2 4
  have GHX2f4 : World.frozen? w2 ⟨w.heap.size, 4, none⟩ = false := Blk.free GHX2 4
  clear GHX2
  have GHY2 := HY2.out
  have lGHY2 : w1.heap.size < w2.heap.size := GHY2.lt
  have GHY20 : World.cell? w2 ⟨w1.heap.size, 0, none⟩ = some (.int .i64 0) := Blk.cell GHY2 0
  have GHY2f0 : World.frozen? w2 ⟨w1.heap.size, 0, none⟩ = false := Blk.free GHY2 0
  have GHY21 : World.cell? w2 ⟨w1.heap.size, 1, none⟩ = some (.int .i64 0) := Blk.cell GHY2 1
  have GHY2f1 : World.frozen? w2 ⟨w1.heap.size, 1, none⟩ = false := Blk.free GHY2 1
  have GHY22 : World.cell? w2 ⟨w1.heap.size, 2, none⟩ = some (.slice none 0 0) := Blk.cell GHY2 2
  have GHY2f2 : World.frozen? w2 ⟨w1.heap.size, 2, none⟩ = false := Blk.free GHY2 2
  clear GHY2
  go_wp2_with fail
  have X2 := Blk.alloc HX2.out (.cells #[.int .i64 0, .int .i64 0, .slice none 0 0] 24)
  have Y2 := Blk.alloc HY2.out (.cells #[.int .i64 0, .int .i64 0, .slice none 0 0] 24)
  have V2 := Blk.new w2 #[.int .i64 0, .int .i64 0, .slice none 0 0] 24
  have B2 := below_alloc HB2.out (.cells #[.int .i64 0, .int .i64 0, .slice none 0 0] 24)
  refine (send_nil p q A m c _).mono ?_
  rintro e w3 ⟨rfl, hb⟩
  have HX3 : Aside0 (Blk w3 w.heap.size #[.int .i64 d, .int .i64 i, .int .i64 p, .int .i64 q, .slice A m c] 26) := ⟨(hb.block _ X2.lt).trans X2⟩
  have HY3 : Aside0 (Blk w3 w1.heap.size #[.int .i64 0, .int .i64 0, .slice none 0 0] 24) := ⟨(hb.block _ Y2.lt).trans Y2⟩
  have HV3 : Aside0 (Blk w3 w2.heap.size #[.int .i64 0, .int .i64 0, .slice none 0 0] 24) := ⟨(hb.block _ V2.lt).trans V2⟩
  have HB3 := Aside0.mk (below_then B2 B2.size hb)
  clear hb X2 Y2 V2 B2
  have GHX3 := HX3.out
  have lGHX3 : w.heap.size < w3.heap.size := GHX3.lt
  have GHX30 : World.cell? w3 ⟨w.heap.size, 0, none⟩ = some (.int .i64 d) := Blk.cell GHX3 0
  have GHX3f0 : World.frozen? w3 ⟨w.heap.size, 0, none⟩ = false := Blk.free GHX3 0
  have GHX31 : World.cell? w3 ⟨w.heap.size, 1, none⟩ = some (.int .i64 i) := Blk.cell GHX3 1
  have GHX3f1 : World.frozen? w3 ⟨w.heap.size, 1, none⟩ = false := Blk.free GHX3 1
  have GHX32 : World.cell? w3 ⟨w.heap.size, 2, none⟩ = some (.int .i64 p) := Blk.cell GHX3 2
  have GHX3f2 : World.frozen? w3 ⟨w.heap.size, 2, none⟩ = false := Blk.free GHX3 2
  have GHX33 : World.cell? w3 ⟨w.heap.size, 3, none⟩ = some (.int .i64 q) := Blk.cell GHX3 3
  have GHX3f3 : World.frozen? w3 ⟨w.heap.size, 3, none⟩ = false := Blk.free GHX3 3
  have GHX34 : World.cell? w3 ⟨w.heap.size, 4, none⟩ = some (.slice A m c) := Blk.cell GHX3 4
  have GHX3f4 : World.frozen? w3 ⟨w.heap.size, 4, none⟩ = false := Blk.free GHX3 4
  clear GHX3
  have GHY3 := HY3.out
  have lGHY3 : w1.heap.size < w3.heap.size := GHY3.lt
  have GHY30 : World.cell? w3 ⟨w1.heap.size, 0, none⟩ = some (.int .i64 0) := Blk.cell GHY3 0
  have GHY3f0 : World.frozen? w3 ⟨w1.heap.size, 0, none⟩ = false := Blk.free GHY3 0
  have GHY31 : World.cell? w3 ⟨w1.heap.size, 1, none⟩ = some (.int .i64 0) := Blk.cell GHY3 1
  have GHY3f1 : World.frozen? w3 ⟨w1.heap.size, 1, none⟩ = false := Blk.free GHY3 1
  have GHY32 : World.cell? w3 ⟨w1.heap.size, 2, none⟩ = some (.slice none 0 0) := Blk.cell GHY3 2
  have GHY3f2 : World.frozen? w3 ⟨w1.heap.size, 2, none⟩ = false := Blk.free GHY3 2
  clear GHY3
  have GHV3 := HV3.out
  have lGHV3 : w2.heap.size < w3.heap.size := GHV3.lt
  have GHV30 : World.cell? w3 ⟨w2.heap.size, 0, none⟩ = some (.int .i64 0) := Blk.cell GHV3 0
  have GHV3f0 : World.frozen? w3 ⟨w2.heap.size, 0, none⟩ = false := Blk.free GHV3 0
  have GHV31 : World.cell? w3 ⟨w2.heap.size, 1, none⟩ = some (.int .i64 0) := Blk.cell GHV3 1
  have GHV3f1 : World.frozen? w3 ⟨w2.heap.size, 1, none⟩ = false := Blk.free GHV3 1
  have GHV32 : World.cell? w3 ⟨w2.heap.size, 2, none⟩ = some (.slice none 0 0) := Blk.cell GHV3 2
  have GHV3f2 : World.frozen? w3 ⟨w2.heap.size, 2, none⟩ = false := Blk.free GHV3 2
  clear GHV3
  go_wp2_with fail
  refine (count_nil _).mono ?_
  rintro e w' ⟨rfl, rfl⟩
  go_wp2_with fail
  have X3 := HX3.out
  have Y3 := HY3.out
  have V3 := HV3.out
  have B3 := HB3.out
  refine (same_zero _).mono ?_
  rintro e w4 ⟨rfl, hb⟩
  have HX4 : Aside0 (Blk w4 w.heap.size #[.int .i64 d, .int .i64 i, .int .i64 p, .int .i64 q, .slice A m c] 26) := ⟨(hb.block _ X3.lt).trans X3⟩
  have HY4 : Aside0 (Blk w4 w1.heap.size #[.int .i64 0, .int .i64 0, .slice none 0 0] 24) := ⟨(hb.block _ Y3.lt).trans Y3⟩
  have HV4 : Aside0 (Blk w4 w2.heap.size #[.int .i64 0, .int .i64 0, .slice none 0 0] 24) := ⟨(hb.block _ V3.lt).trans V3⟩
  have HB4 := Aside0.mk (below_then B3 B3.size hb)
  clear hb X3 Y3 V3 B3
  have GHX4 := HX4.out
  have lGHX4 : w.heap.size < w4.heap.size := GHX4.lt
  have GHX40 : World.cell? w4 ⟨w.heap.size, 0, none⟩ = some (.int .i64 d) := Blk.cell GHX4 0
  have GHX4f0 : World.frozen? w4 ⟨w.heap.size, 0, none⟩ = false := Blk.free GHX4 0
  have GHX41 : World.cell? w4 ⟨w.heap.size, 1, none⟩ = some (.int .i64 i) := Blk.cell GHX4 1
  have GHX4f1 : World.frozen? w4 ⟨w.heap.size, 1, none⟩ = false := Blk.free GHX4 1
  have GHX42 : World.cell? w4 ⟨w.heap.size, 2, none⟩ = some (.int .i64 p) := Blk.cell GHX4 2
  have GHX4f2 : World.frozen? w4 ⟨w.heap.size, 2, none⟩ = false := Blk.free GHX4 2
  have GHX43 : World.cell? w4 ⟨w.heap.size, 3, none⟩ = some (.int .i64 q) := Blk.cell GHX4 3
  have GHX4f3 : World.frozen? w4 ⟨w.heap.size, 3, none⟩ = false := Blk.free GHX4 3
  have GHX44 : World.cell? w4 ⟨w.heap.size, 4, none⟩ = some (.slice A m c) := Blk.cell GHX4 4
  have GHX4f4 : World.frozen? w4 ⟨w.heap.size, 4, none⟩ = false := Blk.free GHX4 4
  clear GHX4
  have GHY4 := HY4.out
  have lGHY4 : w1.heap.size < w4.heap.size := GHY4.lt
  have GHY40 : World.cell? w4 ⟨w1.heap.size, 0, none⟩ = some (.int .i64 0) := Blk.cell GHY4 0
  have GHY4f0 : World.frozen? w4 ⟨w1.heap.size, 0, none⟩ = false := Blk.free GHY4 0
  have GHY41 : World.cell? w4 ⟨w1.heap.size, 1, none⟩ = some (.int .i64 0) := Blk.cell GHY4 1
  have GHY4f1 : World.frozen? w4 ⟨w1.heap.size, 1, none⟩ = false := Blk.free GHY4 1
  have GHY42 : World.cell? w4 ⟨w1.heap.size, 2, none⟩ = some (.slice none 0 0) := Blk.cell GHY4 2
  have GHY4f2 : World.frozen? w4 ⟨w1.heap.size, 2, none⟩ = false := Blk.free GHY4 2
  clear GHY4
  have GHV4 := HV4.out
  have lGHV4 : w2.heap.size < w4.heap.size := GHV4.lt
  have GHV40 : World.cell? w4 ⟨w2.heap.size, 0, none⟩ = some (.int .i64 0) := Blk.cell GHV4 0
  have GHV4f0 : World.frozen? w4 ⟨w2.heap.size, 0, none⟩ = false := Blk.free GHV4 0
  have GHV41 : World.cell? w4 ⟨w2.heap.size, 1, none⟩ = some (.int .i64 0) := Blk.cell GHV4 1
  have GHV4f1 : World.frozen? w4 ⟨w2.heap.size, 1, none⟩ = false := Blk.free GHV4 1
  have GHV42 : World.cell? w4 ⟨w2.heap.size, 2, none⟩ = some (.slice none 0 0) := Blk.cell GHV4 2
  have GHV4f2 : World.frozen? w4 ⟨w2.heap.size, 2, none⟩ = false := Blk.free GHV4 2
  clear GHV4
  go_wp2_with fail
  have X4 := HX4.out
  have Y4 := HY4.out
  have V4 := HV4.out
  have B4 := HB4.out
  refine (same_zero _).mono ?_
  rintro e w5 ⟨rfl, hb⟩
  have HX5 : Aside0 (Blk w5 w.heap.size #[.int .i64 d, .int .i64 i, .int .i64 p, .int .i64 q, .slice A m c] 26) := ⟨(hb.block _ X4.lt).trans X4⟩
  have HY5 : Aside0 (Blk w5 w1.heap.size #[.int .i64 0, .int .i64 0, .slice none 0 0] 24) := ⟨(hb.block _ Y4.lt).trans Y4⟩
  have HV5 : Aside0 (Blk w5 w2.heap.size #[.int .i64 0, .int .i64 0, .slice none 0 0] 24) := ⟨(hb.block _ V4.lt).trans V4⟩
  have HB5 := Aside0.mk (below_then B4 B4.size hb)
  clear hb X4 Y4 V4 B4
  have GHX5 := HX5.out
  have lGHX5 : w.heap.size < w5.heap.size := GHX5.lt
  have GHX50 : World.cell? w5 ⟨w.heap.size, 0, none⟩ = some (.int .i64 d) := Blk.cell GHX5 0
  have GHX5f0 : World.frozen? w5 ⟨w.heap.size, 0, none⟩ = false := Blk.free GHX5 0
  have GHX51 : World.cell? w5 ⟨w.heap.size, 1, none⟩ = some (.int .i64 i) := Blk.cell GHX5 1
  have GHX5f1 : World.frozen? w5 ⟨w.heap.size, 1, none⟩ = false := Blk.free GHX5 1
  have GHX52 : World.cell? w5 ⟨w.heap.size, 2, none⟩ = some (.int .i64 p) := Blk.cell GHX5 2
  have GHX5f2 : World.frozen? w5 ⟨w.heap.size, 2, none⟩ = false := Blk.free GHX5 2
  have GHX53 : World.cell? w5 ⟨w.heap.size, 3, none⟩ = some (.int .i64 q) := Blk.cell GHX5 3
  have GHX5f3 : World.frozen? w5 ⟨w.heap.size, 3, none⟩ = false := Blk.free GHX5 3
  have GHX54 : World.cell? w5 ⟨w.heap.size, 4, none⟩ = some (.slice A m c) := Blk.cell GHX5 4
  have GHX5f4 : World.frozen? w5 ⟨w.heap.size, 4, none⟩ = false := Blk.free GHX5 4
  clear GHX5
  have GHY5 := HY5.out
  have lGHY5 : w1.heap.size < w5.heap.size := GHY5.lt
  have GHY50 : World.cell? w5 ⟨w1.heap.size, 0, none⟩ = some (.int .i64 0) := Blk.cell GHY5 0
  have GHY5f0 : World.frozen? w5 ⟨w1.heap.size, 0, none⟩ = false := Blk.free GHY5 0
  have GHY51 : World.cell? w5 ⟨w1.heap.size, 1, none⟩ = some (.int .i64 0) := Blk.cell GHY5 1
  have GHY5f1 : World.frozen? w5 ⟨w1.heap.size, 1, none⟩ = false := Blk.free GHY5 1
  have GHY52 : World.cell? w5 ⟨w1.heap.size, 2, none⟩ = some (.slice none 0 0) := Blk.cell GHY5 2
  have GHY5f2 : World.frozen? w5 ⟨w1.heap.size, 2, none⟩ = false := Blk.free GHY5 2
  clear GHY5
  have GHV5 := HV5.out
  have lGHV5 : w2.heap.size < w5.heap.size := GHV5.lt
  have GHV50 : World.cell? w5 ⟨w2.heap.size, 0, none⟩ = some (.int .i64 0) := Blk.cell GHV5 0
  have GHV5f0 : World.frozen? w5 ⟨w2.heap.size, 0, none⟩ = false := Blk.free GHV5 0
  have GHV51 : World.cell? w5 ⟨w2.heap.size, 1, none⟩ = some (.int .i64 0) := Blk.cell GHV5 1
  have GHV5f1 : World.frozen? w5 ⟨w2.heap.size, 1, none⟩ = false := Blk.free GHV5 1
  have GHV52 : World.cell? w5 ⟨w2.heap.size, 2, none⟩ = some (.slice none 0 0) := Blk.cell GHV5 2
  have GHV5f2 : World.frozen? w5 ⟨w2.heap.size, 2, none⟩ = false := Blk.free GHV5 2
  clear GHV5
  go_wp2_with fail
  refine (lose_nil i _).mono ?_
  rintro e w' ⟨rfl, rfl⟩
  go_wp2_with fail
  have X5 := HX5.out
  have Y5 := HY5.out
  have V5 := HV5.out
  have B5 := HB5.out
  refine (double_nil i _).mono ?_
  rintro e w6 ⟨rfl, hb⟩
  have HX6 : Aside0 (Blk w6 w.heap.size #[.int .i64 d, .int .i64 i, .int .i64 p, .int .i64 q, .slice A m c] 26) := ⟨(hb.block _ X5.lt).trans X5⟩
  have HY6 : Aside0 (Blk w6 w1.heap.size #[.int .i64 0, .int .i64 0, .slice none 0 0] 24) := ⟨(hb.block _ Y5.lt).trans Y5⟩
  have HV6 : Aside0 (Blk w6 w2.heap.size #[.int .i64 0, .int .i64 0, .slice none 0 0] 24) := ⟨(hb.block _ V5.lt).trans V5⟩
  have HB6 := Aside0.mk (below_then B5 B5.size hb)
  clear hb X5 Y5 V5 B5
  have GHX6 := HX6.out
  have lGHX6 : w.heap.size < w6.heap.size := GHX6.lt
  have GHX60 : World.cell? w6 ⟨w.heap.size, 0, none⟩ = some (.int .i64 d) := Blk.cell GHX6 0
  have GHX6f0 : World.frozen? w6 ⟨w.heap.size, 0, none⟩ = false := Blk.free GHX6 0
  have GHX61 : World.cell? w6 ⟨w.heap.size, 1, none⟩ = some (.int .i64 i) := Blk.cell GHX6 1
  have GHX6f1 : World.frozen? w6 ⟨w.heap.size, 1, none⟩ = false := Blk.free GHX6 1
  have GHX62 : World.cell? w6 ⟨w.heap.size, 2, none⟩ = some (.int .i64 p) := Blk.cell GHX6 2
  have GHX6f2 : World.frozen? w6 ⟨w.heap.size, 2, none⟩ = false := Blk.free GHX6 2
  have GHX63 : World.cell? w6 ⟨w.heap.size, 3, none⟩ = some (.int .i64 q) := Blk.cell GHX6 3
  have GHX6f3 : World.frozen? w6 ⟨w.heap.size, 3, none⟩ = false := Blk.free GHX6 3
  have GHX64 : World.cell? w6 ⟨w.heap.size, 4, none⟩ = some (.slice A m c) := Blk.cell GHX6 4
  have GHX6f4 : World.frozen? w6 ⟨w.heap.size, 4, none⟩ = false := Blk.free GHX6 4
  clear GHX6
  have GHY6 := HY6.out
  have lGHY6 : w1.heap.size < w6.heap.size := GHY6.lt
  have GHY60 : World.cell? w6 ⟨w1.heap.size, 0, none⟩ = some (.int .i64 0) := Blk.cell GHY6 0
  have GHY6f0 : World.frozen? w6 ⟨w1.heap.size, 0, none⟩ = false := Blk.free GHY6 0
  have GHY61 : World.cell? w6 ⟨w1.heap.size, 1, none⟩ = some (.int .i64 0) := Blk.cell GHY6 1
  have GHY6f1 : World.frozen? w6 ⟨w1.heap.size, 1, none⟩ = false := Blk.free GHY6 1
  have GHY62 : World.cell? w6 ⟨w1.heap.size, 2, none⟩ = some (.slice none 0 0) := Blk.cell GHY6 2
  have GHY6f2 : World.frozen? w6 ⟨w1.heap.size, 2, none⟩ = false := Blk.free GHY6 2
  clear GHY6
  have GHV6 := HV6.out
  have lGHV6 : w2.heap.size < w6.heap.size := GHV6.lt
  have GHV60 : World.cell? w6 ⟨w2.heap.size, 0, none⟩ = some (.int .i64 0) := Blk.cell GHV6 0
  have GHV6f0 : World.frozen? w6 ⟨w2.heap.size, 0, none⟩ = false := Blk.free GHV6 0
  have GHV61 : World.cell? w6 ⟨w2.heap.size, 1, none⟩ = some (.int .i64 0) := Blk.cell GHV6 1
  have GHV6f1 : World.frozen? w6 ⟨w2.heap.size, 1, none⟩ = false := Blk.free GHV6 1
  have GHV62 : World.cell? w6 ⟨w2.heap.size, 2, none⟩ = some (.slice none 0 0) := Blk.cell GHV6 2
  have GHV6f2 : World.frozen? w6 ⟨w2.heap.size, 2, none⟩ = false := Blk.free GHV6 2
  clear GHV6
  go_wp2_with fail
  refine (hold_nil i _).mono ?_
  rintro e w' ⟨rfl, rfl⟩
  go_wp2_with fail
  refine (cut_nil p q true _).mono ?_
  rintro e w' ⟨rfl, rfl⟩
  go_wp2_with fail
  refine (is_nil p q _).mono ?_
  rintro e w' ⟨rfl, rfl⟩
  go_wp2_with fail
  refine (wakes_any _).mono ?_
  rintro e w7 ⟨rfl, hb⟩
  have HB7 := Aside0.mk (below_then HB6.out HB6.out.size hb)
  clear hb
  go_wp2_with fail
  go_ret
  exact ⟨rfl, HB7.out⟩
end Go.Proofs.Ytikfelmmelkioaa.Mine
