/- wire: the law's wakes. -/
import Derived.Test.YtmjbdeoomohanaaWireT
import Derived.Lib.Bytes
set_option linter.unusedSimpArgs false
set_option linter.unusedVariables false
namespace Go.Proofs.Ytmjbdeoomohanaa.Mine
open Go.RowKit Go.Maps Go.Proofs.YtmjbdeoomohanaaW.PrintWords Go.Proofs.YtmjbdeoomohanaaW.PrintLast Go.Proofs.YtmjbdeoomohanaaW.PrintMore Go.Proofs.Ytmjbdeoomohanaa.PWirePacks Go.Proofs.Ytmjbdeoomohanaa.Turn

def wm1 : Msg := ⟨14, 0, 0, 0, 0, [], 0, 0, [], 1, 0, 2, 3, []⟩
def wm2 : Msg := ⟨3, 0, 0, 1, 0, [], 0, 0, [], 0, 0, 0, 0, []⟩
theorem wm1_rg : RgM wm1 := by
  constructor <;> simp [wm1]
theorem wm2_rg : RgM wm2 := by
  constructor <;> simp [wm2]
theorem wm1_good : GoodM wm1 := (chk_good wm1).1 (by decide)
theorem wm2_chk : chk wm2 = 6 := by decide
def wl : List Int := [14, 0, 0, 0, 0, 0, 0, 0, 1, 0, 0, 0, 2, 0, 3]
theorem wm1_enc : enc wm1 = wl := by decide
theorem wm1_all : allS (.W [wm1.ty]) wm1 = .ok (wm1, .W wl) := by rw [← wm1_enc]; exact pack_all wm1_good wm1_rg
theorem wl_parse : parseS wl = .ok wm1 := by
  have := parse_back wm1_good wm1_rg []
  rw [List.append_nil, wm1_enc] at this
  rw [this]
  rfl
theorem no_parse : parseS [0] = .error 1 := rfl
theorem wm_arg (w : World) (ok : Nat → Prop) (m : Msg) (h1 : m.log = []) (h2 : m.body = []) (h3 : m.blocks = []) : ArgF w ok m (mcells m none 0 none 0 none 0) :=
  ⟨none, 0, none, 0, none, 0, rfl, by simp [h1], by simp [h2], by simp [h3], by rw [h1]; exact Kd.F_nil _ _ _, by rw [h2]; exact Kd.F_nil _ _ _, by rw [h3]; exact Kd.F_nil _ _ _⟩

set_option maxHeartbeats 4000000 in
theorem wakes_any (w : World) : Calls Try.prog 9 #[] w fun e w' => e = .returned (.bool true) ∧ Below w.heap.size w w' := by
  have HP := Aside0.mk (fun W : World => pack_yes (wm_arg W (fun k => k < W.heap.size) wm1 rfl rfl rfl) wm1_rg wm1_good wm1_all)
  have HK := Aside0.mk (fun W : World => check_any wm2 none 0 none 0 none 0 W (by decide) (by decide) (by decide) (Kd.C_nil _ _) (by decide) (by decide) (Kd.C_nil _ _))
  rw [wm2_chk] at HK
  simp only [mcells, wm1] at HP
  simp only [mcells, wm2] at HK
  go_enter Try.func9, Try.ntmps9
  go_wp2_with fail
  refine (HP.out _).mono ?_
  rintro e w1 ⟨A, c, rfl, hc, hF, hb⟩
  have HB1 := Aside0.mk hb
  have HPA := Aside0.mk (parse_any (w := w1) (A := A) (c := c) (l := wl) hc (by decide) (by decide) (Kd.F_now hF))
  rw [wl_parse] at HPA
  have HC1 := Aside0.mk (Kd.F_now hF)
  have hcl : wl.length = 15 := rfl
  clear hc hF hb HP
  go_wp2_with fail
  refine HPA.out.mono ?_
  rintro e w2 ⟨hb2, cs, rfl, hm⟩
  have HB2 := Aside0.mk (below_step HB1.out hb2)
  have HC2 := Aside0.mk (Kd.C_below HC1.out hb2)
  obtain ⟨A5, c5, A8, c8, A13, c13, rfl, -⟩ := hm
  simp only [mcells, wm1, List.length_nil]
  clear hb2 HPA HC1
  go_wp2_with fail
  have HB3 := Aside0.mk (below_alloc (below_alloc HB2.out (.cells #[.int .u8 14, .int .u64 0, .int .u64 0, .int .i64 0, .int .i64 0, .slice A5 0 c5, .int .u64 0, .int .u64 0, .slice A8 0 c8, .int .u64 1, .int .u8 0, .int .u32 2, .int .i64 3, .slice A13 0 c13] 29)) (.cells #[.int .u8 0] 5))
  have hro := (Kd.R_reads' (R_one (w2.alloc (.cells #[.int .u8 14, .int .u64 0, .int .u64 0, .int .i64 0, .int .i64 0, .slice A5 0 c5, .int .u64 0, .int .u64 0, .slice A8 0 c8, .int .u64 1, .int .u8 0, .int .u32 2, .int .i64 3, .slice A13 0 c13] 29)) (Nat.zero_le _) 0)).2.2
  rw [show (w2.alloc (.cells #[.int .u8 14, .int .u64 0, .int .u64 0, .int .i64 0, .int .i64 0, .slice A5 0 c5, .int .u64 0, .int .u64 0, .slice A8 0 c8, .int .u64 1, .int .u8 0, .int .u32 2, .int .i64 3, .slice A13 0 c13] 29)).heap.size = w2.heap.size + 1 by simp] at hro
  have HM : Aside0 (Blk ((w2.alloc (.cells #[.int .u8 14, .int .u64 0, .int .u64 0, .int .i64 0, .int .i64 0, .slice A5 0 c5, .int .u64 0, .int .u64 0, .slice A8 0 c8, .int .u64 1, .int .u8 0, .int .u32 2, .int .i64 3, .slice A13 0 c13] 29)).alloc (.cells #[.int .u8 0] 5)) w2.heap.size #[.int .u8 14, .int .u64 0, .int .u64 0, .int .i64 0, .int .i64 0, .slice A5 0 c5, .int .u64 0, .int .u64 0, .slice A8 0 c8, .int .u64 1, .int .u8 0, .int .u32 2, .int .i64 3, .slice A13 0 c13] 29) := ⟨(Blk.new w2 _ 29).alloc _⟩
  have HC3 := Aside0.mk (Kd.C_alloc (Kd.C_alloc HC2.out (.cells #[.int .u8 14, .int .u64 0, .int .u64 0, .int .i64 0, .int .i64 0, .slice A5 0 c5, .int .u64 0, .int .u64 0, .slice A8 0 c8, .int .u64 1, .int .u8 0, .int .u32 2, .int .i64 3, .slice A13 0 c13] 29)) (.cells #[.int .u8 0] 5))
  refine (parse_any (l := [0]) (c := 1) (Nat.le_refl 1) (by decide) (by decide) hro).mono ?_
  rw [no_parse]
  rintro e w3 ⟨hb3, cs, rfl, hm⟩
  have HB4 := Aside0.mk (below_step HB3.out hb3)
  have HC4 := Aside0.mk (Kd.C_below HC3.out hb3)
  have hm3 : Blk w3 w2.heap.size _ 29 := (hb3.block _ HM.out.lt).trans HM.out
  have p11 : w3.cell? ⟨w2.heap.size, 11, none⟩ = some (.int .u32 2) := (hm3.cell 11).trans rfl
  have p12 : w3.cell? ⟨w2.heap.size, 12, none⟩ = some (.int .i64 3) := (hm3.cell 12).trans rfl
  have hlt := hm3.lt
  obtain ⟨B5, d5, B8, d8, B13, d13, rfl, -⟩ := hm
  simp only [mcells, zM, List.length_nil]
  have hcv := fun o => Kd.C_string (P := Try.prog) (A := A) (c := c) Try.underlying24 Try.underlying5 Try.underlying9 (Kd.C_alloc HC4.out o)
  rw [hcl] at hcv
  have hsq : (strOfNums wl).toList = [14, 0, 0, 0, 0, 0, 0, 0, 1, 0, 0, 0, 2, 0, 3] := by
    rw [Lib.strOfNums_toList]
    decide
  clear hb3 hm3 hro
  go_wp2_with fail
  refine (HK.out _).mono ?_
  rintro e w4 ⟨rfl, hb4⟩
  have HB5 := Aside0.mk (below_step (below_alloc HB4.out _) hb4)
  clear hb4
  go_wp2_with fail
  go_ret
  exact ⟨rfl, HB5.out⟩
end Go.Proofs.Ytmjbdeoomohanaa.Mine
