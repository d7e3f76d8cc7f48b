/- pax: lay, Record. -/
import Derived.Test.YtbidbjgklonbpaaDoorPaxB
set_option linter.unusedSimpArgs false
set_option linter.unusedVariables false
namespace Go.Proofs.YtbidbjgklonbpaaDoor.Mine
open Go.RowKit Go.Maps Go.Proofs.YtbidbjgklonbpaaDoorW.PrintWords Go.Proofs.YtbidbjgklonbpaaDoorW.PrintLast Go.Proofs.YtbidbjgklonbpaaDoorW.PrintMore Go.Proofs.YtbidbjgklonbpaaDoor.Turn Go.Proofs.YtbidbjgklonbpaaDoor.PPaxGets

/-- A row of bytes that the call has made. -/
def Own (w : World) (B : Nat) (v : Value) (l : List Int) : Prop := w.ownsRow B 5 1 v l.length (nums .u8 l)
theorem Own.nil (w : World) (B : Nat) : Own w B (.slice none 0 0) [] := own_nil _ _ _ _
theorem Own.below {w w' : World} {B : Nat} {v : Value} {l : List Int} (h : Own w B v l) (hb : Below w.heap.size w w') : Own w' B v l := pw_own_below h hb
theorem Own.type_ne {w : World} {B b t : Nat} {v : Value} {l : List Int} {cs : Array Value} (h : Own w B v l) (hx : Blk w b cs t) (ht : t ≠ 5) : some b ≠ v.ownBlock := fun e => by
  obtain ⟨cells, hc⟩ := own_typed h b e.symm
  have := hx.symm.trans hc
  simp only [Option.some.injEq, Obj.cells.injEq] at this
  exact ht this.2.1
def TabB (B : Nat) (w : World) : Prop := Lib.TabBelow Tryd.prog B w "internal/strconv.uint64pow10" .u64 Lib.pow10Tab
theorem Tab.b {w : World} (h : Tab w) : TabB w.heap.size w := Lib.tabBelow_of_tabIs h
theorem TabB.on {B : Nat} {w w' : World} (h : TabB B w) (hb : Below B w w') : TabB B w' := Lib.TabBelow.on h hb
theorem TabB.tab {B : Nat} {w : World} (h : TabB B w) : Tab w := Lib.TabBelow.here h
/-- A number's digits, as bytes. -/
def decL (n : Nat) : List Int := (Lib.decDigits n).map fun b => (b.toNat : Int)
theorem decL_length (n : Nat) : (decL n).length = Lib.nDigits n := by rw [decL, List.length_map, Lib.decDigits_length]
/-- A record's bytes. -/
def recL (k v : ByteArray) (d : Nat) : List Int := decL (3 + k.size + v.size + d) ++ [32] ++ bytesOf k ++ [61] ++ bytesOf v ++ [10]
theorem recL_length {k v : ByteArray} {d : Nat} (hd : SizeIs (3 + k.size + v.size) d) : (recL k v d).length = 3 + k.size + v.size + d := by
  unfold recL
  simp only [List.length_append, List.length_cons, List.length_nil, bytesOf_length, decL_length, hd.2.2.1]
  omega
theorem nums_dec (n : Nat) : Lib.byteCells (Lib.decDigits n) = nums .u8 (decL n) := by simp [Lib.byteCells, nums, decL]

set_option maxHeartbeats 4000000 in
set_option maxRecDepth 100000 in
theorem lay_any {B : Nat} {v : Value} {l : List Int} (k val : ByteArray) (hk : k.size ≤ 140737488351232) (hv : val.size ≤ 140737488351232) (hfit : l.length + k.size + val.size + 100 ≤ 140737488355328) {d : Nat} (hd : SizeIs (3 + k.size + val.size) d) (w : World) (ht : TabB B w) (hB : B ≤ w.heap.size) (ho : Own w B v l) :
    Calls Tryd.prog 32 #[v, .agg #[.string k, .string val]] w fun e w' => ∃ v', e = .returned v' ∧ Own w' B v' (l ++ recL k val d) ∧ Below B w w' := by
  have hb0 := (below_alloc (Below.refl w.heap.size w) (.cells #[.string k, .string val] 23)).mono hB
  have HB0 := Aside0.mk hb0
  have HD := Aside0.mk hd
  have hd2 := hd.2.1
  have hx0 := Blk.new w #[.string k, .string val] 23
  have HX0 := Aside0.mk hx0
  have HT0 := Aside0.mk (ht.on hb0)
  have HO0 := Aside0.mk (ho.below (below_alloc (Below.refl _ w) (.cells #[.string k, .string val] 23)))
  have hsz0 : (w.alloc (.cells #[.string k, .string val] 23)).heap.size = w.heap.size + 1 := by simp
  have HSZ0 := Aside0.mk hsz0
  clear ho ht hb0 hx0 hsz0 hd
  go_enter Tryd.func32, Tryd.ntmps32
  go_wp2_with fail
  refine (size_any k val hk hv HD.out _ HT0.out.tab).mono ?_
  rintro e w1 ⟨rfl, hb1⟩
  have hB0 : B ≤ (w.alloc (.cells #[.string k, .string val] 23)).heap.size := by rw [HSZ0.out]; omega
  have HB1 := Aside0.mk (HB0.out.trans (hb1.mono hB0))
  have HT1 := Aside0.mk (HT0.out.on (hb1.mono hB0))
  have HO1 := Aside0.mk (HO0.out.below hb1)
  have HX1 : Aside0 (Blk w1 w.heap.size #[.string k, .string val] 23) := ⟨(hb1.block _ HX0.out.lt).trans HX0.out⟩
  have hB1 : B ≤ w1.heap.size := Nat.le_trans hB0 hb1.size
  clear hb1 hB0
  go_wp2_with fail
  refine (Tryd.strconv_AppendInt_10 B l.length _ (by omega) (by omega) v (nums .u8 l) w1 HO1.out hB1 (by omega) HT1.out).mono ?_
  rintro e w2 ⟨v2, rfl, ho2, hb2, hk2⟩
  have hit : Lib.itoa (3 + (k.size : Int) + (val.size : Int) + (d : Int)) = Lib.decDigits (3 + k.size + val.size + d) := by
    rw [show (3 + (k.size : Int) + (val.size : Int) + (d : Int)) = ((3 + k.size + val.size + d : Nat) : Int) by omega, Lib.itoa_nonneg]
  rw [hit, nums_dec, ← nums_append, Lib.decDigits_length, ← decL_length, ← List.length_append] at ho2
  have HO2 : Aside0 (Own w2 B v2 (l ++ decL (3 + k.size + val.size + d))) := ⟨ho2⟩
  have HX2 : Aside0 (Blk w2 w.heap.size #[.string k, .string val] 23) := ⟨hk2 _ _ HX1.out (by simp) (fun c fz e => by cases e)⟩
  have HB2 := Aside0.mk (HB1.out.trans hb2)
  have hB2 : B ≤ w2.heap.size := Nat.le_trans hB1 hb2.size
  have hx2 := HX2.out
  have hx20 : World.cell? w2 ⟨w.heap.size, 0, none⟩ = some (.string k) := Blk.cell hx2 0
  have hx21 : World.cell? w2 ⟨w.heap.size, 1, none⟩ = some (.string val) := Blk.cell hx2 1
  have hxl2 := hx2.lt
  have HREC : Aside0 (l ++ recL k val d = l ++ decL (3 + k.size + val.size + d) ++ [32] ++ bytesOf k ++ [61] ++ bytesOf val ++ [10]) := ⟨by unfold recL; simp only [List.append_assoc]⟩
  have hl1 : (l ++ decL (3 + k.size + val.size + d)).length ≤ l.length + 20 + (0) := by
    rw [List.length_append, decL_length, HD.out.2.2.1]
    omega
  obtain ⟨L1, hL1⟩ : ∃ L1, l ++ decL (3 + k.size + val.size + d) = L1 := ⟨_, rfl⟩
  rw [hL1] at HO2 hl1 HREC
  have HL1 := Aside0.mk hl1
  clear ho2 hb2 hk2 hit hx2 hL1 hl1
  go_wp2_with (first
    | ((with_reducible refine gate_dst (N := 11) rfl ?_); at_builtin; refine print_append_num (w0 := w2) B rfl (.tmp 9) (.tmp 10) 24 5 .u8 1 rfl Tryd.underlying24 info5 (by decide) v2 L1 32 rfl rfl HO2.out (Below.refl _ _) hB2 ?hl ?_; (case hl => (have := HL1.out; omega)); intro v3 w3 ho hb hg hat; obtain ⟨L2, hL2⟩ : ∃ L2, L1 ++ [32] = L2 := ⟨_, rfl⟩; rw [hL2] at ho; have HE2 := Aside0.mk hL2; have HL2 : Aside0 (L2.length ≤ l.length + 20 + (1)) := ⟨by have := HL1.out; rw [← hL2]; simp only [List.length_append, List.length_cons, List.length_nil, bytesOf_length]; omega⟩; clear hL2; have HO3 : Aside0 (Own w3 B v3 L2) := ⟨ho⟩; have HB3 := Aside0.mk (HB2.out.trans hb); have HX3 : Aside0 (Blk w3 w.heap.size #[.string k, .string val] 23) := ⟨(hg.block _ HX2.out.lt (fun e => HO2.out.type_ne HX2.out (by decide) e)).trans HX2.out⟩; have hB3 : B ≤ w3.heap.size := Nat.le_trans hB2 hb.size; have hc30 : World.cell? w3 ⟨w.heap.size, 0, none⟩ = some (.string k) := (HX3.out.cell 0).trans rfl; have hc31 : World.cell? w3 ⟨w.heap.size, 1, none⟩ = some (.string val) := (HX3.out.cell 1).trans rfl; have hxl3 := HX3.out.lt; clear ho hb hg hat)
    | ((with_reducible refine gate_dst (N := 15) rfl ?_); at_builtin; refine print_append_str (w0 := w3) B rfl (.tmp 12) (.tmp 14) 24 9 5 rfl Tryd.underlying24 Tryd.underlying9 info5 v3 L2 k rfl rfl HO3.out (Below.refl _ _) hB3 ?hl ?_; (case hl => (have := HL2.out; omega)); intro v4 w4 ho hb hg; obtain ⟨L3, hL3⟩ : ∃ L3, L2 ++ bytesOf k = L3 := ⟨_, rfl⟩; rw [hL3] at ho; have HE3 := Aside0.mk hL3; have HL3 : Aside0 (L3.length ≤ l.length + 20 + (1 + k.size)) := ⟨by have := HL2.out; rw [← hL3]; simp only [List.length_append, List.length_cons, List.length_nil, bytesOf_length]; omega⟩; clear hL3; have HO4 : Aside0 (Own w4 B v4 L3) := ⟨ho⟩; have HB4 := Aside0.mk (HB3.out.trans hb); have HX4 : Aside0 (Blk w4 w.heap.size #[.string k, .string val] 23) := ⟨(hg.block _ HX3.out.lt (fun e => HO3.out.type_ne HX3.out (by decide) e)).trans HX3.out⟩; have hB4 : B ≤ w4.heap.size := Nat.le_trans hB3 hb.size; have hc40 : World.cell? w4 ⟨w.heap.size, 0, none⟩ = some (.string k) := (HX4.out.cell 0).trans rfl; have hc41 : World.cell? w4 ⟨w.heap.size, 1, none⟩ = some (.string val) := (HX4.out.cell 1).trans rfl; have hxl4 := HX4.out.lt; clear ho hb hg)
    | ((with_reducible refine gate_dst (N := 18) rfl ?_); at_builtin; refine print_append_num (w0 := w4) B rfl (.tmp 16) (.tmp 17) 24 5 .u8 1 rfl Tryd.underlying24 info5 (by decide) v4 L3 61 rfl rfl HO4.out (Below.refl _ _) hB4 ?hl ?_; (case hl => (have := HL3.out; omega)); intro v5 w5 ho hb hg hat; obtain ⟨L4, hL4⟩ : ∃ L4, L3 ++ [61] = L4 := ⟨_, rfl⟩; rw [hL4] at ho; have HE4 := Aside0.mk hL4; have HL4 : Aside0 (L4.length ≤ l.length + 20 + (1 + k.size + 1)) := ⟨by have := HL3.out; rw [← hL4]; simp only [List.length_append, List.length_cons, List.length_nil, bytesOf_length]; omega⟩; clear hL4; have HO5 : Aside0 (Own w5 B v5 L4) := ⟨ho⟩; have HB5 := Aside0.mk (HB4.out.trans hb); have HX5 : Aside0 (Blk w5 w.heap.size #[.string k, .string val] 23) := ⟨(hg.block _ HX4.out.lt (fun e => HO4.out.type_ne HX4.out (by decide) e)).trans HX4.out⟩; have hB5 : B ≤ w5.heap.size := Nat.le_trans hB4 hb.size; have hc50 : World.cell? w5 ⟨w.heap.size, 0, none⟩ = some (.string k) := (HX5.out.cell 0).trans rfl; have hc51 : World.cell? w5 ⟨w.heap.size, 1, none⟩ = some (.string val) := (HX5.out.cell 1).trans rfl; have hxl5 := HX5.out.lt; clear ho hb hg hat)
    | ((with_reducible refine gate_dst (N := 22) rfl ?_); at_builtin; refine print_append_str (w0 := w5) B rfl (.tmp 19) (.tmp 21) 24 9 5 rfl Tryd.underlying24 Tryd.underlying9 info5 v5 L4 val rfl rfl HO5.out (Below.refl _ _) hB5 ?hl ?_; (case hl => (have := HL4.out; omega)); intro v6 w6 ho hb hg; obtain ⟨L5, hL5⟩ : ∃ L5, L4 ++ bytesOf val = L5 := ⟨_, rfl⟩; rw [hL5] at ho; have HE5 := Aside0.mk hL5; have HL5 : Aside0 (L5.length ≤ l.length + 20 + (1 + k.size + 1 + val.size)) := ⟨by have := HL4.out; rw [← hL5]; simp only [List.length_append, List.length_cons, List.length_nil, bytesOf_length]; omega⟩; clear hL5; have HO6 : Aside0 (Own w6 B v6 L5) := ⟨ho⟩; have HB6 := Aside0.mk (HB5.out.trans hb); have HX6 : Aside0 (Blk w6 w.heap.size #[.string k, .string val] 23) := ⟨(hg.block _ HX5.out.lt (fun e => HO5.out.type_ne HX5.out (by decide) e)).trans HX5.out⟩; have hB6 : B ≤ w6.heap.size := Nat.le_trans hB5 hb.size; have hc60 : World.cell? w6 ⟨w.heap.size, 0, none⟩ = some (.string k) := (HX6.out.cell 0).trans rfl; have hc61 : World.cell? w6 ⟨w.heap.size, 1, none⟩ = some (.string val) := (HX6.out.cell 1).trans rfl; have hxl6 := HX6.out.lt; clear ho hb hg)
    | ((with_reducible refine gate_dst (N := 25) rfl ?_); at_builtin; refine print_append_num (w0 := w6) B rfl (.tmp 23) (.tmp 24) 24 5 .u8 1 rfl Tryd.underlying24 info5 (by decide) v6 L5 10 rfl rfl HO6.out (Below.refl _ _) hB6 ?hl ?_; (case hl => (have := HL5.out; omega)); intro v7 w7 ho hb hg hat; obtain ⟨L6, hL6⟩ : ∃ L6, L5 ++ [10] = L6 := ⟨_, rfl⟩; rw [hL6] at ho; have HE6 := Aside0.mk hL6; have HL6 : Aside0 (L6.length ≤ l.length + 20 + (1 + k.size + 1 + val.size + 1)) := ⟨by have := HL5.out; rw [← hL6]; simp only [List.length_append, List.length_cons, List.length_nil, bytesOf_length]; omega⟩; clear hL6; have HO7 : Aside0 (Own w7 B v7 L6) := ⟨ho⟩; have HB7 := Aside0.mk (HB6.out.trans hb); have HX7 : Aside0 (Blk w7 w.heap.size #[.string k, .string val] 23) := ⟨(hg.block _ HX6.out.lt (fun e => HO6.out.type_ne HX6.out (by decide) e)).trans HX6.out⟩; have hB7 : B ≤ w7.heap.size := Nat.le_trans hB6 hb.size; have hc70 : World.cell? w7 ⟨w.heap.size, 0, none⟩ = some (.string k) := (HX7.out.cell 0).trans rfl; have hc71 : World.cell? w7 ⟨w.heap.size, 1, none⟩ = some (.string val) := (HX7.out.cell 1).trans rfl; have hxl7 := HX7.out.lt; clear ho hb hg hat))
  go_ret
  refine ⟨_, rfl, ?_, HB7.out⟩
  rw [HREC.out, HE2.out, HE3.out, HE4.out, HE5.out, HE6.out]
  exact HO7.out
end Go.Proofs.YtbidbjgklonbpaaDoor.Mine
