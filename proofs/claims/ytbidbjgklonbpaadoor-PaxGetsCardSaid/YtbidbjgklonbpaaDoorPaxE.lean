/- pax: PaxRecords. -/
import Derived.Test.YtbidbjgklonbpaaDoorPaxD
set_option linter.unusedSimpArgs false
set_option linter.unusedVariables false
namespace Go.Proofs.YtbidbjgklonbpaaDoor.Mine
open Go.RowKit Go.Maps Go.Proofs.YtbidbjgklonbpaaDoorW.PrintWords Go.Proofs.YtbidbjgklonbpaaDoorW.PrintLast Go.Proofs.YtbidbjgklonbpaaDoorW.PrintMore Go.Proofs.YtbidbjgklonbpaaDoor.Turn Go.Proofs.YtbidbjgklonbpaaDoor.PPaxGets

theorem bytes_l0 (a b : List Int) (hl : a.length = b.length) (hn : a.length ≤ 9223372036854775806) : ∀ (m i : Nat), i + m = a.length → a.take i = b.take i → tabularylaw09_bytes.l0 (m + 1) a b i = some (decide (a = b))
  | 0, i, h, ht => by
    rw [tabularylaw09_bytes.l0.eq_2, if_neg (by omega)]
    rw [List.take_of_length_le (by omega), List.take_of_length_le (by omega)] at ht
    rw [decide_eq_true ht]
  | m + 1, i, h, ht => by
    have hi : i < a.length := by omega
    rw [tabularylaw09_bytes.l0.eq_2, if_pos (by omega), if_pos (by omega), if_pos (by omega)]
    have ra : rd a (i : Int) = a[i] := by unfold rd; rw [Int.toNat_natCast, List.getD_eq_getElem?_getD, List.getElem?_eq_getElem hi]; rfl
    have rb : rd b (i : Int) = b[i]'(by omega) := by unfold rd; rw [Int.toNat_natCast, List.getD_eq_getElem?_getD, List.getElem?_eq_getElem (by omega)]; rfl
    rw [ra, rb]
    by_cases he : a[i] = b[i]'(by omega)
    · rw [if_pos he, wrap_id (by omega) (by omega), show (i : Int) + 1 = ((i + 1 : Nat) : Int) by omega]
      exact bytes_l0 a b hl hn m (i + 1) (by omega) (by rw [List.take_succ_eq_append_getElem hi, List.take_succ_eq_append_getElem (by omega), ht, he])
    · rw [if_neg he, decide_eq_false (fun e => he (by subst e; rfl))]
theorem bytes_f (a b : List Int) (hn : a.length ≤ 9223372036854775806) : tabularylaw09_bytes.f (a.length + 1) a b = some (decide (a = b)) := by
  unfold tabularylaw09_bytes.f
  by_cases hl : a.length = b.length
  · rw [if_pos (by omega)]
    exact bytes_l0 a b hl hn a.length 0 (by omega) rfl
  · rw [if_neg (by omega), decide_eq_false (fun e => hl (by rw [e]))]
theorem bytes_any (A0 : Option Addr) (c0 : Nat) (l0 : List Int) (A1 : Option Addr) (c1 : Nat) (l1 : List Int) (w : World) (hn : l0.length ≤ 9223372036854775806) (hr0 : Kd.C (Kd.int .u8) w A0 l0.length l0) (hc0 : l0.length ≤ c0) (hr1 : Kd.C (Kd.int .u8) w A1 l1.length l1) (hc1 : l1.length ≤ c1) :
    Calls Tryd.prog 16 #[.slice A0 l0.length c0, .slice A1 l1.length c1] w fun e w' => e = .returned (.bool (decide (l0 = l1))) ∧ Below w.heap.size w w' :=
  (tabularylaw09_bytes.calls _ A0 c0 l0 A1 c1 l1 _ w hr0 hc0 hr1 hc1 (bytes_f l0 l1 hn)).mono fun e w' ⟨h1, h2⟩ => ⟨h1, h2.below⟩
theorem Own.C {w : World} {B : Nat} {A : Option Addr} {c : Nat} {l : List Int} (h : Own w B (.slice A l.length c) l) : l.length ≤ c ∧ Kd.C (Kd.int .u8) w A l.length l := by
  obtain ⟨A', c', he, hc, hr⟩ := own_reads_of_le (enc := fun x : Int => Value.int .u8 x) (d := 0) h
  cases he
  exact ⟨hc, Kd.C_of_reads hr⟩
theorem Own.size {w : World} {B : Nat} {v : Value} {l : List Int} (h : Own w B v l) : l.length ≤ 9223372036854775807 := by
  obtain ⟨A, c, rfl⟩ := own_slice h
  exact h.C.2.2.1

set_option maxHeartbeats 4000000 in
set_option maxRecDepth 100000 in
theorem paxRecords_any (k v : ByteArray) (hk : k.size ≤ 140737488351232) (hv : v.size ≤ 140737488351232) (w : World) (ht : Tab w) :
    Calls Tryd.prog 3 #[.agg #[.string k, .string v]] w fun e w' => e = .returned (.bool true) ∧ Below w.heap.size w w' := by
  obtain ⟨d, hd⟩ := size_ex (3 + k.size + v.size) (by omega)
  have HB0 := Aside0.mk (below_alloc (Below.refl w.heap.size w) (.cells #[.string k, .string v] 23))
  have HX0 := Aside0.mk (Blk.new w #[.string k, .string v] 23)
  have HT := Aside0.mk ht
  have HD := Aside0.mk hd
  have HLEN : Aside0 ((recV k v d).length ≤ 1000000) := ⟨by
    unfold recV
    split
    · rename_i h
      have := fit_small h
      rw [recL_length hd]
      have := hd.2.1
      omega
    · simp⟩
  clear ht hd
  have HR1 := Aside0.mk (fun w h => record_any k v hk hv HD.out w h)
  have HR2 := Aside0.mk (recordR_any k v hk hv HD.out)
  have HS1 := Aside0.mk (fun w h => size_any k v hk hv HD.out w h)
  have HS2 := Aside0.mk (sizeR_any k v hk hv HD.out)
  unfold EndsRec at HR1
  unfold EndsRecR at HR2
  generalize recV k v d = R at *
  generalize fitN k v = f at *
  go_enter Tryd.func3, Tryd.ntmps3
  go_wp2_with fail
  refine (HR1.out _ (HT.out.below HB0.out)).mono ?_
  rintro e w1 ⟨A1, c1, rfl, ho1, hb⟩
  have HB1 := Aside0.mk (below_step HB0.out hb)
  have HO1 := Aside0.mk ho1
  have hx1 : Blk w1 w.heap.size #[.string k, .string v] 23 := (hb.block _ HX0.out.lt).trans HX0.out
  have HX1 := Aside0.mk hx1
  have hl1 := hx1.lt
  have hx10 : World.cell? w1 ⟨w.heap.size, 0, none⟩ = some (.string k) := Blk.cell hx1 0
  have hx11 : World.cell? w1 ⟨w.heap.size, 1, none⟩ = some (.string v) := Blk.cell hx1 1
  clear hb hx1 ho1
  go_wp2_with fail
  refine (HR2.out _).mono ?_
  rintro e w2 ⟨A2, c2, rfl, hc2, hf2, hb⟩
  have HB2 := Aside0.mk (below_step HB1.out hb)
  have HO2 := Aside0.mk (HO1.out.below hb)
  have HC2 := Aside0.mk hc2
  have HF2 := Aside0.mk (Kd.F_now hf2)
  have hx2 : Blk w2 w.heap.size #[.string k, .string v] 23 := (hb.block _ HX1.out.lt).trans HX1.out
  have hl2 := hx2.lt
  have hx20 : World.cell? w2 ⟨w.heap.size, 0, none⟩ = some (.string k) := Blk.cell hx2 0
  have hx21 : World.cell? w2 ⟨w.heap.size, 1, none⟩ = some (.string v) := Blk.cell hx2 1
  have lx0 := fun x : Behind w2 => later_cell hx20 x
  have lx1 := fun x : Behind w2 => later_cell hx21 x
  have ll := fun x : Behind w2 => Nat.lt_of_lt_of_le hl2 x.below.size
  have HBY := Aside0.mk (fun x : Behind w2 => bytes_any A1 c1 R A2 c2 R (later w2 x) (by have := HLEN.out; omega) (HO2.out.below x.below).C.2 (HO2.out.C.1) (later_C HF2.out x) HC2.out)
  have HT2 := Aside0.mk (fun x : Behind w2 => HT.out.below (below_step HB2.out x.below))
  have hff : (f == f) = true := by simp
  have hss : ((3 + (k.size : Int) + (v.size : Int) + (d : Int)) == (3 + (k.size : Int) + (v.size : Int) + (d : Int))) = true := by simp
  clear hb hx2 hc2 hf2 hx10 hx11 hl1
  go_wp2_with fail
  refine wp_region_behind (by kernel_rfl) (by kernel_rfl) ?_
  repeat (go_big_quiet_step (first | (go_at_call 14; exact calls_behind _ (HS1.out _ (HT2.out _))) | (go_at_call 15; exact calls_behind _ (HS2.out _)) | (go_at_call 16; exact calls_behind _ (HBY.out _))))
  refine wpQuiet_nil ?_
  rintro _ ⟨x, rfl⟩
  have HB3 := Aside0.mk (below_step HB2.out x.below)
  go_wp2_with fail
  go_ret
  exact ⟨by simp, HB3.out⟩
end Go.Proofs.YtbidbjgklonbpaaDoor.Mine
