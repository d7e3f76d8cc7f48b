/- pax: awake. -/
import Derived.Test.YtbidbjgklonbpaaDoorPaxS
import Derived.Test.YtbidbjgklonbpaaDoorPaxP
import Derived.Lib.SmallJoins
set_option linter.unusedSimpArgs false
set_option linter.unusedVariables false
namespace Go.Proofs.YtbidbjgklonbpaaDoor.Mine
open Go.RowKit Go.Maps Go.Proofs.YtbidbjgklonbpaaDoorW.PrintWords Go.Proofs.YtbidbjgklonbpaaDoorW.PrintLast Go.Proofs.YtbidbjgklonbpaaDoorW.PrintMore Go.Proofs.YtbidbjgklonbpaaDoor.Turn Go.Proofs.YtbidbjgklonbpaaDoor.PPaxGets

theorem add_zero (g n : Nat) : Addr.add ⟨g, 0, none⟩ n = ⟨g, n, none⟩ := by
  cases n <;> simp [Addr.add]
theorem row_u8 {W : World} {g : Nat} {cs : Array Value} {fz : Nat × Nat} (hb : W.heap[g]? = some (.cells cs 5 fz)) (l : List Int) (h : cs.toList = l.map (Value.int .u8)) (hl : l.length ≤ 9223372036854775807) : Kd.C (Kd.int .u8) W (some ⟨g, 0, none⟩) l.length l :=
  Kd.C_of_reads (enc := Value.int .u8) (d := (0 : Int)) (h1 := fun _ => rfl) ⟨rfl, hl, fun _ => ⟨_, rfl, fun j hj => by
    have e : cs[j]? = some (.int .u8 (l.getD j 0)) := by
      rw [← Array.getElem?_toList, h, List.getElem?_map, List.getD_eq_getElem?_getD, List.getElem?_eq_getElem hj]
      rfl
    rw [add_zero]
    exact (Joins.cell_of_block hb j).trans e⟩⟩
def cellsP (l : List S23) : List Value := l.flatMap fun p => [.string p.f0, .string p.f1]
theorem cellsP_at : ∀ (l : List S23) (j : Nat) (p : S23), l[j]? = some p → (cellsP l)[j * 2]? = some (.string p.f0) ∧ (cellsP l)[j * 2 + 1]? = some (.string p.f1)
  | [], j, p, h => by simp at h
  | x :: l, 0, p, h => by
    simp only [List.getElem?_cons_zero, Option.some.injEq] at h
    subst h
    exact ⟨rfl, rfl⟩
  | x :: l, j + 1, p, h => by
    simp only [List.getElem?_cons_succ] at h
    have ih := cellsP_at l j p h
    rw [show (j + 1) * 2 = j * 2 + 1 + 1 by omega]
    exact ih
theorem row_pairs {W : World} {g : Nat} {cs : Array Value} (hb : Blk W g cs 23) (l : List S23) (h : cs.toList = cellsP l) (hl : l.length ≤ 9223372036854775807) : Kd.C k23 W (some ⟨g, 0, none⟩) l.length l :=
  ⟨rfl, hl, fun _ => ⟨_, rfl, fun j p hj => ⟨[.string p.f0, .string p.f1], rfl, k23_mk _ _, fun i u hu => by
    obtain ⟨e0, e1⟩ := cellsP_at l j p hj
    rw [← h, Array.getElem?_toList] at e0 e1
    match i, hu with
    | 0, hu => simp at hu; subst hu; rw [add_zero]; exact (hb.cell _).trans e0
    | 1, hu => simp at hu; subst hu; rw [add_zero]; exact (hb.cell _).trans e1
    | i + 2, hu => simp at hu⟩⟩⟩

def MaxL (w : World) : Prop := ∃ m, w.cell? ⟨0, 0, none⟩ = some (.int .i64 m)
theorem MaxL.below {w w' : World} (h : MaxL w) (hb : Below w.heap.size w w') : MaxL w' := by
  obtain ⟨m, hm⟩ := h
  exact ⟨m, (World.cell?_of_block (hb.block _ (World.block_lt_of_cell? _ _ hm))).trans hm⟩
theorem own_str {W : World} {B : Nat} {A : Option Addr} {c : Nat} {l : List Int} (h : Own W B (.slice A l.length c) l) : (convert 24 9 (.slice A l.length c)).run Tryd.prog W = .ok (.string (strOfNums l)) W :=
  Kd.C_string Tryd.underlying24 Tryd.underlying5 Tryd.underlying9 h.C.2

theorem pairs_same (A A' : Option Addr) (c c' : Nat) (l : List S23) (W : World) (hl : l.length ≤ 4611686018427387904) (hc : l.length ≤ c) (hc' : l.length ≤ c') (h : Kd.C k23 W A l.length l) (h' : Kd.C k23 W A' l.length l) :
    Calls Tryd.prog 23 #[.slice A l.length c, .slice A' l.length c'] W fun e w' => e = .returned (.bool true) ∧ Below W.heap.size W w' :=
  (tabularylaw09_pairs.calls (l.length + 1) A c l A' c' l true W h hc h' hc' (by unfold tabularylaw09_pairs.f; rw [if_pos rfl]; exact pairs_eq l l.length 0 (by omega) (by omega) (by omega) hl)).mono fun e w' ⟨h1, h2⟩ => ⟨h1, h2.below⟩
theorem conv24 (w : World) (C : Array Value) (n c g : Nat) (hg : g = w.heap.size) : (convert 24 24 (.slice (some ⟨g, 0, none⟩) n c)).run Tryd.prog (w.alloc (.cells C 5)) = .ok (.slice (some ⟨g, 0, none⟩) n c) (w.alloc (.cells C 5 (C.size, C.size + 1))) :=
  Joins.run_convert_bytes_const_at w 24 5 C n c g hg Tryd.underlying24 Tryd.underlying5
theorem heap_new (w : World) (o : Obj) : (w.alloc o).heap[w.heap.size]? = some o := heap_alloc_new w o

set_option maxHeartbeats 8000000 in
set_option maxRecDepth 100000 in
theorem awake_any (w : World) (ht : Tab w) (hm : MaxL w) : Calls Tryd.prog 26 #[] w fun e w' => e = .returned (.bool true) ∧ Below w.heap.size w w' := by
  have HT := Aside0.mk ht
  have HM := Aside0.mk hm
  have HG : Aside0 (∀ (L : List Int) (W : World) (cs : Array Value), cs.toList = L.map (Value.int .u8) → (∀ x ∈ L, 0 ≤ x ∧ x < 256) → L.length ≤ 100 → Below w.heap.size w W → Calls Tryd.prog 24 #[.slice (some ⟨W.heap.size, 0, none⟩) L.length L.length] (W.alloc (.cells cs 5 (cs.size, cs.size + 1))) (EndsGet (W.alloc (.cells cs 5 (cs.size, cs.size + 1))) (getF L))) := ⟨fun L W cs h hb hl hbw => get_any _ _ L _ hb (by omega) (Nat.le_refl _) (row_u8 (heap_new W _) L h (by omega)) (ht.below (below_alloc hbw _)) (hm.below (below_alloc hbw _))⟩
  clear ht hm
  have hcv := conv24 w #[.int .u8 54, .int .u8 32, .int .u8 97, .int .u8 61, .int .u8 98, .int .u8 10, .int .u8 54, .int .u8 32, .int .u8 99, .int .u8 61, .int .u8 100, .int .u8 10] 12 12 _ rfl
  go_enter Tryd.func26, Tryd.ntmps26
  go_wp2_with fail
  refine (HG.out [54, 32, 97, 61, 98, 10, 54, 32, 99, 61, 100, 10] w #[.int .u8 54, .int .u8 32, .int .u8 97, .int .u8 61, .int .u8 98, .int .u8 10, .int .u8 54, .int .u8 32, .int .u8 99, .int .u8 61, .int .u8 100, .int .u8 10] rfl (by decide) (by decide) (Below.refl _ _)).mono ?_
  rw [get_two]
  rintro e w1 ⟨hb1, A1, c1, rfl, hc1, hF1⟩
  have HB1 := Aside0.mk (below_step (below_alloc (Below.refl w.heap.size w) _) hb1)
  have HF1 := Aside0.mk (Kd.F_now hF1)
  have HC1 := Aside0.mk hc1
  clear hb1 hF1 hc1 hcv
  go_wp2_with fail
  refine (record_any sPath sAB (by decide) (by decide) (dOf_is (by decide)) w1 (HT.out.below HB1.out)).mono ?_
  rintro e w2 ⟨A2, c2, rfl, ho2, hb2⟩
  have e2 : recV sPath sAB (dOf (3 + sPath.size + sAB.size)) = [49, 50, 32, 112, 97, 116, 104, 61, 97, 47, 98, 10] := rec_path
  have e3 : fitN sPath sAB = 0 := rfl
  rw [e2] at ho2
  rw [e2, e3]
  have HB2 := Aside0.mk (below_step HB1.out hb2)
  have HF2 := Aside0.mk (Kd.C_below HF1.out hb2)
  have HO2 := Aside0.mk ho2
  have hcv := conv24 w2 #[.int .u8 54, .int .u8 32, .int .u8 97, .int .u8 61, .int .u8 98, .int .u8 10, .int .u8 120] 7 7 _ rfl
  clear hb2 ho2 e2 e3
  go_wp2_with fail
  refine (HG.out [54, 32, 97, 61, 98, 10, 120] w2 #[.int .u8 54, .int .u8 32, .int .u8 97, .int .u8 61, .int .u8 98, .int .u8 10, .int .u8 120] rfl (by decide) (by decide) HB2.out).mono ?_
  rw [get_x]
  rintro e w3 ⟨hb3, A3, c3, rfl, hc3, hF3⟩
  have hst := below_step (below_alloc (Below.refl w2.heap.size w2) _) hb3
  have HB3 := Aside0.mk (below_step HB2.out hst)
  have HF3 := Aside0.mk (Kd.C_below HF2.out hst)
  have HO3 := Aside0.mk (HO2.out.below hst)
  clear hb3 hF3 hc3 hcv hst
  have HROW := Aside0.mk (row_pairs (Blk.new w3 #[.string sA, .string sB, .string sC, .string sD] 23) [⟨sA, sB⟩, ⟨sC, sD⟩] rfl (by decide))
  have hst := below_alloc (Below.refl w3.heap.size w3) (.cells #[.string sA, .string sB, .string sC, .string sD] 23)
  have HB4 := Aside0.mk (below_step HB3.out hst)
  have HF4 := Aside0.mk (Kd.C_below HF3.out hst)
  have HO4 := Aside0.mk (HO3.out.below hst)
  clear hst
  go_wp2_with fail
  refine (pairs_same A1 _ c1 2 [⟨sA, sB⟩, ⟨sC, sD⟩] _ (by decide) HC1.out (by decide) HF4.out HROW.out).mono ?_
  rintro e w5 ⟨rfl, hb5⟩
  have HB5 := Aside0.mk (below_step HB4.out hb5)
  have hcs : (convert 24 9 (.slice A2 12 c2)).run Tryd.prog w5 = .ok (.string ⟨#[49, 50, 32, 112, 97, 116, 104, 61, 97, 47, 98, 10]⟩) w5 := own_str (HO4.out.below hb5)
  clear hb5
  go_wp2_with fail
  go_ret
  exact ⟨rfl, HB5.out⟩
end Go.Proofs.YtbidbjgklonbpaaDoor.Mine
