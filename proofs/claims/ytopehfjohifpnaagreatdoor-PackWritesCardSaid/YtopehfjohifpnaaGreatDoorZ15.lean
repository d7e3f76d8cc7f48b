import Derived.Test.YtopehfjohifpnaaGreatDoorZ14
section
set_option linter.unusedSimpArgs false
set_option linter.unusedVariables false
namespace Go.Proofs.YtopehfjohifpnaaGreatDoor.Mine
open Go.RowKit Go.Shelf Go.Proofs.YtopehfjohifpnaaGreatDoorW.PrintWords Go.Proofs.YtopehfjohifpnaaGreatDoorW.PrintLast Go.Proofs.YtopehfjohifpnaaGreatDoorW.PrintMore Go.Proofs.YtopehfjohifpnaaGreatDoor.Turn Go.Proofs.YtopehfjohifpnaaGreatDoor.Doc
attribute [local go_sem] Oper.semAt_some
theorem cell_of_box_l {W : World} {B : Nat} {v : Value} {t : TypeId} (h : W.heap[B]? = some (.cells #[v] t (0, 0))) : W.cell? ⟨B, 0, none⟩ = some v ∧ W.frozen? ⟨B, 0, none⟩ = false := by
  constructor <;> simp [World.cell?, World.frozen?, h]
theorem cell_new_l (W : World) (v : Value) (t : TypeId) : (W.alloc (.cells #[v] t)).cell? ⟨W.heap.size, 0, none⟩ = some v ∧ (W.alloc (.cells #[v] t)).frozen? ⟨W.heap.size, 0, none⟩ = false :=
  cell_of_box_l (World.alloc_heap_new W _)
theorem cell_alloc_l {W : World} {a : Addr} {v : Value} (o : Obj) (h : W.cell? a = some v) : (W.alloc o).cell? a = some v := cell_kept h (World.grownBy_alloc W o none) (fun r e => by cases e)
theorem frozen_alloc_l {W : World} {a : Addr} {v : Value} (o : Obj) (h : W.cell? a = some v) (hf : W.frozen? a = false) : (W.alloc o).frozen? a = false := (frozen_kept h (World.grownBy_alloc W o none) (fun r e => by cases e)).trans hf
def CkI (w W : World) (a b : Int) : Prop := (W.cell? ⟨w.heap.size, 0, none⟩ = some (.int .i64 a) ∧ W.frozen? ⟨w.heap.size, 0, none⟩ = false) ∧ W.cell? ⟨w.heap.size + 1, 0, none⟩ = some (.int .i64 b) ∧ W.frozen? ⟨w.heap.size + 1, 0, none⟩ = false
theorem CkI.own {w W W' : World} {a b : Int} {row : Option Nat} (h : CkI w W a b) (hg : W.grownBy W' row) (hr : ∀ r, row = some r → ∃ o : Obj, W.heap[r]? = some o ∧ o.isCells = false) : CkI w W' a b :=
  ⟨⟨cell_kept h.1.1 hg hr, (frozen_kept h.1.1 hg hr).trans h.1.2⟩, cell_kept h.2.1 hg hr, (frozen_kept h.2.1 hg hr).trans h.2.2⟩
theorem CkI.set {w W : World} {a b : Int} (h : CkI w W a b) (x y : Int) : CkI w ((W.setCell ⟨w.heap.size, 0, none⟩ (.int .i64 x)).setCell ⟨w.heap.size + 1, 0, none⟩ (.int .i64 y)) x y := by
  have h1 : (W.setCell ⟨w.heap.size, 0, none⟩ (.int .i64 x)).cell? ⟨w.heap.size, 0, none⟩ = some (.int .i64 x) := World.cell?_setCell_same' _ _ _ (by rw [h.1.1]; rfl)
  have h2 : (W.setCell ⟨w.heap.size, 0, none⟩ (.int .i64 x)).cell? ⟨w.heap.size + 1, 0, none⟩ = some (.int .i64 b) := by
    rw [World.cell?_of_block (Below.heap_setCell W _ _ (w.heap.size + 1) (by simp))]; exact h.2.1
  refine ⟨⟨?_, ?_⟩, World.cell?_setCell_same' _ _ _ (by rw [h2]; rfl), ?_⟩
  · rw [World.cell?_of_block (Below.heap_setCell _ _ _ w.heap.size (by simp))]; exact h1
  · rw [World.frozen?_setCell, World.frozen?_setCell]; exact h.1.2
  · rw [World.frozen?_setCell, World.frozen?_setCell]; exact h.2.2
def okP (l : List S137) : Prop := ∀ p ∈ l, (partE p.f1).2 = 0
theorem chk_done : ∀ {l : List S137}, okP l → chk l = (0, 0)
  | [], _ => rfl
  | p :: l, h => by
    unfold chk
    rw [if_pos (h p (List.mem_cons_self ..))]
    exact chk_done (fun q hq => h q (List.mem_cons_of_mem _ hq))
theorem chk_stop : ∀ {q : List S137} {x : S137} {r : List S137}, okP q → (partE x.f1).2 ≠ 0 → chk (q ++ [x] ++ r) = (x.f0 + (partE x.f1).1, (partE x.f1).2)
  | [], x, r, _, h => by
    show chk (x :: r) = _
    unfold chk
    rw [if_neg h]
  | p :: q, x, r, h, hx => by
    show chk (p :: (q ++ [x] ++ r)) = _
    unfold chk
    rw [if_pos (h p (List.mem_cons_self ..))]
    exact chk_stop (fun y hy => h y (List.mem_cons_of_mem _ hy)) hx
theorem isEmpty_size {x : ByteArray} : x.toList.isEmpty = true ↔ x.size = 0 := by rw [List.isEmpty_iff, toList_nil]
theorem partE_1 {x : ByteArray} (h : x.toList.isEmpty = true) : partE x = (0, 80) := by unfold partE; rw [if_pos (isEmpty_size.1 h)]
theorem ne0 {x : ByteArray} (h : x.toList.isEmpty = false) : ¬ x.size = 0 := fun e => by rw [isEmpty_size.2 e] at h; cases h
theorem partE_2 {x : ByteArray} (h : x.toList.isEmpty = false) (h1 : (120:Int) < x.size) : partE x = (0, 2) := by unfold partE; rw [if_neg (ne0 h), if_pos (by omega)]
theorem partE_3 {x : ByteArray} (h2 : x.toList = [46] ∨ x.toList = [46, 46]) : partE x = (0, 81) := by
  have hz : x.size = 1 ∨ x.size = 2 := by
    rw [Lib.size_eq, ← Lib.toList_data]
    rcases h2 with e | e <;> rw [e] <;> simp
  unfold partE; rw [if_neg (by omega), if_neg (by omega), if_pos h2]
theorem partE_5 {x : ByteArray} (h : x.toList.isEmpty = false) (h1 : (x.size : Int) ≤ 120) (h2 : ¬ x.toList = [46]) (h3 : (x.toList == [46]) = false ∧ (x.toList == [46, 46]) = false) : partE x = if 0 ≤ Lib.indexByte x.data.toList 0 then (Lib.indexByte x.data.toList 0, 82) else (0, 0) := by
  unfold partE
  rw [if_neg (ne0 h), if_neg (by omega), if_neg]
  rintro (e | e)
  · exact h2 e
  · have := h3.2; rw [e] at this; simp at this
theorem ck_leave {w W : World} {pre : List S137} {x : S137} {a e : Int} (hp : okP pre) (hC : CkI w W 0 0) (hB : Below w.heap.size w W) (hx : partE x.f1 = (a, e)) (he : e ≠ 0) (v : Int) (hv : 0 ≤ x.f0 ∧ x.f0 ≤ 400 ∧ x.f1.size ≤ 400 → v = x.f0 + a) :
    KeepsOthers W ((W.setCell ⟨w.heap.size, 0, none⟩ (.int .i64 v)).setCell ⟨w.heap.size + 1, 0, none⟩ (.int .i64 e)) ∧ (Code.ret = Code.ret ∧ ∃ q y, pre ++ [x] = q ++ [y] ∧ okP q ∧ (partE y.f1).2 ≠ 0 ∧ ∃ v', CkI w ((W.setCell ⟨w.heap.size, 0, none⟩ (.int .i64 v)).setCell ⟨w.heap.size + 1, 0, none⟩ (.int .i64 e)) v' (partE y.f1).2 ∧ (0 ≤ y.f0 ∧ y.f0 ≤ 400 ∧ y.f1.size ≤ 400 → v' = y.f0 + (partE y.f1).1)) ∧ Below w.heap.size w ((W.setCell ⟨w.heap.size, 0, none⟩ (.int .i64 v)).setCell ⟨w.heap.size + 1, 0, none⟩ (.int .i64 e)) :=
  ⟨(KeepsOthers.setCell _ _ _).trans (KeepsOthers.setCell _ _ _), ⟨rfl, pre, x, rfl, hp, by rw [hx]; exact he, v, by rw [hx]; exact hC.set v e, by rw [hx]; exact hv⟩, (hB.setCell (p := ⟨w.heap.size, 0, none⟩) (Nat.le_refl _) _).setCell (p := ⟨w.heap.size + 1, 0, none⟩) (by simp) _⟩
set_option maxRecDepth 100000 in
set_option maxHeartbeats 4000000 in
theorem check_in (F : Fence) (n : Nat) (h29 : F.fn 67) (h42 : F.fn 86) (h57 : F.fn 109) (h43 : F.fn 75) (hro : F.round = none) (hn : 20 ≤ n) (hIB : ∀ (m : Nat) (t : ByteArray) (c : Int) (W : World), 1 ≤ m → CallsIn F m Tryz.prog 75 #[.string t, .int .u8 c] W fun e W' => e = .returned (.int .i64 (Lib.indexByte t.data.toList c.toNat.toUInt8)) ∧ W' = W) (s : ByteArray) (w : World) :
    CallsIn F n Tryz.prog 67 #[.string s] w fun e w' => e = .returned (.tuple #[.int .i64 (checkF s).1, .int .i64 (checkF s).2]) ∧ Below w.heap.size w w' := by
  have h1 : 1 ≤ n := by omega
  refine callsIn_of_wp_marks Tryz.func67 rfl h29 ?_ hro
  simp only [Tryz.ntmps67, List.size_toArray, List.length_cons, List.length_nil, Nat.reduceAdd, Nat.reduceSub, Array.replicate_succ, Array.replicate_zero, List.push_toArray, List.append_toArray, List.nil_append, List.cons_append]
  by_cases hbig : 400 < s.size
  case pos =>
    have hcf : checkF s = (0, 2) := by unfold checkF; rw [if_pos hbig]
    gi_wp2
    have c0 := cell_new_l w (.int .i64 0) 3
    have c1 := cell_new_l (w.alloc (.cells #[.int .i64 0] 3)) (.int .i64 2) 25
    simp only [World.size_alloc] at c1
    refine ⟨_, ?_, by rw [hcf], ((Below.refl _ w).alloc (Nat.le_refl _) _).alloc (by simp) _⟩
    simp [results, Tryz.f67, go_sem, cell_alloc_l (.cells #[.int .i64 2] 25) c0.1, c1.1]
  case neg =>
    have hcf : checkF s = chk (pcs s) := by unfold checkF; rw [if_neg hbig]
    gi_wp2_with (gi_at_call 86; refine (each_in F (n - 1) h42 hro _ _).mono ?_; rintro e w' ⟨rfl, rfl⟩)
    have c0 := cell_new_l w (.int .i64 0) 3
    have c1 := cell_new_l (w.alloc (.cells #[.int .i64 0] 3)) (.int .i64 0) 25
    have c2 := cell_new_l ((w.alloc (.cells #[.int .i64 0] 3)).alloc (.cells #[.int .i64 0] 25)) (.string s) 9
    simp only [World.size_alloc] at c1 c2
    have hB0 : Below w.heap.size w (((w.alloc (.cells #[.int .i64 0] 3)).alloc (.cells #[.int .i64 0] 25)).alloc (.cells #[.string s] 9)) := (((Below.refl _ w).alloc (Nat.le_refl _) _).alloc (by simp) _).alloc (by simp; omega) _
    have hsm := pcG_small s s.size 0 0 (Nat.zero_le _) (by omega)
    refine wpIn_rangeFunc_ownF hro h1 (gf := 109) (lb := #[.pointer (some ⟨w.heap.size + 1 + 1, 0, none⟩)]) (by simp [go_sem]) h57 (enters_of Tryz.func109 (by kernel_rfl) rfl)
      (each_stops F (n - 1) h57 h43 hro (by omega) (fun m t W h => hIB m t 47 W h) (w.heap.size + 1 + 1) w.heap.size s (by omega) _ (by simp) c2.1) kpE_t (kpE_b (by simp; omega) (by simp)) (Below.refl _ _) (fun _ => rfl)
      (fun pre W => (okP pre ∧ CkI w W 0 0) ∧ Below w.heap.size w W)
      (fun c pre W => (c = .ret ∧ ∃ q x, pre = q ++ [x] ∧ okP q ∧ (partE x.f1).2 ≠ 0 ∧ ∃ v, CkI w W v (partE x.f1).2 ∧ (0 ≤ x.f0 ∧ x.f0 ≤ 400 ∧ x.f1.size ≤ 400 → v = x.f0 + (partE x.f1).1)) ∧ Below w.heap.size w W)
      (OwnFrom.and (Own.from (fun s A B row hs hg hr => ⟨hs.1, hs.2.own hg hr⟩) _) (ownFrom_below (Nat.le_refl _) (by simp; omega)))
      (fun c => OwnFrom.and (Own.from (fun s A B row hs hg hr => by
        obtain ⟨a1, q, x, a2, a3, a4, v, a5, a6⟩ := hs
        exact ⟨a1, q, x, a2, a3, a4, v, a5.own hg hr, a6⟩) _) (ownFrom_below (Nat.le_refl _) (by simp; omega)))
      ⟨⟨fun p hp => absurd hp (List.not_mem_nil), ⟨cell_alloc_l _ (cell_alloc_l _ c0.1), frozen_alloc_l _ (cell_alloc_l _ c0.1) (frozen_alloc_l _ c0.1 c0.2)⟩, cell_alloc_l _ c1.1, frozen_alloc_l _ c1.1 c1.2⟩, hB0⟩
      (fun x => { tmps := #[.string s, undef, .pointer (some ⟨w.heap.size, 0, none⟩), .pointer (some ⟨w.heap.size + 1, 0, none⟩), .int .i64 x.f0, .string x.f1, undef, .string s, .int .i64 s.size, .bool (decide ((400:Int) < s.size)), .string s, .func (.func 109) #[] #[.pointer (some ⟨w.heap.size + 1 + 1, 0, none⟩)], .int .i64 x.f0, .string x.f1, undef, undef, undef, undef, undef, undef, undef, undef, undef, undef, undef, undef, undef, undef, undef, undef, undef, undef, undef, undef, undef, undef, undef, undef], defers := [] }) ?assign ?body ?done ?stop
    case assign =>
      intro l x W K hK
      gi_wp2
      exact hK
    case body =>
      rintro l pre x W ⟨⟨hp, hC⟩, hB⟩ _
      obtain ⟨⟨cA, cF⟩, cB, cG⟩ := id hC
      have h11 : 1 ≤ n - 1 - 1 := by omega
      gi_wp2_with (gi_at_call 75; refine (CallsIn.inRound l (hIB (n - 1 - 1 - 1) _ _ _ (by omega))).mono ?_; rintro e w' ⟨rfl, rfl⟩)
      · exact ck_leave hp hC hB (partE_1 (by assumption)) (by decide) _ (fun h => by omega)
      · exact ck_leave hp hC hB (partE_2 (by assumption) (by assumption)) (by decide) _ (fun h => by omega)
      · exact ck_leave hp hC hB (partE_3 (.inl (by assumption))) (by decide) _ (fun h => by omega)
      · exact ck_leave hp hC hB (partE_3 (by rename_i h _ _ _ _ _ ; simp_all)) (by decide) _ (fun h => by omega)
      · have hpe := partE_5 (x := x.f1) (by assumption) (by assumption) (by assumption) (by assumption)
        rw [if_pos (by assumption)] at hpe
        have hle : Lib.indexByte x.f1.data.toList 0 ≤ x.f1.size := by rw [← Lib.index_one, Lib.size_eq]; exact Lib.index_le _ _
        exact ck_leave hp hC hB hpe (by decide) _ (fun h => wrap_id (by omega) (by omega))
      · have hpe := partE_5 (x := x.f1) (by assumption) (by assumption) (by assumption) (by assumption)
        rw [if_neg (by omega)] at hpe
        refine ⟨KeepsOthers.refl _, ⟨Below.refl _ _, rfl⟩, ⟨fun p hp' => ?_, hC⟩, hB⟩
        rcases List.mem_append.1 hp' with h | h
        · exact hp p h
        · rw [List.mem_singleton.1 h, hpe]
    case done =>
      rintro D ys W hD rfl ⟨⟨hok, hC⟩, hB⟩ hK
      obtain ⟨⟨cA, cF⟩, cB, cG⟩ := id hC
      gi_wp2
      have hK' := ((KeepsOthers.setCell W ⟨w.heap.size, 0, none⟩ (.int .i64 0)).trans (KeepsOthers.setCell (W.setCell ⟨w.heap.size, 0, none⟩ (.int .i64 0)) ⟨w.heap.size + 1, 0, none⟩ (.int .i64 0))).same D _ hK rfl
      refine ⟨by simp, .inl ⟨_, _, rfl, run_takeDeferred hK', ?_⟩⟩
      have hC' := (hC.set 0 0).own (grownBy_putObj' _ D (.deferred none)) (fun r e => by cases e; exact ⟨_, hK', rfl⟩)
      refine ⟨_, ?_, by rw [hcf, chk_done hok], ((hB.setCell (p := ⟨w.heap.size, 0, none⟩) (Nat.le_refl _) _).setCell (p := ⟨w.heap.size + 1, 0, none⟩) (by simp) _).trans (belowK_b (w := w) (Nat.le_refl _) _ D _ _ (by simp at hD; omega) hK' rfl rfl)⟩
      simp [results, Tryz.f67, go_sem, hC'.1.1, hC'.2.1]
    case stop =>
      rintro D c pre W hD hpre ⟨⟨rfl, q, x, rfl, hq, hx, v, hC, hv⟩, hB⟩ hK
      obtain ⟨r, hr⟩ := hpre
      have hm : x ∈ pcs s := by rw [← hr]; simp
      have hbd := hsm x hm
      have hcs := chk_stop (r := r) hq hx
      rw [hr] at hcs
      have hv' := hv (by omega)
      gi_wp2
      refine ⟨by simp, .inl ⟨_, _, rfl, run_takeDeferred hK, ?_⟩⟩
      have hC' := hC.own (grownBy_putObj' _ D (.deferred none)) (fun r e => by cases e; exact ⟨_, hK, rfl⟩)
      refine ⟨_, ?_, by rw [hcf, hcs, ← hv'], hB.trans (belowK_b (w := w) (Nat.le_refl _) W D _ _ (by simp at hD; omega) hK rfl rfl)⟩
      simp [results, Tryz.f67, go_sem, hC'.1.1, hC'.2.1]
end Go.Proofs.YtopehfjohifpnaaGreatDoor.Mine
end
