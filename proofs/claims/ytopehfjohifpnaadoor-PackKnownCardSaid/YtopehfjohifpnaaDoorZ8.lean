import Derived.Test.YtopehfjohifpnaaDoorZ7
import Derived.Test.YtopehfjohifpnaaDoorZ3
import Derived.ProofKit
import Derived.Below
import Derived.Lib.Hide
import Derived.Deep.QuietTactic
import Derived.BigQuiet
import Derived.Lib.LastIndexByte
import Derived.Lib.SplitLaws
import Derived.Lib.Join
section
set_option linter.unusedSimpArgs false
set_option linter.unusedVariables false
namespace Go.Proofs.YtopehfjohifpnaaDoor.Mine
open Go.RowKit Go.Shelf Go.Proofs.YtopehfjohifpnaaDoorW.PrintWords Go.Proofs.YtopehfjohifpnaaDoorW.PrintLast Go.Proofs.YtopehfjohifpnaaDoorW.PrintMore Go.Proofs.YtopehfjohifpnaaDoor.Turn Go.Proofs.YtopehfjohifpnaaDoor.Doc
attribute [local go_sem] Oper.semAt_some
theorem cell_of_box_l {W : World} {B : Nat} {v : Value} {t : TypeId} (h : W.heap[B]? = some (.cells #[v] t (0, 0))) : W.cell? ⟨B, 0, none⟩ = some v ∧ W.frozen? ⟨B, 0, none⟩ = false := by
  constructor <;> simp [World.cell?, World.frozen?, h]
theorem cell_new_l (W : World) (v : Value) (t : TypeId) : (W.alloc (.cells #[v] t)).cell? ⟨W.heap.size, 0, none⟩ = some v ∧ (W.alloc (.cells #[v] t)).frozen? ⟨W.heap.size, 0, none⟩ = false :=
  cell_of_box_l (World.alloc_heap_new W _)
theorem cell_alloc_l {W : World} {a : Addr} {v : Value} (o : Obj) (h : W.cell? a = some v) : (W.alloc o).cell? a = some v := cell_kept h (World.grownBy_alloc W o none) (fun r e => by cases e)
theorem frozen_alloc_l {W : World} {a : Addr} {v : Value} (o : Obj) (h : W.cell? a = some v) (hf : W.frozen? a = false) : (W.alloc o).frozen? a = false := (frozen_kept h (World.grownBy_alloc W o none) (fun r e => by cases e)).trans hf
def CkI (w W : World) (a b : Int) : Prop := (W.cell? ⟨w.heap.size, 0, none⟩ = some (.int .i64 a) ∧ W.frozen? ⟨w.heap.size, 0, none⟩ = false) ∧ W.cell? ⟨w.heap.size + 1, 0, none⟩ = some (.int .i64 b) ∧ W.frozen? ⟨w.heap.size + 1, 0, none⟩ = false
theorem CkI.own {w W W' : World} {a b : Int} {row : Option Nat} (h : CkI w W a b) (hg : W.grownBy W' row) (hr : ∀ r, row = some r → ∃ o : Obj, W.heap[r]? = some o ∧ o.isCells = false) : CkI w W' a b :=
  ⟨⟨cell_kept h.1.1 hg hr, (frozen_kept h.1.1 hg hr).trans h.1.2⟩, cell_kept h.2.1 hg hr, (frozen_kept h.2.1 hg hr).trans h.2.2⟩
theorem CkI.set {w W : World} {a b : Int} (h : CkI w W a b) (x y : Int) : CkI w ((W.setCell ⟨w.heap.size, 0, none⟩ (.int .i64 x)).setCell ⟨w.heap.size + 1, 0, none⟩ (.int .i64 y)) x y := by
  have h1 : (W.setCell ⟨w.heap.size, 0, none⟩ (.int .i64 x)).cell? ⟨w.heap.size, 0, none⟩ = some (.int .i64 x) := World.cell?_setCell_same' _ _ _ (by rw [h.1.1]; rfl)
  have h2 : (W.setCell ⟨w.heap.size, 0, none⟩ (.int .i64 x)).cell? ⟨w.heap.size + 1, 0, none⟩ = some (.int .i64 b) := by
    rw [World.cell?_of_block (Below.heap_setCell W _ _ (w.heap.size + 1) (by simp))]; exact h.2.1
  refine ⟨⟨?_, ?_⟩, World.cell?_setCell_same' _ _ _ (by rw [h2]; rfl), ?_⟩
  · rw [World.cell?_of_block (Below.heap_setCell _ _ _ w.heap.size (by simp))]; exact h1
  · rw [World.frozen?_setCell, World.frozen?_setCell]; exact h.1.2
  · rw [World.frozen?_setCell, World.frozen?_setCell]; exact h.2.2
def okP (l : List S95) : Prop := ∀ p ∈ l, (partE p.f1).2 = 0
theorem chk_done : ∀ {l : List S95}, okP l → chk l = (0, 0)
  | [], _ => rfl
  | p :: l, h => by
    unfold chk
    rw [if_pos (h p (List.mem_cons_self ..))]
    exact chk_done (fun q hq => h q (List.mem_cons_of_mem _ hq))
theorem chk_stop : ∀ {q : List S95} {x : S95} {r : List S95}, okP q → (partE x.f1).2 ≠ 0 → chk (q ++ [x] ++ r) = (x.f0 + (partE x.f1).1, (partE x.f1).2)
  | [], x, r, _, h => by
    show chk (x :: r) = _
    unfold chk
    rw [if_neg h]
  | p :: q, x, r, h, hx => by
    show chk (p :: (q ++ [x] ++ r)) = _
    unfold chk
    rw [if_pos (h p (List.mem_cons_self ..))]
    exact chk_stop (fun y hy => h y (List.mem_cons_of_mem _ hy)) hx
theorem isEmpty_size {x : ByteArray} : x.toList.isEmpty = true ↔ x.size = 0 := by rw [List.isEmpty_iff, toList_nil]
theorem partE_1 {x : ByteArray} (h : x.toList.isEmpty = true) : partE x = (0, 80) := by unfold partE; rw [if_pos (isEmpty_size.1 h)]
theorem ne0 {x : ByteArray} (h : x.toList.isEmpty = false) : ¬ x.size = 0 := fun e => by rw [isEmpty_size.2 e] at h; cases h
theorem partE_2 {x : ByteArray} (h : x.toList.isEmpty = false) (h1 : (120:Int) < x.size) : partE x = (0, 2) := by unfold partE; rw [if_neg (ne0 h), if_pos (by omega)]
theorem partE_3 {x : ByteArray} (h2 : x.toList = [46] ∨ x.toList = [46, 46]) : partE x = (0, 81) := by
  have hz : x.size = 1 ∨ x.size = 2 := by
    rw [Lib.size_eq, ← Lib.toList_data]
    rcases h2 with e | e <;> rw [e] <;> simp
  unfold partE; rw [if_neg (by omega), if_neg (by omega), if_pos h2]
theorem partE_5 {x : ByteArray} (h : x.toList.isEmpty = false) (h1 : (x.size : Int) ≤ 120) (h2 : ¬ x.toList = [46]) (h3 : (x.toList == [46]) = false ∧ (x.toList == [46, 46]) = false) : partE x = if 0 ≤ Lib.indexByte x.data.toList 0 then (Lib.indexByte x.data.toList 0, 82) else (0, 0) := by
  unfold partE
  rw [if_neg (ne0 h), if_neg (by omega), if_neg]
  rintro (e | e)
  · exact h2 e
  · have := h3.2; rw [e] at this; simp at this
theorem ck_leave {w W : World} {pre : List S95} {x : S95} {a e : Int} (hp : okP pre) (hC : CkI w W 0 0) (hB : Below w.heap.size w W) (hx : partE x.f1 = (a, e)) (he : e ≠ 0) (v : Int) (hv : 0 ≤ x.f0 ∧ x.f0 ≤ 400 ∧ x.f1.size ≤ 400 → v = x.f0 + a) :
    KeepsOthers W ((W.setCell ⟨w.heap.size, 0, none⟩ (.int .i64 v)).setCell ⟨w.heap.size + 1, 0, none⟩ (.int .i64 e)) ∧ (Code.ret = Code.ret ∧ ∃ q y, pre ++ [x] = q ++ [y] ∧ okP q ∧ (partE y.f1).2 ≠ 0 ∧ ∃ v', CkI w ((W.setCell ⟨w.heap.size, 0, none⟩ (.int .i64 v)).setCell ⟨w.heap.size + 1, 0, none⟩ (.int .i64 e)) v' (partE y.f1).2 ∧ (0 ≤ y.f0 ∧ y.f0 ≤ 400 ∧ y.f1.size ≤ 400 → v' = y.f0 + (partE y.f1).1)) ∧ Below w.heap.size w ((W.setCell ⟨w.heap.size, 0, none⟩ (.int .i64 v)).setCell ⟨w.heap.size + 1, 0, none⟩ (.int .i64 e)) :=
  ⟨(KeepsOthers.setCell _ _ _).trans (KeepsOthers.setCell _ _ _), ⟨rfl, pre, x, rfl, hp, by rw [hx]; exact he, v, by rw [hx]; exact hC.set v e, by rw [hx]; exact hv⟩, (hB.setCell (p := ⟨w.heap.size, 0, none⟩) (Nat.le_refl _) _).setCell (p := ⟨w.heap.size + 1, 0, none⟩) (by simp) _⟩
set_option maxRecDepth 100000 in
set_option maxHeartbeats 4000000 in
theorem check_in (F : Fence) (n : Nat) (h29 : F.fn 29) (h42 : F.fn 42) (h57 : F.fn 57) (h43 : F.fn 43) (hro : F.round = none) (hn : 20 ≤ n) (hIB : ∀ (m : Nat) (t : ByteArray) (c : Int) (W : World), 1 ≤ m → CallsIn F m Tryd.prog 43 #[.string t, .int .u8 c] W fun e W' => e = .returned (.int .i64 (Lib.indexByte t.data.toList c.toNat.toUInt8)) ∧ W' = W) (s : ByteArray) (w : World) :
    CallsIn F n Tryd.prog 29 #[.string s] w fun e w' => e = .returned (.tuple #[.int .i64 (checkF s).1, .int .i64 (checkF s).2]) ∧ Below w.heap.size w w' := by
  have h1 : 1 ≤ n := by omega
  refine callsIn_of_wp_marks Tryd.func29 rfl h29 ?_ hro
  simp only [Tryd.ntmps29, List.size_toArray, List.length_cons, List.length_nil, Nat.reduceAdd, Nat.reduceSub, Array.replicate_succ, Array.replicate_zero, List.push_toArray, List.append_toArray, List.nil_append, List.cons_append]
  by_cases hbig : 400 < s.size
  case pos =>
    have hcf : checkF s = (0, 2) := by unfold checkF; rw [if_pos hbig]
    gi_wp2
    have c0 := cell_new_l w (.int .i64 0) 3
    have c1 := cell_new_l (w.alloc (.cells #[.int .i64 0] 3)) (.int .i64 2) 27
    simp only [World.size_alloc] at c1
    refine ⟨_, ?_, by rw [hcf], ((Below.refl _ w).alloc (Nat.le_refl _) _).alloc (by simp) _⟩
    simp [results, Tryd.f29, go_sem, cell_alloc_l (.cells #[.int .i64 2] 27) c0.1, c1.1]
  case neg =>
    have hcf : checkF s = chk (pcs s) := by unfold checkF; rw [if_neg hbig]
    gi_wp2_with (gi_at_call 42; refine (each_in F (n - 1) h42 hro _ _).mono ?_; rintro e w' ⟨rfl, rfl⟩)
    have c0 := cell_new_l w (.int .i64 0) 3
    have c1 := cell_new_l (w.alloc (.cells #[.int .i64 0] 3)) (.int .i64 0) 27
    have c2 := cell_new_l ((w.alloc (.cells #[.int .i64 0] 3)).alloc (.cells #[.int .i64 0] 27)) (.string s) 9
    simp only [World.size_alloc] at c1 c2
    have hB0 : Below w.heap.size w (((w.alloc (.cells #[.int .i64 0] 3)).alloc (.cells #[.int .i64 0] 27)).alloc (.cells #[.string s] 9)) := (((Below.refl _ w).alloc (Nat.le_refl _) _).alloc (by simp) _).alloc (by simp; omega) _
    have hsm := pcG_small s s.size 0 0 (Nat.zero_le _) (by omega)
    refine wpIn_rangeFunc_ownF hro h1 (gf := 57) (lb := #[.pointer (some ⟨w.heap.size + 1 + 1, 0, none⟩)]) (by simp [go_sem]) h57 (enters_of Tryd.func57 (by kernel_rfl) rfl)
      (each_stops F (n - 1) h57 h43 hro (by omega) (fun m t W h => hIB m t 47 W h) (w.heap.size + 1 + 1) w.heap.size s (by omega) _ (by simp) c2.1) kpE_t (kpE_b (by simp; omega) (by simp)) (Below.refl _ _) (fun _ => rfl)
      (fun pre W => (okP pre ∧ CkI w W 0 0) ∧ Below w.heap.size w W)
      (fun c pre W => (c = .ret ∧ ∃ q x, pre = q ++ [x] ∧ okP q ∧ (partE x.f1).2 ≠ 0 ∧ ∃ v, CkI w W v (partE x.f1).2 ∧ (0 ≤ x.f0 ∧ x.f0 ≤ 400 ∧ x.f1.size ≤ 400 → v = x.f0 + (partE x.f1).1)) ∧ Below w.heap.size w W)
      (OwnFrom.and (Own.from (fun s A B row hs hg hr => ⟨hs.1, hs.2.own hg hr⟩) _) (ownFrom_below (Nat.le_refl _) (by simp; omega)))
      (fun c => OwnFrom.and (Own.from (fun s A B row hs hg hr => by
        obtain ⟨a1, q, x, a2, a3, a4, v, a5, a6⟩ := hs
        exact ⟨a1, q, x, a2, a3, a4, v, a5.own hg hr, a6⟩) _) (ownFrom_below (Nat.le_refl _) (by simp; omega)))
      ⟨⟨fun p hp => absurd hp (List.not_mem_nil), ⟨cell_alloc_l _ (cell_alloc_l _ c0.1), frozen_alloc_l _ (cell_alloc_l _ c0.1) (frozen_alloc_l _ c0.1 c0.2)⟩, cell_alloc_l _ c1.1, frozen_alloc_l _ c1.1 c1.2⟩, hB0⟩
      (fun x => { tmps := #[.string s, undef, .pointer (some ⟨w.heap.size, 0, none⟩), .pointer (some ⟨w.heap.size + 1, 0, none⟩), .int .i64 x.f0, .string x.f1, undef, .string s, .int .i64 s.size, .bool (decide ((400:Int) < s.size)), .string s, .func (.func 57) #[] #[.pointer (some ⟨w.heap.size + 1 + 1, 0, none⟩)], .int .i64 x.f0, .string x.f1, undef, undef, undef, undef, undef, undef, undef, undef, undef, undef, undef, undef, undef, undef, undef, undef, undef, undef, undef, undef, undef, undef, undef, undef], defers := [] }) ?assign ?body ?done ?stop
    case assign =>
      intro l x W K hK
      gi_wp2
      exact hK
    case body =>
      rintro l pre x W ⟨⟨hp, hC⟩, hB⟩ _
      obtain ⟨⟨cA, cF⟩, cB, cG⟩ := id hC
      have h11 : 1 ≤ n - 1 - 1 := by omega
      gi_wp2_with (gi_at_call 43; refine (CallsIn.inRound l (hIB (n - 1 - 1 - 1) _ _ _ (by omega))).mono ?_; rintro e w' ⟨rfl, rfl⟩)
      · exact ck_leave hp hC hB (partE_1 (by assumption)) (by decide) _ (fun h => by omega)
      · exact ck_leave hp hC hB (partE_2 (by assumption) (by assumption)) (by decide) _ (fun h => by omega)
      · exact ck_leave hp hC hB (partE_3 (.inl (by assumption))) (by decide) _ (fun h => by omega)
      · exact ck_leave hp hC hB (partE_3 (by rename_i h _ _ _ _ _ ; simp_all)) (by decide) _ (fun h => by omega)
      · have hpe := partE_5 (x := x.f1) (by assumption) (by assumption) (by assumption) (by assumption)
        rw [if_pos (by assumption)] at hpe
        have hle : Lib.indexByte x.f1.data.toList 0 ≤ x.f1.size := by rw [← Lib.index_one, Lib.size_eq]; exact Lib.index_le _ _
        exact ck_leave hp hC hB hpe (by decide) _ (fun h => wrap_id (by omega) (by omega))
      · have hpe := partE_5 (x := x.f1) (by assumption) (by assumption) (by assumption) (by assumption)
        rw [if_neg (by omega)] at hpe
        refine ⟨KeepsOthers.refl _, ⟨Below.refl _ _, rfl⟩, ⟨fun p hp' => ?_, hC⟩, hB⟩
        rcases List.mem_append.1 hp' with h | h
        · exact hp p h
        · rw [List.mem_singleton.1 h, hpe]
    case done =>
      rintro D ys W hD rfl ⟨⟨hok, hC⟩, hB⟩ hK
      obtain ⟨⟨cA, cF⟩, cB, cG⟩ := id hC
      gi_wp2
      have hK' := ((KeepsOthers.setCell W ⟨w.heap.size, 0, none⟩ (.int .i64 0)).trans (KeepsOthers.setCell (W.setCell ⟨w.heap.size, 0, none⟩ (.int .i64 0)) ⟨w.heap.size + 1, 0, none⟩ (.int .i64 0))).same D _ hK rfl
      refine ⟨by simp, .inl ⟨_, _, rfl, run_takeDeferred hK', ?_⟩⟩
      have hC' := (hC.set 0 0).own (grownBy_putObj' _ D (.deferred none)) (fun r e => by cases e; exact ⟨_, hK', rfl⟩)
      refine ⟨_, ?_, by rw [hcf, chk_done hok], ((hB.setCell (p := ⟨w.heap.size, 0, none⟩) (Nat.le_refl _) _).setCell (p := ⟨w.heap.size + 1, 0, none⟩) (by simp) _).trans (belowK_b (w := w) (Nat.le_refl _) _ D _ _ (by simp at hD; omega) hK' rfl rfl)⟩
      simp [results, Tryd.f29, go_sem, hC'.1.1, hC'.2.1]
    case stop =>
      rintro D c pre W hD hpre ⟨⟨rfl, q, x, rfl, hq, hx, v, hC, hv⟩, hB⟩ hK
      obtain ⟨r, hr⟩ := hpre
      have hm : x ∈ pcs s := by rw [← hr]; simp
      have hbd := hsm x hm
      have hcs := chk_stop (r := r) hq hx
      rw [hr] at hcs
      have hv' := hv (by omega)
      gi_wp2
      refine ⟨by simp, .inl ⟨_, _, rfl, run_takeDeferred hK, ?_⟩⟩
      have hC' := hC.own (grownBy_putObj' _ D (.deferred none)) (fun r e => by cases e; exact ⟨_, hK, rfl⟩)
      refine ⟨_, ?_, by rw [hcf, hcs, ← hv'], hB.trans (belowK_b (w := w) (Nat.le_refl _) W D _ _ (by simp at hD; omega) hK rfl rfl)⟩
      simp [results, Tryd.f29, go_sem, hC'.1.1, hC'.2.1]
end Go.Proofs.YtopehfjohifpnaaDoor.Mine
end
section
set_option linter.unusedSimpArgs false
set_option linter.unusedVariables false
namespace Go.Proofs.YtopehfjohifpnaaDoor.Mine
open Go.RowKit Go.Shelf Go.Proofs.YtopehfjohifpnaaDoorW.PrintWords Go.Proofs.YtopehfjohifpnaaDoorW.PrintLast Go.Proofs.YtopehfjohifpnaaDoorW.PrintMore Go.Proofs.YtopehfjohifpnaaDoor.Turn Go.Proofs.YtopehfjohifpnaaDoor.Doc
attribute [local go_sem] Oper.semAt_some
def splitN (s : ByteArray) : Int := Lib.lastIdx s 47 (min s.size 156)
def splitF (s : ByteArray) : ByteArray × ByteArray × Int :=
  if (checkF s).2 ≠ 0 then (⟨#[]⟩, ⟨#[]⟩, (checkF s).2) else if s.size ≤ 100 then (⟨#[]⟩, s, 0) else
  if splitN s < 0 ∨ 100 < (s.size : Int) - splitN s - 1 then (⟨#[]⟩, ⟨#[]⟩, 2) else (s.extract 0 (splitN s).toNat, s.extract ((splitN s).toNat + 1) s.size, 0)
theorem splitN_rg (s : ByteArray) : -1 ≤ splitN s ∧ splitN s < (min s.size 156 : Nat) := by
  rcases Lib.lastIdx_spec s 47 (min s.size 156) with ⟨e, _⟩ | ⟨i, hi, e, _⟩
  · unfold splitN; rw [e]; omega
  · unfold splitN; rw [e]; omega
theorem get!_extract (s : ByteArray) (m j : Nat) (hm : m ≤ s.size) (hj : j < m) : (s.extract 0 m).data[j]! = s.data[j]! := by
  have h1 : j < s.data.size := Nat.lt_of_lt_of_le hj hm
  have h2 : j < (s.extract 0 m).data.size := by rw [ByteArray.data_extract, Array.size_extract]; have : s.data.size = s.size := rfl; omega
  rw [getElem!_pos (s.extract 0 m).data j h2, getElem!_pos s.data j h1]
  simp [ByteArray.data_extract]
theorem lastIdx_cut (s : ByteArray) (c : Int) (m : Nat) (hm : m ≤ s.size) : ∀ k, k ≤ m → Lib.lastIdx (s.extract 0 m) c k = Lib.lastIdx s c k
  | 0, _ => rfl
  | k + 1, h => by
    unfold Lib.lastIdx
    rw [get!_extract s m k hm (by omega), lastIdx_cut s c m hm k (by omega)]
theorem last_cut (s : ByteArray) : Lib.lastIndexByte (s.extract 0 (min s.size 156)) 47 = splitN s := by
  unfold Lib.lastIndexByte splitN
  rw [lastIdx_cut s 47 (min s.size 156) (Nat.min_le_left _ _) _ (by rw [ByteArray.size_extract]; omega), ByteArray.size_extract]
  congr 1
  omega
theorem bt_bang (s : ByteArray) (j : Nat) (hj : j < s.size) : bt s j = ((s.data[j]!).toNat : Int) := by
  obtain ⟨x, hx, hb⟩ := bt_get s j hj
  rw [hb]
  have h1 : j < s.data.size := hj
  rw [getElem!_pos s.data j h1]
  have : s.data.toList[j]? = some s.data[j] := by simp [h1]
  rw [this] at hx
  rw [Option.some.inj hx]
def sres (s : ByteArray) : ByteArray × ByteArray × Int := if splitN s < 0 ∨ 100 < (s.size : Int) - splitN s - 1 then (⟨#[]⟩, ⟨#[]⟩, 2) else (s.extract 0 (splitN s).toNat, s.extract ((splitN s).toNat + 1) s.size, 0)
theorem check_any (s : ByteArray) (w : World) : Calls Tryd.prog 29 #[.string s] w fun e w' => e = .returned (.tuple #[.int .i64 (checkF s).1, .int .i64 (checkF s).2]) ∧ Below w.heap.size w w' :=
  callsIn_wide.1 (check_in Fence.wide 20 trivial trivial trivial trivial rfl (by omega) (fun m t c W h => callsIn_wide.2 (Tryd.strings_IndexByte t c W)) s w)
set_option maxRecDepth 100000 in
set_option maxHeartbeats 4000000 in
theorem split_any (s : ByteArray) (w : World) : Calls Tryd.prog 21 #[.string s] w fun e w' => e = .returned (.tuple #[.string (splitF s).1, .string (splitF s).2.1, .int .i64 (splitF s).2.2]) ∧ Below w.heap.size w w' := by
  have hC := check_any s w
  have hbig : (checkF s).2 = 0 → s.size ≤ 400 := fun h => by
    rcases Nat.lt_or_ge 400 s.size with h2 | h2
    · unfold checkF at h; rw [if_pos h2] at h; simp at h
    · exact h2
  have hrg := splitN_rg s
  have hcut : Lib.lastIndexByte (s.extract 0 (min (s.size : Int) 156).toNat) 47 = splitN s := by
    rw [← last_cut s]; congr 2; omega
  have hsF : splitF s = if (checkF s).2 ≠ 0 then (⟨#[]⟩, ⟨#[]⟩, (checkF s).2) else if s.size ≤ 100 then (⟨#[]⟩, s, 0) else sres s := rfl
  have hsr : sres s = if splitN s < 0 ∨ 100 < (s.size : Int) - splitN s - 1 then (⟨#[]⟩, ⟨#[]⟩, 2) else (s.extract 0 (splitN s).toNat, s.extract ((splitN s).toNat + 1) s.size, 0) := rfl
  generalize splitN s = sN at *
  generalize checkF s = ck at *
  generalize splitF s = sf at *
  generalize sres s = sr at *
  have HSF := Aside0.mk hsF
  have HSR := Aside0.mk hsr
  clear hsF hsr
  go_enter Tryd.func21, Tryd.ntmps21
  go_wp2_with (first | (go_at_call 29; refine hC.mono ?_; rintro e w' ⟨rfl, hB⟩) | (go_at_call 31; refine (Tryd.strings_LastIndexByte _ _ (by rw [ByteArray.size_extract]; omega) _).mono ?_; rintro e w'' ⟨rfl, rfl⟩; rw [hcut]))
  · have h : (ck.2 != 0) = true := by assumption
    go_ret3
    refine ⟨?_, hB⟩
    rw [HSF.out, if_pos (bne_iff_ne.1 h)]
    rfl
  · have h : (ck.2 != 0) = false := by assumption
    go_ret3
    refine ⟨?_, hB⟩
    rw [HSF.out, if_neg (fun e => e (by simpa using h)), if_pos (by omega)]
    rfl
  · have h : (ck.2 != 0) = false := by assumption
    have h0 : ck.2 = 0 := by simpa using h
    have hz := hbig h0
    have h3 : 0 ≤ sN := by assumption
    have h4 : 100 < wrap64 (wrap64 ((s.size : Int) - sN) - 1) := by rcases ‹sN < 0 ∨ 100 < wrap64 (wrap64 ((s.size : Int) - sN) - 1)› with h5 | h5; exact absurd h3 (by omega); exact h5
    rw [wrap_id (x := (s.size : Int) - sN) (by omega) (by omega), wrap_id (by omega) (by omega)] at h4
    go_ret3
    refine ⟨?_, hB⟩
    rw [HSF.out, if_neg (fun e => e h0), if_neg (by omega), HSR.out, if_pos (.inr (by omega))]
    rfl
  · have h : (ck.2 != 0) = false := by assumption
    have h0 : ck.2 = 0 := by simpa using h
    have hz := hbig h0
    have h4 : 0 ≤ sN ∧ wrap64 (wrap64 ((s.size : Int) - sN) - 1) ≤ 100 := by assumption
    obtain ⟨k, rfl⟩ : ∃ k : Nat, sN = k := ⟨sN.toNat, by omega⟩
    have hw1 : wrap64 ((k : Int) + 1) = ((k + 1 : Nat) : Int) := by rw [wrap_id (by omega) (by omega)]; rfl
    have hlt : k + 1 ≤ s.size := by omega
    rw [wrap_id (x := (s.size : Int) - k) (by omega) (by omega), wrap_id (by omega) (by omega)] at h4
    have hsl : ∀ W, (Instr.slice 9 (.string s) (some (.int .i64 (wrap64 ((k : Int) + 1)))) none none).run Tryd.prog W = .ok (.string (s.extract (k + 1) s.size)) W := fun W => by
      rw [hw1]
      exact run_slice_string_l W 9 s Tryd.underlying9 .i64 _ (by omega) (by omega)
    clear hcut hC
    go_region
    all_goals
      go_wp2_with fail
      go_ret3
      refine ⟨?_, hB.drew⟩
      rw [HSF.out, if_neg (fun e => e h0), if_neg (by omega), HSR.out, if_neg (by omega), Int.toNat_natCast]
      rfl
  · have h : (ck.2 != 0) = false := by assumption
    have h0 : ck.2 = 0 := by simpa using h
    have hz := hbig h0
    have h3 : sN < 0 := by assumption
    go_ret3
    refine ⟨?_, hB⟩
    rw [HSF.out, if_neg (fun e => e h0), if_neg (by omega), HSR.out, if_pos (.inl (by omega))]
    rfl
end Go.Proofs.YtopehfjohifpnaaDoor.Mine
end
section
set_option linter.unusedSimpArgs false
set_option linter.unusedVariables false
namespace Go.Proofs.YtopehfjohifpnaaDoor.Mine
open Go.RowKit Go.Shelf Go.Proofs.YtopehfjohifpnaaDoorW.PrintWords Go.Proofs.YtopehfjohifpnaaDoorW.PrintLast Go.Proofs.YtopehfjohifpnaaDoorW.PrintMore Go.Proofs.YtopehfjohifpnaaDoor.Turn Go.Proofs.YtopehfjohifpnaaDoor.Doc
def stepL (ps : List ByteArray) (x : ByteArray) : Option (List ByteArray) :=
  if x.toList = [] ∨ x.toList = [46] then some ps else if x.toList = [46, 46] then (if ps.length = 0 then none else some ps.dropLast) else some (ps ++ [x])
def runL : List ByteArray → List S95 → Option (List ByteArray)
  | ps, [] => some ps
  | ps, x :: l => (stepL ps x.f1).bind fun q => runL q l
theorem runL_app : ∀ (ps : List ByteArray) (a b : List S95), runL ps (a ++ b) = (runL ps a).bind fun q => runL q b
  | ps, [], b => rfl
  | ps, x :: a, b => by
    show (stepL ps x.f1).bind _ = ((stepL ps x.f1).bind _).bind _
    cases stepL ps x.f1 with
    | none => rfl
    | some q => exact runL_app q a b
def dirs (f : ByteArray) : List ByteArray := ((pcs f).map (·.f1)).dropLast
def leadE (f t : ByteArray) : Int := if (checkF f).2 ≠ 0 then (checkF f).2 else if t.size = 0 then 80 else if 400 < t.size then 2 else if 0 ≤ Lib.indexByte t.data.toList 0 then 82 else if bt t 0 = 47 then 83 else if (runL (dirs f) (pcs t)).isNone then 83 else 0
def Sml (ps : List ByteArray) : Prop := ∀ p ∈ ps, p.size ≤ 400
theorem sml_step {ps q : List ByteArray} {x : ByteArray} (h : Sml ps) (hx : x.size ≤ 400) (e : stepL ps x = some q) : Sml q ∧ q.length ≤ ps.length + 1 := by
  unfold stepL at e
  split at e
  · cases e; exact ⟨h, by omega⟩
  · split at e
    · split at e
      · cases e
      · cases e; exact ⟨fun p hp => h p (List.dropLast_subset _ hp), by simp; omega⟩
    · cases e
      refine ⟨fun p hp => ?_, by simp⟩
      rcases List.mem_append.1 hp with h1 | h1
      · exact h p h1
      · rw [List.mem_singleton.1 h1]; exact hx
theorem sml_run : ∀ {l : List S95} {ps q : List ByteArray}, Sml ps → (∀ x ∈ l, x.f1.size ≤ 400) → runL ps l = some q → Sml q ∧ q.length ≤ ps.length + l.length
  | [], ps, q, h, _, e => by cases e; exact ⟨h, by simp⟩
  | x :: l, ps, q, h, hx, e => by
    have e' : (stepL ps x.f1).bind (fun q => runL q l) = some q := e
    cases hs : stepL ps x.f1 with
    | none => rw [hs] at e'; cases e'
    | some p =>
      rw [hs] at e'
      have h1 := sml_step h (hx x (List.mem_cons_self ..)) hs
      have h2 := sml_run h1.1 (fun y hy => hx y (List.mem_cons_of_mem _ hy)) e'
      exact ⟨h2.1, by simp only [List.length_cons]; omega⟩
theorem sml_dirs {f : ByteArray} (hf : f.size ≤ 400) : Sml (dirs f) ∧ (dirs f).length ≤ 400 := by
  refine ⟨fun p hp => ?_, ?_⟩
  · obtain ⟨x, hx, rfl⟩ := List.mem_map.1 (List.dropLast_subset _ hp)
    have := pcG_small f f.size 0 0 (Nat.zero_le _) (by omega) x hx
    omega
  · have := pcG_len f f.size 0 0
    unfold dirs pcs
    simp
    omega
theorem pcG_pos (s : ByteArray) : ∀ m f i, 1 ≤ (pcG s m f i).length
  | 0, f, i => by simp [pcG]
  | m + 1, f, i => by
    unfold pcG
    split
    · simp
    · exact pcG_pos s m f (i + 1)
theorem idxB47 (s : ByteArray) : Lib.indexB s ⟨#[47]⟩ = Lib.indexByte s.data.toList 47 := Lib.index_one s.data.toList 47
theorem split_pcs (s : ByteArray) : ∀ (m a : Nat), s.size - a ≤ m → a ≤ s.size → Lib.splitB ⟨#[47]⟩ 0 (Lib.countB (s.extract a s.size) ⟨#[47]⟩) (s.extract a s.size) = (pcG s (s.size - a) a a).map (·.f1)
  | m, a, hm, ha => by
    have hsz : (s.extract a s.size).size = s.size - a := by rw [ByteArray.size_extract]; omega
    rcases Int.lt_or_le (Lib.indexByte (s.extract a s.size).data.toList 47) 0 with hneg | hpos
    · have hn : Lib.indexB (s.extract a s.size) ⟨#[47]⟩ = -1 := by
        have := Lib.indexByte_ge (s.extract a s.size).data.toList 47
        rw [idxB47]; omega
      rw [Lib.splitB_miss _ _ _ _ hn, pcs_last s a ha hneg]
      rfl
    · obtain ⟨k, hk⟩ : ∃ k : Nat, Lib.indexByte (s.extract a s.size).data.toList 47 = k := ⟨(Lib.indexByte (s.extract a s.size).data.toList 47).toNat, by omega⟩
      obtain ⟨hlt, hmo⟩ := pcs_more s a k ha hk
      have hh : Lib.indexB (s.extract a s.size) ⟨#[47]⟩ = k := by rw [idxB47]; exact hk
      rw [Lib.countB_hit _ _ k (by decide) hh, Nat.add_comm, Lib.splitB_hit _ _ _ _ k hh, hmo]
      have e1 : (s.extract a s.size).extract 0 (k + 0) = s.extract a (a + k) := by
        rw [ByteArray.extract_extract]
        congr 1 <;> omega
      have e2 : (s.extract a s.size).extract (k + (⟨#[47]⟩ : ByteArray).size) (s.extract a s.size).size = s.extract (a + k + 1) s.size := by
        rw [ByteArray.extract_extract, hsz, show (⟨#[47]⟩ : ByteArray).size = 1 from rfl]
        congr 1 <;> omega
      rw [e1, e2]
      obtain ⟨m, rfl⟩ : ∃ m', m = m' + 1 := ⟨m - 1, by omega⟩
      rw [split_pcs s m (a + k + 1) (by omega) (by omega)]
      rfl
theorem split_all (s : ByteArray) : Lib.splitB ⟨#[47]⟩ 0 (Lib.countB s ⟨#[47]⟩) s = (pcs s).map (·.f1) := by
  have h := split_pcs s s.size 0 (by omega) (Nat.zero_le _)
  have e : s.extract 0 s.size = s := by
    apply ByteArray.ext
    simp [ByteArray.data_extract]
  rw [e] at h
  exact h
theorem join_len (l : List ByteArray) (hl : Sml l) : (Lib.join (l.map (·.data.toList)) [47]).length ≤ l.length * 401 := by
  have : ∀ (l : List ByteArray), Sml l → ((l.map (·.data.toList)).map ([47] ++ ·)).flatten.length ≤ l.length * 401 := by
    intro l
    induction l with
    | nil => intro _; simp
    | cons x l ih =>
      intro h
      have h1 := h x (List.mem_cons_self ..)
      have h2 := ih (fun p hp => h p (List.mem_cons_of_mem _ hp))
      rw [Lib.size_eq] at h1
      simp only [List.map_cons, List.flatten_cons, List.length_append, List.length_cons, List.length_nil] at h2 ⊢
      omega
  cases l with
  | nil => simp [Lib.join_nil]
  | cons x r =>
    have h1 := hl x (List.mem_cons_self ..)
    have h2 := this r (fun p hp => hl p (List.mem_cons_of_mem _ hp))
    rw [Lib.size_eq] at h1
    rw [List.map_cons, Lib.join_cons, List.length_append, List.length_cons]
    have h3 : (Lib.joinTail [47] (r.map (·.data.toList))).length ≤ r.length * 401 := h2
    omega
end Go.Proofs.YtopehfjohifpnaaDoor.Mine
end
