import Derived.Test.YtopehfjohifpnaaDoorZ8
import Derived.Maps.AppendAt
import Derived.Maps.OwnIn
import Derived.Lib.AtoiErrMem
import Derived.Test.YtopehfjohifpnaaDoorZ3
import Derived.Laws.EntriesVeiled
section
set_option linter.unusedSimpArgs false
set_option linter.unusedVariables false
namespace Go.Proofs.YtopehfjohifpnaaDoor.Mine
open Go.RowKit Go.Shelf Go.Proofs.YtopehfjohifpnaaDoorW.PrintWords Go.Proofs.YtopehfjohifpnaaDoorW.PrintLast Go.Proofs.YtopehfjohifpnaaDoorW.PrintMore Go.Proofs.YtopehfjohifpnaaDoor.Turn Go.Proofs.YtopehfjohifpnaaDoor.Doc
attribute [local go_sem] Oper.semAt_some
theorem ownsRow_cut {W : World} {base e g cap n k : Nat} {xs : List Value} (h : W.ownsRow base e 1 (.slice (some ⟨g, 0, none⟩) n cap) n xs) (hk : k ≤ n) : W.ownsRow base e 1 (.slice (some ⟨g, 0, none⟩) k cap) k (xs.take k) := by
  refine ⟨by rw [List.length_take, h.1]; omega, .inr ?_⟩
  rcases h.2 with ⟨hv, _⟩ | ⟨g', cap', cur, hv, hb, hg, h1, h2, h3, h4⟩
  · cases hv
  · cases hv
    refine ⟨g, cap, cur, rfl, hb, hg, by omega, h2, h3, ?_⟩
    rw [← h4, List.take_take]
    congr 1
    omega
def LdI (w W : World) (a : ByteArray) (b : Int) : Prop := (W.cell? ⟨w.heap.size, 0, none⟩ = some (.string a) ∧ W.frozen? ⟨w.heap.size, 0, none⟩ = false) ∧ W.cell? ⟨w.heap.size + 1, 0, none⟩ = some (.int .i64 b) ∧ W.frozen? ⟨w.heap.size + 1, 0, none⟩ = false
theorem LdI.own {w W W' : World} {a : ByteArray} {b : Int} {row : Option Nat} (h : LdI w W a b) (hg : W.grownBy W' row) (hr : ∀ r, row = some r → ∃ o : Obj, W.heap[r]? = some o ∧ o.isCells = false) : LdI w W' a b :=
  ⟨⟨cell_kept h.1.1 hg hr, (frozen_kept h.1.1 hg hr).trans h.1.2⟩, cell_kept h.2.1 hg hr, (frozen_kept h.2.1 hg hr).trans h.2.2⟩
theorem LdI.below {w W W' : World} {a : ByteArray} {b : Int} {n : Nat} (h : LdI w W a b) (hB : Below n W W') (hn : w.heap.size + 1 < n) : LdI w W' a b :=
  ⟨⟨(hB.cell (p := ⟨w.heap.size, 0, none⟩) (by show w.heap.size < n; omega)).trans h.1.1, (hB.frozen (p := ⟨w.heap.size, 0, none⟩) (by show w.heap.size < n; omega)).trans h.1.2⟩, (hB.cell (p := ⟨w.heap.size + 1, 0, none⟩) hn).trans h.2.1, (hB.frozen (p := ⟨w.heap.size + 1, 0, none⟩) hn).trans h.2.2⟩
theorem LdI.set {w W : World} {a : ByteArray} {b : Int} (h : LdI w W a b) (x : ByteArray) (y : Int) : LdI w ((W.setCell ⟨w.heap.size, 0, none⟩ (.string x)).setCell ⟨w.heap.size + 1, 0, none⟩ (.int .i64 y)) x y := by
  have h1 : (W.setCell ⟨w.heap.size, 0, none⟩ (.string x)).cell? ⟨w.heap.size, 0, none⟩ = some (.string x) := World.cell?_setCell_same' _ _ _ (by rw [h.1.1]; rfl)
  have h2 : (W.setCell ⟨w.heap.size, 0, none⟩ (.string x)).cell? ⟨w.heap.size + 1, 0, none⟩ = some (.int .i64 b) := by
    rw [World.cell?_of_block (Below.heap_setCell W _ _ (w.heap.size + 1) (by simp))]; exact h.2.1
  refine ⟨⟨?_, ?_⟩, World.cell?_setCell_same' _ _ _ (by rw [h2]; rfl), ?_⟩
  · rw [World.cell?_of_block (Below.heap_setCell _ _ _ w.heap.size (by simp))]; exact h1
  · rw [World.frozen?_setCell, World.frozen?_setCell]; exact h.1.2
  · rw [World.frozen?_setCell, World.frozen?_setCell]; exact h.2.2
theorem below_set2 {w W : World} (hB : Below w.heap.size w W) (u v : Value) : Below w.heap.size w ((W.setCell ⟨w.heap.size, 0, none⟩ u).setCell ⟨w.heap.size + 1, 0, none⟩ v) :=
  (hB.setCell (p := ⟨w.heap.size, 0, none⟩) (Nat.le_refl _) _).setCell (p := ⟨w.heap.size + 1, 0, none⟩) (by simp) _
theorem split_pc (f : ByteArray) (hf : f.size ≤ 400) (m : Int) (w : World) (hm : w.cell? ⟨1, 0, none⟩ = some (.int .i64 m)) (d : Nat) (L : Array Value) (hd : (pcs f).length = d) (hL : (((pcs f).map (·.f1)).map Value.string).toArray = L) : Calls Tryd.prog 67 #[.string f, .string ⟨#[47]⟩] w fun e w' =>
    e = .returned (.slice (some ⟨w.heap.size, 0, none⟩) d d) ∧ w' = w.alloc (.cells L 9) := by
  subst hd
  subst hL
  have h := Tryd.strings_Split f ⟨#[47]⟩ m w (by omega) hm (by decide)
  have hl := Lib.splitB_all ⟨#[47]⟩ (by decide) 0 _ f rfl
  rw [split_all] at h hl
  rw [List.length_map] at hl
  rw [← hl] at h
  exact h
theorem pcs_d (f : ByteArray) (hf : f.size ≤ 400) : ∃ d, (pcs f).length = d + 1 ∧ d ≤ 400 := by
  have h1 := pcG_len f f.size 0 0
  have h2 := pcG_pos f f.size 0 0
  refine ⟨(pcs f).length - 1, ?_, ?_⟩ <;> unfold pcs <;> omega
theorem exL (f : ByteArray) : ∃ L : Array Value, (((pcs f).map (·.f1)).map Value.string).toArray = L := ⟨_, rfl⟩
theorem ck_zero {x : Int} (h : (x != 0) = false) : x = 0 := by simpa using h
theorem bt_zero (t : ByteArray) (h : 0 < t.size) : bt t 0 = (t[0].toNat : Int) := by
  unfold bt
  rw [dif_pos (by simpa using h)]
  rfl
theorem join_row {W : World} {base g cap : Nat} {ps : List ByteArray} (h : W.ownsRow base 9 1 (.slice (some ⟨g, 0, none⟩) ps.length cap) ps.length (ps.map Value.string)) (hs : Sml ps) (hn : ps.length ≤ 1000) :
    Calls Tryd.prog 68 #[.slice (some ⟨g, 0, none⟩) ps.length cap, .string ⟨#[47]⟩] W fun e w' => (∃ r, e = .returned (.string r)) ∧ Below W.heap.size W w' := by
  have hl := join_len ps hs
  have hlt := h.lt g rfl
  have hcap : ps.length ≤ cap := by
    rcases h.2 with ⟨hv, _⟩ | ⟨g', cap', cur, hv, _, _, hc, _⟩
    · cases hv
    · cases hv; exact hc
  refine (Tryd.strings_Join g 0 cap ps ⟨#[47]⟩ W (fun j x hj => ?_) hlt.2 (by omega) hcap (by show (Lib.join (ps.map (·.data.toList)) [47]).length ≤ _; omega)).mono ?_
  · have := h.cells (g := g) rfl j (.string x) (by rw [List.getElem?_map, hj]; rfl)
    have e : (⟨g, 0, none⟩ : Addr).add j = ⟨g, 0 + j, none⟩ := by unfold Addr.add; split <;> simp_all
    rw [← e]
    exact this
  · rintro e w' ⟨rfl, hB⟩
    exact ⟨⟨_, rfl⟩, hB⟩
theorem lead_ret {w W : World} {le : Int} (hL : LdI w W ⟨#[]⟩ 0) (hB : Below w.heap.size w W) (e : Int) (he : le = e) (tmps : Array Value) (h4 : tmps[4]? = some (.pointer (some ⟨w.heap.size, 0, none⟩))) (h5 : tmps[5]? = some (.pointer (some ⟨w.heap.size + 1, 0, none⟩))) :
    bodyPostM Fence.wide 30 Tryd.prog Tryd.f59 (fun e w' => (∃ r, e = .returned (.tuple #[.string r, .int .i64 le])) ∧ Below w.heap.size w w') Exit.ret { tmps := tmps, defers := [] }
      ((W.setCell ⟨w.heap.size, 0, none⟩ (.string ⟨#[]⟩)).setCell ⟨w.heap.size + 1, 0, none⟩ (.int .i64 e)) := by
  have hS := hL.set ⟨#[]⟩ e
  refine ⟨.tuple #[.string ⟨#[]⟩, .int .i64 e], ?_, ⟨_, by rw [he]⟩, below_set2 hB _ _⟩
  simp [results, Tryd.f59, go_sem, hS.1.1, hS.2.1, h4, h5]
def LdW (w : World) (B Bn : Nat) (ps : List ByteArray) (W : World) : Prop := LdI w W ⟨#[]⟩ 0 ∧ ∃ g cap, Boxed W B 97 (.slice (some ⟨g, 0, none⟩) ps.length cap) ∧ W.ownsRow (w.heap.size + 2) 9 1 (.slice (some ⟨g, 0, none⟩) ps.length cap) ps.length (ps.map Value.string) ∧ g ≠ Bn ∧ Bn < W.heap.size
theorem LdW.own {w W W' : World} {B Bn : Nat} {ps : List ByteArray} {row : Option Nat} (h : LdW w B Bn ps W) (hg : W.grownBy W' row) (hrow : ∀ r, row = some r → ∃ o : Obj, W.heap[r]? = some o ∧ o.isCells = false) : LdW w B Bn ps W' := by
  obtain ⟨h1, g, cap, h2, h3, h4⟩ := h
  refine ⟨h1.own hg hrow, g, cap, h2.kept hg (fun e' => ?_), h3.kept hg (.inr fun e' => ?_), h4.1, Nat.lt_of_lt_of_le h4.2 hg.size⟩
  · obtain ⟨o, ho, hc⟩ := hrow B e'.symm
    rw [show W.heap[B]? = _ from h2] at ho; cases ho; cases hc
  · rcases h3.2 with ⟨hv, _⟩ | ⟨g', cap', cur, hv, _, hgb, _⟩
    · cases hv
    · cases hv
      obtain ⟨o, ho, hc⟩ := hrow g (by simpa [Value.ownBlock] using e'.symm)
      rw [hgb] at ho; cases ho; cases hc
theorem info9 : (Tryd.prog.info? 9).map (fun i => (i.zero, i.size, i.bytes)) = some (some (.string ⟨#[]⟩), 1, 16) := by kernel_rfl
theorem ownsRow_le {W : World} {base e g cap n k : Nat} {xs : List Value} (h : W.ownsRow base e 1 (.slice (some ⟨g, 0, none⟩) n cap) k xs) : k ≤ cap := by
  rcases h.2 with ⟨hv, _⟩ | ⟨g', cap', cur, hv, _, _, hc, _⟩
  · cases hv
  · cases hv; exact hc
theorem len_run : ∀ {l : List S95} {ps q : List ByteArray}, runL ps l = some q → q.length ≤ ps.length + l.length
  | [], ps, q, e => by cases e; simp
  | x :: l, ps, q, e => by
    have e' : (stepL ps x.f1).bind (fun q => runL q l) = some q := e
    cases hs : stepL ps x.f1 with
    | none => rw [hs] at e'; cases e'
    | some p =>
      rw [hs] at e'
      have h2 := len_run (l := l) (ps := p) (q := q) e'
      have h1 : p.length ≤ ps.length + 1 := by
        unfold stepL at hs
        split at hs
        · cases hs; omega
        · split at hs
          · split at hs
            · cases hs
            · cases hs; simp; omega
          · cases hs; simp
      simp only [List.length_cons]
      omega
theorem runL_snoc (ps : List ByteArray) (a : List S95) (x : S95) (q : List ByteArray) (h : runL ps a = some q) : runL ps (a ++ [x]) = stepL q x.f1 := by
  rw [runL_app, h, Option.bind_some]
  show (stepL q x.f1).bind (fun q => some q) = _
  simp
set_option maxRecDepth 100000 in
set_option maxHeartbeats 4000000 in
theorem lead_any (f t : ByteArray) (m : Int) (w : World) (hm : w.cell? ⟨1, 0, none⟩ = some (.int .i64 m)) : Calls Tryd.prog 59 #[.string f, .string t] w fun e w' => (∃ r, e = .returned (.tuple #[.string r, .int .i64 (leadE f t)])) ∧ Below w.heap.size w w' := by
  refine (callsIn_wide (n := 30)).1 ?_
  have h1 : 1 ≤ 30 := by omega
  have hro : Fence.wide.round = none := rfl
  have hIB : ∀ (k : Nat) (t : ByteArray) (c : Int) (W : World), 1 ≤ k → CallsIn Fence.wide k Tryd.prog 43 #[.string t, .int .u8 c] W fun e W' => e = .returned (.int .i64 (Lib.indexByte t.data.toList c.toNat.toUInt8)) ∧ W' = W := fun k t c W _ => callsIn_wide.2 (Tryd.strings_IndexByte t c W)
  have hbig : (checkF f).2 = 0 → f.size ≤ 400 := fun h => by
    rcases Nat.lt_or_ge 400 f.size with h2 | h2
    · unfold checkF at h; rw [if_pos h2] at h; simp at h
    · exact h2
  have hlt1 : 1 < w.heap.size := Lib.lt_of_cell (a := ⟨1, 0, none⟩) hm
  refine callsIn_of_wp_marks Tryd.func59 rfl trivial ?_ hro
  simp only [Tryd.ntmps59, List.size_toArray, List.length_cons, List.length_nil, Nat.reduceAdd, Nat.reduceSub, Array.replicate_succ, Array.replicate_zero, List.push_toArray, List.append_toArray, List.nil_append, List.cons_append]
  have c0 := cell_new_l w (.string ⟨#[]⟩) 9
  have c1 := cell_new_l (w.alloc (.cells #[.string ⟨#[]⟩] 9)) (.int .i64 0) 27
  simp only [World.size_alloc] at c1
  have hL0 : LdI w ((w.alloc (.cells #[.string ⟨#[]⟩] 9)).alloc (.cells #[.int .i64 0] 27)) ⟨#[]⟩ 0 := ⟨⟨cell_alloc_l _ c0.1, frozen_alloc_l _ c0.1 c0.2⟩, c1.1, c1.2⟩
  have hB0 : Below w.heap.size w ((w.alloc (.cells #[.string ⟨#[]⟩] 9)).alloc (.cells #[.int .i64 0] 27)) := ((Below.refl _ w).alloc (Nat.le_refl _) _).alloc (by simp) _
  have hC := check_any f ((w.alloc (.cells #[.string ⟨#[]⟩] 9)).alloc (.cells #[.int .i64 0] 27))
  simp only [World.size_alloc] at hC
  have hlE : leadE f t = leadE f t := rfl
  conv at hlE => rhs; unfold leadE
  generalize leadE f t = le at *
  have HIB := Aside0.mk hIB
  have HLE := Aside0.mk hlE
  clear hIB hlE
  gi_wp2_with (first | (refine ⟨trivial, ?_⟩; gi_at_call 29; refine (callsIn_wide.2 hC).mono ?_; rintro e w1 ⟨rfl, hB1⟩; have hL1 := hL0.below hB1 (by omega); have hBw := hB0.trans (hB1.mono (by omega)); have hz1 : w.heap.size + 2 ≤ w1.heap.size := by { have := hB1.size; simp at this; omega }; have q1 := hL1.1.1; have q2 := hL1.1.2; have q3 := hL1.2.1; have q4 := hL1.2.2; have hm1 := (hBw.cell (p := ⟨1, 0, none⟩) hlt1).trans hm; clear hC) | (refine ⟨trivial, ?_⟩; gi_at_call 43; refine (HIB.out _ _ _ _ (by omega)).mono ?_; rintro e w2 ⟨rfl, hw2⟩; rw [hw2]) | (refine ⟨trivial, ?_⟩; gi_at_call 67; have hf := hbig (ck_zero (by assumption)); obtain ⟨d, hd, hd4⟩ := pcs_d f hf; obtain ⟨L, hL⟩ := exL f; refine (callsIn_wide.2 (split_pc f hf m w1 hm1 (d + 1) L hd hL)).mono ?_; rintro e w3 ⟨rfl, hw3⟩; rw [hw3]))
  · have h : ((checkF f).2 != 0) = true := by assumption
    refine lead_ret hL1 hBw _ ?_ _ rfl rfl
    rw [HLE.out, if_pos (bne_iff_ne.1 h)]
  · have h := ck_zero (x := (checkF f).2) (by assumption)
    have h1 : t.toList.isEmpty = true := by assumption
    refine lead_ret hL1 hBw _ ?_ _ rfl rfl
    rw [HLE.out, if_neg (fun e => e h), if_pos (isEmpty_size.1 h1)]
  · have h := ck_zero (x := (checkF f).2) (by assumption)
    have h1 : t.toList.isEmpty = false := by assumption
    refine lead_ret hL1 hBw _ ?_ _ rfl rfl
    rw [HLE.out, if_neg (fun e => e h), if_neg (ne0 h1), if_pos (by omega)]
  · have h := ck_zero (x := (checkF f).2) (by assumption)
    have h1 : t.toList.isEmpty = false := by assumption
    refine lead_ret hL1 hBw _ ?_ _ rfl rfl
    rw [HLE.out, if_neg (fun e => e h), if_neg (ne0 h1), if_neg (by omega), if_pos (by assumption)]
  · have h := ck_zero (x := (checkF f).2) (by assumption)
    have h1 : t.toList.isEmpty = false := by assumption
    have h2 := bt_zero t (by have := ne0 h1; omega)
    refine lead_ret hL1 hBw _ ?_ _ rfl rfl
    have h3 : bt t 0 = 47 := by rw [h2]; exact eq_of_beq (by assumption)
    rw [HLE.out, if_neg (fun e => e h), if_neg (ne0 h1), if_neg (by omega), if_neg (by omega), if_pos h3]
  case isFalse =>
    have h1 : t.toList.isEmpty = false := by assumption
    exact absurd (ne0 h1) (by omega)
  · have h := ck_zero (x := (checkF f).2) (by assumption)
    have hte : t.toList.isEmpty = false := by assumption
    have htz := ne0 hte
    have hb0 := bt_zero t (by omega)
    have hb1 : ((t[0].toNat : Int) == 47) = false := by assumption
    have hle : le = if (runL (dirs f) (pcs t)).isNone then 83 else 0 := by
      rw [HLE.out, if_neg (fun e => e h), if_neg htz, if_neg (by omega), if_neg (by omega), if_neg]
      rw [hb0]
      intro e
      rw [e] at hb1
      cases hb1
    have hdl : (dirs f).length = d := by unfold dirs; rw [List.length_dropLast, List.length_map, hd]; rfl
    have hL' : L.toList = ((pcs f).map (·.f1)).map Value.string := by rw [← hL]
    have hLs : L.size = d + 1 := by rw [← hL]; simp [hd]
    have htk : L.toList.take d = (dirs f).map Value.string := by
      rw [hL', ← List.map_take]
      congr 1
      unfold dirs
      rw [List.dropLast_eq_take, List.length_map, hd]
      rfl
    clear HLE HIB
    obtain ⟨W2, hW2⟩ : ∃ W2, (w1.alloc (.cells L 9)).alloc (.cells #[.slice (some ⟨w1.heap.size, 0, none⟩) d (d + 1)] 97) = W2 := ⟨_, rfl⟩
    rw [hW2]
    have hs2 : W2.heap.size = w1.heap.size + 2 := by rw [← hW2]; simp
    have hB2 : Below w.heap.size w W2 := by rw [← hW2]; exact (hBw.alloc (by omega) _).alloc (by simp; omega) _
    have hL2 : LdI w W2 ⟨#[]⟩ 0 := by
      rw [← hW2]
      refine hL1.below (n := w1.heap.size) (((Below.refl _ w1).alloc (Nat.le_refl _) _).alloc (by simp) _) (by omega)
    have hbx : Boxed W2 (w1.heap.size + 1) 97 (.slice (some ⟨w1.heap.size, 0, none⟩) d (d + 1)) := by
      rw [← hW2]
      have := Boxed.new (w1.alloc (.cells L 9)) 97 (.slice (some ⟨w1.heap.size, 0, none⟩) d (d + 1))
      rw [World.size_alloc] at this
      exact this
    have hrow : W2.ownsRow (w.heap.size + 2) 9 1 (.slice (some ⟨w1.heap.size, 0, none⟩) d (d + 1)) d ((dirs f).map Value.string) := by
      rw [← hW2]
      refine ⟨by rw [List.length_map, hdl]; omega, .inr ⟨w1.heap.size, d + 1, L, rfl, hz1, ?_, by omega, by unfold maxLen; omega, by omega, by rw [Nat.mul_one]; exact htk⟩⟩
      exact (Below.heap_alloc _ _ _ (by simp)).trans (World.alloc_heap_new w1 _)
    refine ⟨trivial, ?_⟩
    gi_at_call 42
    refine (each_in Fence.wide 29 trivial rfl t _).mono ?_
    rintro e w' ⟨rfl, rfl⟩
    gi_wp2
    have cT := cell_new_l W2 (.string t) 9
    have hlen := pcG_len t t.size 0 0
    refine wpIn_rangeFunc_ownF hro h1 (gf := 57) (lb := #[.pointer (some ⟨W2.heap.size, 0, none⟩)]) (by simp [go_sem]) trivial (enters_of Tryd.func57 (by kernel_rfl) rfl)
      (each_stops Fence.wide 29 trivial trivial rfl (by omega) (fun m t W _ => callsIn_wide.2 (Tryd.strings_IndexByte t 47 W)) W2.heap.size w.heap.size t (by omega) _ (by simp) cT.1) kpE_t (kpE_b (by simp; omega) (by simp)) (Below.refl _ _) (fun _ => rfl)
      (fun pre W => (∃ ps, runL (dirs f) pre = some ps ∧ LdW w (w1.heap.size + 1) W2.heap.size ps W) ∧ Below w.heap.size w W)
      (fun c pre W => (c = .ret ∧ runL (dirs f) pre = none ∧ LdI w W ⟨#[]⟩ 83) ∧ Below w.heap.size w W)
      (OwnFrom.and (Own.from (fun s A B row hs hg hr => by
        obtain ⟨ps, a1, a2⟩ := hs
        exact ⟨ps, a1, a2.own hg hr⟩) _) (ownFrom_below (Nat.le_refl _) (by simp; omega)))
      (fun c => OwnFrom.and (Own.from (fun s A B row hs hg hr => ⟨hs.1, hs.2.1, hs.2.2.own hg hr⟩) _) (ownFrom_below (Nat.le_refl _) (by simp; omega)))
      ⟨⟨dirs f, rfl, hL2.own (World.grownBy_alloc _ _ none) (fun r e => by cases e), w1.heap.size, d + 1, by rw [hdl]; exact hbx.alloc _, by rw [hdl]; exact hrow.alloc _, by omega, by simp⟩, hB2.alloc (by omega) _⟩
      ?a1 ?assign ?body ?done ?stop
    case assign =>
      intro l x W K hK
      gi_wp2
      exact hK
    case body =>
      rintro l pre x W ⟨⟨ps, hps, hI, g, cap, hbx, hrow, hne, hBn⟩, hB⟩ hlt
      have hbd := len_run hps
      have hln : ps.length ≤ 802 := by unfold pcs at hlt; omega
      obtain ⟨⟨cA, cF⟩, cB, cG⟩ := id hI
      have hbc := hbx.cell
      have hbf := hbx.frozen
      have hrs := runL_snoc _ _ x _ hps
      have HRS := Aside0.mk hrs
      have HL := Aside0.mk hL
      have HTK := Aside0.mk htk
      have HL' := Aside0.mk hL'
      have HPS := Aside0.mk hps
      clear hrs hL htk hL' hps
      have hcap := ownsRow_le hrow
      obtain ⟨i0, hi, hz0, hz1, hz2⟩ := info_parts info9
      have hWs : w.heap.size + 2 ≤ W.heap.size := by have := hbx.lt; omega
      gi_wp2_with (gi_at_builtin; refine wpListIn_append_own_at _ rfl _ _ 97 rfl (w.heap.size + 2) 9 i0 (.string ⟨#[]⟩) 1 16 Tryd.underlying97 hi hz0 hz1 hz2 rfl (by decide) (.slice (some ⟨g, 0, none⟩) ps.length cap) _ _ rfl (hrow.alloc _) ⟨W.heap.size, 0, none⟩ 1 1 [.string x.f1] rfl rfl (cell_one_new _ _ _) (by simp [Value.oneCell']) (by unfold maxLen; omega) (by omega) (by simp; omega) ?_; intro v' w4 hown' hgrow _ hat; obtain ⟨g', cap', rfl⟩ := ownsRow_succ hown'; obtain ⟨hv1, hv2, hr2, hk2, hb2⟩ := hbx.appended (by decide) hrow hWs (by omega) hown' hgrow; have hc1 := hv1.cell; have hf1 := hv1.frozen)
      · have he : x.f1.toList.isEmpty = true := by assumption
        refine ⟨KeepsOthers.refl _, ⟨Below.refl _ _, rfl⟩, ⟨ps, ?_, hI, g, cap, hbx, hrow, hne, hBn⟩, hB⟩
        rw [HRS.out]
        exact if_pos (.inl (List.isEmpty_iff.1 he))
      · exact absurd ‹x.f1.toList.isEmpty = true› (by rw [‹x.f1.toList.isEmpty = false›]; decide)
      · exact absurd ‹x.f1.toList.isEmpty = true› (by rw [‹x.f1.toList.isEmpty = false›]; decide)
      · exact absurd ‹x.f1.toList.isEmpty = true› (by rw [‹x.f1.toList.isEmpty = false›]; decide)
      · exact absurd ‹x.f1.toList.isEmpty = true› (by rw [‹x.f1.toList.isEmpty = false›]; decide)
      · refine ⟨KeepsOthers.refl _, ⟨Below.refl _ _, rfl⟩, ⟨ps, ?_, hI, g, cap, hbx, hrow, hne, hBn⟩, hB⟩
        rw [HRS.out]
        exact if_pos (.inr (by first | assumption | exact eq_of_beq (by assumption)))
      · have hn1 : ¬ x.f1.toList = [] := fun e => by have h5 := ‹x.f1.toList.isEmpty = false›; rw [e] at h5; cases h5
        have hn3 : x.f1.toList = [46, 46] := by first | assumption | exact eq_of_beq (by assumption)
        have hn2 : ¬ x.f1.toList = [46] := fun e => by rw [e] at hn3; cases hn3
        have h0 : ps.length = 0 := by have h5 := ‹((ps.length : Int) == 0) = true›; have := eq_of_beq h5; omega
        refine ⟨(KeepsOthers.setCell _ _ _).trans (KeepsOthers.setCell _ _ _), ⟨rfl, ?_, hI.set _ _⟩, below_set2 hB _ _⟩
        rw [HRS.out]
        unfold stepL
        rw [if_neg (fun e => e.elim hn1 hn2), if_pos hn3, if_pos h0]
      · have hn1 : ¬ x.f1.toList = [] := fun e => by have h5 := ‹x.f1.toList.isEmpty = false›; rw [e] at h5; cases h5
        have hn3 : x.f1.toList = [46, 46] := by first | assumption | exact eq_of_beq (by assumption)
        have hn2 : ¬ x.f1.toList = [46] := fun e => by rw [e] at hn3; cases hn3
        have h0 : ¬ ps.length = 0 := by have h5 := ‹((ps.length : Int) == 0) = false›; have := ne_of_beq_false h5; omega
        have hbs := hbx.set (.slice (some ⟨g, 0, none⟩) (ps.length - 1) cap)
        refine ⟨KeepsOthers.setCell _ _ _, ⟨(Below.refl _ _).setCell (p := ⟨w1.heap.size + 1, 0, none⟩) (by simp; omega) _, Below.heap_setCell _ _ _ _ (by simp; omega)⟩, ⟨ps.dropLast, ?_, ?_, g, cap, ?_, ?_, hne, by simpa using hBn⟩, hB.setCell (p := ⟨w1.heap.size + 1, 0, none⟩) (by simp; omega) _⟩
        · rw [HRS.out]
          unfold stepL
          rw [if_neg (fun e => e.elim hn1 hn2), if_pos hn3, if_neg h0]
        · exact hI.below (n := w1.heap.size + 1) ((Below.refl _ _).setCell (p := ⟨w1.heap.size + 1, 0, none⟩) (Nat.le_refl _) _) (by omega)
        · rw [List.length_dropLast]; exact hbs
        · rw [List.length_dropLast, List.map_dropLast, List.dropLast_eq_take, List.length_map]
          exact (ownsRow_cut hrow (Nat.sub_le _ _)).kept (grownBy_setCell' W _ _) (.inr (hbx.not_row (by decide) hrow).symm)
      · have h0 : ¬ ps.length = 0 := by have h5 := ‹((ps.length : Int) == 0) = false›; have := ne_of_beq_false h5; omega
        exfalso; omega
      · have hn1 : ¬ x.f1.toList = [] := fun e => by have h5 := ‹x.f1.toList.isEmpty = false›; rw [e] at h5; cases h5
        have hn2 : ¬ x.f1.toList = [46] := fun e => by simp_all
        have hn3 : ¬ x.f1.toList = [46, 46] := fun e => by simp_all
        refine ⟨hk2, ⟨hb2.mono (by omega), ?_⟩, ⟨ps ++ [x.f1], ?_, hI.below hb2 (by omega), g', cap', by rw [List.length_append]; exact hv2, by rw [List.length_append, List.map_append]; exact hr2, ?_, ?_⟩, hB.trans (hb2.mono (by omega))⟩
        · rw [Below.heap_setCell _ _ _ _ (by simp; omega)]
          exact (hgrow.block W2.heap.size (by simp; omega) (fun e => hne (by simpa [Value.ownBlock] using e.symm))).trans (Below.heap_alloc _ _ _ hBn)
        · rw [HRS.out]
          unfold stepL
          rw [if_neg (fun e => e.elim hn1 hn2), if_neg hn3]
        · rcases hat with e | e
          · have h5 : g' = g := by simpa [Value.ownBlock] using e
            rw [h5]
            exact hne
          · have h5 : g' = (W.alloc (.cells #[.string x.f1] 9)).heap.size := by simpa [Value.ownBlock] using e
            rw [World.size_alloc] at h5
            omega
        · have := hb2.size
          simp at this ⊢
          have := hgrow.size
          simp at this
          omega
    case done =>
      rintro D ys W hD rfl ⟨⟨ps, hps, hI, g, cap, hbx, hrow, hne, hBn⟩, hB⟩ hK
      have hsm := sml_run (sml_dirs hf).1 (fun x hx => by have := pcG_small t t.size 0 0 (Nat.zero_le _) (by omega) x hx; omega) hps
      have hpl : ps.length ≤ 1000 := by unfold pcs at hsm; omega
      have hbc := hbx.cell
      have hbf := hbx.frozen
      have hWs : w.heap.size + 2 ≤ W.heap.size := by have := hbx.lt; omega
      have hDW : D < W.heap.size := (Array.getElem?_eq_some_iff.1 hK).1
      have HLE : Aside0 (le = 0) := ⟨by rw [hle, hps]; rfl⟩
      clear hL htk hL' hle
      gi_wp2_with (refine ⟨trivial, ?_⟩; gi_at_call 68; refine (callsIn_wide.2 (join_row hrow hsm.1 hpl)).mono ?_; rintro e w5 ⟨⟨r, rfl⟩, hB5⟩; have hI5 := hI.below hB5 (by omega); have q1 := hI5.1.1; have q2 := hI5.1.2; have q3 := hI5.2.1; have q4 := hI5.2.2)
      have hK5 : w5.heap[D]? = some (.deferred (some [])) := (hB5.block D hDW).trans hK
      have hK' := ((KeepsOthers.setCell w5 ⟨w.heap.size, 0, none⟩ (.string r)).trans (KeepsOthers.setCell (w5.setCell ⟨w.heap.size, 0, none⟩ (.string r)) ⟨w.heap.size + 1, 0, none⟩ (.int .i64 0))).same D _ hK5 rfl
      refine ⟨by simp, .inl ⟨_, _, rfl, run_takeDeferred hK', ?_⟩⟩
      have hC' := (hI5.set r 0).own (grownBy_putObj' _ D (.deferred none)) (fun r e => by cases e; exact ⟨_, hK', rfl⟩)
      refine ⟨_, ?_, ⟨r, by rw [HLE.out]⟩, (below_set2 (hB.trans (hB5.mono (by omega))) _ _).trans (belowK_b (w := w) (Nat.le_refl _) _ D _ _ (by simp at hD; omega) hK' rfl rfl)⟩
      simp [results, Tryd.f59, go_sem, hC'.1.1, hC'.2.1]
    case stop =>
      rintro D c pre W hD hpre ⟨⟨rfl, hnone, hI⟩, hB⟩ hK
      obtain ⟨r, hr⟩ := hpre
      have hn : runL (dirs f) (pcs t) = none := by rw [← hr, runL_app, hnone]; rfl
      gi_wp2
      refine ⟨by simp, .inl ⟨_, _, rfl, run_takeDeferred hK, ?_⟩⟩
      have hC' := hI.own (grownBy_putObj' _ D (.deferred none)) (fun r e => by cases e; exact ⟨_, hK, rfl⟩)
      refine ⟨_, ?_, ⟨⟨#[]⟩, by rw [hle, hn, Option.isNone_none, if_pos rfl]⟩, hB.trans (belowK_b (w := w) (Nat.le_refl _) W D _ _ (by simp at hD; omega) hK rfl rfl)⟩
      simp [results, Tryd.f59, go_sem, hC'.1.1, hC'.2.1]
end Go.Proofs.YtopehfjohifpnaaDoor.Mine
end
section
set_option linter.unusedSimpArgs false
set_option linter.unusedVariables false
namespace Go.Proofs.YtopehfjohifpnaaDoor.Mine
open Go.RowKit Go.Shelf Go.Proofs.YtopehfjohifpnaaDoorW.PrintWords Go.Proofs.YtopehfjohifpnaaDoorW.PrintLast Go.Proofs.YtopehfjohifpnaaDoorW.PrintMore Go.Proofs.YtopehfjohifpnaaDoor.Turn Go.Proofs.YtopehfjohifpnaaDoor.Doc
def mayT (p : ByteArray) (k : Int) (b : Nat) (q : ByteArray) : Int :=
  if 0 < b ∧ k ≠ 1 then 110 else if q.size ≠ 0 ∧ (k = 1 ∨ k = 2) then 110 else if k = 3 then (checkF q).2 else if k = 4 then leadE p q else if 65536 < b then 2 else 0
def mayF (p : ByteArray) (k m t : Int) (b : Nat) (q : ByteArray) : Int :=
  if (checkF p).2 ≠ 0 then (checkF p).2 else
  if k < 1 ∨ 4 < k ∨ t < 0 ∨ t > (if k = 3 then 0 else 1099511627776) ∨ m < 0 ∨ m > (if k = 3 ∨ k = 4 then 0 else 4095) then 1 else mayT p k b q
def rulesV (k : Int) : Value := if k = 1 then .agg #[.int .i64 4095, .int .i64 1099511627776, .bool true, .bool false, .func (.func 44) #[] #[]] else if k = 2 then .agg #[.int .i64 4095, .int .i64 1099511627776, .bool false, .bool false, .func (.func 44) #[] #[]] else if k = 3 then .agg #[.int .i64 0, .int .i64 0, .bool false, .bool true, .func (.func 45) #[] #[]] else if k = 4 then .agg #[.int .i64 0, .int .i64 1099511627776, .bool false, .bool true, .func (.func 46) #[] #[]] else .agg #[.int .i64 0, .int .i64 0, .bool false, .bool false, .nilFunc]
def okK (k : Int) : Bool := decide (1 ≤ k ∧ k ≤ 4)
set_option maxRecDepth 100000 in
set_option maxHeartbeats 4000000 in
theorem of_any (k : Int) (w : World) : Calls Tryd.prog 30 #[.int .u8 k] w fun e w' => e = .returned (.tuple #[rulesV k, .bool (okK k)]) ∧ Below w.heap.size w w' := by
  go_enter Tryd.func30, Tryd.ntmps30
  go_wp2_with fail
  · obtain rfl : k = 1 := eq_of_beq (by assumption)
    exact bodyPost_ret (v := .tuple #[rulesV 1, .bool (okK 1)]) (by simp [results, Tryd.results30, go_sem, rulesV, okK]) rfl ⟨rfl, below_alloc (Below.refl _ _) _⟩
  · obtain rfl : k = 2 := eq_of_beq (by assumption)
    exact bodyPost_ret (v := .tuple #[rulesV 2, .bool (okK 2)]) (by simp [results, Tryd.results30, go_sem, rulesV, okK]) rfl ⟨rfl, below_alloc (Below.refl _ _) _⟩
  · obtain rfl : k = 3 := eq_of_beq (by assumption)
    exact bodyPost_ret (v := .tuple #[rulesV 3, .bool (okK 3)]) (by simp [results, Tryd.results30, go_sem, rulesV, okK]) rfl ⟨rfl, below_alloc (Below.refl _ _) _⟩
  · obtain rfl : k = 4 := eq_of_beq (by assumption)
    exact bodyPost_ret (v := .tuple #[rulesV 4, .bool (okK 4)]) (by simp [results, Tryd.results30, go_sem, rulesV, okK]) rfl ⟨rfl, below_alloc (Below.refl _ _) _⟩
  · have h1 := ne_of_beq_false ‹(k == 1) = false›
    have h2 := ne_of_beq_false ‹(k == 2) = false›
    have h3 := ne_of_beq_false ‹(k == 3) = false›
    have h4 := ne_of_beq_false ‹(k == 4) = false›
    have hr : rulesV k = .agg #[.int .i64 0, .int .i64 0, .bool false, .bool false, .nilFunc] := by unfold rulesV; rw [if_neg h1, if_neg h2, if_neg h3, if_neg h4]
    have ho : okK k = false := by unfold okK; rw [decide_eq_false]; omega
    rw [hr, ho]
    exact bodyPost_ret (v := .tuple #[.agg #[.int .i64 0, .int .i64 0, .bool false, .bool false, .nilFunc], .bool false]) (by simp [results, Tryd.results30, go_sem]) rfl ⟨rfl, below_alloc (Below.refl _ _) _⟩
set_option maxRecDepth 100000 in
set_option maxHeartbeats 4000000 in
theorem plain_any (p : ByteArray) (k m t : Int) (A : Option Addr) (b c : Nat) (q : ByteArray) (w : World) : Calls Tryd.prog 44 #[.agg #[.string p, .int .u8 k, .int .i64 m, .int .i64 t, .slice A b c, .string q]] w fun e w' => e = .returned (.int .i64 (if 65536 < b then 2 else 0)) ∧ Below w.heap.size w w' := by
  go_enter Tryd.func44, Tryd.ntmps44
  go_wp2_with fail
  · go_ret
    exact ⟨rfl, below_alloc (Below.refl _ _) _⟩
  · go_ret
    exact ⟨rfl, below_alloc (Below.refl _ _) _⟩
set_option maxRecDepth 100000 in
set_option maxHeartbeats 4000000 in
theorem hard_any (p : ByteArray) (k m t : Int) (A : Option Addr) (b c : Nat) (q : ByteArray) (w : World) : Calls Tryd.prog 45 #[.agg #[.string p, .int .u8 k, .int .i64 m, .int .i64 t, .slice A b c, .string q]] w fun e w' => e = .returned (.int .i64 (checkF q).2) ∧ Below w.heap.size w w' := by
  have hC := fun W => check_any q W
  generalize checkF q = ck at *
  go_enter Tryd.func45, Tryd.ntmps45
  go_wp2_with (go_at_call 29; refine (hC _).mono ?_; rintro e w' ⟨rfl, hB⟩)
  go_ret
  exact ⟨rfl, (below_alloc (Below.refl _ _) _).trans (hB.mono (by simp))⟩
set_option maxRecDepth 100000 in
set_option maxHeartbeats 4000000 in
theorem soft_any (p : ByteArray) (k m t : Int) (A : Option Addr) (b c : Nat) (q : ByteArray) (i : Int) (w : World) (hm : w.cell? ⟨1, 0, none⟩ = some (.int .i64 i)) : Calls Tryd.prog 46 #[.agg #[.string p, .int .u8 k, .int .i64 m, .int .i64 t, .slice A b c, .string q]] w fun e w' => e = .returned (.int .i64 (leadE p q)) ∧ Below w.heap.size w w' := by
  have hC := fun W hm => lead_any p q i W hm
  have hlt : 1 < w.heap.size := Lib.lt_of_cell (a := ⟨1, 0, none⟩) hm
  generalize leadE p q = le at *
  go_enter Tryd.func46, Tryd.ntmps46
  go_wp2_with (go_at_call 59; refine (hC _ (cell_alloc_l _ hm)).mono ?_; rintro e w' ⟨⟨r, rfl⟩, hB⟩)
  go_ret
  exact ⟨rfl, (below_alloc (Below.refl _ _) _).trans (hB.mono (by simp))⟩
end Go.Proofs.YtopehfjohifpnaaDoor.Mine
end
