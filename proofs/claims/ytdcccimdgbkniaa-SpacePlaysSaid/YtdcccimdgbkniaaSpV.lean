/- space: the document's Runs. -/
import Derived.Test.YtdcccimdgbkniaaSpU
import Derived.Test.YtdcccimdgbkniaaSpH
import Derived.Test.YtdcccimdgbkniaaSpQ
import Derived.Deep.RegionLaw
set_option linter.unusedSimpArgs false
set_option linter.unusedVariables false
namespace Go.Proofs.Ytdcccimdgbkniaa.Mine
open Go.RowKit Go.Maps Go.Proofs.YtdcccimdgbkniaaW.PrintWords Go.Proofs.YtdcccimdgbkniaaW.PrintLast Go.Proofs.YtdcccimdgbkniaaW.PrintMore Go.Proofs.Ytdcccimdgbkniaa.Turn

/-- A free cell behind runs (place, count): the last one grows, or a new one begins. -/
def grow (l : List R2) (i : Int) : List R2 :=
  if 0 < l.length ∧ (l.getD (l.length - 1) (0, 0)).1 + (l.getD (l.length - 1) (0, 0)).2 = i then l.set (l.length - 1) ((l.getD (l.length - 1) (0, 0)).1, (l.getD (l.length - 1) (0, 0)).2 + 1) else l ++ [(i, 1)]
def runsTo (t : List Bool) : Nat → List R2
  | 0 => []
  | k + 1 => if t.getD k false then runsTo t k else grow (runsTo t k) k
theorem runsTo_length (t : List Bool) : ∀ k, (runsTo t k).length ≤ k
  | 0 => by simp [runsTo]
  | k + 1 => by
    have := runsTo_length t k
    unfold runsTo grow
    split
    · omega
    · split
      · rw [List.length_set]; omega
      · simp; omega
/-- What the runs so far are: in order, behind one another, with the free cells so far. -/
theorem runsTo_spec (t : List Bool) : ∀ k : Nat, ∃ L : List R2, runsTo t k = runL L ∧ Good k 0 L ∧ ∀ i : Int, covL L i = if 0 ≤ i ∧ i < k ∧ t.getD i.toNat false = false then 1 else 0
  | 0 => ⟨[], rfl, trivial, fun i => by simp only [covL]; rw [if_neg (by omega)]⟩
  | k + 1 => by
    obtain ⟨L, h1, h2, h3⟩ := runsTo_spec t k
    have hweak : ∀ {l : List R2} {lo : Int}, Good k lo l → Good ((k + 1 : Nat) : Int) lo l := by
      intro l
      induction l with
      | nil => intro lo _; trivial
      | cons r l ih => intro lo h; exact ⟨h.1, h.2.1, by have := h.2.2.1; omega, ih h.2.2.2⟩
    unfold runsTo
    cases ht : t.getD k false with
    | true =>
      refine ⟨L, by simpa using h1, hweak h2, fun i => ?_⟩
      rw [h3 i]
      by_cases e : i = k
      · subst e
        rw [if_neg (by omega), if_neg (by rw [Int.toNat_natCast, ht]; simp)]
      · by_cases c : 0 ≤ i ∧ i < k ∧ t.getD i.toNat false = false
        · rw [if_pos c, if_pos ⟨c.1, by omega, c.2.2⟩]
        · rw [if_neg c, if_neg (fun c2 => c ⟨c2.1, by omega, c2.2.2⟩)]
    | false =>
      simp only [Bool.false_eq_true, if_false]
      have hcov : ∀ i : Int, (if 0 ≤ i ∧ i < ((k + 1 : Nat) : Int) ∧ t.getD i.toNat false = false then 1 else 0) = covL L i + ind k (k + 1) i := by
        intro i
        rw [h3 i]
        unfold ind
        by_cases e : i = k
        · subst e
          rw [if_pos ⟨by omega, by omega, by rw [Int.toNat_natCast, ht]⟩, if_neg (by omega), if_pos (by omega)]
        · rw [if_neg (show ¬ ((k : Int) ≤ i ∧ i < k + 1) by omega)]
          by_cases c : 0 ≤ i ∧ i < k ∧ t.getD i.toNat false = false
          · rw [if_pos c, if_pos ⟨c.1, by omega, c.2.2⟩]
          · rw [if_neg c, if_neg (fun c2 => c ⟨c2.1, by omega, c2.2.2⟩)]
      rw [h1]
      rcases List.eq_nil_or_concat L with rfl | ⟨L1, r, rfl⟩
      · refine ⟨[((k : Int), (k : Int) + 1)], ?_, ⟨by simp, by simp only; omega, by simp only; omega, trivial⟩, fun i => ?_⟩
        · simp [grow, runL]; omega
        · rw [hcov i]; simp [covL]
      · rw [List.concat_eq_append] at *
        have hlen : (runL (L1 ++ [r])).length = L1.length + 1 := by rw [runL_length]; simp
        have hget : (runL (L1 ++ [r])).getD ((runL (L1 ++ [r])).length - 1) (0, 0) = (r.1, r.2 - r.1) := by
          rw [hlen, runL, List.map_append, List.getD_eq_getElem?_getD, List.getElem?_append_right (by simp)]
          simp
        rw [good_append] at h2
        obtain ⟨g1, g2, g3, g4, -⟩ := h2
        unfold grow
        rw [hget]
        by_cases e : r.1 + (r.2 - r.1) = k
        · rw [if_pos ⟨by omega, e⟩]
          have e2 : r.2 = k := by omega
          refine ⟨L1 ++ [(r.1, (k : Int) + 1)], ?_, ?_, fun i => ?_⟩
          · rw [hlen, runL, runL, List.map_append, List.map_append]
            simp only [List.map_cons, List.map_nil, Nat.add_sub_cancel]
            rw [List.set_append_right _ _ (by simp)]
            simp
            omega
          · rw [good_append]
            exact ⟨hweak g1, g2, by simp only; omega, by simp only; omega, trivial⟩
          · rw [hcov i, covL_append, covL_append]
            have := ind_split (a := r.1) (b := (k : Int)) (c := (k : Int) + 1) (by omega) (by omega) i
            simp only [covL, e2]
            omega
        · rw [if_neg (fun c => e c.2)]
          refine ⟨L1 ++ [r] ++ [((k : Int), (k : Int) + 1)], ?_, ?_, fun i => ?_⟩
          · simp [runL]; omega
          · rw [good_append, good_append]
            refine ⟨⟨hweak g1, g2, g3, by omega, trivial⟩, ?_, by simp only; omega, by simp only; omega, trivial⟩
            rw [endOf_append]
            simp only [endOf]
            omega
          · rw [hcov i, covL_append]
            simp [covL]

theorem runsTo_in (t : List Bool) (k : Nat) : ∀ r ∈ runsTo t k, 0 ≤ r.1 ∧ 1 ≤ r.2 ∧ r.1 + r.2 ≤ k := by
  obtain ⟨L, h1, h2, _⟩ := runsTo_spec t k
  intro r hr
  rw [h1] at hr
  obtain ⟨x, hx, rfl⟩ := List.mem_map.1 hr
  have := good_mem h2 x hx
  show 0 ≤ x.1 ∧ 1 ≤ x.2 - x.1 ∧ x.1 + (x.2 - x.1) ≤ k
  omega
theorem getD_at0 {l : List R2} {i : Nat} (h : i < l.length) : l.getD i (0, 0) = l[i] := by
  rw [List.getD_eq_getElem?_getD, List.getElem?_eq_getElem h]; rfl
theorem encR_set2 {L : List R2} {j : Nat} (hj : j < L.length) (y : Int) : (encR L).toArray.setIfInBounds (j * 2 + 1) (.int .i64 y) = (encR (L.set j (L[j].1, y))).toArray := by
  have h1 : L = L.take j ++ L[j] :: L.drop (j + 1) := split_at hj
  have h2 : L.set j (L[j].1, y) = L.take j ++ (L[j].1, y) :: L.drop (j + 1) := List.set_eq_take_append_cons_drop.trans (by rw [if_pos hj])
  have h3 : encR L = encR (L.take j) ++ (.int .i64 L[j].1 :: .int .i64 L[j].2 :: encR (L.drop (j + 1))) := by
    conv => lhs; rw [h1]
    rw [encR_append, encR_cons]
  have hl : (encR (L.take j)).length = j * 2 := by rw [encR_length, List.length_take]; omega
  apply Array.ext'
  rw [Array.toList_setIfInBounds, h2, encR_append, encR_cons]
  simp only [h3]
  rw [List.set_append_right _ _ (by omega), hl, show j * 2 + 1 - j * 2 = 1 by omega]
  rfl
theorem OwnA.put2 {w : World} {base g n c : Nat} {l : List R2} (h : OwnA w base (.slice (some ⟨g, 0, none⟩) n c) l) {j : Nat} (hj : j < l.length) (y : Int) : OwnA (w.setCell ⟨g, j * 2 + 1, none⟩ (.int .i64 y)) base (.slice (some ⟨g, 0, none⟩) n c) (l.set j (l[j].1, y)) := by
  rcases h with ⟨h1, _⟩ | ⟨g', Lh, hv, hg, hw, ⟨t, rfl⟩, hcm⟩
  · cases h1
  · simp only [Value.slice.injEq, Option.some.injEq, Addr.mk.injEq, and_true] at hv
    obtain ⟨rfl, rfl, rfl⟩ := hv
    have hjl : j < (l ++ t).length := by simp; omega
    have e := encR_set2 hjl y
    rw [List.getElem_append_left hj, List.set_append_left _ _ hj] at e
    refine OwnA.mk hg (L := l.set j (l[j].1, y) ++ t) ?_ (List.prefix_append _ _) (by simpa using hcm) (by simp) (by simp)
    unfold WholeA
    rw [← e]
    exact Blk.set hw _ _

set_option maxHeartbeats 4000000 in
theorem rruns_any {w : World} {base b : Nat} {F : Nat → Prop} {t : List Bool} (h : Rf w base F b t) (hn : t.length ≤ 65536) :
    Calls Try.prog 20 #[.pointer (some ⟨b, 0, none⟩)] w (GotR w (runsTo t t.length)) := by
  obtain ⟨-, -, g, -, h3, h4⟩ := h
  have H3 := Aside0.mk h3
  have H4 := Aside0.mk h4
  have hlt := h3.lt
  have hgl := h4.lt
  clear h3 h4
  go_enter Try.func20, Try.ntmps20
  go_wp2_with fail
  go_loopw [3, 4] (fun v i wr => ∃ k : Nat, k ≤ t.length ∧ i = .int .i64 k ∧ Aside0 (OwnA wr w.heap.size v (runsTo t k)) ∧ Aside0 (Below w.heap.size w wr)) (fun _ i _ => t.length - (intOf i).toNat)
  case atStart => exact ⟨0, Nat.zero_le _, rfl, ⟨OwnA.nil _ _⟩, ⟨Below.refl _ _⟩⟩
  case round =>
    obtain ⟨k, hk, rfl, HO, HB⟩ := hrel
    have hll := runsTo_length t k
    obtain ⟨R, hR⟩ : ∃ R, runsTo t k = R := ⟨_, rfl⟩
    have HRK := Aside0.mk hR
    rw [hR] at HO hll
    clear hR
    obtain ⟨A, c, rfl, hc, hc2, -⟩ := HO.out.reads
    have y0 : wr.cell? ⟨b, 0, none⟩ = some (.slice (some ⟨g, 0, none⟩) t.length t.length) := pw_cell_below HB.out (H3.out.cell 0)
    have hbl : b < wr.heap.size := Nat.lt_of_lt_of_le hlt HB.out.size
    have hgl2 : g < wr.heap.size := Nat.lt_of_lt_of_le hgl HB.out.size
    by_cases hkl : k < t.length
    · have y1 : wr.cell? ⟨g, k, none⟩ = some (.bool t[k]) := pw_cell_below HB.out ((H4.out.cell _).trans (encB_get hkl))
      have hgd : t.getD k false = t[k] := by rw [List.getD_eq_getElem?_getD, List.getElem?_eq_getElem hkl]; rfl
      cases hx : t[k] with
      | true =>
        have HN : Aside0 (OwnA wr w.heap.size (.slice A R.length c) (runsTo t (k + 1))) := ⟨by rw [runsTo, hgd, hx, if_pos rfl, HRK.out]; exact HO.out⟩
        rw [hx] at y1
        clear hgd hx
        go_wp2_with fail
        go_roundw
        case rel => exact ⟨k + 1, by omega, by go_num, HN, HB⟩
        case measure => simp [intOf]; omega
      | false =>
        have HR : Aside0 (runsTo t (k + 1) = grow R k) := ⟨by rw [runsTo, hgd, hx, HRK.out]; rfl⟩
        rw [hx] at y1
        clear hgd hx
        have hw1 : IntKind.i64.wrap ((R.length : Int) - 1) = (R.length : Int) - 1 := IntWalk.i64_in _ (by omega)
        by_cases h0 : 0 < R.length
        · have hl1 : R.length - 1 < R.length := by omega
          have d0 : decide ((0 : Int) ≤ (R.length : Int) - 1) = true := decide_eq_true (by omega)
          have d0b : decide ((1 : Int) ≤ (R.length : Int)) = true := decide_eq_true (by omega)
          have d0c : decide (1 ≤ R.length) = true := decide_eq_true (by omega)
          have hln : ((R.length : Int) - 1).toNat = R.length - 1 := by omega
          have hi0 : (0 : Int) ≤ (R.length : Int) - 1 := by omega
          have hi1 : (R.length : Int) - 1 < (R.length : Int) := by omega
          obtain ⟨hnil, hnil2⟩ | ⟨g1, Lh, hv, hg, hw, hpre, hcm⟩ := HO.out
          · rw [hnil2] at h0; simp at h0
          simp only [Value.slice.injEq, Option.some.injEq] at hv
          obtain ⟨rfl, -, rfl⟩ := hv
          obtain ⟨A', c', he, -, -, hcell⟩ := HO.out.reads
          cases he
          obtain ⟨g', o', he2, hg1, p0, p1⟩ := hcell (R.length - 1) hl1
          obtain ⟨rfl, rfl⟩ : g1 = g' ∧ 0 = o' := by simpa using he2
          rw [Nat.zero_add] at p0 p1
          have hget : R.getD (R.length - 1) (0, 0) = R[R.length - 1] := getD_at0 hl1
          have hin := runsTo_in t k R[R.length - 1] (by rw [HRK.out]; exact List.getElem_mem hl1)
          obtain ⟨y, hy⟩ : ∃ y, R[R.length - 1] = y := ⟨_, rfl⟩
          rw [hy] at p0 p1 hget hin
          obtain ⟨ya, yc⟩ := y
          have HY := Aside0.mk hy
          have HGE := Aside0.mk hget
          simp only at p0 p1 hin
          have HFZ : Aside0 (∀ q, wr.frozen? ⟨g1, q, none⟩ = false) := ⟨Blk.free hw⟩
          clear hcell hy hget he2 hw hpre hg
          have hw2 : IntKind.i64.wrap (ya + yc) = ya + yc := IntWalk.i64_in _ (by omega)
          by_cases e : ya + yc = k
          · have de : (ya + yc == (k : Int)) = true := beq_iff_eq.2 e
            have HG : Aside0 (runsTo t (k + 1) = R.set (R.length - 1) (R[R.length - 1].1, yc + 1)) := ⟨by rw [HR.out, grow, HGE.out, if_pos ⟨h0, e⟩, HY.out]⟩
            clear e
            go_wp2_with fail
            go_quiet (fail)
            have HB6 : Aside0 (Below w.heap.size w (wr.drewN nq)) := ⟨pw_below_drewN HB.out nq⟩
            have HO6 : Aside0 (OwnA (wr.drewN nq) w.heap.size (.slice (some ⟨g1, 0, none⟩) R.length Lh.length) R) := ⟨HO.out.below (pw_below_drewN (Below.refl _ _) nq)⟩
            have q1 : (wr.drewN nq).cell? ⟨g1, (R.length - 1) * 2 + 1, none⟩ = some (.int .i64 yc) := p1
            have qf : (wr.drewN nq).frozen? ⟨g1, (R.length - 1) * 2 + 1, none⟩ = false := HFZ.out _
            have hg16 : g1 < (wr.drewN nq).heap.size := hg1
            clear y0 y1 hbl hgl2 p0 p1 hg1 HFZ hw2 de
            generalize wr.drewN nq = w6 at *
            have HO7 : Aside0 (OwnA (w6.setCell ⟨g1, (R.length - 1) * 2 + 1, none⟩ (.int .i64 (yc + 1))) w.heap.size (.slice (some ⟨g1, 0, none⟩) R.length Lh.length) (runsTo t (k + 1))) := ⟨by rw [HG.out]; exact HO6.out.put2 hl1 _⟩
            have HB7 : Aside0 (Below w.heap.size w (w6.setCell ⟨g1, (R.length - 1) * 2 + 1, none⟩ (.int .i64 (yc + 1)))) := ⟨HB6.out.setCell (HO6.out.lt g1 rfl).1 _⟩
            have hw3 : IntKind.i64.wrap (yc + 1) = yc + 1 := IntWalk.i64_in _ (by omega)
            go_wp2_with fail
            go_roundw
            case rel => exact ⟨k + 1, by omega, by go_num, HO7, HB7⟩
            case measure => simp [intOf]; omega
          · have de : (ya + yc == (k : Int)) = false := beq_eq_false_iff_ne.2 e
            have HG : Aside0 (runsTo t (k + 1) = R ++ [((k : Int), 1)]) := ⟨by rw [HR.out, grow, HGE.out, if_neg (fun h => e h.2)]⟩
            clear e
            go_wp2_with fail
            go_quiet (fail)
            have HB6 : Aside0 (Below w.heap.size w (wr.drewN nq)) := ⟨pw_below_drewN HB.out nq⟩
            have HO6 : Aside0 (OwnA (wr.drewN nq) w.heap.size (.slice (some ⟨g1, 0, none⟩) R.length Lh.length) R) := ⟨HO.out.below (pw_below_drewN (Below.refl _ _) nq)⟩
            clear y0 y1 hbl hgl2 p0 p1 hg1 HFZ hw2 de
            generalize wr.drewN nq = w6 at *
            have HSR := Aside0.mk (SrcA.new w6 ((k : Int), 1))
            go_wp2_with ((with_reducible refine gate_builtin (b := .append) (xs := #[.tmp 54, .tmp 57]) rfl ?_); refine list_ownRA rfl (.tmp 54) (.tmp 57) rfl (base := w.heap.size) (v := (.slice (some ⟨g1, 0, none⟩) R.length Lh.length)) (u := .slice (some ⟨w6.heap.size, 0, none⟩) 1 1) (l := R) (vs := [((k : Int), 1)]) rfl rfl (HO6.out.below (below_alloc (Below.refl _ _) _)) HSR.out (by have := HB6.out.size; simp; omega) (by simp; omega) ?_; intro v7 w7 ho ht hat; have HO7 : Aside0 (OwnA w7 w.heap.size v7 (runsTo t (k + 1))) := ⟨(by rw [HG.out]; exact ho)⟩; have HB7 : Aside0 (Below w.heap.size w w7) := ⟨below_turned (below_alloc HB6.out _) ht (by have := HB6.out.size; simp; omega) (fun q hq => (HO6.out.lt q hq).1)⟩; clear ho ht hat)
            go_roundw
            case rel => exact ⟨k + 1, by omega, by go_num, HO7, HB7⟩
            case measure => simp [intOf]; omega
        · have hl0 : R.length = 0 := by omega
          obtain rfl : R = [] := List.eq_nil_of_length_eq_zero hl0
          have HG : Aside0 (runsTo t (k + 1) = [] ++ [((k : Int), 1)]) := ⟨by rw [HR.out, grow, if_neg (fun h => h0 h.1)]⟩
          clear hl0 h0 hw1
          go_wp2_with fail
          go_quiet (fail)
          have HB6 : Aside0 (Below w.heap.size w (wr.drewN nq)) := ⟨pw_below_drewN HB.out nq⟩
          have HO6 : Aside0 (OwnA (wr.drewN nq) w.heap.size (.slice A 0 c) []) := ⟨HO.out.below (pw_below_drewN (Below.refl _ _) nq)⟩
          clear y0 y1 hbl hgl2
          generalize wr.drewN nq = w6 at *
          have HSR := Aside0.mk (SrcA.new w6 ((k : Int), 1))
          go_wp2_with ((with_reducible refine gate_builtin (b := .append) (xs := #[.tmp 54, .tmp 57]) rfl ?_); refine list_ownRA rfl (.tmp 54) (.tmp 57) rfl (base := w.heap.size) (v := .slice A 0 c) (u := .slice (some ⟨w6.heap.size, 0, none⟩) 1 1) (l := []) (vs := [((k : Int), 1)]) rfl rfl (HO6.out.below (below_alloc (Below.refl _ _) _)) HSR.out (by have := HB6.out.size; simp; omega) (by simp) ?_; intro v7 w7 ho ht hat; have HO7 : Aside0 (OwnA w7 w.heap.size v7 (runsTo t (k + 1))) := ⟨(by rw [HG.out]; exact ho)⟩; have HB7 : Aside0 (Below w.heap.size w w7) := ⟨below_turned (below_alloc HB6.out _) ht (by have := HB6.out.size; simp; omega) (fun q hq => (HO6.out.lt q hq).1)⟩; clear ho ht hat)
          go_roundw
          case rel => exact ⟨k + 1, by omega, by go_num, HO7, HB7⟩
          case measure => simp [intOf]; omega
    · obtain rfl : k = t.length := by omega
      rw [← HRK.out] at HO ⊢
      go_wp2_with fail
      go_ret
      exact ⟨_, rfl, HO.out, HB.out⟩
end Go.Proofs.Ytdcccimdgbkniaa.Mine
