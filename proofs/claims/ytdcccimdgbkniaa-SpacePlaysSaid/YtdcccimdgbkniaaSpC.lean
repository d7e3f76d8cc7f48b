/- space: slices.Insert of one run, slices.Replace of some by at most two. -/
import Derived.Test.YtdcccimdgbkniaaSpB
import Derived.Deep.RegionLaw
import Derived.Deep.DeepMust
set_option linter.unusedSimpArgs false
set_option linter.unusedVariables false
namespace Go.Proofs.Ytdcccimdgbkniaa.Mine
open Go.RowKit Go.Maps Go.Proofs.YtdcccimdgbkniaaW.PrintWords Go.Proofs.YtdcccimdgbkniaaW.PrintLast Go.Proofs.YtdcccimdgbkniaaW.PrintMore Go.Proofs.Ytdcccimdgbkniaa.Turn

theorem func37 : Try.prog.funcs[37]? = some Try.f37 := by kernel_rfl
theorem overlaps_apart {w : World} {g g2 : Nat} {L L2 : List R2} (h : Whole w g L) (h2 : Whole w g2 L2) (hne : g ≠ g2) (hL : 0 < L2.length) (o o2 la ca lb cb : Nat) :
    (callFunc 37 #[.slice (some ⟨g, o, none⟩) la ca, .slice (some ⟨g2, o2, none⟩) lb cb]).run Try.prog w = .ok (.value (.bool false)) w := by
  have hz : ∀ w, (Go.sizeOf 50).run Try.prog w = .ok 2 w := by
    obtain ⟨i, hi, hz⟩ := Option.map_eq_some_iff.1 sinfo50
    simp only [Prod.mk.injEq] at hz
    intro w
    simp [sizeOf, typeInfo, hi, hz.2.1]
  have hsa : w.shape? g = some (50, (encR L).toArray.size) := by
    have : w.heap[g]? = some (.cells (encR L).toArray 50 (0, 0)) := h
    simp [World.shape?, this]
  have hsb : w.shape? g2 = some (50, (encR L2).toArray.size) := by
    have : w.heap[g2]? = some (.cells (encR L2).toArray 50 (0, 0)) := h2
    simp [World.shape?, this]
  rw [run_callFunc_extern func37 (by kernel_rfl) (by kernel_rfl) (by kernel_rfl) (e := Extern.SlicesOverlaps.overlaps #[46, 46] #[4]) (by kernel_rfl),
    Lib.run_overlaps_apart w 46 4 50 Try.underlying46 2 hz ⟨g, o, none⟩ ⟨g2, o2, none⟩ la ca lb cb hne 50 50 _ _ hsa hsb (by simp [encR_length]; omega) (Blk.free h o) (Blk.free h _)]
  rfl

/-- How a change of a row ends. -/
def Put (w : World) (base : Nat) (v : Value) (l : List R2) (e : Ending) (w' : World) : Prop :=
  ∃ v', e = .returned v' ∧ Own w' base v' l ∧ Turned (fun k => v.ownBlock = some k) w w' ∧ (v'.ownBlock = v.ownBlock ∨ ∃ k, v'.ownBlock = some k ∧ w.heap.size ≤ k)

theorem put_close {w w' : World} {base g n c n0 c0 : Nat} {r L : List R2} (hl : r <+: L) (hb : base ≤ g) (h : Whole w' g L) (hc : L.length = c) (hL : c ≤ 9223372036854775807) (hn : n = r.length) (ht : Turned (fun k => k = g) w w') :
    Put w base (.slice (some ⟨g, 0, none⟩) n0 c0) r (.returned (.slice (some ⟨g, 0, none⟩) n c)) w' :=
  ⟨_, rfl, Own.mk hb h hl (by omega) hn hc.symm, ht.mono (fun k hk => by rw [hk]; rfl), .inl rfl⟩
theorem put_new {w w' : World} {base n c : Nat} {v : Value} {r L : List R2} (hl : r <+: L) (hb : base ≤ w.heap.size) (h : Whole w' w.heap.size L) (hc : L.length = c) (hL : c ≤ 9223372036854775807) (hn : n = r.length) (ht : Below w.heap.size w w') :
    Put w base v r (.returned (.slice (some ⟨w.heap.size, 0, none⟩) n c)) w' :=
  ⟨_, rfl, Own.mk hb h hl (by omega) hn hc.symm, Turned.of_below ht _, .inr ⟨_, rfl, Nat.le_refl _⟩⟩
theorem below_of_turned {B : Nat} {w w' w2 : World} {g : Nat} (h : Below B w w') (hB : B ≤ w'.heap.size) (hg : B ≤ g) (ht : Turned (fun k => k = g) w' w2) : Below B w w2 := below_turned h ht hB (fun k hk => by omega)
theorem putL_front {l t vs : List R2} {i : Nat} (h : i + vs.length ≤ l.length) : putL (l ++ t) i vs = l.take i ++ vs ++ l.drop (i + vs.length) ++ t := by
  rw [putL, List.take_append_of_le_length (by omega), List.drop_append_of_le_length h]
  simp [List.append_assoc]
theorem putL_over {l t vs : List R2} {i : Nat} (hi : i ≤ l.length) (h : l.length ≤ i + vs.length) : putL (l ++ t) i vs = l.take i ++ vs ++ t.drop (i + vs.length - l.length) := by
  rw [putL, List.take_append_of_le_length hi, List.drop_append, List.drop_eq_nil_of_le h]
  simp [List.append_assoc]

theorem insert_list {l t : List R2} {i : Nat} {x : R2} (hi : i < l.length) (ht : 1 ≤ t.length) : putL (putL (l ++ t) (i + 1) (l.drop i)) i [x] = l.take i ++ [x] ++ l.drop i ++ t.drop 1 := by
  rw [putL_over (show i + 1 ≤ l.length by omega) (by rw [List.length_drop]; omega), show i + 1 + (l.drop i).length - l.length = 1 by rw [List.length_drop]; omega,
    putL_front (l := l.take (i + 1) ++ l.drop i) (vs := [x]) (by simp; omega)]
  congr 2
  · congr 1
    rw [List.take_append_of_le_length (by simp; omega), List.take_take, Nat.min_eq_left (by omega)]
  · rw [List.drop_append, List.drop_eq_nil_of_le (by simp; omega)]
    simp [show i + 1 - min (i + 1) l.length = 0 by omega]

theorem grow_list {P zs Z vs ds : List R2} (h : zs.length = vs.length + ds.length) : putL (putL (P ++ zs ++ Z) P.length vs) (P.length + vs.length) ds = P ++ vs ++ ds ++ Z := by
  have h1 : putL (P ++ zs ++ Z) P.length vs = P ++ vs ++ zs.drop vs.length ++ Z := by
    rw [putL_front (l := P ++ zs) (by simp; omega)]
    congr 2
    · rw [List.take_left]
    · rw [List.drop_append, List.drop_eq_nil_of_le (by omega)]; simp
  rw [h1, putL_front (l := P ++ vs ++ zs.drop vs.length) (by simp; omega)]
  congr 1
  have e1 : (P ++ vs ++ zs.drop vs.length).take (P.length + vs.length) = P ++ vs := by rw [List.take_append_of_le_length (by simp), List.take_of_length_le (by simp)]
  have e2 : (P ++ vs ++ zs.drop vs.length).drop (P.length + vs.length + ds.length) = [] := List.drop_eq_nil_of_le (by simp; omega)
  rw [e1, e2, List.append_nil]

set_option maxHeartbeats 4000000 in
set_option maxRecDepth 100000 in
theorem insert_any {w : World} {base gu cu : Nat} {v : Value} {l : List R2} {x : R2} (h : Own w base v l) (hb : base ≤ w.heap.size) (hu : Whole w gu [x]) (hne : v.ownBlock ≠ some gu) (hl : l.length ≤ 1048576) (i : Nat) (hi : i ≤ l.length) :
    Calls Try.prog 36 #[v, .int .i64 i, .slice (some ⟨gu, 0, none⟩) 1 cu] w fun e w' => Put w base v (l.take i ++ [x] ++ l.drop i) e w' := by
  have hsrc : Src w (.slice (some ⟨gu, 0, none⟩) 1 cu) [x] := .inr ⟨_, _, rfl, by simpa using hu.read 0 [x] (by simp)⟩
  by_cases hil : i = l.length
  · subst hil
    have hz : ((l.length : Int) == (l.length : Int)) = true := by simp
    have hv : ∃ A c, v = .slice A l.length c ∧ l.length ≤ c := by
      obtain ⟨A, c, e, hc, _⟩ := h.reads
      exact ⟨A, c, e, hc⟩
    have HO := Aside0.mk h
    have HS := Aside0.mk hsrc
    obtain ⟨A, c, rfl, hc⟩ := hv
    clear h hu hsrc hne hi
    have hcl : c = l.length ∨ ¬ c = l.length := by omega
    rcases hcl with rfl | hcl
    · go_enter Try.func36, Try.ntmps36
      go_wp2_with (at_builtin; refine list_ownR rfl (.tmp 23) (.tmp 24) rfl (base := base) (v := .slice A l.length l.length) (u := .slice (some ⟨gu, 0, none⟩) 1 cu) (l := l) (vs := [x]) rfl rfl HO.out HS.out hb (by simp; omega) ?_; intro v' w' ho ht hat; have HO2 := Aside0.mk ho; have HT := Aside0.mk ht; have HAT := Aside0.mk hat; clear ho ht hat)
      go_ret
      exact ⟨_, rfl, by simpa using HO2.out, HT.out, HAT.out.imp id (fun e => ⟨_, e, Nat.le_refl _⟩)⟩
    · go_enter Try.func36, Try.ntmps36
      go_wp2_with (at_builtin; refine list_ownR rfl (.tmp 23) (.tmp 24) rfl (base := base) (v := .slice A l.length c) (u := .slice (some ⟨gu, 0, none⟩) 1 cu) (l := l) (vs := [x]) rfl rfl HO.out HS.out hb (by simp; omega) ?_; intro v' w' ho ht hat; have HO2 := Aside0.mk ho; have HT := Aside0.mk ht; have HAT := Aside0.mk hat; clear ho ht hat)
      go_ret
      exact ⟨_, rfl, by simpa using HO2.out, HT.out, HAT.out.imp id (fun e => ⟨_, e, Nat.le_refl _⟩)⟩
  · rcases h with ⟨rfl, rfl⟩ | ⟨g, L, rfl, h2, h3, ⟨t, rfl⟩, h5⟩
    · exact absurd (by simpa using hi) hil
    have hlt : i < l.length := by omega
    have hng : gu ≠ g := fun e => hne (by rw [e]; rfl)
    have hz1 : ((i : Int) == (l.length : Int)) = false := by simp; omega
    by_cases hroom : l.length + 1 ≤ (l ++ t).length
    · have hov := overlaps_apart hu h3 hng (by simp; omega) 0 ((i + 1) * 2) 1 cu
      have HU := Aside0.mk hu
      have H3 : Aside0 (Whole w.drew g (l ++ t)) := ⟨h3⟩
      generalize hcap : (l ++ t).length = cap at *
      have HCAP := Aside0.mk hcap
      clear hu h3 hcap hne hsrc
      have hw1 : IntKind.i64.wrap ((i : Int) + 1) = (i : Int) + 1 := IntWalk.i64_in _ (by omega)
      have hb1 : (0 : Int) ≤ (i : Int) + 1 := by omega
      have hin : i ≤ l.length := by omega
      have htn : ((i : Int) + 1).toNat = i + 1 := by omega
      have hb2 : ¬ (cap = i + 1) := by omega
      have hb3 : (i : Int) + 1 ≤ (l.length : Int) + 1 := by omega
      have hb4 : ¬ (cap = i) := by omega
      have hb5 : (i : Int) ≤ (l.length : Int) + 1 := by omega
      go_enter Try.func36, Try.ntmps36
      go_wp2_with (simp only [hov])
      go_region_law (refine step_copyR (w := w.drew) rfl (.tmp 73) (.tmp 76) rfl (g := g) (g2 := g) (do_ := (i + 1) * 2) (so := i * 2) (dLen := l.length + 1 - (i + 1)) (dCap := cap - (i + 1)) (sLen := l.length + 1 - i) (sCap := cap - i) (i + 1) i (l.drop i) (by simp [Act.eval, Act.put]) (by simp [Act.eval, Act.put]) rfl rfl H3.out H3.out (by rw [List.length_drop]; simp only [Nat.min_def]; split <;> omega) (by rw [List.drop_append_of_le_length hin]; exact List.prefix_append _ _) (by rw [HCAP.out, List.length_drop]; omega) ?_; intro w1 hw1 ht1; have HW1 := Aside0.mk hw1; have HT1 := Aside0.mk ht1; clear hw1 ht1)
      have HU1 : Aside0 (Whole w1 gu [x]) := ⟨HT1.out.blk (show w.drew.heap[gu]? = _ from HU.out) hng⟩
      go_wp2_with ((with_reducible refine gate_builtin (b := .copy) (xs := #[.tmp 80, .tmp 81]) rfl ?_); refine list_copyR rfl (.tmp 80) (.tmp 81) rfl (g := g) (g2 := gu) (do_ := i * 2) (so := 0) (dLen := l.length + 1 - i) (dCap := cap - i) (sLen := 1) (sCap := cu) i 0 [x] rfl rfl rfl (by simp) HW1.out HU1.out (by simp only [Nat.min_def]; split <;> simp <;> omega) (by simp) (by rw [putL_length (by rw [HCAP.out, List.length_drop]; omega), HCAP.out]; simp; omega) ?_; intro w2 hw2 ht2; have HW2 := Aside0.mk hw2; have HT2 := Aside0.mk ht2; clear hw2 ht2)
      go_ret
      have hcapl : l.length + t.length = cap := by have := HCAP.out; simpa using this
      have hlist := insert_list (t := t) (x := x) hlt (by omega)
      have hlen := congrArg List.length hlist
      rw [hlist] at HW2
      exact put_close (List.prefix_append _ _) h2 HW2.out (by simp; omega) (by omega) (by simp; omega) (((Turned.refl _ w).drew).then_ (HT1.out.then_ HT2.out (fun _ h => .inl h)) (fun _ h => .inl h))
    · obtain rfl : t = [] := List.eq_nil_of_length_eq_zero (by have : (l ++ t).length = l.length + t.length := by simp
                                                               omega)
      simp only [List.append_nil] at h3 h5 ⊢ hroom
      have HU := Aside0.mk hu
      have H3 := Aside0.mk h3
      have hgl := h3.lt
      have hgul := hu.lt
      have HTL : Aside0 ((l.take i).length = i) := ⟨by rw [List.length_take]; omega⟩
      clear hu h3 hne hsrc hroom
      have hw1 : IntKind.i64.wrap ((i : Int) + 1) = (i : Int) + 1 := IntWalk.i64_in _ (by omega)
      have hb1 : (0 : Int) ≤ (i : Int) + 1 := by omega
      have hin : i ≤ l.length := by omega
      have htn : ((i : Int) + 1).toNat = i + 1 := by omega
      have hb4 : ¬ (l.length = i) := by omega
      go_enter Try.func36, Try.ntmps36
      go_wp2_with (first
        | ((with_reducible refine gate_builtin (b := .append) (xs := #[.tmp 34, .tmp 39]) rfl ?_); refine list_growZ rfl (.tmp 34) (.tmp 39) rfl (mi := (l.length : Int) + 1 - i) (g := g) (n := i) (cap := l.length) (l.length + 1 - i) rfl rfl (by omega) HTL.out H3.out (List.take_prefix _ _) (by omega) (by omega) (by omega) ?_; intro cap' w1 hw1 hb1 hc1 hc2; have HW1 := Aside0.mk hw1; have HB1 := Aside0.mk hb1; clear hw1 hb1; have hlen : i + (l.length + 1 - i) = l.length + 1 := (by omega); rw [hlen] at hc1; rw [hlen] at HW1; rw [hlen]; clear hlen; have hb6 : ¬ cap' = i := (by omega); have hb7 : ¬ cap' = i + 1 := (by omega); have HU1 : Aside0 (Whole w1 gu [x]) := ⟨(HB1.out.block _ hgul).trans HU.out⟩; have H31 : Aside0 (Whole w1 g l) := ⟨(HB1.out.block _ hgl).trans H3.out⟩; have HZL : Aside0 ((l.take i ++ List.replicate (l.length + 1 - i) (0, 0) ++ List.replicate (cap' - (l.length + 1)) (0, 0) : List R2).length = cap') := ⟨(by simp; omega)⟩)
        | ((with_reducible refine gate_builtin (b := .copy) (xs := #[.tmp 43, .tmp 44]) rfl ?_); refine list_copyR rfl (.tmp 43) (.tmp 44) rfl (g := w.heap.size) (g2 := gu) (do_ := i * 2) (so := 0) (dLen := l.length + 1 - i) (dCap := cap' - i) (sLen := 1) (sCap := cu) i 0 [x] rfl rfl rfl (by simp) HW1.out HU1.out (by simp only [Nat.min_def]; split <;> simp <;> omega) (by simp) (by rw [HZL.out]; simp; omega) ?_; intro w2 hw2 ht2; have HW2 := Aside0.mk hw2; have HT2 := Aside0.mk ht2; clear hw2 ht2; have hb3 : (i : Int) + 1 ≤ (l.length : Int) + 1 := (by omega); have hin2 : (i : Int) ≤ (l.length : Int) := (by omega)))
      have H32 : Aside0 (Whole w2.drew g l) := ⟨HT2.out.blk H31.out (by omega)⟩
      have HW2d : Aside0 (Whole w2.drew w.heap.size _) := ⟨HW2.out⟩
      go_region_law (refine step_copyR (w := w2.drew) rfl (.tmp 50) (.tmp 53) rfl (g := w.heap.size) (g2 := g) (do_ := (i + 1) * 2) (so := i * 2) (dLen := l.length + 1 - (i + 1)) (dCap := cap' - (i + 1)) (sLen := l.length - i) (sCap := l.length - i) (i + 1) i (l.drop i) (by simp [Act.eval, Act.put]) (by simp [Act.eval, Act.put]) rfl rfl HW2d.out H32.out (by rw [List.length_drop]; simp only [Nat.min_def]; split <;> omega) (List.prefix_refl _) (by rw [putL_length (by rw [HZL.out]; simp; omega), HZL.out, List.length_drop]; omega) ?_; intro w3 hw3 ht3; have HW3 := Aside0.mk hw3; have HT3 := Aside0.mk ht3; clear hw3 ht3)
      go_wp2
      go_ret
      have hg := grow_list (P := l.take i) (vs := [x]) (ds := l.drop i) (zs := List.replicate (l.length + 1 - i) (0, 0)) (Z := List.replicate (cap' - (l.length + 1)) (0, 0)) (by simp; omega)
      rw [HTL.out, show i + [x].length = i + 1 from rfl] at hg
      rw [hg] at HW3
      have hbb := below_of_turned (below_drew (below_of_turned HB1.out HB1.out.size (Nat.le_refl _) HT2.out)) (Nat.le_trans HB1.out.size HT2.out.size) (Nat.le_refl _) HT3.out
      exact put_new (List.prefix_append _ _) hb HW3.out (by simp; omega) (by omega) (by simp; omega) hbb

end Go.Proofs.Ytdcccimdgbkniaa.Mine
