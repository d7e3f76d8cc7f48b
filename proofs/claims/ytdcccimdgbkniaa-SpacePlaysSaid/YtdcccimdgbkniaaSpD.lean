/- space: slices.Replace of some runs by at most two. -/
import Derived.Test.YtdcccimdgbkniaaSpC
import Derived.Deep.QuietTactic
import Derived.BigQuiet
set_option linter.unusedSimpArgs false
set_option linter.unusedVariables false
namespace Go.Proofs.Ytdcccimdgbkniaa.Mine
open Go.RowKit Go.Maps Go.Proofs.YtdcccimdgbkniaaW.PrintWords Go.Proofs.YtdcccimdgbkniaaW.PrintLast Go.Proofs.YtdcccimdgbkniaaW.PrintMore Go.Proofs.Ytdcccimdgbkniaa.Turn

theorem put_prefix {A L vs : List R2} {o : Nat} (h : A <+: L) (ho : A.length = o) : A ++ vs <+: putL L o vs := by
  obtain ⟨t, rfl⟩ := h
  subst ho
  rw [putL, List.take_left, ← List.append_assoc]
  exact List.prefix_append _ _
theorem keep_prefix {A L vs : List R2} {o : Nat} (h : A <+: L) (ho : A.length ≤ o) : A <+: putL L o vs := by
  obtain ⟨t, rfl⟩ := h
  rw [putL, List.take_append, List.take_of_length_le ho, List.append_assoc]
  exact List.prefix_append _ _
theorem put_zero {L : List R2} {o : Nat} {z : R2} : putL L o (List.replicate 0 z) = L := by simp [putL]
theorem putL_drop {L vs : List R2} {o k : Nat} (hk : o + vs.length ≤ k) (ho : o ≤ L.length) : (putL L o vs).drop k = L.drop k := by
  rw [putL, ← List.append_assoc, List.drop_append, List.drop_eq_nil_of_le (by simp; omega), List.nil_append, List.drop_drop]
  congr 1
  simp
  omega
theorem copied_nil (w : World) (ty : TypeId) (A : Option Addr) (n c c2 : Nat) : (Builtin.copy_ #[46, 46] ty #[.slice A n c, .slice none 0 c2]).run Try.prog w = .ok (goInt 0) w := by
  obtain ⟨i, hi, hz⟩ := Option.map_eq_some_iff.1 sinfo50
  rcases A with _ | A <;> simp [Builtin.copy_, run_underlying Try.underlying46, sizeOf, typeInfo, hi, Builtin.lenOf, Builtin.firstCells, storeCells]

set_option maxHeartbeats 4000000 in
set_option maxRecDepth 100000 in
/-- some by 0, others behind. -/
theorem replaceD0 {w : World} {base g gu cu cap i j d : Nat} {l t r L2 : List R2}  (hr : r = l.take i ++ [] ++ l.drop j) (h2 : base ≤ g) (hbs : base ≤ w.heap.size) (h3 : Whole w g (l ++ t)) (hcap : (l ++ t).length = cap) (h5 : cap ≤ 9223372036854775807)  (hl : l.length ≤ 1048576) (hij : i < j) (hjl : l.length = j + d) (hd : 0 < d) :
    Calls Try.prog 34 #[.slice (some ⟨g, 0, none⟩) (j + d : Nat) cap, .int .i64 i, .int .i64 j, .slice none 0 0] w fun e w' => Put w base (.slice (some ⟨g, 0, none⟩) (j + d : Nat) cap) r e w' := by
  have hcl : l.length + t.length = cap := by simpa using hcap
  have HR := Aside0.mk hr
  clear hr
  have H3 := Aside0.mk h3
  have HC := Aside0.mk hcap
  have HJ := Aside0.mk hjl
  have hgl := h3.lt
  clear h3 hcap
  have HTK : Aside0 (l.take i <+: l ++ t ∧ (l.take i).length = i) := ⟨(List.take_prefix _ _).trans (List.prefix_append _ _), by rw [List.length_take, HJ.out]; omega⟩
  have HDS : Aside0 ((l.drop j).length = d) := ⟨by rw [List.length_drop, HJ.out]; omega⟩
  have HPL : Aside0 (r.length = i + 0 + d) := ⟨by rw [HR.out, List.length_append, List.length_append, HTK.out.2, HDS.out]; rfl⟩
  have hl2 : j + d ≤ cap := by omega
  have hl3 : j + d ≤ 1048576 := by omega
  clear hcl hjl hl
  have hz1 : ((i : Int) == (j : Int)) = false := by simp; omega
  have hz2 : ((j : Int) == ((j + d : Nat) : Int)) = false := by simp; omega
  have hc1 : ¬ cap = i := by omega
  have hc2 : ¬ cap = j := by omega
  have hcn := fun w ty A n c c2 => copied_nil w ty A n c c2
  go_enter Try.func34, Try.ntmps34
  go_wp2_with fail
  have hw2 : IntKind.i64.wrap ((i : Int) + (d : Int)) = (i : Int) + (d : Int) := IntWalk.i64_in _ (by omega)
  have hk1 : (i : Int) ≤ (cap : Int) := by omega
  go_quiet (fail)
  clear hw2
  have H3q : Aside0 (Whole (w.drewN nq) g (l ++ t)) := ⟨H3.out⟩
  have HL1 : Aside0 ((putL (l ++ t) i []).length = cap) := ⟨by rw [putL_length (by rw [HC.out]; simp; omega), HC.out]⟩
  go_wp2_with (simp only [hcn])
  have HW1 : Aside0 (Whole (w.drewN nq) g (putL (l ++ t) i [])) := ⟨by simpa [putL] using H3q.out⟩
  have hw0 : IntKind.i64.wrap (i : Int) = (i : Int) := IntWalk.i64_in _ (by omega)
  have HT1 : Aside0 (Turned (fun k => k = g) (w.drewN nq) (w.drewN nq)) := ⟨Turned.refl _ _⟩
  have HTq : Aside0 (Turned (fun k => k = g) w (w.drewN nq)) := ⟨(Turned.refl _ w).drewN nq⟩
  generalize w.drewN nq = w1 at *
  have hb1 : (0 : Int) ≤ (i : Int) := by omega
  have htn : ((i : Int)).toNat = i := by omega
  have hk2 : (i : Int) ≤ (i : Int) + (d : Int) := by omega
  have hk3 : (j : Int) ≤ (j : Int) + (d : Int) := by omega
  have hc3 : ¬ cap = i := by omega
  have HW1d : Aside0 (Whole w1.drew g (putL (l ++ t) i [])) := ⟨HW1.out⟩
  go_region_law (refine step_copyR (w := w1.drew) rfl (.tmp 103) (.tmp 106) rfl (g := g) (g2 := g) (do_ := (i) * 2) (so := j * 2) (dLen := i + d - i) (dCap := cap - (i)) (sLen := j + d - j) (sCap := cap - j) (i) j (l.drop j) (by simp [Act.eval, Act.put]) (by simp [Act.eval, Act.put]) rfl rfl HW1d.out HW1d.out (by rw [HDS.out]; simp only [Nat.min_def]; split <;> omega) (by rw [putL_drop (by simp; omega) (by rw [HC.out]; omega), List.drop_append_of_le_length (by rw [HJ.out]; omega)]; exact List.prefix_append _ _) (by rw [HL1.out, HDS.out]; omega) ?_; intro w2 hw2 ht2; have HW2 := Aside0.mk hw2; have HT2 := Aside0.mk ht2; clear hw2 ht2)
  have HL2 : Aside0 ((putL (putL (l ++ t) i []) (i) (l.drop j)).length = cap) := ⟨by rw [putL_length (by rw [HL1.out, HDS.out]; omega), HL1.out]⟩
  have HP2 : Aside0 (r <+: putL (putL (l ++ t) i []) (i) (l.drop j)) := ⟨HR.out ▸ put_prefix (put_prefix HTK.out.1 HTK.out.2) (by rw [List.length_append, HTK.out.2]; rfl)⟩
  have htn2 : ((i : Int) + (d : Int)).toNat = i + d := by omega
  have hb2 : (0 : Int) ≤ (i : Int) + (d : Int) := by omega
  have hk4 : (i : Int) + (d : Int) ≤ (j : Int) + (d : Int) := by omega
  have HTT : Aside0 (Turned (fun k => k = g) w w2) := ⟨HTq.out.then_ ((Turned.refl _ w1).drew.then_ HT2.out (fun _ h => .inl h)) (fun _ h => .inl h)⟩
  have hct : ¬ cap = i + d := by omega
  · go_wp2_with ((with_reducible refine gate_builtin (b := .clear) (xs := #[.tmp 110]) rfl ?_); refine list_clearR rfl (.tmp 110) rfl rfl (g := g) (n := j + d - (i + d)) (c := cap - (i + d)) (so := (i + d) * 2) (i + d) rfl rfl HW2.out (by rw [HL2.out]; omega) ?_; intro w3 hw3 ht3; have HW3 := Aside0.mk hw3; have HT3 := Aside0.mk ht3; clear hw3 ht3)
    go_ret
    exact put_close (keep_prefix HP2.out (by rw [HPL.out]; omega)) h2 HW3.out (by rw [putL_length (by rw [HL2.out]; simp; omega), HL2.out]) h5 HPL.out.symm (HTT.out.then_ HT3.out (fun _ h => .inl h))

set_option maxHeartbeats 4000000 in
set_option maxRecDepth 100000 in
/-- some by 1, others behind. -/
theorem replaceD1 {w : World} {base g gu cu cap i j d : Nat} {l t r L2 : List R2} {x : R2} (hr : r = l.take i ++ [x] ++ l.drop j) (h2 : base ≤ g) (hbs : base ≤ w.heap.size) (h3 : Whole w g (l ++ t)) (hcap : (l ++ t).length = cap) (h5 : cap ≤ 9223372036854775807) (hu : Whole w gu L2) (hng : gu ≠ g) (hv : [x] <+: L2) (hl : l.length ≤ 1048576) (hij : i < j) (hjl : l.length = j + d) (hd : 0 < d) :
    Calls Try.prog 34 #[.slice (some ⟨g, 0, none⟩) (j + d : Nat) cap, .int .i64 i, .int .i64 j, .slice (some ⟨gu, 0, none⟩) 1 cu] w fun e w' => Put w base (.slice (some ⟨g, 0, none⟩) (j + d : Nat) cap) r e w' := by
  have hcl : l.length + t.length = cap := by simpa using hcap
  have HR := Aside0.mk hr
  clear hr
  have HU := Aside0.mk hu
  have HV := Aside0.mk hv
  have hgul := hu.lt
  have hL2 : 0 < L2.length := Nat.lt_of_lt_of_le (by simp) hv.length_le
  have H3 := Aside0.mk h3
  have HC := Aside0.mk hcap
  have HJ := Aside0.mk hjl
  have hgl := h3.lt
  clear hu hv
  clear h3 hcap
  have HTK : Aside0 (l.take i <+: l ++ t ∧ (l.take i).length = i) := ⟨(List.take_prefix _ _).trans (List.prefix_append _ _), by rw [List.length_take, HJ.out]; omega⟩
  have HDS : Aside0 ((l.drop j).length = d) := ⟨by rw [List.length_drop, HJ.out]; omega⟩
  have HPL : Aside0 (r.length = i + 1 + d) := ⟨by rw [HR.out, List.length_append, List.length_append, HTK.out.2, HDS.out]; rfl⟩
  have hl2 : j + d ≤ cap := by omega
  have hl3 : j + d ≤ 1048576 := by omega
  clear hcl hjl hl
  have hz1 : ((i : Int) == (j : Int)) = false := by simp; omega
  have hz2 : ((j : Int) == ((j + d : Nat) : Int)) = false := by simp; omega
  have hc1 : ¬ cap = i := by omega
  have hc2 : ¬ cap = j := by omega
  go_enter Try.func34, Try.ntmps34
  go_wp2_with fail
  have hw1 : IntKind.i64.wrap ((i : Int) + 1) = (i : Int) + 1 := IntWalk.i64_in _ (by omega)
  have hw2 : IntKind.i64.wrap ((i : Int) + 1 + (d : Int)) = (i : Int) + 1 + (d : Int) := IntWalk.i64_in _ (by omega)
  have hk1 : (i : Int) ≤ (cap : Int) := by omega
  go_quiet (fail)
  clear hw1 hw2
  have HUq : Aside0 (Whole (w.drewN nq) gu L2) := ⟨HU.out⟩
  have H3q : Aside0 (Whole (w.drewN nq) g (l ++ t)) := ⟨H3.out⟩
  go_wp2_with ((with_reducible refine gate_builtin (b := .copy) (xs := #[.tmp 95, .tmp 96]) rfl ?_); refine list_copyR rfl (.tmp 95) (.tmp 96) rfl (g := g) (g2 := gu) (do_ := i * 2) (so := 0) (dLen := i + 1 + d - i) (dCap := cap - i) (sLen := 1) (sCap := cu) i 0 [x] rfl rfl rfl (by simp) H3q.out HUq.out (by simp only [Nat.min_def]; split <;> simp <;> omega) (by simpa using HV.out) (by rw [HC.out]; simp; omega) ?_; intro w1 hw1 ht1; have HW1 := Aside0.mk hw1; have HT1 := Aside0.mk ht1; clear hw1 ht1; have HL1 : Aside0 ((putL (l ++ t) i [x]).length = cap) := ⟨(by rw [putL_length (by rw [HC.out]; simp; omega), HC.out])⟩; have hw1 : IntKind.i64.wrap ((i : Int) + 1) = (i : Int) + 1 := (IntWalk.i64_in _ (by omega)))
  have hb1 : (0 : Int) ≤ (i : Int) + 1 := by omega
  have htn : ((i : Int) + 1).toNat = i + 1 := by omega
  have hk2 : (i : Int) + 1 ≤ (i : Int) + 1 + (d : Int) := by omega
  have hk3 : (j : Int) ≤ (j : Int) + (d : Int) := by omega
  have hc3 : ¬ cap = i + 1 := by omega
  have HW1d : Aside0 (Whole w1.drew g (putL (l ++ t) i [x])) := ⟨HW1.out⟩
  go_region_law (refine step_copyR (w := w1.drew) rfl (.tmp 103) (.tmp 106) rfl (g := g) (g2 := g) (do_ := (i + 1) * 2) (so := j * 2) (dLen := i + 1 + d - (i + 1)) (dCap := cap - (i + 1)) (sLen := j + d - j) (sCap := cap - j) (i + 1) j (l.drop j) (by simp [Act.eval, Act.put]) (by simp [Act.eval, Act.put]) rfl rfl HW1d.out HW1d.out (by rw [HDS.out]; simp only [Nat.min_def]; split <;> omega) (by rw [putL_drop (by simp; omega) (by rw [HC.out]; omega), List.drop_append_of_le_length (by rw [HJ.out]; omega)]; exact List.prefix_append _ _) (by rw [HL1.out, HDS.out]; omega) ?_; intro w2 hw2 ht2; have HW2 := Aside0.mk hw2; have HT2 := Aside0.mk ht2; clear hw2 ht2)
  have HL2 : Aside0 ((putL (putL (l ++ t) i [x]) (i + 1) (l.drop j)).length = cap) := ⟨by rw [putL_length (by rw [HL1.out, HDS.out]; omega), HL1.out]⟩
  have HP2 : Aside0 (r <+: putL (putL (l ++ t) i [x]) (i + 1) (l.drop j)) := ⟨HR.out ▸ put_prefix (put_prefix HTK.out.1 HTK.out.2) (by rw [List.length_append, HTK.out.2]; rfl)⟩
  have htn2 : ((i : Int) + 1 + (d : Int)).toNat = i + 1 + d := by omega
  have hb2 : (0 : Int) ≤ (i : Int) + 1 + (d : Int) := by omega
  have hk4 : (i : Int) + 1 + (d : Int) ≤ (j : Int) + (d : Int) := by omega
  clear hw1
  have HTT : Aside0 (Turned (fun k => k = g) w w2) := ⟨((Turned.refl _ w).drewN nq).then_ (((HT1.out.drew).then_ HT2.out (fun _ h => .inl h))) (fun _ h => .inl h)⟩
  by_cases hct : cap = i + 1 + d
  · subst hct
    obtain rfl : j = i + 1 := by omega
    go_wp2_with ((with_reducible refine gate_builtin (b := .clear) (xs := #[.tmp 110]) rfl ?_); refine list_clearR rfl (.tmp 110) rfl rfl (g := g) (n := 0) (c := 0) (so := 0) 0 rfl rfl HW2.out (by omega) ?_; intro w3 hw3 ht3; have HW3 := Aside0.mk hw3; have HT3 := Aside0.mk ht3; clear hw3 ht3)
    go_ret
    have hw3 := HW3.out
    rw [put_zero] at hw3
    exact put_close HP2.out h2 hw3 HL2.out h5 HPL.out.symm (HTT.out.then_ HT3.out (fun _ h => .inl h))
  · go_wp2_with ((with_reducible refine gate_builtin (b := .clear) (xs := #[.tmp 110]) rfl ?_); refine list_clearR rfl (.tmp 110) rfl rfl (g := g) (n := j + d - (i + 1 + d)) (c := cap - (i + 1 + d)) (so := (i + 1 + d) * 2) (i + 1 + d) rfl rfl HW2.out (by rw [HL2.out]; omega) ?_; intro w3 hw3 ht3; have HW3 := Aside0.mk hw3; have HT3 := Aside0.mk ht3; clear hw3 ht3)
    go_ret
    exact put_close (keep_prefix HP2.out (by rw [HPL.out]; omega)) h2 HW3.out (by rw [putL_length (by rw [HL2.out]; simp; omega), HL2.out]) h5 HPL.out.symm (HTT.out.then_ HT3.out (fun _ h => .inl h))

set_option maxHeartbeats 4000000 in
set_option maxRecDepth 100000 in
/-- the last ones by 0, where there is room. -/
theorem replaceB0 {w : World} {base g gu cu cap i j d : Nat} {l t r L2 : List R2}  (hr : r = l.take i ++ [] ++ l.drop j) (h2 : base ≤ g) (hbs : base ≤ w.heap.size) (h3 : Whole w g (l ++ t)) (hcap : (l ++ t).length = cap) (h5 : cap ≤ 9223372036854775807)  (hl : l.length ≤ 1048576) (hij : i < j) (hjl : l.length = j) (hroom : i + 0 ≤ cap) :
    Calls Try.prog 34 #[.slice (some ⟨g, 0, none⟩) j cap, .int .i64 i, .int .i64 j, .slice none 0 0] w fun e w' => Put w base (.slice (some ⟨g, 0, none⟩) j cap) r e w' := by
  have hcl : l.length + t.length = cap := by simpa using hcap
  have HR := Aside0.mk hr
  clear hr
  have H3 := Aside0.mk h3
  have HC := Aside0.mk hcap
  have HJ := Aside0.mk hjl
  have hgl := h3.lt
  clear h3 hcap
  have HTK : Aside0 (l.take i <+: l ++ t ∧ (l.take i).length = i) := ⟨(List.take_prefix _ _).trans (List.prefix_append _ _), by rw [List.length_take, HJ.out]; omega⟩
  have HPL : Aside0 (r.length = i) := ⟨by rw [HR.out, List.length_append, List.length_append, HTK.out.2, List.drop_eq_nil_of_le (by rw [HJ.out]; omega)]; rfl⟩
  have HP1 : Aside0 (r <+: putL (l ++ t) i []) := ⟨by rw [HR.out, List.drop_eq_nil_of_le (by rw [HJ.out]; omega), List.append_nil]; exact put_prefix HTK.out.1 HTK.out.2⟩
  have HL1 : Aside0 ((putL (l ++ t) i []).length = cap) := ⟨by rw [putL_length (by rw [HC.out]; simp; omega), HC.out]⟩
  have hl2 : j ≤ cap := by omega
  have hl3 : j ≤ 1048576 := by omega
  clear hcl hjl hl
  have hz1 : ((i : Int) == (j : Int)) = false := by simp; omega
  have hz2 : ((j : Int) == (j : Int)) = true := by simp
  have hc1 : ¬ cap = i := by omega
  have hk1 : (i : Int) ≤ (cap : Int) := by omega
  have hrn := fun ty => run_none w ty (some ⟨g, 0, none⟩) i cap 0 (by omega)
  have HW1 : Aside0 (Whole w g (putL (l ++ t) i [])) := ⟨by simpa [putL] using H3.out⟩
  have HT1 : Aside0 (Turned (fun k => k = g) w w) := ⟨Turned.refl _ w⟩
  go_enter Try.func34, Try.ntmps34
  go_wp2_with (first | (simp only [hrn]; done) | ((with_reducible refine gate_builtin (b := .clear) (xs := #[.tmp 43]) rfl ?_); refine list_clearR rfl (.tmp 43) rfl rfl (g := g) (n := j - (i)) (c := cap - (i)) (so := (i) * 2) (i) rfl rfl HW1.out (by rw [HL1.out]; omega) ?_; intro w3 hw3 ht3; have HW3 := Aside0.mk hw3; have HT3 := Aside0.mk ht3; clear hw3 ht3))
  go_ret
  exact put_close (keep_prefix HP1.out (by rw [HPL.out]; omega)) h2 HW3.out (by rw [putL_length (by rw [HL1.out]; simp; omega), HL1.out]) h5 HPL.out.symm (HT1.out.then_ HT3.out (fun _ h => .inl h))

set_option maxHeartbeats 4000000 in
set_option maxRecDepth 100000 in
/-- the last ones by 1, where there is room. -/
theorem replaceB1 {w : World} {base g gu cu cap i j d : Nat} {l t r L2 : List R2} {x : R2} (hr : r = l.take i ++ [x] ++ l.drop j) (h2 : base ≤ g) (hbs : base ≤ w.heap.size) (h3 : Whole w g (l ++ t)) (hcap : (l ++ t).length = cap) (h5 : cap ≤ 9223372036854775807) (hu : Whole w gu L2) (hng : gu ≠ g) (hv : [x] <+: L2) (hl : l.length ≤ 1048576) (hij : i < j) (hjl : l.length = j) (hroom : i + 1 ≤ cap) :
    Calls Try.prog 34 #[.slice (some ⟨g, 0, none⟩) j cap, .int .i64 i, .int .i64 j, .slice (some ⟨gu, 0, none⟩) 1 cu] w fun e w' => Put w base (.slice (some ⟨g, 0, none⟩) j cap) r e w' := by
  have hcl : l.length + t.length = cap := by simpa using hcap
  have HR := Aside0.mk hr
  clear hr
  have HU := Aside0.mk hu
  have HV := Aside0.mk hv
  have hgul := hu.lt
  have hL2 : 0 < L2.length := Nat.lt_of_lt_of_le (by simp) hv.length_le
  have H3 := Aside0.mk h3
  have HC := Aside0.mk hcap
  have HJ := Aside0.mk hjl
  have hgl := h3.lt
  clear hu hv
  clear h3 hcap
  have HTK : Aside0 (l.take i <+: l ++ t ∧ (l.take i).length = i) := ⟨(List.take_prefix _ _).trans (List.prefix_append _ _), by rw [List.length_take, HJ.out]; omega⟩
  have HPL : Aside0 (r.length = i + 1) := ⟨by rw [HR.out, List.length_append, List.length_append, HTK.out.2, List.drop_eq_nil_of_le (by rw [HJ.out]; omega)]; rfl⟩
  have HP1 : Aside0 (r <+: putL (l ++ t) i [x]) := ⟨by rw [HR.out, List.drop_eq_nil_of_le (by rw [HJ.out]; omega), List.append_nil]; exact put_prefix HTK.out.1 HTK.out.2⟩
  have HL1 : Aside0 ((putL (l ++ t) i [x]).length = cap) := ⟨by rw [putL_length (by rw [HC.out]; simp; omega), HC.out]⟩
  have hl2 : j ≤ cap := by omega
  have hl3 : j ≤ 1048576 := by omega
  clear hcl hjl hl
  have hz1 : ((i : Int) == (j : Int)) = false := by simp; omega
  have hz2 : ((j : Int) == (j : Int)) = true := by simp
  have hc1 : ¬ cap = i := by omega
  have hk1 : (i : Int) ≤ (cap : Int) := by omega
  by_cases hlt : i + 1 < j
  · have hc4 : ¬ cap = i + 1 := by omega
    have hb1 : (0 : Int) ≤ (i : Int) + 1 := by omega
    have htn : ((i : Int) + 1).toNat = i + 1 := by omega
    have hk2 : (i : Int) + 1 ≤ (j : Int) := by omega
    go_enter Try.func34, Try.ntmps34
    go_wp2_with (first | ((with_reducible refine gate_builtin (b := .append) (xs := #[.tmp 32, .tmp 33]) rfl ?_); refine list_roomR rfl (.tmp 32) (.tmp 33) rfl (g := g) (n := i) (c := cu) (cap := cap) (m := 1) (vs := [x]) (ad := ⟨gu, 0, none⟩) rfl rfl H3.out HC.out rfl (by simpa using HU.out.read 0 [x] (by simpa using HV.out)) (by rw [HC.out]; exact hroom) ?_; intro w1 hw1 ht1; have HW1 := Aside0.mk hw1; have HT1 := Aside0.mk ht1; clear hw1 ht1) | ((with_reducible refine gate_builtin (b := .clear) (xs := #[.tmp 43]) rfl ?_); refine list_clearR rfl (.tmp 43) rfl rfl (g := g) (n := j - (i + 1)) (c := cap - (i + 1)) (so := (i + 1) * 2) (i + 1) rfl rfl HW1.out (by rw [HL1.out]; omega) ?_; intro w3 hw3 ht3; have HW3 := Aside0.mk hw3; have HT3 := Aside0.mk ht3; clear hw3 ht3))
    go_ret
    exact put_close (keep_prefix HP1.out (by rw [HPL.out]; omega)) h2 HW3.out (by rw [putL_length (by rw [HL1.out]; simp; omega), HL1.out]) h5 HPL.out.symm (HT1.out.then_ HT3.out (fun _ h => .inl h))
  · go_enter Try.func34, Try.ntmps34
    go_wp2_with (first | ((with_reducible refine gate_builtin (b := .append) (xs := #[.tmp 32, .tmp 33]) rfl ?_); refine list_roomR rfl (.tmp 32) (.tmp 33) rfl (g := g) (n := i) (c := cu) (cap := cap) (m := 1) (vs := [x]) (ad := ⟨gu, 0, none⟩) rfl rfl H3.out HC.out rfl (by simpa using HU.out.read 0 [x] (by simpa using HV.out)) (by rw [HC.out]; exact hroom) ?_; intro w1 hw1 ht1; have HW1 := Aside0.mk hw1; have HT1 := Aside0.mk ht1; clear hw1 ht1))
    go_ret
    exact put_close HP1.out h2 HW1.out HL1.out h5 HPL.out.symm HT1.out

set_option maxHeartbeats 4000000 in
set_option maxRecDepth 100000 in
/-- the last ones by 2, where there is room. -/
theorem replaceB2 {w : World} {base g gu cu cap i j d : Nat} {l t r L2 : List R2} {x y : R2} (hr : r = l.take i ++ [x, y] ++ l.drop j) (h2 : base ≤ g) (hbs : base ≤ w.heap.size) (h3 : Whole w g (l ++ t)) (hcap : (l ++ t).length = cap) (h5 : cap ≤ 9223372036854775807) (hu : Whole w gu L2) (hng : gu ≠ g) (hv : [x, y] <+: L2) (hl : l.length ≤ 1048576) (hij : i < j) (hjl : l.length = j) (hroom : i + 2 ≤ cap) :
    Calls Try.prog 34 #[.slice (some ⟨g, 0, none⟩) j cap, .int .i64 i, .int .i64 j, .slice (some ⟨gu, 0, none⟩) 2 cu] w fun e w' => Put w base (.slice (some ⟨g, 0, none⟩) j cap) r e w' := by
  have hcl : l.length + t.length = cap := by simpa using hcap
  have HR := Aside0.mk hr
  clear hr
  have HU := Aside0.mk hu
  have HV := Aside0.mk hv
  have hgul := hu.lt
  have hL2 : 0 < L2.length := Nat.lt_of_lt_of_le (by simp) hv.length_le
  have H3 := Aside0.mk h3
  have HC := Aside0.mk hcap
  have HJ := Aside0.mk hjl
  have hgl := h3.lt
  clear hu hv
  clear h3 hcap
  have HTK : Aside0 (l.take i <+: l ++ t ∧ (l.take i).length = i) := ⟨(List.take_prefix _ _).trans (List.prefix_append _ _), by rw [List.length_take, HJ.out]; omega⟩
  have HPL : Aside0 (r.length = i + 2) := ⟨by rw [HR.out, List.length_append, List.length_append, HTK.out.2, List.drop_eq_nil_of_le (by rw [HJ.out]; omega)]; rfl⟩
  have HP1 : Aside0 (r <+: putL (l ++ t) i [x, y]) := ⟨by rw [HR.out, List.drop_eq_nil_of_le (by rw [HJ.out]; omega), List.append_nil]; exact put_prefix HTK.out.1 HTK.out.2⟩
  have HL1 : Aside0 ((putL (l ++ t) i [x, y]).length = cap) := ⟨by rw [putL_length (by rw [HC.out]; simp; omega), HC.out]⟩
  have hl2 : j ≤ cap := by omega
  have hl3 : j ≤ 1048576 := by omega
  clear hcl hjl hl
  have hz1 : ((i : Int) == (j : Int)) = false := by simp; omega
  have hz2 : ((j : Int) == (j : Int)) = true := by simp
  have hc1 : ¬ cap = i := by omega
  have hk1 : (i : Int) ≤ (cap : Int) := by omega
  by_cases hlt : i + 2 < j
  · have hc4 : ¬ cap = i + 2 := by omega
    have hb1 : (0 : Int) ≤ (i : Int) + 2 := by omega
    have htn : ((i : Int) + 2).toNat = i + 2 := by omega
    have hk2 : (i : Int) + 2 ≤ (j : Int) := by omega
    go_enter Try.func34, Try.ntmps34
    go_wp2_with (first | ((with_reducible refine gate_builtin (b := .append) (xs := #[.tmp 32, .tmp 33]) rfl ?_); refine list_roomR rfl (.tmp 32) (.tmp 33) rfl (g := g) (n := i) (c := cu) (cap := cap) (m := 2) (vs := [x, y]) (ad := ⟨gu, 0, none⟩) rfl rfl H3.out HC.out rfl (by simpa using HU.out.read 0 [x, y] (by simpa using HV.out)) (by rw [HC.out]; exact hroom) ?_; intro w1 hw1 ht1; have HW1 := Aside0.mk hw1; have HT1 := Aside0.mk ht1; clear hw1 ht1) | ((with_reducible refine gate_builtin (b := .clear) (xs := #[.tmp 43]) rfl ?_); refine list_clearR rfl (.tmp 43) rfl rfl (g := g) (n := j - (i + 2)) (c := cap - (i + 2)) (so := (i + 2) * 2) (i + 2) rfl rfl HW1.out (by rw [HL1.out]; omega) ?_; intro w3 hw3 ht3; have HW3 := Aside0.mk hw3; have HT3 := Aside0.mk ht3; clear hw3 ht3))
    go_ret
    exact put_close (keep_prefix HP1.out (by rw [HPL.out]; omega)) h2 HW3.out (by rw [putL_length (by rw [HL1.out]; simp; omega), HL1.out]) h5 HPL.out.symm (HT1.out.then_ HT3.out (fun _ h => .inl h))
  · go_enter Try.func34, Try.ntmps34
    go_wp2_with (first | ((with_reducible refine gate_builtin (b := .append) (xs := #[.tmp 32, .tmp 33]) rfl ?_); refine list_roomR rfl (.tmp 32) (.tmp 33) rfl (g := g) (n := i) (c := cu) (cap := cap) (m := 2) (vs := [x, y]) (ad := ⟨gu, 0, none⟩) rfl rfl H3.out HC.out rfl (by simpa using HU.out.read 0 [x, y] (by simpa using HV.out)) (by rw [HC.out]; exact hroom) ?_; intro w1 hw1 ht1; have HW1 := Aside0.mk hw1; have HT1 := Aside0.mk ht1; clear hw1 ht1))
    go_ret
    exact put_close HP1.out h2 HW1.out HL1.out h5 HPL.out.symm HT1.out

set_option maxHeartbeats 4000000 in
set_option maxRecDepth 100000 in
/-- the last one by two, where there is no room. -/
theorem replaceB3 {w : World} {base g gu cu cap i j d : Nat} {l t r L2 : List R2} {x y : R2} (hr : r = l.take i ++ [x, y] ++ l.drop j) (h2 : base ≤ g) (hbs : base ≤ w.heap.size) (h3 : Whole w g (l ++ t)) (hcap : (l ++ t).length = cap) (h5 : cap ≤ 9223372036854775807) (hu : Whole w gu L2) (hng : gu ≠ g) (hv : [x, y] <+: L2) (hl : l.length ≤ 1048576) (hij : i < j) (hjl : l.length = j) (hroom : cap < i + 2) :
    Calls Try.prog 34 #[.slice (some ⟨g, 0, none⟩) j cap, .int .i64 i, .int .i64 j, .slice (some ⟨gu, 0, none⟩) 2 cu] w fun e w' => Put w base (.slice (some ⟨g, 0, none⟩) j cap) r e w' := by
  have hcl : l.length + t.length = cap := by simpa using hcap
  have HR := Aside0.mk hr
  clear hr
  have HU := Aside0.mk hu
  have HV := Aside0.mk hv
  have hgul := hu.lt
  have hL2 : 0 < L2.length := Nat.lt_of_lt_of_le (by simp) hv.length_le
  have H3 := Aside0.mk h3
  have HC := Aside0.mk hcap
  have HJ := Aside0.mk hjl
  have hgl := h3.lt
  clear hu hv
  clear h3 hcap
  have HTK : Aside0 (l.take i <+: l ++ t ∧ (l.take i).length = i) := ⟨(List.take_prefix _ _).trans (List.prefix_append _ _), by rw [List.length_take, HJ.out]; omega⟩
  have HPL : Aside0 (r = l.take i ++ [x, y]) := ⟨by rw [HR.out, List.drop_eq_nil_of_le (by rw [HJ.out]; omega), List.append_nil]⟩
  have HO : Aside0 (Own w base (.slice (some ⟨g, 0, none⟩) i cap) (l.take i)) := ⟨Own.mk h2 H3.out HTK.out.1 (by rw [HC.out]; exact h5) HTK.out.2.symm HC.out.symm⟩
  have HSR : Aside0 (Src w (.slice (some ⟨gu, 0, none⟩) 2 cu) [x, y]) := ⟨.inr ⟨_, _, rfl, by simpa using HU.out.read 0 [x, y] (by simpa using HV.out)⟩⟩
  have HFT : Aside0 ((l.take i).length + [x, y].length ≤ 4398046511104) := ⟨by rw [HTK.out.2]; simp; omega⟩
  have hl2 : j ≤ cap := by omega
  have hl3 : j ≤ 1048576 := by omega
  clear hcl hjl hl
  have hz1 : ((i : Int) == (j : Int)) = false := by simp; omega
  have hz2 : ((j : Int) == (j : Int)) = true := by simp
  have hc1 : ¬ cap = i := by omega
  have hk1 : (i : Int) ≤ (cap : Int) := by omega
  go_enter Try.func34, Try.ntmps34
  go_wp2_with ((with_reducible refine gate_builtin (b := .append) (xs := #[.tmp 32, .tmp 33]) rfl ?_); refine list_ownR rfl (.tmp 32) (.tmp 33) rfl (base := base) (v := .slice (some ⟨g, 0, none⟩) i cap) (u := .slice (some ⟨gu, 0, none⟩) 2 cu) (l := l.take i) (vs := [x, y]) rfl rfl HO.out HSR.out hbs HFT.out ?_; intro v' w' ho ht hat; obtain ⟨A9, c9, rfl, hc9, _⟩ := ho.reads; rw [show (l.take i ++ [x, y]).length = i + 2 from by rw [List.length_append, HTK.out.2]; rfl] at *; have HO2 := Aside0.mk ho; have HT := Aside0.mk ht; have HAT := Aside0.mk hat; clear ho ht hat)
  go_ret
  exact ⟨_, rfl, by rw [HPL.out]; exact HO2.out, HT.out, HAT.out.imp id (fun e => ⟨_, e, Nat.le_refl _⟩)⟩

set_option maxHeartbeats 4000000 in
set_option maxRecDepth 100000 in
/-- one by two, others behind, where there is room. -/
theorem replaceE {w : World} {base g gu cu cap i j d : Nat} {l t r L2 : List R2} {x y : R2} (hr : r = l.take i ++ [x, y] ++ l.drop j) (h2 : base ≤ g) (hbs : base ≤ w.heap.size) (h3 : Whole w g (l ++ t)) (hcap : (l ++ t).length = cap) (h5 : cap ≤ 9223372036854775807) (hu : Whole w gu L2) (hng : gu ≠ g) (hv : [x, y] <+: L2) (hl : l.length ≤ 1048576) (hij : i < j) (hjl : l.length = j + d) (hd : 0 < d) (hroom : i + 2 + d ≤ cap) (hj : j ≤ i + 1) :
    Calls Try.prog 34 #[.slice (some ⟨g, 0, none⟩) (j + d : Nat) cap, .int .i64 i, .int .i64 j, .slice (some ⟨gu, 0, none⟩) 2 cu] w fun e w' => Put w base (.slice (some ⟨g, 0, none⟩) (j + d : Nat) cap) r e w' := by
  have hcl : l.length + t.length = cap := by simpa using hcap
  have HR := Aside0.mk hr
  clear hr
  have HU := Aside0.mk hu
  have HV := Aside0.mk hv
  have hgul := hu.lt
  have hL2 : 0 < L2.length := Nat.lt_of_lt_of_le (by simp) hv.length_le
  have H3 := Aside0.mk h3
  have HC := Aside0.mk hcap
  have HJ := Aside0.mk hjl
  have hgl := h3.lt
  have hov := fun o o2 la ca lb cb => overlaps_apart h3 hu (Ne.symm hng) hL2 o o2 la ca lb cb
  clear hu hv
  clear h3 hcap
  have HTK : Aside0 (l.take i <+: l ++ t ∧ (l.take i).length = i) := ⟨(List.take_prefix _ _).trans (List.prefix_append _ _), by rw [List.length_take, HJ.out]; omega⟩
  have HDS : Aside0 ((l.drop j).length = d) := ⟨by rw [List.length_drop, HJ.out]; omega⟩
  have HPL : Aside0 (r.length = i + 2 + d) := ⟨by rw [HR.out, List.length_append, List.length_append, HTK.out.2, HDS.out]; rfl⟩
  have hl2 : j + d ≤ cap := by omega
  have hl3 : j + d ≤ 1048576 := by omega
  clear hcl hjl hl
  have hz1 : ((i : Int) == (j : Int)) = false := by simp; omega
  have hz2 : ((j : Int) == ((j + d : Nat) : Int)) = false := by simp; omega
  have hc1 : ¬ cap = i := by omega
  have hc2 : ¬ cap = j := by omega
  go_enter Try.func34, Try.ntmps34
  go_wp2_with fail
  have hw1 : IntKind.i64.wrap ((i : Int) + 2) = (i : Int) + 2 := IntWalk.i64_in _ (by omega)
  have hw2 : IntKind.i64.wrap ((i : Int) + 2 + (d : Int)) = (i : Int) + 2 + (d : Int) := IntWalk.i64_in _ (by omega)
  have hk1 : (i : Int) ≤ (cap : Int) := by omega
  go_quiet (fail)
  clear hw1 hw2
  have HUq : Aside0 (Whole (w.drewN nq) gu L2) := ⟨HU.out⟩
  have H3q : Aside0 (Whole (w.drewN nq) g (l ++ t)) := ⟨H3.out⟩
  have hb1 : (0 : Int) ≤ (i : Int) + 2 := by omega
  have htn : ((i : Int) + 2).toNat = i + 2 := by omega
  have htn2 : ((i : Int) + 2 + (d : Int)).toNat = i + 2 + d := by omega
  have hb2 : (0 : Int) ≤ (i : Int) + 2 + (d : Int) := by omega
  have hk2 : (i : Int) + 2 ≤ (i : Int) + 2 + (d : Int) := by omega
  have hk4 : (i : Int) + 2 + (d : Int) ≤ (cap : Int) := by omega
  have hk3 : (j : Int) ≤ (j : Int) + (d : Int) := by omega
  have hk5 : (i : Int) ≤ (i : Int) + 2 + (d : Int) := by omega
  have hc3 : ¬ cap = i + 2 := by omega
  have hovq : ∀ o o2 la ca lb cb, (callFunc 37 #[.slice (some ⟨g, o, none⟩) la ca, .slice (some ⟨gu, o2, none⟩) lb cb]).run Try.prog (w.drewN nq) = .ok (.value (.bool false)) (w.drewN nq) := fun o o2 la ca lb cb => overlaps_apart H3q.out HUq.out (Ne.symm hng) hL2 o o2 la ca lb cb
  have HTq : Aside0 (Turned (fun k => k = g) w (w.drewN nq)) := ⟨(Turned.refl _ w).drewN nq⟩
  generalize w.drewN nq = wq at *
  go_wp2_with (simp only [hovq])
  have hw1 : IntKind.i64.wrap ((i : Int) + 2) = (i : Int) + 2 := IntWalk.i64_in _ (by omega)
  have H3d : Aside0 (Whole wq.drew g (l ++ t)) := ⟨H3q.out⟩
  go_region_law (refine step_copyR (w := wq.drew) rfl (.tmp 126) (.tmp 129) rfl (g := g) (g2 := g) (do_ := (i + 2) * 2) (so := j * 2) (dLen := i + 2 + d - (i + 2)) (dCap := cap - (i + 2)) (sLen := j + d - j) (sCap := cap - j) (i + 2) j (l.drop j) (by simp [Act.eval, Act.put]) (by simp [Act.eval, Act.put]) rfl rfl H3d.out H3d.out (by rw [HDS.out]; simp only [Nat.min_def]; split <;> omega) (by rw [List.drop_append_of_le_length (by rw [HJ.out]; omega)]; exact List.prefix_append _ _) (by rw [HC.out, HDS.out]; omega) ?_; intro w1 hw1 ht1; have HW1 := Aside0.mk hw1; have HT1 := Aside0.mk ht1; clear hw1 ht1)
  clear hw1
  have HL1 : Aside0 ((putL (l ++ t) (i + 2) (l.drop j)).length = cap) := ⟨by rw [putL_length (by rw [HC.out, HDS.out]; omega), HC.out]⟩
  have HU1 : Aside0 (Whole w1 gu L2) := ⟨HT1.out.blk (show wq.drew.heap[gu]? = _ from HUq.out) hng⟩
  have HTT : Aside0 (Turned (fun k => k = g) w w1) := ⟨HTq.out.then_ ((Turned.refl _ wq).drew.then_ HT1.out (fun _ h => .inl h)) (fun _ h => .inl h)⟩
  go_wp2_with ((with_reducible refine gate_builtin (b := .copy) (xs := #[.tmp 133, .tmp 134]) rfl ?_); refine list_copyR rfl (.tmp 133) (.tmp 134) rfl (g := g) (g2 := gu) (do_ := i * 2) (so := 0) (dLen := i + 2 + d - i) (dCap := cap - i) (sLen := 2) (sCap := cu) i 0 [x, y] rfl rfl rfl (by simp) HW1.out HU1.out (by simp only [Nat.min_def]; split <;> simp <;> omega) (by simpa using HV.out) (by rw [HL1.out]; simp; omega) ?_; intro w2 hw1 ht1; have HW2 := Aside0.mk hw1; have HT2 := Aside0.mk ht1; clear hw1 ht1)
  go_ret
  refine put_close ?_ h2 HW2.out (by rw [putL_length (by rw [HL1.out]; simp; omega), HL1.out]) h5 HPL.out.symm (HTT.out.then_ HT2.out (fun _ h => .inl h))
  rw [HR.out, putL, putL, List.take_append_of_le_length (by rw [List.length_take, HC.out]; omega), List.take_take, Nat.min_eq_left (by omega), List.take_append_of_le_length (by rw [HJ.out]; omega), List.append_assoc]
  rw [show i + [x, y].length = i + 2 from rfl, List.drop_append_of_le_length (by rw [List.length_take, HC.out]; omega), List.drop_take, Nat.sub_self, List.take_zero, List.nil_append]
  rw [List.prefix_append_right_inj, List.prefix_append_right_inj]
  exact List.prefix_append _ _

set_option maxHeartbeats 4000000 in
set_option maxRecDepth 100000 in
/-- one by two, others behind, where there is no room. -/
theorem replaceC {w : World} {base g gu cu cap i j d : Nat} {l t r L2 : List R2} {x y : R2} (hr : r = l.take i ++ [x, y] ++ l.drop j) (h2 : base ≤ g) (hbs : base ≤ w.heap.size) (h3 : Whole w g (l ++ t)) (hcap : (l ++ t).length = cap) (h5 : cap ≤ 9223372036854775807) (hu : Whole w gu L2) (hng : gu ≠ g) (hv : [x, y] <+: L2) (hl : l.length ≤ 1048576) (hij : i < j) (hjl : l.length = j + d) (hd : 0 < d) (hroom : cap < i + 2 + d) (hj : j ≤ i + 1) :
    Calls Try.prog 34 #[.slice (some ⟨g, 0, none⟩) (j + d : Nat) cap, .int .i64 i, .int .i64 j, .slice (some ⟨gu, 0, none⟩) 2 cu] w fun e w' => Put w base (.slice (some ⟨g, 0, none⟩) (j + d : Nat) cap) r e w' := by
  have hcl : l.length + t.length = cap := by simpa using hcap
  have HR := Aside0.mk hr
  clear hr
  have HU := Aside0.mk hu
  have HV := Aside0.mk hv
  have hgul := hu.lt
  have hL2 : 0 < L2.length := Nat.lt_of_lt_of_le (by simp) hv.length_le
  have H3 := Aside0.mk h3
  have HC := Aside0.mk hcap
  have HJ := Aside0.mk hjl
  have hgl := h3.lt
  clear hu hv
  clear h3 hcap
  have HTK : Aside0 (l.take i <+: l ++ t ∧ (l.take i).length = i) := ⟨(List.take_prefix _ _).trans (List.prefix_append _ _), by rw [List.length_take, HJ.out]; omega⟩
  have HDS : Aside0 ((l.drop j).length = d) := ⟨by rw [List.length_drop, HJ.out]; omega⟩
  have HPL : Aside0 (r.length = i + 2 + d) := ⟨by rw [HR.out, List.length_append, List.length_append, HTK.out.2, HDS.out]; rfl⟩
  have hl2 : j + d ≤ cap := by omega
  have hl3 : j + d ≤ 1048576 := by omega
  clear hcl hjl hl
  have hz1 : ((i : Int) == (j : Int)) = false := by simp; omega
  have hz2 : ((j : Int) == ((j + d : Nat) : Int)) = false := by simp; omega
  have hc1 : ¬ cap = i := by omega
  have hc2 : ¬ cap = j := by omega
  go_enter Try.func34, Try.ntmps34
  go_wp2_with fail
  have hw1 : IntKind.i64.wrap ((i : Int) + 2) = (i : Int) + 2 := IntWalk.i64_in _ (by omega)
  have hw2 : IntKind.i64.wrap ((i : Int) + 2 + (d : Int)) = (i : Int) + 2 + (d : Int) := IntWalk.i64_in _ (by omega)
  have hk1 : (i : Int) ≤ (cap : Int) := by omega
  go_quiet (fail)
  clear hw1 hw2
  have HUq : Aside0 (Whole (w.drewN nq) gu L2) := ⟨HU.out⟩
  have H3q : Aside0 (Whole (w.drewN nq) g (l ++ t)) := ⟨H3.out⟩
  have hgulq : gu < (w.drewN nq).heap.size := hgul
  have hglq : g < (w.drewN nq).heap.size := hgl
  have HTq : Aside0 (Below w.heap.size w (w.drewN nq) ∧ (w.drewN nq).heap.size = w.heap.size) := ⟨pw_below_drewN (Below.refl _ _) nq, rfl⟩
  generalize w.drewN nq = wq at *
  go_wp2_with (first | ((with_reducible refine gate_builtin (b := .append) (xs := #[.tmp 63, .tmp 66]) rfl ?_); refine list_growZ rfl (.tmp 63) (.tmp 66) rfl (mi := (i : Int) + 2 + (d : Int) - i) (g := g) (n := i) (cap := cap) (2 + d) rfl rfl (by omega) HTK.out.2 H3q.out HTK.out.1 (by omega) (by omega) (by omega) ?_; intro cap' w1 hw1 hb1 hc1 hc2; have HW1 := Aside0.mk hw1; have HB1 := Aside0.mk hb1; clear hw1 hb1; have hlen : i + (2 + d) = i + 2 + d := (by omega); rw [hlen] at hc1; rw [hlen] at HW1; rw [hlen]; clear hlen; have hb6 : ¬ cap' = i := (by omega); have hb7 : ¬ cap' = i + 2 := (by omega); have HU1 : Aside0 (Whole w1 gu L2) := ⟨(HB1.out.block _ hgulq).trans HUq.out⟩; have H31 : Aside0 (Whole w1 g (l ++ t)) := ⟨(HB1.out.block _ hglq).trans H3q.out⟩; have HZL : Aside0 ((l.take i ++ List.replicate (2 + d) (0, 0) ++ List.replicate (cap' - (i + 2 + d)) (0, 0) : List R2).length = cap') := ⟨(by rw [List.length_append, List.length_append, HTK.out.2]; simp; omega)⟩) | ((with_reducible refine gate_builtin (b := .copy) (xs := #[.tmp 70, .tmp 71]) rfl ?_); refine list_copyR rfl (.tmp 70) (.tmp 71) rfl (g := wq.heap.size) (g2 := gu) (do_ := i * 2) (so := 0) (dLen := i + 2 + d - i) (dCap := cap' - i) (sLen := 2) (sCap := cu) i 0 [x, y] rfl rfl rfl (by simp) HW1.out HU1.out (by simp only [Nat.min_def]; split <;> simp <;> omega) (by simpa using HV.out) (by rw [HZL.out]; simp; omega) ?_; intro w2 hw1 ht1; have HW2 := Aside0.mk hw1; have HT2 := Aside0.mk ht1; clear hw1 ht1; have hw1 : IntKind.i64.wrap ((i : Int) + 2) = (i : Int) + 2 := (IntWalk.i64_in _ (by omega)); have hb1 : (0 : Int) ≤ (i : Int) + 2 := (by omega); have htn : ((i : Int) + 2).toNat = i + 2 := (by omega); have hk2 : (i : Int) + 2 ≤ (i : Int) + 2 + (d : Int) := (by omega); have hk3 : (j : Int) ≤ (j : Int) + (d : Int) := (by omega)))
  have H3d : Aside0 (Whole w2.drew g (l ++ t)) := ⟨HT2.out.blk H31.out (by omega)⟩
  have HW2d : Aside0 (Whole w2.drew wq.heap.size _) := ⟨HW2.out⟩
  go_region_law (refine step_copyR (w := w2.drew) rfl (.tmp 78) (.tmp 81) rfl (g := wq.heap.size) (g2 := g) (do_ := (i + 2) * 2) (so := j * 2) (dLen := i + 2 + d - (i + 2)) (dCap := cap' - (i + 2)) (sLen := j + d - j) (sCap := cap - j) (i + 2) j (l.drop j) (by simp [Act.eval, Act.put]) (by simp [Act.eval, Act.put]) rfl rfl HW2d.out H3d.out (by rw [HDS.out]; simp only [Nat.min_def]; split <;> omega) (by rw [List.drop_append_of_le_length (by rw [HJ.out]; omega)]; exact List.prefix_append _ _) (by rw [putL_length (by rw [HZL.out]; simp; omega), HZL.out, HDS.out]; omega) ?_; intro w3 hw3 ht3; have HW3 := Aside0.mk hw3; have HT3 := Aside0.mk ht3; clear hw3 ht3)
  go_wp2
  go_ret
  have hs := HTq.out.2
  have hbb := below_of_turned (below_drew (below_of_turned HB1.out HB1.out.size (Nat.le_refl _) HT2.out)) (Nat.le_trans HB1.out.size HT2.out.size) (Nat.le_refl _) HT3.out
  have hpre : r <+: putL (putL (l.take i ++ List.replicate (2 + d) (0, 0) ++ List.replicate (cap' - (i + 2 + d)) (0, 0)) i [x, y]) (i + 2) (l.drop j) :=
    HR.out ▸ put_prefix (put_prefix ((List.prefix_append _ _).trans (List.prefix_append _ _)) HTK.out.2) (by rw [List.length_append, HTK.out.2]; rfl)
  refine ⟨_, rfl, Own.mk (by omega) HW3.out hpre (by rw [putL_length (by rw [putL_length (by rw [HZL.out]; simp; omega), HZL.out, HDS.out]; omega), putL_length (by rw [HZL.out]; simp; omega), HZL.out]; omega) HPL.out.symm (by rw [putL_length (by rw [putL_length (by rw [HZL.out]; simp; omega), HZL.out, HDS.out]; omega), putL_length (by rw [HZL.out]; simp; omega), HZL.out]), ?_, .inr ⟨_, rfl, (by omega : w.heap.size ≤ wq.heap.size)⟩⟩
  exact Turned.of_below (below_then HTq.out.1 (by omega) hbb) _

/-- Some by one, or one more. -/
theorem replace_one {w : World} {base gu cu : Nat} {v : Value} {l L2 : List R2} {x : R2} (h : Own w base v l) (hbs : base ≤ w.heap.size) (hu : Whole w gu L2) (hv : [x] <+: L2) (hne : v.ownBlock ≠ some gu) (hl : l.length ≤ 1048576) (i j : Nat) (iI jI : Int) (hi : iI = i) (hj : jI = j) (hij : i < j) (hjl : j ≤ l.length) :
    Calls Try.prog 34 #[v, .int .i64 iI, .int .i64 jI, .slice (some ⟨gu, 0, none⟩) 1 cu] w fun e w' => Put w base v (l.take i ++ [x] ++ l.drop j) e w' := by
  subst hi hj
  rcases h with ⟨rfl, rfl⟩ | ⟨g, L, rfl, h2, h3, ⟨t, rfl⟩, h5⟩
  · simp at hjl; omega
  have hng : gu ≠ g := fun e => hne (by rw [e]; rfl)
  by_cases hd : j = l.length
  · subst hd
    exact replaceB1 (d := 0) rfl h2 hbs h3 rfl h5 hu hng hv hl hij rfl (by simp; omega)
  · have := replaceD1 (d := l.length - j) (cu := cu) rfl h2 hbs h3 rfl h5 hu hng hv hl hij (by omega) (by omega)
    rwa [show j + (l.length - j) = l.length by omega] at this
set_option maxHeartbeats 2000000 in
set_option maxRecDepth 100000 in
theorem replace_ins {w : World} {base gu cu : Nat} {v : Value} {l : List R2} {x : R2} (h : Own w base v l) (hbs : base ≤ w.heap.size) (hu : Whole w gu [x]) (hne : v.ownBlock ≠ some gu) (hl : l.length ≤ 1048576) (i : Nat) (hi : i ≤ l.length) :
    Calls Try.prog 34 #[v, .int .i64 i, .int .i64 i, .slice (some ⟨gu, 0, none⟩) 1 cu] w fun e w' => Put w base v (l.take i ++ [x] ++ l.drop i) e w' := by
  have HC := Aside0.mk (insert_any (cu := cu) h hbs hu hne hl i hi)
  obtain ⟨A, c, rfl, hc, hc2, -⟩ := h.reads
  clear h hu hne
  obtain ⟨r, hr⟩ : ∃ r, r = l.take i ++ [x] ++ l.drop i := ⟨_, rfl⟩
  rw [← hr] at HC ⊢
  clear hr
  have hk : (i : Int) ≤ (c : Int) := by omega
  have hz1 : ((i : Int) == (i : Int)) = true := by simp
  by_cases hci : c = i
  · subst hci
    go_enter Try.func34, Try.ntmps34
    go_wp2_with fail
    refine HC.out.mono ?_
    rintro e w1 ⟨v', rfl, h1, h2, h3⟩
    have H1 := Aside0.mk h1
    have H2 := Aside0.mk h2
    have H3 := Aside0.mk h3
    clear h1 h2 h3 HC
    go_wp2_with fail
    go_ret
    exact ⟨_, rfl, H1.out, H2.out, H3.out⟩
  · go_enter Try.func34, Try.ntmps34
    go_wp2_with fail
    refine HC.out.mono ?_
    rintro e w1 ⟨v', rfl, h1, h2, h3⟩
    have H1 := Aside0.mk h1
    have H2 := Aside0.mk h2
    have H3 := Aside0.mk h3
    clear h1 h2 h3 HC
    go_wp2_with fail
    go_ret
    exact ⟨_, rfl, H1.out, H2.out, H3.out⟩
theorem replace_give {w : World} {base gu cu : Nat} {v : Value} {l : List R2} {x : R2} (h : Own w base v l) (hbs : base ≤ w.heap.size) (hu : Whole w gu [x]) (hne : v.ownBlock ≠ some gu) (hl : l.length ≤ 1048576) (i j : Nat) (iI jI : Int) (hi : iI = i) (hj : jI = j) (hij : i ≤ j) (hjl : j ≤ l.length) :
    Calls Try.prog 34 #[v, .int .i64 iI, .int .i64 jI, .slice (some ⟨gu, 0, none⟩) 1 cu] w fun e w' => Put w base v (l.take i ++ [x] ++ l.drop j) e w' := by
  by_cases he : i = j
  · subst he hi hj
    exact replace_ins h hbs hu hne hl i hjl
  · exact replace_one h hbs hu (List.prefix_refl _) hne hl i j iI jI hi hj (by omega) hjl
/-- One by none, one or two. -/
theorem replace_cut {w : World} {base base2 : Nat} {v u : Value} {l vs : List R2} (h : Own w base v l) (hbs : base ≤ w.heap.size) (hu : Own w base2 u vs) (hnil : vs = [] → u = .slice none 0 0) (hm : vs.length ≤ 2) (hne : ∀ k, u.ownBlock = some k → v.ownBlock ≠ some k) (hl : l.length ≤ 1048576) (i : Nat) (iI jI : Int) (hi : iI = i) (hj : jI = i + 1) (hil : i < l.length) :
    Calls Try.prog 34 #[v, .int .i64 iI, .int .i64 jI, u] w fun e w' => Put w base v (l.take i ++ vs ++ l.drop (i + 1)) e w' := by
  have hj' : jI = ((i + 1 : Nat) : Int) := by omega
  clear hj
  match vs, hm with
  | [], _ =>
    obtain rfl := hnil rfl
    subst hi hj'
    rcases h with ⟨rfl, rfl⟩ | ⟨g, L, rfl, h2, h3, ⟨t, rfl⟩, h5⟩
    · simp at hil
    by_cases hd : i + 1 = l.length
    · have := replaceB0 (d := 0) (gu := 0) (cu := 0) (L2 := []) rfl h2 hbs h3 rfl h5 hl (show i < i + 1 by omega) hd.symm (by simp; omega)
      rw [hd] at this ⊢
      exact this
    · have := replaceD0 (gu := 0) (cu := 0) (L2 := []) (j := i + 1) (d := l.length - (i + 1)) rfl h2 hbs h3 rfl h5 hl (show i < i + 1 by omega) (by omega) (by omega)
      rwa [show i + 1 + (l.length - (i + 1)) = l.length by omega] at this
  | [x], _ =>
    rcases hu with ⟨_, h0⟩ | ⟨gu, L2, rfl, _, h7, h8, _⟩
    · simp at h0
    · exact replace_one h hbs h7 h8 (hne gu rfl) hl i (i + 1) iI jI hi hj' (by omega) hil
  | [x, y], _ =>
    rcases hu with ⟨_, h0⟩ | ⟨gu, L2, rfl, _, h7, h8, _⟩
    · simp at h0
    subst hi hj'
    rcases h with ⟨rfl, rfl⟩ | ⟨g, L, rfl, h2, h3, ⟨t, rfl⟩, h5⟩
    · simp at hil
    have hng : gu ≠ g := fun e => hne gu rfl (by rw [e]; rfl)
    by_cases hd : i + 1 = l.length
    · by_cases hroom : i + 2 ≤ (l ++ t).length
      · have := replaceB2 (d := 0) (cu := L2.length) rfl h2 hbs h3 rfl h5 h7 hng h8 hl (show i < i + 1 by omega) hd.symm hroom
        rw [hd] at this ⊢
        exact this
      · have := replaceB3 (d := 0) (cu := L2.length) rfl h2 hbs h3 rfl h5 h7 hng h8 hl (show i < i + 1 by omega) hd.symm (by omega)
        rw [hd] at this ⊢
        exact this
    · by_cases hroom : i + 2 + (l.length - (i + 1)) ≤ (l ++ t).length
      · have := replaceE (cu := L2.length) (d := l.length - (i + 1)) rfl h2 hbs h3 rfl h5 h7 hng h8 hl (show i < i + 1 by omega) (by omega) (by omega) hroom (by omega)
        rwa [show i + 1 + (l.length - (i + 1)) = l.length by omega] at this
      · have := replaceC (cu := L2.length) (d := l.length - (i + 1)) rfl h2 hbs h3 rfl h5 h7 hng h8 hl (show i < i + 1 by omega) (by omega) (by omega) (by omega) (by omega)
        rwa [show i + 1 + (l.length - (i + 1)) = l.length by omega] at this
end Go.Proofs.Ytdcccimdgbkniaa.Mine
