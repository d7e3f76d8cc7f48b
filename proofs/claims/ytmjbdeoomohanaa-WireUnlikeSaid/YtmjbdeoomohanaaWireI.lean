/- wire: the builtin copy into a row of one's own whose elements share. -/
import Derived.Test.YtmjbdeoomohanaaWireH
import Derived.Test.YtmjbdeoomohanaaCopy
set_option linter.unusedSimpArgs false
set_option linter.unusedVariables false
namespace Go.Proofs.Ytmjbdeoomohanaa.Mine
open Go.RowKit Go.Maps Go.Proofs.YtmjbdeoomohanaaW.PrintWords Go.Proofs.YtmjbdeoomohanaaW.PrintLast Go.Proofs.YtmjbdeoomohanaaW.PrintMore Go.Proofs.Ytmjbdeoomohanaa.PWirePacks Go.Proofs.Ytmjbdeoomohanaa.Turn

section
variable {V : Type} {sz : Nat}
theorem flat_len : ∀ (rows : List (List V)), (∀ r ∈ rows, r.length = sz) → rows.flatten.length = rows.length * sz
  | [], _ => by simp
  | r :: rs, h => by
    rw [List.flatten_cons, List.length_append, flat_len rs (fun x hx => h x (List.mem_cons_of_mem _ hx)), h r List.mem_cons_self, List.length_cons, Nat.add_mul]
    omega
theorem flat_drop : ∀ (rows : List (List V)) (j : Nat), (∀ r ∈ rows, r.length = sz) → rows.flatten.drop (j * sz) = (rows.drop j).flatten
  | [], j, _ => by simp
  | r :: rs, 0, h => by simp
  | r :: rs, j + 1, h => by
    have hr := h r List.mem_cons_self
    rw [List.flatten_cons, List.drop_succ_cons, ← flat_drop rs j (fun x hx => h x (List.mem_cons_of_mem _ hx)), Nat.add_mul, Nat.one_mul, Nat.add_comm, ← List.drop_drop, List.drop_left' hr]
theorem flat_at (rows : List (List V)) (h : ∀ r ∈ rows, r.length = sz) {j i : Nat} {r : List V} (hj : rows[j]? = some r) (hi : i < sz) : rows.flatten[j * sz + i]? = r[i]? := by
  obtain ⟨hl, rfl⟩ := List.getElem?_eq_some_iff.1 hj
  rw [← List.getElem?_drop, flat_drop rows j h, List.drop_eq_getElem_cons hl, List.flatten_cons, List.getElem?_append_left (by rw [h _ (List.getElem_mem hl)]; exact hi)]
end

def rawR (sz : Nat) : List Value → List Value → Prop := fun x cs => cs = x ∧ cs.length = sz ∧ ∀ u ∈ cs, u.oneCell' = true
theorem flat_of_reps {sz : Nat} : ∀ {rows : List (List Value)} {inner : List Value}, Reps (rawR sz) sz rows inner → inner = rows.flatten ∧ ∀ r ∈ rows, r.length = sz ∧ ∀ u ∈ r, u.oneCell' = true
  | [], inner, h => by
    have := h.1
    simp at this
    exact ⟨by rw [this]; rfl, fun r hr => by cases hr⟩
  | r :: rs, inner, h => by
    have h0 := h.2 0 r rfl
    rw [Nat.zero_mul, List.drop_zero] at h0
    have ht : Reps (rawR sz) sz rs (inner.drop sz) := by
      refine ⟨by rw [List.length_drop, h.1, List.length_cons, Nat.add_mul]; omega, fun j p hj => ?_⟩
      have := h.2 (j + 1) p hj
      rwa [Nat.add_mul, Nat.one_mul, Nat.add_comm, ← List.drop_drop] at this
    obtain ⟨e, hr⟩ := flat_of_reps ht
    obtain ⟨h1, h2, h3⟩ := h0
    rw [h1] at h2 h3
    refine ⟨?_, fun x hx => ?_⟩
    · rw [List.flatten_cons, ← e, ← h1, List.take_append_drop]
    · rcases List.mem_cons.1 hx with rfl | hx
      · exact ⟨h2, h3⟩
      · exact hr x hx
theorem reps_flat {sz : Nat} (rows : List (List Value)) (h : ∀ r ∈ rows, r.length = sz ∧ ∀ u ∈ r, u.oneCell' = true) : Reps (rawR sz) sz rows rows.flatten := by
  refine ⟨flat_len rows (fun r hr => (h r hr).1), fun j p hj => ?_⟩
  obtain ⟨hl, rfl⟩ := List.getElem?_eq_some_iff.1 hj
  have hm := h _ (List.getElem_mem hl)
  rw [flat_drop rows j (fun r hr => (h r hr).1), List.drop_eq_getElem_cons hl, List.flatten_cons, List.take_left' hm.1]
  exact ⟨rfl, hm⟩

theorem N_copied {α : Type} {d : Kd α} {e base n cap g m : Nat} {ok okp : Nat → Prop} {W : World} {zs ys : List α} {A : Option Addr} (hs0 : 0 < d.sz) (hN : Kd.N d e W base ok (.slice (some ⟨g, 0, none⟩) n cap) zs) (hF : Kd.F d W okp A m ys) (hokp : ∀ k, okp k → ok k ∧ k ≠ g) :
    ∃ (cur : Array Value) (cs : List Value), W.heap[g]? = some (.cells cur e (0, 0)) ∧ cs.length = Nat.min m n * d.sz ∧ (0 < m → ∃ ad, A = some ad ∧ ∀ j v, cs[j]? = some v → W.cell? (ad.add j) = some v) ∧ cs.length ≤ cur.size ∧ (∀ v ∈ cs, v.oneCell' = true) ∧
      Kd.N d e (W.setRow g (cs ++ cur.toList.drop cs.length).toArray) base ok (.slice (some ⟨g, 0, none⟩) n cap) (ys.take n ++ zs.drop m) := by
  obtain ⟨hown, rows, hl, ⟨h0, inner, hO, hR⟩, hf⟩ := hN
  obtain ⟨hxl, hO⟩ := hO
  rcases hO with ⟨h, _⟩ | ⟨g', cap', cur, hv, hb, hh, hnc, hcm, hsz, htk⟩
  · cases h
  simp only [Value.slice.injEq, Option.some.injEq, Addr.mk.injEq, true_and, and_true] at hv
  obtain ⟨rfl, rfl, rfl⟩ := hv
  obtain ⟨hin, hrow⟩ := flat_of_reps hR
  obtain ⟨news, hnl, hnr, hnf⟩ := Kd.reads_raw (Kd.F_rows hF) (fun y c hk => ⟨d.K_len (Kd.FK_now hk), d.K_one (Kd.FK_now hk)⟩)
  have hym : ys.length = m := Kd.F_len hF
  have hnew : ∀ r ∈ news, r.length = d.sz ∧ ∀ u ∈ r, u.oneCell' = true := by
    intro r hr
    obtain ⟨j, hj, rfl⟩ := List.mem_iff_getElem.1 hr
    have hk := hnf j _ _ (List.getElem?_eq_getElem (by omega)) (List.getElem?_eq_getElem hj)
    exact ⟨d.K_len (Kd.FK_now hk), d.K_one (Kd.FK_now hk)⟩
  have htake : ∀ r ∈ news.take rows.length, r.length = d.sz ∧ ∀ u ∈ r, u.oneCell' = true := fun r hr => hnew r (List.mem_of_mem_take hr)
  have hlen : (news.take rows.length).flatten.length = Nat.min m rows.length * d.sz := by
    rw [flat_len _ (fun r hr => (htake r hr).1), List.length_take, hnl, hym, Nat.min_comm]
  have hmn : Nat.min m rows.length * d.sz ≤ rows.length * d.sz := Nat.mul_le_mul_right _ (Nat.min_le_right _ _)
  have hcs : rows.length * d.sz ≤ cap * d.sz := Nat.mul_le_mul_right _ hnc
  have hsz : cur.size = cap * d.sz := hsz
  have htk : cur.toList.take (rows.length * d.sz) = inner := htk
  have hrl : (news.take rows.length ++ rows.drop m).length = rows.length := by
    rw [List.length_append, List.length_take, List.length_drop, hnl, hym]
    omega
  have hrow' : ∀ r ∈ news.take rows.length ++ rows.drop m, r.length = d.sz ∧ ∀ u ∈ r, u.oneCell' = true := fun r hr => (List.mem_append.1 hr).elim (htake r) (fun h => hrow r (List.mem_of_mem_drop h))
  have hfl : (news.take rows.length).flatten ++ (rows.drop m).flatten = (news.take rows.length ++ rows.drop m).flatten := List.flatten_append.symm
  have hfll : ((news.take rows.length).flatten ++ (rows.drop m).flatten).length = rows.length * d.sz := by
    rw [hfl, flat_len _ (fun r hr => (hrow' r hr).1), hrl]
  have hrd : (rows.drop m).flatten = (cur.toList.drop (news.take rows.length).flatten.length).take (rows.length * d.sz - (news.take rows.length).flatten.length) := by
    rw [← List.drop_take, htk, hin, hlen, flat_drop _ _ (fun r hr => (hrow r hr).1)]
    by_cases hmr : m ≤ rows.length
    · rw [show Nat.min m rows.length = m from Nat.min_eq_left hmr]
    · rw [show Nat.min m rows.length = rows.length from Nat.min_eq_right (by omega), List.drop_eq_nil_of_le (by omega), List.drop_eq_nil_of_le (Nat.le_refl _)]
  refine ⟨cur, (news.take rows.length).flatten, hh, hlen, fun hm => ?_, by rw [hlen, hsz]; omega, ?_, fun k hk => hown k hk, news.take rows.length ++ rows.drop m, ?_, ⟨fun k hk => hk.symm, (news.take rows.length).flatten ++ (rows.drop m).flatten, ⟨?_, .inr ⟨g, cap, _, ?_, hb, setRow_heap W g cur _ e _ hh, ?_, hcm, ?_, ?_⟩⟩, ?_⟩, ?_⟩
  · obtain ⟨ad, rfl, hq⟩ := hnr.2.2 hm
    refine ⟨ad, rfl, fun q v hv => ?_⟩
    have hql := (List.getElem?_eq_some_iff.1 hv).1
    rw [hlen] at hql
    have hj : q / d.sz < Nat.min m rows.length := Nat.div_lt_of_lt_mul (by rw [Nat.mul_comm]; exact hql)
    have hi := Nat.mod_lt q hs0
    have hj1 : q / d.sz < m := Nat.lt_of_lt_of_le hj (Nat.min_le_left _ _)
    have hj2 : q / d.sz < rows.length := Nat.lt_of_lt_of_le hj (Nat.min_le_right _ _)
    have hjn : news[q / d.sz]? = some (news[q / d.sz]'(by omega)) := List.getElem?_eq_getElem (by omega)
    have hjt : (news.take rows.length)[q / d.sz]? = some (news[q / d.sz]'(by omega)) := by rw [List.getElem?_take_of_lt hj2]; exact hjn
    have h1 := flat_at _ (fun r hr => (htake r hr).1) hjt hi
    have hqq : q / d.sz * d.sz + q % d.sz = q := Nat.div_add_mod' q d.sz
    rw [hqq, hv] at h1
    obtain ⟨c, hc1, ⟨hc2, _⟩, hc3⟩ := hq _ _ hjn
    have h2 := hc3 (q % d.sz) v (by rw [hc2]; exact h1.symm)
    rwa [hqq] at h2
  · intro v hv
    obtain ⟨r, hr, hvr⟩ := List.mem_flatten.1 hv
    exact (htake r hr).2 v hvr
  · rw [hrl, List.length_append, List.length_take, List.length_drop]
    omega
  · rw [hrl]; exact hfll
  · rw [hrl]
  · rw [hrl]; exact hnc
  · simp only [List.size_toArray, List.length_append, List.length_drop, Array.length_toList]
    change _ = cap * d.sz
    rw [hlen, hsz]
    omega
  · rw [hrl]
    change List.take (rows.length * d.sz) _ = _
    rw [hrd, List.take_append, List.take_of_length_le (by rw [hlen]; exact hmn)]
  · rw [hfl]; exact reps_flat _ hrow'
  · intro j x c hx hc
    have hgo : ∀ a b : Nat, (Value.slice (some ⟨g, 0, none⟩) a b).ownBlock = some g := fun a b => by simp [Value.ownBlock]
    have hlt : (ys.take rows.length).length = (news.take rows.length).length := by rw [List.length_take, List.length_take, hnl]
    by_cases hj : j < (news.take rows.length).length
    · rw [List.getElem?_append_left (by omega)] at hx
      rw [List.getElem?_append_left hj] at hc
      have hjr : j < rows.length := by rw [List.length_take] at hj; omega
      rw [List.getElem?_take_of_lt hjr] at hx hc
      refine Kd.FK_mono (Kd.FK_step (hnf j x c hx hc) (fun k hk _ => setRow_other W g k _ (hokp k hk).2)) (fun k hk => ⟨(hokp k hk).1, fun he => (hokp k hk).2 ?_⟩)
      rw [hgo] at he
      exact Option.some.inj he
    · rw [List.getElem?_append_right (by omega), List.getElem?_drop] at hx
      rw [List.getElem?_append_right (by omega), List.getElem?_drop] at hc
      rw [hlt] at hx
      refine Kd.FK_step (hf _ x c hx hc) (fun k hk _ => setRow_other W g k _ (fun he => hk.2 ?_))
      rw [hgo, he]
theorem run_copy_none {P : Program} (w : World) (dT sT ty elem : TypeId) (i : TypeInfo) (hu : P.underlying dT = some (.slice elem)) (hi : P.info? elem = some i) (D : Option Addr) (n cap c : Nat) :
    (Builtin.copy_ #[dT, sT] ty #[.slice D n cap, .slice none 0 c]).run P w = .ok (goInt 0) w := by
  cases D <;> simp [Builtin.copy_, Builtin.firstCells, storeCells, run_underlying hu, sizeOf, typeInfo, hi, Builtin.lenOf, Result.andThen]

theorem step_copy_N {α : Type} {P : Program} {ops : Array Oper} {o : Oper} {a : Act} {W : World} {K : Act → World → Prop} {Q : Exit → Act → World → Prop} {E : Prop} (d : Kd α)
    (hgd : o.guard = none) (x y : Operand) (dT sT : TypeId) (ho : o.op = .call { callee := .builtin .copy, args := #[x, y], argTypes := #[dT, sT] }) (e : TypeId) (hu : P.underlying dT = some (.slice e)) (hsz : (P.info? e).map (·.size) = some d.sz) (hs0 : 0 < d.sz)
    {base n cap g m c : Nat} {ok okp : Nat → Prop} {zs ys : List α} {A : Option Addr} (hx : a.eval x = .slice (some ⟨g, 0, none⟩) n cap) (hy : a.eval y = .slice A m c)
    (hN : Kd.N d e W base ok (.slice (some ⟨g, 0, none⟩) n cap) zs) (hF : Kd.F d W okp A m ys) (hokp : ∀ k, okp k → ok k ∧ k ≠ g)
    (hK : ∀ w', Kd.N d e w' base ok (.slice (some ⟨g, 0, none⟩) n cap) (ys.take n ++ zs.drop m) → Turned (fun k => k = g) W w' → K (a.put o.dst (goInt (Nat.min m n))) w') :
    if Region.wanted o (yielded ops a.tmps) = true then Oper.wp P o a W K Q else E := by
  obtain ⟨cur, cs, hg, hcl, hsrc, hfit, h1, hN'⟩ := N_copied hs0 hN hF hokp
  rcases A with _ | ad
  · have hm0 : m = 0 := by
      rcases Nat.eq_zero_or_pos m with h | h
      · exact h
      · obtain ⟨ad, e, _⟩ := hsrc h
        cases e
    subst hm0
    have hys : ys = [] := List.eq_nil_of_length_eq_zero (Kd.F_len hF)
    subst hys
    have hw : Region.wanted o (yielded ops a.tmps) = true := by simp [Region.wanted, hgd]
    rw [if_pos hw]
    obtain ⟨i, hi, _⟩ := Option.map_eq_some_iff.1 hsz
    have hrun := run_copy_none (P := P) W dT sT o.type e i hu hi (some ⟨g, 0, none⟩) n cap c
    have hk := hK W (by simpa using hN) (Turned.refl _ W)
    rw [show Nat.min 0 n = 0 from Nat.zero_min n] at hk
    unfold Oper.wp
    simp [execOp, ho, resolve, invoke, builtin, hx, hy, hrun, Result.andThen]
    exact hk
  · refine step_copy_cells hgd x y dT sT ho e d.sz hu hsz g 0 n cap ad m c hx hy cur e hg cs hcl ?_ (by simpa using hfit) h1 ?_
    · intro j v hj
      rcases Nat.eq_zero_or_pos m with h | h
      · subst h
        rw [show Nat.min 0 n = 0 from Nat.zero_min n, Nat.zero_mul] at hcl
        rw [List.eq_nil_of_length_eq_zero hcl] at hj
        simp at hj
      · obtain ⟨ad', e', h2⟩ := hsrc h
        cases e'
        exact h2 j v hj
    · have := hK _ hN' ((Turned.refl (fun k => k = g) W).setRow (.inl rfl) _)
      simpa using this
end Go.Proofs.Ytmjbdeoomohanaa.Mine
