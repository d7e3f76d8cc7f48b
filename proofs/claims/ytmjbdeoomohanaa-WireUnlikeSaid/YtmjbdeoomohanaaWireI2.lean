/- wire: the builtin copy into such a row, as a step of a plain walk. -/
import Derived.Test.YtmjbdeoomohanaaWireI
set_option linter.unusedSimpArgs false
set_option linter.unusedVariables false
namespace Go.Proofs.Ytmjbdeoomohanaa.Mine
open Go.RowKit Go.Maps Go.Proofs.YtmjbdeoomohanaaW.PrintWords Go.Proofs.YtmjbdeoomohanaaW.PrintLast Go.Proofs.YtmjbdeoomohanaaW.PrintMore Go.Proofs.Ytmjbdeoomohanaa.PWirePacks Go.Proofs.Ytmjbdeoomohanaa.Turn

theorem run_copy_N {α : Type} {P : Program} {W : World} (d : Kd α) (dT sT ty e : TypeId) (hu : P.underlying dT = some (.slice e)) (hsz : (P.info? e).map (·.size) = some d.sz) (hs0 : 0 < d.sz)
    {base n cap g m c : Nat} {ok okp : Nat → Prop} {zs ys : List α} {A : Option Addr}
    (hN : Kd.N d e W base ok (.slice (some ⟨g, 0, none⟩) n cap) zs) (hF : Kd.F d W okp A m ys) (hokp : ∀ k, okp k → ok k ∧ k ≠ g) :
    ∃ w', (Builtin.copy_ #[dT, sT] ty #[.slice (some ⟨g, 0, none⟩) n cap, .slice A m c]).run P W = .ok (goInt (Nat.min m n)) w' ∧ Kd.N d e w' base ok (.slice (some ⟨g, 0, none⟩) n cap) (ys.take n ++ zs.drop m) ∧ Turned (fun k => k = g) W w' := by
  obtain ⟨cur, cs, hg, hcl, hsrc, hfit, h1, hN'⟩ := N_copied hs0 hN hF hokp
  obtain ⟨i, hi, hiz⟩ := Option.map_eq_some_iff.1 hsz
  rcases A with _ | ad
  · have hm0 : m = 0 := by
      rcases Nat.eq_zero_or_pos m with h | h
      · exact h
      · obtain ⟨ad, e, _⟩ := hsrc h
        cases e
    subst hm0
    have hys : ys = [] := List.eq_nil_of_length_eq_zero (Kd.F_len hF)
    subst hys
    refine ⟨W, ?_, by simpa using hN, Turned.refl _ W⟩
    rw [show Nat.min 0 n = 0 from Nat.zero_min n]
    exact Mine.run_copy_none W dT sT ty e i hu hi _ n cap c
  · have := Go.Proofs.Ytmjbdeoomohanaa.Turn.run_copy_cells (P := P) W dT sT ty e i hu hi g 0 n cap ad m c cur e hg cs (by rw [hiz]; exact hcl) ?_ (by simpa using hfit) h1
    · refine ⟨_, this, by simpa using hN', (Turned.refl (fun k => k = g) W).setRow (.inl rfl) _⟩
    · intro j v hj
      rcases Nat.eq_zero_or_pos m with h | h
      · subst h
        rw [show Nat.min 0 n = 0 from Nat.zero_min n, Nat.zero_mul] at hcl
        rw [List.eq_nil_of_length_eq_zero hcl] at hj
        simp at hj
      · obtain ⟨ad', e', h2⟩ := hsrc h
        cases e'
        exact h2 j v hj

theorem copy_N {α : Type} {P : Program} {ops : Array Oper} {o : Oper} {rest : List Oper} {a : Act} {W : World} {Q : Exit → Act → World → Prop} (d : Kd α) (hgd : o.guard = none) (x y : Operand) (dT sT : TypeId) (ho : o.op = .call { callee := .builtin .copy, args := #[x, y], argTypes := #[dT, sT] }) (e : TypeId) (hu : P.underlying dT = some (.slice e)) (hsz : (P.info? e).map (·.size) = some d.sz) (hs0 : 0 < d.sz)
    {base n cap g m c : Nat} {ok okp : Nat → Prop} {zs ys : List α} {A : Option Addr} (hx : a.eval x = .slice (some ⟨g, 0, none⟩) n cap) (hy : a.eval y = .slice A m c)
    (hN : Kd.N d e W base ok (.slice (some ⟨g, 0, none⟩) n cap) zs) (hF : Kd.F d W okp A m ys) (hokp : ∀ k, okp k → ok k ∧ k ≠ g)
    (hK : ∀ w', Kd.N d e w' base ok (.slice (some ⟨g, 0, none⟩) n cap) (ys.take n ++ zs.drop m) → Turned (fun k => k = g) W w' → wpList P ops Q rest (a.put o.dst (goInt (Nat.min m n))) w') :
    wpList P ops Q (o :: rest) a W := by
  obtain ⟨w', hr, h1, h2⟩ := run_copy_N (P := P) (c := c) d dT sT o.type e hu hsz hs0 hN hF hokp
  refine wpList_plain hgd fun K hKK => ?_
  unfold Oper.wp execOp
  simp only [ho, resolve, invoke, builtin, Sem.run_bind, Sem.run_pure, Result.andThen_ok, List.map_toArray, List.map_cons, List.map_nil, hx, hy, hr]
  exact hKK _ _ (hK w' h1 h2)
end Go.Proofs.Ytmjbdeoomohanaa.Mine
