/- pax: lent, kept. -/
import Derived.Test.YtbidbjgklonbpaaDoorPaxE
set_option linter.unusedSimpArgs false
set_option linter.unusedVariables false
namespace Go.Proofs.YtbidbjgklonbpaaDoor.Mine
open Go.RowKit Go.Maps Go.Proofs.YtbidbjgklonbpaaDoorW.PrintWords Go.Proofs.YtbidbjgklonbpaaDoorW.PrintLast Go.Proofs.YtbidbjgklonbpaaDoorW.PrintMore Go.Proofs.YtbidbjgklonbpaaDoor.Turn Go.Proofs.YtbidbjgklonbpaaDoor.PPaxGets

def mark : S23 := ⟨(⟨#[109, 97, 114, 107]⟩ : ByteArray), (⟨#[]⟩ : ByteArray)⟩

set_option maxHeartbeats 1000000 in
theorem lent_any (A : Option Addr) (c : Nat) (l : List S23) (w : World) (hl : l.length + 1 < 4398046511104) (hr : Kd.C k23 w A l.length l) :
    Calls Tryd.prog 17 #[.slice A l.length c] w fun e w' => ∃ A' c', e = .returned (.slice A' l.length c') ∧ l.length + 1 ≤ c' ∧ Kd.C k23 w' A' (l.length + 1) (l ++ [mark]) ∧ Below w.heap.size w w' := by
  have HR := Aside0.mk hr
  clear hr
  have HB := Aside0.mk (Below.refl w.heap.size w)
  go_enter Tryd.func17, Tryd.ntmps17
  go_wp2_with (first
    | ((with_reducible refine gate_builtin (b := .append) (xs := #[.tmp 4, .tmp 5]) rfl ?_); at_builtin; refine Kd.R_append_rows k23 (w0 := w) w.heap.size rfl (.tmp 4) (.tmp 5) 33 23 (.agg #[(.string ⟨#[]⟩), (.string ⟨#[]⟩)]) 32 rfl Tryd.underlying33 info23 rfl (by decide) (by omega) (.slice none 0 0) ([] : List (S23)) l _ _ _ (fun _ => True) (fun _ => False) rfl rfl (Kd.R_nil _ _ _ _ (fun _ => True)) HR.out (fun _ _ h => h) (fun _ h => h.elim) (fun _ _ => trivial) HB.out (Nat.le_refl _) (by simp; omega) ?_; intro v102 w6 ho hb hg hat; rw [List.nil_append] at ho; have HB2 := Aside0.mk hb; have HO2 := Aside0.mk ho; clear ho hb hg hat)
    | ((with_reducible refine gate_builtin (b := .append) (xs := #[.tmp 7, .tmp 9]) rfl ?_); at_builtin; refine Kd.R_append k23 (w0 := w) w.heap.size rfl (.tmp 7) (.tmp 9) 33 23 (.agg #[(.string ⟨#[]⟩), (.string ⟨#[]⟩)]) 32 rfl Tryd.underlying33 info23 rfl (by decide) (by omega) v102 l mark [.string (⟨#[109, 97, 114, 107]⟩ : ByteArray), .string (⟨#[]⟩ : ByteArray)] (fun _ => True) (fun _ => False) rfl rfl (k23_mkM _ _ _ mark) (fun _ h => h.elim) (fun _ _ => trivial) HO2.out HB2.out HB2.out.size (by omega) ?_; intro v103 w7 ho hb hg hat; obtain ⟨A', c', rfl, hlc, hC⟩ := Kd.R_reads ho; have hlc2 : l.length + 1 ≤ c' := (by rw [List.length_append] at hlc; exact hlc); have HB3 := Aside0.mk hb; have HC3 := Aside0.mk hC; clear ho hb hg hat hC; rw [List.length_append, List.length_singleton] at HC3 hlc ⊢))
  go_ret
  exact ⟨A', c', rfl, hlc2, HC3.out, HB3.out⟩

theorem C_prefix {α : Type} {d : Kd α} {w : World} {A : Option Addr} {l m : List α} (h : d.C w A (l ++ m).length (l ++ m)) : d.C w A l.length l := by
  obtain ⟨_, h2, h3⟩ := h
  rw [List.length_append] at h2 h3
  refine ⟨rfl, by omega, fun hp => ?_⟩
  obtain ⟨ad, e, hc⟩ := h3 (by omega)
  refine ⟨ad, e, fun j p hj => hc j p ?_⟩
  have hlt : j < l.length := by
    rcases Nat.lt_or_ge j l.length with h | h
    · exact h
    · rw [List.getElem?_eq_none h] at hj; cases hj
  rw [List.getElem?_append_left hlt]
  exact hj

theorem pairs_eq (l : List S23) : ∀ (d : Nat) (i : Int), 0 ≤ i → (l.length : Int) - i = d → i ≤ l.length → l.length ≤ 4611686018427387904 → tabularylaw09_pairs.l0 (d + 1) l l i = some true := by
  intro d
  induction d with
  | zero =>
    intro i h0 h1 h2 h3
    simp only [tabularylaw09_pairs.l0]
    rw [if_neg (by omega)]
  | succ d ih =>
    intro i h0 h1 h2 h3
    have hw : wrap64 (i + 1) = i + 1 := by unfold wrap64; omega
    simp only [tabularylaw09_pairs.l0]
    rw [if_pos (by omega), if_pos h0, if_pos (by omega), if_neg (by simp), hw]
    exact ih (i + 1) (by omega) (by omega) (by omega) h3

set_option maxHeartbeats 1000000 in
theorem kept_any (A A0 : Option Addr) (c c0 : Nat) (l : List S23) (w : World) (hl : l.length + 1 < 4398046511104) (hc : l.length + 1 ≤ c) (hc0 : l.length ≤ c0) (hr : Kd.C k23 w A (l.length + 1) (l ++ [mark])) (hr0 : Kd.C k23 w A0 l.length l) :
    Calls Tryd.prog 20 #[.slice A l.length c, .slice A0 l.length c0] w fun e w' => e = .returned (.bool true) ∧ Below w.heap.size w w' := by
  have hp := C_prefix (l := l) (m := [mark]) (by rw [List.length_append, List.length_singleton]; exact hr)
  obtain ⟨ad, e, hx0, hx1⟩ := at_T23 hr (l.length : Int) (by omega) (by omega)
  cases e
  have hm : rd_T23 (l ++ [mark]) (l.length : Int) = mark := by simp [rd_T23]
  rw [hm, Int.toNat_natCast] at hx0 hx1
  have HP := Aside0.mk hp
  have HR0 := Aside0.mk hr0
  clear hp hr0 hr hm
  replace hx0 : w.cell? (ad.add (l.length * 2)) = some (Value.string ⟨#[109, 97, 114, 107]⟩) := hx0
  replace hx1 : w.cell? ⟨(ad.add (l.length * 2)).block, (ad.add (l.length * 2)).off + 1, none⟩ = some (Value.string ⟨#[]⟩) := hx1
  go_enter Tryd.func20, Tryd.ntmps20
  go_wp2_with fail
  refine (tabularylaw09_pairs.calls (l.length + 1) (some ad) c l A0 c0 l true _ HP.out (by omega) HR0.out hc0 (by unfold tabularylaw09_pairs.f; rw [if_pos rfl]; exact pairs_eq l l.length 0 (by omega) (by omega) (by omega) (by omega))).mono ?_
  rintro e w' ⟨rfl, ⟨nd, rfl⟩⟩
  go_wp2
  go_ret
  exact ⟨rfl, pw_below_drewN (Below.refl _ _) _⟩

end Go.Proofs.YtbidbjgklonbpaaDoor.Mine
