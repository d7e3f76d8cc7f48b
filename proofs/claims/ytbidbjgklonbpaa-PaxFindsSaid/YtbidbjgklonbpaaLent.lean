/- Contracts of the law's own helpers: lent (a list in memory of its own, a mark behind it) and kept (both are as they were). -/
import Derived.Test.YtbidbjgklonbpaaFind
namespace Go.Proofs.Ytbidbjgklonbpaa.Mine
open Go.RowKit Go.Proofs.YtbidbjgklonbpaaW.PrintWords Go.Proofs.YtbidbjgklonbpaaW.PrintLast Go.Proofs.YtbidbjgklonbpaaW.PrintMore Go.Proofs.Ytbidbjgklonbpaa.PPaxFinds

def mark : S30 := ⟨(⟨#[109, 97, 114, 107]⟩ : ByteArray), (⟨#[]⟩ : ByteArray)⟩

set_option maxHeartbeats 1000000 in
theorem lent_any (A : Option Addr) (c : Nat) (l : List S30) (w : World) (hl : l.length + 1 < 4398046511104) (hr : Kd.C k30 w A l.length l) :
    Calls Try.prog 4 #[.slice A l.length c] w fun e w' => ∃ A' c', e = .returned (.slice A' l.length c') ∧ l.length + 1 ≤ c' ∧ Kd.C k30 w' A' (l.length + 1) (l ++ [mark]) ∧ Below w.heap.size w w' := by
  have HR := Aside0.mk hr
  clear hr
  have HB := Aside0.mk (Below.refl w.heap.size w)
  go_enter Try.func4, Try.ntmps4
  go_wp2_with (first
    | ((with_reducible refine gate_builtin (b := .append) (xs := #[.tmp 4, .tmp 5]) rfl ?_); at_builtin; refine Kd.R_append_rows k30 (w0 := w) w.heap.size rfl (.tmp 4) (.tmp 5) 22 30 (.agg #[(.string ⟨#[]⟩), (.string ⟨#[]⟩)]) 32 rfl Try.underlying22 info30 rfl (by decide) (by omega) (.slice none 0 0) ([] : List (S30)) l _ _ _ (fun _ => True) (fun _ => False) rfl rfl (Kd.R_nil _ _ _ _ (fun _ => True)) HR.out (fun _ _ h => h) (fun _ h => h.elim) (fun _ _ => trivial) HB.out (Nat.le_refl _) (by simp; omega) ?_; intro v102 w6 ho hb hg hat; rw [List.nil_append] at ho; have HB2 := Aside0.mk hb; have HO2 := Aside0.mk ho; clear ho hb hg hat)
    | ((with_reducible refine gate_builtin (b := .append) (xs := #[.tmp 7, .tmp 9]) rfl ?_); at_builtin; refine Kd.R_append k30 (w0 := w) w.heap.size rfl (.tmp 7) (.tmp 9) 22 30 (.agg #[(.string ⟨#[]⟩), (.string ⟨#[]⟩)]) 32 rfl Try.underlying22 info30 rfl (by decide) (by omega) v102 l mark [.string (⟨#[109, 97, 114, 107]⟩ : ByteArray), .string (⟨#[]⟩ : ByteArray)] (fun _ => True) (fun _ => False) rfl rfl (k30_mkM _ _ _ mark) (fun _ h => h.elim) (fun _ _ => trivial) HO2.out HB2.out HB2.out.size (by omega) ?_; intro v103 w7 ho hb hg hat; obtain ⟨A', c', rfl, hlc, hC⟩ := Kd.R_reads ho; have hlc2 : l.length + 1 ≤ c' := (by rw [List.length_append] at hlc; exact hlc); have HB3 := Aside0.mk hb; have HC3 := Aside0.mk hC; clear ho hb hg hat hC; rw [List.length_append, List.length_singleton] at HC3 hlc ⊢))
  go_ret
  exact ⟨A', c', rfl, hlc2, HC3.out, HB3.out⟩

theorem C_prefix {α : Type} {d : Kd α} {w : World} {A : Option Addr} {l m : List α} (h : d.C w A (l ++ m).length (l ++ m)) : d.C w A l.length l := by
  obtain ⟨_, h2, h3⟩ := h
  rw [List.length_append] at h2 h3
  refine ⟨rfl, by omega, fun hp => ?_⟩
  obtain ⟨ad, e, hc⟩ := h3 (by omega)
  refine ⟨ad, e, fun j p hj => hc j p ?_⟩
  have hlt : j < l.length := by
    rcases Nat.lt_or_ge j l.length with h | h
    · exact h
    · rw [List.getElem?_eq_none h] at hj; cases hj
  rw [List.getElem?_append_left hlt]
  exact hj

theorem pairs_eq (l : List S30) : ∀ (d : Nat) (i : Int), 0 ≤ i → (l.length : Int) - i = d → i ≤ l.length → l.length ≤ 4611686018427387904 → tabularylaw09_pairs.l0 (d + 1) l l i = some true := by
  intro d
  induction d with
  | zero =>
    intro i h0 h1 h2 h3
    simp only [tabularylaw09_pairs.l0]
    rw [if_neg (by omega)]
  | succ d ih =>
    intro i h0 h1 h2 h3
    have hw : wrap64 (i + 1) = i + 1 := by unfold wrap64; omega
    simp only [tabularylaw09_pairs.l0]
    rw [if_pos (by omega), if_pos h0, if_pos (by omega), if_neg (by simp), hw]
    exact ih (i + 1) (by omega) (by omega) (by omega) h3

set_option maxHeartbeats 1000000 in
theorem kept_any (A A0 : Option Addr) (c c0 : Nat) (l : List S30) (w : World) (hl : l.length + 1 < 4398046511104) (hc : l.length + 1 ≤ c) (hc0 : l.length ≤ c0) (hr : Kd.C k30 w A (l.length + 1) (l ++ [mark])) (hr0 : Kd.C k30 w A0 l.length l) :
    Calls Try.prog 7 #[.slice A l.length c, .slice A0 l.length c0] w fun e w' => e = .returned (.bool true) ∧ Below w.heap.size w w' := by
  have hp := C_prefix (l := l) (m := [mark]) (by rw [List.length_append, List.length_singleton]; exact hr)
  obtain ⟨ad, e, hx0, hx1⟩ := at_T30 hr (l.length : Int) (by omega) (by omega)
  cases e
  have hm : rd_T30 (l ++ [mark]) (l.length : Int) = mark := by simp [rd_T30]
  rw [hm, Int.toNat_natCast] at hx0 hx1
  have HP := Aside0.mk hp
  have HR0 := Aside0.mk hr0
  clear hp hr0 hr hm
  replace hx0 : w.cell? (ad.add (l.length * 2)) = some (Value.string ⟨#[109, 97, 114, 107]⟩) := hx0
  replace hx1 : w.cell? ⟨(ad.add (l.length * 2)).block, (ad.add (l.length * 2)).off + 1, none⟩ = some (Value.string ⟨#[]⟩) := hx1
  go_enter Try.func7, Try.ntmps7
  go_wp2_with fail
  refine (tabularylaw09_pairs.calls (l.length + 1) (some ad) c l A0 c0 l true _ HP.out (by omega) HR0.out hc0 (by unfold tabularylaw09_pairs.f; rw [if_pos rfl]; exact pairs_eq l l.length 0 (by omega) (by omega) (by omega) (by omega))).mono ?_
  rintro e w' ⟨rfl, ⟨nd, rfl⟩⟩
  go_wp2
  go_ret
  exact ⟨rfl, pw_below_drewN (Below.refl _ _) _⟩

theorem ref_eq (l : List S30) (key : ByteArray) (hl : l.length ≤ 4611686018427387904) : ∀ (d : Nat) (i : Nat), l.length - i = d → i ≤ l.length → tabularyref09_Find.l0 (d + 1) l key (i : Int) = some (if idx key l i < 0 then ((⟨#[]⟩ : ByteArray), (4 : Int)) else ((rd_T30 l (idx key l i)).f1, 0)) := by
  intro d
  induction d with
  | zero =>
    intro i h1 h2
    have h3 : idx key l i = -1 := by rw [idx, dif_neg (by omega)]
    simp only [tabularyref09_Find.l0]
    rw [if_neg (by omega), h3, if_pos (by omega)]
  | succ d ih =>
    intro i h1 h2
    have hw : wrap64 ((i : Int) + 1) = ((i + 1 : Nat) : Int) := by unfold wrap64; omega
    have hlt : i < l.length := by omega
    have hx : rd_T30 l (i : Int) = l[i] := by simp [rd_T30, hlt]
    simp only [tabularyref09_Find.l0]
    rw [if_pos (by omega), if_pos (by omega), hw, hx]
    by_cases hq : l[i].f0.toList = key.toList
    · have h3 : idx key l i = i := by rw [idx, dif_pos hlt, if_pos hq]
      rw [if_pos hq, h3, if_neg (by omega), hx]
    · have h3 : idx key l i = idx key l (i + 1) := by rw [idx, dif_pos hlt, if_neg hq]
      rw [if_neg hq, h3]
      exact ih (i + 1) (by omega) (by omega)
theorem ref_is (l : List S30) (key : ByteArray) (hl : l.length ≤ 4611686018427387904) : tabularyref09_Find.f (l.length + 1) l key = some (found l key, code l key) := by
  have h := ref_eq l key hl l.length 0 (by omega) (by omega)
  unfold tabularyref09_Find.f found code
  refine Eq.trans (show tabularyref09_Find.l0 (l.length + 1) l key 0 = _ from h) ?_
  by_cases hn : idx key l 0 < 0
  · rw [if_pos hn, if_pos hn, if_pos hn]
  · rw [if_neg hn, if_neg hn, if_neg hn]

theorem single_code : code [(⟨⟨#[97]⟩, ⟨#[]⟩⟩ : S30)] ⟨#[97]⟩ = 0 := by
  have h : idx ⟨#[97]⟩ [(⟨⟨#[97]⟩, ⟨#[]⟩⟩ : S30)] 0 = 0 := by rw [idx, dif_pos (by simp), if_pos (by rfl)]; rfl
  rw [code, h, if_neg (by omega)]
theorem single_reads (W : World) : Kd.C k30 (W.alloc (.cells #[.string ⟨#[97]⟩, .string ⟨#[]⟩] 30)) (some ⟨W.heap.size, 0, none⟩) [(⟨⟨#[97]⟩, ⟨#[]⟩⟩ : S30)].length [(⟨⟨#[97]⟩, ⟨#[]⟩⟩ : S30)] := by
  refine ⟨rfl, by simp, fun _ => ⟨_, rfl, fun j p hj => ?_⟩⟩
  match j, hj with
  | 0, hj =>
    simp only [List.getElem?_cons_zero, Option.some.injEq] at hj
    subst hj
    refine ⟨_, rfl, k30_mk _ _, fun i u hu => ?_⟩
    match i, hu with
    | 0, hu => simp only [List.getElem?_cons_zero, Option.some.injEq] at hu; subst hu; simp [Addr.add]
    | 1, hu => simp only [List.getElem?_cons_succ, List.getElem?_cons_zero, Option.some.injEq] at hu; subst hu; simp [Addr.add]
    | i + 2, hu => simp at hu
  | j + 1, hj => simp at hj

set_option maxHeartbeats 1000000 in
theorem law_any (A : Option Addr) (c : Nat) (l : List S30) (key : ByteArray) (w : World) (hl : l.length + 1 < 4398046511104) (hc : l.length ≤ c) (hr : Kd.C k30 w A l.length l) :
    Calls Try.prog 3 #[.slice A l.length c, .string key] w fun e w' => e = .returned (.bool true) ∧ Below w.heap.size w w' := by
  have HR := Aside0.mk hr
  clear hr
  go_enter Try.func3, Try.ntmps3
  go_wp2_with fail
  refine (lent_any A c l _ hl HR.out).mono ?_
  rintro e w1 ⟨A1, c1, rfl, hc1, hC1, hb1⟩
  have HC1 := Aside0.mk hC1
  have HB1 := Aside0.mk hb1
  clear hC1 hb1
  go_wp2_with fail
  refine (find_any A1 c1 l key _ (by omega) (C_prefix (m := [mark]) (by rw [List.length_append, List.length_singleton]; exact HC1.out))).mono ?_
  rintro e w2 ⟨rfl, hb2⟩
  have HB2 := Aside0.mk (HB1.out.trans (hb2.mono HB1.out.size))
  have HC2 := Aside0.mk (Kd.C_below HC1.out hb2)
  clear hb2
  go_wp2_with fail
  refine (tabularyref09_Find.calls (l.length + 1) A c l key _ _ _ (Kd.C_below HR.out HB2.out) hc (ref_is l key (by omega))).mono ?_
  rintro e w3 ⟨rfl, ⟨nd, rfl⟩⟩
  go_wp2_with fail
  refine (find_any _ 1 [(⟨⟨#[97]⟩, ⟨#[]⟩⟩ : S30)] ⟨#[97]⟩ _ (by simp) (single_reads _)).mono ?_
  rintro e w4 ⟨rfl, hb4⟩
  rw [single_code]
  have HS := Aside0.mk (Below.trans (Below.alloc (B := w2.heap.size) (Below.refl w2.heap.size (w2.drewN nd)) (by exact Nat.le_refl _) (.cells #[.string ⟨#[97]⟩, .string ⟨#[]⟩] 30)) (hb4.mono (by simp)))
  have HB4 := Aside0.mk (HB2.out.trans (Below.mono (Below.trans (pw_below_drewN (Below.refl _ w2) nd) HS.out) HB2.out.size))
  have HC4 := Aside0.mk (Kd.C_below (Kd.C_drewN HC2.out nd) HS.out)
  clear hb4
  go_wp2_with fail
  refine (kept_any A1 A c1 c l _ hl hc1 hc HC4.out (Kd.C_below HR.out HB4.out)).mono ?_
  rintro e w5 ⟨rfl, hb5⟩
  have HB5 := Aside0.mk (HB4.out.trans (hb5.mono HB4.out.size))
  clear hb5
  go_wp2
  go_ret
  exact ⟨rfl, HB5.out⟩
end Go.Proofs.Ytbidbjgklonbpaa.Mine
