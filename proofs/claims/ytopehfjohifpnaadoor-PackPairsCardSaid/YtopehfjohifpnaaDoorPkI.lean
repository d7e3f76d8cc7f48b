/- pack: Pairs, walked. -/
import Derived.Test.YtopehfjohifpnaaDoorPkH
import Derived.Test.YtopehfjohifpnaaDoorPPackPairsx5
import Derived.Lib.TrimUEq
import Derived.Lib.OthersKept
set_option linter.unusedSimpArgs false
set_option linter.unusedVariables false
namespace Go.Proofs.YtopehfjohifpnaaDoor.Mine
open Go.RowKit Go.Maps Go.Shelf Go.Proofs.YtopehfjohifpnaaDoorW.PrintWords Go.Proofs.YtopehfjohifpnaaDoorW.PrintLast Go.Proofs.YtopehfjohifpnaaDoorW.PrintMore Go.Proofs.YtopehfjohifpnaaDoor.Turn Go.Proofs.YtopehfjohifpnaaDoor.PPackPairs

abbrev KLink : ByteArray := ⟨#[108, 105, 110, 107, 112, 97, 116, 104]⟩
abbrev KPath : ByteArray := ⟨#[112, 97, 116, 104]⟩
/-- What of an item a head has no room for. -/
def pairsL (p q : ByteArray) : List S33 := (if 100 < q.size then [⟨KLink, q⟩] else []) ++ (if (splitF p).2.2 ≠ 0 then [⟨KPath, p⟩] else [])
def pairsF (p : ByteArray) (k m t : Int) (b : Nat) (q : ByteArray) : List S33 × Int := if mayF p k m t b q ≠ 0 then ([], mayF p k m t b q) else (pairsL p q, 0)
theorem cut_f (p : ByteArray) (K : Nat) (hK : 2000 ≤ K) : tabularyref12_cut.f K p = some ((splitF p).2.2 == 0) := by
  unfold tabularyref12_cut.f
  rw [split_f p K hK]
  rfl
theorem pairs_f (p : ByteArray) (k m t : Int) (l : List Int) (q : ByteArray) (K : Nat) (hK : 7000 ≤ K) : tabularyref12_Pairs.f K p k m t l q = some (pairsF p k m t l.length q) := by
  unfold tabularyref12_Pairs.f pairsF pairsL
  rw [may_f _ _ _ _ _ _ K hK, Option.bind_some, cut_f p K (by omega)]
  by_cases h : mayF p k m t l.length q = 0
  · rw [if_pos h, if_neg (c := mayF p k m t l.length q ≠ 0) (fun e => e h)]
    by_cases h1 : 100 < q.size
    · rw [if_pos (by omega), if_pos (by decide), if_pos h1]
      by_cases h2 : (splitF p).2.2 = 0
      · rw [h2, if_neg (c := (0 : Int) ≠ 0) (by decide)]
        rfl
      · rw [if_pos (c := (splitF p).2.2 ≠ 0) h2, beq_eq_false_iff_ne.2 h2]
        rfl
    · rw [if_neg (by omega), if_neg h1]
      by_cases h2 : (splitF p).2.2 = 0
      · rw [h2, if_neg (c := (0 : Int) ≠ 0) (by decide)]
        rfl
      · rw [if_pos (c := (splitF p).2.2 ≠ 0) h2, beq_eq_false_iff_ne.2 h2]
        rfl
  · rw [if_neg h, if_pos h]

theorem clip_any (A : Option Addr) (c : Nat) (n : Nat) (hn : n ≤ 9223372036854775807) (hc : n ≤ c) (w : World) : Calls Tryd.prog 22 #[.slice A n c] w fun e w' => e = .returned (.slice A n n) ∧ w' = w := by
  go_enter Tryd.func22, Tryd.ntmps22
  go_wp2_with fail
  go_ret
  first | exact ⟨rfl, rfl⟩ | trivial
set_option maxRecDepth 100000 in
set_option maxHeartbeats 4000000 in
theorem pairs_any (p : ByteArray) (k m t : Int) (A : Option Addr) (b c : Nat) (q : ByteArray) (i : Int) (w : World) (hm : w.cell? ⟨1, 0, none⟩ = some (.int .i64 i)) :
    Calls Tryd.prog 6 #[.agg #[.string p, .int .u8 k, .int .i64 m, .int .i64 t, .slice A b c, .string q]] w fun e w' => ∃ A' c', e = .returned (.tuple #[.slice A' (pairsF p k m t b q).1.length c', .int .i64 (pairsF p k m t b q).2]) ∧ Kd.C k33 w' A' (pairsF p k m t b q).1.length (pairsF p k m t b q).1 ∧ Below w.heap.size w w' := by
  have hlt : 1 < w.heap.size := Lib.lt_of_cell (a := ⟨1, 0, none⟩) hm
  have hM := fun W hm => may_any p k m t A b c q i W hm
  have hS := fun W => split_any p W
  have hx0 := Blk.new w #[.string p, .int .u8 k, .int .i64 m, .int .i64 t, .slice A b c, .string q] 25
  have hpF : pairsF p k m t b q = if mayF p k m t b q ≠ 0 then ([], mayF p k m t b q) else (pairsL p q, 0) := rfl
  generalize pairsF p k m t b q = pf at *
  generalize mayF p k m t b q = mf at *
  by_cases h0 : mf = 0
  case neg =>
    rw [if_pos h0] at hpF
    subst hpF
    go_enter Tryd.func6, Tryd.ntmps6
    go_wp2_with (go_at_call 20; refine (hM _ (cell_alloc_l _ hm)).mono ?_; rintro e w1 ⟨rfl, hB1⟩)
    · go_ret2
      exact ⟨none, 0, rfl, ⟨rfl, by simp, fun h => absurd h (by simp)⟩, (below_alloc (Below.refl _ w) _).trans (hB1.mono (by simp))⟩
  case pos =>
    rw [if_neg (fun e => e h0)] at hpF
    subst hpF
    subst h0
    have hpl : pairsL p q = (if 100 < q.size then [⟨KLink, q⟩] else []) ++ (if (splitF p).2.2 ≠ 0 then [⟨KPath, p⟩] else []) := rfl
    generalize pairsL p q = pl at *
    generalize splitF p = sf at *
    by_cases h1 : 100 < q.size
    · rw [if_pos h1] at hpl
      by_cases h2 : sf.2.2 = 0
      · rw [if_neg (fun e => e h2)] at hpl
        have h2' : (sf.2.2 != 0) = false := bne_eq_false_iff_eq.2 h2
        subst hpl
        go_enter Tryd.func6, Tryd.ntmps6
        go_wp2_with (first | (go_at_call 20; refine (hM _ (cell_alloc_l _ hm)).mono ?_; rintro e w1 ⟨rfl, hB1⟩; have HB1 := Aside0.mk ((below_alloc (Below.refl _ w) _).trans (hB1.mono (by simp))); have hx1 := (hB1.block _ hx0.lt).trans hx0; have hl1 := Blk.lt hx1; have b0 := (Blk.cell hx1 0).trans rfl; have b5 := (Blk.cell hx1 5).trans rfl) | ((with_reducible refine gate_builtin (b := .append) (xs := #[.tmp 18, .tmp 22]) rfl ?_); at_builtin; refine Kd.R_append k33 (w0 := w) w.heap.size rfl (.tmp 18) (.tmp 22) 26 33 (.agg #[(.string ⟨#[]⟩), (.string ⟨#[]⟩)]) 32 rfl Tryd.underlying26 info33 rfl (by decide) (by omega) (.slice none 0 0) ([] : List S33) ⟨KLink, q⟩ _ (fun _ => True) (fun _ => False) rfl rfl (k33_mkM _ _ _ ⟨KLink, q⟩) (fun _ h => h.elim) (fun _ _ => trivial) (Kd.R_nil _ _ _ _ _) HB1.out HB1.out.size (by simp) ?_; intro v2 w2 ho hb hg hat; have HO2 : Aside0 (Kd.R k33 33 w2 w.heap.size (fun _ => True) v2 (([] : List S33) ++ [⟨KLink, q⟩])) := ⟨ho⟩; have HB2 : Aside0 (Below w.heap.size w w2) := ⟨hb⟩; have hx2 : Blk w2 w.heap.size #[.string p, .int .u8 k, .int .i64 m, .int .i64 t, .slice A b c, .string q] 25 := (hg.block _ (Blk.lt hx1) (by simp [Value.ownBlock])).trans hx1; have hne2 : some w.heap.size ≠ v2.ownBlock := (by have := Blk.lt hx1; rcases hat with h9 | ⟨b9, h9, hle9⟩ <;> rw [h9] <;> first | (intro h8; injection h8; omega) | exact (by simp [Value.ownBlock])); clear ho hb hg hat; have f02 := (Blk.cell hx2 0).trans rfl; have hl2 := Blk.lt hx2) | (go_at_call 21; refine (hS _).mono ?_; rintro e w3 ⟨rfl, hB3⟩; have HB3 : Aside0 (Below w.heap.size w w3) := ⟨HB2.out.trans (hB3.mono HB2.out.size)⟩; have hx3 : Blk w3 w.heap.size #[.string p, .int .u8 k, .int .i64 m, .int .i64 t, .slice A b c, .string q] 25 := (hB3.block _ (Blk.lt hx2)).trans hx2; have g03 := (Blk.cell hx3 0).trans rfl; have hl3 := Blk.lt hx3; have HO3 := Aside0.mk (Kd.R_step HO2.out (fun k _ hlt => hB3.block k hlt))) | (obtain ⟨A9, c9, rfl, hc9, hC9⟩ := Kd.R_reads HO3.out; go_at_call 22; refine (clip_any A9 c9 _ (by simp) hc9 _).mono ?_; rintro e w9 ⟨rfl, hw9⟩; rw [hw9]))
        go_ret2
        exact ⟨A9, _, rfl, hC9, HB3.out⟩
      · rw [if_pos h2] at hpl
        have h2' : (sf.2.2 != 0) = true := bne_iff_ne.2 h2
        subst hpl
        go_enter Tryd.func6, Tryd.ntmps6
        go_wp2_with (first | (go_at_call 20; refine (hM _ (cell_alloc_l _ hm)).mono ?_; rintro e w1 ⟨rfl, hB1⟩; have HB1 := Aside0.mk ((below_alloc (Below.refl _ w) _).trans (hB1.mono (by simp))); have hx1 := (hB1.block _ hx0.lt).trans hx0; have hl1 := Blk.lt hx1; have b0 := (Blk.cell hx1 0).trans rfl; have b5 := (Blk.cell hx1 5).trans rfl) | ((with_reducible refine gate_builtin (b := .append) (xs := #[.tmp 18, .tmp 22]) rfl ?_); at_builtin; refine Kd.R_append k33 (w0 := w) w.heap.size rfl (.tmp 18) (.tmp 22) 26 33 (.agg #[(.string ⟨#[]⟩), (.string ⟨#[]⟩)]) 32 rfl Tryd.underlying26 info33 rfl (by decide) (by omega) (.slice none 0 0) ([] : List S33) ⟨KLink, q⟩ _ (fun _ => True) (fun _ => False) rfl rfl (k33_mkM _ _ _ ⟨KLink, q⟩) (fun _ h => h.elim) (fun _ _ => trivial) (Kd.R_nil _ _ _ _ _) HB1.out HB1.out.size (by simp) ?_; intro v2 w2 ho hb hg hat; have HO2 : Aside0 (Kd.R k33 33 w2 w.heap.size (fun _ => True) v2 (([] : List S33) ++ [⟨KLink, q⟩])) := ⟨ho⟩; have HB2 : Aside0 (Below w.heap.size w w2) := ⟨hb⟩; have hx2 : Blk w2 w.heap.size #[.string p, .int .u8 k, .int .i64 m, .int .i64 t, .slice A b c, .string q] 25 := (hg.block _ (Blk.lt hx1) (by simp [Value.ownBlock])).trans hx1; have hne2 : some w.heap.size ≠ v2.ownBlock := (by have := Blk.lt hx1; rcases hat with h9 | ⟨b9, h9, hle9⟩ <;> rw [h9] <;> first | (intro h8; injection h8; omega) | exact (by simp [Value.ownBlock])); clear ho hb hg hat; have f02 := (Blk.cell hx2 0).trans rfl; have hl2 := Blk.lt hx2) | (go_at_call 21; refine (hS _).mono ?_; rintro e w3 ⟨rfl, hB3⟩; have HB3 : Aside0 (Below w.heap.size w w3) := ⟨HB2.out.trans (hB3.mono HB2.out.size)⟩; have hx3 : Blk w3 w.heap.size #[.string p, .int .u8 k, .int .i64 m, .int .i64 t, .slice A b c, .string q] 25 := (hB3.block _ (Blk.lt hx2)).trans hx2; have g03 := (Blk.cell hx3 0).trans rfl; have hl3 := Blk.lt hx3; have HO3 := Aside0.mk (Kd.R_step HO2.out (fun k _ hlt => hB3.block k hlt))) | ((with_reducible refine gate_builtin (b := .append) (xs := #[.tmp 33, .tmp 37]) rfl ?_); at_builtin; refine Kd.R_append k33 (w0 := w) w.heap.size rfl (.tmp 33) (.tmp 37) 26 33 (.agg #[(.string ⟨#[]⟩), (.string ⟨#[]⟩)]) 32 rfl Tryd.underlying26 info33 rfl (by decide) (by omega) v2 ([⟨KLink, q⟩] : List S33) ⟨KPath, p⟩ _ (fun _ => True) (fun _ => False) rfl rfl (k33_mkM _ _ _ ⟨KPath, p⟩) (fun _ h => h.elim) (fun _ _ => trivial) HO3.out HB3.out HB3.out.size (by simp) ?_; intro v4 w4 ho hb hg hat; have HO4 : Aside0 (Kd.R k33 33 w4 w.heap.size (fun _ => True) v4 (([⟨KLink, q⟩] : List S33) ++ [⟨KPath, p⟩])) := ⟨ho⟩; have HB4 : Aside0 (Below w.heap.size w w4) := ⟨hb⟩; have hx4 : Blk w4 w.heap.size #[.string p, .int .u8 k, .int .i64 m, .int .i64 t, .slice A b c, .string q] 25 := (hg.block _ (Blk.lt hx3) hne2).trans hx3; have hne4 : some w.heap.size ≠ v4.ownBlock := (by have := Blk.lt hx3; rcases hat with h9 | ⟨b9, h9, hle9⟩ <;> rw [h9] <;> first | (intro h8; injection h8; omega) | exact hne2); clear ho hb hg hat; have f04 := (Blk.cell hx4 0).trans rfl; have hl4 := Blk.lt hx4) | (obtain ⟨A9, c9, rfl, hc9, hC9⟩ := Kd.R_reads HO4.out; go_at_call 22; refine (clip_any A9 c9 _ (by simp) hc9 _).mono ?_; rintro e w9 ⟨rfl, hw9⟩; rw [hw9]))
        go_ret2
        exact ⟨A9, _, rfl, hC9, HB4.out⟩
    · rw [if_neg h1] at hpl
      by_cases h2 : sf.2.2 = 0
      · rw [if_neg (fun e => e h2)] at hpl
        have h2' : (sf.2.2 != 0) = false := bne_eq_false_iff_eq.2 h2
        subst hpl
        go_enter Tryd.func6, Tryd.ntmps6
        go_wp2_with (first | (go_at_call 20; refine (hM _ (cell_alloc_l _ hm)).mono ?_; rintro e w1 ⟨rfl, hB1⟩; have HB1 := Aside0.mk ((below_alloc (Below.refl _ w) _).trans (hB1.mono (by simp))); have hx1 := (hB1.block _ hx0.lt).trans hx0; have hl1 := Blk.lt hx1; have b0 := (Blk.cell hx1 0).trans rfl; have b5 := (Blk.cell hx1 5).trans rfl) | (go_at_call 21; refine (hS _).mono ?_; rintro e w3 ⟨rfl, hB3⟩; have HB3 : Aside0 (Below w.heap.size w w3) := ⟨HB1.out.trans (hB3.mono HB1.out.size)⟩; have hx3 : Blk w3 w.heap.size #[.string p, .int .u8 k, .int .i64 m, .int .i64 t, .slice A b c, .string q] 25 := (hB3.block _ (Blk.lt hx1)).trans hx1; have g03 := (Blk.cell hx3 0).trans rfl; have hl3 := Blk.lt hx3) | (go_at_call 22; refine (clip_any none 0 0 (by simp) (by simp) _).mono ?_; rintro e w9 ⟨rfl, hw9⟩; rw [hw9]))
        go_ret2
        exact ⟨none, 0, rfl, ⟨rfl, by simp, fun h => absurd h (by simp)⟩, HB3.out⟩
      · rw [if_pos h2] at hpl
        have h2' : (sf.2.2 != 0) = true := bne_iff_ne.2 h2
        subst hpl
        go_enter Tryd.func6, Tryd.ntmps6
        go_wp2_with (first | (go_at_call 20; refine (hM _ (cell_alloc_l _ hm)).mono ?_; rintro e w1 ⟨rfl, hB1⟩; have HB1 := Aside0.mk ((below_alloc (Below.refl _ w) _).trans (hB1.mono (by simp))); have hx1 := (hB1.block _ hx0.lt).trans hx0; have hl1 := Blk.lt hx1; have b0 := (Blk.cell hx1 0).trans rfl; have b5 := (Blk.cell hx1 5).trans rfl) | (go_at_call 21; refine (hS _).mono ?_; rintro e w3 ⟨rfl, hB3⟩; have HB3 : Aside0 (Below w.heap.size w w3) := ⟨HB1.out.trans (hB3.mono HB1.out.size)⟩; have hx3 : Blk w3 w.heap.size #[.string p, .int .u8 k, .int .i64 m, .int .i64 t, .slice A b c, .string q] 25 := (hB3.block _ (Blk.lt hx1)).trans hx1; have g03 := (Blk.cell hx3 0).trans rfl; have hl3 := Blk.lt hx3) | ((with_reducible refine gate_builtin (b := .append) (xs := #[.tmp 33, .tmp 37]) rfl ?_); at_builtin; refine Kd.R_append k33 (w0 := w) w.heap.size rfl (.tmp 33) (.tmp 37) 26 33 (.agg #[(.string ⟨#[]⟩), (.string ⟨#[]⟩)]) 32 rfl Tryd.underlying26 info33 rfl (by decide) (by omega) (.slice none 0 0) ([] : List S33) ⟨KPath, p⟩ _ (fun _ => True) (fun _ => False) rfl rfl (k33_mkM _ _ _ ⟨KPath, p⟩) (fun _ h => h.elim) (fun _ _ => trivial) (Kd.R_nil _ _ _ _ _) HB3.out HB3.out.size (by simp) ?_; intro v4 w4 ho hb hg hat; have HO4 : Aside0 (Kd.R k33 33 w4 w.heap.size (fun _ => True) v4 (([] : List S33) ++ [⟨KPath, p⟩])) := ⟨ho⟩; have HB4 : Aside0 (Below w.heap.size w w4) := ⟨hb⟩; have hx4 : Blk w4 w.heap.size #[.string p, .int .u8 k, .int .i64 m, .int .i64 t, .slice A b c, .string q] 25 := (hg.block _ (Blk.lt hx3) (by simp [Value.ownBlock])).trans hx3; have hne4 : some w.heap.size ≠ v4.ownBlock := (by have := Blk.lt hx3; rcases hat with h9 | ⟨b9, h9, hle9⟩ <;> rw [h9] <;> first | (intro h8; injection h8; omega) | exact (by simp [Value.ownBlock])); clear ho hb hg hat; have f04 := (Blk.cell hx4 0).trans rfl; have hl4 := Blk.lt hx4) | (obtain ⟨A9, c9, rfl, hc9, hC9⟩ := Kd.R_reads HO4.out; go_at_call 22; refine (clip_any A9 c9 _ (by simp) hc9 _).mono ?_; rintro e w9 ⟨rfl, hw9⟩; rw [hw9]))
        go_ret2
        exact ⟨A9, _, rfl, hC9, HB4.out⟩
end Go.Proofs.YtopehfjohifpnaaDoor.Mine
