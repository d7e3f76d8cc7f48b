/- space: the free runs in memory; cut. -/
import Derived.Test.YtdcccimdgbkniaaSpD
set_option linter.unusedSimpArgs false
set_option linter.unusedVariables false
namespace Go.Proofs.Ytdcccimdgbkniaa.Mine
open Go.RowKit Go.Maps Go.Proofs.YtdcccimdgbkniaaW.PrintWords Go.Proofs.YtdcccimdgbkniaaW.PrintLast Go.Proofs.YtdcccimdgbkniaaW.PrintMore Go.Proofs.Ytdcccimdgbkniaa.Turn

/-- A space in block b, its free runs l; what it may write is F, all of it from base on. -/
structure Sp (w : World) (base : Nat) (F : Nat → Prop) (b : Nat) (n : Int) (l : List R2) : Prop where
  self : F b
  mine : ∀ k, F k → base ≤ k ∧ k < w.heap.size
  row : ∃ v, Blk w b #[.int .i64 n, v] 48 ∧ Own w base v l ∧ (∀ k, v.ownBlock = some k → F k)
section
variable {w w' : World} {base b : Nat} {F S : Nat → Prop} {n : Int} {l : List R2}
theorem Sp.turn (h : Sp w base F b n l) (ht : Turned S w w') (hS : ∀ k, S k → ¬ F k) : Sp w' base F b n l := by
  obtain ⟨h1, h2, v, h3, h4, h5⟩ := h
  exact ⟨h1, fun k hk => ⟨(h2 k hk).1, Nat.lt_of_lt_of_le (h2 k hk).2 ht.size⟩, v, ht.blk h3 (fun hs => hS b hs h1), h4.turn ht (fun k hk hs => hS k hs (h5 k hk)), h5⟩
theorem Sp.below (h : Sp w base F b n l) (hb : Below w.heap.size w w') : Sp w' base F b n l := h.turn (Turned.of_below hb (fun _ => False)) (fun _ hk => hk.elim)
theorem Sp.size (h : Sp w base F b n l) : base ≤ w.heap.size := by have := h.mine b h.self; omega
end
/-- How an act upon a space ends. -/
def EndS (w : World) (base : Nat) (F : Nat → Prop) (b : Nat) (n : Int) (l : List R2) (val : Value) (e : Ending) (w' : World) : Prop :=
  ∃ F' : Nat → Prop, e = .returned val ∧ Sp w' base F' b n l ∧ Turned F w w' ∧ (∀ k, F' k → F k ∨ w.heap.size ≤ k)

def leftL (f x : R2) : List R2 := (if f.1 < x.1 then [(f.1, x.1)] else []) ++ (if x.2 < f.2 then [(x.2, f.2)] else [])
def cutL (l : List R2) (i : Nat) (x : R2) : List R2 := l.take i ++ leftL (l.getD i (0, 0)) x ++ l.drop (i + 1)

theorem cut_close {w w2 w3 : World} {base b i : Nat} {F : Nat → Prop} {n : Int} {v : Value} {l : List R2} {x : R2} {e : Ending} (h : Sp w base F b n l) (h3 : Blk w b #[.int .i64 n, v] 48) (h4 : Own w base v l) (h5 : ∀ k, v.ownBlock = some k → F k) (hb : Below w.heap.size w w2)
    (hp : Put w2 base v (cutL l i x) e w3) : ∃ A' m' c', e = .returned (.slice A' m' c') ∧ Blk w3 b #[.int .i64 n, v] 48 ∧ EndS w base F b n (cutL l i x) (.tuple #[]) (.returned (.tuple #[])) (w3.setCell ⟨b, 1, none⟩ (.slice A' m' c')) := by
  obtain ⟨v', rfl, ho, ht, hat⟩ := hp
  obtain ⟨A', c', hv', -, -, -⟩ := ho.reads
  have hlt := h3.lt
  have h3' : Blk w2 b #[.int .i64 n, v] 48 := (hb.block _ hlt).trans h3
  have hne : v.ownBlock ≠ some b := h4.ne h3 (by decide)
  have h33 := ht.blk h3' (fun hk => hne hk)
  have hne' : v'.ownBlock ≠ some b := ho.ne h33 (by decide)
  have hT : Turned F w (w3.setCell ⟨b, 1, none⟩ v') := ((Turned.of_below hb F).then_ ht (fun k hk => .inl (h5 k hk))).setCell (.inl h.self) _
  refine ⟨A', (cutL l i x).length, c', by rw [hv'], h33, ?_⟩
  rw [← hv']
  refine ⟨fun k => F k ∨ v'.ownBlock = some k, rfl, ⟨.inl h.self, ?_, v', Blk.set h33 1 v', ho.step (fun k hk _ => Below.heap_setCell w3 _ _ k (fun e => hne' (by rw [hk, e]))), fun k hk => .inr hk⟩, hT, ?_⟩
  · rintro k (hk | hk)
    · exact ⟨(h.mine k hk).1, Nat.lt_of_lt_of_le (h.mine k hk).2 hT.size⟩
    · have := ho.lt k hk
      exact ⟨this.1, by simpa [World.setCell] using this.2⟩
  · rintro k (hk | hk)
    · exact .inl hk
    · rcases hat with e | ⟨q, e, hq⟩
      · exact .inl (h5 k (by rw [← e]; exact hk))
      · rw [e] at hk
        cases hk
        exact .inr (Nat.le_trans hb.size hq)

set_option maxHeartbeats 4000000 in
set_option maxRecDepth 100000 in
theorem cut_any {w : World} {base b : Nat} {F : Nat → Prop} {n : Int} {l : List R2} (h : Sp w base F b n l) (hl : l.length ≤ 1000000) (i : Nat) (hi : i < l.length) (x : R2) :
    Calls Try.prog 24 #[.pointer (some ⟨b, 0, none⟩), .int .i64 i, .agg #[.int .i64 x.1, .int .i64 x.2]] w (EndS w base F b n (cutL l i x) (.tuple #[])) := by
  have HS := Aside0.mk h
  obtain ⟨-, -, v, h3, h4, h5⟩ := h
  obtain ⟨A, c, rfl, hc, hc2, hcell⟩ := h4.reads
  obtain ⟨g, o, rfl, hg, f0, f1⟩ := hcell i hi
  have hbs := HS.out.size
  have HE : Aside0 (cutL l i x = l.take i ++ leftL l[i] x ++ l.drop (i + 1)) := ⟨by rw [cutL, List.getD_eq_getElem?_getD, List.getElem?_eq_getElem hi]; rfl⟩
  generalize l[i] = f at *
  have hlt := h3.lt
  have H3 := Aside0.mk h3
  have H4 := Aside0.mk h4
  have H5 := Aside0.mk h5
  have HF0 := Aside0.mk f0
  have HF1 := Aside0.mk f1
  have h30 : World.cell? w ⟨b, 0, none⟩ = some (.int .i64 n) := Blk.cell h3 0
  have h3f0 : World.frozen? w ⟨b, 0, none⟩ = false := Blk.free h3 0
  have h31 : World.cell? w ⟨b, 1, none⟩ = some (.slice (some ⟨g, o, none⟩) l.length c) := Blk.cell h3 1
  have h3f1 : World.frozen? w ⟨b, 1, none⟩ = false := Blk.free h3 1
  clear h3 h4 h5 hcell
  obtain ⟨fa, fe⟩ := f
  obtain ⟨xa, xe⟩ := x
  have HBX : Aside0 (Blk ((w.alloc (.cells #[.int .i64 xa, .int .i64 xe] 50)).alloc (.cells #[.int .i64 fa, .int .i64 fe] 50)) w.heap.size #[.int .i64 xa, .int .i64 xe] 50) := ⟨(Blk.new w _ _).alloc _⟩
  have HBF : Aside0 (Blk ((w.alloc (.cells #[.int .i64 xa, .int .i64 xe] 50)).alloc (.cells #[.int .i64 fa, .int .i64 fe] 50)) (w.heap.size + 1) #[.int .i64 fa, .int .i64 fe] 50) := ⟨by simpa using Blk.new (w.alloc (.cells #[.int .i64 xa, .int .i64 xe] 50)) #[.int .i64 fa, .int .i64 fe] 50⟩
  have HBW : Aside0 (Below w.heap.size w ((w.alloc (.cells #[.int .i64 xa, .int .i64 xe] 50)).alloc (.cells #[.int .i64 fa, .int .i64 fe] 50))) := ⟨below_alloc (below_alloc (Below.refl _ _) _) _⟩
  have hsz : (World.heap ((w.alloc (.cells #[.int .i64 xa, .int .i64 xe] 50)).alloc (.cells #[.int .i64 fa, .int .i64 fe] 50))).size = w.heap.size + 1 + 1 := by simp
  have HSZ := Aside0.mk hsz
  clear hsz
  by_cases c1 : fa < xa <;> by_cases c2 : xe < fe
  · have HE : Aside0 (cutL l i (xa, xe) = l.take i ++ [(fa, xa), (xe, fe)] ++ l.drop (i + 1)) := ⟨by rw [HE.out]; simp [leftL, c1, c2]⟩
    have HSR1 : Aside0 (Src (((w.alloc (.cells #[.int .i64 xa, .int .i64 xe] 50)).alloc (.cells #[.int .i64 fa, .int .i64 fe] 50)).alloc (.cells #[.int .i64 fa, .int .i64 xa] 50)) (.slice (some ⟨w.heap.size + 1 + 1, 0, none⟩) 1 1) [(fa, xa)]) := ⟨by have := Src.new ((w.alloc (.cells #[.int .i64 xa, .int .i64 xe] 50)).alloc (.cells #[.int .i64 fa, .int .i64 fe] 50)) (fa, xa); rwa [HSZ.out] at this⟩
    have HTW1 : Aside0 (Turned (fun k => w.heap.size ≤ k) w ((w.alloc (.cells #[.int .i64 xa, .int .i64 xe] 50)).alloc (.cells #[.int .i64 fa, .int .i64 fe] 50))) := ⟨Turned.of_below HBW.out _⟩
    go_enter Try.func24, Try.ntmps24
    go_wp2_with (first
      | ((with_reducible refine gate_builtin (b := .append) (xs := #[.tmp 20, .tmp 26]) rfl ?_); refine list_ownR rfl (.tmp 20) (.tmp 26) rfl (base := w.heap.size) (v := .slice none 0 0) (u := .slice (some ⟨w.heap.size + 1 + 1, 0, none⟩) 1 1) (l := []) (vs := [(fa, xa)]) rfl rfl (Own.nil _ _) HSR1.out (by simp; try omega) (by simp) ?_; intro v1 w1 ho ht hat; have HO1 := Aside0.mk ho; have HT1 : Aside0 (Turned (fun k => w.heap.size ≤ k) w w1) := ⟨(HTW1.out.alloc _).then_ ht (fun k hk => .inr (by cases hk))⟩; have hx1 : Blk w1 w.heap.size #[.int .i64 xa, .int .i64 xe] 50 := (ht).blk (HBX.out.alloc _) (by intro h; cases h); have hf1 : Blk w1 (w.heap.size + 1) #[.int .i64 fa, .int .i64 fe] 50 := (ht).blk (HBF.out.alloc _) (by intro h; cases h); have hxs1 := hx1.lt; have hfs1 := hf1.lt; have p1 : w1.cell? ⟨w.heap.size, 1, none⟩ = some (.int .i64 xe) := (hx1.cell 1).trans rfl; have q1 : w1.cell? ⟨w.heap.size + 1, 1, none⟩ = some (.int .i64 fe) := (hf1.cell 1).trans rfl; clear hx1 hf1; have HB1 : Aside0 (Below w.heap.size w w1) := ⟨HT1.out.toBelow (Nat.le_refl _) (fun _ h => h)⟩; have hz1 : w.heap.size ≤ w1.heap.size := HB1.out.size; have hb1 : Blk w1 b #[.int .i64 n, .slice (some ⟨g, o, none⟩) l.length c] 48 := (HB1.out.block _ hlt).trans H3.out; have y1 := (hb1.cell 1).trans rfl; have yf1 := hb1.free 1; clear hb1; clear ho ht hat; have HTW2 := HT1; have HSR2 := Aside0.mk (Src.new w1 (xe, fe)))
      | ((with_reducible refine gate_builtin (b := .append) (xs := #[.tmp 33, .tmp 39]) rfl ?_); refine list_ownR rfl (.tmp 33) (.tmp 39) rfl (base := w.heap.size) (v := v1) (u := .slice (some ⟨w1.heap.size, 0, none⟩) 1 1) (l := [(fa, xa)]) (vs := [(xe, fe)]) rfl rfl (HO1.out.below (below_alloc (Below.refl _ _) _)) HSR2.out (by simp; try omega) (by simp) ?_; intro v2 w2 ho ht hat; have HO2 := Aside0.mk ho; have HT2 : Aside0 (Turned (fun k => w.heap.size ≤ k) w w2) := ⟨(HTW2.out.alloc _).then_ ht (fun k hk => .inr (HO1.out.lt k hk |>.1))⟩; have HB2 : Aside0 (Below w.heap.size w w2) := ⟨HT2.out.toBelow (Nat.le_refl _) (fun _ h => h)⟩; have hz2 : w.heap.size ≤ w2.heap.size := HB2.out.size; have hb2 : Blk w2 b #[.int .i64 n, .slice (some ⟨g, o, none⟩) l.length c] 48 := (HB2.out.block _ hlt).trans H3.out; have y2 := (hb2.cell 1).trans rfl; have yf2 := hb2.free 1; clear hb2; clear ho ht hat))
    refine (replace_cut (base := base) (base2 := w.heap.size) (vs := [(fa, xa), (xe, fe)]) (H4.out.below HB2.out) (by omega) HO2.out (by simp) (by simp) (fun k hk e => by have h1 := (HO2.out.lt k hk).1; have e2 : g = k := (by simpa [Value.ownBlock] using e); omega) (by omega) i _ _ rfl (by omega) hi).mono ?_
    rw [← HE.out]
    rintro e w9 hp
    obtain ⟨A', m', c', rfl, hblk, hend⟩ := cut_close HS.out H3.out H4.out H5.out HB2.out hp
    have HEND := Aside0.mk hend
    have hlt9 := hblk.lt
    have z1 := (Blk.cell hblk 1).trans rfl
    have zf := Blk.free hblk 1
    clear hp hend hblk
    go_wp2_with fail
    refine bodyPost_end (results_none rfl _ _ _) rfl ?_
    exact HEND.out
  · have HE : Aside0 (cutL l i (xa, xe) = l.take i ++ [(fa, xa)] ++ l.drop (i + 1)) := ⟨by rw [HE.out]; simp [leftL, c1, c2]⟩
    have HSR1 : Aside0 (Src (((w.alloc (.cells #[.int .i64 xa, .int .i64 xe] 50)).alloc (.cells #[.int .i64 fa, .int .i64 fe] 50)).alloc (.cells #[.int .i64 fa, .int .i64 xa] 50)) (.slice (some ⟨w.heap.size + 1 + 1, 0, none⟩) 1 1) [(fa, xa)]) := ⟨by have := Src.new ((w.alloc (.cells #[.int .i64 xa, .int .i64 xe] 50)).alloc (.cells #[.int .i64 fa, .int .i64 fe] 50)) (fa, xa); rwa [HSZ.out] at this⟩
    have HTW1 : Aside0 (Turned (fun k => w.heap.size ≤ k) w ((w.alloc (.cells #[.int .i64 xa, .int .i64 xe] 50)).alloc (.cells #[.int .i64 fa, .int .i64 fe] 50))) := ⟨Turned.of_below HBW.out _⟩
    go_enter Try.func24, Try.ntmps24
    go_wp2_with (first
      | ((with_reducible refine gate_builtin (b := .append) (xs := #[.tmp 20, .tmp 26]) rfl ?_); refine list_ownR rfl (.tmp 20) (.tmp 26) rfl (base := w.heap.size) (v := .slice none 0 0) (u := .slice (some ⟨w.heap.size + 1 + 1, 0, none⟩) 1 1) (l := []) (vs := [(fa, xa)]) rfl rfl (Own.nil _ _) HSR1.out (by simp; try omega) (by simp) ?_; intro v1 w1 ho ht hat; have HO1 := Aside0.mk ho; have HT1 : Aside0 (Turned (fun k => w.heap.size ≤ k) w w1) := ⟨(HTW1.out.alloc _).then_ ht (fun k hk => .inr (by cases hk))⟩; have hx1 : Blk w1 w.heap.size #[.int .i64 xa, .int .i64 xe] 50 := (ht).blk (HBX.out.alloc _) (by intro h; cases h); have hf1 : Blk w1 (w.heap.size + 1) #[.int .i64 fa, .int .i64 fe] 50 := (ht).blk (HBF.out.alloc _) (by intro h; cases h); have hxs1 := hx1.lt; have hfs1 := hf1.lt; have p1 : w1.cell? ⟨w.heap.size, 1, none⟩ = some (.int .i64 xe) := (hx1.cell 1).trans rfl; have q1 : w1.cell? ⟨w.heap.size + 1, 1, none⟩ = some (.int .i64 fe) := (hf1.cell 1).trans rfl; clear hx1 hf1; have HB1 : Aside0 (Below w.heap.size w w1) := ⟨HT1.out.toBelow (Nat.le_refl _) (fun _ h => h)⟩; have hz1 : w.heap.size ≤ w1.heap.size := HB1.out.size; have hb1 : Blk w1 b #[.int .i64 n, .slice (some ⟨g, o, none⟩) l.length c] 48 := (HB1.out.block _ hlt).trans H3.out; have y1 := (hb1.cell 1).trans rfl; have yf1 := hb1.free 1; clear hb1; clear ho ht hat))
    refine (replace_cut (base := base) (base2 := w.heap.size) (vs := [(fa, xa)]) (H4.out.below HB1.out) (by omega) HO1.out (by simp) (by simp) (fun k hk e => by have h1 := (HO1.out.lt k hk).1; have e2 : g = k := (by simpa [Value.ownBlock] using e); omega) (by omega) i _ _ rfl (by omega) hi).mono ?_
    rw [← HE.out]
    rintro e w9 hp
    obtain ⟨A', m', c', rfl, hblk, hend⟩ := cut_close HS.out H3.out H4.out H5.out HB1.out hp
    have HEND := Aside0.mk hend
    have hlt9 := hblk.lt
    have z1 := (Blk.cell hblk 1).trans rfl
    have zf := Blk.free hblk 1
    clear hp hend hblk
    go_wp2_with fail
    refine bodyPost_end (results_none rfl _ _ _) rfl ?_
    exact HEND.out
  · have HE : Aside0 (cutL l i (xa, xe) = l.take i ++ [(xe, fe)] ++ l.drop (i + 1)) := ⟨by rw [HE.out]; simp [leftL, c1, c2]⟩
    have HSR1 : Aside0 (Src (((w.alloc (.cells #[.int .i64 xa, .int .i64 xe] 50)).alloc (.cells #[.int .i64 fa, .int .i64 fe] 50)).alloc (.cells #[.int .i64 xe, .int .i64 fe] 50)) (.slice (some ⟨w.heap.size + 1 + 1, 0, none⟩) 1 1) [(xe, fe)]) := ⟨by have := Src.new ((w.alloc (.cells #[.int .i64 xa, .int .i64 xe] 50)).alloc (.cells #[.int .i64 fa, .int .i64 fe] 50)) (xe, fe); rwa [HSZ.out] at this⟩
    have HTW1 : Aside0 (Turned (fun k => w.heap.size ≤ k) w ((w.alloc (.cells #[.int .i64 xa, .int .i64 xe] 50)).alloc (.cells #[.int .i64 fa, .int .i64 fe] 50))) := ⟨Turned.of_below HBW.out _⟩
    go_enter Try.func24, Try.ntmps24
    go_wp2_with (first
      | ((with_reducible refine gate_builtin (b := .append) (xs := #[.tmp 33, .tmp 39]) rfl ?_); refine list_ownR rfl (.tmp 33) (.tmp 39) rfl (base := w.heap.size) (v := .slice none 0 0) (u := .slice (some ⟨w.heap.size + 1 + 1, 0, none⟩) 1 1) (l := []) (vs := [(xe, fe)]) rfl rfl (Own.nil _ _) HSR1.out (by simp; try omega) (by simp) ?_; intro v1 w1 ho ht hat; have HO1 := Aside0.mk ho; have HT1 : Aside0 (Turned (fun k => w.heap.size ≤ k) w w1) := ⟨(HTW1.out.alloc _).then_ ht (fun k hk => .inr (by cases hk))⟩; have HB1 : Aside0 (Below w.heap.size w w1) := ⟨HT1.out.toBelow (Nat.le_refl _) (fun _ h => h)⟩; have hz1 : w.heap.size ≤ w1.heap.size := HB1.out.size; have hb1 : Blk w1 b #[.int .i64 n, .slice (some ⟨g, o, none⟩) l.length c] 48 := (HB1.out.block _ hlt).trans H3.out; have y1 := (hb1.cell 1).trans rfl; have yf1 := hb1.free 1; clear hb1; clear ho ht hat))
    refine (replace_cut (base := base) (base2 := w.heap.size) (vs := [(xe, fe)]) (H4.out.below HB1.out) (by omega) HO1.out (by simp) (by simp) (fun k hk e => by have h1 := (HO1.out.lt k hk).1; have e2 : g = k := (by simpa [Value.ownBlock] using e); omega) (by omega) i _ _ rfl (by omega) hi).mono ?_
    rw [← HE.out]
    rintro e w9 hp
    obtain ⟨A', m', c', rfl, hblk, hend⟩ := cut_close HS.out H3.out H4.out H5.out HB1.out hp
    have HEND := Aside0.mk hend
    have hlt9 := hblk.lt
    have z1 := (Blk.cell hblk 1).trans rfl
    have zf := Blk.free hblk 1
    clear hp hend hblk
    go_wp2_with fail
    refine bodyPost_end (results_none rfl _ _ _) rfl ?_
    exact HEND.out
  · have HE : Aside0 (cutL l i (xa, xe) = l.take i ++ [] ++ l.drop (i + 1)) := ⟨by rw [HE.out]; simp [leftL, c1, c2]⟩
    go_enter Try.func24, Try.ntmps24
    go_wp2_with fail
    refine (replace_cut (base := base) (base2 := w.heap.size) (vs := []) (H4.out.below HBW.out) (Nat.le_trans hbs HBW.out.size) (Own.nil _ w.heap.size) (by intro _; rfl) (by simp) (fun k hk => by cases hk) (by omega) i _ _ rfl (by omega) hi).mono ?_
    rw [← HE.out]
    rintro e w9 hp
    obtain ⟨A', m', c', rfl, hblk, hend⟩ := cut_close HS.out H3.out H4.out H5.out HBW.out hp
    have HEND := Aside0.mk hend
    have hlt9 := hblk.lt
    have z1 := (Blk.cell hblk 1).trans rfl
    have zf := Blk.free hblk 1
    clear hp hend hblk
    go_wp2_with fail
    refine bodyPost_end (results_none rfl _ _ _) rfl ?_
    exact HEND.out
end Go.Proofs.Ytdcccimdgbkniaa.Mine
