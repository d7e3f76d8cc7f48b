/- space: New, Take, Hold. -/
import Derived.Test.YtdcccimdgbkniaaSpF
set_option linter.unusedSimpArgs false
set_option linter.unusedVariables false
namespace Go.Proofs.Ytdcccimdgbkniaa.Mine
open Go.RowKit Go.Maps Go.Proofs.YtdcccimdgbkniaaW.PrintWords Go.Proofs.YtdcccimdgbkniaaW.PrintLast Go.Proofs.YtdcccimdgbkniaaW.PrintMore Go.Proofs.Ytdcccimdgbkniaa.Turn

theorem firstAt_spec {α : Type} (so : α → Bool) (l : List α) : ∀ m i, i + m = l.length → (firstAt so l i = -1 ∧ ∀ j, i ≤ j → (h : j < l.length) → so l[j] = false) ∨ ∃ k : Nat, firstAt so l i = k ∧ i ≤ k ∧ ∃ h : k < l.length, so l[k] = true ∧ ∀ j, i ≤ j → (hj : j < k) → so (l[j]'(by omega)) = false := by
  intro m
  induction m with
  | zero => intro i hi; exact .inl ⟨by rw [firstAt, dif_neg (by omega)], fun j h1 h2 => by omega⟩
  | succ m ih =>
    intro i hi
    rw [firstAt, dif_pos (show i < l.length by omega)]
    cases hq : so l[i] with
    | true => exact .inr ⟨i, by simp, Nat.le_refl _, by omega, hq, fun j h1 h2 => by omega⟩
    | false =>
      rcases ih (i + 1) (by omega) with ⟨h1, h2⟩ | ⟨k, h1, h2, h3, h4, h5⟩
      · refine .inl ⟨by simpa using h1, fun j h3 h4 => ?_⟩
        rcases Nat.eq_or_lt_of_le h3 with rfl | h3
        · exact hq
        · exact h2 j h3 h4
      · refine .inr ⟨k, by simpa using h1, by omega, h3, h4, fun j h6 h7 => ?_⟩
        rcases Nat.eq_or_lt_of_le h6 with rfl | h6
        · exact hq
        · exact h5 j h6 h7
theorem firstAt_cases {α : Type} (so : α → Bool) (l : List α) : firstAt so l 0 = -1 ∨ ∃ k : Nat, firstAt so l 0 = k ∧ k < l.length := by
  rcases firstAt_spec so l l.length 0 (by omega) with ⟨h, _⟩ | ⟨k, h1, _, h2, _⟩
  · exact .inl h
  · exact .inr ⟨k, h1, h2⟩

def takeE (l : List R2) (c : Int) : Int := if c < 1 then 1 else if firstAt (soT c) l 0 < 0 then 3 else 0
def takeV (l : List R2) (c : Int) : Int := if c < 1 then 0 else if firstAt (soT c) l 0 < 0 then 0 else (l.getD (firstAt (soT c) l 0).toNat (0, 0)).1
def takeL (l : List R2) (c : Int) : List R2 := if c < 1 then l else if firstAt (soT c) l 0 < 0 then l else cutL l (firstAt (soT c) l 0).toNat (takeV l c, takeV l c + c)
def holdE (n : Int) (l : List R2) (a c : Int) : Int := if rightB n a c then (if firstAt (soH (a, a + c)) l 0 < 0 then 5 else 0) else 1
def holdL (n : Int) (l : List R2) (a c : Int) : List R2 := if rightB n a c then (if firstAt (soH (a, a + c)) l 0 < 0 then l else cutL l (firstAt (soH (a, a + c)) l 0).toNat (a, a + c)) else l

theorem EndS.mk_below {w w1 w2 : World} {base b : Nat} {F F' : Nat → Prop} {n : Int} {l : List R2} {val : Value} {e : Ending} (hb : Below w.heap.size w w1) (he : e = .returned val) (hs : Sp w2 base F' b n l) (ht : Turned F w1 w2) (hf : ∀ k, F' k → F k ∨ w1.heap.size ≤ k) : EndS w base F b n l val e w2 :=
  ⟨F', he, hs, (Turned.of_below hb F).then_ ht (fun k hk => .inl hk), fun k hk => (hf k hk).imp id (fun h => Nat.le_trans hb.size h)⟩
theorem EndS.same {w w1 : World} {base b : Nat} {F : Nat → Prop} {n : Int} {l : List R2} {val : Value} {e : Ending} (h : Sp w base F b n l) (hb : Below w.heap.size w w1) (he : e = .returned val) : EndS w base F b n l val e w1 :=
  ⟨F, he, h.below hb, Turned.of_below hb F, fun k hk => .inl hk⟩

def freeL (n : Int) : List R2 := if 0 < n then [(0, n)] else []
def MadeS (w : World) (n : Int) (e : Ending) (w' : World) : Prop := ∃ b F, e = .returned (.tuple #[.pointer (some ⟨b, 0, none⟩), .int .i64 0]) ∧ Sp w' w.heap.size F b n (freeL n) ∧ Below w.heap.size w w'
set_option maxHeartbeats 1000000 in
theorem new_neg (n : Int) (h : n < 0) (w : World) : Calls Try.prog 8 #[.int .i64 n] w fun e w' => e = .returned (.tuple #[.pointer none, .int .i64 1]) ∧ w = w' := by
  go_enter Try.func8, Try.ntmps8
  go_wp2_with fail
  go_ret2
  exact ⟨rfl, rfl⟩
set_option maxHeartbeats 1000000 in
theorem new_long (n : Int) (h : 65536 < n) (w : World) : Calls Try.prog 8 #[.int .i64 n] w fun e w' => e = .returned (.tuple #[.pointer none, .int .i64 2]) ∧ w = w' := by
  go_enter Try.func8, Try.ntmps8
  go_wp2_with fail
  go_ret2
  exact ⟨rfl, rfl⟩
set_option maxHeartbeats 1000000 in
theorem new_ok (n : Int) (h0 : 0 ≤ n) (hn : n ≤ 65536) (w : World) : Calls Try.prog 8 #[.int .i64 n] w (MadeS w n) := by
  by_cases h2 : 0 < n
  · have HF : Aside0 (freeL n = [(0, n)]) := ⟨if_pos h2⟩
    go_enter Try.func8, Try.ntmps8
    go_wp2_with fail
    go_ret2
    refine ⟨w.heap.size, (fun k => k = w.heap.size ∨ k = w.heap.size + 1), rfl, ⟨.inl rfl, ?_, ?_⟩, ?_⟩
    · rintro k (rfl | rfl) <;> simp <;> omega
    · refine ⟨.slice (some ⟨w.heap.size + 1, 0, none⟩) 1 1, (Blk.new w _ _).alloc _, ?_, fun k hk => .inr (by simpa [Value.ownBlock] using hk.symm)⟩
      rw [HF.out]
      refine Own.mk (L := [(0, n)]) (by omega) ?_ (List.prefix_refl _) (by simp) rfl rfl
      have := Blk.new (w.alloc (.cells #[.int .i64 n, .slice (some ⟨w.heap.size + 1, 0, none⟩) 1 1] 48)) #[.int .i64 0, .int .i64 n] 50
      simpa [Whole, encR] using this
    · exact below_alloc (below_alloc (Below.refl _ _) _) _
  · have HF : Aside0 (freeL n = []) := ⟨if_neg h2⟩
    go_enter Try.func8, Try.ntmps8
    go_wp2_with fail
    go_ret2
    refine ⟨w.heap.size, (fun k => k = w.heap.size), rfl, ⟨rfl, ?_, .slice none 0 0, Blk.new w _ _, HF.out ▸ Own.nil _ _, fun k hk => by cases hk⟩, below_alloc (Below.refl _ _) _⟩
    rintro k rfl
    simp

set_option maxHeartbeats 2000000 in
theorem take_any {w : World} {base b : Nat} {F : Nat → Prop} {n : Int} {l : List R2} (h : Sp w base F b n l) (hl : l.length ≤ 1000000) (hs : Small l) (c : Int) :
    Calls Try.prog 10 #[.pointer (some ⟨b, 0, none⟩), .int .i64 c] w (EndS w base F b n (takeL l c) (.tuple #[.int .i64 (takeV l c), .int .i64 (takeE l c)])) := by
  have HS := Aside0.mk h
  obtain ⟨-, -, v, h3, h4, h5⟩ := h
  have hlt := h3.lt
  have H3 := Aside0.mk h3
  have H4 := Aside0.mk h4
  have HSM := Aside0.mk hs
  obtain ⟨A, cc, rfl, hc, hc2, hcell⟩ := h4.reads
  have HCELL := Aside0.mk hcell
  have h30 : World.cell? w ⟨b, 0, none⟩ = some (.int .i64 n) := Blk.cell h3 0
  have h3f0 : World.frozen? w ⟨b, 0, none⟩ = false := Blk.free h3 0
  have h31 : World.cell? w ⟨b, 1, none⟩ = some (.slice A l.length cc) := Blk.cell h3 1
  have h3f1 : World.frozen? w ⟨b, 1, none⟩ = false := Blk.free h3 1
  clear h3 h4 h5 hcell hs
  by_cases h1 : c < 1
  · rw [show takeL l c = l from if_pos h1, show takeV l c = 0 from if_pos h1, show takeE l c = 1 from if_pos h1]
    have hd1 : decide (c < 1) = true := by simpa using h1
    go_enter Try.func10, Try.ntmps10
    go_wp2_with fail
    go_ret2
    exact EndS.same HS.out (below_alloc (Below.refl _ _) _) rfl
  have hd1 : decide (c < 1) = false := by simpa using h1
  have HC : Aside0 (Calls Try.prog 22 #[.slice A l.length cc, .func (.func 23) #[] #[.pointer (some ⟨w.heap.size, 0, none⟩)]] (w.alloc (.cells #[.int .i64 c] 3)) _) := ⟨firstT_any (base := base) c w.heap.size (w.alloc (.cells #[.int .i64 c] 3)) (by omega) (H4.out.below (below_alloc (Below.refl _ _) _)).reads HSM.out ((Blk.new w #[.int .i64 c] 3).cell 0)⟩
  rcases firstAt_cases (soT c) l with hf | ⟨i, hf, hi⟩
  · rw [show takeL l c = l by rw [takeL, if_neg h1, hf, if_pos (by omega)], show takeV l c = 0 by rw [takeV, if_neg h1, hf, if_pos (by omega)], show takeE l c = 3 by rw [takeE, if_neg h1, hf, if_pos (by omega)]]
    rw [hf] at HC
    clear hf
    go_enter Try.func10, Try.ntmps10
    go_wp2_with fail
    refine HC.out.mono ?_
    rintro e w1 ⟨rfl, hb⟩
    have HB := Aside0.mk (below_step (below_alloc (Below.refl _ _) _) hb)
    clear hb HC
    go_wp2_with fail
    go_ret2
    exact EndS.same HS.out HB.out rfl
  · obtain ⟨g, o, rfl, hg, f0, f1⟩ := HCELL.out i hi
    have hV : takeV l c = l[i].1 := by rw [takeV, if_neg h1, hf, if_neg (by omega), Int.toNat_natCast, List.getD_eq_getElem?_getD, List.getElem?_eq_getElem hi]; rfl
    rw [show takeL l c = cutL l i (l[i].1, l[i].1 + c) by rw [takeL, if_neg h1, hf, if_neg (by omega), Int.toNat_natCast, hV], hV, show takeE l c = 0 by rw [takeE, if_neg h1, hf, if_neg (by omega)]]
    obtain ⟨hs0, hs1, hs2⟩ := HSM.out _ (List.getElem_mem hi)
    have hsT : c ≤ l[i].2 - l[i].1 := by
      rcases firstAt_spec (soT c) l l.length 0 (by omega) with ⟨h9, _⟩ | ⟨k, h9, _, h10, h11, _⟩
      · omega
      · obtain rfl : k = i := by omega
        simpa [soT] using h11
    rw [hf] at HC
    clear hf hV
    generalize l[i] = f at *
    obtain ⟨fa, fe⟩ := f
    have HX := Aside0.mk (Blk.new w #[.int .i64 c] 3)
    simp only at hs0 hs1 hs2 hsT f0 f1 ⊢
    go_enter Try.func10, Try.ntmps10
    go_wp2_with fail
    refine HC.out.mono ?_
    rintro e w1 ⟨rfl, hb⟩
    have HB := Aside0.mk (below_step (below_alloc (Below.refl _ _) _) hb)
    have hx : Blk w1 w.heap.size #[.int .i64 c] 3 := (hb.block _ HX.out.lt).trans HX.out
    have x0 := (hx.cell 0).trans rfl
    have hxl := hx.lt
    have h31 : Blk w1 b #[.int .i64 n, .slice (some ⟨g, o, none⟩) l.length cc] 48 := (HB.out.block _ hlt).trans H3.out
    have hlt1 := h31.lt
    have h310 : World.cell? w1 ⟨b, 0, none⟩ = some (.int .i64 n) := Blk.cell h31 0
    have h31f0 : World.frozen? w1 ⟨b, 0, none⟩ = false := Blk.free h31 0
    have h311 : World.cell? w1 ⟨b, 1, none⟩ = some (.slice (some ⟨g, o, none⟩) l.length cc) := Blk.cell h31 1
    have h31f1 : World.frozen? w1 ⟨b, 1, none⟩ = false := Blk.free h31 1
    have g0 := pw_cell_below HB.out f0
    have hg1 : g < w1.heap.size := Nat.lt_of_lt_of_le hg HB.out.size
    clear hb HC hx h31
    have hw1 : IntKind.i64.wrap (fa + c) = fa + c := IntWalk.i64_in _ (by omega)
    go_wp2_with fail
    refine (cut_any (HS.out.below HB.out) hl i hi (fa, fa + c)).mono ?_
    (rintro e w4 ⟨F', rfl, hs, ht, hf⟩; have HE := Aside0.mk (EndS.mk_below (val := .nilIface) HB.out rfl hs ht hf); clear hs ht hf)
    go_wp2_with fail
    go_ret2
    obtain ⟨F', he, hs, ht, hf⟩ := HE.out
    exact ⟨F', rfl, hs, ht, hf⟩

set_option maxHeartbeats 2000000 in
theorem hold_any {w : World} {base b : Nat} {F : Nat → Prop} {n : Int} {l : List R2} (h : Sp w base F b n l) (hn0 : 0 ≤ n) (hn : n ≤ 65536) (hl : l.length ≤ 1000000) (a c : Int) (hwf : (Lit.int .i64 c).wf = true) :
    Calls Try.prog 12 #[.pointer (some ⟨b, 0, none⟩), .agg #[.int .i64 a, .int .i64 c]] w (EndS w base F b n (holdL n l a c) (.int .i64 (holdE n l a c))) := by
  have HS := Aside0.mk h
  obtain ⟨-, -, v, h3, h4, h5⟩ := h
  have hlt := h3.lt
  have H3 := Aside0.mk h3
  have H4 := Aside0.mk h4
  obtain ⟨A, cc, rfl, hc, hc2, -⟩ := h4.reads
  clear h3 h4 h5
  have HB0 : Aside0 (Below w.heap.size w (w.alloc (.cells #[.int .i64 a, .int .i64 c] 32))) := ⟨below_alloc (Below.refl _ _) _⟩
  have HR := Aside0.mk (right_any (HS.out.below HB0.out) hn0 hn a c hwf)
  cases hr : rightB n a c with
  | false =>
    rw [show holdL n l a c = l by rw [holdL, hr]; rfl, show holdE n l a c = 1 by rw [holdE, hr]; rfl]
    rw [hr] at HR
    simp only [Bool.false_eq_true, if_false] at HR
    clear hr
    go_enter Try.func12, Try.ntmps12
    go_wp2_with fail
    refine HR.out.mono ?_
    rintro e w1 ⟨rfl, hb⟩
    have HB := Aside0.mk (below_step HB0.out hb)
    clear hb HR
    go_wp2_with fail
    go_ret
    exact EndS.same HS.out (below_alloc HB.out _) rfl
  | true =>
    obtain ⟨q1, q2, q3, q4⟩ := rightB_true hr
    rw [show holdL n l a c = if firstAt (soH (a, a + c)) l 0 < 0 then l else cutL l (firstAt (soH (a, a + c)) l 0).toNat (a, a + c) by rw [holdL, hr]; rfl, show holdE n l a c = if firstAt (soH (a, a + c)) l 0 < 0 then 5 else 0 by rw [holdE, hr]; rfl]
    rw [hr] at HR
    simp only [if_true] at HR
    clear hr
    rcases firstAt_cases (soH (a, a + c)) l with hf | ⟨i, hf, hi⟩
    · rw [hf, if_pos (by omega), if_pos (by omega)]
      have HFX := Aside0.mk hf
      clear hf
      (go_enter Try.func12, Try.ntmps12; go_wp2_with fail; refine HR.out.mono ?_; rintro e w1 ⟨rfl, hb⟩; have HB := Aside0.mk (below_step HB0.out hb); have h31 : Blk w1 b #[.int .i64 n, .slice A l.length cc] 48 := (HB.out.block _ hlt).trans H3.out; have hlt1 := h31.lt; have y1 := (h31.cell 1).trans rfl; have HX := Aside0.mk (Blk.new w1 #[.int .i64 a, .int .i64 (a + c)] 50); have HB1 := Aside0.mk (below_alloc HB.out (.cells #[.int .i64 a, .int .i64 (a + c)] 50)); clear hb HR h31; have HC := Aside0.mk (firstH_any (base := base) (a, a + c) w1.heap.size (w1.alloc (.cells #[.int .i64 a, .int .i64 (a + c)] 50)) (by omega) (H4.out.below HB1.out).reads (HX.out.cell 0) (HX.out.cell 1)); rw [HFX.out] at HC; go_wp2_with fail; refine HC.out.mono ?_; rintro e w2 ⟨rfl, hb⟩; have HB2 := Aside0.mk (below_step HB1.out hb); clear HC)
      go_wp2_with fail
      go_ret
      exact EndS.same HS.out HB2.out rfl
    · rw [hf, if_neg (by omega), if_neg (by omega), Int.toNat_natCast]
      have HFX := Aside0.mk hf
      clear hf
      (go_enter Try.func12, Try.ntmps12; go_wp2_with fail; refine HR.out.mono ?_; rintro e w1 ⟨rfl, hb⟩; have HB := Aside0.mk (below_step HB0.out hb); have h31 : Blk w1 b #[.int .i64 n, .slice A l.length cc] 48 := (HB.out.block _ hlt).trans H3.out; have hlt1 := h31.lt; have y1 := (h31.cell 1).trans rfl; have HX := Aside0.mk (Blk.new w1 #[.int .i64 a, .int .i64 (a + c)] 50); have HB1 := Aside0.mk (below_alloc HB.out (.cells #[.int .i64 a, .int .i64 (a + c)] 50)); clear hb HR h31; have HC := Aside0.mk (firstH_any (base := base) (a, a + c) w1.heap.size (w1.alloc (.cells #[.int .i64 a, .int .i64 (a + c)] 50)) (by omega) (H4.out.below HB1.out).reads (HX.out.cell 0) (HX.out.cell 1)); rw [HFX.out] at HC; go_wp2_with fail; refine HC.out.mono ?_; rintro e w2 ⟨rfl, hb⟩; have HB2 := Aside0.mk (below_step HB1.out hb); clear HC)
      have hx2 : Blk w2 w1.heap.size #[.int .i64 a, .int .i64 (a + c)] 50 := (hb.block _ HX.out.lt).trans HX.out
      have x20 := (hx2.cell 0).trans rfl
      have x21 := (hx2.cell 1).trans rfl
      have hxl2 := hx2.lt
      clear hx2
      go_wp2_with fail
      refine (cut_any (HS.out.below HB2.out) hl i hi (a, a + c)).mono ?_
      rintro e w4 ⟨F', rfl, hs, ht, hf⟩
      have HE := Aside0.mk (EndS.mk_below (val := .nilIface) HB2.out rfl hs ht hf)
      clear hs ht hf
      go_wp2_with fail
      go_ret
      obtain ⟨F', he, hs, ht, hf⟩ := HE.out
      exact ⟨F', rfl, hs, ht, hf⟩
end Go.Proofs.Ytdcccimdgbkniaa.Mine
