/- space: Give. -/
import Derived.Test.YtdcccimdgbkniaaSpH
import Derived.StillTailTactics
import Derived.BigRegion
import Derived.Laws.EntriesVeiled
set_option linter.unusedSimpArgs false
set_option linter.unusedVariables false
namespace Go.Proofs.Ytdcccimdgbkniaa.Mine
open Go.RowKit Go.Maps Go.Proofs.YtdcccimdgbkniaaW.PrintWords Go.Proofs.YtdcccimdgbkniaaW.PrintLast Go.Proofs.YtdcccimdgbkniaaW.PrintMore Go.Proofs.Ytdcccimdgbkniaa.Turn

def giveI (l : List R2) (x : R2) : Nat := if firstAt (soB x) l 0 < 0 then l.length else (firstAt (soB x) l 0).toNat
def leftM (l : List R2) (x : R2) (i : Nat) : Bool := decide (0 < i) && decide ((l.getD (i - 1) (0, 0)).2 = x.1)
def rightM (l : List R2) (x : R2) (i : Nat) : Bool := decide (i < l.length) && decide ((l.getD i (0, 0)).1 = x.2)
def mergeL (l : List R2) (x : R2) (i : Nat) : List R2 :=
  l.take (if leftM l x i then i - 1 else i) ++ [(if leftM l x i then (l.getD (i - 1) (0, 0)).1 else x.1, if rightM l x i then (l.getD i (0, 0)).2 else x.2)] ++ l.drop (if rightM l x i then i + 1 else i)
def giveE (n : Int) (l : List R2) (a c : Int) : Int := if rightB n a c then (if firstAt (soG (a, a + c)) l 0 < 0 then 0 else 4) else 1
def giveL (n : Int) (l : List R2) (a c : Int) : List R2 := if rightB n a c then (if firstAt (soG (a, a + c)) l 0 < 0 then mergeL l (a, a + c) (giveI l (a, a + c)) else l) else l

theorem put_back {w w2 w3 : World} {base b : Nat} {F : Nat → Prop} {n : Int} {v : Value} {l r : List R2} {e : Ending} (h : Sp w base F b n l) (h3 : Blk w b #[.int .i64 n, v] 48) (h4 : Own w base v l) (h5 : ∀ k, v.ownBlock = some k → F k) (hb : Below w.heap.size w w2)
    (hp : Put w2 base v r e w3) : ∃ A' m' c', e = .returned (.slice A' m' c') ∧ Blk w3 b #[.int .i64 n, v] 48 ∧ ∀ val, EndS w base F b n r val (.returned val) (w3.setCell ⟨b, 1, none⟩ (.slice A' m' c')) := by
  obtain ⟨v', rfl, ho, ht, hat⟩ := hp
  obtain ⟨A', c', hv', -, -, -⟩ := ho.reads
  have hlt := h3.lt
  have h3' : Blk w2 b #[.int .i64 n, v] 48 := (hb.block _ hlt).trans h3
  have hne : v.ownBlock ≠ some b := h4.ne h3 (by decide)
  have h33 := ht.blk h3' (fun hk => hne hk)
  have hne' : v'.ownBlock ≠ some b := ho.ne h33 (by decide)
  have hT : Turned F w (w3.setCell ⟨b, 1, none⟩ v') := ((Turned.of_below hb F).then_ ht (fun k hk => .inl (h5 k hk))).setCell (.inl h.self) _
  refine ⟨A', r.length, c', by rw [hv'], h33, fun val => ?_⟩
  rw [← hv']
  refine ⟨fun k => F k ∨ v'.ownBlock = some k, rfl, ⟨.inl h.self, ?_, v', Blk.set h33 1 v', ho.step (fun k hk _ => Below.heap_setCell w3 _ _ k (fun e => hne' (by rw [hk, e]))), fun k hk => .inr hk⟩, hT, ?_⟩
  · rintro k (hk | hk)
    · exact ⟨(h.mine k hk).1, Nat.lt_of_lt_of_le (h.mine k hk).2 hT.size⟩
    · have := ho.lt k hk
      exact ⟨this.1, by simpa [World.setCell] using this.2⟩
  · rintro k (hk | hk)
    · exact .inl hk
    · rcases hat with e | ⟨q, e, hq⟩
      · exact .inl (h5 k (by rw [← e]; exact hk))
      · rw [e] at hk
        cases hk
        exact .inr (Nat.le_trans hb.size hq)

set_option maxHeartbeats 8000000 in
set_option maxRecDepth 100000 in
theorem give_any {w : World} {base b : Nat} {F : Nat → Prop} {n : Int} {l : List R2} (h : Sp w base F b n l) (hn0 : 0 ≤ n) (hn : n ≤ 65536) (hl : l.length ≤ 1000000) (a c : Int) (hwf : (Lit.int .i64 c).wf = true) :
    Calls Try.prog 14 #[.pointer (some ⟨b, 0, none⟩), .agg #[.int .i64 a, .int .i64 c]] w (EndS w base F b n (giveL n l a c) (.int .i64 (giveE n l a c))) := by
  have HS := Aside0.mk h
  obtain ⟨-, -, v, h3, h4, h5⟩ := h
  have hlt := h3.lt
  have H3 := Aside0.mk h3
  have H4 := Aside0.mk h4.reads
  have HO4 := Aside0.mk h4
  have H5 := Aside0.mk h5
  obtain ⟨A, cc, rfl, hc, hc2, -⟩ := h4.reads
  clear h3 h4 h5
  have HB0 : Aside0 (Below w.heap.size w (w.alloc (.cells #[.int .i64 a, .int .i64 c] 32))) := ⟨below_alloc (Below.refl _ _) _⟩
  have HR := Aside0.mk (right_any (HS.out.below HB0.out) hn0 hn a c hwf)
  cases hr : rightB n a c with
  | false =>
    rw [show giveL n l a c = l by rw [giveL, hr]; rfl, show giveE n l a c = 1 by rw [giveE, hr]; rfl]
    rw [hr] at HR
    simp only [Bool.false_eq_true, if_false] at HR
    clear hr
    go_enter Try.func14, Try.ntmps14
    go_wp2_with fail
    refine HR.out.mono ?_
    rintro e w1 ⟨rfl, hb⟩
    have HB := Aside0.mk (below_step HB0.out hb)
    clear hb HR
    go_wp2_with fail
    go_ret
    exact EndS.same HS.out (below_alloc HB.out _) rfl
  | true =>
    obtain ⟨q1, q2, q3, q4⟩ := rightB_true hr
    rw [show giveL n l a c = if firstAt (soG (a, a + c)) l 0 < 0 then mergeL l (a, a + c) (giveI l (a, a + c)) else l by rw [giveL, hr]; rfl, show giveE n l a c = if firstAt (soG (a, a + c)) l 0 < 0 then 0 else 4 by rw [giveE, hr]; rfl]
    rw [hr] at HR
    simp only [if_true] at HR
    clear hr
    obtain ⟨x, hx1, hx2⟩ : ∃ x : R2, x = (a, a + c) ∧ 0 ≤ x.1 ∧ x.1 < x.2 ∧ x.2 ≤ n := ⟨(a, a + c), rfl, by simp only; omega⟩
    rw [← hx1]
    replace HR : Aside0 (Calls Try.prog 27 #[.pointer (some ⟨b, 0, none⟩), .agg #[.int .i64 a, .int .i64 c]] (w.alloc (.cells #[.int .i64 a, .int .i64 c] 32)) fun e w' => e = .returned (.tuple #[.agg #[.int .i64 x.1, .int .i64 x.2], .int .i64 0]) ∧ Below (w.alloc (.cells #[.int .i64 a, .int .i64 c] 32)).heap.size (w.alloc (.cells #[.int .i64 a, .int .i64 c] 32)) w') := by rw [hx1]; exact HR
    clear hx1 q1 q2 q3 q4 hwf
    obtain ⟨q1, q2, q3⟩ := hx2
    generalize hmr : mergeL l x (giveI l x) = r
    have HMR := Aside0.mk hmr
    clear hmr
    rcases firstAt_cases (soG x) l with hf | ⟨i, hf, hi⟩
    · have HFX := Aside0.mk hf
      rw [hf, if_pos (by omega), if_pos (by omega)]
      clear hf
      rcases firstAt_cases (soB x) l with hf | ⟨i, hf, hi⟩
      · have HFB := Aside0.mk hf
        clear hf
        have h00 : l.length ≤ 0 ∨ 0 < l.length := by omega
        rcases h00 with h0 | h0
        · skip
          ((go_enter Try.func14, Try.ntmps14; go_wp2_with fail; refine HR.out.mono ?_; rintro e w1 ⟨rfl, hb⟩; have HB := Aside0.mk (below_step HB0.out hb); have h31 : Blk w1 b #[.int .i64 n, .slice A l.length cc] 48 := (HB.out.block _ hlt).trans H3.out; have hlt1 := h31.lt; have y1 := (h31.cell 1).trans rfl; have HX := Aside0.mk ((Blk.new w1 #[.int .i64 x.1, .int .i64 x.2] 50).alloc (.cells #[.func (.func 31) #[.agg #[.int .i64 x.1, .int .i64 x.2]] #[]] 56)); have HQ : Aside0 (Blk ((w1.alloc (.cells #[.int .i64 x.1, .int .i64 x.2] 50)).alloc (.cells #[.func (.func 31) #[.agg #[.int .i64 x.1, .int .i64 x.2]] #[]] 56)) (w1.heap.size + 1) #[.func (.func 31) #[.agg #[.int .i64 x.1, .int .i64 x.2]] #[]] 56) := ⟨(by simpa using Blk.new (w1.alloc (.cells #[.int .i64 x.1, .int .i64 x.2] 50)) #[.func (.func 31) #[.agg #[.int .i64 x.1, .int .i64 x.2]] #[]] 56)⟩; have HB1 := Aside0.mk (below_alloc (below_alloc HB.out (.cells #[.int .i64 x.1, .int .i64 x.2] 50)) (.cells #[.func (.func 31) #[.agg #[.int .i64 x.1, .int .i64 x.2]] #[]] 56)); clear hb HR h31; have HC := Aside0.mk (firstG_any (base := base) x (w1.heap.size + 1) _ (by omega) (H4.out.below HB1.out) (HQ.out.cell 0)); rw [HFX.out] at HC; go_wp2_with fail; refine HC.out.mono ?_; rintro e w2 ⟨rfl, hb⟩; have HB2 := Aside0.mk (below_step HB1.out hb)); have hx2 : Blk w2 w1.heap.size #[.int .i64 x.1, .int .i64 x.2] 50 := (hb.block _ HX.out.lt).trans HX.out; have hg5 : w.heap.size ≤ w1.heap.size := HB.out.size; have HX2 := Aside0.mk hx2; clear hx2 hb HC HX HQ HB1 HB y1 hlt1; generalize w1.heap.size = g5 at *; have h32 : Blk w2 b #[.int .i64 n, .slice A l.length cc] 48 := (HB2.out.block _ hlt).trans H3.out; have hlt2 := h32.lt; have y2 := (h32.cell 1).trans rfl; have hg52 := HX2.out.lt; clear h32; have HC2 := Aside0.mk (firstB_any (base := base) x g5 w2 (by omega) (H4.out.below HB2.out) (HX2.out.cell 1)); rw [HFB.out] at HC2; go_wp2_with fail; refine HC2.out.mono ?_; rintro e w3 ⟨rfl, hb⟩; have HB3 := Aside0.mk (below_step HB2.out hb); have HX3 : Aside0 (Blk w3 g5 #[.int .i64 x.1, .int .i64 x.2] 50) := ⟨(hb.block _ hg52).trans HX2.out⟩; clear hb HC2 HX2 HB2 hg52 hlt2 y2)
          have HI : Aside0 (giveI l x = l.length) := ⟨by rw [giveI, HFB.out, if_pos (by omega)]⟩
          obtain ⟨xa, xe⟩ := x
          simp only at *
          have hlm : leftM l (xa, xe) l.length = false := by rw [leftM, show decide (0 < l.length) = false from decide_eq_false (by omega)]; rfl
          have hrm : rightM l (xa, xe) l.length = false := by rw [rightM, show decide (l.length < l.length) = false from decide_eq_false (by omega)]; rfl
          have HR2 : Aside0 (r = l.take l.length ++ [(xa, xe)] ++ l.drop l.length) := ⟨by rw [← HMR.out, HI.out, mergeL]; simp only [hlm, hrm, if_true, if_false, Bool.false_eq_true]⟩
          clear hlm hrm HMR HI
          have d0 : decide ((0 : Int) < (l.length : Int)) = false := decide_eq_false (by omega)
          have d0n : decide (0 < l.length) = false := decide_eq_false (by omega)
          have d1 : decide ((l.length : Int) < (l.length : Int)) = false := decide_eq_false (by omega)
          obtain ⟨A', c', he, -, -, hcell⟩ := H4.out.below HB3.out
          cases he
          have h33 : Blk w3 b #[.int .i64 n, .slice A l.length cc] 48 := (HB3.out.block _ hlt).trans H3.out
          have hlt3 := h33.lt
          have y3 := (h33.cell 1).trans rfl
          have hx3 := HX3.out
          have hg53 := hx3.lt
          have hx30 : World.cell? w3 ⟨g5, 0, none⟩ = some (.int .i64 xa) := Blk.cell hx3 0
          have hx3f0 : World.frozen? w3 ⟨g5, 0, none⟩ = false := Blk.free hx3 0
          have hx31 : World.cell? w3 ⟨g5, 1, none⟩ = some (.int .i64 xe) := Blk.cell hx3 1
          have hx3f1 : World.frozen? w3 ⟨g5, 1, none⟩ = false := Blk.free hx3 1
          clear h33 hx3 hcell
          go_wp2_with fail
          go_quiet (fail)
          have HB4 : Aside0 (Below w.heap.size w (w3.drewN nq)) := ⟨pw_below_drewN HB3.out nq⟩
          have HX4 : Aside0 (Blk (w3.drewN nq) g5 #[.int .i64 xa, .int .i64 xe] 50) := ⟨HX3.out⟩
          clear y3 hlt3 hg53 hx30 hx31 hx3f0 hx3f1
          clear HB3 HX3
          generalize w3.drewN nq = w4 at *
          obtain ⟨A', c', he, -, -, hcell⟩ := H4.out.below HB4.out
          cases he
          have h34 : Blk w4 b #[.int .i64 n, .slice A l.length cc] 48 := (HB4.out.block _ hlt).trans H3.out
          have hlt4 := h34.lt
          have y4 := (h34.cell 1).trans rfl
          have hx4 := HX4.out
          have hg54 := hx4.lt
          have hx40 : World.cell? w4 ⟨g5, 0, none⟩ = some (.int .i64 xa) := Blk.cell hx4 0
          have hx4f0 : World.frozen? w4 ⟨g5, 0, none⟩ = false := Blk.free hx4 0
          have hx41 : World.cell? w4 ⟨g5, 1, none⟩ = some (.int .i64 xe) := Blk.cell hx4 1
          have hx4f1 : World.frozen? w4 ⟨g5, 1, none⟩ = false := Blk.free hx4 1
          clear h34 hx4 hcell
          go_wp2_with fail
          go_quiet (fail)
          have HB5 : Aside0 (Below w.heap.size w (w4.drewN nq)) := ⟨pw_below_drewN HB4.out nq⟩
          have HX5 : Aside0 (Blk (w4.drewN nq) g5 #[.int .i64 xa, .int .i64 xe] 50) := ⟨HX4.out⟩
          clear y4 hlt4 hg54 hx40 hx41 hx4f0 hx4f1
          clear HB4 HX4
          generalize w4.drewN nq = w5 at *
          obtain ⟨A', c', he, -, -, hcell⟩ := H4.out.below HB5.out
          cases he
          have h35 : Blk w5 b #[.int .i64 n, .slice A l.length cc] 48 := (HB5.out.block _ hlt).trans H3.out
          have hlt5 := h35.lt
          have y5 := (h35.cell 1).trans rfl
          have hx5 := HX5.out
          have hg55 := hx5.lt
          have hx50 : World.cell? w5 ⟨g5, 0, none⟩ = some (.int .i64 xa) := Blk.cell hx5 0
          have hx5f0 : World.frozen? w5 ⟨g5, 0, none⟩ = false := Blk.free hx5 0
          have hx51 : World.cell? w5 ⟨g5, 1, none⟩ = some (.int .i64 xe) := Blk.cell hx5 1
          have hx5f1 : World.frozen? w5 ⟨g5, 1, none⟩ = false := Blk.free hx5 1
          clear h35 hx5 hcell
          have HBd : Aside0 (Below w.heap.size w (w5.drew.alloc (.cells #[.int .i64 xa, .int .i64 xe] 50))) := ⟨below_alloc (below_drew HB5.out) _⟩
          have HW : Aside0 (Whole (w5.drew.alloc (.cells #[.int .i64 xa, .int .i64 xe] 50)) w5.heap.size [(xa, xe)]) := ⟨Blk.new w5.drew _ _⟩
          have HNE : Aside0 ((Value.slice A l.length cc).ownBlock ≠ some w5.heap.size) := ⟨fun e => by have h1 := HO4.out.lt _ e; have h2 := HB5.out.size; omega⟩
          have HCR := Aside0.mk (replace_give (cu := 1) (HO4.out.below HBd.out) (Nat.le_trans HS.out.size HBd.out.size) HW.out HNE.out (by omega) l.length l.length ((l.length : Int)) ((l.length : Int)) (by omega) (by omega) (by omega) (by omega))
          rw [← HR2.out] at HCR
          go_wp2_with fail
          go_region_with (go_at_call 34; refine HCR.out.mono ?_; rintro e w9 hp; obtain ⟨A9, m9, c9, rfl, hblk, hend⟩ := put_back HS.out H3.out HO4.out H5.out HBd.out hp; have HEND := Aside0.mk hend; have hlt9 := Blk.lt hblk; have z1 := (Blk.cell hblk 1).trans rfl; have zf := Blk.free hblk 1; clear hp hend hblk)
          all_goals
            go_wp2_with fail
            go_ret
            exact HEND.out _
        · skip
          obtain ⟨p, hp⟩ : ∃ p, l[l.length - 1]'(by omega) = p := ⟨_, rfl⟩
          obtain ⟨pa, pe⟩ := p
          have HP := Aside0.mk hp
          clear hp
          by_cases hpl : pe = x.1 <;> have HPL := Aside0.mk hpl <;> clear hpl
          · skip
            ((go_enter Try.func14, Try.ntmps14; go_wp2_with fail; refine HR.out.mono ?_; rintro e w1 ⟨rfl, hb⟩; have HB := Aside0.mk (below_step HB0.out hb); have h31 : Blk w1 b #[.int .i64 n, .slice A l.length cc] 48 := (HB.out.block _ hlt).trans H3.out; have hlt1 := h31.lt; have y1 := (h31.cell 1).trans rfl; have HX := Aside0.mk ((Blk.new w1 #[.int .i64 x.1, .int .i64 x.2] 50).alloc (.cells #[.func (.func 31) #[.agg #[.int .i64 x.1, .int .i64 x.2]] #[]] 56)); have HQ : Aside0 (Blk ((w1.alloc (.cells #[.int .i64 x.1, .int .i64 x.2] 50)).alloc (.cells #[.func (.func 31) #[.agg #[.int .i64 x.1, .int .i64 x.2]] #[]] 56)) (w1.heap.size + 1) #[.func (.func 31) #[.agg #[.int .i64 x.1, .int .i64 x.2]] #[]] 56) := ⟨(by simpa using Blk.new (w1.alloc (.cells #[.int .i64 x.1, .int .i64 x.2] 50)) #[.func (.func 31) #[.agg #[.int .i64 x.1, .int .i64 x.2]] #[]] 56)⟩; have HB1 := Aside0.mk (below_alloc (below_alloc HB.out (.cells #[.int .i64 x.1, .int .i64 x.2] 50)) (.cells #[.func (.func 31) #[.agg #[.int .i64 x.1, .int .i64 x.2]] #[]] 56)); clear hb HR h31; have HC := Aside0.mk (firstG_any (base := base) x (w1.heap.size + 1) _ (by omega) (H4.out.below HB1.out) (HQ.out.cell 0)); rw [HFX.out] at HC; go_wp2_with fail; refine HC.out.mono ?_; rintro e w2 ⟨rfl, hb⟩; have HB2 := Aside0.mk (below_step HB1.out hb)); have hx2 : Blk w2 w1.heap.size #[.int .i64 x.1, .int .i64 x.2] 50 := (hb.block _ HX.out.lt).trans HX.out; have hg5 : w.heap.size ≤ w1.heap.size := HB.out.size; have HX2 := Aside0.mk hx2; clear hx2 hb HC HX HQ HB1 HB y1 hlt1; generalize w1.heap.size = g5 at *; have h32 : Blk w2 b #[.int .i64 n, .slice A l.length cc] 48 := (HB2.out.block _ hlt).trans H3.out; have hlt2 := h32.lt; have y2 := (h32.cell 1).trans rfl; have hg52 := HX2.out.lt; clear h32; have HC2 := Aside0.mk (firstB_any (base := base) x g5 w2 (by omega) (H4.out.below HB2.out) (HX2.out.cell 1)); rw [HFB.out] at HC2; go_wp2_with fail; refine HC2.out.mono ?_; rintro e w3 ⟨rfl, hb⟩; have HB3 := Aside0.mk (below_step HB2.out hb); have HX3 : Aside0 (Blk w3 g5 #[.int .i64 x.1, .int .i64 x.2] 50) := ⟨(hb.block _ hg52).trans HX2.out⟩; clear hb HC2 HX2 HB2 hg52 hlt2 y2)
            have hpl := HPL.out
            have HI : Aside0 (giveI l x = l.length) := ⟨by rw [giveI, HFB.out, if_pos (by omega)]⟩
            obtain ⟨xa, xe⟩ := x
            simp only at *
            have hgp1 : l.getD (l.length - 1) (0, 0) = (pa, pe) := by rw [List.getD_eq_getElem?_getD, List.getElem?_eq_getElem (show l.length - 1 < l.length by omega), HP.out]; rfl
            have hlm : leftM l (xa, xe) l.length = true := by rw [leftM, hgp1, show decide (0 < l.length) = true from decide_eq_true h0, show decide (pe = xa) = true from decide_eq_true hpl]; rfl
            have hrm : rightM l (xa, xe) l.length = false := by rw [rightM, show decide (l.length < l.length) = false from decide_eq_false (by omega)]; rfl
            have HR2 : Aside0 (r = l.take (l.length - 1) ++ [(pa, xe)] ++ l.drop l.length) := ⟨by rw [← HMR.out, HI.out, mergeL]; simp only [hlm, hrm, hgp1, if_true, if_false, Bool.false_eq_true]⟩
            clear hlm hrm hgp1 HMR HI
            have d0n : decide (0 < l.length) = true := decide_eq_true (by omega)
            have d0 : decide ((0 : Int) < (l.length : Int)) = true := decide_eq_true (by omega)
            have hw1 : IntKind.i64.wrap ((l.length : Int) - 1) = (l.length : Int) - 1 := IntWalk.i64_in _ (by omega)
            have ht1 : ((l.length : Int) - 1).toNat = l.length - 1 := by omega
            have hb1 : (0 : Int) ≤ (l.length : Int) - 1 := by omega
            have hb2 : (l.length : Int) - 1 < (l.length : Int) := by omega
            have de1 : (pe == xa) = true := beq_iff_eq.2 hpl
            have d1 : decide ((l.length : Int) < (l.length : Int)) = false := decide_eq_false (by omega)
            clear hpl
            obtain ⟨A', c', he, -, -, hcell⟩ := H4.out.below HB3.out
            cases he
            obtain ⟨g, o, rfl, hgp, p0, p1⟩ := hcell (l.length - 1) (by omega)
            rw [HP.out] at p0 p1
            simp only at p0 p1
            have h33 : Blk w3 b #[.int .i64 n, .slice (some ⟨g, o, none⟩) l.length cc] 48 := (HB3.out.block _ hlt).trans H3.out
            have hlt3 := h33.lt
            have y3 := (h33.cell 1).trans rfl
            have hx3 := HX3.out
            have hg53 := hx3.lt
            have hx30 : World.cell? w3 ⟨g5, 0, none⟩ = some (.int .i64 xa) := Blk.cell hx3 0
            have hx3f0 : World.frozen? w3 ⟨g5, 0, none⟩ = false := Blk.free hx3 0
            have hx31 : World.cell? w3 ⟨g5, 1, none⟩ = some (.int .i64 xe) := Blk.cell hx3 1
            have hx3f1 : World.frozen? w3 ⟨g5, 1, none⟩ = false := Blk.free hx3 1
            clear h33 hx3 hcell
            go_wp2_with fail
            go_quiet (fail)
            have HB4 : Aside0 (Below w.heap.size w (w3.drewN nq)) := ⟨pw_below_drewN HB3.out nq⟩
            have HX4 : Aside0 (Blk (w3.drewN nq) g5 #[.int .i64 xa, .int .i64 xe] 50) := ⟨HX3.out⟩
            clear y3 hlt3 hg53 hx30 hx31 hx3f0 hx3f1 hgp p0 p1
            clear HB3 HX3
            generalize w3.drewN nq = w4 at *
            obtain ⟨A', c', he, -, -, hcell⟩ := H4.out.below HB4.out
            cases he
            obtain ⟨g', o', he2, hgp, p0, p1⟩ := hcell (l.length - 1) (by omega)
            obtain ⟨rfl, rfl⟩ : g = g' ∧ o = o' := by simpa using he2
            rw [HP.out] at p0 p1
            simp only at p0 p1
            clear he2
            have h34 : Blk w4 b #[.int .i64 n, .slice (some ⟨g, o, none⟩) l.length cc] 48 := (HB4.out.block _ hlt).trans H3.out
            have hlt4 := h34.lt
            have y4 := (h34.cell 1).trans rfl
            have hx4 := HX4.out
            have hg54 := hx4.lt
            have hx40 : World.cell? w4 ⟨g5, 0, none⟩ = some (.int .i64 xa) := Blk.cell hx4 0
            have hx4f0 : World.frozen? w4 ⟨g5, 0, none⟩ = false := Blk.free hx4 0
            have hx41 : World.cell? w4 ⟨g5, 1, none⟩ = some (.int .i64 xe) := Blk.cell hx4 1
            have hx4f1 : World.frozen? w4 ⟨g5, 1, none⟩ = false := Blk.free hx4 1
            clear h34 hx4 hcell
            go_wp2_with fail
            go_region
            have HB5 : Aside0 (Below w.heap.size w ((w4.setCell ⟨g5, 0, none⟩ (.int .i64 pa)).drew)) := ⟨below_drew (HB4.out.setCell hg5 _)⟩
            have HX5 : Aside0 (Blk ((w4.setCell ⟨g5, 0, none⟩ (.int .i64 pa)).drew) g5 #[.int .i64 pa, .int .i64 xe] 50) := ⟨(HX4.out.set 0 (.int .i64 pa))⟩
            clear y4 hlt4 hg54 hx40 hx41 hx4f0 hx4f1 hgp p0 p1
            clear HB4 HX4
            generalize (w4.setCell ⟨g5, 0, none⟩ (.int .i64 pa)).drew = w5 at *
            obtain ⟨A', c', he, -, -, hcell⟩ := H4.out.below HB5.out
            cases he
            obtain ⟨g', o', he2, hgp, p0, p1⟩ := hcell (l.length - 1) (by omega)
            obtain ⟨rfl, rfl⟩ : g = g' ∧ o = o' := by simpa using he2
            rw [HP.out] at p0 p1
            simp only at p0 p1
            clear he2
            have h35 : Blk w5 b #[.int .i64 n, .slice (some ⟨g, o, none⟩) l.length cc] 48 := (HB5.out.block _ hlt).trans H3.out
            have hlt5 := h35.lt
            have y5 := (h35.cell 1).trans rfl
            have hx5 := HX5.out
            have hg55 := hx5.lt
            have hx50 : World.cell? w5 ⟨g5, 0, none⟩ = some (.int .i64 pa) := Blk.cell hx5 0
            have hx5f0 : World.frozen? w5 ⟨g5, 0, none⟩ = false := Blk.free hx5 0
            have hx51 : World.cell? w5 ⟨g5, 1, none⟩ = some (.int .i64 xe) := Blk.cell hx5 1
            have hx5f1 : World.frozen? w5 ⟨g5, 1, none⟩ = false := Blk.free hx5 1
            clear h35 hx5 hcell
            go_wp2_with fail
            go_quiet (fail)
            have HB6 : Aside0 (Below w.heap.size w (w5.drewN nq)) := ⟨pw_below_drewN HB5.out nq⟩
            have HX6 : Aside0 (Blk (w5.drewN nq) g5 #[.int .i64 pa, .int .i64 xe] 50) := ⟨HX5.out⟩
            clear y5 hlt5 hg55 hx50 hx51 hx5f0 hx5f1 hgp p0 p1
            clear HB5 HX5
            generalize w5.drewN nq = w6 at *
            obtain ⟨A', c', he, -, -, hcell⟩ := H4.out.below HB6.out
            cases he
            obtain ⟨g', o', he2, hgp, p0, p1⟩ := hcell (l.length - 1) (by omega)
            obtain ⟨rfl, rfl⟩ : g = g' ∧ o = o' := by simpa using he2
            rw [HP.out] at p0 p1
            simp only at p0 p1
            clear he2
            have h36 : Blk w6 b #[.int .i64 n, .slice (some ⟨g, o, none⟩) l.length cc] 48 := (HB6.out.block _ hlt).trans H3.out
            have hlt6 := h36.lt
            have y6 := (h36.cell 1).trans rfl
            have hx6 := HX6.out
            have hg56 := hx6.lt
            have hx60 : World.cell? w6 ⟨g5, 0, none⟩ = some (.int .i64 pa) := Blk.cell hx6 0
            have hx6f0 : World.frozen? w6 ⟨g5, 0, none⟩ = false := Blk.free hx6 0
            have hx61 : World.cell? w6 ⟨g5, 1, none⟩ = some (.int .i64 xe) := Blk.cell hx6 1
            have hx6f1 : World.frozen? w6 ⟨g5, 1, none⟩ = false := Blk.free hx6 1
            clear h36 hx6 hcell
            have HBd : Aside0 (Below w.heap.size w (w6.drew.alloc (.cells #[.int .i64 pa, .int .i64 xe] 50))) := ⟨below_alloc (below_drew HB6.out) _⟩
            have HW : Aside0 (Whole (w6.drew.alloc (.cells #[.int .i64 pa, .int .i64 xe] 50)) w6.heap.size [(pa, xe)]) := ⟨Blk.new w6.drew _ _⟩
            have HNE : Aside0 ((Value.slice (some ⟨g, o, none⟩) l.length cc).ownBlock ≠ some w6.heap.size) := ⟨fun e => by have h1 := HO4.out.lt _ e; have h2 := HB6.out.size; omega⟩
            have HCR := Aside0.mk (replace_give (cu := 1) (HO4.out.below HBd.out) (Nat.le_trans HS.out.size HBd.out.size) HW.out HNE.out (by omega) (l.length - 1) l.length ((l.length : Int) - 1) ((l.length : Int)) (by omega) (by omega) (by omega) (by omega))
            rw [← HR2.out] at HCR
            go_wp2_with fail
            go_region_with (go_at_call 34; refine HCR.out.mono ?_; rintro e w9 hp; obtain ⟨A9, m9, c9, rfl, hblk, hend⟩ := put_back HS.out H3.out HO4.out H5.out HBd.out hp; have HEND := Aside0.mk hend; have hlt9 := Blk.lt hblk; have z1 := (Blk.cell hblk 1).trans rfl; have zf := Blk.free hblk 1; clear hp hend hblk)
            all_goals
              go_wp2_with fail
              go_ret
              exact HEND.out _
          · skip
            ((go_enter Try.func14, Try.ntmps14; go_wp2_with fail; refine HR.out.mono ?_; rintro e w1 ⟨rfl, hb⟩; have HB := Aside0.mk (below_step HB0.out hb); have h31 : Blk w1 b #[.int .i64 n, .slice A l.length cc] 48 := (HB.out.block _ hlt).trans H3.out; have hlt1 := h31.lt; have y1 := (h31.cell 1).trans rfl; have HX := Aside0.mk ((Blk.new w1 #[.int .i64 x.1, .int .i64 x.2] 50).alloc (.cells #[.func (.func 31) #[.agg #[.int .i64 x.1, .int .i64 x.2]] #[]] 56)); have HQ : Aside0 (Blk ((w1.alloc (.cells #[.int .i64 x.1, .int .i64 x.2] 50)).alloc (.cells #[.func (.func 31) #[.agg #[.int .i64 x.1, .int .i64 x.2]] #[]] 56)) (w1.heap.size + 1) #[.func (.func 31) #[.agg #[.int .i64 x.1, .int .i64 x.2]] #[]] 56) := ⟨(by simpa using Blk.new (w1.alloc (.cells #[.int .i64 x.1, .int .i64 x.2] 50)) #[.func (.func 31) #[.agg #[.int .i64 x.1, .int .i64 x.2]] #[]] 56)⟩; have HB1 := Aside0.mk (below_alloc (below_alloc HB.out (.cells #[.int .i64 x.1, .int .i64 x.2] 50)) (.cells #[.func (.func 31) #[.agg #[.int .i64 x.1, .int .i64 x.2]] #[]] 56)); clear hb HR h31; have HC := Aside0.mk (firstG_any (base := base) x (w1.heap.size + 1) _ (by omega) (H4.out.below HB1.out) (HQ.out.cell 0)); rw [HFX.out] at HC; go_wp2_with fail; refine HC.out.mono ?_; rintro e w2 ⟨rfl, hb⟩; have HB2 := Aside0.mk (below_step HB1.out hb)); have hx2 : Blk w2 w1.heap.size #[.int .i64 x.1, .int .i64 x.2] 50 := (hb.block _ HX.out.lt).trans HX.out; have hg5 : w.heap.size ≤ w1.heap.size := HB.out.size; have HX2 := Aside0.mk hx2; clear hx2 hb HC HX HQ HB1 HB y1 hlt1; generalize w1.heap.size = g5 at *; have h32 : Blk w2 b #[.int .i64 n, .slice A l.length cc] 48 := (HB2.out.block _ hlt).trans H3.out; have hlt2 := h32.lt; have y2 := (h32.cell 1).trans rfl; have hg52 := HX2.out.lt; clear h32; have HC2 := Aside0.mk (firstB_any (base := base) x g5 w2 (by omega) (H4.out.below HB2.out) (HX2.out.cell 1)); rw [HFB.out] at HC2; go_wp2_with fail; refine HC2.out.mono ?_; rintro e w3 ⟨rfl, hb⟩; have HB3 := Aside0.mk (below_step HB2.out hb); have HX3 : Aside0 (Blk w3 g5 #[.int .i64 x.1, .int .i64 x.2] 50) := ⟨(hb.block _ hg52).trans HX2.out⟩; clear hb HC2 HX2 HB2 hg52 hlt2 y2)
            have hpl := HPL.out
            have HI : Aside0 (giveI l x = l.length) := ⟨by rw [giveI, HFB.out, if_pos (by omega)]⟩
            obtain ⟨xa, xe⟩ := x
            simp only at *
            have hgp1 : l.getD (l.length - 1) (0, 0) = (pa, pe) := by rw [List.getD_eq_getElem?_getD, List.getElem?_eq_getElem (show l.length - 1 < l.length by omega), HP.out]; rfl
            have hlm : leftM l (xa, xe) l.length = false := by rw [leftM, hgp1, show decide (pe = xa) = false from decide_eq_false hpl, Bool.and_false]
            have hrm : rightM l (xa, xe) l.length = false := by rw [rightM, show decide (l.length < l.length) = false from decide_eq_false (by omega)]; rfl
            have HR2 : Aside0 (r = l.take l.length ++ [(xa, xe)] ++ l.drop l.length) := ⟨by rw [← HMR.out, HI.out, mergeL]; simp only [hlm, hrm, if_true, if_false, Bool.false_eq_true]⟩
            clear hlm hrm hgp1 HMR HI
            have d0n : decide (0 < l.length) = true := decide_eq_true (by omega)
            have d0 : decide ((0 : Int) < (l.length : Int)) = true := decide_eq_true (by omega)
            have hw1 : IntKind.i64.wrap ((l.length : Int) - 1) = (l.length : Int) - 1 := IntWalk.i64_in _ (by omega)
            have ht1 : ((l.length : Int) - 1).toNat = l.length - 1 := by omega
            have hb1 : (0 : Int) ≤ (l.length : Int) - 1 := by omega
            have hb2 : (l.length : Int) - 1 < (l.length : Int) := by omega
            have de1 : (pe == xa) = false := beq_eq_false_iff_ne.2 hpl
            have d1 : decide ((l.length : Int) < (l.length : Int)) = false := decide_eq_false (by omega)
            clear hpl
            obtain ⟨A', c', he, -, -, hcell⟩ := H4.out.below HB3.out
            cases he
            obtain ⟨g, o, rfl, hgp, p0, p1⟩ := hcell (l.length - 1) (by omega)
            rw [HP.out] at p0 p1
            simp only at p0 p1
            have h33 : Blk w3 b #[.int .i64 n, .slice (some ⟨g, o, none⟩) l.length cc] 48 := (HB3.out.block _ hlt).trans H3.out
            have hlt3 := h33.lt
            have y3 := (h33.cell 1).trans rfl
            have hx3 := HX3.out
            have hg53 := hx3.lt
            have hx30 : World.cell? w3 ⟨g5, 0, none⟩ = some (.int .i64 xa) := Blk.cell hx3 0
            have hx3f0 : World.frozen? w3 ⟨g5, 0, none⟩ = false := Blk.free hx3 0
            have hx31 : World.cell? w3 ⟨g5, 1, none⟩ = some (.int .i64 xe) := Blk.cell hx3 1
            have hx3f1 : World.frozen? w3 ⟨g5, 1, none⟩ = false := Blk.free hx3 1
            clear h33 hx3 hcell
            go_wp2_with fail
            go_quiet (fail)
            have HB4 : Aside0 (Below w.heap.size w (w3.drewN nq)) := ⟨pw_below_drewN HB3.out nq⟩
            have HX4 : Aside0 (Blk (w3.drewN nq) g5 #[.int .i64 xa, .int .i64 xe] 50) := ⟨HX3.out⟩
            clear y3 hlt3 hg53 hx30 hx31 hx3f0 hx3f1 hgp p0 p1
            clear HB3 HX3
            generalize w3.drewN nq = w4 at *
            obtain ⟨A', c', he, -, -, hcell⟩ := H4.out.below HB4.out
            cases he
            obtain ⟨g', o', he2, hgp, p0, p1⟩ := hcell (l.length - 1) (by omega)
            obtain ⟨rfl, rfl⟩ : g = g' ∧ o = o' := by simpa using he2
            rw [HP.out] at p0 p1
            simp only at p0 p1
            clear he2
            have h34 : Blk w4 b #[.int .i64 n, .slice (some ⟨g, o, none⟩) l.length cc] 48 := (HB4.out.block _ hlt).trans H3.out
            have hlt4 := h34.lt
            have y4 := (h34.cell 1).trans rfl
            have hx4 := HX4.out
            have hg54 := hx4.lt
            have hx40 : World.cell? w4 ⟨g5, 0, none⟩ = some (.int .i64 xa) := Blk.cell hx4 0
            have hx4f0 : World.frozen? w4 ⟨g5, 0, none⟩ = false := Blk.free hx4 0
            have hx41 : World.cell? w4 ⟨g5, 1, none⟩ = some (.int .i64 xe) := Blk.cell hx4 1
            have hx4f1 : World.frozen? w4 ⟨g5, 1, none⟩ = false := Blk.free hx4 1
            clear h34 hx4 hcell
            go_wp2_with fail
            go_quiet (fail)
            have HB5 : Aside0 (Below w.heap.size w (w4.drewN nq)) := ⟨pw_below_drewN HB4.out nq⟩
            have HX5 : Aside0 (Blk (w4.drewN nq) g5 #[.int .i64 xa, .int .i64 xe] 50) := ⟨HX4.out⟩
            clear y4 hlt4 hg54 hx40 hx41 hx4f0 hx4f1 hgp p0 p1
            clear HB4 HX4
            generalize w4.drewN nq = w5 at *
            obtain ⟨A', c', he, -, -, hcell⟩ := H4.out.below HB5.out
            cases he
            obtain ⟨g', o', he2, hgp, p0, p1⟩ := hcell (l.length - 1) (by omega)
            obtain ⟨rfl, rfl⟩ : g = g' ∧ o = o' := by simpa using he2
            rw [HP.out] at p0 p1
            simp only at p0 p1
            clear he2
            have h35 : Blk w5 b #[.int .i64 n, .slice (some ⟨g, o, none⟩) l.length cc] 48 := (HB5.out.block _ hlt).trans H3.out
            have hlt5 := h35.lt
            have y5 := (h35.cell 1).trans rfl
            have hx5 := HX5.out
            have hg55 := hx5.lt
            have hx50 : World.cell? w5 ⟨g5, 0, none⟩ = some (.int .i64 xa) := Blk.cell hx5 0
            have hx5f0 : World.frozen? w5 ⟨g5, 0, none⟩ = false := Blk.free hx5 0
            have hx51 : World.cell? w5 ⟨g5, 1, none⟩ = some (.int .i64 xe) := Blk.cell hx5 1
            have hx5f1 : World.frozen? w5 ⟨g5, 1, none⟩ = false := Blk.free hx5 1
            clear h35 hx5 hcell
            have HBd : Aside0 (Below w.heap.size w (w5.drew.alloc (.cells #[.int .i64 xa, .int .i64 xe] 50))) := ⟨below_alloc (below_drew HB5.out) _⟩
            have HW : Aside0 (Whole (w5.drew.alloc (.cells #[.int .i64 xa, .int .i64 xe] 50)) w5.heap.size [(xa, xe)]) := ⟨Blk.new w5.drew _ _⟩
            have HNE : Aside0 ((Value.slice (some ⟨g, o, none⟩) l.length cc).ownBlock ≠ some w5.heap.size) := ⟨fun e => by have h1 := HO4.out.lt _ e; have h2 := HB5.out.size; omega⟩
            have HCR := Aside0.mk (replace_give (cu := 1) (HO4.out.below HBd.out) (Nat.le_trans HS.out.size HBd.out.size) HW.out HNE.out (by omega) l.length l.length ((l.length : Int)) ((l.length : Int)) (by omega) (by omega) (by omega) (by omega))
            rw [← HR2.out] at HCR
            go_wp2_with fail
            go_region_with (go_at_call 34; refine HCR.out.mono ?_; rintro e w9 hp; obtain ⟨A9, m9, c9, rfl, hblk, hend⟩ := put_back HS.out H3.out HO4.out H5.out HBd.out hp; have HEND := Aside0.mk hend; have hlt9 := Blk.lt hblk; have z1 := (Blk.cell hblk 1).trans rfl; have zf := Blk.free hblk 1; clear hp hend hblk)
            all_goals
              go_wp2_with fail
              go_ret
              exact HEND.out _
      · have HFB := Aside0.mk hf
        clear hf
        obtain ⟨q, hq⟩ : ∃ q, l[i] = q := ⟨_, rfl⟩
        obtain ⟨qa, qe⟩ := q
        have HQ := Aside0.mk hq
        clear hq
        have h00 : i ≤ 0 ∨ 0 < i := by omega
        rcases h00 with h0 | h0
        · skip
          by_cases hql : qa = x.2 <;> have HQL := Aside0.mk hql <;> clear hql
          · skip
            ((go_enter Try.func14, Try.ntmps14; go_wp2_with fail; refine HR.out.mono ?_; rintro e w1 ⟨rfl, hb⟩; have HB := Aside0.mk (below_step HB0.out hb); have h31 : Blk w1 b #[.int .i64 n, .slice A l.length cc] 48 := (HB.out.block _ hlt).trans H3.out; have hlt1 := h31.lt; have y1 := (h31.cell 1).trans rfl; have HX := Aside0.mk ((Blk.new w1 #[.int .i64 x.1, .int .i64 x.2] 50).alloc (.cells #[.func (.func 31) #[.agg #[.int .i64 x.1, .int .i64 x.2]] #[]] 56)); have HQ : Aside0 (Blk ((w1.alloc (.cells #[.int .i64 x.1, .int .i64 x.2] 50)).alloc (.cells #[.func (.func 31) #[.agg #[.int .i64 x.1, .int .i64 x.2]] #[]] 56)) (w1.heap.size + 1) #[.func (.func 31) #[.agg #[.int .i64 x.1, .int .i64 x.2]] #[]] 56) := ⟨(by simpa using Blk.new (w1.alloc (.cells #[.int .i64 x.1, .int .i64 x.2] 50)) #[.func (.func 31) #[.agg #[.int .i64 x.1, .int .i64 x.2]] #[]] 56)⟩; have HB1 := Aside0.mk (below_alloc (below_alloc HB.out (.cells #[.int .i64 x.1, .int .i64 x.2] 50)) (.cells #[.func (.func 31) #[.agg #[.int .i64 x.1, .int .i64 x.2]] #[]] 56)); clear hb HR h31; have HC := Aside0.mk (firstG_any (base := base) x (w1.heap.size + 1) _ (by omega) (H4.out.below HB1.out) (HQ.out.cell 0)); rw [HFX.out] at HC; go_wp2_with fail; refine HC.out.mono ?_; rintro e w2 ⟨rfl, hb⟩; have HB2 := Aside0.mk (below_step HB1.out hb)); have hx2 : Blk w2 w1.heap.size #[.int .i64 x.1, .int .i64 x.2] 50 := (hb.block _ HX.out.lt).trans HX.out; have hg5 : w.heap.size ≤ w1.heap.size := HB.out.size; have HX2 := Aside0.mk hx2; clear hx2 hb HC HX HQ HB1 HB y1 hlt1; generalize w1.heap.size = g5 at *; have h32 : Blk w2 b #[.int .i64 n, .slice A l.length cc] 48 := (HB2.out.block _ hlt).trans H3.out; have hlt2 := h32.lt; have y2 := (h32.cell 1).trans rfl; have hg52 := HX2.out.lt; clear h32; have HC2 := Aside0.mk (firstB_any (base := base) x g5 w2 (by omega) (H4.out.below HB2.out) (HX2.out.cell 1)); rw [HFB.out] at HC2; go_wp2_with fail; refine HC2.out.mono ?_; rintro e w3 ⟨rfl, hb⟩; have HB3 := Aside0.mk (below_step HB2.out hb); have HX3 : Aside0 (Blk w3 g5 #[.int .i64 x.1, .int .i64 x.2] 50) := ⟨(hb.block _ hg52).trans HX2.out⟩; clear hb HC2 HX2 HB2 hg52 hlt2 y2)
            have hql := HQL.out
            have HI : Aside0 (giveI l x = i) := ⟨by rw [giveI, HFB.out, if_neg (by omega), Int.toNat_natCast]⟩
            obtain ⟨xa, xe⟩ := x
            simp only at *
            have hgq1 : l.getD i (0, 0) = (qa, qe) := by rw [List.getD_eq_getElem?_getD, List.getElem?_eq_getElem hi, HQ.out]; rfl
            have hlm : leftM l (xa, xe) i = false := by rw [leftM, show decide (0 < i) = false from decide_eq_false (by omega)]; rfl
            have hrm : rightM l (xa, xe) i = true := by rw [rightM, hgq1, show decide (i < l.length) = true from decide_eq_true hi, show decide (qa = xe) = true from decide_eq_true hql]; rfl
            have HR2 : Aside0 (r = l.take i ++ [(xa, qe)] ++ l.drop (i + 1)) := ⟨by rw [← HMR.out, HI.out, mergeL]; simp only [hlm, hrm, hgq1, if_true, if_false, Bool.false_eq_true]⟩
            clear hlm hrm hgq1 HMR HI
            have d0 : decide ((0 : Int) < (i : Int)) = false := decide_eq_false (by omega)
            have d0n : decide (0 < i) = false := decide_eq_false (by omega)
            have d1 : decide ((i : Int) < (l.length : Int)) = true := decide_eq_true (by omega)
            have hw2 : IntKind.i64.wrap ((i : Int) + 1) = (i : Int) + 1 := IntWalk.i64_in _ (by omega)
            have de2 : (qa == xe) = true := beq_iff_eq.2 hql
            clear hql
            obtain ⟨A', c', he, -, -, hcell⟩ := H4.out.below HB3.out
            cases he
            obtain ⟨g, o, rfl, hg, f0, f1⟩ := hcell i hi
            rw [HQ.out] at f0 f1
            simp only at f0 f1
            have h33 : Blk w3 b #[.int .i64 n, .slice (some ⟨g, o, none⟩) l.length cc] 48 := (HB3.out.block _ hlt).trans H3.out
            have hlt3 := h33.lt
            have y3 := (h33.cell 1).trans rfl
            have hx3 := HX3.out
            have hg53 := hx3.lt
            have hx30 : World.cell? w3 ⟨g5, 0, none⟩ = some (.int .i64 xa) := Blk.cell hx3 0
            have hx3f0 : World.frozen? w3 ⟨g5, 0, none⟩ = false := Blk.free hx3 0
            have hx31 : World.cell? w3 ⟨g5, 1, none⟩ = some (.int .i64 xe) := Blk.cell hx3 1
            have hx3f1 : World.frozen? w3 ⟨g5, 1, none⟩ = false := Blk.free hx3 1
            clear h33 hx3 hcell
            go_wp2_with fail
            go_quiet (fail)
            have HB4 : Aside0 (Below w.heap.size w (w3.drewN nq)) := ⟨pw_below_drewN HB3.out nq⟩
            have HX4 : Aside0 (Blk (w3.drewN nq) g5 #[.int .i64 xa, .int .i64 xe] 50) := ⟨HX3.out⟩
            clear y3 hlt3 hg53 hx30 hx31 hx3f0 hx3f1 hg f0 f1
            clear HB3 HX3
            generalize w3.drewN nq = w4 at *
            obtain ⟨A', c', he, -, -, hcell⟩ := H4.out.below HB4.out
            cases he
            obtain ⟨g', o', he2, hg, f0, f1⟩ := hcell i hi
            obtain ⟨rfl, rfl⟩ : g = g' ∧ o = o' := by simpa using he2
            rw [HQ.out] at f0 f1
            simp only at f0 f1
            clear he2
            have h34 : Blk w4 b #[.int .i64 n, .slice (some ⟨g, o, none⟩) l.length cc] 48 := (HB4.out.block _ hlt).trans H3.out
            have hlt4 := h34.lt
            have y4 := (h34.cell 1).trans rfl
            have hx4 := HX4.out
            have hg54 := hx4.lt
            have hx40 : World.cell? w4 ⟨g5, 0, none⟩ = some (.int .i64 xa) := Blk.cell hx4 0
            have hx4f0 : World.frozen? w4 ⟨g5, 0, none⟩ = false := Blk.free hx4 0
            have hx41 : World.cell? w4 ⟨g5, 1, none⟩ = some (.int .i64 xe) := Blk.cell hx4 1
            have hx4f1 : World.frozen? w4 ⟨g5, 1, none⟩ = false := Blk.free hx4 1
            clear h34 hx4 hcell
            go_wp2_with fail
            go_quiet (fail)
            have HB5 : Aside0 (Below w.heap.size w (w4.drewN nq)) := ⟨pw_below_drewN HB4.out nq⟩
            have HX5 : Aside0 (Blk (w4.drewN nq) g5 #[.int .i64 xa, .int .i64 xe] 50) := ⟨HX4.out⟩
            clear y4 hlt4 hg54 hx40 hx41 hx4f0 hx4f1 hg f0 f1
            clear HB4 HX4
            generalize w4.drewN nq = w5 at *
            obtain ⟨A', c', he, -, -, hcell⟩ := H4.out.below HB5.out
            cases he
            obtain ⟨g', o', he2, hg, f0, f1⟩ := hcell i hi
            obtain ⟨rfl, rfl⟩ : g = g' ∧ o = o' := by simpa using he2
            rw [HQ.out] at f0 f1
            simp only at f0 f1
            clear he2
            have h35 : Blk w5 b #[.int .i64 n, .slice (some ⟨g, o, none⟩) l.length cc] 48 := (HB5.out.block _ hlt).trans H3.out
            have hlt5 := h35.lt
            have y5 := (h35.cell 1).trans rfl
            have hx5 := HX5.out
            have hg55 := hx5.lt
            have hx50 : World.cell? w5 ⟨g5, 0, none⟩ = some (.int .i64 xa) := Blk.cell hx5 0
            have hx5f0 : World.frozen? w5 ⟨g5, 0, none⟩ = false := Blk.free hx5 0
            have hx51 : World.cell? w5 ⟨g5, 1, none⟩ = some (.int .i64 xe) := Blk.cell hx5 1
            have hx5f1 : World.frozen? w5 ⟨g5, 1, none⟩ = false := Blk.free hx5 1
            clear h35 hx5 hcell
            go_wp2_with fail
            go_region
            have HB6 : Aside0 (Below w.heap.size w ((w5.setCell ⟨g5, 1, none⟩ (.int .i64 qe)).drew)) := ⟨below_drew (HB5.out.setCell hg5 _)⟩
            have HX6 : Aside0 (Blk ((w5.setCell ⟨g5, 1, none⟩ (.int .i64 qe)).drew) g5 #[.int .i64 xa, .int .i64 qe] 50) := ⟨(HX5.out.set 1 (.int .i64 qe))⟩
            clear y5 hlt5 hg55 hx50 hx51 hx5f0 hx5f1 hg f0 f1
            clear HB5 HX5
            generalize (w5.setCell ⟨g5, 1, none⟩ (.int .i64 qe)).drew = w6 at *
            obtain ⟨A', c', he, -, -, hcell⟩ := H4.out.below HB6.out
            cases he
            obtain ⟨g', o', he2, hg, f0, f1⟩ := hcell i hi
            obtain ⟨rfl, rfl⟩ : g = g' ∧ o = o' := by simpa using he2
            rw [HQ.out] at f0 f1
            simp only at f0 f1
            clear he2
            have h36 : Blk w6 b #[.int .i64 n, .slice (some ⟨g, o, none⟩) l.length cc] 48 := (HB6.out.block _ hlt).trans H3.out
            have hlt6 := h36.lt
            have y6 := (h36.cell 1).trans rfl
            have hx6 := HX6.out
            have hg56 := hx6.lt
            have hx60 : World.cell? w6 ⟨g5, 0, none⟩ = some (.int .i64 xa) := Blk.cell hx6 0
            have hx6f0 : World.frozen? w6 ⟨g5, 0, none⟩ = false := Blk.free hx6 0
            have hx61 : World.cell? w6 ⟨g5, 1, none⟩ = some (.int .i64 qe) := Blk.cell hx6 1
            have hx6f1 : World.frozen? w6 ⟨g5, 1, none⟩ = false := Blk.free hx6 1
            clear h36 hx6 hcell
            have HBd : Aside0 (Below w.heap.size w (w6.drew.alloc (.cells #[.int .i64 xa, .int .i64 qe] 50))) := ⟨below_alloc (below_drew HB6.out) _⟩
            have HW : Aside0 (Whole (w6.drew.alloc (.cells #[.int .i64 xa, .int .i64 qe] 50)) w6.heap.size [(xa, qe)]) := ⟨Blk.new w6.drew _ _⟩
            have HNE : Aside0 ((Value.slice (some ⟨g, o, none⟩) l.length cc).ownBlock ≠ some w6.heap.size) := ⟨fun e => by have h1 := HO4.out.lt _ e; have h2 := HB6.out.size; omega⟩
            have HCR := Aside0.mk (replace_give (cu := 1) (HO4.out.below HBd.out) (Nat.le_trans HS.out.size HBd.out.size) HW.out HNE.out (by omega) i (i + 1) ((i : Int)) ((i : Int) + 1) (by omega) (by omega) (by omega) (by omega))
            rw [← HR2.out] at HCR
            go_wp2_with fail
            go_region_with (go_at_call 34; refine HCR.out.mono ?_; rintro e w9 hp; obtain ⟨A9, m9, c9, rfl, hblk, hend⟩ := put_back HS.out H3.out HO4.out H5.out HBd.out hp; have HEND := Aside0.mk hend; have hlt9 := Blk.lt hblk; have z1 := (Blk.cell hblk 1).trans rfl; have zf := Blk.free hblk 1; clear hp hend hblk)
            all_goals
              go_wp2_with fail
              go_ret
              exact HEND.out _
          · skip
            ((go_enter Try.func14, Try.ntmps14; go_wp2_with fail; refine HR.out.mono ?_; rintro e w1 ⟨rfl, hb⟩; have HB := Aside0.mk (below_step HB0.out hb); have h31 : Blk w1 b #[.int .i64 n, .slice A l.length cc] 48 := (HB.out.block _ hlt).trans H3.out; have hlt1 := h31.lt; have y1 := (h31.cell 1).trans rfl; have HX := Aside0.mk ((Blk.new w1 #[.int .i64 x.1, .int .i64 x.2] 50).alloc (.cells #[.func (.func 31) #[.agg #[.int .i64 x.1, .int .i64 x.2]] #[]] 56)); have HQ : Aside0 (Blk ((w1.alloc (.cells #[.int .i64 x.1, .int .i64 x.2] 50)).alloc (.cells #[.func (.func 31) #[.agg #[.int .i64 x.1, .int .i64 x.2]] #[]] 56)) (w1.heap.size + 1) #[.func (.func 31) #[.agg #[.int .i64 x.1, .int .i64 x.2]] #[]] 56) := ⟨(by simpa using Blk.new (w1.alloc (.cells #[.int .i64 x.1, .int .i64 x.2] 50)) #[.func (.func 31) #[.agg #[.int .i64 x.1, .int .i64 x.2]] #[]] 56)⟩; have HB1 := Aside0.mk (below_alloc (below_alloc HB.out (.cells #[.int .i64 x.1, .int .i64 x.2] 50)) (.cells #[.func (.func 31) #[.agg #[.int .i64 x.1, .int .i64 x.2]] #[]] 56)); clear hb HR h31; have HC := Aside0.mk (firstG_any (base := base) x (w1.heap.size + 1) _ (by omega) (H4.out.below HB1.out) (HQ.out.cell 0)); rw [HFX.out] at HC; go_wp2_with fail; refine HC.out.mono ?_; rintro e w2 ⟨rfl, hb⟩; have HB2 := Aside0.mk (below_step HB1.out hb)); have hx2 : Blk w2 w1.heap.size #[.int .i64 x.1, .int .i64 x.2] 50 := (hb.block _ HX.out.lt).trans HX.out; have hg5 : w.heap.size ≤ w1.heap.size := HB.out.size; have HX2 := Aside0.mk hx2; clear hx2 hb HC HX HQ HB1 HB y1 hlt1; generalize w1.heap.size = g5 at *; have h32 : Blk w2 b #[.int .i64 n, .slice A l.length cc] 48 := (HB2.out.block _ hlt).trans H3.out; have hlt2 := h32.lt; have y2 := (h32.cell 1).trans rfl; have hg52 := HX2.out.lt; clear h32; have HC2 := Aside0.mk (firstB_any (base := base) x g5 w2 (by omega) (H4.out.below HB2.out) (HX2.out.cell 1)); rw [HFB.out] at HC2; go_wp2_with fail; refine HC2.out.mono ?_; rintro e w3 ⟨rfl, hb⟩; have HB3 := Aside0.mk (below_step HB2.out hb); have HX3 : Aside0 (Blk w3 g5 #[.int .i64 x.1, .int .i64 x.2] 50) := ⟨(hb.block _ hg52).trans HX2.out⟩; clear hb HC2 HX2 HB2 hg52 hlt2 y2)
            have hql := HQL.out
            have HI : Aside0 (giveI l x = i) := ⟨by rw [giveI, HFB.out, if_neg (by omega), Int.toNat_natCast]⟩
            obtain ⟨xa, xe⟩ := x
            simp only at *
            have hgq1 : l.getD i (0, 0) = (qa, qe) := by rw [List.getD_eq_getElem?_getD, List.getElem?_eq_getElem hi, HQ.out]; rfl
            have hlm : leftM l (xa, xe) i = false := by rw [leftM, show decide (0 < i) = false from decide_eq_false (by omega)]; rfl
            have hrm : rightM l (xa, xe) i = false := by rw [rightM, hgq1, show decide (qa = xe) = false from decide_eq_false hql, Bool.and_false]
            have HR2 : Aside0 (r = l.take i ++ [(xa, xe)] ++ l.drop i) := ⟨by rw [← HMR.out, HI.out, mergeL]; simp only [hlm, hrm, if_true, if_false, Bool.false_eq_true]⟩
            clear hlm hrm hgq1 HMR HI
            have d0 : decide ((0 : Int) < (i : Int)) = false := decide_eq_false (by omega)
            have d0n : decide (0 < i) = false := decide_eq_false (by omega)
            have d1 : decide ((i : Int) < (l.length : Int)) = true := decide_eq_true (by omega)
            have hw2 : IntKind.i64.wrap ((i : Int) + 1) = (i : Int) + 1 := IntWalk.i64_in _ (by omega)
            have de2 : (qa == xe) = false := beq_eq_false_iff_ne.2 hql
            clear hql
            obtain ⟨A', c', he, -, -, hcell⟩ := H4.out.below HB3.out
            cases he
            obtain ⟨g, o, rfl, hg, f0, f1⟩ := hcell i hi
            rw [HQ.out] at f0 f1
            simp only at f0 f1
            have h33 : Blk w3 b #[.int .i64 n, .slice (some ⟨g, o, none⟩) l.length cc] 48 := (HB3.out.block _ hlt).trans H3.out
            have hlt3 := h33.lt
            have y3 := (h33.cell 1).trans rfl
            have hx3 := HX3.out
            have hg53 := hx3.lt
            have hx30 : World.cell? w3 ⟨g5, 0, none⟩ = some (.int .i64 xa) := Blk.cell hx3 0
            have hx3f0 : World.frozen? w3 ⟨g5, 0, none⟩ = false := Blk.free hx3 0
            have hx31 : World.cell? w3 ⟨g5, 1, none⟩ = some (.int .i64 xe) := Blk.cell hx3 1
            have hx3f1 : World.frozen? w3 ⟨g5, 1, none⟩ = false := Blk.free hx3 1
            clear h33 hx3 hcell
            go_wp2_with fail
            go_quiet (fail)
            have HB4 : Aside0 (Below w.heap.size w (w3.drewN nq)) := ⟨pw_below_drewN HB3.out nq⟩
            have HX4 : Aside0 (Blk (w3.drewN nq) g5 #[.int .i64 xa, .int .i64 xe] 50) := ⟨HX3.out⟩
            clear y3 hlt3 hg53 hx30 hx31 hx3f0 hx3f1 hg f0 f1
            clear HB3 HX3
            generalize w3.drewN nq = w4 at *
            obtain ⟨A', c', he, -, -, hcell⟩ := H4.out.below HB4.out
            cases he
            obtain ⟨g', o', he2, hg, f0, f1⟩ := hcell i hi
            obtain ⟨rfl, rfl⟩ : g = g' ∧ o = o' := by simpa using he2
            rw [HQ.out] at f0 f1
            simp only at f0 f1
            clear he2
            have h34 : Blk w4 b #[.int .i64 n, .slice (some ⟨g, o, none⟩) l.length cc] 48 := (HB4.out.block _ hlt).trans H3.out
            have hlt4 := h34.lt
            have y4 := (h34.cell 1).trans rfl
            have hx4 := HX4.out
            have hg54 := hx4.lt
            have hx40 : World.cell? w4 ⟨g5, 0, none⟩ = some (.int .i64 xa) := Blk.cell hx4 0
            have hx4f0 : World.frozen? w4 ⟨g5, 0, none⟩ = false := Blk.free hx4 0
            have hx41 : World.cell? w4 ⟨g5, 1, none⟩ = some (.int .i64 xe) := Blk.cell hx4 1
            have hx4f1 : World.frozen? w4 ⟨g5, 1, none⟩ = false := Blk.free hx4 1
            clear h34 hx4 hcell
            go_wp2_with fail
            go_quiet (fail)
            have HB5 : Aside0 (Below w.heap.size w (w4.drewN nq)) := ⟨pw_below_drewN HB4.out nq⟩
            have HX5 : Aside0 (Blk (w4.drewN nq) g5 #[.int .i64 xa, .int .i64 xe] 50) := ⟨HX4.out⟩
            clear y4 hlt4 hg54 hx40 hx41 hx4f0 hx4f1 hg f0 f1
            clear HB4 HX4
            generalize w4.drewN nq = w5 at *
            obtain ⟨A', c', he, -, -, hcell⟩ := H4.out.below HB5.out
            cases he
            obtain ⟨g', o', he2, hg, f0, f1⟩ := hcell i hi
            obtain ⟨rfl, rfl⟩ : g = g' ∧ o = o' := by simpa using he2
            rw [HQ.out] at f0 f1
            simp only at f0 f1
            clear he2
            have h35 : Blk w5 b #[.int .i64 n, .slice (some ⟨g, o, none⟩) l.length cc] 48 := (HB5.out.block _ hlt).trans H3.out
            have hlt5 := h35.lt
            have y5 := (h35.cell 1).trans rfl
            have hx5 := HX5.out
            have hg55 := hx5.lt
            have hx50 : World.cell? w5 ⟨g5, 0, none⟩ = some (.int .i64 xa) := Blk.cell hx5 0
            have hx5f0 : World.frozen? w5 ⟨g5, 0, none⟩ = false := Blk.free hx5 0
            have hx51 : World.cell? w5 ⟨g5, 1, none⟩ = some (.int .i64 xe) := Blk.cell hx5 1
            have hx5f1 : World.frozen? w5 ⟨g5, 1, none⟩ = false := Blk.free hx5 1
            clear h35 hx5 hcell
            have HBd : Aside0 (Below w.heap.size w (w5.drew.alloc (.cells #[.int .i64 xa, .int .i64 xe] 50))) := ⟨below_alloc (below_drew HB5.out) _⟩
            have HW : Aside0 (Whole (w5.drew.alloc (.cells #[.int .i64 xa, .int .i64 xe] 50)) w5.heap.size [(xa, xe)]) := ⟨Blk.new w5.drew _ _⟩
            have HNE : Aside0 ((Value.slice (some ⟨g, o, none⟩) l.length cc).ownBlock ≠ some w5.heap.size) := ⟨fun e => by have h1 := HO4.out.lt _ e; have h2 := HB5.out.size; omega⟩
            have HCR := Aside0.mk (replace_give (cu := 1) (HO4.out.below HBd.out) (Nat.le_trans HS.out.size HBd.out.size) HW.out HNE.out (by omega) i i ((i : Int)) ((i : Int)) (by omega) (by omega) (by omega) (by omega))
            rw [← HR2.out] at HCR
            go_wp2_with fail
            go_region_with (go_at_call 34; refine HCR.out.mono ?_; rintro e w9 hp; obtain ⟨A9, m9, c9, rfl, hblk, hend⟩ := put_back HS.out H3.out HO4.out H5.out HBd.out hp; have HEND := Aside0.mk hend; have hlt9 := Blk.lt hblk; have z1 := (Blk.cell hblk 1).trans rfl; have zf := Blk.free hblk 1; clear hp hend hblk)
            all_goals
              go_wp2_with fail
              go_ret
              exact HEND.out _
        · skip
          obtain ⟨p, hp⟩ : ∃ p, l[i - 1]'(by omega) = p := ⟨_, rfl⟩
          obtain ⟨pa, pe⟩ := p
          have HP := Aside0.mk hp
          clear hp
          by_cases hpl : pe = x.1 <;> have HPL := Aside0.mk hpl <;> clear hpl
          · skip
            by_cases hql : qa = x.2 <;> have HQL := Aside0.mk hql <;> clear hql
            · skip
              ((go_enter Try.func14, Try.ntmps14; go_wp2_with fail; refine HR.out.mono ?_; rintro e w1 ⟨rfl, hb⟩; have HB := Aside0.mk (below_step HB0.out hb); have h31 : Blk w1 b #[.int .i64 n, .slice A l.length cc] 48 := (HB.out.block _ hlt).trans H3.out; have hlt1 := h31.lt; have y1 := (h31.cell 1).trans rfl; have HX := Aside0.mk ((Blk.new w1 #[.int .i64 x.1, .int .i64 x.2] 50).alloc (.cells #[.func (.func 31) #[.agg #[.int .i64 x.1, .int .i64 x.2]] #[]] 56)); have HQ : Aside0 (Blk ((w1.alloc (.cells #[.int .i64 x.1, .int .i64 x.2] 50)).alloc (.cells #[.func (.func 31) #[.agg #[.int .i64 x.1, .int .i64 x.2]] #[]] 56)) (w1.heap.size + 1) #[.func (.func 31) #[.agg #[.int .i64 x.1, .int .i64 x.2]] #[]] 56) := ⟨(by simpa using Blk.new (w1.alloc (.cells #[.int .i64 x.1, .int .i64 x.2] 50)) #[.func (.func 31) #[.agg #[.int .i64 x.1, .int .i64 x.2]] #[]] 56)⟩; have HB1 := Aside0.mk (below_alloc (below_alloc HB.out (.cells #[.int .i64 x.1, .int .i64 x.2] 50)) (.cells #[.func (.func 31) #[.agg #[.int .i64 x.1, .int .i64 x.2]] #[]] 56)); clear hb HR h31; have HC := Aside0.mk (firstG_any (base := base) x (w1.heap.size + 1) _ (by omega) (H4.out.below HB1.out) (HQ.out.cell 0)); rw [HFX.out] at HC; go_wp2_with fail; refine HC.out.mono ?_; rintro e w2 ⟨rfl, hb⟩; have HB2 := Aside0.mk (below_step HB1.out hb)); have hx2 : Blk w2 w1.heap.size #[.int .i64 x.1, .int .i64 x.2] 50 := (hb.block _ HX.out.lt).trans HX.out; have hg5 : w.heap.size ≤ w1.heap.size := HB.out.size; have HX2 := Aside0.mk hx2; clear hx2 hb HC HX HQ HB1 HB y1 hlt1; generalize w1.heap.size = g5 at *; have h32 : Blk w2 b #[.int .i64 n, .slice A l.length cc] 48 := (HB2.out.block _ hlt).trans H3.out; have hlt2 := h32.lt; have y2 := (h32.cell 1).trans rfl; have hg52 := HX2.out.lt; clear h32; have HC2 := Aside0.mk (firstB_any (base := base) x g5 w2 (by omega) (H4.out.below HB2.out) (HX2.out.cell 1)); rw [HFB.out] at HC2; go_wp2_with fail; refine HC2.out.mono ?_; rintro e w3 ⟨rfl, hb⟩; have HB3 := Aside0.mk (below_step HB2.out hb); have HX3 : Aside0 (Blk w3 g5 #[.int .i64 x.1, .int .i64 x.2] 50) := ⟨(hb.block _ hg52).trans HX2.out⟩; clear hb HC2 HX2 HB2 hg52 hlt2 y2)
              have hql := HQL.out
              have hpl := HPL.out
              have HI : Aside0 (giveI l x = i) := ⟨by rw [giveI, HFB.out, if_neg (by omega), Int.toNat_natCast]⟩
              obtain ⟨xa, xe⟩ := x
              simp only at *
              have hgp1 : l.getD (i - 1) (0, 0) = (pa, pe) := by rw [List.getD_eq_getElem?_getD, List.getElem?_eq_getElem (show i - 1 < l.length by omega), HP.out]; rfl
              have hgq1 : l.getD i (0, 0) = (qa, qe) := by rw [List.getD_eq_getElem?_getD, List.getElem?_eq_getElem hi, HQ.out]; rfl
              have hlm : leftM l (xa, xe) i = true := by rw [leftM, hgp1, show decide (0 < i) = true from decide_eq_true h0, show decide (pe = xa) = true from decide_eq_true hpl]; rfl
              have hrm : rightM l (xa, xe) i = true := by rw [rightM, hgq1, show decide (i < l.length) = true from decide_eq_true hi, show decide (qa = xe) = true from decide_eq_true hql]; rfl
              have HR2 : Aside0 (r = l.take (i - 1) ++ [(pa, qe)] ++ l.drop (i + 1)) := ⟨by rw [← HMR.out, HI.out, mergeL]; simp only [hlm, hrm, hgp1, hgq1, if_true, if_false, Bool.false_eq_true]⟩
              clear hlm hrm hgp1 hgq1 HMR HI
              have d0n : decide (0 < i) = true := decide_eq_true (by omega)
              have d0 : decide ((0 : Int) < (i : Int)) = true := decide_eq_true (by omega)
              have hw1 : IntKind.i64.wrap ((i : Int) - 1) = (i : Int) - 1 := IntWalk.i64_in _ (by omega)
              have ht1 : ((i : Int) - 1).toNat = i - 1 := by omega
              have hb1 : (0 : Int) ≤ (i : Int) - 1 := by omega
              have hb2 : (i : Int) - 1 < (l.length : Int) := by omega
              have de1 : (pe == xa) = true := beq_iff_eq.2 hpl
              have d1 : decide ((i : Int) < (l.length : Int)) = true := decide_eq_true (by omega)
              have hw2 : IntKind.i64.wrap ((i : Int) + 1) = (i : Int) + 1 := IntWalk.i64_in _ (by omega)
              have de2 : (qa == xe) = true := beq_iff_eq.2 hql
              clear hpl
              clear hql
              obtain ⟨A', c', he, -, -, hcell⟩ := H4.out.below HB3.out
              cases he
              obtain ⟨g, o, rfl, hg, f0, f1⟩ := hcell i hi
              rw [HQ.out] at f0 f1
              simp only at f0 f1
              obtain ⟨g', o', he2, hgp, p0, p1⟩ := hcell (i - 1) (by omega)
              obtain ⟨rfl, rfl⟩ : g = g' ∧ o = o' := by simpa using he2
              rw [HP.out] at p0 p1
              simp only at p0 p1
              clear he2
              have h33 : Blk w3 b #[.int .i64 n, .slice (some ⟨g, o, none⟩) l.length cc] 48 := (HB3.out.block _ hlt).trans H3.out
              have hlt3 := h33.lt
              have y3 := (h33.cell 1).trans rfl
              have hx3 := HX3.out
              have hg53 := hx3.lt
              have hx30 : World.cell? w3 ⟨g5, 0, none⟩ = some (.int .i64 xa) := Blk.cell hx3 0
              have hx3f0 : World.frozen? w3 ⟨g5, 0, none⟩ = false := Blk.free hx3 0
              have hx31 : World.cell? w3 ⟨g5, 1, none⟩ = some (.int .i64 xe) := Blk.cell hx3 1
              have hx3f1 : World.frozen? w3 ⟨g5, 1, none⟩ = false := Blk.free hx3 1
              clear h33 hx3 hcell
              go_wp2_with fail
              go_quiet (fail)
              have HB4 : Aside0 (Below w.heap.size w (w3.drewN nq)) := ⟨pw_below_drewN HB3.out nq⟩
              have HX4 : Aside0 (Blk (w3.drewN nq) g5 #[.int .i64 xa, .int .i64 xe] 50) := ⟨HX3.out⟩
              clear y3 hlt3 hg53 hx30 hx31 hx3f0 hx3f1 hg f0 f1 hgp p0 p1
              clear HB3 HX3
              generalize w3.drewN nq = w4 at *
              obtain ⟨A', c', he, -, -, hcell⟩ := H4.out.below HB4.out
              cases he
              obtain ⟨g', o', he2, hg, f0, f1⟩ := hcell i hi
              obtain ⟨rfl, rfl⟩ : g = g' ∧ o = o' := by simpa using he2
              rw [HQ.out] at f0 f1
              simp only at f0 f1
              clear he2
              obtain ⟨g', o', he2, hgp, p0, p1⟩ := hcell (i - 1) (by omega)
              obtain ⟨rfl, rfl⟩ : g = g' ∧ o = o' := by simpa using he2
              rw [HP.out] at p0 p1
              simp only at p0 p1
              clear he2
              have h34 : Blk w4 b #[.int .i64 n, .slice (some ⟨g, o, none⟩) l.length cc] 48 := (HB4.out.block _ hlt).trans H3.out
              have hlt4 := h34.lt
              have y4 := (h34.cell 1).trans rfl
              have hx4 := HX4.out
              have hg54 := hx4.lt
              have hx40 : World.cell? w4 ⟨g5, 0, none⟩ = some (.int .i64 xa) := Blk.cell hx4 0
              have hx4f0 : World.frozen? w4 ⟨g5, 0, none⟩ = false := Blk.free hx4 0
              have hx41 : World.cell? w4 ⟨g5, 1, none⟩ = some (.int .i64 xe) := Blk.cell hx4 1
              have hx4f1 : World.frozen? w4 ⟨g5, 1, none⟩ = false := Blk.free hx4 1
              clear h34 hx4 hcell
              go_wp2_with fail
              go_region
              have HB5 : Aside0 (Below w.heap.size w ((w4.setCell ⟨g5, 0, none⟩ (.int .i64 pa)).drew)) := ⟨below_drew (HB4.out.setCell hg5 _)⟩
              have HX5 : Aside0 (Blk ((w4.setCell ⟨g5, 0, none⟩ (.int .i64 pa)).drew) g5 #[.int .i64 pa, .int .i64 xe] 50) := ⟨(HX4.out.set 0 (.int .i64 pa))⟩
              clear y4 hlt4 hg54 hx40 hx41 hx4f0 hx4f1 hg f0 f1 hgp p0 p1
              clear HB4 HX4
              generalize (w4.setCell ⟨g5, 0, none⟩ (.int .i64 pa)).drew = w5 at *
              obtain ⟨A', c', he, -, -, hcell⟩ := H4.out.below HB5.out
              cases he
              obtain ⟨g', o', he2, hg, f0, f1⟩ := hcell i hi
              obtain ⟨rfl, rfl⟩ : g = g' ∧ o = o' := by simpa using he2
              rw [HQ.out] at f0 f1
              simp only at f0 f1
              clear he2
              obtain ⟨g', o', he2, hgp, p0, p1⟩ := hcell (i - 1) (by omega)
              obtain ⟨rfl, rfl⟩ : g = g' ∧ o = o' := by simpa using he2
              rw [HP.out] at p0 p1
              simp only at p0 p1
              clear he2
              have h35 : Blk w5 b #[.int .i64 n, .slice (some ⟨g, o, none⟩) l.length cc] 48 := (HB5.out.block _ hlt).trans H3.out
              have hlt5 := h35.lt
              have y5 := (h35.cell 1).trans rfl
              have hx5 := HX5.out
              have hg55 := hx5.lt
              have hx50 : World.cell? w5 ⟨g5, 0, none⟩ = some (.int .i64 pa) := Blk.cell hx5 0
              have hx5f0 : World.frozen? w5 ⟨g5, 0, none⟩ = false := Blk.free hx5 0
              have hx51 : World.cell? w5 ⟨g5, 1, none⟩ = some (.int .i64 xe) := Blk.cell hx5 1
              have hx5f1 : World.frozen? w5 ⟨g5, 1, none⟩ = false := Blk.free hx5 1
              clear h35 hx5 hcell
              go_wp2_with fail
              go_quiet (fail)
              have HB6 : Aside0 (Below w.heap.size w (w5.drewN nq)) := ⟨pw_below_drewN HB5.out nq⟩
              have HX6 : Aside0 (Blk (w5.drewN nq) g5 #[.int .i64 pa, .int .i64 xe] 50) := ⟨HX5.out⟩
              clear y5 hlt5 hg55 hx50 hx51 hx5f0 hx5f1 hg f0 f1 hgp p0 p1
              clear HB5 HX5
              generalize w5.drewN nq = w6 at *
              obtain ⟨A', c', he, -, -, hcell⟩ := H4.out.below HB6.out
              cases he
              obtain ⟨g', o', he2, hg, f0, f1⟩ := hcell i hi
              obtain ⟨rfl, rfl⟩ : g = g' ∧ o = o' := by simpa using he2
              rw [HQ.out] at f0 f1
              simp only at f0 f1
              clear he2
              obtain ⟨g', o', he2, hgp, p0, p1⟩ := hcell (i - 1) (by omega)
              obtain ⟨rfl, rfl⟩ : g = g' ∧ o = o' := by simpa using he2
              rw [HP.out] at p0 p1
              simp only at p0 p1
              clear he2
              have h36 : Blk w6 b #[.int .i64 n, .slice (some ⟨g, o, none⟩) l.length cc] 48 := (HB6.out.block _ hlt).trans H3.out
              have hlt6 := h36.lt
              have y6 := (h36.cell 1).trans rfl
              have hx6 := HX6.out
              have hg56 := hx6.lt
              have hx60 : World.cell? w6 ⟨g5, 0, none⟩ = some (.int .i64 pa) := Blk.cell hx6 0
              have hx6f0 : World.frozen? w6 ⟨g5, 0, none⟩ = false := Blk.free hx6 0
              have hx61 : World.cell? w6 ⟨g5, 1, none⟩ = some (.int .i64 xe) := Blk.cell hx6 1
              have hx6f1 : World.frozen? w6 ⟨g5, 1, none⟩ = false := Blk.free hx6 1
              clear h36 hx6 hcell
              go_wp2_with fail
              go_region
              have HB7 : Aside0 (Below w.heap.size w ((w6.setCell ⟨g5, 1, none⟩ (.int .i64 qe)).drew)) := ⟨below_drew (HB6.out.setCell hg5 _)⟩
              have HX7 : Aside0 (Blk ((w6.setCell ⟨g5, 1, none⟩ (.int .i64 qe)).drew) g5 #[.int .i64 pa, .int .i64 qe] 50) := ⟨(HX6.out.set 1 (.int .i64 qe))⟩
              clear y6 hlt6 hg56 hx60 hx61 hx6f0 hx6f1 hg f0 f1 hgp p0 p1
              clear HB6 HX6
              generalize (w6.setCell ⟨g5, 1, none⟩ (.int .i64 qe)).drew = w7 at *
              obtain ⟨A', c', he, -, -, hcell⟩ := H4.out.below HB7.out
              cases he
              obtain ⟨g', o', he2, hg, f0, f1⟩ := hcell i hi
              obtain ⟨rfl, rfl⟩ : g = g' ∧ o = o' := by simpa using he2
              rw [HQ.out] at f0 f1
              simp only at f0 f1
              clear he2
              obtain ⟨g', o', he2, hgp, p0, p1⟩ := hcell (i - 1) (by omega)
              obtain ⟨rfl, rfl⟩ : g = g' ∧ o = o' := by simpa using he2
              rw [HP.out] at p0 p1
              simp only at p0 p1
              clear he2
              have h37 : Blk w7 b #[.int .i64 n, .slice (some ⟨g, o, none⟩) l.length cc] 48 := (HB7.out.block _ hlt).trans H3.out
              have hlt7 := h37.lt
              have y7 := (h37.cell 1).trans rfl
              have hx7 := HX7.out
              have hg57 := hx7.lt
              have hx70 : World.cell? w7 ⟨g5, 0, none⟩ = some (.int .i64 pa) := Blk.cell hx7 0
              have hx7f0 : World.frozen? w7 ⟨g5, 0, none⟩ = false := Blk.free hx7 0
              have hx71 : World.cell? w7 ⟨g5, 1, none⟩ = some (.int .i64 qe) := Blk.cell hx7 1
              have hx7f1 : World.frozen? w7 ⟨g5, 1, none⟩ = false := Blk.free hx7 1
              clear h37 hx7 hcell
              have HBd : Aside0 (Below w.heap.size w (w7.drew.alloc (.cells #[.int .i64 pa, .int .i64 qe] 50))) := ⟨below_alloc (below_drew HB7.out) _⟩
              have HW : Aside0 (Whole (w7.drew.alloc (.cells #[.int .i64 pa, .int .i64 qe] 50)) w7.heap.size [(pa, qe)]) := ⟨Blk.new w7.drew _ _⟩
              have HNE : Aside0 ((Value.slice (some ⟨g, o, none⟩) l.length cc).ownBlock ≠ some w7.heap.size) := ⟨fun e => by have h1 := HO4.out.lt _ e; have h2 := HB7.out.size; omega⟩
              have HCR := Aside0.mk (replace_give (cu := 1) (HO4.out.below HBd.out) (Nat.le_trans HS.out.size HBd.out.size) HW.out HNE.out (by omega) (i - 1) (i + 1) ((i : Int) - 1) ((i : Int) + 1) (by omega) (by omega) (by omega) (by omega))
              rw [← HR2.out] at HCR
              go_wp2_with fail
              go_region_with (go_at_call 34; refine HCR.out.mono ?_; rintro e w9 hp; obtain ⟨A9, m9, c9, rfl, hblk, hend⟩ := put_back HS.out H3.out HO4.out H5.out HBd.out hp; have HEND := Aside0.mk hend; have hlt9 := Blk.lt hblk; have z1 := (Blk.cell hblk 1).trans rfl; have zf := Blk.free hblk 1; clear hp hend hblk)
              all_goals
                go_wp2_with fail
                go_ret
                exact HEND.out _
            · skip
              ((go_enter Try.func14, Try.ntmps14; go_wp2_with fail; refine HR.out.mono ?_; rintro e w1 ⟨rfl, hb⟩; have HB := Aside0.mk (below_step HB0.out hb); have h31 : Blk w1 b #[.int .i64 n, .slice A l.length cc] 48 := (HB.out.block _ hlt).trans H3.out; have hlt1 := h31.lt; have y1 := (h31.cell 1).trans rfl; have HX := Aside0.mk ((Blk.new w1 #[.int .i64 x.1, .int .i64 x.2] 50).alloc (.cells #[.func (.func 31) #[.agg #[.int .i64 x.1, .int .i64 x.2]] #[]] 56)); have HQ : Aside0 (Blk ((w1.alloc (.cells #[.int .i64 x.1, .int .i64 x.2] 50)).alloc (.cells #[.func (.func 31) #[.agg #[.int .i64 x.1, .int .i64 x.2]] #[]] 56)) (w1.heap.size + 1) #[.func (.func 31) #[.agg #[.int .i64 x.1, .int .i64 x.2]] #[]] 56) := ⟨(by simpa using Blk.new (w1.alloc (.cells #[.int .i64 x.1, .int .i64 x.2] 50)) #[.func (.func 31) #[.agg #[.int .i64 x.1, .int .i64 x.2]] #[]] 56)⟩; have HB1 := Aside0.mk (below_alloc (below_alloc HB.out (.cells #[.int .i64 x.1, .int .i64 x.2] 50)) (.cells #[.func (.func 31) #[.agg #[.int .i64 x.1, .int .i64 x.2]] #[]] 56)); clear hb HR h31; have HC := Aside0.mk (firstG_any (base := base) x (w1.heap.size + 1) _ (by omega) (H4.out.below HB1.out) (HQ.out.cell 0)); rw [HFX.out] at HC; go_wp2_with fail; refine HC.out.mono ?_; rintro e w2 ⟨rfl, hb⟩; have HB2 := Aside0.mk (below_step HB1.out hb)); have hx2 : Blk w2 w1.heap.size #[.int .i64 x.1, .int .i64 x.2] 50 := (hb.block _ HX.out.lt).trans HX.out; have hg5 : w.heap.size ≤ w1.heap.size := HB.out.size; have HX2 := Aside0.mk hx2; clear hx2 hb HC HX HQ HB1 HB y1 hlt1; generalize w1.heap.size = g5 at *; have h32 : Blk w2 b #[.int .i64 n, .slice A l.length cc] 48 := (HB2.out.block _ hlt).trans H3.out; have hlt2 := h32.lt; have y2 := (h32.cell 1).trans rfl; have hg52 := HX2.out.lt; clear h32; have HC2 := Aside0.mk (firstB_any (base := base) x g5 w2 (by omega) (H4.out.below HB2.out) (HX2.out.cell 1)); rw [HFB.out] at HC2; go_wp2_with fail; refine HC2.out.mono ?_; rintro e w3 ⟨rfl, hb⟩; have HB3 := Aside0.mk (below_step HB2.out hb); have HX3 : Aside0 (Blk w3 g5 #[.int .i64 x.1, .int .i64 x.2] 50) := ⟨(hb.block _ hg52).trans HX2.out⟩; clear hb HC2 HX2 HB2 hg52 hlt2 y2)
              have hql := HQL.out
              have hpl := HPL.out
              have HI : Aside0 (giveI l x = i) := ⟨by rw [giveI, HFB.out, if_neg (by omega), Int.toNat_natCast]⟩
              obtain ⟨xa, xe⟩ := x
              simp only at *
              have hgp1 : l.getD (i - 1) (0, 0) = (pa, pe) := by rw [List.getD_eq_getElem?_getD, List.getElem?_eq_getElem (show i - 1 < l.length by omega), HP.out]; rfl
              have hgq1 : l.getD i (0, 0) = (qa, qe) := by rw [List.getD_eq_getElem?_getD, List.getElem?_eq_getElem hi, HQ.out]; rfl
              have hlm : leftM l (xa, xe) i = true := by rw [leftM, hgp1, show decide (0 < i) = true from decide_eq_true h0, show decide (pe = xa) = true from decide_eq_true hpl]; rfl
              have hrm : rightM l (xa, xe) i = false := by rw [rightM, hgq1, show decide (qa = xe) = false from decide_eq_false hql, Bool.and_false]
              have HR2 : Aside0 (r = l.take (i - 1) ++ [(pa, xe)] ++ l.drop i) := ⟨by rw [← HMR.out, HI.out, mergeL]; simp only [hlm, hrm, hgp1, if_true, if_false, Bool.false_eq_true]⟩
              clear hlm hrm hgp1 hgq1 HMR HI
              have d0n : decide (0 < i) = true := decide_eq_true (by omega)
              have d0 : decide ((0 : Int) < (i : Int)) = true := decide_eq_true (by omega)
              have hw1 : IntKind.i64.wrap ((i : Int) - 1) = (i : Int) - 1 := IntWalk.i64_in _ (by omega)
              have ht1 : ((i : Int) - 1).toNat = i - 1 := by omega
              have hb1 : (0 : Int) ≤ (i : Int) - 1 := by omega
              have hb2 : (i : Int) - 1 < (l.length : Int) := by omega
              have de1 : (pe == xa) = true := beq_iff_eq.2 hpl
              have d1 : decide ((i : Int) < (l.length : Int)) = true := decide_eq_true (by omega)
              have hw2 : IntKind.i64.wrap ((i : Int) + 1) = (i : Int) + 1 := IntWalk.i64_in _ (by omega)
              have de2 : (qa == xe) = false := beq_eq_false_iff_ne.2 hql
              clear hpl
              clear hql
              obtain ⟨A', c', he, -, -, hcell⟩ := H4.out.below HB3.out
              cases he
              obtain ⟨g, o, rfl, hg, f0, f1⟩ := hcell i hi
              rw [HQ.out] at f0 f1
              simp only at f0 f1
              obtain ⟨g', o', he2, hgp, p0, p1⟩ := hcell (i - 1) (by omega)
              obtain ⟨rfl, rfl⟩ : g = g' ∧ o = o' := by simpa using he2
              rw [HP.out] at p0 p1
              simp only at p0 p1
              clear he2
              have h33 : Blk w3 b #[.int .i64 n, .slice (some ⟨g, o, none⟩) l.length cc] 48 := (HB3.out.block _ hlt).trans H3.out
              have hlt3 := h33.lt
              have y3 := (h33.cell 1).trans rfl
              have hx3 := HX3.out
              have hg53 := hx3.lt
              have hx30 : World.cell? w3 ⟨g5, 0, none⟩ = some (.int .i64 xa) := Blk.cell hx3 0
              have hx3f0 : World.frozen? w3 ⟨g5, 0, none⟩ = false := Blk.free hx3 0
              have hx31 : World.cell? w3 ⟨g5, 1, none⟩ = some (.int .i64 xe) := Blk.cell hx3 1
              have hx3f1 : World.frozen? w3 ⟨g5, 1, none⟩ = false := Blk.free hx3 1
              clear h33 hx3 hcell
              go_wp2_with fail
              go_quiet (fail)
              have HB4 : Aside0 (Below w.heap.size w (w3.drewN nq)) := ⟨pw_below_drewN HB3.out nq⟩
              have HX4 : Aside0 (Blk (w3.drewN nq) g5 #[.int .i64 xa, .int .i64 xe] 50) := ⟨HX3.out⟩
              clear y3 hlt3 hg53 hx30 hx31 hx3f0 hx3f1 hg f0 f1 hgp p0 p1
              clear HB3 HX3
              generalize w3.drewN nq = w4 at *
              obtain ⟨A', c', he, -, -, hcell⟩ := H4.out.below HB4.out
              cases he
              obtain ⟨g', o', he2, hg, f0, f1⟩ := hcell i hi
              obtain ⟨rfl, rfl⟩ : g = g' ∧ o = o' := by simpa using he2
              rw [HQ.out] at f0 f1
              simp only at f0 f1
              clear he2
              obtain ⟨g', o', he2, hgp, p0, p1⟩ := hcell (i - 1) (by omega)
              obtain ⟨rfl, rfl⟩ : g = g' ∧ o = o' := by simpa using he2
              rw [HP.out] at p0 p1
              simp only at p0 p1
              clear he2
              have h34 : Blk w4 b #[.int .i64 n, .slice (some ⟨g, o, none⟩) l.length cc] 48 := (HB4.out.block _ hlt).trans H3.out
              have hlt4 := h34.lt
              have y4 := (h34.cell 1).trans rfl
              have hx4 := HX4.out
              have hg54 := hx4.lt
              have hx40 : World.cell? w4 ⟨g5, 0, none⟩ = some (.int .i64 xa) := Blk.cell hx4 0
              have hx4f0 : World.frozen? w4 ⟨g5, 0, none⟩ = false := Blk.free hx4 0
              have hx41 : World.cell? w4 ⟨g5, 1, none⟩ = some (.int .i64 xe) := Blk.cell hx4 1
              have hx4f1 : World.frozen? w4 ⟨g5, 1, none⟩ = false := Blk.free hx4 1
              clear h34 hx4 hcell
              go_wp2_with fail
              go_region
              have HB5 : Aside0 (Below w.heap.size w ((w4.setCell ⟨g5, 0, none⟩ (.int .i64 pa)).drew)) := ⟨below_drew (HB4.out.setCell hg5 _)⟩
              have HX5 : Aside0 (Blk ((w4.setCell ⟨g5, 0, none⟩ (.int .i64 pa)).drew) g5 #[.int .i64 pa, .int .i64 xe] 50) := ⟨(HX4.out.set 0 (.int .i64 pa))⟩
              clear y4 hlt4 hg54 hx40 hx41 hx4f0 hx4f1 hg f0 f1 hgp p0 p1
              clear HB4 HX4
              generalize (w4.setCell ⟨g5, 0, none⟩ (.int .i64 pa)).drew = w5 at *
              obtain ⟨A', c', he, -, -, hcell⟩ := H4.out.below HB5.out
              cases he
              obtain ⟨g', o', he2, hg, f0, f1⟩ := hcell i hi
              obtain ⟨rfl, rfl⟩ : g = g' ∧ o = o' := by simpa using he2
              rw [HQ.out] at f0 f1
              simp only at f0 f1
              clear he2
              obtain ⟨g', o', he2, hgp, p0, p1⟩ := hcell (i - 1) (by omega)
              obtain ⟨rfl, rfl⟩ : g = g' ∧ o = o' := by simpa using he2
              rw [HP.out] at p0 p1
              simp only at p0 p1
              clear he2
              have h35 : Blk w5 b #[.int .i64 n, .slice (some ⟨g, o, none⟩) l.length cc] 48 := (HB5.out.block _ hlt).trans H3.out
              have hlt5 := h35.lt
              have y5 := (h35.cell 1).trans rfl
              have hx5 := HX5.out
              have hg55 := hx5.lt
              have hx50 : World.cell? w5 ⟨g5, 0, none⟩ = some (.int .i64 pa) := Blk.cell hx5 0
              have hx5f0 : World.frozen? w5 ⟨g5, 0, none⟩ = false := Blk.free hx5 0
              have hx51 : World.cell? w5 ⟨g5, 1, none⟩ = some (.int .i64 xe) := Blk.cell hx5 1
              have hx5f1 : World.frozen? w5 ⟨g5, 1, none⟩ = false := Blk.free hx5 1
              clear h35 hx5 hcell
              go_wp2_with fail
              go_quiet (fail)
              have HB6 : Aside0 (Below w.heap.size w (w5.drewN nq)) := ⟨pw_below_drewN HB5.out nq⟩
              have HX6 : Aside0 (Blk (w5.drewN nq) g5 #[.int .i64 pa, .int .i64 xe] 50) := ⟨HX5.out⟩
              clear y5 hlt5 hg55 hx50 hx51 hx5f0 hx5f1 hg f0 f1 hgp p0 p1
              clear HB5 HX5
              generalize w5.drewN nq = w6 at *
              obtain ⟨A', c', he, -, -, hcell⟩ := H4.out.below HB6.out
              cases he
              obtain ⟨g', o', he2, hg, f0, f1⟩ := hcell i hi
              obtain ⟨rfl, rfl⟩ : g = g' ∧ o = o' := by simpa using he2
              rw [HQ.out] at f0 f1
              simp only at f0 f1
              clear he2
              obtain ⟨g', o', he2, hgp, p0, p1⟩ := hcell (i - 1) (by omega)
              obtain ⟨rfl, rfl⟩ : g = g' ∧ o = o' := by simpa using he2
              rw [HP.out] at p0 p1
              simp only at p0 p1
              clear he2
              have h36 : Blk w6 b #[.int .i64 n, .slice (some ⟨g, o, none⟩) l.length cc] 48 := (HB6.out.block _ hlt).trans H3.out
              have hlt6 := h36.lt
              have y6 := (h36.cell 1).trans rfl
              have hx6 := HX6.out
              have hg56 := hx6.lt
              have hx60 : World.cell? w6 ⟨g5, 0, none⟩ = some (.int .i64 pa) := Blk.cell hx6 0
              have hx6f0 : World.frozen? w6 ⟨g5, 0, none⟩ = false := Blk.free hx6 0
              have hx61 : World.cell? w6 ⟨g5, 1, none⟩ = some (.int .i64 xe) := Blk.cell hx6 1
              have hx6f1 : World.frozen? w6 ⟨g5, 1, none⟩ = false := Blk.free hx6 1
              clear h36 hx6 hcell
              have HBd : Aside0 (Below w.heap.size w (w6.drew.alloc (.cells #[.int .i64 pa, .int .i64 xe] 50))) := ⟨below_alloc (below_drew HB6.out) _⟩
              have HW : Aside0 (Whole (w6.drew.alloc (.cells #[.int .i64 pa, .int .i64 xe] 50)) w6.heap.size [(pa, xe)]) := ⟨Blk.new w6.drew _ _⟩
              have HNE : Aside0 ((Value.slice (some ⟨g, o, none⟩) l.length cc).ownBlock ≠ some w6.heap.size) := ⟨fun e => by have h1 := HO4.out.lt _ e; have h2 := HB6.out.size; omega⟩
              have HCR := Aside0.mk (replace_give (cu := 1) (HO4.out.below HBd.out) (Nat.le_trans HS.out.size HBd.out.size) HW.out HNE.out (by omega) (i - 1) i ((i : Int) - 1) ((i : Int)) (by omega) (by omega) (by omega) (by omega))
              rw [← HR2.out] at HCR
              go_wp2_with fail
              go_region_with (go_at_call 34; refine HCR.out.mono ?_; rintro e w9 hp; obtain ⟨A9, m9, c9, rfl, hblk, hend⟩ := put_back HS.out H3.out HO4.out H5.out HBd.out hp; have HEND := Aside0.mk hend; have hlt9 := Blk.lt hblk; have z1 := (Blk.cell hblk 1).trans rfl; have zf := Blk.free hblk 1; clear hp hend hblk)
              all_goals
                go_wp2_with fail
                go_ret
                exact HEND.out _
          · skip
            by_cases hql : qa = x.2 <;> have HQL := Aside0.mk hql <;> clear hql
            · skip
              ((go_enter Try.func14, Try.ntmps14; go_wp2_with fail; refine HR.out.mono ?_; rintro e w1 ⟨rfl, hb⟩; have HB := Aside0.mk (below_step HB0.out hb); have h31 : Blk w1 b #[.int .i64 n, .slice A l.length cc] 48 := (HB.out.block _ hlt).trans H3.out; have hlt1 := h31.lt; have y1 := (h31.cell 1).trans rfl; have HX := Aside0.mk ((Blk.new w1 #[.int .i64 x.1, .int .i64 x.2] 50).alloc (.cells #[.func (.func 31) #[.agg #[.int .i64 x.1, .int .i64 x.2]] #[]] 56)); have HQ : Aside0 (Blk ((w1.alloc (.cells #[.int .i64 x.1, .int .i64 x.2] 50)).alloc (.cells #[.func (.func 31) #[.agg #[.int .i64 x.1, .int .i64 x.2]] #[]] 56)) (w1.heap.size + 1) #[.func (.func 31) #[.agg #[.int .i64 x.1, .int .i64 x.2]] #[]] 56) := ⟨(by simpa using Blk.new (w1.alloc (.cells #[.int .i64 x.1, .int .i64 x.2] 50)) #[.func (.func 31) #[.agg #[.int .i64 x.1, .int .i64 x.2]] #[]] 56)⟩; have HB1 := Aside0.mk (below_alloc (below_alloc HB.out (.cells #[.int .i64 x.1, .int .i64 x.2] 50)) (.cells #[.func (.func 31) #[.agg #[.int .i64 x.1, .int .i64 x.2]] #[]] 56)); clear hb HR h31; have HC := Aside0.mk (firstG_any (base := base) x (w1.heap.size + 1) _ (by omega) (H4.out.below HB1.out) (HQ.out.cell 0)); rw [HFX.out] at HC; go_wp2_with fail; refine HC.out.mono ?_; rintro e w2 ⟨rfl, hb⟩; have HB2 := Aside0.mk (below_step HB1.out hb)); have hx2 : Blk w2 w1.heap.size #[.int .i64 x.1, .int .i64 x.2] 50 := (hb.block _ HX.out.lt).trans HX.out; have hg5 : w.heap.size ≤ w1.heap.size := HB.out.size; have HX2 := Aside0.mk hx2; clear hx2 hb HC HX HQ HB1 HB y1 hlt1; generalize w1.heap.size = g5 at *; have h32 : Blk w2 b #[.int .i64 n, .slice A l.length cc] 48 := (HB2.out.block _ hlt).trans H3.out; have hlt2 := h32.lt; have y2 := (h32.cell 1).trans rfl; have hg52 := HX2.out.lt; clear h32; have HC2 := Aside0.mk (firstB_any (base := base) x g5 w2 (by omega) (H4.out.below HB2.out) (HX2.out.cell 1)); rw [HFB.out] at HC2; go_wp2_with fail; refine HC2.out.mono ?_; rintro e w3 ⟨rfl, hb⟩; have HB3 := Aside0.mk (below_step HB2.out hb); have HX3 : Aside0 (Blk w3 g5 #[.int .i64 x.1, .int .i64 x.2] 50) := ⟨(hb.block _ hg52).trans HX2.out⟩; clear hb HC2 HX2 HB2 hg52 hlt2 y2)
              have hql := HQL.out
              have hpl := HPL.out
              have HI : Aside0 (giveI l x = i) := ⟨by rw [giveI, HFB.out, if_neg (by omega), Int.toNat_natCast]⟩
              obtain ⟨xa, xe⟩ := x
              simp only at *
              have hgp1 : l.getD (i - 1) (0, 0) = (pa, pe) := by rw [List.getD_eq_getElem?_getD, List.getElem?_eq_getElem (show i - 1 < l.length by omega), HP.out]; rfl
              have hgq1 : l.getD i (0, 0) = (qa, qe) := by rw [List.getD_eq_getElem?_getD, List.getElem?_eq_getElem hi, HQ.out]; rfl
              have hlm : leftM l (xa, xe) i = false := by rw [leftM, hgp1, show decide (pe = xa) = false from decide_eq_false hpl, Bool.and_false]
              have hrm : rightM l (xa, xe) i = true := by rw [rightM, hgq1, show decide (i < l.length) = true from decide_eq_true hi, show decide (qa = xe) = true from decide_eq_true hql]; rfl
              have HR2 : Aside0 (r = l.take i ++ [(xa, qe)] ++ l.drop (i + 1)) := ⟨by rw [← HMR.out, HI.out, mergeL]; simp only [hlm, hrm, hgq1, if_true, if_false, Bool.false_eq_true]⟩
              clear hlm hrm hgp1 hgq1 HMR HI
              have d0n : decide (0 < i) = true := decide_eq_true (by omega)
              have d0 : decide ((0 : Int) < (i : Int)) = true := decide_eq_true (by omega)
              have hw1 : IntKind.i64.wrap ((i : Int) - 1) = (i : Int) - 1 := IntWalk.i64_in _ (by omega)
              have ht1 : ((i : Int) - 1).toNat = i - 1 := by omega
              have hb1 : (0 : Int) ≤ (i : Int) - 1 := by omega
              have hb2 : (i : Int) - 1 < (l.length : Int) := by omega
              have de1 : (pe == xa) = false := beq_eq_false_iff_ne.2 hpl
              have d1 : decide ((i : Int) < (l.length : Int)) = true := decide_eq_true (by omega)
              have hw2 : IntKind.i64.wrap ((i : Int) + 1) = (i : Int) + 1 := IntWalk.i64_in _ (by omega)
              have de2 : (qa == xe) = true := beq_iff_eq.2 hql
              clear hpl
              clear hql
              obtain ⟨A', c', he, -, -, hcell⟩ := H4.out.below HB3.out
              cases he
              obtain ⟨g, o, rfl, hg, f0, f1⟩ := hcell i hi
              rw [HQ.out] at f0 f1
              simp only at f0 f1
              obtain ⟨g', o', he2, hgp, p0, p1⟩ := hcell (i - 1) (by omega)
              obtain ⟨rfl, rfl⟩ : g = g' ∧ o = o' := by simpa using he2
              rw [HP.out] at p0 p1
              simp only at p0 p1
              clear he2
              have h33 : Blk w3 b #[.int .i64 n, .slice (some ⟨g, o, none⟩) l.length cc] 48 := (HB3.out.block _ hlt).trans H3.out
              have hlt3 := h33.lt
              have y3 := (h33.cell 1).trans rfl
              have hx3 := HX3.out
              have hg53 := hx3.lt
              have hx30 : World.cell? w3 ⟨g5, 0, none⟩ = some (.int .i64 xa) := Blk.cell hx3 0
              have hx3f0 : World.frozen? w3 ⟨g5, 0, none⟩ = false := Blk.free hx3 0
              have hx31 : World.cell? w3 ⟨g5, 1, none⟩ = some (.int .i64 xe) := Blk.cell hx3 1
              have hx3f1 : World.frozen? w3 ⟨g5, 1, none⟩ = false := Blk.free hx3 1
              clear h33 hx3 hcell
              go_wp2_with fail
              go_quiet (fail)
              have HB4 : Aside0 (Below w.heap.size w (w3.drewN nq)) := ⟨pw_below_drewN HB3.out nq⟩
              have HX4 : Aside0 (Blk (w3.drewN nq) g5 #[.int .i64 xa, .int .i64 xe] 50) := ⟨HX3.out⟩
              clear y3 hlt3 hg53 hx30 hx31 hx3f0 hx3f1 hg f0 f1 hgp p0 p1
              clear HB3 HX3
              generalize w3.drewN nq = w4 at *
              obtain ⟨A', c', he, -, -, hcell⟩ := H4.out.below HB4.out
              cases he
              obtain ⟨g', o', he2, hg, f0, f1⟩ := hcell i hi
              obtain ⟨rfl, rfl⟩ : g = g' ∧ o = o' := by simpa using he2
              rw [HQ.out] at f0 f1
              simp only at f0 f1
              clear he2
              obtain ⟨g', o', he2, hgp, p0, p1⟩ := hcell (i - 1) (by omega)
              obtain ⟨rfl, rfl⟩ : g = g' ∧ o = o' := by simpa using he2
              rw [HP.out] at p0 p1
              simp only at p0 p1
              clear he2
              have h34 : Blk w4 b #[.int .i64 n, .slice (some ⟨g, o, none⟩) l.length cc] 48 := (HB4.out.block _ hlt).trans H3.out
              have hlt4 := h34.lt
              have y4 := (h34.cell 1).trans rfl
              have hx4 := HX4.out
              have hg54 := hx4.lt
              have hx40 : World.cell? w4 ⟨g5, 0, none⟩ = some (.int .i64 xa) := Blk.cell hx4 0
              have hx4f0 : World.frozen? w4 ⟨g5, 0, none⟩ = false := Blk.free hx4 0
              have hx41 : World.cell? w4 ⟨g5, 1, none⟩ = some (.int .i64 xe) := Blk.cell hx4 1
              have hx4f1 : World.frozen? w4 ⟨g5, 1, none⟩ = false := Blk.free hx4 1
              clear h34 hx4 hcell
              go_wp2_with fail
              go_quiet (fail)
              have HB5 : Aside0 (Below w.heap.size w (w4.drewN nq)) := ⟨pw_below_drewN HB4.out nq⟩
              have HX5 : Aside0 (Blk (w4.drewN nq) g5 #[.int .i64 xa, .int .i64 xe] 50) := ⟨HX4.out⟩
              clear y4 hlt4 hg54 hx40 hx41 hx4f0 hx4f1 hg f0 f1 hgp p0 p1
              clear HB4 HX4
              generalize w4.drewN nq = w5 at *
              obtain ⟨A', c', he, -, -, hcell⟩ := H4.out.below HB5.out
              cases he
              obtain ⟨g', o', he2, hg, f0, f1⟩ := hcell i hi
              obtain ⟨rfl, rfl⟩ : g = g' ∧ o = o' := by simpa using he2
              rw [HQ.out] at f0 f1
              simp only at f0 f1
              clear he2
              obtain ⟨g', o', he2, hgp, p0, p1⟩ := hcell (i - 1) (by omega)
              obtain ⟨rfl, rfl⟩ : g = g' ∧ o = o' := by simpa using he2
              rw [HP.out] at p0 p1
              simp only at p0 p1
              clear he2
              have h35 : Blk w5 b #[.int .i64 n, .slice (some ⟨g, o, none⟩) l.length cc] 48 := (HB5.out.block _ hlt).trans H3.out
              have hlt5 := h35.lt
              have y5 := (h35.cell 1).trans rfl
              have hx5 := HX5.out
              have hg55 := hx5.lt
              have hx50 : World.cell? w5 ⟨g5, 0, none⟩ = some (.int .i64 xa) := Blk.cell hx5 0
              have hx5f0 : World.frozen? w5 ⟨g5, 0, none⟩ = false := Blk.free hx5 0
              have hx51 : World.cell? w5 ⟨g5, 1, none⟩ = some (.int .i64 xe) := Blk.cell hx5 1
              have hx5f1 : World.frozen? w5 ⟨g5, 1, none⟩ = false := Blk.free hx5 1
              clear h35 hx5 hcell
              go_wp2_with fail
              go_region
              have HB6 : Aside0 (Below w.heap.size w ((w5.setCell ⟨g5, 1, none⟩ (.int .i64 qe)).drew)) := ⟨below_drew (HB5.out.setCell hg5 _)⟩
              have HX6 : Aside0 (Blk ((w5.setCell ⟨g5, 1, none⟩ (.int .i64 qe)).drew) g5 #[.int .i64 xa, .int .i64 qe] 50) := ⟨(HX5.out.set 1 (.int .i64 qe))⟩
              clear y5 hlt5 hg55 hx50 hx51 hx5f0 hx5f1 hg f0 f1 hgp p0 p1
              clear HB5 HX5
              generalize (w5.setCell ⟨g5, 1, none⟩ (.int .i64 qe)).drew = w6 at *
              obtain ⟨A', c', he, -, -, hcell⟩ := H4.out.below HB6.out
              cases he
              obtain ⟨g', o', he2, hg, f0, f1⟩ := hcell i hi
              obtain ⟨rfl, rfl⟩ : g = g' ∧ o = o' := by simpa using he2
              rw [HQ.out] at f0 f1
              simp only at f0 f1
              clear he2
              obtain ⟨g', o', he2, hgp, p0, p1⟩ := hcell (i - 1) (by omega)
              obtain ⟨rfl, rfl⟩ : g = g' ∧ o = o' := by simpa using he2
              rw [HP.out] at p0 p1
              simp only at p0 p1
              clear he2
              have h36 : Blk w6 b #[.int .i64 n, .slice (some ⟨g, o, none⟩) l.length cc] 48 := (HB6.out.block _ hlt).trans H3.out
              have hlt6 := h36.lt
              have y6 := (h36.cell 1).trans rfl
              have hx6 := HX6.out
              have hg56 := hx6.lt
              have hx60 : World.cell? w6 ⟨g5, 0, none⟩ = some (.int .i64 xa) := Blk.cell hx6 0
              have hx6f0 : World.frozen? w6 ⟨g5, 0, none⟩ = false := Blk.free hx6 0
              have hx61 : World.cell? w6 ⟨g5, 1, none⟩ = some (.int .i64 qe) := Blk.cell hx6 1
              have hx6f1 : World.frozen? w6 ⟨g5, 1, none⟩ = false := Blk.free hx6 1
              clear h36 hx6 hcell
              have HBd : Aside0 (Below w.heap.size w (w6.drew.alloc (.cells #[.int .i64 xa, .int .i64 qe] 50))) := ⟨below_alloc (below_drew HB6.out) _⟩
              have HW : Aside0 (Whole (w6.drew.alloc (.cells #[.int .i64 xa, .int .i64 qe] 50)) w6.heap.size [(xa, qe)]) := ⟨Blk.new w6.drew _ _⟩
              have HNE : Aside0 ((Value.slice (some ⟨g, o, none⟩) l.length cc).ownBlock ≠ some w6.heap.size) := ⟨fun e => by have h1 := HO4.out.lt _ e; have h2 := HB6.out.size; omega⟩
              have HCR := Aside0.mk (replace_give (cu := 1) (HO4.out.below HBd.out) (Nat.le_trans HS.out.size HBd.out.size) HW.out HNE.out (by omega) i (i + 1) ((i : Int)) ((i : Int) + 1) (by omega) (by omega) (by omega) (by omega))
              rw [← HR2.out] at HCR
              go_wp2_with fail
              go_region_with (go_at_call 34; refine HCR.out.mono ?_; rintro e w9 hp; obtain ⟨A9, m9, c9, rfl, hblk, hend⟩ := put_back HS.out H3.out HO4.out H5.out HBd.out hp; have HEND := Aside0.mk hend; have hlt9 := Blk.lt hblk; have z1 := (Blk.cell hblk 1).trans rfl; have zf := Blk.free hblk 1; clear hp hend hblk)
              all_goals
                go_wp2_with fail
                go_ret
                exact HEND.out _
            · skip
              ((go_enter Try.func14, Try.ntmps14; go_wp2_with fail; refine HR.out.mono ?_; rintro e w1 ⟨rfl, hb⟩; have HB := Aside0.mk (below_step HB0.out hb); have h31 : Blk w1 b #[.int .i64 n, .slice A l.length cc] 48 := (HB.out.block _ hlt).trans H3.out; have hlt1 := h31.lt; have y1 := (h31.cell 1).trans rfl; have HX := Aside0.mk ((Blk.new w1 #[.int .i64 x.1, .int .i64 x.2] 50).alloc (.cells #[.func (.func 31) #[.agg #[.int .i64 x.1, .int .i64 x.2]] #[]] 56)); have HQ : Aside0 (Blk ((w1.alloc (.cells #[.int .i64 x.1, .int .i64 x.2] 50)).alloc (.cells #[.func (.func 31) #[.agg #[.int .i64 x.1, .int .i64 x.2]] #[]] 56)) (w1.heap.size + 1) #[.func (.func 31) #[.agg #[.int .i64 x.1, .int .i64 x.2]] #[]] 56) := ⟨(by simpa using Blk.new (w1.alloc (.cells #[.int .i64 x.1, .int .i64 x.2] 50)) #[.func (.func 31) #[.agg #[.int .i64 x.1, .int .i64 x.2]] #[]] 56)⟩; have HB1 := Aside0.mk (below_alloc (below_alloc HB.out (.cells #[.int .i64 x.1, .int .i64 x.2] 50)) (.cells #[.func (.func 31) #[.agg #[.int .i64 x.1, .int .i64 x.2]] #[]] 56)); clear hb HR h31; have HC := Aside0.mk (firstG_any (base := base) x (w1.heap.size + 1) _ (by omega) (H4.out.below HB1.out) (HQ.out.cell 0)); rw [HFX.out] at HC; go_wp2_with fail; refine HC.out.mono ?_; rintro e w2 ⟨rfl, hb⟩; have HB2 := Aside0.mk (below_step HB1.out hb)); have hx2 : Blk w2 w1.heap.size #[.int .i64 x.1, .int .i64 x.2] 50 := (hb.block _ HX.out.lt).trans HX.out; have hg5 : w.heap.size ≤ w1.heap.size := HB.out.size; have HX2 := Aside0.mk hx2; clear hx2 hb HC HX HQ HB1 HB y1 hlt1; generalize w1.heap.size = g5 at *; have h32 : Blk w2 b #[.int .i64 n, .slice A l.length cc] 48 := (HB2.out.block _ hlt).trans H3.out; have hlt2 := h32.lt; have y2 := (h32.cell 1).trans rfl; have hg52 := HX2.out.lt; clear h32; have HC2 := Aside0.mk (firstB_any (base := base) x g5 w2 (by omega) (H4.out.below HB2.out) (HX2.out.cell 1)); rw [HFB.out] at HC2; go_wp2_with fail; refine HC2.out.mono ?_; rintro e w3 ⟨rfl, hb⟩; have HB3 := Aside0.mk (below_step HB2.out hb); have HX3 : Aside0 (Blk w3 g5 #[.int .i64 x.1, .int .i64 x.2] 50) := ⟨(hb.block _ hg52).trans HX2.out⟩; clear hb HC2 HX2 HB2 hg52 hlt2 y2)
              have hql := HQL.out
              have hpl := HPL.out
              have HI : Aside0 (giveI l x = i) := ⟨by rw [giveI, HFB.out, if_neg (by omega), Int.toNat_natCast]⟩
              obtain ⟨xa, xe⟩ := x
              simp only at *
              have hgp1 : l.getD (i - 1) (0, 0) = (pa, pe) := by rw [List.getD_eq_getElem?_getD, List.getElem?_eq_getElem (show i - 1 < l.length by omega), HP.out]; rfl
              have hgq1 : l.getD i (0, 0) = (qa, qe) := by rw [List.getD_eq_getElem?_getD, List.getElem?_eq_getElem hi, HQ.out]; rfl
              have hlm : leftM l (xa, xe) i = false := by rw [leftM, hgp1, show decide (pe = xa) = false from decide_eq_false hpl, Bool.and_false]
              have hrm : rightM l (xa, xe) i = false := by rw [rightM, hgq1, show decide (qa = xe) = false from decide_eq_false hql, Bool.and_false]
              have HR2 : Aside0 (r = l.take i ++ [(xa, xe)] ++ l.drop i) := ⟨by rw [← HMR.out, HI.out, mergeL]; simp only [hlm, hrm, if_true, if_false, Bool.false_eq_true]⟩
              clear hlm hrm hgp1 hgq1 HMR HI
              have d0n : decide (0 < i) = true := decide_eq_true (by omega)
              have d0 : decide ((0 : Int) < (i : Int)) = true := decide_eq_true (by omega)
              have hw1 : IntKind.i64.wrap ((i : Int) - 1) = (i : Int) - 1 := IntWalk.i64_in _ (by omega)
              have ht1 : ((i : Int) - 1).toNat = i - 1 := by omega
              have hb1 : (0 : Int) ≤ (i : Int) - 1 := by omega
              have hb2 : (i : Int) - 1 < (l.length : Int) := by omega
              have de1 : (pe == xa) = false := beq_eq_false_iff_ne.2 hpl
              have d1 : decide ((i : Int) < (l.length : Int)) = true := decide_eq_true (by omega)
              have hw2 : IntKind.i64.wrap ((i : Int) + 1) = (i : Int) + 1 := IntWalk.i64_in _ (by omega)
              have de2 : (qa == xe) = false := beq_eq_false_iff_ne.2 hql
              clear hpl
              clear hql
              obtain ⟨A', c', he, -, -, hcell⟩ := H4.out.below HB3.out
              cases he
              obtain ⟨g, o, rfl, hg, f0, f1⟩ := hcell i hi
              rw [HQ.out] at f0 f1
              simp only at f0 f1
              obtain ⟨g', o', he2, hgp, p0, p1⟩ := hcell (i - 1) (by omega)
              obtain ⟨rfl, rfl⟩ : g = g' ∧ o = o' := by simpa using he2
              rw [HP.out] at p0 p1
              simp only at p0 p1
              clear he2
              have h33 : Blk w3 b #[.int .i64 n, .slice (some ⟨g, o, none⟩) l.length cc] 48 := (HB3.out.block _ hlt).trans H3.out
              have hlt3 := h33.lt
              have y3 := (h33.cell 1).trans rfl
              have hx3 := HX3.out
              have hg53 := hx3.lt
              have hx30 : World.cell? w3 ⟨g5, 0, none⟩ = some (.int .i64 xa) := Blk.cell hx3 0
              have hx3f0 : World.frozen? w3 ⟨g5, 0, none⟩ = false := Blk.free hx3 0
              have hx31 : World.cell? w3 ⟨g5, 1, none⟩ = some (.int .i64 xe) := Blk.cell hx3 1
              have hx3f1 : World.frozen? w3 ⟨g5, 1, none⟩ = false := Blk.free hx3 1
              clear h33 hx3 hcell
              go_wp2_with fail
              go_quiet (fail)
              have HB4 : Aside0 (Below w.heap.size w (w3.drewN nq)) := ⟨pw_below_drewN HB3.out nq⟩
              have HX4 : Aside0 (Blk (w3.drewN nq) g5 #[.int .i64 xa, .int .i64 xe] 50) := ⟨HX3.out⟩
              clear y3 hlt3 hg53 hx30 hx31 hx3f0 hx3f1 hg f0 f1 hgp p0 p1
              clear HB3 HX3
              generalize w3.drewN nq = w4 at *
              obtain ⟨A', c', he, -, -, hcell⟩ := H4.out.below HB4.out
              cases he
              obtain ⟨g', o', he2, hg, f0, f1⟩ := hcell i hi
              obtain ⟨rfl, rfl⟩ : g = g' ∧ o = o' := by simpa using he2
              rw [HQ.out] at f0 f1
              simp only at f0 f1
              clear he2
              obtain ⟨g', o', he2, hgp, p0, p1⟩ := hcell (i - 1) (by omega)
              obtain ⟨rfl, rfl⟩ : g = g' ∧ o = o' := by simpa using he2
              rw [HP.out] at p0 p1
              simp only at p0 p1
              clear he2
              have h34 : Blk w4 b #[.int .i64 n, .slice (some ⟨g, o, none⟩) l.length cc] 48 := (HB4.out.block _ hlt).trans H3.out
              have hlt4 := h34.lt
              have y4 := (h34.cell 1).trans rfl
              have hx4 := HX4.out
              have hg54 := hx4.lt
              have hx40 : World.cell? w4 ⟨g5, 0, none⟩ = some (.int .i64 xa) := Blk.cell hx4 0
              have hx4f0 : World.frozen? w4 ⟨g5, 0, none⟩ = false := Blk.free hx4 0
              have hx41 : World.cell? w4 ⟨g5, 1, none⟩ = some (.int .i64 xe) := Blk.cell hx4 1
              have hx4f1 : World.frozen? w4 ⟨g5, 1, none⟩ = false := Blk.free hx4 1
              clear h34 hx4 hcell
              go_wp2_with fail
              go_quiet (fail)
              have HB5 : Aside0 (Below w.heap.size w (w4.drewN nq)) := ⟨pw_below_drewN HB4.out nq⟩
              have HX5 : Aside0 (Blk (w4.drewN nq) g5 #[.int .i64 xa, .int .i64 xe] 50) := ⟨HX4.out⟩
              clear y4 hlt4 hg54 hx40 hx41 hx4f0 hx4f1 hg f0 f1 hgp p0 p1
              clear HB4 HX4
              generalize w4.drewN nq = w5 at *
              obtain ⟨A', c', he, -, -, hcell⟩ := H4.out.below HB5.out
              cases he
              obtain ⟨g', o', he2, hg, f0, f1⟩ := hcell i hi
              obtain ⟨rfl, rfl⟩ : g = g' ∧ o = o' := by simpa using he2
              rw [HQ.out] at f0 f1
              simp only at f0 f1
              clear he2
              obtain ⟨g', o', he2, hgp, p0, p1⟩ := hcell (i - 1) (by omega)
              obtain ⟨rfl, rfl⟩ : g = g' ∧ o = o' := by simpa using he2
              rw [HP.out] at p0 p1
              simp only at p0 p1
              clear he2
              have h35 : Blk w5 b #[.int .i64 n, .slice (some ⟨g, o, none⟩) l.length cc] 48 := (HB5.out.block _ hlt).trans H3.out
              have hlt5 := h35.lt
              have y5 := (h35.cell 1).trans rfl
              have hx5 := HX5.out
              have hg55 := hx5.lt
              have hx50 : World.cell? w5 ⟨g5, 0, none⟩ = some (.int .i64 xa) := Blk.cell hx5 0
              have hx5f0 : World.frozen? w5 ⟨g5, 0, none⟩ = false := Blk.free hx5 0
              have hx51 : World.cell? w5 ⟨g5, 1, none⟩ = some (.int .i64 xe) := Blk.cell hx5 1
              have hx5f1 : World.frozen? w5 ⟨g5, 1, none⟩ = false := Blk.free hx5 1
              clear h35 hx5 hcell
              have HBd : Aside0 (Below w.heap.size w (w5.drew.alloc (.cells #[.int .i64 xa, .int .i64 xe] 50))) := ⟨below_alloc (below_drew HB5.out) _⟩
              have HW : Aside0 (Whole (w5.drew.alloc (.cells #[.int .i64 xa, .int .i64 xe] 50)) w5.heap.size [(xa, xe)]) := ⟨Blk.new w5.drew _ _⟩
              have HNE : Aside0 ((Value.slice (some ⟨g, o, none⟩) l.length cc).ownBlock ≠ some w5.heap.size) := ⟨fun e => by have h1 := HO4.out.lt _ e; have h2 := HB5.out.size; omega⟩
              have HCR := Aside0.mk (replace_give (cu := 1) (HO4.out.below HBd.out) (Nat.le_trans HS.out.size HBd.out.size) HW.out HNE.out (by omega) i i ((i : Int)) ((i : Int)) (by omega) (by omega) (by omega) (by omega))
              rw [← HR2.out] at HCR
              go_wp2_with fail
              go_region_with (go_at_call 34; refine HCR.out.mono ?_; rintro e w9 hp; obtain ⟨A9, m9, c9, rfl, hblk, hend⟩ := put_back HS.out H3.out HO4.out H5.out HBd.out hp; have HEND := Aside0.mk hend; have hlt9 := Blk.lt hblk; have z1 := (Blk.cell hblk 1).trans rfl; have zf := Blk.free hblk 1; clear hp hend hblk)
              all_goals
                go_wp2_with fail
                go_ret
                exact HEND.out _
    · have HFX := Aside0.mk hf
      rw [hf, if_neg (by omega), if_neg (by omega)]
      clear hf
      (go_enter Try.func14, Try.ntmps14; go_wp2_with fail; refine HR.out.mono ?_; rintro e w1 ⟨rfl, hb⟩; have HB := Aside0.mk (below_step HB0.out hb); have h31 : Blk w1 b #[.int .i64 n, .slice A l.length cc] 48 := (HB.out.block _ hlt).trans H3.out; have hlt1 := h31.lt; have y1 := (h31.cell 1).trans rfl; have HX := Aside0.mk ((Blk.new w1 #[.int .i64 x.1, .int .i64 x.2] 50).alloc (.cells #[.func (.func 31) #[.agg #[.int .i64 x.1, .int .i64 x.2]] #[]] 56)); have HQ : Aside0 (Blk ((w1.alloc (.cells #[.int .i64 x.1, .int .i64 x.2] 50)).alloc (.cells #[.func (.func 31) #[.agg #[.int .i64 x.1, .int .i64 x.2]] #[]] 56)) (w1.heap.size + 1) #[.func (.func 31) #[.agg #[.int .i64 x.1, .int .i64 x.2]] #[]] 56) := ⟨(by simpa using Blk.new (w1.alloc (.cells #[.int .i64 x.1, .int .i64 x.2] 50)) #[.func (.func 31) #[.agg #[.int .i64 x.1, .int .i64 x.2]] #[]] 56)⟩; have HB1 := Aside0.mk (below_alloc (below_alloc HB.out (.cells #[.int .i64 x.1, .int .i64 x.2] 50)) (.cells #[.func (.func 31) #[.agg #[.int .i64 x.1, .int .i64 x.2]] #[]] 56)); clear hb HR h31; have HC := Aside0.mk (firstG_any (base := base) x (w1.heap.size + 1) _ (by omega) (H4.out.below HB1.out) (HQ.out.cell 0)); rw [HFX.out] at HC; go_wp2_with fail; refine HC.out.mono ?_; rintro e w2 ⟨rfl, hb⟩; have HB2 := Aside0.mk (below_step HB1.out hb))
      clear hb HC
      go_wp2_with fail
      go_ret
      exact EndS.same HS.out HB2.out rfl
end Go.Proofs.Ytdcccimdgbkniaa.Mine
