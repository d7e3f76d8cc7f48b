/- wire: WireBack. -/
import Derived.Test.YtmjbdeoomohanaaWireV
import Derived.Test.YtmjbdeoomohanaaWireX
import Derived.Test.YtmjbdeoomohanaaWireY
import Derived.Deep.DeepCutAuto
import Derived.Deep.CutBlock
set_option linter.unusedSimpArgs false
set_option linter.unusedVariables false
namespace Go.Proofs.Ytmjbdeoomohanaa.Mine
open Go.RowKit Go.Maps Go.Proofs.YtmjbdeoomohanaaW.PrintWords Go.Proofs.YtmjbdeoomohanaaW.PrintLast Go.Proofs.YtmjbdeoomohanaaW.PrintMore Go.Proofs.Ytmjbdeoomohanaa.PWirePacks Go.Proofs.Ytmjbdeoomohanaa.Turn

def Err (x : Int) : Prop := x = 201 ∨ x = 1 ∨ x = 2 ∨ x = 6
theorem step_err {S : St} {bs : List Int} {n : Nat} {x : Int} (h : step S bs n = .error x) : Err x := by
  cases S with
  | W l => cases h
  | R l =>
    simp only [step] at h
    split at h
    · cases h; exact .inl rfl
    · cases h
theorem numS_err {S : St} {n x : Int} {sz : Nat} (h : numS S n sz = .error x) : Err x := by
  unfold numS at h
  split at h
  · rename_i e h1; cases h; exact step_err h1
  · cases h
theorem countS_err {S : St} {n x : Int} {sz : Nat} {most bad : Int} (hb : Err bad) (h : countS S n sz most bad = .error x) : Err x := by
  unfold countS at h
  split at h
  · rename_i e h1; cases h; exact step_err h1
  · split at h
    · cases h; exact hb
    · cases h
theorem textS_err {S : St} {bs : List Int} {x : Int} (h : textS S bs = .error x) : Err x := by
  unfold textS at h
  split at h
  · rename_i e h1; cases h; exact countS_err (.inr (.inr (.inl rfl))) h1
  · exact step_err h
theorem entS_err {S : St} {y : S44} {x : Int} (h : entS S y = .error x) : Err x := by
  unfold entS at h
  split at h
  · rename_i e h1; cases h; exact numS_err h1
  · split at h
    · rename_i e h1; cases h; exact numS_err h1
    · split at h
      · rename_i e h1; cases h; exact textS_err h1
      · cases h
theorem rowG_err {α : Type} {f : St → α → Except Int (α × St)} (hf : ∀ S y x, f S y = .error x → Err x) : ∀ {L : List α} {S : St} {x : Int}, rowG f S L = .error x → Err x
  | [], S, x, h => by cases h
  | y :: ys, S, x, h => by
    simp only [rowG] at h
    split at h
    · rename_i e h1; cases h; exact hf _ _ _ h1
    · split at h
      · rename_i e h1; cases h; exact rowG_err hf h1
      · cases h
theorem logS_err {S : St} {l : List S44} {x : Int} (h : logS S l = .error x) : Err x := by
  unfold logS at h
  split at h
  · rename_i e h1; cases h; exact countS_err (.inr (.inr (.inl rfl))) h1
  · rw [rowL_G] at h
    exact rowG_err (fun _ _ _ => entS_err) h
theorem blocksS_err {S : St} {l : List (List Int)} {x : Int} (h : blocksS S l = .error x) : Err x := by
  unfold blocksS at h
  split at h
  · rename_i e h1; cases h; exact countS_err (.inr (.inr (.inl rfl))) h1
  · split at h
    · cases h; exact .inl rfl
    · rw [rowS_G] at h
      exact rowG_err (fun _ _ _ => step_err) h
theorem thenS_err {α : Type} {x : Except Int (α × St)} {f : α → Msg} {e : Int} (h : thenS x f = .error e) : x = .error e := by
  rcases x with e1 | ⟨r, S1⟩
  · simp only [thenS, Except.error.injEq] at h
    rw [h]
  · cases h
theorem fieldS_err {k : Nat} (hk : k < 13) {S : St} {m : Msg} {x : Int} (h : fieldS k S m = .error x) : Err x := by
  have hd : k = 0 ∨ k = 1 ∨ k = 2 ∨ k = 3 ∨ k = 4 ∨ k = 5 ∨ k = 6 ∨ k = 7 ∨ k = 8 ∨ k = 9 ∨ k = 10 ∨ k = 11 ∨ k = 12 := by omega
  rcases hd with rfl | rfl | rfl | rfl | rfl | rfl | rfl | rfl | rfl | rfl | rfl | rfl | rfl <;> have h1 := thenS_err h
  case inr.inr.inr.inr.inl => exact logS_err h1
  case inr.inr.inr.inr.inr.inr.inr.inl => exact textS_err h1
  case inr.inr.inr.inr.inr.inr.inr.inr.inr.inr.inr.inr => exact blocksS_err h1
  all_goals first
    | exact numS_err h1
    | exact countS_err (.inr (.inl rfl)) h1
theorem goS_err (h : Nat) : ∀ {n k : Nat} {S : St} {m : Msg} {x : Int}, n + k ≤ 13 → goS h n k S m = .error x → Err x
  | 0, k, S, m, x, _, hs => by cases hs
  | n + 1, k, S, m, x, hn, hs => by
    simp only [goS] at hs
    split at hs
    · split at hs
      · rename_i e h1; cases hs; exact fieldS_err (by omega) h1
      · exact goS_err h (by omega) hs
    · exact goS_err h (by omega) hs
theorem parseS_err {l : List Int} {x : Int} (h : parseS l = .error x) : Err x := by
  unfold parseS at h
  split at h
  · rename_i e h1; cases h; exact numS_err h1
  · split at h
    · cases h; exact .inr (.inl rfl)
    · split at h
      · rename_i e h1; cases h; exact goS_err _ (by omega) h1
      · split at h
        · cases h; exact .inr (.inr (.inr rfl))
        · cases h
theorem Err.ne {x : Int} (h : Err x) : x ≠ 0 := by
  unfold Err at h
  omega
theorem zM_rg : RgM (zM 0) := by
  constructor <;> simp [zM]
theorem arg14 {w : World} {ok : Nat → Prop} {m : Msg} {cs : Array Value} (h : ArgF w ok m cs) : ∃ u0 u1 u2 u3 u4 u5 u6 u7 u8 u9 u10 u11 u12 u13, cs = #[u0, u1, u2, u3, u4, u5, u6, u7, u8, u9, u10, u11, u12, u13] := by
  obtain ⟨A5, c5, A8, c8, A13, c13, rfl, -⟩ := h
  exact ⟨_, _, _, _, _, _, _, _, _, _, _, _, _, _, rfl⟩
theorem check_arg {w : World} {ok : Nat → Prop} {m : Msg} {cs : Array Value} (h : ArgF w ok m cs) (hr : RgM m) : Calls Try.prog 12 #[.agg cs] w fun e w' => e = .returned (.int .i64 (chk m)) ∧ Below w.heap.size w w' := by
  obtain ⟨A5, c5, A8, c8, A13, c13, rfl, -, -, -, f5, f8, f13⟩ := h
  exact check_any m A5 c5 A8 c8 A13 c13 w hr.ty.1 hr.ty.2 hr.log.1 (Kd.F_now f5) hr.body.1 hr.blocks.1 (Kd.F_now f13)
theorem flat_bound {α : Type} {e : α → List Int} {B : Nat} : ∀ (L : List α), (∀ x ∈ L, (e x).length ≤ B) → (L.flatMap e).length ≤ L.length * B
  | [], _ => by simp
  | x :: xs, h => by
    have h1 := h x List.mem_cons_self
    have h2 := flat_bound xs (fun y hy => h y (List.mem_cons_of_mem _ hy))
    rw [List.flatMap_cons, List.length_append, List.length_cons, Nat.add_mul]
    omega
theorem encF_len {k : Nat} (hk : k < 13) {m : Msg} (h : goodF k m) : (encF k m).length ≤ 1048576 := by
  have hd : k = 0 ∨ k = 1 ∨ k = 2 ∨ k = 3 ∨ k = 4 ∨ k = 5 ∨ k = 6 ∨ k = 7 ∨ k = 8 ∨ k = 9 ∨ k = 10 ∨ k = 11 ∨ k = 12 := by omega
  rcases hd with rfl | rfl | rfl | rfl | rfl | rfl | rfl | rfl | rfl | rfl | rfl | rfl | rfl
  case inr.inr.inr.inr.inl =>
    have h1 : goodL m.log := h
    have h2 := flat_bound (e := encE) (B := 2066) m.log (fun x hx => by
      have := (h1.2 x hx).2.2.1
      simp only [encE, encT, List.length_append, be_len]
      omega)
    have h3 := Nat.mul_le_mul_right 2066 h1.1
    simp only [encF, encL, List.length_append, be_len]
    omega
  case inr.inr.inr.inr.inr.inr.inr.inl =>
    have h1 : goodT m.body := h
    have := h1.1
    simp only [encF, encT, List.length_append, be_len]
    omega
  case inr.inr.inr.inr.inr.inr.inr.inr.inr.inr.inr.inr =>
    have h1 : goodBs m.blocks := h
    have h2 := flat_128 m.blocks h1.2
    have h3 := Nat.mul_le_mul_right 128 h1.1
    simp only [encF, encBs, List.length_append, be_len]
    omega
  all_goals
    simp only [encF, be_len]
    omega
theorem enc_len {m : Msg} (h : GoodM m) (r : RgM m) : (enc m).length ≤ 16777216 := by
  have key : ∀ (n k : Nat), n + k ≤ 13 → (encG (hasB m.ty) n k m).length ≤ n * 1048576 := by
    intro n
    induction n with
    | zero => intro k _; exact Nat.zero_le _
    | succ n ih =>
      intro k hk
      have h1 := ih (k + 1) (by omega)
      have h2 := encF_len (k := k) (by omega) (good_fields h r k (by omega))
      simp only [encG, List.length_append]
      split
      · omega
      · simp only [List.length_nil]; omega
  have := key 13 0 (by omega)
  simp only [enc, List.length_cons]
  omega

/-- The first half of WireBack: what is packed is parsed. -/
def HalfB (w wx : World) : Prop := Below w.heap.size w wx

set_option maxHeartbeats 8000000 in
set_option maxRecDepth 100000 in
theorem wireBack_any {w : World} {m : Msg} {cs : Array Value} (hm : ArgF w (fun k => k < w.heap.size) m cs) (hr : RgM m) (A : Option Addr) (c : Nat) (l : List Int) (hl : l.length ≤ c) (hC : Kd.C (Kd.int .u8) w A l.length l) (hb : Byt l) :
    Calls Try.prog 5 #[.agg cs, .slice A l.length c] w fun e w' => e = .returned (.bool true) ∧ Below w.heap.size w w' := by
  obtain ⟨u0, u1, u2, u3, u4, u5, u6, u7, u8, u9, u10, u11, u12, u13, rfl⟩ := arg14 hm
  have HR := Aside0.mk hr
  have HL := Aside0.mk hl
  have HC := Aside0.mk hC
  have HBY := Aside0.mk hb
  have HB0 := Aside0.mk (below_alloc (Below.refl w.heap.size w) (.cells #[u0, u1, u2, u3, u4, u5, u6, u7, u8, u9, u10, u11, u12, u13] 29))
  have HM0 := Aside0.mk ((hm.below HB0.out).mono (fun k hk => hk.2))
  have HX0 := Aside0.mk (Blk.new w #[u0, u1, u2, u3, u4, u5, u6, u7, u8, u9, u10, u11, u12, u13] 29)
  clear hr hl hC hb hm
  go_enter Try.func5, Try.ntmps5
  go_wp2_with fail
  refine (great_any m _ _ HM0.out (by have := HR.out.log.1; omega) HR.out.blocks.1).mono ?_
  rintro e w1 ⟨q, rfl, hb1⟩
  have HB1 := Aside0.mk (below_step HB0.out hb1)
  have HM1 := Aside0.mk ((HM0.out.below hb1).mono (fun k hk => hk.1))
  have hx1 : Blk w1 w.heap.size #[u0, u1, u2, u3, u4, u5, u6, u7, u8, u9, u10, u11, u12, u13] 29 := (hb1.block _ HX0.out.lt).trans HX0.out
  have HX1 := Aside0.mk hx1
  have hx10 : World.cell? w1 ⟨w.heap.size, 0, none⟩ = some (u0) := Blk.cell hx1 0
  have hx11 : World.cell? w1 ⟨w.heap.size, 1, none⟩ = some (u1) := Blk.cell hx1 1
  have hx12 : World.cell? w1 ⟨w.heap.size, 2, none⟩ = some (u2) := Blk.cell hx1 2
  have hx13 : World.cell? w1 ⟨w.heap.size, 3, none⟩ = some (u3) := Blk.cell hx1 3
  have hx14 : World.cell? w1 ⟨w.heap.size, 4, none⟩ = some (u4) := Blk.cell hx1 4
  have hx15 : World.cell? w1 ⟨w.heap.size, 5, none⟩ = some (u5) := Blk.cell hx1 5
  have hx16 : World.cell? w1 ⟨w.heap.size, 6, none⟩ = some (u6) := Blk.cell hx1 6
  have hx17 : World.cell? w1 ⟨w.heap.size, 7, none⟩ = some (u7) := Blk.cell hx1 7
  have hx18 : World.cell? w1 ⟨w.heap.size, 8, none⟩ = some (u8) := Blk.cell hx1 8
  have hx19 : World.cell? w1 ⟨w.heap.size, 9, none⟩ = some (u9) := Blk.cell hx1 9
  have hx110 : World.cell? w1 ⟨w.heap.size, 10, none⟩ = some (u10) := Blk.cell hx1 10
  have hx111 : World.cell? w1 ⟨w.heap.size, 11, none⟩ = some (u11) := Blk.cell hx1 11
  have hx112 : World.cell? w1 ⟨w.heap.size, 12, none⟩ = some (u12) := Blk.cell hx1 12
  have hx113 : World.cell? w1 ⟨w.heap.size, 13, none⟩ = some (u13) := Blk.cell hx1 13
  have hlt1 := hx1.lt
  clear hb1 hx1
  cases q with
  | true =>
    go_wp2_with fail
    refine (wakes_any _).mono ?_
    rintro e w2 ⟨rfl, hb2⟩
    have HB2 := Aside0.mk (below_step HB1.out hb2)
    clear hb2
    go_wp2_with fail
    go_ret
    exact ⟨rfl, HB2.out⟩
  | false =>
    by_cases h18 : 262144 < l.length
    · have h18' : decide ((262144 : Int) < (l.length : Int)) = true := by simp; omega
      clear h18
      go_wp2_with fail
      refine (wakes_any _).mono ?_
      rintro e w2 ⟨rfl, hb2⟩
      have HB2 := Aside0.mk (below_step HB1.out hb2)
      clear hb2
      go_wp2_with fail
      go_ret
      exact ⟨rfl, HB2.out⟩
    · have HL18 : Aside0 (l.length ≤ 262144) := ⟨by omega⟩
      clear h18
      have h18' : decide ((262144 : Int) < (l.length : Int)) = false := by have := HL18.out; simp; omega
      have hch : chk m ≠ 0 ∨ chk m = 0 := by omega
      rcases hch with hch | hch
      all_goals first
        | (have hne0 : chk m ≠ 0 := hch
           obtain ⟨E, hE⟩ : ∃ E, chk m = E := ⟨_, rfl⟩
           rw [hE] at hch
           have HE := Aside0.mk hE
           have e1 : (E != 0) = true := bne_iff_ne.2 hch
           have e2 : (E == 0) = false := beq_eq_false_iff_ne.2 hch
           have HNE := Aside0.mk hch
           clear hE hch
           go_wp2_with fail
           refine (pack_no HM1.out HR.out HE.out HNE.out).mono ?_
           rintro e w2 ⟨rfl, hb2⟩
           have HB2 := Aside0.mk (below_step HB1.out hb2)
           have HM2 := Aside0.mk ((HM1.out.below hb2).mono (fun k hk => hk.1))
           have hx2 : Blk w2 w.heap.size #[u0, u1, u2, u3, u4, u5, u6, u7, u8, u9, u10, u11, u12, u13] 29 := (hb2.block _ HX1.out.lt).trans HX1.out
           have HX2 := Aside0.mk hx2
           have hx20 : World.cell? w2 ⟨w.heap.size, 0, none⟩ = some (u0) := Blk.cell hx2 0
           have hx21 : World.cell? w2 ⟨w.heap.size, 1, none⟩ = some (u1) := Blk.cell hx2 1
           have hx22 : World.cell? w2 ⟨w.heap.size, 2, none⟩ = some (u2) := Blk.cell hx2 2
           have hx23 : World.cell? w2 ⟨w.heap.size, 3, none⟩ = some (u3) := Blk.cell hx2 3
           have hx24 : World.cell? w2 ⟨w.heap.size, 4, none⟩ = some (u4) := Blk.cell hx2 4
           have hx25 : World.cell? w2 ⟨w.heap.size, 5, none⟩ = some (u5) := Blk.cell hx2 5
           have hx26 : World.cell? w2 ⟨w.heap.size, 6, none⟩ = some (u6) := Blk.cell hx2 6
           have hx27 : World.cell? w2 ⟨w.heap.size, 7, none⟩ = some (u7) := Blk.cell hx2 7
           have hx28 : World.cell? w2 ⟨w.heap.size, 8, none⟩ = some (u8) := Blk.cell hx2 8
           have hx29 : World.cell? w2 ⟨w.heap.size, 9, none⟩ = some (u9) := Blk.cell hx2 9
           have hx210 : World.cell? w2 ⟨w.heap.size, 10, none⟩ = some (u10) := Blk.cell hx2 10
           have hx211 : World.cell? w2 ⟨w.heap.size, 11, none⟩ = some (u11) := Blk.cell hx2 11
           have hx212 : World.cell? w2 ⟨w.heap.size, 12, none⟩ = some (u12) := Blk.cell hx2 12
           have hx213 : World.cell? w2 ⟨w.heap.size, 13, none⟩ = some (u13) := Blk.cell hx2 13
           have hlt2 := hx2.lt
           clear hb2 hx2 hx10 hx11 hx12 hx13 hx14 hx15 hx16 hx17 hx18 hx19 hx110 hx111 hx112 hx113 hlt1
           go_wp2_with fail
           refine (check_arg HM2.out HR.out).mono ?_
           rintro e wq ⟨rfl, hb3⟩
           rw [HE.out]
           have HB := Aside0.mk (below_step HB2.out hb3)
           clear hb3 hx20 hx21 hx22 hx23 hx24 hx25 hx26 hx27 hx28 hx29 hx210 hx211 hx212 hx213 hlt2
           go_wp2_with fail
           clear HE e1 e2 HNE HM2 HX2 HB2)
        | (have HG := Aside0.mk ((chk_good m).1 hch)
           have HE := Aside0.mk hch
           clear hch
           have HAL := Aside0.mk (pack_all HG.out HR.out)
           have HPB := Aside0.mk (parse_back HG.out HR.out [])
           have HEL := Aside0.mk (enc_len HG.out HR.out)
           have HEB := Aside0.mk (enc_bytes HG.out HR.out)
           rw [List.append_nil] at HPB
           generalize enc m = bs at *
           go_wp2_with fail
           refine (pack_yes (HM1.out.mono (fun k hk => Nat.lt_of_lt_of_le hk HB1.out.size)) HR.out HG.out HAL.out).mono ?_
           rintro e w2 ⟨A2, c2, rfl, hc2, hF2, hb2⟩
           have HB2 := Aside0.mk (below_step HB1.out hb2)
           have HM2 := Aside0.mk ((HM1.out.below hb2).mono (fun k hk => hk.1))
           have hx2 : Blk w2 w.heap.size #[u0, u1, u2, u3, u4, u5, u6, u7, u8, u9, u10, u11, u12, u13] 29 := (hb2.block _ HX1.out.lt).trans HX1.out
           have HX2 := Aside0.mk hx2
           have HC2 := Aside0.mk (Kd.F_now hF2)
           have HL2 := Aside0.mk hc2
           have hx20 : World.cell? w2 ⟨w.heap.size, 0, none⟩ = some (u0) := Blk.cell hx2 0
           have hx21 : World.cell? w2 ⟨w.heap.size, 1, none⟩ = some (u1) := Blk.cell hx2 1
           have hx22 : World.cell? w2 ⟨w.heap.size, 2, none⟩ = some (u2) := Blk.cell hx2 2
           have hx23 : World.cell? w2 ⟨w.heap.size, 3, none⟩ = some (u3) := Blk.cell hx2 3
           have hx24 : World.cell? w2 ⟨w.heap.size, 4, none⟩ = some (u4) := Blk.cell hx2 4
           have hx25 : World.cell? w2 ⟨w.heap.size, 5, none⟩ = some (u5) := Blk.cell hx2 5
           have hx26 : World.cell? w2 ⟨w.heap.size, 6, none⟩ = some (u6) := Blk.cell hx2 6
           have hx27 : World.cell? w2 ⟨w.heap.size, 7, none⟩ = some (u7) := Blk.cell hx2 7
           have hx28 : World.cell? w2 ⟨w.heap.size, 8, none⟩ = some (u8) := Blk.cell hx2 8
           have hx29 : World.cell? w2 ⟨w.heap.size, 9, none⟩ = some (u9) := Blk.cell hx2 9
           have hx210 : World.cell? w2 ⟨w.heap.size, 10, none⟩ = some (u10) := Blk.cell hx2 10
           have hx211 : World.cell? w2 ⟨w.heap.size, 11, none⟩ = some (u11) := Blk.cell hx2 11
           have hx212 : World.cell? w2 ⟨w.heap.size, 12, none⟩ = some (u12) := Blk.cell hx2 12
           have hx213 : World.cell? w2 ⟨w.heap.size, 13, none⟩ = some (u13) := Blk.cell hx2 13
           have hlt2 := hx2.lt
           clear hb2 hx2 hF2 hc2 hx10 hx11 hx12 hx13 hx14 hx15 hx16 hx17 hx18 hx19 hx110 hx111 hx112 hx113 hlt1
           go_wp2_with fail
           refine (check_arg HM2.out HR.out).mono ?_
           rintro e w3 ⟨rfl, hb3⟩
           rw [HE.out]
           have HB3 := Aside0.mk (below_step HB2.out hb3)
           have HM3 := Aside0.mk ((HM2.out.below hb3).mono (fun k hk => hk.1))
           have hx3 : Blk w3 w.heap.size #[u0, u1, u2, u3, u4, u5, u6, u7, u8, u9, u10, u11, u12, u13] 29 := (hb3.block _ HX2.out.lt).trans HX2.out
           have HX3 := Aside0.mk hx3
           have HC3 := Aside0.mk (Kd.C_below HC2.out hb3)
           clear hb3 hx3 hx20 hx21 hx22 hx23 hx24 hx25 hx26 hx27 hx28 hx29 hx210 hx211 hx212 hx213 hlt2
           go_wp2_with fail
           refine (parse_any HL2.out (by have := HEL.out; omega) HEB.out HC3.out).mono ?_
           rw [HPB.out]
           rintro e w4 ⟨hb4, cs4, rfl, hm4⟩
           have hm5 := hm4
           obtain ⟨B5, d5, B8, d8, B13, d13, rfl, -⟩ := hm5
           have HB4 := Aside0.mk (below_step HB3.out hb4)
           have HM4 := Aside0.mk ((HM3.out.below hb4).mono (fun k hk => hk.1))
           have hx4 : Blk w4 w.heap.size #[u0, u1, u2, u3, u4, u5, u6, u7, u8, u9, u10, u11, u12, u13] 29 := (hb4.block _ HX3.out.lt).trans HX3.out
           have HX4 := Aside0.mk hx4
           have HV4 := Aside0.mk hm4
           have hx40 : World.cell? w4 ⟨w.heap.size, 0, none⟩ = some (u0) := Blk.cell hx4 0
           have hx41 : World.cell? w4 ⟨w.heap.size, 1, none⟩ = some (u1) := Blk.cell hx4 1
           have hx42 : World.cell? w4 ⟨w.heap.size, 2, none⟩ = some (u2) := Blk.cell hx4 2
           have hx43 : World.cell? w4 ⟨w.heap.size, 3, none⟩ = some (u3) := Blk.cell hx4 3
           have hx44 : World.cell? w4 ⟨w.heap.size, 4, none⟩ = some (u4) := Blk.cell hx4 4
           have hx45 : World.cell? w4 ⟨w.heap.size, 5, none⟩ = some (u5) := Blk.cell hx4 5
           have hx46 : World.cell? w4 ⟨w.heap.size, 6, none⟩ = some (u6) := Blk.cell hx4 6
           have hx47 : World.cell? w4 ⟨w.heap.size, 7, none⟩ = some (u7) := Blk.cell hx4 7
           have hx48 : World.cell? w4 ⟨w.heap.size, 8, none⟩ = some (u8) := Blk.cell hx4 8
           have hx49 : World.cell? w4 ⟨w.heap.size, 9, none⟩ = some (u9) := Blk.cell hx4 9
           have hx410 : World.cell? w4 ⟨w.heap.size, 10, none⟩ = some (u10) := Blk.cell hx4 10
           have hx411 : World.cell? w4 ⟨w.heap.size, 11, none⟩ = some (u11) := Blk.cell hx4 11
           have hx412 : World.cell? w4 ⟨w.heap.size, 12, none⟩ = some (u12) := Blk.cell hx4 12
           have hx413 : World.cell? w4 ⟨w.heap.size, 13, none⟩ = some (u13) := Blk.cell hx4 13
           have hlt4 := hx4.lt
           clear hb4 hx4 hm4
           simp only [mcells] at HV4 ⊢
           go_wp2_with fail
           have HV5 := Aside0.mk ((HV4.out.below (below_alloc (Below.refl _ w4) (.cells #[.int .u8 m.ty, .int .u64 m.view, .int .u64 m.normal, .int .i64 m.op, .int .i64 m.commit, .slice B5 m.log.length d5, .int .u64 m.client, .int .u64 m.seq, .slice B8 m.body.length d8, .int .u64 m.key, .int .u8 m.shard, .int .u32 m.stripe, .int .i64 m.code, .slice B13 m.blocks.length d13] 29))).mono (fun k hk => hk.1))
           have HM5 := Aside0.mk ((HM4.out.below (below_alloc (Below.refl _ w4) (.cells #[.int .u8 m.ty, .int .u64 m.view, .int .u64 m.normal, .int .i64 m.op, .int .i64 m.commit, .slice B5 m.log.length d5, .int .u64 m.client, .int .u64 m.seq, .slice B8 m.body.length d8, .int .u64 m.key, .int .u8 m.shard, .int .u32 m.stripe, .int .i64 m.code, .slice B13 m.blocks.length d13] 29))).mono (fun k hk => hk.1))
           refine (same_any m m _ _ _ HV5.out HM5.out HR.out.log.1 HR.out.blocks.1).mono ?_
           rw [(sameM_iff HR.out HR.out).2 rfl]
           rintro e wq ⟨rfl, hb6⟩
           have HB := Aside0.mk (below_step (below_alloc HB4.out _) hb6)
           clear hb6 hx40 hx41 hx42 hx43 hx44 hx45 hx46 hx47 hx48 hx49 hx410 hx411 hx412 hx413 hlt4
           go_wp2_with fail
           clear HG HE HAL HPB HEL HEB HB2 HM2 HX2 HC2 HL2 HB3 HM3 HX3 HC3 HB4 HM4 HX4 HV4 HV5 HM5)
      all_goals
        clear HM0 HX0 HM1 HX1 HB1 HB0 h18'
        refine (parse_any HL.out (by have := HL18.out; omega) HBY.out (Kd.C_below HC.out HB.out)).mono ?_
        obtain ⟨y, hy⟩ : ∃ y, parseS l = y := ⟨_, rfl⟩
        rw [hy]
        have HY := Aside0.mk hy
        clear hy
        cases y with
        | error y =>
          rintro e wr ⟨hbr, cs9, rfl, hm9⟩
          have hne := (parseS_err HY.out).ne
          have e1 : (y != 0) = true := bne_iff_ne.2 hne
          have HBR := Aside0.mk (below_step HB.out hbr)
          have hm8 := hm9
          obtain ⟨B5, d5, B8, d8, B13, d13, rfl, -⟩ := hm8
          have HM9 := Aside0.mk hm9
          clear hbr hm9 hne HY
          simp only [mcells, zM, List.length_nil] at HM9 ⊢
          go_wp2_with fail
          have HMA := Aside0.mk (HM9.out.below (below_alloc (Below.refl _ wr) (.cells #[.int .u8 0, .int .u64 0, .int .u64 0, .int .i64 0, .int .i64 0, .slice B5 0 d5, .int .u64 0, .int .u64 0, .slice B8 0 d8, .int .u64 0, .int .u8 0, .int .u32 0, .int .i64 0, .slice B13 0 d13] 29)))
          refine (same_any (zM 0) (zM 0) _ _ _ HMA.out (zM_arg _ (fun _ => True)) (by decide) (by decide)).mono ?_
          rw [(sameM_iff zM_rg zM_rg).2 rfl]
          rintro e wt ⟨rfl, hbt⟩
          have HBT := Aside0.mk (below_step (below_alloc HBR.out (.cells #[.int .u8 0, .int .u64 0, .int .u64 0, .int .i64 0, .int .i64 0, .slice B5 0 d5, .int .u64 0, .int .u64 0, .slice B8 0 d8, .int .u64 0, .int .u8 0, .int .u32 0, .int .i64 0, .slice B13 0 d13] 29)) hbt)
          clear hbt HMA HM9 HBR
          go_wp2_with fail
          refine (wakes_any _).mono ?_
          rintro e wu ⟨rfl, hbu⟩
          have HBU := Aside0.mk (below_step HBT.out hbu)
          clear hbu
          go_wp2_with fail
          go_ret
          exact ⟨rfl, HBU.out⟩
        | ok y =>
          obtain ⟨hg9, hr9, hl9⟩ := parse_read HBY.out HY.out
          have HAL := Aside0.mk (pack_all hg9 hr9)
          rw [← hl9] at HAL
          have HG9 := Aside0.mk hg9
          have HR9 := Aside0.mk hr9
          rintro e wr ⟨hbr, cs9, rfl, hm9⟩
          have HBR := Aside0.mk (below_step HB.out hbr)
          have hm8 := hm9
          obtain ⟨B5, d5, B8, d8, B13, d13, rfl, -⟩ := hm8
          have HM9 := Aside0.mk hm9
          clear hbr hm9 hg9 hr9 hl9 HY
          simp only [mcells] at HM9 ⊢
          go_wp2_with fail
          have HMA := Aside0.mk ((HM9.out.below (below_alloc (Below.refl _ wr) (.cells #[.int .u8 y.ty, .int .u64 y.view, .int .u64 y.normal, .int .i64 y.op, .int .i64 y.commit, .slice B5 y.log.length d5, .int .u64 y.client, .int .u64 y.seq, .slice B8 y.body.length d8, .int .u64 y.key, .int .u8 y.shard, .int .u32 y.stripe, .int .i64 y.code, .slice B13 y.blocks.length d13] 29))).mono (fun k hk => Nat.lt_trans hk.2 (by simp : wr.heap.size < (wr.alloc (.cells #[.int .u8 y.ty, .int .u64 y.view, .int .u64 y.normal, .int .i64 y.op, .int .i64 y.commit, .slice B5 y.log.length d5, .int .u64 y.client, .int .u64 y.seq, .slice B8 y.body.length d8, .int .u64 y.key, .int .u8 y.shard, .int .u32 y.stripe, .int .i64 y.code, .slice B13 y.blocks.length d13] 29)).heap.size)))
          refine (pack_yes HMA.out HR9.out HG9.out HAL.out).mono ?_
          rintro e wt ⟨A7, c7, rfl, hc7, hF7, hbt⟩
          have HBT := Aside0.mk (below_step (below_alloc HBR.out (.cells #[.int .u8 y.ty, .int .u64 y.view, .int .u64 y.normal, .int .i64 y.op, .int .i64 y.commit, .slice B5 y.log.length d5, .int .u64 y.client, .int .u64 y.seq, .slice B8 y.body.length d8, .int .u64 y.key, .int .u8 y.shard, .int .u32 y.stripe, .int .i64 y.code, .slice B13 y.blocks.length d13] 29)) hbt)
          have hcv1 := Kd.C_string (P := Try.prog) (A := A7) (c := c7) Try.underlying24 Try.underlying5 Try.underlying9 (Kd.F_now hF7)
          have hcv2 := Kd.C_string (P := Try.prog) (A := A) (c := c) Try.underlying24 Try.underlying5 Try.underlying9 (Kd.C_below HC.out HBT.out)
          clear hbt hF7 hc7 HMA HM9 HBR
          go_wp2_with fail
          refine (wakes_any _).mono ?_
          rintro e wu ⟨rfl, hbu⟩
          have HBU := Aside0.mk (below_step HBT.out hbu)
          clear hbu
          go_wp2_with fail
          go_ret
          exact ⟨rfl, HBU.out⟩
end Go.Proofs.Ytmjbdeoomohanaa.Mine
