import Derived.Test.YtmjbdeoomohanaaWm8
import Derived.Test.YtmjbdeoomohanaaWm5
import Derived.Lib.Bytes
import Derived.Test.YtmjbdeoomohanaaWm9
import Derived.Deep.DeepCutAuto
import Derived.Deep.CutBlock
import Derived.Test.YtmjbdeoomohanaaWm6
import Derived.HandedShaped

/- wire: the law's Great. -/
set_option linter.unusedSimpArgs false
set_option linter.unusedVariables false
namespace Go.Proofs.Ytmjbdeoomohanaa.Mine
open Go.RowKit Go.Maps Go.Proofs.YtmjbdeoomohanaaW.PrintWords Go.Proofs.YtmjbdeoomohanaaW.PrintLast Go.Proofs.YtmjbdeoomohanaaW.PrintMore Go.Proofs.Ytmjbdeoomohanaa.PWirePacks Go.Proofs.Ytmjbdeoomohanaa.Turn

/-- Some answer. -/
def SomeBool (w : World) (e : Ending) (w' : World) : Prop := ∃ c : Bool, e = .returned (.bool c) ∧ Below w.heap.size w w'

set_option maxHeartbeats 4000000 in
theorem great_any (m : Msg) (cs : Array Value) (w : World) {ok : Nat → Prop} (ha : ArgF w ok m cs) (hl : m.log.length ≤ 4611686018427387904) (hbl : m.blocks.length ≤ 4611686018427387904) :
    Calls Try.prog 8 #[.agg cs] w (SomeBool w) := by
  obtain ⟨A5, c5, A8, c8, A13, c13, rfl, -, -, -, f5, f8, f13⟩ := ha
  have hx1 := Blk.new w (mcells m A5 c5 A8 c8 A13 c13) 29
  have HF5 := Aside0.mk (Kd.C_alloc (Kd.F_now f5) (.cells (mcells m A5 c5 A8 c8 A13 c13) 29))
  have HF13 := Aside0.mk (Kd.C_alloc (Kd.F_now f13) (.cells (mcells m A5 c5 A8 c8 A13 c13) 29))
  have HB := Aside0.mk (below_alloc (Below.refl w.heap.size w) (.cells (mcells m A5 c5 A8 c8 A13 c13) 29))
  have p5 : (w.alloc (.cells (mcells m A5 c5 A8 c8 A13 c13) 29)).cell? ⟨w.heap.size, 5, none⟩ = some (.slice A5 m.log.length c5) := (hx1.cell 5).trans rfl
  have p8 : (w.alloc (.cells (mcells m A5 c5 A8 c8 A13 c13) 29)).cell? ⟨w.heap.size, 8, none⟩ = some (.slice A8 m.body.length c8) := (hx1.cell 8).trans rfl
  have p13 : (w.alloc (.cells (mcells m A5 c5 A8 c8 A13 c13) 29)).cell? ⟨w.heap.size, 13, none⟩ = some (.slice A13 m.blocks.length c13) := (hx1.cell 13).trans rfl
  have hlt := hx1.lt
  clear f5 f8 f13 hx1
  obtain ⟨x0, x1, x2, x3, x4, x5, x6, x7, x8, x9, x10, x11, x12, x13⟩ := m
  unfold mcells at *
  simp only at HF5 HF13 HB p5 p8 p13 hlt hl hbl ⊢
  go_enter Try.func8, Try.ntmps8
  go_wp2_with fail
  generalize w.alloc (.cells #[.int .u8 x0, .int .u64 x1, .int .u64 x2, .int .i64 x3, .int .i64 x4, .slice A5 x5.length c5, .int .u64 x6, .int .u64 x7, .slice A8 x8.length c8, .int .u64 x9, .int .u8 x10, .int .u32 x11, .int .i64 x12, .slice A13 x13.length c13] 29) = W at *
  go_loopw [3, 4] (fun n i wr => ∃ (k : Nat) (s : Int), k ≤ x5.length ∧ i = .int .i64 k ∧ n = .int .i64 s ∧ Drawn0 W wr) (fun _ i _ => x5.length - (intOf i).toNat)
  case atStart => exact ⟨0, _, Nat.zero_le _, rfl, rfl, Drawn0.refl _⟩
  case round =>
    obtain ⟨k, s, hk, rfl, rfl, ⟨m1, rfl⟩⟩ := hrel
    by_cases hgo : k < x5.length ∧ k ≤ 200
    · obtain ⟨hlt, h200⟩ := hgo
      obtain ⟨ad, A2, c2, e, y0, y1, y2, hl2, hB2⟩ := at_T44 HF5.out (k : Int) (by omega) (by omega)
      cases e
      rw [Int.toNat_natCast] at y0 y1 y2
      clear hB2
      go_wp2
      try go_quiet (fail)
      try go_wp2
      go_roundw
      case rel => exact ⟨k + 1, _, by omega, by go_num, rfl, by repeat (first | exact Drawn0.refl _ | apply Drawn0.step)⟩
      case measure => simp [intOf]; omega
    · by_cases hlt : k < x5.length
      all_goals
        try have h200 : ¬ k ≤ 200 := fun h => hgo ⟨hlt, h⟩
        clear hgo
        go_wp2_with fail
        go_loopw [3, 5] (fun n i wr => ∃ (k : Nat) (s : Int), k ≤ x13.length ∧ i = .int .i64 k ∧ n = .int .i64 s ∧ Drawn0 W wr) (fun _ i _ => x13.length - (intOf i).toNat)
        case atStart => exact ⟨0, _, Nat.zero_le _, rfl, rfl, ⟨m1, rfl⟩⟩
        case round =>
          obtain ⟨k2, s2, hk2, rfl, rfl, ⟨m2, rfl⟩⟩ := hrel
          clear hlt
          try clear h200
          by_cases hlt : k2 < x13.length ∧ s2 ≤ 262144
          · obtain ⟨hlt, h18⟩ := hlt
            obtain ⟨ad, A2, c2, e, y0, hl2, hB2⟩ := at_L2 HF13.out (k2 : Int) (by omega) (by omega)
            cases e
            rw [Int.toNat_natCast] at y0
            clear hB2
            go_wp2
            try go_quiet (fail)
            try go_wp2
            go_roundw
            case rel => exact ⟨k2 + 1, _, by omega, by go_num, rfl, by repeat (first | exact Drawn0.refl _ | apply Drawn0.step)⟩
            case measure => simp [intOf]; omega
          · by_cases hlt2 : k2 < x13.length
            all_goals
              try have h18 : ¬ s2 ≤ 262144 := fun h => hlt ⟨hlt2, h⟩
              clear hlt
              go_wp2
              all_goals
                try go_quiet (fail)
                try go_wp2
              all_goals
                go_ret
                exact ⟨_, rfl, below_then HB.out HB.out.size (by simpa using Drawn0.below (w := W) (by repeat (first | exact Drawn0.refl _ | apply Drawn0.step)))⟩
end Go.Proofs.Ytmjbdeoomohanaa.Mine

/- wire: the law's wakes. -/
set_option linter.unusedSimpArgs false
set_option linter.unusedVariables false
namespace Go.Proofs.Ytmjbdeoomohanaa.Mine
open Go.RowKit Go.Maps Go.Proofs.YtmjbdeoomohanaaW.PrintWords Go.Proofs.YtmjbdeoomohanaaW.PrintLast Go.Proofs.YtmjbdeoomohanaaW.PrintMore Go.Proofs.Ytmjbdeoomohanaa.PWirePacks Go.Proofs.Ytmjbdeoomohanaa.Turn

def wm1 : Msg := ⟨14, 0, 0, 0, 0, [], 0, 0, [], 1, 0, 2, 3, []⟩
def wm2 : Msg := ⟨3, 0, 0, 1, 0, [], 0, 0, [], 0, 0, 0, 0, []⟩
theorem wm1_rg : RgM wm1 := by
  constructor <;> simp [wm1]
theorem wm2_rg : RgM wm2 := by
  constructor <;> simp [wm2]
theorem wm1_good : GoodM wm1 := (chk_good wm1).1 (by decide)
theorem wm2_chk : chk wm2 = 6 := by decide
def wl : List Int := [14, 0, 0, 0, 0, 0, 0, 0, 1, 0, 0, 0, 2, 0, 3]
theorem wm1_enc : enc wm1 = wl := by decide
theorem wm1_all : allS (.W [wm1.ty]) wm1 = .ok (wm1, .W wl) := by rw [← wm1_enc]; exact pack_all wm1_good wm1_rg
theorem wl_parse : parseS wl = .ok wm1 := by
  have := parse_back wm1_good wm1_rg []
  rw [List.append_nil, wm1_enc] at this
  rw [this]
  rfl
theorem no_parse : parseS [0] = .error 1 := rfl
theorem wm_arg (w : World) (ok : Nat → Prop) (m : Msg) (h1 : m.log = []) (h2 : m.body = []) (h3 : m.blocks = []) : ArgF w ok m (mcells m none 0 none 0 none 0) :=
  ⟨none, 0, none, 0, none, 0, rfl, by simp [h1], by simp [h2], by simp [h3], by rw [h1]; exact Kd.F_nil _ _ _, by rw [h2]; exact Kd.F_nil _ _ _, by rw [h3]; exact Kd.F_nil _ _ _⟩

set_option maxHeartbeats 4000000 in
theorem wakes_any (w : World) : Calls Try.prog 9 #[] w fun e w' => e = .returned (.bool true) ∧ Below w.heap.size w w' := by
  have HP := Aside0.mk (fun W : World => pack_yes (wm_arg W (fun k => k < W.heap.size) wm1 rfl rfl rfl) wm1_rg wm1_good wm1_all)
  have HK := Aside0.mk (fun W : World => check_any wm2 none 0 none 0 none 0 W (by decide) (by decide) (by decide) (Kd.C_nil _ _) (by decide) (by decide) (Kd.C_nil _ _))
  rw [wm2_chk] at HK
  simp only [mcells, wm1] at HP
  simp only [mcells, wm2] at HK
  go_enter Try.func9, Try.ntmps9
  go_wp2_with fail
  refine (HP.out _).mono ?_
  rintro e w1 ⟨A, c, rfl, hc, hF, hb⟩
  have HB1 := Aside0.mk hb
  have HPA := Aside0.mk (parse_any (w := w1) (A := A) (c := c) (l := wl) hc (by decide) (by decide) (Kd.F_now hF))
  rw [wl_parse] at HPA
  have HC1 := Aside0.mk (Kd.F_now hF)
  have hcl : wl.length = 15 := rfl
  clear hc hF hb HP
  go_wp2_with fail
  refine HPA.out.mono ?_
  rintro e w2 ⟨hb2, cs, rfl, hm⟩
  have HB2 := Aside0.mk (below_step HB1.out hb2)
  have HC2 := Aside0.mk (Kd.C_below HC1.out hb2)
  obtain ⟨A5, c5, A8, c8, A13, c13, rfl, -⟩ := hm
  simp only [mcells, wm1, List.length_nil]
  clear hb2 HPA HC1
  go_wp2_with fail
  have HB3 := Aside0.mk (below_alloc (below_alloc HB2.out (.cells #[.int .u8 14, .int .u64 0, .int .u64 0, .int .i64 0, .int .i64 0, .slice A5 0 c5, .int .u64 0, .int .u64 0, .slice A8 0 c8, .int .u64 1, .int .u8 0, .int .u32 2, .int .i64 3, .slice A13 0 c13] 29)) (.cells #[.int .u8 0] 5))
  have hro := (Kd.R_reads' (R_one (w2.alloc (.cells #[.int .u8 14, .int .u64 0, .int .u64 0, .int .i64 0, .int .i64 0, .slice A5 0 c5, .int .u64 0, .int .u64 0, .slice A8 0 c8, .int .u64 1, .int .u8 0, .int .u32 2, .int .i64 3, .slice A13 0 c13] 29)) (Nat.zero_le _) 0)).2.2
  rw [show (w2.alloc (.cells #[.int .u8 14, .int .u64 0, .int .u64 0, .int .i64 0, .int .i64 0, .slice A5 0 c5, .int .u64 0, .int .u64 0, .slice A8 0 c8, .int .u64 1, .int .u8 0, .int .u32 2, .int .i64 3, .slice A13 0 c13] 29)).heap.size = w2.heap.size + 1 by simp] at hro
  have HM : Aside0 (Blk ((w2.alloc (.cells #[.int .u8 14, .int .u64 0, .int .u64 0, .int .i64 0, .int .i64 0, .slice A5 0 c5, .int .u64 0, .int .u64 0, .slice A8 0 c8, .int .u64 1, .int .u8 0, .int .u32 2, .int .i64 3, .slice A13 0 c13] 29)).alloc (.cells #[.int .u8 0] 5)) w2.heap.size #[.int .u8 14, .int .u64 0, .int .u64 0, .int .i64 0, .int .i64 0, .slice A5 0 c5, .int .u64 0, .int .u64 0, .slice A8 0 c8, .int .u64 1, .int .u8 0, .int .u32 2, .int .i64 3, .slice A13 0 c13] 29) := ⟨(Blk.new w2 _ 29).alloc _⟩
  have HC3 := Aside0.mk (Kd.C_alloc (Kd.C_alloc HC2.out (.cells #[.int .u8 14, .int .u64 0, .int .u64 0, .int .i64 0, .int .i64 0, .slice A5 0 c5, .int .u64 0, .int .u64 0, .slice A8 0 c8, .int .u64 1, .int .u8 0, .int .u32 2, .int .i64 3, .slice A13 0 c13] 29)) (.cells #[.int .u8 0] 5))
  refine (parse_any (l := [0]) (c := 1) (Nat.le_refl 1) (by decide) (by decide) hro).mono ?_
  rw [no_parse]
  rintro e w3 ⟨hb3, cs, rfl, hm⟩
  have HB4 := Aside0.mk (below_step HB3.out hb3)
  have HC4 := Aside0.mk (Kd.C_below HC3.out hb3)
  have hm3 : Blk w3 w2.heap.size _ 29 := (hb3.block _ HM.out.lt).trans HM.out
  have p11 : w3.cell? ⟨w2.heap.size, 11, none⟩ = some (.int .u32 2) := (hm3.cell 11).trans rfl
  have p12 : w3.cell? ⟨w2.heap.size, 12, none⟩ = some (.int .i64 3) := (hm3.cell 12).trans rfl
  have hlt := hm3.lt
  obtain ⟨B5, d5, B8, d8, B13, d13, rfl, -⟩ := hm
  simp only [mcells, zM, List.length_nil]
  have hcv := fun o => Kd.C_string (P := Try.prog) (A := A) (c := c) Try.underlying24 Try.underlying5 Try.underlying9 (Kd.C_alloc HC4.out o)
  rw [hcl] at hcv
  have hsq : (strOfNums wl).toList = [14, 0, 0, 0, 0, 0, 0, 0, 1, 0, 0, 0, 2, 0, 3] := by
    rw [Lib.strOfNums_toList]
    decide
  clear hb3 hm3 hro
  go_wp2_with fail
  refine (HK.out _).mono ?_
  rintro e w4 ⟨rfl, hb4⟩
  have HB5 := Aside0.mk (below_step (below_alloc HB4.out _) hb4)
  clear hb4
  go_wp2_with fail
  go_ret
  exact ⟨rfl, HB5.out⟩
end Go.Proofs.Ytmjbdeoomohanaa.Mine

/- wire: WireBack. -/
set_option linter.unusedSimpArgs false
set_option linter.unusedVariables false
namespace Go.Proofs.Ytmjbdeoomohanaa.Mine
open Go.RowKit Go.Maps Go.Proofs.YtmjbdeoomohanaaW.PrintWords Go.Proofs.YtmjbdeoomohanaaW.PrintLast Go.Proofs.YtmjbdeoomohanaaW.PrintMore Go.Proofs.Ytmjbdeoomohanaa.PWirePacks Go.Proofs.Ytmjbdeoomohanaa.Turn

def Err (x : Int) : Prop := x = 201 ∨ x = 1 ∨ x = 2 ∨ x = 6
theorem step_err {S : St} {bs : List Int} {n : Nat} {x : Int} (h : step S bs n = .error x) : Err x := by
  cases S with
  | W l => cases h
  | R l =>
    simp only [step] at h
    split at h
    · cases h; exact .inl rfl
    · cases h
theorem numS_err {S : St} {n x : Int} {sz : Nat} (h : numS S n sz = .error x) : Err x := by
  unfold numS at h
  split at h
  · rename_i e h1; cases h; exact step_err h1
  · cases h
theorem countS_err {S : St} {n x : Int} {sz : Nat} {most bad : Int} (hb : Err bad) (h : countS S n sz most bad = .error x) : Err x := by
  unfold countS at h
  split at h
  · rename_i e h1; cases h; exact step_err h1
  · split at h
    · cases h; exact hb
    · cases h
theorem textS_err {S : St} {bs : List Int} {x : Int} (h : textS S bs = .error x) : Err x := by
  unfold textS at h
  split at h
  · rename_i e h1; cases h; exact countS_err (.inr (.inr (.inl rfl))) h1
  · exact step_err h
theorem entS_err {S : St} {y : S44} {x : Int} (h : entS S y = .error x) : Err x := by
  unfold entS at h
  split at h
  · rename_i e h1; cases h; exact numS_err h1
  · split at h
    · rename_i e h1; cases h; exact numS_err h1
    · split at h
      · rename_i e h1; cases h; exact textS_err h1
      · cases h
theorem rowG_err {α : Type} {f : St → α → Except Int (α × St)} (hf : ∀ S y x, f S y = .error x → Err x) : ∀ {L : List α} {S : St} {x : Int}, rowG f S L = .error x → Err x
  | [], S, x, h => by cases h
  | y :: ys, S, x, h => by
    simp only [rowG] at h
    split at h
    · rename_i e h1; cases h; exact hf _ _ _ h1
    · split at h
      · rename_i e h1; cases h; exact rowG_err hf h1
      · cases h
theorem logS_err {S : St} {l : List S44} {x : Int} (h : logS S l = .error x) : Err x := by
  unfold logS at h
  split at h
  · rename_i e h1; cases h; exact countS_err (.inr (.inr (.inl rfl))) h1
  · rw [rowL_G] at h
    exact rowG_err (fun _ _ _ => entS_err) h
theorem blocksS_err {S : St} {l : List (List Int)} {x : Int} (h : blocksS S l = .error x) : Err x := by
  unfold blocksS at h
  split at h
  · rename_i e h1; cases h; exact countS_err (.inr (.inr (.inl rfl))) h1
  · split at h
    · cases h; exact .inl rfl
    · rw [rowS_G] at h
      exact rowG_err (fun _ _ _ => step_err) h
theorem thenS_err {α : Type} {x : Except Int (α × St)} {f : α → Msg} {e : Int} (h : thenS x f = .error e) : x = .error e := by
  rcases x with e1 | ⟨r, S1⟩
  · simp only [thenS, Except.error.injEq] at h
    rw [h]
  · cases h
theorem fieldS_err {k : Nat} (hk : k < 13) {S : St} {m : Msg} {x : Int} (h : fieldS k S m = .error x) : Err x := by
  have hd : k = 0 ∨ k = 1 ∨ k = 2 ∨ k = 3 ∨ k = 4 ∨ k = 5 ∨ k = 6 ∨ k = 7 ∨ k = 8 ∨ k = 9 ∨ k = 10 ∨ k = 11 ∨ k = 12 := by omega
  rcases hd with rfl | rfl | rfl | rfl | rfl | rfl | rfl | rfl | rfl | rfl | rfl | rfl | rfl <;> have h1 := thenS_err h
  case inr.inr.inr.inr.inl => exact logS_err h1
  case inr.inr.inr.inr.inr.inr.inr.inl => exact textS_err h1
  case inr.inr.inr.inr.inr.inr.inr.inr.inr.inr.inr.inr => exact blocksS_err h1
  all_goals first
    | exact numS_err h1
    | exact countS_err (.inr (.inl rfl)) h1
theorem goS_err (h : Nat) : ∀ {n k : Nat} {S : St} {m : Msg} {x : Int}, n + k ≤ 13 → goS h n k S m = .error x → Err x
  | 0, k, S, m, x, _, hs => by cases hs
  | n + 1, k, S, m, x, hn, hs => by
    simp only [goS] at hs
    split at hs
    · split at hs
      · rename_i e h1; cases hs; exact fieldS_err (by omega) h1
      · exact goS_err h (by omega) hs
    · exact goS_err h (by omega) hs
theorem parseS_err {l : List Int} {x : Int} (h : parseS l = .error x) : Err x := by
  unfold parseS at h
  split at h
  · rename_i e h1; cases h; exact numS_err h1
  · split at h
    · cases h; exact .inr (.inl rfl)
    · split at h
      · rename_i e h1; cases h; exact goS_err _ (by omega) h1
      · split at h
        · cases h; exact .inr (.inr (.inr rfl))
        · cases h
theorem Err.ne {x : Int} (h : Err x) : x ≠ 0 := by
  unfold Err at h
  omega
theorem zM_rg : RgM (zM 0) := by
  constructor <;> simp [zM]
theorem arg14 {w : World} {ok : Nat → Prop} {m : Msg} {cs : Array Value} (h : ArgF w ok m cs) : ∃ u0 u1 u2 u3 u4 u5 u6 u7 u8 u9 u10 u11 u12 u13, cs = #[u0, u1, u2, u3, u4, u5, u6, u7, u8, u9, u10, u11, u12, u13] := by
  obtain ⟨A5, c5, A8, c8, A13, c13, rfl, -⟩ := h
  exact ⟨_, _, _, _, _, _, _, _, _, _, _, _, _, _, rfl⟩
theorem check_arg {w : World} {ok : Nat → Prop} {m : Msg} {cs : Array Value} (h : ArgF w ok m cs) (hr : RgM m) : Calls Try.prog 12 #[.agg cs] w fun e w' => e = .returned (.int .i64 (chk m)) ∧ Below w.heap.size w w' := by
  obtain ⟨A5, c5, A8, c8, A13, c13, rfl, -, -, -, f5, f8, f13⟩ := h
  exact check_any m A5 c5 A8 c8 A13 c13 w hr.ty.1 hr.ty.2 hr.log.1 (Kd.F_now f5) hr.body.1 hr.blocks.1 (Kd.F_now f13)
theorem flat_bound {α : Type} {e : α → List Int} {B : Nat} : ∀ (L : List α), (∀ x ∈ L, (e x).length ≤ B) → (L.flatMap e).length ≤ L.length * B
  | [], _ => by simp
  | x :: xs, h => by
    have h1 := h x List.mem_cons_self
    have h2 := flat_bound xs (fun y hy => h y (List.mem_cons_of_mem _ hy))
    rw [List.flatMap_cons, List.length_append, List.length_cons, Nat.add_mul]
    omega
theorem encF_len {k : Nat} (hk : k < 13) {m : Msg} (h : goodF k m) : (encF k m).length ≤ 1048576 := by
  have hd : k = 0 ∨ k = 1 ∨ k = 2 ∨ k = 3 ∨ k = 4 ∨ k = 5 ∨ k = 6 ∨ k = 7 ∨ k = 8 ∨ k = 9 ∨ k = 10 ∨ k = 11 ∨ k = 12 := by omega
  rcases hd with rfl | rfl | rfl | rfl | rfl | rfl | rfl | rfl | rfl | rfl | rfl | rfl | rfl
  case inr.inr.inr.inr.inl =>
    have h1 : goodL m.log := h
    have h2 := flat_bound (e := encE) (B := 2066) m.log (fun x hx => by
      have := (h1.2 x hx).2.2.1
      simp only [encE, encT, List.length_append, be_len]
      omega)
    have h3 := Nat.mul_le_mul_right 2066 h1.1
    simp only [encF, encL, List.length_append, be_len]
    omega
  case inr.inr.inr.inr.inr.inr.inr.inl =>
    have h1 : goodT m.body := h
    have := h1.1
    simp only [encF, encT, List.length_append, be_len]
    omega
  case inr.inr.inr.inr.inr.inr.inr.inr.inr.inr.inr.inr =>
    have h1 : goodBs m.blocks := h
    have h2 := flat_128 m.blocks h1.2
    have h3 := Nat.mul_le_mul_right 128 h1.1
    simp only [encF, encBs, List.length_append, be_len]
    omega
  all_goals
    simp only [encF, be_len]
    omega
theorem enc_len {m : Msg} (h : GoodM m) (r : RgM m) : (enc m).length ≤ 16777216 := by
  have key : ∀ (n k : Nat), n + k ≤ 13 → (encG (hasB m.ty) n k m).length ≤ n * 1048576 := by
    intro n
    induction n with
    | zero => intro k _; exact Nat.zero_le _
    | succ n ih =>
      intro k hk
      have h1 := ih (k + 1) (by omega)
      have h2 := encF_len (k := k) (by omega) (good_fields h r k (by omega))
      simp only [encG, List.length_append]
      split
      · omega
      · simp only [List.length_nil]; omega
  have := key 13 0 (by omega)
  simp only [enc, List.length_cons]
  omega

/-- The first half of WireBack: what is packed is parsed. -/
def HalfB (w wx : World) : Prop := Below w.heap.size w wx

set_option maxHeartbeats 8000000 in
set_option maxRecDepth 100000 in
theorem wireBack_any {w : World} {m : Msg} {cs : Array Value} (hm : ArgF w (fun k => k < w.heap.size) m cs) (hr : RgM m) (A : Option Addr) (c : Nat) (l : List Int) (hl : l.length ≤ c) (hC : Kd.C (Kd.int .u8) w A l.length l) (hb : Byt l) :
    Calls Try.prog 5 #[.agg cs, .slice A l.length c] w fun e w' => e = .returned (.bool true) ∧ Below w.heap.size w w' := by
  obtain ⟨u0, u1, u2, u3, u4, u5, u6, u7, u8, u9, u10, u11, u12, u13, rfl⟩ := arg14 hm
  have HR := Aside0.mk hr
  have HL := Aside0.mk hl
  have HC := Aside0.mk hC
  have HBY := Aside0.mk hb
  have HB0 := Aside0.mk (below_alloc (Below.refl w.heap.size w) (.cells #[u0, u1, u2, u3, u4, u5, u6, u7, u8, u9, u10, u11, u12, u13] 29))
  have HM0 := Aside0.mk ((hm.below HB0.out).mono (fun k hk => hk.2))
  have HX0 := Aside0.mk (Blk.new w #[u0, u1, u2, u3, u4, u5, u6, u7, u8, u9, u10, u11, u12, u13] 29)
  clear hr hl hC hb hm
  go_enter Try.func5, Try.ntmps5
  go_wp2_with fail
  refine (great_any m _ _ HM0.out (by have := HR.out.log.1; omega) HR.out.blocks.1).mono ?_
  rintro e w1 ⟨q, rfl, hb1⟩
  have HB1 := Aside0.mk (below_step HB0.out hb1)
  have HM1 := Aside0.mk ((HM0.out.below hb1).mono (fun k hk => hk.1))
  have hx1 : Blk w1 w.heap.size #[u0, u1, u2, u3, u4, u5, u6, u7, u8, u9, u10, u11, u12, u13] 29 := (hb1.block _ HX0.out.lt).trans HX0.out
  have HX1 := Aside0.mk hx1
  have hx10 : World.cell? w1 ⟨w.heap.size, 0, none⟩ = some (u0) := Blk.cell hx1 0
  have hx11 : World.cell? w1 ⟨w.heap.size, 1, none⟩ = some (u1) := Blk.cell hx1 1
  have hx12 : World.cell? w1 ⟨w.heap.size, 2, none⟩ = some (u2) := Blk.cell hx1 2
  have hx13 : World.cell? w1 ⟨w.heap.size, 3, none⟩ = some (u3) := Blk.cell hx1 3
  have hx14 : World.cell? w1 ⟨w.heap.size, 4, none⟩ = some (u4) := Blk.cell hx1 4
  have hx15 : World.cell? w1 ⟨w.heap.size, 5, none⟩ = some (u5) := Blk.cell hx1 5
  have hx16 : World.cell? w1 ⟨w.heap.size, 6, none⟩ = some (u6) := Blk.cell hx1 6
  have hx17 : World.cell? w1 ⟨w.heap.size, 7, none⟩ = some (u7) := Blk.cell hx1 7
  have hx18 : World.cell? w1 ⟨w.heap.size, 8, none⟩ = some (u8) := Blk.cell hx1 8
  have hx19 : World.cell? w1 ⟨w.heap.size, 9, none⟩ = some (u9) := Blk.cell hx1 9
  have hx110 : World.cell? w1 ⟨w.heap.size, 10, none⟩ = some (u10) := Blk.cell hx1 10
  have hx111 : World.cell? w1 ⟨w.heap.size, 11, none⟩ = some (u11) := Blk.cell hx1 11
  have hx112 : World.cell? w1 ⟨w.heap.size, 12, none⟩ = some (u12) := Blk.cell hx1 12
  have hx113 : World.cell? w1 ⟨w.heap.size, 13, none⟩ = some (u13) := Blk.cell hx1 13
  have hlt1 := hx1.lt
  clear hb1 hx1
  cases q with
  | true =>
    go_wp2_with fail
    refine (wakes_any _).mono ?_
    rintro e w2 ⟨rfl, hb2⟩
    have HB2 := Aside0.mk (below_step HB1.out hb2)
    clear hb2
    go_wp2_with fail
    go_ret
    exact ⟨rfl, HB2.out⟩
  | false =>
    by_cases h18 : 262144 < l.length
    · have h18' : decide ((262144 : Int) < (l.length : Int)) = true := by simp; omega
      clear h18
      go_wp2_with fail
      refine (wakes_any _).mono ?_
      rintro e w2 ⟨rfl, hb2⟩
      have HB2 := Aside0.mk (below_step HB1.out hb2)
      clear hb2
      go_wp2_with fail
      go_ret
      exact ⟨rfl, HB2.out⟩
    · have HL18 : Aside0 (l.length ≤ 262144) := ⟨by omega⟩
      clear h18
      have h18' : decide ((262144 : Int) < (l.length : Int)) = false := by have := HL18.out; simp; omega
      have hch : chk m ≠ 0 ∨ chk m = 0 := by omega
      rcases hch with hch | hch
      all_goals first
        | (have hne0 : chk m ≠ 0 := hch
           obtain ⟨E, hE⟩ : ∃ E, chk m = E := ⟨_, rfl⟩
           rw [hE] at hch
           have HE := Aside0.mk hE
           have e1 : (E != 0) = true := bne_iff_ne.2 hch
           have e2 : (E == 0) = false := beq_eq_false_iff_ne.2 hch
           have HNE := Aside0.mk hch
           clear hE hch
           go_wp2_with fail
           refine (pack_no HM1.out HR.out HE.out HNE.out).mono ?_
           rintro e w2 ⟨rfl, hb2⟩
           have HB2 := Aside0.mk (below_step HB1.out hb2)
           have HM2 := Aside0.mk ((HM1.out.below hb2).mono (fun k hk => hk.1))
           have hx2 : Blk w2 w.heap.size #[u0, u1, u2, u3, u4, u5, u6, u7, u8, u9, u10, u11, u12, u13] 29 := (hb2.block _ HX1.out.lt).trans HX1.out
           have HX2 := Aside0.mk hx2
           have hx20 : World.cell? w2 ⟨w.heap.size, 0, none⟩ = some (u0) := Blk.cell hx2 0
           have hx21 : World.cell? w2 ⟨w.heap.size, 1, none⟩ = some (u1) := Blk.cell hx2 1
           have hx22 : World.cell? w2 ⟨w.heap.size, 2, none⟩ = some (u2) := Blk.cell hx2 2
           have hx23 : World.cell? w2 ⟨w.heap.size, 3, none⟩ = some (u3) := Blk.cell hx2 3
           have hx24 : World.cell? w2 ⟨w.heap.size, 4, none⟩ = some (u4) := Blk.cell hx2 4
           have hx25 : World.cell? w2 ⟨w.heap.size, 5, none⟩ = some (u5) := Blk.cell hx2 5
           have hx26 : World.cell? w2 ⟨w.heap.size, 6, none⟩ = some (u6) := Blk.cell hx2 6
           have hx27 : World.cell? w2 ⟨w.heap.size, 7, none⟩ = some (u7) := Blk.cell hx2 7
           have hx28 : World.cell? w2 ⟨w.heap.size, 8, none⟩ = some (u8) := Blk.cell hx2 8
           have hx29 : World.cell? w2 ⟨w.heap.size, 9, none⟩ = some (u9) := Blk.cell hx2 9
           have hx210 : World.cell? w2 ⟨w.heap.size, 10, none⟩ = some (u10) := Blk.cell hx2 10
           have hx211 : World.cell? w2 ⟨w.heap.size, 11, none⟩ = some (u11) := Blk.cell hx2 11
           have hx212 : World.cell? w2 ⟨w.heap.size, 12, none⟩ = some (u12) := Blk.cell hx2 12
           have hx213 : World.cell? w2 ⟨w.heap.size, 13, none⟩ = some (u13) := Blk.cell hx2 13
           have hlt2 := hx2.lt
           clear hb2 hx2 hx10 hx11 hx12 hx13 hx14 hx15 hx16 hx17 hx18 hx19 hx110 hx111 hx112 hx113 hlt1
           go_wp2_with fail
           refine (check_arg HM2.out HR.out).mono ?_
           rintro e wq ⟨rfl, hb3⟩
           rw [HE.out]
           have HB := Aside0.mk (below_step HB2.out hb3)
           clear hb3 hx20 hx21 hx22 hx23 hx24 hx25 hx26 hx27 hx28 hx29 hx210 hx211 hx212 hx213 hlt2
           go_wp2_with fail
           clear HE e1 e2 HNE HM2 HX2 HB2)
        | (have HG := Aside0.mk ((chk_good m).1 hch)
           have HE := Aside0.mk hch
           clear hch
           have HAL := Aside0.mk (pack_all HG.out HR.out)
           have HPB := Aside0.mk (parse_back HG.out HR.out [])
           have HEL := Aside0.mk (enc_len HG.out HR.out)
           have HEB := Aside0.mk (enc_bytes HG.out HR.out)
           rw [List.append_nil] at HPB
           generalize enc m = bs at *
           go_wp2_with fail
           refine (pack_yes (HM1.out.mono (fun k hk => Nat.lt_of_lt_of_le hk HB1.out.size)) HR.out HG.out HAL.out).mono ?_
           rintro e w2 ⟨A2, c2, rfl, hc2, hF2, hb2⟩
           have HB2 := Aside0.mk (below_step HB1.out hb2)
           have HM2 := Aside0.mk ((HM1.out.below hb2).mono (fun k hk => hk.1))
           have hx2 : Blk w2 w.heap.size #[u0, u1, u2, u3, u4, u5, u6, u7, u8, u9, u10, u11, u12, u13] 29 := (hb2.block _ HX1.out.lt).trans HX1.out
           have HX2 := Aside0.mk hx2
           have HC2 := Aside0.mk (Kd.F_now hF2)
           have HL2 := Aside0.mk hc2
           have hx20 : World.cell? w2 ⟨w.heap.size, 0, none⟩ = some (u0) := Blk.cell hx2 0
           have hx21 : World.cell? w2 ⟨w.heap.size, 1, none⟩ = some (u1) := Blk.cell hx2 1
           have hx22 : World.cell? w2 ⟨w.heap.size, 2, none⟩ = some (u2) := Blk.cell hx2 2
           have hx23 : World.cell? w2 ⟨w.heap.size, 3, none⟩ = some (u3) := Blk.cell hx2 3
           have hx24 : World.cell? w2 ⟨w.heap.size, 4, none⟩ = some (u4) := Blk.cell hx2 4
           have hx25 : World.cell? w2 ⟨w.heap.size, 5, none⟩ = some (u5) := Blk.cell hx2 5
           have hx26 : World.cell? w2 ⟨w.heap.size, 6, none⟩ = some (u6) := Blk.cell hx2 6
           have hx27 : World.cell? w2 ⟨w.heap.size, 7, none⟩ = some (u7) := Blk.cell hx2 7
           have hx28 : World.cell? w2 ⟨w.heap.size, 8, none⟩ = some (u8) := Blk.cell hx2 8
           have hx29 : World.cell? w2 ⟨w.heap.size, 9, none⟩ = some (u9) := Blk.cell hx2 9
           have hx210 : World.cell? w2 ⟨w.heap.size, 10, none⟩ = some (u10) := Blk.cell hx2 10
           have hx211 : World.cell? w2 ⟨w.heap.size, 11, none⟩ = some (u11) := Blk.cell hx2 11
           have hx212 : World.cell? w2 ⟨w.heap.size, 12, none⟩ = some (u12) := Blk.cell hx2 12
           have hx213 : World.cell? w2 ⟨w.heap.size, 13, none⟩ = some (u13) := Blk.cell hx2 13
           have hlt2 := hx2.lt
           clear hb2 hx2 hF2 hc2 hx10 hx11 hx12 hx13 hx14 hx15 hx16 hx17 hx18 hx19 hx110 hx111 hx112 hx113 hlt1
           go_wp2_with fail
           refine (check_arg HM2.out HR.out).mono ?_
           rintro e w3 ⟨rfl, hb3⟩
           rw [HE.out]
           have HB3 := Aside0.mk (below_step HB2.out hb3)
           have HM3 := Aside0.mk ((HM2.out.below hb3).mono (fun k hk => hk.1))
           have hx3 : Blk w3 w.heap.size #[u0, u1, u2, u3, u4, u5, u6, u7, u8, u9, u10, u11, u12, u13] 29 := (hb3.block _ HX2.out.lt).trans HX2.out
           have HX3 := Aside0.mk hx3
           have HC3 := Aside0.mk (Kd.C_below HC2.out hb3)
           clear hb3 hx3 hx20 hx21 hx22 hx23 hx24 hx25 hx26 hx27 hx28 hx29 hx210 hx211 hx212 hx213 hlt2
           go_wp2_with fail
           refine (parse_any HL2.out (by have := HEL.out; omega) HEB.out HC3.out).mono ?_
           rw [HPB.out]
           rintro e w4 ⟨hb4, cs4, rfl, hm4⟩
           have hm5 := hm4
           obtain ⟨B5, d5, B8, d8, B13, d13, rfl, -⟩ := hm5
           have HB4 := Aside0.mk (below_step HB3.out hb4)
           have HM4 := Aside0.mk ((HM3.out.below hb4).mono (fun k hk => hk.1))
           have hx4 : Blk w4 w.heap.size #[u0, u1, u2, u3, u4, u5, u6, u7, u8, u9, u10, u11, u12, u13] 29 := (hb4.block _ HX3.out.lt).trans HX3.out
           have HX4 := Aside0.mk hx4
           have HV4 := Aside0.mk hm4
           have hx40 : World.cell? w4 ⟨w.heap.size, 0, none⟩ = some (u0) := Blk.cell hx4 0
           have hx41 : World.cell? w4 ⟨w.heap.size, 1, none⟩ = some (u1) := Blk.cell hx4 1
           have hx42 : World.cell? w4 ⟨w.heap.size, 2, none⟩ = some (u2) := Blk.cell hx4 2
           have hx43 : World.cell? w4 ⟨w.heap.size, 3, none⟩ = some (u3) := Blk.cell hx4 3
           have hx44 : World.cell? w4 ⟨w.heap.size, 4, none⟩ = some (u4) := Blk.cell hx4 4
           have hx45 : World.cell? w4 ⟨w.heap.size, 5, none⟩ = some (u5) := Blk.cell hx4 5
           have hx46 : World.cell? w4 ⟨w.heap.size, 6, none⟩ = some (u6) := Blk.cell hx4 6
           have hx47 : World.cell? w4 ⟨w.heap.size, 7, none⟩ = some (u7) := Blk.cell hx4 7
           have hx48 : World.cell? w4 ⟨w.heap.size, 8, none⟩ = some (u8) := Blk.cell hx4 8
           have hx49 : World.cell? w4 ⟨w.heap.size, 9, none⟩ = some (u9) := Blk.cell hx4 9
           have hx410 : World.cell? w4 ⟨w.heap.size, 10, none⟩ = some (u10) := Blk.cell hx4 10
           have hx411 : World.cell? w4 ⟨w.heap.size, 11, none⟩ = some (u11) := Blk.cell hx4 11
           have hx412 : World.cell? w4 ⟨w.heap.size, 12, none⟩ = some (u12) := Blk.cell hx4 12
           have hx413 : World.cell? w4 ⟨w.heap.size, 13, none⟩ = some (u13) := Blk.cell hx4 13
           have hlt4 := hx4.lt
           clear hb4 hx4 hm4
           simp only [mcells] at HV4 ⊢
           go_wp2_with fail
           have HV5 := Aside0.mk ((HV4.out.below (below_alloc (Below.refl _ w4) (.cells #[.int .u8 m.ty, .int .u64 m.view, .int .u64 m.normal, .int .i64 m.op, .int .i64 m.commit, .slice B5 m.log.length d5, .int .u64 m.client, .int .u64 m.seq, .slice B8 m.body.length d8, .int .u64 m.key, .int .u8 m.shard, .int .u32 m.stripe, .int .i64 m.code, .slice B13 m.blocks.length d13] 29))).mono (fun k hk => hk.1))
           have HM5 := Aside0.mk ((HM4.out.below (below_alloc (Below.refl _ w4) (.cells #[.int .u8 m.ty, .int .u64 m.view, .int .u64 m.normal, .int .i64 m.op, .int .i64 m.commit, .slice B5 m.log.length d5, .int .u64 m.client, .int .u64 m.seq, .slice B8 m.body.length d8, .int .u64 m.key, .int .u8 m.shard, .int .u32 m.stripe, .int .i64 m.code, .slice B13 m.blocks.length d13] 29))).mono (fun k hk => hk.1))
           refine (same_any m m _ _ _ HV5.out HM5.out HR.out.log.1 HR.out.blocks.1).mono ?_
           rw [(sameM_iff HR.out HR.out).2 rfl]
           rintro e wq ⟨rfl, hb6⟩
           have HB := Aside0.mk (below_step (below_alloc HB4.out _) hb6)
           clear hb6 hx40 hx41 hx42 hx43 hx44 hx45 hx46 hx47 hx48 hx49 hx410 hx411 hx412 hx413 hlt4
           go_wp2_with fail
           clear HG HE HAL HPB HEL HEB HB2 HM2 HX2 HC2 HL2 HB3 HM3 HX3 HC3 HB4 HM4 HX4 HV4 HV5 HM5)
      all_goals
        clear HM0 HX0 HM1 HX1 HB1 HB0 h18'
        refine (parse_any HL.out (by have := HL18.out; omega) HBY.out (Kd.C_below HC.out HB.out)).mono ?_
        obtain ⟨y, hy⟩ : ∃ y, parseS l = y := ⟨_, rfl⟩
        rw [hy]
        have HY := Aside0.mk hy
        clear hy
        cases y with
        | error y =>
          rintro e wr ⟨hbr, cs9, rfl, hm9⟩
          have hne := (parseS_err HY.out).ne
          have e1 : (y != 0) = true := bne_iff_ne.2 hne
          have HBR := Aside0.mk (below_step HB.out hbr)
          have hm8 := hm9
          obtain ⟨B5, d5, B8, d8, B13, d13, rfl, -⟩ := hm8
          have HM9 := Aside0.mk hm9
          clear hbr hm9 hne HY
          simp only [mcells, zM, List.length_nil] at HM9 ⊢
          go_wp2_with fail
          have HMA := Aside0.mk (HM9.out.below (below_alloc (Below.refl _ wr) (.cells #[.int .u8 0, .int .u64 0, .int .u64 0, .int .i64 0, .int .i64 0, .slice B5 0 d5, .int .u64 0, .int .u64 0, .slice B8 0 d8, .int .u64 0, .int .u8 0, .int .u32 0, .int .i64 0, .slice B13 0 d13] 29)))
          refine (same_any (zM 0) (zM 0) _ _ _ HMA.out (zM_arg _ (fun _ => True)) (by decide) (by decide)).mono ?_
          rw [(sameM_iff zM_rg zM_rg).2 rfl]
          rintro e wt ⟨rfl, hbt⟩
          have HBT := Aside0.mk (below_step (below_alloc HBR.out (.cells #[.int .u8 0, .int .u64 0, .int .u64 0, .int .i64 0, .int .i64 0, .slice B5 0 d5, .int .u64 0, .int .u64 0, .slice B8 0 d8, .int .u64 0, .int .u8 0, .int .u32 0, .int .i64 0, .slice B13 0 d13] 29)) hbt)
          clear hbt HMA HM9 HBR
          go_wp2_with fail
          refine (wakes_any _).mono ?_
          rintro e wu ⟨rfl, hbu⟩
          have HBU := Aside0.mk (below_step HBT.out hbu)
          clear hbu
          go_wp2_with fail
          go_ret
          exact ⟨rfl, HBU.out⟩
        | ok y =>
          obtain ⟨hg9, hr9, hl9⟩ := parse_read HBY.out HY.out
          have HAL := Aside0.mk (pack_all hg9 hr9)
          rw [← hl9] at HAL
          have HG9 := Aside0.mk hg9
          have HR9 := Aside0.mk hr9
          rintro e wr ⟨hbr, cs9, rfl, hm9⟩
          have HBR := Aside0.mk (below_step HB.out hbr)
          have hm8 := hm9
          obtain ⟨B5, d5, B8, d8, B13, d13, rfl, -⟩ := hm8
          have HM9 := Aside0.mk hm9
          clear hbr hm9 hg9 hr9 hl9 HY
          simp only [mcells] at HM9 ⊢
          go_wp2_with fail
          have HMA := Aside0.mk ((HM9.out.below (below_alloc (Below.refl _ wr) (.cells #[.int .u8 y.ty, .int .u64 y.view, .int .u64 y.normal, .int .i64 y.op, .int .i64 y.commit, .slice B5 y.log.length d5, .int .u64 y.client, .int .u64 y.seq, .slice B8 y.body.length d8, .int .u64 y.key, .int .u8 y.shard, .int .u32 y.stripe, .int .i64 y.code, .slice B13 y.blocks.length d13] 29))).mono (fun k hk => Nat.lt_trans hk.2 (by simp : wr.heap.size < (wr.alloc (.cells #[.int .u8 y.ty, .int .u64 y.view, .int .u64 y.normal, .int .i64 y.op, .int .i64 y.commit, .slice B5 y.log.length d5, .int .u64 y.client, .int .u64 y.seq, .slice B8 y.body.length d8, .int .u64 y.key, .int .u8 y.shard, .int .u32 y.stripe, .int .i64 y.code, .slice B13 y.blocks.length d13] 29)).heap.size)))
          refine (pack_yes HMA.out HR9.out HG9.out HAL.out).mono ?_
          rintro e wt ⟨A7, c7, rfl, hc7, hF7, hbt⟩
          have HBT := Aside0.mk (below_step (below_alloc HBR.out (.cells #[.int .u8 y.ty, .int .u64 y.view, .int .u64 y.normal, .int .i64 y.op, .int .i64 y.commit, .slice B5 y.log.length d5, .int .u64 y.client, .int .u64 y.seq, .slice B8 y.body.length d8, .int .u64 y.key, .int .u8 y.shard, .int .u32 y.stripe, .int .i64 y.code, .slice B13 y.blocks.length d13] 29)) hbt)
          have hcv1 := Kd.C_string (P := Try.prog) (A := A7) (c := c7) Try.underlying24 Try.underlying5 Try.underlying9 (Kd.F_now hF7)
          have hcv2 := Kd.C_string (P := Try.prog) (A := A) (c := c) Try.underlying24 Try.underlying5 Try.underlying9 (Kd.C_below HC.out HBT.out)
          clear hbt hF7 hc7 HMA HM9 HBR
          go_wp2_with fail
          refine (wakes_any _).mono ?_
          rintro e wu ⟨rfl, hbu⟩
          have HBU := Aside0.mk (below_step HBT.out hbu)
          clear hbu
          go_wp2_with fail
          go_ret
          exact ⟨rfl, HBU.out⟩
end Go.Proofs.Ytmjbdeoomohanaa.Mine

/- wire: the document's Pack (printed by wip/gen/wireRf.py). -/
set_option linter.unusedSimpArgs false
set_option linter.unusedVariables false
namespace Go.Proofs.Ytmjbdeoomohanaa.Mine
open Go.RowKit Go.Maps Go.Proofs.YtmjbdeoomohanaaW.PrintWords Go.Proofs.YtmjbdeoomohanaaW.PrintLast Go.Proofs.YtmjbdeoomohanaaW.PrintMore Go.Proofs.Ytmjbdeoomohanaa.PWirePacks Go.Proofs.Ytmjbdeoomohanaa.Turn

set_option maxHeartbeats 2000000 in
theorem packR_no {w : World} {m : Msg} {cs : Array Value} {ok : Nat → Prop} (h : ArgF w ok m cs) (hr : RgM m) (hne : chk m ≠ 0) :
    Calls Try.prog 15 #[.agg cs] w fun en w' => en = .returned (.tuple #[.slice none 0 0, .int .i64 (chk m)]) ∧ Below w.heap.size w w' := by
  have HM := Aside0.mk h
  obtain ⟨A5, c5, A8, c8, A13, c13, rfl, h1, h2, h3, f5, f8, f13⟩ := h
  have HC := Aside0.mk (fun (W : World) (hb : Below w.heap.size w W) => checkR_any (HM.out.below hb) hr)
  have HX := Aside0.mk (Blk.new w (mcells m A5 c5 A8 c8 A13 c13) 29)
  have HA := Aside0.mk (below_alloc (Below.refl w.heap.size w) (.cells (mcells m A5 c5 A8 c8 A13 c13) 29))
  have hbq : (chk m != 0) = true := bne_iff_ne.2 hne
  generalize chk m = e at *
  clear f5 f8 f13 hne h1 h2 h3 hr HM
  unfold mcells at HC HX HA ⊢
  go_enter Try.func15, Try.ntmps15
  go_wp2_with fail
  refine (HC.out _ HA.out).mono ?_
  rintro en w1 ⟨rfl, hb⟩
  have HB := Aside0.mk (below_step HA.out hb)
  clear hb
  go_wp2_with fail
  go_ret2
  exact ⟨rfl, HB.out⟩

set_option maxHeartbeats 16000000 in
set_option maxRecDepth 100000 in
theorem packR_yes {w : World} {m : Msg} {cs : Array Value} (h : ArgF w (fun k => k < w.heap.size) m cs) (hr : RgM m) (hg : GoodM m) :
    Calls Try.prog 15 #[.agg cs] w fun en w' => ∃ v, en = .returned (.tuple #[v, .int .i64 0]) ∧ Kd.R (Kd.int .u8) 5 w' w.heap.size (fun _ => True) v (enc m) ∧ Below w.heap.size w w' := by
  have HM := Aside0.mk h
  obtain ⟨A5, c5, A8, c8, A13, c13, rfl, h1, h2, h3, f5, f8, f13⟩ := h
  have HC := Aside0.mk (fun (W : World) (hb : Below w.heap.size w W) => checkR_any (HM.out.below hb) hr)
  rw [(chk_good m).2 hg] at HC
  have HX := Aside0.mk (Blk.new w (mcells m A5 c5 A8 c8 A13 c13) 29)
  have HA := Aside0.mk (below_alloc (Below.refl w.heap.size w) (.cells (mcells m A5 c5 A8 c8 A13 c13) 29))
  have HH := Aside0.mk (fun (W : World) => hasR_any m.ty hr.ty.1 hr.ty.2 W)
  obtain ⟨hf, hhf⟩ : ∃ f, f = (hasB m.ty).testBit := ⟨_, rfl⟩
  rw [← hhf] at HH
  obtain ⟨E, hE⟩ : ∃ E, enc m = E := ⟨_, rfl⟩
  have HLEN := Aside0.mk (enc_len hg hr)
  obtain ⟨ef, hef⟩ : ∃ f : Nat → List Int, f = (fun k => encF k m) := ⟨_, rfl⟩
  obtain ⟨G, hG⟩ : ∃ G : Nat → List Int, G = (fun k => encG (hasB m.ty) (13 - k) k m) := ⟨_, rfl⟩
  have HG0 : Aside0 (m.ty :: G 0 = E) := ⟨by rw [hG, ← hE]; rfl⟩
  have HG1 : Aside0 (G 13 = []) := ⟨by rw [hG]; rfl⟩
  have HGY : Aside0 (∀ k, k < 13 → hf k = true → G k = ef k ++ G (k + 1)) := ⟨fun k hk ht => by
    rw [hG, hef]
    simp only
    rw [show 13 - k = (13 - (k + 1)) + 1 by omega, encG, ← hhf, if_pos ht]⟩
  have HGN : Aside0 (∀ k, k < 13 → hf k = false → G k = G (k + 1)) := ⟨fun k hk ht => by
    rw [hG]
    simp only
    rw [show 13 - k = (13 - (k + 1)) + 1 by omega, encG, ← hhf, if_neg (by rw [ht]; simp), List.nil_append]⟩
  have HFLD := Aside0.mk (fun (W : World) (v : Value) (l : List Int) (k : Nat) (hk : k < 13) (hb : Below w.heap.size w W) (hR : Kd.R (Kd.int .u8) 5 W w.heap.size (fun _ => True) v l) (hok : ∀ j, j < w.heap.size → some j ≠ v.ownBlock) (hl : l.length ≤ 1099511627776) =>
    fieldR_any hk hb hR ((HM.out.below hb).mono (fun k hk => hk.2)) hok (good_fields hg hr k hk) hl)
  have HFL2 := Aside0.mk (fun (W : World) (v : Value) (l : List Int) (k : Nat) (hk : k < 13) (hb : Below w.heap.size w W) (hR : Kd.R (Kd.int .u8) 5 W w.heap.size (fun _ => True) v l) (hok : ∀ j, j < w.heap.size → some j ≠ v.ownBlock) (hl : l.length ≤ 1099511627776) =>
    (show LayE w W v (l ++ encF k m) = LayE w W v (l ++ ef k) by rw [hef]) ▸ HFLD.out W v l k hk hb hR hok hl)
  clear HFLD
  rw [hE] at HLEN ⊢
  clear hE hG hef hhf hg hr f5 f8 f13 h1 h2 h3 HM
  obtain ⟨x0, x1, x2, x3, x4, x5, x6, x7, x8, x9, x10, x11, x12, x13⟩ := m
  unfold mcells at *
  simp only at HX HA HC HH HG0 HFL2 ⊢
  go_enter Try.func15, Try.ntmps15
  go_wp2_with fail
  refine (HC.out _ HA.out).mono ?_
  rintro en w1 ⟨rfl, hb1⟩
  have HB1 := Aside0.mk (below_step HA.out hb1)
  have hx1 : Blk w1 w.heap.size #[.int .u8 x0, .int .u64 x1, .int .u64 x2, .int .i64 x3, .int .i64 x4, .slice A5 x5.length c5, .int .u64 x6, .int .u64 x7, .slice A8 x8.length c8, .int .u64 x9, .int .u8 x10, .int .u32 x11, .int .i64 x12, .slice A13 x13.length c13] 29 := (hb1.block _ HX.out.lt).trans HX.out
  have HX1 := Aside0.mk hx1
  have p0 : w1.cell? ⟨w.heap.size, 0, none⟩ = some (.int .u8 x0) := (hx1.cell 0).trans rfl
  have hlt1 := hx1.lt
  clear hb1 hx1 HC HX HA
  go_wp2_with fail
  refine (HH.out _).mono ?_
  rintro en w2 ⟨rfl, hb2⟩
  have HB2 := Aside0.mk (below_step HB1.out hb2)
  have hx2 : Blk w2 w.heap.size #[.int .u8 x0, .int .u64 x1, .int .u64 x2, .int .i64 x3, .int .i64 x4, .slice A5 x5.length c5, .int .u64 x6, .int .u64 x7, .slice A8 x8.length c8, .int .u64 x9, .int .u8 x10, .int .u32 x11, .int .i64 x12, .slice A13 x13.length c13] 29 := (hb2.block _ HX1.out.lt).trans HX1.out
  have HX2 := Aside0.mk hx2
  have p1 : w2.cell? ⟨w.heap.size, 0, none⟩ = some (.int .u8 x0) := (hx2.cell 0).trans rfl
  have hlt2 := hx2.lt
  clear hb2 hx2
  go_wp2_with fail
  rw [store58 _ _ (by rfl)]
  simp only [Result.andThen]
  have hy3 := Blk.new w2 (boolsV hf) 58
  have hx3 := HX2.out.alloc (.cells (boolsV hf) 58)
  have HB3 := Aside0.mk (below_alloc HB2.out (.cells (boolsV hf) 58))
  generalize w2.alloc (.cells (boolsV hf) 58) = w3 at *
  have HX3 := Aside0.mk hx3
  have HY3 := Aside0.mk hy3
  have hlx := hx3.lt
  have hly := hy3.lt
  have p2 : w3.cell? ⟨w.heap.size, 0, none⟩ = some (.int .u8 x0) := (hx3.cell 0).trans rfl
  clear hx3 hy3
  go_wp2_with fail
  have HS0 : Aside0 (LayS w (w3.alloc (.cells #[.int .u8 x0] 5)) (.slice (some ⟨w3.heap.size, 0, none⟩) 1 1) [x0] (.slice (some ⟨w3.heap.size, 0, none⟩) 1 1) (w3.alloc (.cells #[.int .u8 x0] 5))) :=
    ⟨LayS.start (below_alloc HB3.out _) (Kd.R_mono (R_one w3 (Nat.le_of_lt hlx) x0) (fun _ _ => trivial))⟩
  have HX4 := Aside0.mk (HX3.out.alloc (.cells #[.int .u8 x0] 5))
  have HY4 := Aside0.mk (HY3.out.alloc (.cells #[.int .u8 x0] 5))
  clear p0 p1 p2
  go_loopw [6, 7] (fun v i wr => ∃ (k : Nat) (l : List Int), k ≤ 13 ∧ i = .int .i64 k ∧ Aside0 (LayS w (w3.alloc (.cells #[.int .u8 x0] 5)) (.slice (some ⟨w3.heap.size, 0, none⟩) 1 1) l v wr) ∧ Aside0 (l ++ G k = E)) (fun _ i _ => 13 - (intOf i).toNat)
  case atStart => exact ⟨0, [x0], by omega, rfl, HS0, ⟨HG0.out⟩⟩
  case round =>
    obtain ⟨k, l, hk, rfl, HS, HE⟩ := hrel
    obtain ⟨A0, c0, hv0⟩ := HS.out.len
    subst hv0
    have hxr := HS.out.blk HS0.out.any HX4.out (by decide)
    have hyr := HS.out.blk HS0.out.any HY4.out (by decide)
    have hlxr := hxr.lt
    have hlyr := hyr.lt
    by_cases hlt : k < 13
    · have ch : wr.cell? ⟨w2.heap.size, k, none⟩ = some (.bool (hf k)) := (hyr.cell k).trans (boolsV_at hf hlt)
      have hxr0 : World.cell? wr ⟨w.heap.size, 0, none⟩ = some (.int .u8 x0) := Blk.cell hxr 0
      have hxr1 : World.cell? wr ⟨w.heap.size, 1, none⟩ = some (.int .u64 x1) := Blk.cell hxr 1
      have hxr2 : World.cell? wr ⟨w.heap.size, 2, none⟩ = some (.int .u64 x2) := Blk.cell hxr 2
      have hxr3 : World.cell? wr ⟨w.heap.size, 3, none⟩ = some (.int .i64 x3) := Blk.cell hxr 3
      have hxr4 : World.cell? wr ⟨w.heap.size, 4, none⟩ = some (.int .i64 x4) := Blk.cell hxr 4
      have hxr5 : World.cell? wr ⟨w.heap.size, 5, none⟩ = some (.slice A5 x5.length c5) := Blk.cell hxr 5
      have hxr6 : World.cell? wr ⟨w.heap.size, 6, none⟩ = some (.int .u64 x6) := Blk.cell hxr 6
      have hxr7 : World.cell? wr ⟨w.heap.size, 7, none⟩ = some (.int .u64 x7) := Blk.cell hxr 7
      have hxr8 : World.cell? wr ⟨w.heap.size, 8, none⟩ = some (.slice A8 x8.length c8) := Blk.cell hxr 8
      have hxr9 : World.cell? wr ⟨w.heap.size, 9, none⟩ = some (.int .u64 x9) := Blk.cell hxr 9
      have hxr10 : World.cell? wr ⟨w.heap.size, 10, none⟩ = some (.int .u8 x10) := Blk.cell hxr 10
      have hxr11 : World.cell? wr ⟨w.heap.size, 11, none⟩ = some (.int .u32 x11) := Blk.cell hxr 11
      have hxr12 : World.cell? wr ⟨w.heap.size, 12, none⟩ = some (.int .i64 x12) := Blk.cell hxr 12
      have hxr13 : World.cell? wr ⟨w.heap.size, 13, none⟩ = some (.slice A13 x13.length c13) := Blk.cell hxr 13
      have HY := Aside0.mk (HGY.out k hlt)
      have HN := Aside0.mk (HGN.out k hlt)
      have HOK : Aside0 (∀ j, j < w.heap.size → some j ≠ (Value.slice A0 l.length c0).ownBlock) := ⟨fun j hj e => by
        rcases HS.out.row.1 j e.symm with h | h
        · simp only [Value.ownBlock] at h
          cases h
          omega
        · have := show (w3.alloc (.cells #[.int .u8 x0] 5)).heap.size = w3.heap.size + 1 by simp
          omega⟩
      have HLE : Aside0 (l.length ≤ 1099511627776) := ⟨by
        have h1 := congrArg List.length HE.out
        rw [List.length_append] at h1
        have := HLEN.out
        omega⟩
      clear hxr hyr
      generalize hf k = p at *
      cases p
      · go_wp2_with fail
        go_roundw
        case rel => exact ⟨k + 1, l, by omega, by go_num, HS, ⟨by rw [← HN.out rfl]; exact HE.out⟩⟩
        case measure => simp [intOf]; omega
      · go_wp2_with fail
        refine (HFL2.out _ _ l k hlt HS.out.below HS.out.any HOK.out HLE.out).mono ?_
        rintro en w5 hL
        obtain ⟨v5, rfl, hS5⟩ := hL.S
        have HS5 := Aside0.mk (HS.out.trans hS5)
        have HE5 : Aside0 ((l ++ ef k) ++ G (k + 1) = E) := ⟨by rw [List.append_assoc, ← HY.out (by simp)]; exact HE.out⟩
        obtain ⟨l5, hl5⟩ : ∃ l5, l ++ ef k = l5 := ⟨_, rfl⟩
        rw [hl5] at HS5 HE5
        clear hl5
        obtain ⟨A6, c6, hv6⟩ := HS5.out.len
        subst hv6
        clear hL hS5
        go_wp2_with fail
        go_roundw
        case rel => exact ⟨k + 1, l5, by omega, by go_num, HS5, HE5⟩
        case measure => simp [intOf]; omega
    · have hkk : k = 13 := by omega
      subst hkk
      have HL : Aside0 (l = E) := ⟨by rw [← HE.out, HG1.out, List.append_nil]⟩
      clear hxr hyr
      go_wp2_with fail
      go_ret2
      exact ⟨_, rfl, by rw [← HL.out]; exact HS.out.any, HS.out.below⟩
end Go.Proofs.Ytmjbdeoomohanaa.Mine

/- wire: what is spoilt. -/
set_option linter.unusedSimpArgs false
set_option linter.unusedVariables false
namespace Go.Proofs.Ytmjbdeoomohanaa.Mine
open Go.RowKit Go.Maps Go.Proofs.YtmjbdeoomohanaaW.PrintWords Go.Proofs.YtmjbdeoomohanaaW.PrintLast Go.Proofs.YtmjbdeoomohanaaW.PrintMore Go.Proofs.Ytmjbdeoomohanaa.PWirePacks Go.Proofs.Ytmjbdeoomohanaa.Turn

/-- A world like w but for integers in the blocks of S. -/
structure Sim (S : Nat → Prop) (w w' : World) : Prop where
  int : ∀ p k x, w.cell? p = some (.int k x) → ∃ y, w'.cell? p = some (.int k y)
  other : ∀ p v, w.cell? p = some v → (∀ k x, v ≠ .int k x) → w'.cell? p = some v
  free : ∀ p, w'.frozen? p = w.frozen? p
  turn : Turned S w w'
theorem Sim.refl (S : Nat → Prop) (w : World) : Sim S w w := ⟨fun p k x h => ⟨x, h⟩, fun p v h _ => h, fun p => rfl, Turned.refl _ _⟩
theorem Sim.drewN {S : Nat → Prop} {w w' : World} (h : Sim S w w') (n : Nat) : Sim S w (w'.drewN n) := ⟨h.int, h.other, h.free, h.turn.drewN n⟩
theorem Sim.drew {S : Nat → Prop} {w w' : World} (h : Sim S w w') : Sim S w w'.drew := ⟨h.int, h.other, h.free, h.turn.drew⟩
theorem Sim.set {S : Nat → Prop} {w w' : World} (h : Sim S w w') {p : Addr} {k : IntKind} {x : Int} (hc : w'.cell? p = some (.int k x)) (hp : S p.block) (y : Int) : Sim S w (w'.setCell p (.int k y)) := by
  refine ⟨fun q k2 x2 hq => ?_, fun q v hq hv => ?_, fun q => (World.frozen?_setCell _ _ _ _).trans (h.free q), h.turn.setCell (.inl hp) _⟩
  · by_cases e : p = q
    · subst e
      obtain ⟨y2, h2⟩ := h.int p k2 x2 hq
      rw [hc] at h2
      cases h2
      exact ⟨y, World.cell?_setCell_same _ _ _ hc⟩
    · obtain ⟨y2, h2⟩ := h.int q k2 x2 hq
      exact ⟨y2, (World.cell?_setCell_other _ _ _ _ e).trans h2⟩
  · have h2 := h.other q v hq hv
    have e : p ≠ q := fun e => by
      subst e
      rw [hc] at h2
      cases h2
      exact hv _ _ rfl
    exact (World.cell?_setCell_other _ _ _ _ e).trans h2
theorem Sim.then_ {S : Nat → Prop} {w w1 w2 : World} (h : Sim S w w1) (k : Sim S w1 w2) : Sim S w w2 :=
  ⟨fun p q x hx => by
    obtain ⟨y, hy⟩ := h.int p q x hx
    exact k.int p q y hy, fun p v hv hn => k.other p v (h.other p v hv hn) hn, fun p => (k.free p).trans (h.free p), h.turn.then_ k.turn (fun _ hk => .inl hk)⟩

theorem blkAdd (a : Addr) (n : Nat) : (a.add n).block = a.block := by unfold Addr.add; split <;> rfl
theorem at_B {w : World} {A : Option Addr} {n : Nat} {l : List Int} (h : (Kd.int .u8).C w A n l) {i : Nat} (hi : i < n) : ∃ ad, A = some ad ∧ w.cell? (ad.add i) = some (.int .u8 (l.getD i 0)) := by
  obtain ⟨ad, c, e, _, hK, hc0⟩ := Kd.C_get h (0 : Int) (i : Int) (by omega) (by omega)
  have hK' : c = [.int .u8 (l.getD i 0)] := hK
  subst hK'
  have : w.cell? (ad.add (i * 1 + 0)) = _ := hc0 0 _ rfl
  rw [Nat.mul_one, Nat.add_zero] at this
  exact ⟨ad, e, this⟩

section
variable {S : Nat → Prop} {w wr : World} {A : Option Addr} {n : Nat}
theorem F_okE {l : List S44} (hF : Kd.F k44 w S A n l) {k : Nat} (hk : k < l.length) : ∃ ad A2 c2, A = some ad ∧ w.cell? (ad.add (k * 3)) = some (.int .u64 l[k].f0) ∧ w.cell? ⟨(ad.add (k * 3)).block, (ad.add (k * 3)).off + 1, none⟩ = some (.int .u64 l[k].f1) ∧ w.cell? ⟨(ad.add (k * 3)).block, (ad.add (k * 3)).off + 2, none⟩ = some (.slice A2 l[k].f2.length c2) ∧ l[k].f2.length ≤ c2 ∧ S ad.block ∧ ∀ q, q < l[k].f2.length → ∃ a2, A2 = some a2 ∧ w.cell? (a2.add q) = some (.int .u8 (l[k].f2.getD q 0)) ∧ S a2.block := by
  have hn := Kd.F_len hF
  subst hn
  obtain ⟨ad, A2, c2, rfl, y0, y1, y2, y3, y4⟩ := at_T44 (Kd.F_now hF) (k : Int) (by omega) (by omega)
  rw [rd44' l hk, Int.toNat_natCast] at y0 y1 y2
  rw [rd44' l hk] at y3 y4
  have hS : S ad.block := Classical.byContradiction fun hn => by
    obtain ⟨W', hW, hE⟩ := Kd.emptied w ad.block
    have hC := hF W' (fun j hj _ => hW j (fun e => hn (e ▸ hj)))
    obtain ⟨ad', A2', c2', e, z0, -⟩ := at_T44 hC (k : Int) (by omega) (by omega)
    cases e
    rw [hE _ (blkAdd _ _)] at z0
    cases z0
  refine ⟨ad, A2, c2, rfl, y0, y1, y2, y3, hS, fun q hq => ?_⟩
  obtain ⟨a2, rfl, hb⟩ := at_B y4 hq
  refine ⟨a2, rfl, hb, Classical.byContradiction fun hn => ?_⟩
  obtain ⟨W', hW, hE⟩ := Kd.emptied w a2.block
  have hC := hF W' (fun j hj _ => hW j (fun e => hn (e ▸ hj)))
  obtain ⟨ad', A2', c2', e, -, -, z2, -, z4⟩ := at_T44 hC (k : Int) (by omega) (by omega)
  cases e
  rw [rd44' l hk, Int.toNat_natCast] at z2
  rw [rd44' l hk] at z4
  have hne : ad.block ≠ a2.block := fun e => hn (e ▸ hS)
  have hcell := World.cell?_of_block (a := ⟨(ad.add (k * 3)).block, (ad.add (k * 3)).off + 2, none⟩) (show W'.heap[(ad.add (k * 3)).block]? = w.heap[(ad.add (k * 3)).block]? by rw [blkAdd]; exact hW ad.block hne)
  rw [hcell, y2] at z2
  cases z2
  obtain ⟨a3, e3, hb3⟩ := at_B z4 hq
  cases e3
  rw [hE _ (blkAdd _ _)] at hb3
  cases hb3
theorem F_okB {l : List (List Int)} (hF : Kd.F (Kd.slice 5 (Kd.int .u8)) w S A n l) {k : Nat} (hk : k < l.length) : ∃ ad A2 c2, A = some ad ∧ w.cell? (ad.add k) = some (.slice A2 l[k].length c2) ∧ l[k].length ≤ c2 ∧ S ad.block ∧ ∀ q, q < l[k].length → ∃ a2, A2 = some a2 ∧ w.cell? (a2.add q) = some (.int .u8 (l[k].getD q 0)) ∧ S a2.block := by
  have hn := Kd.F_len hF
  subst hn
  obtain ⟨ad, A2, c2, rfl, y2, y3, y4⟩ := at_L2 (Kd.F_now hF) (k : Int) (by omega) (by omega)
  rw [rdL2' l hk, Int.toNat_natCast] at y2
  rw [rdL2' l hk] at y3 y4
  have hS : S ad.block := Classical.byContradiction fun hn => by
    obtain ⟨W', hW, hE⟩ := Kd.emptied w ad.block
    have hC := hF W' (fun j hj _ => hW j (fun e => hn (e ▸ hj)))
    obtain ⟨ad', A2', c2', e, z0, -⟩ := at_L2 hC (k : Int) (by omega) (by omega)
    cases e
    rw [hE _ (blkAdd _ _)] at z0
    cases z0
  refine ⟨ad, A2, c2, rfl, y2, y3, hS, fun q hq => ?_⟩
  obtain ⟨a2, rfl, hb⟩ := at_B y4 hq
  refine ⟨a2, rfl, hb, Classical.byContradiction fun hn => ?_⟩
  obtain ⟨W', hW, hE⟩ := Kd.emptied w a2.block
  have hC := hF W' (fun j hj _ => hW j (fun e => hn (e ▸ hj)))
  obtain ⟨ad', A2', c2', e, z2, -, z4⟩ := at_L2 hC (k : Int) (by omega) (by omega)
  cases e
  rw [rdL2' l hk, Int.toNat_natCast] at z2
  rw [rdL2' l hk] at z4
  have hne : ad.block ≠ a2.block := fun e => hn (e ▸ hS)
  have hcell := World.cell?_of_block (a := ad.add k) (show W'.heap[(ad.add k).block]? = w.heap[(ad.add k).block]? by rw [blkAdd]; exact hW ad.block hne)
  rw [hcell, y2] at z2
  cases z2
  obtain ⟨a3, e3, hb3⟩ := at_B z4 hq
  cases e3
  rw [hE _ (blkAdd _ _)] at hb3
  cases hb3
theorem F_okI {l : List Int} (hF : Kd.F (Kd.int .u8) w S A n l) {q : Nat} (hq : q < l.length) : ∃ a2, A = some a2 ∧ w.cell? (a2.add q) = some (.int .u8 (l.getD q 0)) ∧ S a2.block := by
  have hn := Kd.F_len hF
  subst hn
  obtain ⟨a2, rfl, hb⟩ := at_B (Kd.F_now hF) hq
  refine ⟨a2, rfl, hb, Classical.byContradiction fun hn => ?_⟩
  obtain ⟨W', hW, hE⟩ := Kd.emptied w a2.block
  have hC := hF W' (fun j hj _ => hW j (fun e => hn (e ▸ hj)))
  obtain ⟨a3, e3, hb3⟩ := at_B hC hq
  cases e3
  rw [hE _ (blkAdd _ _)] at hb3
  cases hb3
/-- The same in a world that is like it. -/
theorem Sim.entry (hs : Sim S w wr) {l : List S44} (hF : Kd.F k44 w S A n l) {k : Nat} (hk : k < l.length) : ∃ ad A2 c2 u0 u1, A = some ad ∧ wr.cell? (ad.add (k * 3)) = some (.int .u64 u0) ∧ wr.cell? ⟨(ad.add (k * 3)).block, (ad.add (k * 3)).off + 1, none⟩ = some (.int .u64 u1) ∧ wr.cell? ⟨(ad.add (k * 3)).block, (ad.add (k * 3)).off + 2, none⟩ = some (.slice A2 l[k].f2.length c2) ∧ l[k].f2.length ≤ c2 ∧ S ad.block ∧ Aside0 (∀ q, q < l[k].f2.length → ∃ a2 u, A2 = some a2 ∧ wr.cell? (a2.add q) = some (.int .u8 u) ∧ S a2.block) := by
  obtain ⟨ad, A2, c2, e, y0, y1, y2, y3, y4, y5⟩ := F_okE hF hk
  obtain ⟨u0, z0⟩ := hs.int _ _ _ y0
  obtain ⟨u1, z1⟩ := hs.int _ _ _ y1
  refine ⟨ad, A2, c2, u0, u1, e, z0, z1, hs.other _ _ y2 (by intro k x h; cases h), y3, y4, ⟨fun q hq => ?_⟩⟩
  obtain ⟨a2, e2, z, hS⟩ := y5 q hq
  obtain ⟨u, z2⟩ := hs.int _ _ _ z
  exact ⟨a2, u, e2, z2, hS⟩
theorem Sim.block (hs : Sim S w wr) {l : List (List Int)} (hF : Kd.F (Kd.slice 5 (Kd.int .u8)) w S A n l) {k : Nat} (hk : k < l.length) : ∃ ad A2 c2, A = some ad ∧ wr.cell? (ad.add k) = some (.slice A2 l[k].length c2) ∧ l[k].length ≤ c2 ∧ S ad.block ∧ Aside0 (∀ q, q < l[k].length → ∃ a2 u, A2 = some a2 ∧ wr.cell? (a2.add q) = some (.int .u8 u) ∧ S a2.block) := by
  obtain ⟨ad, A2, c2, e, y2, y3, y4, y5⟩ := F_okB hF hk
  refine ⟨ad, A2, c2, e, hs.other _ _ y2 (by intro k x h; cases h), y3, y4, ⟨fun q hq => ?_⟩⟩
  obtain ⟨a2, e2, z, hS⟩ := y5 q hq
  obtain ⟨u, z2⟩ := hs.int _ _ _ z
  exact ⟨a2, u, e2, z2, hS⟩
theorem Sim.byte (hs : Sim S w wr) {l : List Int} (hF : Kd.F (Kd.int .u8) w S A n l) {q : Nat} (hq : q < l.length) : ∃ a2 u, A = some a2 ∧ wr.cell? (a2.add q) = some (.int .u8 u) ∧ S a2.block := by
  obtain ⟨a2, e2, z, hS⟩ := F_okI hF hq
  obtain ⟨u, z2⟩ := hs.int _ _ _ z
  exact ⟨a2, u, e2, z2, hS⟩
end
end Go.Proofs.Ytmjbdeoomohanaa.Mine
