import Derived.Test.YtmjbdeoomohanaaWm8

/- wire: the document's Same. -/
set_option linter.unusedSimpArgs false
set_option linter.unusedVariables false
namespace Go.Proofs.Ytmjbdeoomohanaa.Mine
open Go.RowKit Go.Maps Go.Proofs.YtmjbdeoomohanaaW.PrintWords Go.Proofs.YtmjbdeoomohanaaW.PrintLast Go.Proofs.YtmjbdeoomohanaaW.PrintMore Go.Proofs.Ytmjbdeoomohanaa.PWirePacks Go.Proofs.Ytmjbdeoomohanaa.Turn

def scalEq (a b : Msg) : Bool := a.ty == b.ty && (a.view == b.view && (a.normal == b.normal && (a.op == b.op && (a.commit == b.commit && (a.client == b.client && (a.seq == b.seq && (a.key == b.key && (a.shard == b.shard && (a.stripe == b.stripe && a.code == b.code)))))))))
def sameM (a b : Msg) : Bool := scalEq a b && (strEq a.body b.body && (sameL a.log b.log && ((a.blocks.length == b.blocks.length) && allEq strEq a.blocks b.blocks)))
theorem sameM_iff {a b : Msg} (ha : RgM a) (hb : RgM b) : sameM a b = true ↔ a = b := by
  have h1 := strEq_iff ha.body.2 hb.body.2
  have h2 : sameL a.log b.log = true ↔ a.log = b.log := by
    have := allEq_iff (eq := eqE) (a := a.log) (b := b.log) (fun x hx y hy => by
      have := strEq_iff (ha.log.2 x hx).2.2.2.2 (hb.log.2 y hy).2.2.2.2
      obtain ⟨x0, x1, x2⟩ := x
      obtain ⟨y0, y1, y2⟩ := y
      simp only [eqE, Bool.and_eq_true, beq_iff_eq, S44.mk.injEq] at *
      rw [this, and_assoc])
    simp only [sameL, Bool.and_eq_true, beq_iff_eq, this]
    exact ⟨fun h => h.2, fun h => ⟨by rw [h], h⟩⟩
  have h3 : (a.blocks.length == b.blocks.length && allEq strEq a.blocks b.blocks) = true ↔ a.blocks = b.blocks := by
    have := allEq_iff (eq := strEq) (a := a.blocks) (b := b.blocks) (fun x hx y hy => strEq_iff (ha.blocks.2 x hx) (hb.blocks.2 y hy))
    simp only [Bool.and_eq_true, beq_iff_eq, this]
    exact ⟨fun h => h.2, fun h => ⟨by rw [h], h⟩⟩
  unfold sameM scalEq
  simp only [Bool.and_eq_true, beq_iff_eq] at h3 ⊢
  rw [h1, h2, h3]
  constructor
  · rintro ⟨⟨e0, e1, e2, e3, e4, e5, e6, e7, e8, e9, e10⟩, e11, e12, e13⟩
    cases a; cases b
    simp only at *
    simp only [e0, e1, e2, e3, e4, e5, e6, e7, e8, e9, e10, e11, e12, e13]
  · rintro rfl
    simp

theorem rdL2 (l : List (List Int)) {k : Nat} (hk : k < l.length) : rd_L2 l (k : Int) = l[k] := by
  unfold rd_L2
  rw [List.getD_eq_getElem?_getD, Int.toNat_natCast, List.getElem?_eq_getElem hk]
  rfl
set_option maxHeartbeats 8000000 in
set_option maxRecDepth 100000 in
theorem same_any (a b : Msg) (ca cb : Array Value) (w : World) {oka okb : Nat → Prop} (ha : ArgF w oka a ca) (hb : ArgF w okb b cb) (hla : a.log.length ≤ 4611686018427387904) (hlb : a.blocks.length ≤ 4611686018427387904) :
    Calls Try.prog 13 #[.agg ca, .agg cb] w fun e w' => e = .returned (.bool (sameM a b)) ∧ Below w.heap.size w w' := by
  obtain ⟨A5, c5, A8, c8, A13, c13, rfl, -, -, -, f5, f8, f13⟩ := ha
  obtain ⟨B5, d5, B8, d8, B13, d13, rfl, -, -, -, g5, g8, g13⟩ := hb
  have HF5 := Aside0.mk (Kd.F_now f5)
  have HF8 := Aside0.mk (Kd.F_now f8)
  have HF13 := Aside0.mk (Kd.F_now f13)
  have HG5 := Aside0.mk (Kd.F_now g5)
  have HG8 := Aside0.mk (Kd.F_now g8)
  have HG13 := Aside0.mk (Kd.F_now g13)
  have HS := Aside0.mk (sameM.eq_def a b)
  have HQ := Aside0.mk (scalEq.eq_def a b)
  obtain ⟨X, hX⟩ : ∃ X, sameM a b = X := ⟨_, rfl⟩
  obtain ⟨Q, hQ⟩ : ∃ X, scalEq a b = X := ⟨_, rfl⟩
  rw [hX, hQ] at HS
  rw [hQ] at HQ
  rw [hX]
  clear f5 f8 f13 g5 g8 g13 hX hQ
  obtain ⟨x0, x1, x2, x3, x4, x5, x6, x7, x8, x9, x10, x11, x12, x13⟩ := a
  obtain ⟨y0, y1, y2, y3, y4, y5, y6, y7, y8, y9, y10, y11, y12, y13⟩ := b
  unfold mcells
  simp only at HF5 HF8 HF13 HG5 HG8 HG13 HS HQ hla hlb ⊢
  cases Q with
  | false =>
    have HX : Aside0 (X = false) := ⟨HS.out⟩
    clear HS
    go_enter Try.func13, Try.ntmps13
    go_wp2_with fail
    all_goals first
      | (go_ret; exact ⟨by rw [HX.out]; rfl, below_alloc (below_alloc (Below.refl _ _) _) _⟩)
      | (exfalso
         have hq := HQ.out
         rw [‹x0 = y0›, ‹x1 = y1›, ‹x2 = y2›, ‹x3 = y3›, ‹x4 = y4›, ‹x6 = y6›, ‹x7 = y7›, ‹x9 = y9›, ‹x10 = y10›, ‹x11 = y11›, bne_eq_false_iff_eq.1 ‹(x12 != y12) = false›] at hq
         simp at hq)
  | true =>
    have hq := HQ.out
    simp only [Bool.true_eq, Bool.and_eq_true, beq_iff_eq] at hq
    obtain ⟨rfl, rfl, rfl, rfl, rfl, rfl, rfl, rfl, rfl, rfl, rfl⟩ := hq
    have hcv1 := fun o1 o2 => Kd.C_string (P := Try.prog) (A := A8) (c := c8) Try.underlying24 Try.underlying5 Try.underlying9 (Kd.C_alloc (Kd.C_alloc HF8.out o1) o2)
    have hcv2 := fun o1 o2 => Kd.C_string (P := Try.prog) (A := B8) (c := d8) Try.underlying24 Try.underlying5 Try.underlying9 (Kd.C_alloc (Kd.C_alloc HG8.out o1) o2)
    cases qb : ((strOfNums x8).toList == (strOfNums y8).toList) with
    | false =>
      have HX : Aside0 (X = false) := ⟨by rw [HS.out, strEq, qb]; rfl⟩
      have qb' : ((strOfNums x8).toList != (strOfNums y8).toList) = true := by rw [bne, qb]; rfl
      clear HS
      go_enter Try.func13, Try.ntmps13
      go_wp2
      go_ret
      exact ⟨by rw [HX.out]; rfl, below_alloc (below_alloc (Below.refl _ _) _) _⟩
    | true =>
      have qb' : ((strOfNums x8).toList != (strOfNums y8).toList) = false := by rw [bne, qb]; rfl
      have HS1 : Aside0 (X = (sameL x5 y5 && ((x13.length == y13.length) && allEq strEq x13 y13))) := ⟨by rw [HS.out, strEq, qb]; rfl⟩
      have HCL := Aside0.mk (fun o1 o2 => sameLog_any A5 B5 c5 d5 x5 y5 _ hla (Kd.C_alloc (Kd.C_alloc HF5.out o1) o2) (Kd.C_alloc (Kd.C_alloc HG5.out o1) o2))
      generalize sameL x5 y5 = L at HS1 HCL
      have HB := Aside0.mk (fun (W : World) (h : Drawn0 ((w.alloc (.cells #[.int .u8 x0, .int .u64 x1, .int .u64 x2, .int .i64 x3, .int .i64 x4, .slice A5 x5.length c5, .int .u64 x6, .int .u64 x7, .slice A8 x8.length c8, .int .u64 x9, .int .u8 x10, .int .u32 x11, .int .i64 x12, .slice A13 x13.length c13] 29)).alloc (.cells #[.int .u8 x0, .int .u64 x1, .int .u64 x2, .int .i64 x3, .int .i64 x4, .slice B5 y5.length d5, .int .u64 x6, .int .u64 x7, .slice B8 y8.length d8, .int .u64 x9, .int .u8 x10, .int .u32 x11, .int .i64 x12, .slice B13 y13.length d13] 29)) W) => below_step (below_alloc (below_alloc (Below.refl w.heap.size w) _) _) h.below)
      clear HS
      go_enter Try.func13, Try.ntmps13
      go_wp2_with fail
      refine (HCL.out _ _).mono ?_
      rintro e w2 ⟨rfl, ⟨m1, rfl⟩⟩
      cases L with
      | false =>
        have HX : Aside0 (X = false) := ⟨HS1.out⟩
        clear HS1
        go_wp2_with fail
        go_ret
        exact ⟨by rw [HX.out]; rfl, HB.out _ ⟨m1, rfl⟩⟩
      | true =>
        cases ql : (x13.length == y13.length) with
        | false =>
          have HX : Aside0 (X = false) := ⟨by rw [HS1.out, ql]; rfl⟩
          have ql' : ((x13.length : Int) != (y13.length : Int)) = true := by
            have := beq_eq_false_iff_ne.1 ql
            exact bne_iff_ne.2 (by omega)
          clear HS1 ql
          go_wp2_with fail
          go_ret
          exact ⟨by rw [HX.out]; rfl, HB.out _ ⟨m1, rfl⟩⟩
        | true =>
          have HX : Aside0 (X = allEq strEq (x13.drop 0) (y13.drop 0)) := ⟨by rw [HS1.out, ql]; rfl⟩
          have hlen : x13.length = y13.length := by simpa using ql
          have HLEN := Aside0.mk hlen
          have ql' : ((x13.length : Int) != (y13.length : Int)) = false := by
            rw [hlen]
            exact bne_eq_false_iff_eq.2 rfl
          clear HS1 ql hlen
          go_wp2_with fail
          have HFX := Aside0.mk (Kd.C_alloc (Kd.C_alloc HF13.out (.cells #[.int .u8 x0, .int .u64 x1, .int .u64 x2, .int .i64 x3, .int .i64 x4, .slice A5 x5.length c5, .int .u64 x6, .int .u64 x7, .slice A8 x8.length c8, .int .u64 x9, .int .u8 x10, .int .u32 x11, .int .i64 x12, .slice A13 x13.length c13] 29)) (.cells #[.int .u8 x0, .int .u64 x1, .int .u64 x2, .int .i64 x3, .int .i64 x4, .slice B5 y5.length d5, .int .u64 x6, .int .u64 x7, .slice B8 y8.length d8, .int .u64 x9, .int .u8 x10, .int .u32 x11, .int .i64 x12, .slice B13 y13.length d13] 29))
          have HGX := Aside0.mk (Kd.C_alloc (Kd.C_alloc HG13.out (.cells #[.int .u8 x0, .int .u64 x1, .int .u64 x2, .int .i64 x3, .int .i64 x4, .slice A5 x5.length c5, .int .u64 x6, .int .u64 x7, .slice A8 x8.length c8, .int .u64 x9, .int .u8 x10, .int .u32 x11, .int .i64 x12, .slice A13 x13.length c13] 29)) (.cells #[.int .u8 x0, .int .u64 x1, .int .u64 x2, .int .i64 x3, .int .i64 x4, .slice B5 y5.length d5, .int .u64 x6, .int .u64 x7, .slice B8 y8.length d8, .int .u64 x9, .int .u8 x10, .int .u32 x11, .int .i64 x12, .slice B13 y13.length d13] 29))
          have hb1 : Blk ((w.alloc (.cells #[.int .u8 x0, .int .u64 x1, .int .u64 x2, .int .i64 x3, .int .i64 x4, .slice A5 x5.length c5, .int .u64 x6, .int .u64 x7, .slice A8 x8.length c8, .int .u64 x9, .int .u8 x10, .int .u32 x11, .int .i64 x12, .slice A13 x13.length c13] 29)).alloc (.cells #[.int .u8 x0, .int .u64 x1, .int .u64 x2, .int .i64 x3, .int .i64 x4, .slice B5 y5.length d5, .int .u64 x6, .int .u64 x7, .slice B8 y8.length d8, .int .u64 x9, .int .u8 x10, .int .u32 x11, .int .i64 x12, .slice B13 y13.length d13] 29)) w.heap.size _ 29 := (Blk.new w #[.int .u8 x0, .int .u64 x1, .int .u64 x2, .int .i64 x3, .int .i64 x4, .slice A5 x5.length c5, .int .u64 x6, .int .u64 x7, .slice A8 x8.length c8, .int .u64 x9, .int .u8 x10, .int .u32 x11, .int .i64 x12, .slice A13 x13.length c13] 29).alloc _
          have hb2 := Blk.new (w.alloc (.cells #[.int .u8 x0, .int .u64 x1, .int .u64 x2, .int .i64 x3, .int .i64 x4, .slice A5 x5.length c5, .int .u64 x6, .int .u64 x7, .slice A8 x8.length c8, .int .u64 x9, .int .u8 x10, .int .u32 x11, .int .i64 x12, .slice A13 x13.length c13] 29)) #[.int .u8 x0, .int .u64 x1, .int .u64 x2, .int .i64 x3, .int .i64 x4, .slice B5 y5.length d5, .int .u64 x6, .int .u64 x7, .slice B8 y8.length d8, .int .u64 x9, .int .u8 x10, .int .u32 x11, .int .i64 x12, .slice B13 y13.length d13] 29
          rw [show (w.alloc (.cells #[.int .u8 x0, .int .u64 x1, .int .u64 x2, .int .i64 x3, .int .i64 x4, .slice A5 x5.length c5, .int .u64 x6, .int .u64 x7, .slice A8 x8.length c8, .int .u64 x9, .int .u8 x10, .int .u32 x11, .int .i64 x12, .slice A13 x13.length c13] 29)).heap.size = w.heap.size + 1 by simp] at hb2
          have p13 : World.cell? ((w.alloc (.cells #[.int .u8 x0, .int .u64 x1, .int .u64 x2, .int .i64 x3, .int .i64 x4, .slice A5 x5.length c5, .int .u64 x6, .int .u64 x7, .slice A8 x8.length c8, .int .u64 x9, .int .u8 x10, .int .u32 x11, .int .i64 x12, .slice A13 x13.length c13] 29)).alloc (.cells #[.int .u8 x0, .int .u64 x1, .int .u64 x2, .int .i64 x3, .int .i64 x4, .slice B5 y5.length d5, .int .u64 x6, .int .u64 x7, .slice B8 y8.length d8, .int .u64 x9, .int .u8 x10, .int .u32 x11, .int .i64 x12, .slice B13 y13.length d13] 29)) ⟨w.heap.size, 13, none⟩ = some (.slice A13 x13.length c13) := (Blk.cell hb1 13).trans rfl
          have r13 : World.cell? ((w.alloc (.cells #[.int .u8 x0, .int .u64 x1, .int .u64 x2, .int .i64 x3, .int .i64 x4, .slice A5 x5.length c5, .int .u64 x6, .int .u64 x7, .slice A8 x8.length c8, .int .u64 x9, .int .u8 x10, .int .u32 x11, .int .i64 x12, .slice A13 x13.length c13] 29)).alloc (.cells #[.int .u8 x0, .int .u64 x1, .int .u64 x2, .int .i64 x3, .int .i64 x4, .slice B5 y5.length d5, .int .u64 x6, .int .u64 x7, .slice B8 y8.length d8, .int .u64 x9, .int .u8 x10, .int .u32 x11, .int .i64 x12, .slice B13 y13.length d13] 29)) ⟨w.heap.size + 1, 13, none⟩ = some (.slice B13 y13.length d13) := (Blk.cell hb2 13).trans rfl
          have hlt1 := Blk.lt hb1
          have hlt2 := Blk.lt hb2
          clear hb1 hb2 hcv1 hcv2 HCL
          generalize ((w.alloc (.cells #[.int .u8 x0, .int .u64 x1, .int .u64 x2, .int .i64 x3, .int .i64 x4, .slice A5 x5.length c5, .int .u64 x6, .int .u64 x7, .slice A8 x8.length c8, .int .u64 x9, .int .u8 x10, .int .u32 x11, .int .i64 x12, .slice A13 x13.length c13] 29)).alloc (.cells #[.int .u8 x0, .int .u64 x1, .int .u64 x2, .int .i64 x3, .int .i64 x4, .slice B5 y5.length d5, .int .u64 x6, .int .u64 x7, .slice B8 y8.length d8, .int .u64 x9, .int .u8 x10, .int .u32 x11, .int .i64 x12, .slice B13 y13.length d13] 29)) = W at *
          go_loopw [5] (fun i wr => ∃ k : Nat, k ≤ x13.length ∧ i = .int .i64 k ∧ Aside0 (X = allEq strEq (x13.drop k) (y13.drop k)) ∧ Drawn0 W wr) (fun i _ => x13.length - (intOf i).toNat)
          case atStart => exact ⟨0, Nat.zero_le _, rfl, HX, ⟨m1, rfl⟩⟩
          case round =>
            clear HX ql'
            obtain ⟨k, hk, rfl, HX, ⟨m2, rfl⟩⟩ := hrel
            by_cases hlt : k < x13.length
            · obtain ⟨ad, A2, c2, e, x0, hl2, hB2⟩ := at_L2 HFX.out (k : Int) (by omega) (by omega)
              cases e
              obtain ⟨bd, A3, c3, e, y0, hl3, hB3⟩ := at_L2 HGX.out (k : Int) (by omega) (by have := HLEN.out; omega)
              cases e
              rw [Int.toNat_natCast] at x0 y0
              have hltb : k < y13.length := by have := HLEN.out; omega
              have HXS : Aside0 (X = (strEq (rd_L2 x13 k) (rd_L2 y13 k) && allEq strEq (x13.drop (k + 1)) (y13.drop (k + 1)))) := ⟨by rw [HX.out, allEq_step hlt hltb, rdL2 x13 hlt, rdL2 y13 hltb]⟩
              generalize rd_L2 x13 (k : Int) = x at *
              generalize rd_L2 y13 (k : Int) = y at *
              have hcv1 := fun n => Kd.C_string (P := Try.prog) (A := A2) (c := c2) Try.underlying24 Try.underlying5 Try.underlying9 (Kd.C_drewN hB2 n)
              have hcv2 := fun n => Kd.C_string (P := Try.prog) (A := A3) (c := c3) Try.underlying24 Try.underlying5 Try.underlying9 (Kd.C_drewN hB3 n)
              clear hB2 hB3 HX
              have hltd : decide ((k : Int) < (y13.length : Int)) = true := by simpa using hltb
              cases q2 : ((strOfNums x).toList == (strOfNums y).toList) with
              | false =>
                have HY : Aside0 (X = false) := ⟨by rw [HXS.out, strEq, q2]; rfl⟩
                have q2' : ((strOfNums x).toList != (strOfNums y).toList) = true := by rw [bne, q2]; rfl
                clear HXS
                go_wp2
                go_quiet (fail)
                try go_wp2
                go_ret
                exact ⟨by rw [HY.out]; rfl, HB.out _ (by repeat (first | exact Drawn0.refl _ | apply Drawn0.step))⟩
              | true =>
                have HY : Aside0 (X = allEq strEq (x13.drop (k + 1)) (y13.drop (k + 1))) := ⟨by rw [HXS.out, strEq, q2]; rfl⟩
                have q2' : ((strOfNums x).toList != (strOfNums y).toList) = false := by rw [bne, q2]; rfl
                clear HXS
                go_wp2
                go_quiet (fail)
                try go_wp2
                go_roundw
                case rel => exact ⟨k + 1, by omega, by go_num, HY, by repeat (first | exact Drawn0.refl _ | apply Drawn0.step)⟩
                case measure => simp [intOf]; omega
            · have HY : Aside0 (X = true) := ⟨by
                rw [HX.out, List.drop_eq_nil_of_le (by omega), List.drop_eq_nil_of_le (by have := HLEN.out; omega)]
                rfl⟩
              clear HX
              go_wp2
              go_ret
              exact ⟨by rw [HY.out]; rfl, HB.out _ (by repeat (first | exact Drawn0.refl _ | apply Drawn0.step))⟩
end Go.Proofs.Ytmjbdeoomohanaa.Mine
