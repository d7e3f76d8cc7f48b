import Derived.Test.YtmjbdeoomohanaaWm5
import Derived.Test.YtmjbdeoomohanaaPWirePacksx0
import Derived.Test.YtmjbdeoomohanaaWm4

/- wire: the document's field (printed by wip/gen/wireRb.py). -/
set_option linter.unusedSimpArgs false
set_option linter.unusedVariables false
namespace Go.Proofs.Ytmjbdeoomohanaa.Mine
open Go.RowKit Go.Maps Go.Proofs.YtmjbdeoomohanaaW.PrintWords Go.Proofs.YtmjbdeoomohanaaW.PrintLast Go.Proofs.YtmjbdeoomohanaaW.PrintMore Go.Proofs.Ytmjbdeoomohanaa.PWirePacks Go.Proofs.Ytmjbdeoomohanaa.Turn

theorem rd44' (l : List S44) {k : Nat} (hk : k < l.length) : rd_T44 l (k : Int) = l[k] := by
  unfold rd_T44
  rw [List.getD_eq_getElem?_getD, Int.toNat_natCast, List.getElem?_eq_getElem hk]
  rfl
theorem rdL2' (l : List (List Int)) {k : Nat} (hk : k < l.length) : rd_L2 l (k : Int) = l[k] := by
  unfold rd_L2
  rw [List.getD_eq_getElem?_getD, Int.toNat_natCast, List.getElem?_eq_getElem hk]
  rfl
structure LayS (w0 w : World) (v : Value) (r : List Int) (v' : Value) (w' : World) : Prop where
  row : Kd.R (Kd.int .u8) 5 w' w0.heap.size (fun k => some k = v.ownBlock ∨ w.heap.size ≤ k) v' r
  below : Below w0.heap.size w0 w'
  turn : Turned (fun k => some k = v.ownBlock) w w'
section
variable {w0 w w1 w2 : World} {v v1 v2 : Value} {r1 r2 : List Int}
theorem LayE.S {e : Ending} (h : LayE w0 w v r1 e w1) : ∃ v', e = .returned v' ∧ LayS w0 w v r1 v' w1 := by
  obtain ⟨v', he, h1, h2, h3⟩ := h
  exact ⟨v', he, h1, h2, h3⟩
theorem LayS.E (h : LayS w0 w v r1 v1 w1) : LayE w0 w v r1 (.returned v1) w1 := ⟨v1, rfl, h.row, h.below, h.turn⟩
theorem LayS.trans (h : LayS w0 w v r1 v1 w1) (h2 : LayS w0 w1 v1 r2 v2 w2) : LayS w0 w v r2 v2 w2 :=
  ⟨Kd.R_mono h2.row (fun k hk => hk.elim (fun hk => h.row.1 k hk.symm) (fun hk => .inr (Nat.le_trans h.turn.size hk))), h2.below, h.turn.then_ h2.turn (fun k hk => h.row.1 k hk.symm)⟩
theorem LayS.start (hB : Below w0.heap.size w0 w) (hR : Kd.R (Kd.int .u8) 5 w w0.heap.size (fun _ => True) v r1) : LayS w0 w v r1 v w :=
  ⟨Kd.R_mono (Kd.R_tight rfl hR) (fun k hk => .inl hk), hB, Turned.refl _ _⟩
theorem LayS.any (h : LayS w0 w v r1 v1 w1) : Kd.R (Kd.int .u8) 5 w1 w0.heap.size (fun _ => True) v1 r1 := Kd.R_mono h.row (fun _ _ => trivial)
theorem LayE.alloc {o : Obj} {e : Ending} (h : LayE w0 (w.alloc o) v r1 e w1) : LayE w0 w v r1 e w1 := by
  obtain ⟨v', he, h1, h2, h3⟩ := h
  exact ⟨v', he, Kd.R_mono h1 (fun k hk => hk.imp id (fun hk => Nat.le_trans (by simp) hk)), h2, ((Turned.refl _ w).alloc o).then_ h3 (fun k hk => .inl hk)⟩
theorem LayS.blk (h : LayS w0 w v r1 v1 w1) {g t : Nat} {cs : Array Value} (hR : Kd.R (Kd.int .u8) 5 w w0.heap.size (fun _ => True) v r2) (hb : Blk w g cs t) (ht : 5 ≠ t) : Blk w1 g cs t :=
  h.turn.blk hb (fun e => Kd.R_ne hR hb ht e)
theorem LayS.F {α : Type} {d : Kd α} {ok : Nat → Prop} {A : Option Addr} {n : Nat} {xs : List α} (h : LayS w0 w v r1 v1 w1) (hF : Kd.F d w ok A n xs) (hok : ∀ k, ok k → some k ≠ v.ownBlock) : Kd.F d w1 ok A n xs :=
  Kd.F_step hF (fun k hk hlt => h.turn.block k hlt (hok k hk))
theorem LayS.len (h : LayS w0 w v r1 v1 w1) : ∃ A c, v1 = .slice A r1.length c := Kd.R_slice h.row
end
theorem layS_grown {w0 w w1 : World} {v v1 : Value} {r : List Int} {base : Nat} (hbase : base = w0.heap.size) {l : List Int} (hR0 : Kd.R (Kd.int .u8) 5 w base (fun _ => True) v l) (ho : Kd.R (Kd.int .u8) 5 w1 base (fun _ => True) v1 r) (hb : Below base w0 w1) (hg : w.grownBy w1 v.ownBlock) (hat : v1.ownBlock = v.ownBlock ∨ ∃ b, v1.ownBlock = some b ∧ w.heap.size ≤ b) : LayS w0 w v r v1 w1 := by
  subst hbase
  refine ⟨Kd.R_mono (Kd.R_tight rfl ho) (fun k hk => ?_), hb, (Turned.refl _ w).grown hg (fun k hk => .inl hk.symm)⟩
  rcases hat with h | ⟨b, h, hle⟩
  · exact .inl (hk.trans h)
  · rw [h] at hk
    exact .inr (by cases hk; exact hle)

theorem LayS.ent {w0 w w1 : World} {v v1 : Value} {r : List Int} (h : LayS w0 w v r v1 w1) {ok : Nat → Prop} {ad : Addr} {n : Nat} {l : List S44} (hF : Kd.F k44 w ok (some ad) n l) (hn : n = l.length) (hok : ∀ k, ok k → some k ≠ v.ownBlock) {j : Nat} (hj : j < l.length) :
    ∃ A c, w1.cell? (ad.add (j * 3)) = some (.int .u64 l[j].f0) ∧ w1.cell? ⟨(ad.add (j * 3)).block, (ad.add (j * 3)).off + 1, none⟩ = some (.int .u64 l[j].f1) ∧ w1.cell? ⟨(ad.add (j * 3)).block, (ad.add (j * 3)).off + 2, none⟩ = some (.slice A l[j].f2.length c) ∧ l[j].f2.length ≤ c ∧ Aside0 ((Kd.int .u8).C w1 A l[j].f2.length l[j].f2) ∧ (ad.add (j * 3)).block < w1.heap.size := by
  subst hn
  obtain ⟨ad', A, c, e, h0, h1, h2, h3, h4⟩ := at_T44 (Kd.F_now (h.F hF hok)) (j : Int) (by omega) (by omega)
  cases e
  rw [rd44' l hj, Int.toNat_natCast] at h0 h1 h2
  rw [rd44' l hj] at h3 h4
  exact ⟨A, c, h0, h1, h2, h3, ⟨h4⟩, World.block_lt_of_cell? w1 _ h0⟩
theorem LayS.blockAt {w0 w w1 : World} {v v1 : Value} {r : List Int} (h : LayS w0 w v r v1 w1) {ok : Nat → Prop} {ad : Addr} {n : Nat} {l : List (List Int)} (hF : Kd.F (Kd.slice 5 (Kd.int .u8)) w ok (some ad) n l) (hn : n = l.length) (hok : ∀ k, ok k → some k ≠ v.ownBlock) {j : Nat} (hj : j < l.length) :
    ∃ A c, w1.cell? (ad.add j) = some (.slice A l[j].length c) ∧ Aside0 ((Kd.int .u8).C w1 A l[j].length l[j]) ∧ (ad.add j).block < w1.heap.size := by
  subst hn
  obtain ⟨ad', A, c, e, h0, h3, h4⟩ := at_L2 (Kd.F_now (h.F hF hok)) (j : Int) (by omega) (by omega)
  cases e
  rw [rdL2' l hj, Int.toNat_natCast] at h0
  rw [rdL2' l hj] at h4
  exact ⟨A, c, h0, ⟨h4⟩, World.block_lt_of_cell? w1 _ h0⟩
theorem flat_step {α : Type} {e : α → List Int} {l : List α} {j : Nat} (hj : j < l.length) : (l.take (j + 1)).flatMap e = (l.take j).flatMap e ++ e l[j] := by
  rw [List.take_succ_eq_append_getElem hj, List.flatMap_append]
  simp

set_option maxHeartbeats 16000000 in
set_option maxRecDepth 100000 in
theorem fieldR_any {k : Nat} (hk : k < 13) {w0 w : World} {v : Value} {l : List Int} {m : Msg} {cs : Array Value} {ok : Nat → Prop} (hB : Below w0.heap.size w0 w) (hR : Kd.R (Kd.int .u8) 5 w w0.heap.size (fun _ => True) v l) (hm : ArgF w ok m cs) (hok : ∀ k, ok k → some k ≠ v.ownBlock) (hg : goodF k m) (hl : l.length ≤ 1099511627776) :
    Calls Try.prog 30 #[v, .agg cs, .int .i64 k] w (LayE w0 w v (l ++ encF k m)) := by
  obtain ⟨A5, c5, A8, c8, A13, c13, rfl, h1, h2, h3, f5, f8, f13⟩ := hm
  have HB := Aside0.mk (below_alloc hB (.cells (mcells m A5 c5 A8 c8 A13 c13) 29))
  have HR := Aside0.mk (Kd.R_alloc hR (.cells (mcells m A5 c5 A8 c8 A13 c13) 29))
  have HX := Aside0.mk (Blk.new w (mcells m A5 c5 A8 c8 A13 c13) 29)
  have HF5 := Aside0.mk (Kd.F_alloc f5 (.cells (mcells m A5 c5 A8 c8 A13 c13) 29))
  have HF8 := Aside0.mk (Kd.F_alloc f8 (.cells (mcells m A5 c5 A8 c8 A13 c13) 29))
  have HF13 := Aside0.mk (Kd.F_alloc f13 (.cells (mcells m A5 c5 A8 c8 A13 c13) 29))
  have HOK := Aside0.mk hok
  have HL := Aside0.mk hl
  have hl1 : l.length + 8 ≤ 140737488355328 := by omega
  have HL1 := Aside0.mk hl1
  obtain ⟨x0, x1, x2, x3, x4, x5, x6, x7, x8, x9, x10, x11, x12, x13⟩ := m
  unfold mcells at *
  simp only at HB HR HX HF5 HF8 HF13 ⊢
  clear hB hR hok hl hl1 h1 h2 h3 f5 f8 f13
  have hd : k = 0 ∨ k = 1 ∨ k = 2 ∨ k = 3 ∨ k = 4 ∨ k = 5 ∨ k = 6 ∨ k = 7 ∨ k = 8 ∨ k = 9 ∨ k = 10 ∨ k = 11 ∨ k = 12 := by omega
  rcases hd with rfl | rfl | rfl | rfl | rfl | rfl | rfl | rfl | rfl | rfl | rfl | rfl | rfl
  · have hg1 := Aside0.mk (show 0 ≤ x1 ∧ x1 < 256 ^ 8 from hg)
    clear hg
    go_enter Try.func30, Try.ntmps30
    go_wp2_with fail
    refine (lay_any HB.out HR.out x1 hg1.out.1 (by have := hg1.out.2; omega) 8 (by omega) (by have := HL1.out; omega)).mono ?_
    intro e w2 hE
    obtain ⟨v2, rfl, hS⟩ := hE.S
    have HS := Aside0.mk hS
    clear hE hS
    go_wp2_with fail
    go_ret
    exact HS.out.E.alloc
  · have hg1 := Aside0.mk (show 0 ≤ x2 ∧ x2 < 256 ^ 8 from hg)
    clear hg
    go_enter Try.func30, Try.ntmps30
    go_wp2_with fail
    refine (lay_any HB.out HR.out x2 hg1.out.1 (by have := hg1.out.2; omega) 8 (by omega) (by have := HL1.out; omega)).mono ?_
    intro e w2 hE
    obtain ⟨v2, rfl, hS⟩ := hE.S
    have HS := Aside0.mk hS
    clear hE hS
    go_wp2_with fail
    go_ret
    exact HS.out.E.alloc
  · have hg1 := Aside0.mk (show 0 ≤ x3 ∧ x3 ≤ 64 from hg)
    clear hg
    have hw : IntKind.u64.wrap x3 = x3 := by rw [IntKind.wrap_u64]; have := hg1.out; omega
    go_enter Try.func30, Try.ntmps30
    go_wp2_with fail
    refine (lay_any HB.out HR.out x3 hg1.out.1 (by have := hg1.out.2; omega) 1 (by omega) (by have := HL1.out; omega)).mono ?_
    intro e w2 hE
    obtain ⟨v2, rfl, hS⟩ := hE.S
    have HS := Aside0.mk hS
    clear hE hS
    go_wp2_with fail
    go_ret
    exact HS.out.E.alloc
  · have hg1 := Aside0.mk (show 0 ≤ x4 ∧ x4 ≤ 64 from hg)
    clear hg
    have hw : IntKind.u64.wrap x4 = x4 := by rw [IntKind.wrap_u64]; have := hg1.out; omega
    go_enter Try.func30, Try.ntmps30
    go_wp2_with fail
    refine (lay_any HB.out HR.out x4 hg1.out.1 (by have := hg1.out.2; omega) 1 (by omega) (by have := HL1.out; omega)).mono ?_
    intro e w2 hE
    obtain ⟨v2, rfl, hS⟩ := hE.S
    have HS := Aside0.mk hS
    clear hE hS
    go_wp2_with fail
    go_ret
    exact HS.out.E.alloc
  · have hg1 := Aside0.mk (show goodL x5 from hg)
    clear hg
    have hw : IntKind.u64.wrap (x5.length : Int) = x5.length := by rw [IntKind.wrap_u64]; have := hg1.out.1; omega
    have hlen := hg1.out.1
    go_enter Try.func30, Try.ntmps30
    go_wp2_with fail
    refine (lay_any HB.out HR.out x5.length (by omega) (by omega) 1 (by omega) (by have := HL1.out; omega)).mono ?_
    intro e w2 hE
    obtain ⟨v2, rfl, hS⟩ := hE.S
    have HS0 : Aside0 (∃ R, R = l ++ (be (x5.length : Int) 1 ++ (x5.take 0).flatMap encE) ∧ R.length ≤ 1099511627776 + 1 + 2066 * 0 ∧ LayS w0 (w.alloc (.cells #[.int .u8 x0, .int .u64 x1, .int .u64 x2, .int .i64 x3, .int .i64 x4, .slice A5 x5.length c5, .int .u64 x6, .int .u64 x7, .slice A8 x8.length c8, .int .u64 x9, .int .u8 x10, .int .u32 x11, .int .i64 x12, .slice A13 x13.length c13] 29)) v R v2 w2) := ⟨⟨_, by simp, by rw [List.length_append, be_len]; have := HL.out; omega, hS⟩⟩
    clear hE hS
    go_wp2_with fail
    go_loopw [0, 7] (fun b i wr => ∃ j : Nat, j ≤ x5.length ∧ i = .int .i64 j ∧ Aside0 (∃ R, R = l ++ (be (x5.length : Int) 1 ++ (x5.take j).flatMap encE) ∧ R.length ≤ 1099511627776 + 1 + 2066 * j ∧ LayS w0 (w.alloc (.cells #[.int .u8 x0, .int .u64 x1, .int .u64 x2, .int .i64 x3, .int .i64 x4, .slice A5 x5.length c5, .int .u64 x6, .int .u64 x7, .slice A8 x8.length c8, .int .u64 x9, .int .u8 x10, .int .u32 x11, .int .i64 x12, .slice A13 x13.length c13] 29)) v R b wr)) (fun _ i _ => x5.length - (intOf i).toNat)
    case atStart => exact ⟨0, Nat.zero_le _, rfl, HS0⟩
    case round =>
      clear HS0
      obtain ⟨j, hj, rfl, HS⟩ := hrel
      obtain ⟨R, hRe, hRl, hS⟩ := HS.out
      have HRE := Aside0.mk hRe
      obtain ⟨A0, c0, hv0⟩ := hS.len
      subst hv0
      have hx2 := hS.blk HR.out HX.out (by decide)
      have p5 : wr.cell? ⟨w.heap.size, 5, none⟩ = some (.slice A5 x5.length c5) := (Blk.cell hx2 5).trans rfl
      have hlt2 := Blk.lt hx2
      have HSS := Aside0.mk hS
      clear hRe hS hx2 HS
      by_cases hlt : j < x5.length
      · obtain ⟨ad, rfl⟩ : ∃ ad, A5 = some ad := by
          rcases A5 with _ | ad
          · have := C_len0 (Kd.F_now HF5.out)
            rw [this] at hlt
            exact absurd hlt (Nat.not_lt_zero _)
          · exact ⟨ad, rfl⟩
        have HENT : Aside0 (∀ (w9 : World) (v9 : Value) (r9 : List Int), LayS w0 (w.alloc (.cells #[.int .u8 x0, .int .u64 x1, .int .u64 x2, .int .i64 x3, .int .i64 x4, .slice (some ad) x5.length c5, .int .u64 x6, .int .u64 x7, .slice A8 x8.length c8, .int .u64 x9, .int .u8 x10, .int .u32 x11, .int .i64 x12, .slice A13 x13.length c13] 29)) v r9 v9 w9 → _) := ⟨fun w9 v9 r9 h9 => h9.ent HF5.out rfl HOK.out hlt⟩
        have HGE := Aside0.mk (hg1.out.2 _ (List.getElem_mem hlt))
        have HFS := Aside0.mk (flat_step (e := encE) hlt)
        obtain ⟨A2, c2, q0, q1, q2, hl2, HCX, hbl⟩ := HENT.out _ _ _ HSS.out
        generalize x5[j] = x at *
        obtain ⟨⟨b0, b1⟩, ⟨b2, b3⟩, b4, b5⟩ := HGE.out
        have hwf : IntKind.u64.wrap (x.f2.length : Int) = x.f2.length := by rw [IntKind.wrap_u64]; omega
        have HB5 := Aside0.mk b5
        clear b5 HCX
        go_wp2_with fail
        refine (lay_any HSS.out.below HSS.out.any x.f0 b0 (by omega) 8 (by omega) (by omega)).mono ?_
        intro e w3 hE
        obtain ⟨v3, rfl, hS⟩ := hE.S
        have HS3 := Aside0.mk (HSS.out.trans hS)
        have hx3 := HS3.out.blk HR.out HX.out (by decide)
        have p5 : w3.cell? ⟨w.heap.size, 5, none⟩ = some (.slice (some ad) x5.length c5) := (Blk.cell hx3 5).trans rfl
        have hlt3 := Blk.lt hx3
        obtain ⟨A3, c3, q3, q4, q5, hl3, HCX, hbl3⟩ := HENT.out _ _ _ HS3.out
        clear hE hS hx3 HCX
        go_wp2_with fail
        refine (lay_any HS3.out.below HS3.out.any x.f1 b2 (by omega) 8 (by omega) (by rw [List.length_append, be_len]; omega)).mono ?_
        intro e w4 hE
        obtain ⟨v4, rfl, hS⟩ := hE.S
        have HS4 := Aside0.mk (HS3.out.trans hS)
        have hx4 := HS4.out.blk HR.out HX.out (by decide)
        have p5 : w4.cell? ⟨w.heap.size, 5, none⟩ = some (.slice (some ad) x5.length c5) := (Blk.cell hx4 5).trans rfl
        have hlt4 := Blk.lt hx4
        obtain ⟨A4, c4, q6, q7, q8, hl4, HCX, hbl4⟩ := HENT.out _ _ _ HS4.out
        clear hE hS hx4 HCX
        go_wp2_with fail
        refine (lay_any HS4.out.below HS4.out.any x.f2.length (by omega) (by omega) 2 (by omega) (by rw [List.length_append, List.length_append, be_len, be_len]; omega)).mono ?_
        intro e w5 hE
        obtain ⟨v5, rfl, hS⟩ := hE.S
        have HS5 := Aside0.mk (HS4.out.trans hS)
        obtain ⟨A9, c9, hv⟩ := hS.len
        obtain ⟨R2, hR2⟩ : ∃ R2, R ++ be x.f0 8 ++ be x.f1 8 ++ be (x.f2.length : Int) 2 = R2 := ⟨_, rfl⟩
        rw [hR2] at hv HS5
        subst hv
        have hR2l : R2.length = R.length + 18 := by rw [← hR2]; simp only [List.length_append, be_len]
        have HR2 := Aside0.mk hR2
        have HR2L := Aside0.mk hR2l
        have hx5 := HS5.out.blk HR.out HX.out (by decide)
        have p5 : w5.cell? ⟨w.heap.size, 5, none⟩ = some (.slice (some ad) x5.length c5) := (Blk.cell hx5 5).trans rfl
        have hlt5 := Blk.lt hx5
        obtain ⟨A6, c6, q9, q10, q11, hl6, HCX6, hbl6⟩ := HENT.out _ _ _ HS5.out
        clear hE hS hx5 hR2 hR2l
        go_wp2_with (at_builtin; refine Kd.R_append_rows (Kd.int .u8) (w0 := w0) w0.heap.size rfl (.tmp 77) (.tmp 83) 24 5 (.int .u8 0) 1 rfl Try.underlying24 info5 rfl (by decide) (by omega) (.slice A9 R2.length c9) (R2) x.f2 A6 _ c6 (fun _ => True) (fun _ => False) rfl rfl HS5.out.any HCX6.out (fun _ _ h => h) (fun _ h => h.elim) (fun _ _ => trivial) HS5.out.below HS5.out.below.size (by rw [HR2L.out]; omega) ?_; intro v9 w9 ho hb hg9 hat; have HA := Aside0.mk (HS5.out.trans (layS_grown rfl HS5.out.any ho hb hg9 hat)); clear ho hb hg9 hat)
        go_roundw
        case rel => exact ⟨j + 1, by omega, by go_num, ⟨_, by rw [HFS.out, ← HR2.out, HRE.out]; simp [encE, encT, List.append_assoc], by rw [List.length_append, HR2L.out]; omega, HA.out⟩⟩
        case measure => simp [intOf]; omega
      · obtain rfl : j = x5.length := by omega
        have HEND : Aside0 (LayE w0 w v (l ++ encL x5) (.returned (.slice A0 R.length c0)) wr) := ⟨by
          have := HSS.out.E.alloc
          rw [HRE.out, List.take_of_length_le (Nat.le_refl _)] at this
          rw [HRE.out, List.take_of_length_le (Nat.le_refl _)]
          exact this⟩
        clear hRl
        go_wp2_with fail
        go_ret
        exact HEND.out
  · have hg1 := Aside0.mk (show 0 ≤ x6 ∧ x6 < 256 ^ 8 from hg)
    clear hg
    go_enter Try.func30, Try.ntmps30
    go_wp2_with fail
    refine (lay_any HB.out HR.out x6 hg1.out.1 (by have := hg1.out.2; omega) 8 (by omega) (by have := HL1.out; omega)).mono ?_
    intro e w2 hE
    obtain ⟨v2, rfl, hS⟩ := hE.S
    have HS := Aside0.mk hS
    clear hE hS
    go_wp2_with fail
    go_ret
    exact HS.out.E.alloc
  · have hg1 := Aside0.mk (show 0 ≤ x7 ∧ x7 < 256 ^ 8 from hg)
    clear hg
    go_enter Try.func30, Try.ntmps30
    go_wp2_with fail
    refine (lay_any HB.out HR.out x7 hg1.out.1 (by have := hg1.out.2; omega) 8 (by omega) (by have := HL1.out; omega)).mono ?_
    intro e w2 hE
    obtain ⟨v2, rfl, hS⟩ := hE.S
    have HS := Aside0.mk hS
    clear hE hS
    go_wp2_with fail
    go_ret
    exact HS.out.E.alloc
  · have hg1 := Aside0.mk (show goodT x8 from hg)
    clear hg
    have hw : IntKind.u64.wrap (x8.length : Int) = x8.length := by rw [IntKind.wrap_u64]; have := hg1.out.1; omega
    go_enter Try.func30, Try.ntmps30
    go_wp2_with fail
    refine (lay_any HB.out HR.out x8.length (by omega) (by have := hg1.out.1; omega) 2 (by omega) (by have := HL1.out; omega)).mono ?_
    intro e w2 hE
    obtain ⟨v2, rfl, hS⟩ := hE.S
    obtain ⟨A9, c9, hv⟩ := hS.len
    rw [List.length_append, be_len] at hv
    subst hv
    have HS := Aside0.mk hS
    have hx2 := hS.blk HR.out HX.out (by decide)
    have p8 : w2.cell? ⟨w.heap.size, 8, none⟩ = some (.slice A8 x8.length c8) := (Blk.cell hx2 8).trans rfl
    have hlt2 := Blk.lt hx2
    have HC2 := Aside0.mk (Kd.F_now (hS.F HF8.out HOK.out))
    have HLL := Aside0.mk (show (l ++ be (x8.length : Int) 2).length = l.length + 2 by rw [List.length_append, be_len])
    clear hE hS hx2
    go_wp2_with (at_builtin; refine Kd.R_append_rows (Kd.int .u8) (w0 := w0) w0.heap.size rfl (.tmp 106) (.tmp 108) 24 5 (.int .u8 0) 1 rfl Try.underlying24 info5 rfl (by decide) (by omega) (.slice A9 (l.length + 2) c9) (l ++ be (x8.length : Int) 2) x8 A8 _ c8 (fun _ => True) (fun _ => False) rfl rfl HS.out.any HC2.out (fun _ _ h => h) (fun _ h => h.elim) (fun _ _ => trivial) HS.out.below HS.out.below.size (by rw [HLL.out]; have := HL.out; have := hg1.out.1; omega) ?_; intro v9 w9 ho hb hg9 hat; have HA := Aside0.mk (HS.out.trans (layS_grown rfl HS.out.any ho hb hg9 hat)); clear ho hb hg9 hat)
    go_ret
    have hz := HA.out.E.alloc
    rw [List.append_assoc] at hz
    exact hz
  · have hg1 := Aside0.mk (show 0 ≤ x9 ∧ x9 < 256 ^ 8 from hg)
    clear hg
    go_enter Try.func30, Try.ntmps30
    go_wp2_with fail
    refine (lay_any HB.out HR.out x9 hg1.out.1 (by have := hg1.out.2; omega) 8 (by omega) (by have := HL1.out; omega)).mono ?_
    intro e w2 hE
    obtain ⟨v2, rfl, hS⟩ := hE.S
    have HS := Aside0.mk hS
    clear hE hS
    go_wp2_with fail
    go_ret
    exact HS.out.E.alloc
  · have hg1 := Aside0.mk (show 0 ≤ x10 ∧ x10 < 256 ^ 1 from hg)
    clear hg
    have hw : IntKind.u64.wrap x10 = x10 := by rw [IntKind.wrap_u64]; have := hg1.out; omega
    go_enter Try.func30, Try.ntmps30
    go_wp2_with fail
    refine (lay_any HB.out HR.out x10 hg1.out.1 (by have := hg1.out.2; omega) 1 (by omega) (by have := HL1.out; omega)).mono ?_
    intro e w2 hE
    obtain ⟨v2, rfl, hS⟩ := hE.S
    have HS := Aside0.mk hS
    clear hE hS
    go_wp2_with fail
    go_ret
    exact HS.out.E.alloc
  · have hg1 := Aside0.mk (show 0 ≤ x11 ∧ x11 < 256 ^ 4 from hg)
    clear hg
    have hw : IntKind.u64.wrap x11 = x11 := by rw [IntKind.wrap_u64]; have := hg1.out; omega
    go_enter Try.func30, Try.ntmps30
    go_wp2_with fail
    refine (lay_any HB.out HR.out x11 hg1.out.1 (by have := hg1.out.2; omega) 4 (by omega) (by have := HL1.out; omega)).mono ?_
    intro e w2 hE
    obtain ⟨v2, rfl, hS⟩ := hE.S
    have HS := Aside0.mk hS
    clear hE hS
    go_wp2_with fail
    go_ret
    exact HS.out.E.alloc
  · have hg1 := Aside0.mk (show 0 ≤ x12 ∧ x12 < 256 ^ 2 from hg)
    clear hg
    have hw : IntKind.u64.wrap x12 = x12 := by rw [IntKind.wrap_u64]; have := hg1.out; omega
    go_enter Try.func30, Try.ntmps30
    go_wp2_with fail
    refine (lay_any HB.out HR.out x12 hg1.out.1 (by have := hg1.out.2; omega) 2 (by omega) (by have := HL1.out; omega)).mono ?_
    intro e w2 hE
    obtain ⟨v2, rfl, hS⟩ := hE.S
    have HS := Aside0.mk hS
    clear hE hS
    go_wp2_with fail
    go_ret
    exact HS.out.E.alloc
  · have hg1 := Aside0.mk (show goodBs x13 from hg)
    clear hg
    have hw : IntKind.u64.wrap (x13.length : Int) = x13.length := by rw [IntKind.wrap_u64]; have := hg1.out.1; omega
    have hlen := hg1.out.1
    go_enter Try.func30, Try.ntmps30
    go_wp2_with fail
    refine (lay_any HB.out HR.out x13.length (by omega) (by omega) 2 (by omega) (by have := HL1.out; omega)).mono ?_
    intro e w2 hE
    obtain ⟨v2, rfl, hS⟩ := hE.S
    have HS0 : Aside0 (∃ R, R = l ++ (be (x13.length : Int) 2 ++ (x13.take 0).flatMap id) ∧ R.length ≤ 1099511627776 + 2 + 128 * 0 ∧ LayS w0 (w.alloc (.cells #[.int .u8 x0, .int .u64 x1, .int .u64 x2, .int .i64 x3, .int .i64 x4, .slice A5 x5.length c5, .int .u64 x6, .int .u64 x7, .slice A8 x8.length c8, .int .u64 x9, .int .u8 x10, .int .u32 x11, .int .i64 x12, .slice A13 x13.length c13] 29)) v R v2 w2) := ⟨⟨_, by simp, by rw [List.length_append, be_len]; have := HL.out; omega, hS⟩⟩
    clear hE hS
    go_wp2_with fail
    go_loopw [0, 8] (fun b i wr => ∃ j : Nat, j ≤ x13.length ∧ i = .int .i64 j ∧ Aside0 (∃ R, R = l ++ (be (x13.length : Int) 2 ++ (x13.take j).flatMap id) ∧ R.length ≤ 1099511627776 + 2 + 128 * j ∧ LayS w0 (w.alloc (.cells #[.int .u8 x0, .int .u64 x1, .int .u64 x2, .int .i64 x3, .int .i64 x4, .slice A5 x5.length c5, .int .u64 x6, .int .u64 x7, .slice A8 x8.length c8, .int .u64 x9, .int .u8 x10, .int .u32 x11, .int .i64 x12, .slice A13 x13.length c13] 29)) v R b wr)) (fun _ i _ => x13.length - (intOf i).toNat)
    case atStart => exact ⟨0, Nat.zero_le _, rfl, HS0⟩
    case round =>
      clear HS0
      obtain ⟨j, hj, rfl, HS⟩ := hrel
      obtain ⟨R, hRe, hRl, hS⟩ := HS.out
      have HRE := Aside0.mk hRe
      obtain ⟨A9, c9, hv⟩ := hS.len
      subst hv
      have hx2 := hS.blk HR.out HX.out (by decide)
      have p13 : wr.cell? ⟨w.heap.size, 13, none⟩ = some (.slice A13 x13.length c13) := (Blk.cell hx2 13).trans rfl
      have hlt2 := Blk.lt hx2
      have HSS := Aside0.mk hS
      clear hRe hS hx2 HS
      by_cases hlt : j < x13.length
      · obtain ⟨ad, rfl⟩ : ∃ ad, A13 = some ad := by
          rcases A13 with _ | ad
          · have := C_len0 (Kd.F_now HF13.out)
            rw [this] at hlt
            exact absurd hlt (Nat.not_lt_zero _)
          · exact ⟨ad, rfl⟩
        obtain ⟨A2, c2, q0, HCX, hbl⟩ := HSS.out.blockAt HF13.out rfl HOK.out hlt
        have HX128 := Aside0.mk (hg1.out.2 _ (List.getElem_mem hlt)).1
        have HFS := Aside0.mk (flat_step (e := id) hlt)
        generalize x13[j] = x at *
        go_wp2_with (at_builtin; refine Kd.R_append_rows (Kd.int .u8) (w0 := w0) w0.heap.size rfl (.tmp 150) (.tmp 155) 24 5 (.int .u8 0) 1 rfl Try.underlying24 info5 rfl (by decide) (by omega) (.slice A9 R.length c9) (R) x A2 _ c2 (fun _ => True) (fun _ => False) rfl rfl HSS.out.any HCX.out (fun _ _ h => h) (fun _ h => h.elim) (fun _ _ => trivial) HSS.out.below HSS.out.below.size (by rw [HX128.out]; omega) ?_; intro v9 w9 ho hb hg9 hat; have HA := Aside0.mk (HSS.out.trans (layS_grown rfl HSS.out.any ho hb hg9 hat)); clear ho hb hg9 hat)
        go_roundw
        case rel => exact ⟨j + 1, by omega, by go_num, ⟨_, by rw [HFS.out, HRE.out]; simp [List.append_assoc], by rw [List.length_append, HX128.out]; omega, HA.out⟩⟩
        case measure => simp [intOf]; omega
      · obtain rfl : j = x13.length := by omega
        have HEND : Aside0 (LayE w0 w v (l ++ encBs x13) (.returned (.slice A9 R.length c9)) wr) := ⟨by
          have := HSS.out.E.alloc
          rw [HRE.out, List.take_of_length_le (Nat.le_refl _)] at this
          rw [HRE.out, List.take_of_length_le (Nat.le_refl _)]
          exact this⟩
        clear hRl
        go_wp2_with fail
        go_ret
        exact HEND.out
end Go.Proofs.Ytmjbdeoomohanaa.Mine

/- The document's CopiedLog and Copied, as the print laid them (taken out of two printed texts, one of which does not build whole). -/
namespace Go.Proofs.Ytmjbdeoomohanaa.PWirePacks
open Go.RowKit Go.Proofs.YtmjbdeoomohanaaW.PrintWords Go.Proofs.YtmjbdeoomohanaaW.PrintLast Go.Proofs.YtmjbdeoomohanaaW.PrintMore
attribute [local go_sem] max2_int min2_int max_two min_two max_three min_three max_four min_four   -- for this text's walks alone
set_option linter.unusedVariables false
set_option linter.unusedSimpArgs false

/-! ### tabularyref18_CopiedLog: function 19 -/
def tabularyref18_CopiedLog.l0 : Nat → List (S44) → List (S44) → Int → Option ((List (S44)))
  | 0, _, _, _ => none
  | k + 1, x0, x3, x4 => if x4 < (x0.length : Int) then (if 0 ≤ x4 then ((some (([] : List Int) : List Int)).bind fun y127 => (if y127.length + ((rd_T44 x0 x4).f2).length < 140737488355328 then (if x3.length < 3518437208883 then (tabularyref18_CopiedLog.l0 k x0 (x3 ++ [(⟨(rd_T44 x0 x4).f0, (rd_T44 x0 x4).f1, (y127 ++ ((rd_T44 x0 x4).f2))⟩ : S44)]) (wrap64 (x4 + 1))) else (none)) else (none))) else (none)) else (some x3)
def tabularyref18_CopiedLog.f (k : Nat) (l0 : List (S44)) : Option ((List (S44))) := tabularyref18_CopiedLog.l0 k l0 ([] : List (S44)) 0
theorem tabularyref18_CopiedLog.mono_l : ∀ k, (∀ y0 y1 y2, LeO (tabularyref18_CopiedLog.l0 k y0 y1 y2) (tabularyref18_CopiedLog.l0 (k + 1) y0 y1 y2))
  | 0 => fun _ _ _ r h => by simp [tabularyref18_CopiedLog.l0] at h
  | k + 1 => by
    have ih0 := tabularyref18_CopiedLog.mono_l k
    · intro y0 y1 y2
      unfold tabularyref18_CopiedLog.l0
      repeat' first
      | (with_reducible exact ih0 _ _ _)
      | (with_reducible exact LeO.refl _)
      | (with_reducible exact LeO.none _)
      | (with_reducible refine LeO.ite ?_ ?_)
      | (with_reducible refine LeO.bind ?_ (fun _ => ?_))
      | exact ih0 _ _ _
      | exact LeO.none _
      | refine LeO.ite ?_ ?_
      | refine LeO.bind ?_ (fun _ => ?_)
theorem tabularyref18_CopiedLog.mono : ∀ a0 k, LeO (tabularyref18_CopiedLog.f k a0) (tabularyref18_CopiedLog.f (k + 1) a0) := by
  intro a0 k
  have ih0 := tabularyref18_CopiedLog.mono_l k
  unfold tabularyref18_CopiedLog.f
  repeat' first
      | (with_reducible exact ih0 _ _ _)
      | (with_reducible exact LeO.refl _)
      | (with_reducible exact LeO.none _)
      | (with_reducible refine LeO.ite ?_ ?_)
      | (with_reducible refine LeO.bind ?_ (fun _ => ?_))
      | exact ih0 _ _ _
      | exact LeO.none _
      | refine LeO.ite ?_ ?_
      | refine LeO.bind ?_ (fun _ => ?_)
set_option maxHeartbeats 8000000 in
set_option maxRecDepth 100000 in
theorem tabularyref18_CopiedLog.calls (k : Nat) (A0 : Option Addr) (c0 : Nat) (l0 : List (S44)) (r : List (S44)) (w : World) (hr0 : Kd.C k44 w A0 l0.length l0) (hc0 : l0.length ≤ c0) (h : tabularyref18_CopiedLog.f k l0 = some r) :
    Calls Try.prog 19 #[.slice A0 l0.length c0] w fun e w' => ∃ v0_ : Value, e = .returned (v0_) ∧ Kd.S k44 44 w' w.heap.size (fun _ => True) v0_ r ∧ Below w.heap.size w w' := by
  have hu44 := Try.underlying44
  have HR0 := Aside0.mk hr0
  have HC0 := Aside0.mk hc0
  clear hr0 hc0
  have HB := Aside0.mk (Below.refl w.heap.size w)
  have H : (tabularyref18_CopiedLog.l0 k l0 ([] : List (S44)) 0) = some r := h
  clear h
  have H' := Aside0.mk H
  clear H
  go_enter Try.func19, Try.ntmps19
  go_wp2
  go_loopg [3, 4] k (fun kq v3 v4 w' => ∃ (x3_1 : List (S44)) (x4_1 : Int), v4 = .int .i64 x4_1 ∧ Aside0 (tabularyref18_CopiedLog.l0 kq l0 x3_1 x4_1 = some r) ∧ Aside0 (kq ≤ k) ∧ Aside0 (Kd.S k44 44 w' w.heap.size (fun _ => True) v3 x3_1) ∧ Aside0 (Below w.heap.size w w'))
  case atStart => exact ⟨(([] : List (S44))), (0), (by first | rfl | (simp; done) | (simp [*]; done)), H', ⟨Nat.le_refl _⟩, ⟨by first | exact Kd.S_nil _ _ _ _ _ | exact Kd.N_nil _ _ _ _ _ | exact Kd.V_nil _ _ _ _ _ | exact Kd.Q_nil _ _ _ _ _ | exact Kd.R_nil _ _ _ _ _⟩, ⟨by repeat (first | (with_reducible first | exact HB.out | apply below_alloc | apply pw_below_drewN | apply below_drew1) | exact HB.out)⟩⟩
  case round =>
    clear H'
    try clear c1
    obtain ⟨x3_1, x4_1, rfl, HA, HK1, HO_3, HB⟩ := hrel
    cases gk with
    | zero => exact absurd HA.out (by simp [tabularyref18_CopiedLog.l0])
    | succ k1 =>
      have H := HA.out
      clear HA
      simp only [tabularyref18_CopiedLog.l0] at H
      by_cases c2 : x4_1 < (l0.length : Int)
      · rw [if_pos c2] at H
        have c2b0 : decide (x4_1 < (l0.length : Int)) = true := decide_eq_true c2
        clear c2
        by_cases c3 : 0 ≤ x4_1
        · rw [if_pos c3] at H
          have c3b0 : decide (0 ≤ x4_1) = true := decide_eq_true c3
          clear c3
          obtain ⟨y127, hy127⟩ : ∃ y_ : List Int, y_ = (([] : List Int)) := ⟨_, rfl⟩
          replace H : (if y127.length + ((rd_T44 l0 x4_1).f2).length < 140737488355328 then (if x3_1.length < 3518437208883 then (tabularyref18_CopiedLog.l0 k1 l0 (x3_1 ++ [(⟨(rd_T44 l0 x4_1).f0, (rd_T44 l0 x4_1).f1, (y127 ++ ((rd_T44 l0 x4_1).f2))⟩ : S44)]) (wrap64 (x4_1 + 1))) else (none)) else (none)) = some r := by first | (rw [hy127]; with_reducible exact H) | (have H2_ := (Option.bind_some _ _).symm.trans H; rw [hy127]; with_reducible exact H2_) | (have H2_ := (Option.bind_some _ _).symm.trans H; with_reducible exact H2_) | with_reducible exact H | (rw [hy127]; exact H) | exact H
          have Ny127 := Aside0.mk hy127
          clear hy127
          by_cases c4 : y127.length + ((rd_T44 l0 x4_1).f2).length < 140737488355328
          · rw [if_pos c4] at H
            have LMc4 := Aside0.mk c4
            clear c4
            obtain ⟨y130, hy130⟩ : ∃ y_ : List Int, y_ = (y127 ++ ((rd_T44 l0 x4_1).f2)) := ⟨_, rfl⟩
            replace H : (if x3_1.length < 3518437208883 then (tabularyref18_CopiedLog.l0 k1 l0 (x3_1 ++ [(⟨(rd_T44 l0 x4_1).f0, (rd_T44 l0 x4_1).f1, y130⟩ : S44)]) (wrap64 (x4_1 + 1))) else (none)) = some r := by first | (rw [hy130]; with_reducible exact H) | (have H2_ := (Option.bind_some _ _).symm.trans H; rw [hy130]; with_reducible exact H2_) | (have H2_ := (Option.bind_some _ _).symm.trans H; with_reducible exact H2_) | with_reducible exact H | (rw [hy130]; exact H) | exact H
            have Ny130 := Aside0.mk hy130
            clear hy130
            by_cases c5 : x3_1.length < 3518437208883
            · rw [if_pos c5] at H
              have LMc5 := Aside0.mk c5
              clear c5
              obtain ⟨y133, hy133⟩ : ∃ y_ : List (S44), y_ = (x3_1 ++ [(⟨(rd_T44 l0 x4_1).f0, (rd_T44 l0 x4_1).f1, y130⟩ : S44)]) := ⟨_, rfl⟩
              replace H : (tabularyref18_CopiedLog.l0 k1 l0 y133 (wrap64 (x4_1 + 1))) = some r := by first | (rw [hy133]; with_reducible exact H) | (have H2_ := (Option.bind_some _ _).symm.trans H; rw [hy133]; with_reducible exact H2_) | (have H2_ := (Option.bind_some _ _).symm.trans H; with_reducible exact H2_) | with_reducible exact H | (rw [hy133]; exact H) | exact H
              have Ny133 := Aside0.mk hy133
              clear hy133
              have H' := Aside0.mk H
              clear H
              have p125 : 0 ≤ (x4_1 : Int) := of_decide_eq_true (by first | (with_reducible assumption) | assumption)
              have q125 : x4_1 < (l0.length : Int) := of_decide_eq_true (by first | (with_reducible assumption) | assumption)
              obtain ⟨ad125, A125_2, c125_2, e125, hx125_0, hx125_1, hx125_2, hl125_2, hi125_2⟩ := at_T44 HR0.out x4_1 p125 q125
              cases e125
              replace hx125_0 := (HB.out.cell (World.block_lt_of_cell? w _ hx125_0)).trans hx125_0
              replace hx125_1 := (HB.out.cell (World.block_lt_of_cell? w _ hx125_1)).trans hx125_1
              replace hx125_2 := (HB.out.cell (World.block_lt_of_cell? w _ hx125_2)).trans hx125_2
              have HR125_2 := Aside0.mk hi125_2
              have HC125_2 := Aside0.mk hl125_2
              clear hi125_2 hl125_2
              replace p125 := eq_true p125
              replace q125 := eq_true q125
              go_wp2_with (first | ((with_reducible refine gate_dst (N := 5) rfl ?_); refine box_event ?hg (N := 5) ?hd (cs := #[.int .u64 0, .int .u64 0, .slice none 0 0]) (t := 44) ?hr ?_; (case hd => rfl); (case hg => rfl); (case hr => first | (go_simp; done) | (go_simp; rfl)); intro gb126 hg w6 hbox hb; have n0_ := Aside0.mk (Kd.S_below (Kd.S_elderB (by (with_reducible repeat (first | apply Kd.S_alloc | apply Kd.S_drewN | apply Kd.S_drew)); exact HO_3.out) gb126 (Nat.le_of_eq hg.symm)) hb); have n1_ := Aside0.mk (below_step (by repeat (first | (with_reducible first | exact HB.out | apply below_alloc | apply pw_below_drewN | apply below_drew1) | exact HB.out)) hb); have n2_ := Aside0.mk (hbox); have n3_ := Aside0.mk ((by rw [hg]; exact (below_size (by repeat (first | (with_reducible first | exact HB.out | apply below_alloc | apply pw_below_drewN | apply below_drew1) | exact HB.out))) : w.heap.size ≤ gb126)); have n4_ := Aside0.mk ((by rw [hg]; exact (below_size (by repeat (first | (with_reducible first | exact HB.out | apply below_alloc | apply pw_below_drewN | apply below_drew1) | exact HB.out))) : w.heap.size ≤ gb126)); clear HO_3; clear HB; have HO_3 := n0_; have HB := n1_; have BK126 := n2_; have GW126 := n3_; have GE126 := n4_; clear n0_ n1_ n2_ n3_ n4_; clear hb hbox hg; have hcz7_0 : w6.cell? ⟨gb126, 0, none⟩ = some (.int .u64 0) := (blk_cell BK126.out 0).trans rfl; have hcz7_1 : w6.cell? ⟨gb126, 1, none⟩ = some (.int .u64 0) := (blk_cell BK126.out 1).trans rfl; have hcz7_2 : w6.cell? ⟨gb126, 2, none⟩ = some (.slice none 0 0) := (blk_cell BK126.out 2).trans rfl; have hfz7_0 := blk_frozen BK126.out 0; have hfz7_1 := blk_frozen BK126.out 1; have hfz7_2 := blk_frozen BK126.out 2) | ((with_reducible refine gate_dst (N := 16) rfl ?_); refine Kd.R_lit (Kd.int .u8) _ 5 ?hg (N := 16) ?hd (xs := ([] : List Int)) (inner := []) (ok := fun _ => True) (okp := fun _ => True) ?hr ?hp (fun _ hk => hk) trivial (Below.refl _ _) (Nat.le_refl _) (by simp) ?_; (case hd => rfl); (case hg => rfl); (case hr => first | (go_simp; done) | (go_simp; rfl)); (case hp => exact (Reps.none _ _)); intro v128 w8 ho9 hb hg_ hnew_; clear hg_ hnew_; (first | rw [← Ny127.out] at ho9 | (simp only [Int.reduceToNat] at ho9; rw [← Ny127.out] at ho9)); have n0_ := Aside0.mk (Kd.S_elder' (by (with_reducible repeat (first | apply Kd.S_alloc | apply Kd.S_drewN | apply Kd.S_drew)); exact (Kd.S_mono (Kd.S_far (p := ⟨gb126, 2, none⟩) (Kd.S_far (p := ⟨gb126, 1, none⟩) (Kd.S_far (p := ⟨gb126, 0, none⟩) (Kd.S_mono HO_3.out (fun k_ hk => (⟨hk, hk.2⟩ : _ ∧ k_ ≠ gb126))) (fun _ hk => hk.2) (.int .u64 ((rd_T44 l0 x4_1).f0))) (fun _ hk => hk.2) (.int .u64 ((rd_T44 l0 x4_1).f1))) (fun _ hk => hk.2) (.slice A125_2 ((rd_T44 l0 x4_1).f2).length c125_2)) (fun _ h_ => h_.1))) (Kd.R_base ho9) hb); have n1_ := Aside0.mk (Kd.R_lower ho9 (below_size (by repeat (first | (with_reducible first | exact HB.out | apply below_alloc | apply pw_below_drewN | apply below_drew1 | refine below_set ?_ GE126.out) | exact HB.out)))); have n2_ := Aside0.mk (blk_below (g := gb126) (o := .cells #[.int .u64 ((rd_T44 l0 x4_1).f0), .int .u64 ((rd_T44 l0 x4_1).f1), .slice A125_2 ((rd_T44 l0 x4_1).f2).length c125_2] 44 (0, 0)) (by (with_reducible repeat (first | refine blk_drewN ?_ _ | refine blk_drew ?_ | refine blk_alloc ?_ _)); refine blk_put (cs := #[.int .u64 ((rd_T44 l0 x4_1).f0), .int .u64 ((rd_T44 l0 x4_1).f1), .slice none 0 0]) ?_ 2 _ rfl; (with_reducible repeat (first | refine blk_drewN ?_ _ | refine blk_drew ?_ | refine blk_alloc ?_ _)); refine blk_put (cs := #[.int .u64 ((rd_T44 l0 x4_1).f0), .int .u64 0, .slice none 0 0]) ?_ 1 _ rfl; (with_reducible repeat (first | refine blk_drewN ?_ _ | refine blk_drew ?_ | refine blk_alloc ?_ _)); refine blk_put (cs := #[.int .u64 0, .int .u64 0, .slice none 0 0]) ?_ 0 _ rfl; (with_reducible repeat (first | refine blk_drewN ?_ _ | refine blk_drew ?_ | refine blk_alloc ?_ _)); exact BK126.out) hb); have n3_ := Aside0.mk (below_step (by repeat (first | (with_reducible first | exact HB.out | apply below_alloc | apply pw_below_drewN | apply below_drew1 | refine below_set ?_ GE126.out) | exact HB.out)) hb); clear HO_3; clear BK126; clear HB; have HO_3 := n0_; have HO129 := n1_; have BK126 := n2_; have HB := n3_; clear n0_ n1_ n2_ n3_; clear hb ho9; have hcz10_0 : w8.cell? ⟨gb126, 0, none⟩ = some (.int .u64 ((rd_T44 l0 x4_1).f0)) := (blk_cell BK126.out 0).trans rfl; have hcz10_1 : w8.cell? ⟨gb126, 1, none⟩ = some (.int .u64 ((rd_T44 l0 x4_1).f1)) := (blk_cell BK126.out 1).trans rfl; have hcz10_2 : w8.cell? ⟨gb126, 2, none⟩ = some (.slice A125_2 ((rd_T44 l0 x4_1).f2).length c125_2) := (blk_cell BK126.out 2).trans rfl; have hfz10_0 := blk_frozen BK126.out 0; have hfz10_1 := blk_frozen BK126.out 1; have hfz10_2 := blk_frozen BK126.out 2) | ((with_reducible refine gate_builtin (b := .append) (xs := #[.tmp 16, .tmp 18]) rfl ?_); at_builtin; refine Kd.R_append_rows (Kd.int .u8) (w0 := w) w.heap.size rfl (.tmp 16) (.tmp 18) 24 5 (.int .u8 0) 1 rfl Try.underlying24 info5 rfl (by decide) (by omega) v128 y127 ((rd_T44 l0 x4_1).f2) _ _ _ (fun _ => True) (fun _ => False) rfl rfl ?aO ?aR (fun _ _ h => h) (fun _ h => h.elim) ?aF ?aB ?aS ?aL ?_; (case aR => repeat (first | exact (Kd.C_below HR125_2.out HB.out) | (with_reducible refine Kd.C_alloc ?_ _) | (with_reducible refine Kd.C_drewN ?_ _) | (with_reducible refine Kd.C_drew ?_))); (case aB => exact (by repeat (first | (with_reducible first | exact HB.out | apply below_alloc | apply pw_below_drewN | apply below_drew1 | refine below_set ?_ GE126.out) | exact HB.out))); (case aF => exact (fun _ _ => trivial)); (case aO => exact (by (with_reducible repeat (first | apply Kd.R_alloc | apply Kd.R_drewN | apply Kd.R_drew)); exact HO129.out)); (case aS => exact (below_size (by repeat (first | (with_reducible first | exact HB.out | apply below_alloc | apply pw_below_drewN | apply below_drew1 | refine below_set ?_ GE126.out) | exact HB.out)))); (case aL => have := LMc4.out; omega); intro v131 w11 ho hb hg hat; rw [← Ny130.out] at ho; have n0_ := Aside0.mk (Kd.S_after (ok := (fun k_ => k_ ≠ gb126)) (by (with_reducible repeat (first | apply Kd.S_alloc | apply Kd.S_drewN | apply Kd.S_drew)); exact Kd.S_mono HO_3.out (fun _ hk => ⟨hk.1.2, hk.2⟩)) hg hat); have n1_ := Aside0.mk (blk_grown (g := gb126) (o := .cells #[.int .u64 ((rd_T44 l0 x4_1).f0), .int .u64 ((rd_T44 l0 x4_1).f1), .slice A125_2 ((rd_T44 l0 x4_1).f2).length c125_2] 44 (0, 0)) (by (with_reducible repeat (first | refine blk_drewN ?_ _ | refine blk_drew ?_ | refine blk_alloc ?_ _)); exact BK126.out) hg (Kd.R_ne HO129.out BK126.out (by decide))); have n2_ := Aside0.mk (hb); have n3_ := Aside0.mk (ho); clear HO_3; clear BK126; clear HB; clear HO129; have HO_3 := n0_; have BK126 := n1_; have HB := n2_; have HO132 := n3_; clear n0_ n1_ n2_ n3_; clear ho hb hg hat; obtain ⟨Ao12, co12, eo12⟩ := Kd.R_slice HO132.out; subst eo12; have hcz13_0 : w11.cell? ⟨gb126, 0, none⟩ = some (.int .u64 ((rd_T44 l0 x4_1).f0)) := (blk_cell BK126.out 0).trans rfl; have hcz13_1 : w11.cell? ⟨gb126, 1, none⟩ = some (.int .u64 ((rd_T44 l0 x4_1).f1)) := (blk_cell BK126.out 1).trans rfl; have hcz13_2 : w11.cell? ⟨gb126, 2, none⟩ = some (.slice A125_2 ((rd_T44 l0 x4_1).f2).length c125_2) := (blk_cell BK126.out 2).trans rfl; have hfz13_0 := blk_frozen BK126.out 0; have hfz13_1 := blk_frozen BK126.out 1; have hfz13_2 := blk_frozen BK126.out 2) | ((with_reducible refine gate_store (t := 24) (p := 20) rfl ?_); refine store_event (t := 24) (p := 20) (v := ?vo_w14) (w1 := (w11.setCell ⟨gb126, 2, none⟩ (.slice Ao12 y130.length co12))) ?hg ?ho ?hn ?hr ?_; (case ho => rfl); (case hg => rfl); (case hn => rfl); (case hr => first | (go_simp; done) | (go_simp; rfl)); intro w14 hw; have n0_ : Aside0 (Kd.S k44 44 w14 w.heap.size (fun k_ => some k_ ≠ (.slice Ao12 y130.length co12 : Value).ownBlock ∧ k_ ≠ gb126) u3 x3_1) := ⟨(by rw [hw]; exact (by (with_reducible repeat (first | apply Kd.S_alloc | apply Kd.S_drewN | apply Kd.S_drew)); exact Kd.S_mono (Kd.S_far (p := ⟨gb126, 2, none⟩) (Kd.S_mono HO_3.out (fun k_ hk => (⟨hk, hk.1⟩ : _ ∧ k_ ≠ gb126))) (fun _ hk => hk.2) (.slice Ao12 y130.length co12)) (fun _ hk => ⟨hk.1.2, hk.1.1⟩)))⟩; have n1_ : Aside0 (Kd.R (Kd.int .u8) 5 w14 w.heap.size (fun _ => True) (.slice Ao12 y130.length co12) y130) := ⟨(by rw [hw]; exact (by (with_reducible repeat (first | apply Kd.R_alloc | apply Kd.R_drewN | apply Kd.R_drew)); exact Kd.R_mono (Kd.R_far (p := ⟨gb126, 2, none⟩) (Kd.R_types HO132.out BK126.out (by decide)) (fun _ hk => hk.2) (.slice Ao12 y130.length co12)) (fun _ hk => trivial)))⟩; have n2_ : Aside0 (w14.heap[gb126]? = some (.cells #[.int .u64 ((rd_T44 l0 x4_1).f0), .int .u64 ((rd_T44 l0 x4_1).f1), .slice Ao12 y130.length co12] 44 (0, 0))) := ⟨(by rw [hw]; exact (by (with_reducible repeat (first | refine blk_drewN ?_ _ | refine blk_drew ?_ | refine blk_alloc ?_ _)); refine blk_put (cs := #[.int .u64 ((rd_T44 l0 x4_1).f0), .int .u64 ((rd_T44 l0 x4_1).f1), .slice A125_2 ((rd_T44 l0 x4_1).f2).length c125_2]) ?_ 2 _ rfl; (with_reducible repeat (first | refine blk_drewN ?_ _ | refine blk_drew ?_ | refine blk_alloc ?_ _)); exact BK126.out))⟩; have n3_ : Aside0 (Below w.heap.size w w14) := ⟨(by rw [hw]; exact (by repeat (first | (with_reducible first | exact HB.out | apply below_alloc | apply pw_below_drewN | apply below_drew1 | refine below_set ?_ GE126.out) | exact HB.out)))⟩; clear hw; clear HO_3; clear HO132; clear BK126; clear HB; have HO_3 := n0_; have HO132 := n1_; have BK126 := n2_; have HB := n3_; clear n0_ n1_ n2_ n3_; have hcz15_0 : w14.cell? ⟨gb126, 0, none⟩ = some (.int .u64 ((rd_T44 l0 x4_1).f0)) := (blk_cell BK126.out 0).trans rfl; have hcz15_1 : w14.cell? ⟨gb126, 1, none⟩ = some (.int .u64 ((rd_T44 l0 x4_1).f1)) := (blk_cell BK126.out 1).trans rfl; have hcz15_2 : w14.cell? ⟨gb126, 2, none⟩ = some (.slice Ao12 y130.length co12) := (blk_cell BK126.out 2).trans rfl; have hfz15_0 := blk_frozen BK126.out 0; have hfz15_1 := blk_frozen BK126.out 1; have hfz15_2 := blk_frozen BK126.out 2) | ((with_reducible refine gate_builtin (b := .append) (xs := #[.tmp 21, .tmp 23]) rfl ?_); at_builtin; refine Kd.S_append k44 (w0 := w) w.heap.size rfl (.tmp 21) (.tmp 23) 23 44 (.agg #[(.int .u64 0), (.int .u64 0), (.slice none 0 0)]) 40 rfl Try.underlying23 info44 rfl (by decide) (by omega) u3 x3_1 (⟨(rd_T44 l0 x4_1).f0, (rd_T44 l0 x4_1).f1, y130⟩ : S44) [.int .u64 ((rd_T44 l0 x4_1).f0), .int .u64 ((rd_T44 l0 x4_1).f1), .slice Ao12 y130.length co12] (fun k_ => k_ ≠ gb126) (fun k_ => some k_ = (.slice Ao12 y130.length co12 : Value).ownBlock) rfl rfl ?aP (fun k_ hk_ => ((Kd.R_mono (ok' := fun k_ => ((fun k_ => k_ ≠ gb126)) k_ ∧ some k_ ≠ (u3 : Value).ownBlock) (Kd.R_types (Kd.R_apart' (HO132.out) (Kd.S_typed HO_3.out) (by decide)) BK126.out (by decide)) (fun k_ hk => ⟨hk.2, hk.1.2⟩))).1 k_ hk_.symm) ?aF ?aO ?aB ?aS ?aL ?_; (case aP => exact k44_mkM _ _ _ (⟨(rd_T44 l0 x4_1).f0, (rd_T44 l0 x4_1).f1, y130⟩ : S44) (Kd.R_mono (Kd.R_tight rfl (Kd.R_mono (ok' := fun k_ => ((fun k_ => k_ ≠ gb126)) k_ ∧ some k_ ≠ (u3 : Value).ownBlock) (Kd.R_types (Kd.R_apart' (HO132.out) (Kd.S_typed HO_3.out) (by decide)) BK126.out (by decide)) (fun k_ hk => ⟨hk.2, hk.1.2⟩))) (fun _ h_ => h_))); (case aB => exact (by repeat (first | (with_reducible first | exact HB.out | apply below_alloc | apply pw_below_drewN | apply below_drew1 | refine below_set ?_ GE126.out) | exact HB.out))); (case aF => exact (fun k_ hk => Kd.freshB (g := gb126) (o := .cells #[.int .u64 ((rd_T44 l0 x4_1).f0), .int .u64 ((rd_T44 l0 x4_1).f1), .slice Ao12 y130.length co12] 44 (0, 0)) (by (with_reducible repeat (first | refine blk_drewN ?_ _ | refine blk_drew ?_ | refine blk_alloc ?_ _)); exact BK126.out) k_ hk)); (case aO => exact (by (with_reducible repeat (first | apply Kd.S_alloc | apply Kd.S_drewN | apply Kd.S_drew)); exact Kd.S_mono HO_3.out (fun k_ hk => ⟨hk.2, fun e_ => hk.1 e_⟩))); (case aS => exact (below_size (by repeat (first | (with_reducible first | exact HB.out | apply below_alloc | apply pw_below_drewN | apply below_drew1 | refine below_set ?_ GE126.out) | exact HB.out)))); (case aL => have := LMc5.out; omega); intro v134 w16 ho hb hg hat; rw [← Ny133.out] at ho; have n0_ := Aside0.mk (blk_grown (g := gb126) (o := .cells #[.int .u64 ((rd_T44 l0 x4_1).f0), .int .u64 ((rd_T44 l0 x4_1).f1), .slice Ao12 y130.length co12] 44 (0, 0)) (by (with_reducible repeat (first | refine blk_drewN ?_ _ | refine blk_drew ?_ | refine blk_alloc ?_ _)); exact BK126.out) hg (Kd.S_away HO_3.out (fun _ hk => hk.2))); have n1_ := Aside0.mk (hb); have n2_ := Aside0.mk (ho); clear BK126; clear HB; clear HO_3; clear HO132; have BK126 := n0_; have HB := n1_; have HO135 := n2_; clear n0_ n1_ n2_; clear ho hb hg hat))
              go_roundg k1
              case measure => have := HK1.out; omega
              case rel => exact ⟨(y133), (wrap64 (x4_1 + 1)), (by first | rfl | (simp; done) | (simp [*]; done)), H', ⟨by have := HK1.out; omega⟩, ⟨by (with_reducible repeat (first | apply Kd.S_alloc | apply Kd.S_drewN | apply Kd.S_drew)); exact Kd.S_mono HO135.out (fun _ hk => trivial)⟩, ⟨by repeat (first | (with_reducible first | exact HB.out | apply below_alloc | apply pw_below_drewN | apply below_drew1 | refine below_set ?_ GE126.out) | exact HB.out)⟩⟩
            · rw [if_neg c5] at H
              exact absurd H (by simp)
          · rw [if_neg c4] at H
            exact absurd H (by simp)
        · rw [if_neg c3] at H
          exact absurd H (by simp)
      · rw [if_neg c2] at H
        have c2b0 : decide (x4_1 < (l0.length : Int)) = false := decide_eq_false c2
        clear c2
        obtain rfl := Option.some.inj H
        go_wp2
        go_ret
        exact ⟨_, by first | rfl | (simp [errW_none, errW_some] <;> rfl) | (simp [*, errW_none, errW_some] <;> rfl), by (with_reducible repeat (first | apply Kd.S_alloc | apply Kd.S_drewN | apply Kd.S_drew)); exact HO_3.out, by repeat (first | (with_reducible first | exact HB.out | apply below_alloc | apply pw_below_drewN | apply below_drew1) | exact HB.out)⟩

/-! ### tabularyref18_Copied: function 10 -/
def tabularyref18_Copied.l0 : Nat → List (List Int) → Int → Int → Int → Int → Int → Int → List (S44) → Int → Int → List Int → Int → Int → Int → Int → List (List Int) → Option (Int × Int × Int × Int × Int × (List (S44)) × Int × Int × List Int × Int × Int × Int × Int × (List (List Int)))
  | 0, _, _, _, _, _, _, _, _, _, _, _, _, _, _, _, _ => none
  | k + 1, x3, x4, x137000, x137001, x137002, x137003, x137004, x137005, x137006, x137007, x137008, x137009, x137010, x137011, x137012, x137013 => if x4 < (x137013.length : Int) then ((some (([] : List Int) : List Int)).bind fun y147 => (if 0 ≤ x4 then (if y147.length + (rd_L2 x137013 x4).length < 140737488355328 then (if x3.length < 5864062014805 then (tabularyref18_Copied.l0 k (x3 ++ [(y147 ++ (rd_L2 x137013 x4))]) (wrap64 (x4 + 1)) x137000 x137001 x137002 x137003 x137004 x137005 x137006 x137007 x137008 x137009 x137010 x137011 x137012 x137013) else (none)) else (none)) else (none))) else (some (x137000, x137001, x137002, x137003, x137004, x137005, x137006, x137007, x137008, x137009, x137010, x137011, x137012, x3))
def tabularyref18_Copied.f (k : Nat) (a0_0 : Int) (a0_1 : Int) (a0_2 : Int) (a0_3 : Int) (a0_4 : Int) (l0_5 : List (S44)) (a0_6 : Int) (a0_7 : Int) (l0_8 : List Int) (a0_9 : Int) (a0_10 : Int) (a0_11 : Int) (a0_12 : Int) (l0_13 : List (List Int)) : Option (Int × Int × Int × Int × Int × (List (S44)) × Int × Int × List Int × Int × Int × Int × Int × (List (List Int))) := (tabularyref18_CopiedLog.f k l0_5).bind fun t138 => ((some (([] : List Int) : List Int)).bind fun y141 => (if y141.length + l0_8.length < 140737488355328 then (tabularyref18_Copied.l0 k ([] : List (List Int)) 0 a0_0 a0_1 a0_2 a0_3 a0_4 t138 a0_6 a0_7 (y141 ++ l0_8) a0_9 a0_10 a0_11 a0_12 l0_13) else (none)))
theorem tabularyref18_Copied.mono_l : ∀ k, (∀ y0 y1 y2 y3 y4 y5 y6 y7 y8 y9 y10 y11 y12 y13 y14 y15, LeO (tabularyref18_Copied.l0 k y0 y1 y2 y3 y4 y5 y6 y7 y8 y9 y10 y11 y12 y13 y14 y15) (tabularyref18_Copied.l0 (k + 1) y0 y1 y2 y3 y4 y5 y6 y7 y8 y9 y10 y11 y12 y13 y14 y15))
  | 0 => fun _ _ _ _ _ _ _ _ _ _ _ _ _ _ _ _ r h => by simp [tabularyref18_Copied.l0] at h
  | k + 1 => by
    have ih0 := tabularyref18_Copied.mono_l k
    · intro y0 y1 y2 y3 y4 y5 y6 y7 y8 y9 y10 y11 y12 y13 y14 y15
      unfold tabularyref18_Copied.l0
      repeat' first
      | (with_reducible exact ih0 _ _ _ _ _ _ _ _ _ _ _ _ _ _ _ _)
      | (with_reducible exact tabularyref18_CopiedLog.mono _ _)
      | (with_reducible exact LeO.refl _)
      | (with_reducible exact LeO.none _)
      | (with_reducible refine LeO.ite ?_ ?_)
      | (with_reducible refine LeO.bind ?_ (fun _ => ?_))
      | exact ih0 _ _ _ _ _ _ _ _ _ _ _ _ _ _ _ _
      | exact tabularyref18_CopiedLog.mono _ _
      | exact LeO.none _
      | refine LeO.ite ?_ ?_
      | refine LeO.bind ?_ (fun _ => ?_)
theorem tabularyref18_Copied.mono : ∀ a0 a1 a2 a3 a4 a5 a6 a7 a8 a9 a10 a11 a12 a13 k, LeO (tabularyref18_Copied.f k a0 a1 a2 a3 a4 a5 a6 a7 a8 a9 a10 a11 a12 a13) (tabularyref18_Copied.f (k + 1) a0 a1 a2 a3 a4 a5 a6 a7 a8 a9 a10 a11 a12 a13) := by
  intro a0 a1 a2 a3 a4 a5 a6 a7 a8 a9 a10 a11 a12 a13 k
  have ih0 := tabularyref18_Copied.mono_l k
  unfold tabularyref18_Copied.f
  repeat' first
      | (with_reducible exact ih0 _ _ _ _ _ _ _ _ _ _ _ _ _ _ _ _)
      | (with_reducible exact tabularyref18_CopiedLog.mono _ _)
      | (with_reducible exact LeO.refl _)
      | (with_reducible exact LeO.none _)
      | (with_reducible refine LeO.ite ?_ ?_)
      | (with_reducible refine LeO.bind ?_ (fun _ => ?_))
      | exact ih0 _ _ _ _ _ _ _ _ _ _ _ _ _ _ _ _
      | exact tabularyref18_CopiedLog.mono _ _
      | exact LeO.none _
      | refine LeO.ite ?_ ?_
      | refine LeO.bind ?_ (fun _ => ?_)
set_option maxHeartbeats 8000000 in
set_option maxRecDepth 100000 in
theorem tabularyref18_Copied.calls (k : Nat) (a0_0 : Int) (a0_1 : Int) (a0_2 : Int) (a0_3 : Int) (a0_4 : Int) (A0_5 : Option Addr) (c0_5 : Nat) (l0_5 : List (S44)) (a0_6 : Int) (a0_7 : Int) (A0_8 : Option Addr) (c0_8 : Nat) (l0_8 : List Int) (a0_9 : Int) (a0_10 : Int) (a0_11 : Int) (a0_12 : Int) (A0_13 : Option Addr) (c0_13 : Nat) (l0_13 : List (List Int)) (r1 : Int) (r2 : Int) (r3 : Int) (r4 : Int) (r5 : Int) (r6 : List (S44)) (r7 : Int) (r8 : Int) (r9 : List Int) (r10 : Int) (r11 : Int) (r12 : Int) (r13 : Int) (r14 : List (List Int)) (w : World) (hr0_5 : Kd.C k44 w A0_5 l0_5.length l0_5) (hc0_5 : l0_5.length ≤ c0_5) (hr0_8 : Kd.C (Kd.int .u8) w A0_8 l0_8.length l0_8) (hc0_8 : l0_8.length ≤ c0_8) (hr0_13 : Kd.C (Kd.slice 5 (Kd.int .u8)) w A0_13 l0_13.length l0_13) (hc0_13 : l0_13.length ≤ c0_13) (h : tabularyref18_Copied.f k a0_0 a0_1 a0_2 a0_3 a0_4 l0_5 a0_6 a0_7 l0_8 a0_9 a0_10 a0_11 a0_12 l0_13 = some (r1, r2, r3, r4, r5, r6, r7, r8, r9, r10, r11, r12, r13, r14)) :
    Calls Try.prog 10 #[.agg #[.int .u8 a0_0, .int .u64 a0_1, .int .u64 a0_2, .int .i64 a0_3, .int .i64 a0_4, .slice A0_5 l0_5.length c0_5, .int .u64 a0_6, .int .u64 a0_7, .slice A0_8 l0_8.length c0_8, .int .u64 a0_9, .int .u8 a0_10, .int .u32 a0_11, .int .i64 a0_12, .slice A0_13 l0_13.length c0_13]] w fun e w' => ∃ v5_ v8_ v13_ : Value, e = .returned (.agg #[.int .u8 r1, .int .u64 r2, .int .u64 r3, .int .i64 r4, .int .i64 r5, v5_, .int .u64 r7, .int .u64 r8, v8_, .int .u64 r10, .int .u8 r11, .int .u32 r12, .int .i64 r13, v13_]) ∧ Kd.S k44 44 w' w.heap.size (fun k_ => some k_ ≠ (v8_ : Value).ownBlock) v5_ r6 ∧ Kd.R (Kd.int .u8) 5 w' w.heap.size (fun _ => True) v8_ r9 ∧ Kd.S (Kd.slice 5 (Kd.int .u8)) 24 w' w.heap.size (fun k_ => some k_ ≠ (v8_ : Value).ownBlock) v13_ r14 ∧ Below w.heap.size w w' := by
  have hu29 := Try.underlying29
  have HR0_5 := Aside0.mk hr0_5
  have HC0_5 := Aside0.mk hc0_5
  clear hr0_5 hc0_5
  have HR0_8 := Aside0.mk hr0_8
  have HC0_8 := Aside0.mk hc0_8
  clear hr0_8 hc0_8
  have HR0_13 := Aside0.mk hr0_13
  have HC0_13 := Aside0.mk hc0_13
  clear hr0_13 hc0_13
  have HB := Aside0.mk (Below.refl w.heap.size w)
  have H : ((tabularyref18_CopiedLog.f k l0_5).bind fun t138 => ((some (([] : List Int) : List Int)).bind fun y141 => (if y141.length + l0_8.length < 140737488355328 then (tabularyref18_Copied.l0 k ([] : List (List Int)) 0 a0_0 a0_1 a0_2 a0_3 a0_4 t138 a0_6 a0_7 (y141 ++ l0_8) a0_9 a0_10 a0_11 a0_12 l0_13) else (none)))) = some (r1, r2, r3, r4, r5, r6, r7, r8, r9, r10, r11, r12, r13, r14) := h
  clear h
  replace H := Option.bind_eq_some_iff.mp H
  obtain ⟨t138, A20, H⟩ := H
  replace H : ((some (([] : List Int) : List Int)).bind fun y141 => (if y141.length + l0_8.length < 140737488355328 then (tabularyref18_Copied.l0 k ([] : List (List Int)) 0 a0_0 a0_1 a0_2 a0_3 a0_4 t138 a0_6 a0_7 (y141 ++ l0_8) a0_9 a0_10 a0_11 a0_12 l0_13) else (none))) = some (r1, r2, r3, r4, r5, r6, r7, r8, r9, r10, r11, r12, r13, r14) := H
  have A2 := Aside0.mk A20
  clear A20
  obtain ⟨y141, hy141⟩ : ∃ y_ : List Int, y_ = (([] : List Int)) := ⟨_, rfl⟩
  replace H : (if y141.length + l0_8.length < 140737488355328 then (tabularyref18_Copied.l0 k ([] : List (List Int)) 0 a0_0 a0_1 a0_2 a0_3 a0_4 t138 a0_6 a0_7 (y141 ++ l0_8) a0_9 a0_10 a0_11 a0_12 l0_13) else (none)) = some (r1, r2, r3, r4, r5, r6, r7, r8, r9, r10, r11, r12, r13, r14) := by first | (rw [hy141]; with_reducible exact H) | (have H2_ := (Option.bind_some _ _).symm.trans H; rw [hy141]; with_reducible exact H2_) | (have H2_ := (Option.bind_some _ _).symm.trans H; with_reducible exact H2_) | with_reducible exact H | (rw [hy141]; exact H) | exact H
  have Ny141 := Aside0.mk hy141
  clear hy141
  by_cases c3 : y141.length + l0_8.length < 140737488355328
  · rw [if_pos c3] at H
    have LMc3 := Aside0.mk c3
    clear c3
    obtain ⟨y144, hy144⟩ : ∃ y_ : List Int, y_ = (y141 ++ l0_8) := ⟨_, rfl⟩
    replace H : (tabularyref18_Copied.l0 k ([] : List (List Int)) 0 a0_0 a0_1 a0_2 a0_3 a0_4 t138 a0_6 a0_7 y144 a0_9 a0_10 a0_11 a0_12 l0_13) = some (r1, r2, r3, r4, r5, r6, r7, r8, r9, r10, r11, r12, r13, r14) := by first | (rw [hy144]; with_reducible exact H) | (have H2_ := (Option.bind_some _ _).symm.trans H; rw [hy144]; with_reducible exact H2_) | (have H2_ := (Option.bind_some _ _).symm.trans H; with_reducible exact H2_) | with_reducible exact H | (rw [hy144]; exact H) | exact H
    have Ny144 := Aside0.mk hy144
    clear hy144
    have H' := Aside0.mk H
    clear H
    go_enter Try.func10, Try.ntmps10
    go_wp2_with (first | ((with_reducible refine gate_dst (N := 1) rfl ?_); refine box_event ?hg (N := 1) ?hd (cs := #[.int .u8 a0_0, .int .u64 a0_1, .int .u64 a0_2, .int .i64 a0_3, .int .i64 a0_4, .slice A0_5 l0_5.length c0_5, .int .u64 a0_6, .int .u64 a0_7, .slice A0_8 l0_8.length c0_8, .int .u64 a0_9, .int .u8 a0_10, .int .u32 a0_11, .int .i64 a0_12, .slice A0_13 l0_13.length c0_13]) (t := 29) ?hr ?_; (case hd => rfl); (case hg => rfl); (case hr => first | (go_simp; done) | (go_simp; rfl)); intro gb136 hg w4 hbox hb; have n0_ := Aside0.mk (below_step (by repeat (first | (with_reducible first | exact HB.out | apply below_alloc | apply pw_below_drewN | apply below_drew1) | exact HB.out)) hb); have n1_ := Aside0.mk (hbox); have n2_ := Aside0.mk ((by rw [hg]; exact (below_size (by repeat (first | (with_reducible first | exact HB.out | apply below_alloc | apply pw_below_drewN | apply below_drew1) | exact HB.out))) : w.heap.size ≤ gb136)); have n3_ := Aside0.mk ((by rw [hg]; exact (below_size (by repeat (first | (with_reducible first | exact HB.out | apply below_alloc | apply pw_below_drewN | apply below_drew1) | exact HB.out))) : w.heap.size ≤ gb136)); clear HB; have HB := n0_; have BK136 := n1_; have GW136 := n2_; have GE136 := n3_; clear n0_ n1_ n2_ n3_; clear hb hbox hg) | ((with_reducible refine gate_dst (N := 2) rfl ?_); refine box_event ?hg (N := 2) ?hd (cs := #[.int .u8 0, .int .u64 0, .int .u64 0, .int .i64 0, .int .i64 0, .slice none 0 0, .int .u64 0, .int .u64 0, .slice none 0 0, .int .u64 0, .int .u8 0, .int .u32 0, .int .i64 0, .slice none 0 0]) (t := 29) ?hr ?_; (case hd => rfl); (case hg => rfl); (case hr => first | (go_simp; done) | (go_simp; rfl)); intro gb137 hg w5 hbox hb; have n0_ := Aside0.mk (blk_below (g := gb136) (o := .cells #[.int .u8 a0_0, .int .u64 a0_1, .int .u64 a0_2, .int .i64 a0_3, .int .i64 a0_4, .slice A0_5 l0_5.length c0_5, .int .u64 a0_6, .int .u64 a0_7, .slice A0_8 l0_8.length c0_8, .int .u64 a0_9, .int .u8 a0_10, .int .u32 a0_11, .int .i64 a0_12, .slice A0_13 l0_13.length c0_13] 29 (0, 0)) (by (with_reducible repeat (first | refine blk_drewN ?_ _ | refine blk_drew ?_ | refine blk_alloc ?_ _)); exact BK136.out) hb); have n1_ := Aside0.mk (below_step (by repeat (first | (with_reducible first | exact HB.out | apply below_alloc | apply pw_below_drewN | apply below_drew1 | refine below_set ?_ GE136.out) | exact HB.out)) hb); have n2_ := Aside0.mk (hbox); have n3_ := Aside0.mk ((by rw [hg]; exact (below_size (by repeat (first | (with_reducible first | exact HB.out | apply below_alloc | apply pw_below_drewN | apply below_drew1 | refine below_set ?_ GE136.out) | exact HB.out))) : w.heap.size ≤ gb137)); have n4_ := Aside0.mk ((by rw [hg]; exact (below_size (by repeat (first | (with_reducible first | exact HB.out | apply below_alloc | apply pw_below_drewN | apply below_drew1 | refine below_set ?_ GE136.out) | exact HB.out))) : w.heap.size ≤ gb137)); have n5_ := Aside0.mk ((by rw [hg]; exact Nat.ne_of_lt (blk_lt (g := gb136) (o := .cells #[.int .u8 a0_0, .int .u64 a0_1, .int .u64 a0_2, .int .i64 a0_3, .int .i64 a0_4, .slice A0_5 l0_5.length c0_5, .int .u64 a0_6, .int .u64 a0_7, .slice A0_8 l0_8.length c0_8, .int .u64 a0_9, .int .u8 a0_10, .int .u32 a0_11, .int .i64 a0_12, .slice A0_13 l0_13.length c0_13] 29 (0, 0)) (by (with_reducible repeat (first | refine blk_drewN ?_ _ | refine blk_drew ?_ | refine blk_alloc ?_ _)); exact BK136.out)) : gb136 ≠ gb137)); have n6_ := Aside0.mk ((by rw [hg]; exact Nat.ne_of_gt (blk_lt (g := gb136) (o := .cells #[.int .u8 a0_0, .int .u64 a0_1, .int .u64 a0_2, .int .i64 a0_3, .int .i64 a0_4, .slice A0_5 l0_5.length c0_5, .int .u64 a0_6, .int .u64 a0_7, .slice A0_8 l0_8.length c0_8, .int .u64 a0_9, .int .u8 a0_10, .int .u32 a0_11, .int .i64 a0_12, .slice A0_13 l0_13.length c0_13] 29 (0, 0)) (by (with_reducible repeat (first | refine blk_drewN ?_ _ | refine blk_drew ?_ | refine blk_alloc ?_ _)); exact BK136.out)) : gb137 ≠ gb136)); clear BK136; clear HB; have BK136 := n0_; have HB := n1_; have BK137 := n2_; have GW137 := n3_; have GE137 := n4_; have NB136_137 := n5_; have NB137_136 := n6_; clear n0_ n1_ n2_ n3_ n4_ n5_ n6_; clear hb hbox hg; have hnb6 := NB136_137.out; have hnc6 := NB137_136.out; have hcz7_0 : w5.cell? ⟨gb136, 0, none⟩ = some (.int .u8 a0_0) := (blk_cell BK136.out 0).trans rfl; have hcz7_1 : w5.cell? ⟨gb136, 1, none⟩ = some (.int .u64 a0_1) := (blk_cell BK136.out 1).trans rfl; have hcz7_2 : w5.cell? ⟨gb136, 2, none⟩ = some (.int .u64 a0_2) := (blk_cell BK136.out 2).trans rfl; have hcz7_3 : w5.cell? ⟨gb136, 3, none⟩ = some (.int .i64 a0_3) := (blk_cell BK136.out 3).trans rfl; have hcz7_4 : w5.cell? ⟨gb136, 4, none⟩ = some (.int .i64 a0_4) := (blk_cell BK136.out 4).trans rfl; have hcz7_5 : w5.cell? ⟨gb136, 5, none⟩ = some (.slice A0_5 l0_5.length c0_5) := (blk_cell BK136.out 5).trans rfl; have hcz7_6 : w5.cell? ⟨gb136, 6, none⟩ = some (.int .u64 a0_6) := (blk_cell BK136.out 6).trans rfl; have hcz7_7 : w5.cell? ⟨gb136, 7, none⟩ = some (.int .u64 a0_7) := (blk_cell BK136.out 7).trans rfl; have hcz7_8 : w5.cell? ⟨gb136, 8, none⟩ = some (.slice A0_8 l0_8.length c0_8) := (blk_cell BK136.out 8).trans rfl; have hcz7_9 : w5.cell? ⟨gb136, 9, none⟩ = some (.int .u64 a0_9) := (blk_cell BK136.out 9).trans rfl; have hcz7_10 : w5.cell? ⟨gb136, 10, none⟩ = some (.int .u8 a0_10) := (blk_cell BK136.out 10).trans rfl; have hcz7_11 : w5.cell? ⟨gb136, 11, none⟩ = some (.int .u32 a0_11) := (blk_cell BK136.out 11).trans rfl; have hcz7_12 : w5.cell? ⟨gb136, 12, none⟩ = some (.int .i64 a0_12) := (blk_cell BK136.out 12).trans rfl; have hcz7_13 : w5.cell? ⟨gb136, 13, none⟩ = some (.slice A0_13 l0_13.length c0_13) := (blk_cell BK136.out 13).trans rfl; have hfz7_0 := blk_frozen BK136.out 0; have hfz7_1 := blk_frozen BK136.out 1; have hfz7_2 := blk_frozen BK136.out 2; have hfz7_3 := blk_frozen BK136.out 3; have hfz7_4 := blk_frozen BK136.out 4; have hfz7_5 := blk_frozen BK136.out 5; have hfz7_6 := blk_frozen BK136.out 6; have hfz7_7 := blk_frozen BK136.out 7; have hfz7_8 := blk_frozen BK136.out 8; have hfz7_9 := blk_frozen BK136.out 9; have hfz7_10 := blk_frozen BK136.out 10; have hfz7_11 := blk_frozen BK136.out 11; have hfz7_12 := blk_frozen BK136.out 12; have hfz7_13 := blk_frozen BK136.out 13) | ((with_reducible refine gate_callee (f := 19) rfl ?_); refine goesL_ (some 7) rfl rfl Try.func19 (by kernel_rfl) rfl #[.slice A0_5 l0_5.length c0_5] rfl (by (try simp only [List.map_toArray, List.map_cons, List.map_nil]); first | done | rfl | (simp only [List.length_drop, List.length_take]; rfl)) ?_; (with_reducible refine (tabularyref18_CopiedLog.calls k _ _ l0_5 t138 _ ?side1 ?side2 A2.out).mono ?_); (case side1 => repeat (first | exact (Kd.C_below HR0_5.out HB.out) | (with_reducible refine Kd.C_alloc ?_ _) | (with_reducible refine Kd.C_drewN ?_ _) | (with_reducible refine Kd.C_drew ?_))); (case side2 => exact HC0_5.out); rintro e w8 ⟨v139, rfl, ho0, hb⟩; refine ⟨_, rfl, ?_⟩; have n0_ := Aside0.mk (Kd.S_lower ho0 (below_size (by repeat (first | (with_reducible first | exact HB.out | apply below_alloc | apply pw_below_drewN | apply below_drew1 | refine below_set ?_ GE136.out | refine below_set ?_ GE137.out) | exact HB.out)))); have n1_ := Aside0.mk (blk_below (g := gb136) (o := .cells #[.int .u8 a0_0, .int .u64 a0_1, .int .u64 a0_2, .int .i64 a0_3, .int .i64 a0_4, .slice A0_5 l0_5.length c0_5, .int .u64 a0_6, .int .u64 a0_7, .slice A0_8 l0_8.length c0_8, .int .u64 a0_9, .int .u8 a0_10, .int .u32 a0_11, .int .i64 a0_12, .slice A0_13 l0_13.length c0_13] 29 (0, 0)) (by (with_reducible repeat (first | refine blk_drewN ?_ _ | refine blk_drew ?_ | refine blk_alloc ?_ _)); exact BK136.out) hb); have n2_ := Aside0.mk (blk_below (g := gb137) (o := .cells #[.int .u8 0, .int .u64 0, .int .u64 0, .int .i64 0, .int .i64 0, .slice none 0 0, .int .u64 0, .int .u64 0, .slice none 0 0, .int .u64 0, .int .u8 0, .int .u32 0, .int .i64 0, .slice none 0 0] 29 (0, 0)) (by (with_reducible repeat (first | refine blk_drewN ?_ _ | refine blk_drew ?_ | refine blk_alloc ?_ _)); exact BK137.out) hb); have n3_ := Aside0.mk (below_step (by repeat (first | (with_reducible first | exact HB.out | apply below_alloc | apply pw_below_drewN | apply below_drew1 | refine below_set ?_ GE136.out | refine below_set ?_ GE137.out) | exact HB.out)) hb); clear BK136; clear BK137; clear HB; have HO140 := n0_; have BK136 := n1_; have BK137 := n2_; have HB := n3_; clear n0_ n1_ n2_ n3_; (try clear hb); (try clear hb2); (try clear hk); (try clear hi); (try clear ho0); obtain ⟨Ao9, co9, eo9⟩ := Kd.S_slice HO140.out; subst eo9; have hcz10_0 : w8.cell? ⟨gb136, 0, none⟩ = some (.int .u8 a0_0) := (blk_cell BK136.out 0).trans rfl; have hcz10_1 : w8.cell? ⟨gb136, 1, none⟩ = some (.int .u64 a0_1) := (blk_cell BK136.out 1).trans rfl; have hcz10_2 : w8.cell? ⟨gb136, 2, none⟩ = some (.int .u64 a0_2) := (blk_cell BK136.out 2).trans rfl; have hcz10_3 : w8.cell? ⟨gb136, 3, none⟩ = some (.int .i64 a0_3) := (blk_cell BK136.out 3).trans rfl; have hcz10_4 : w8.cell? ⟨gb136, 4, none⟩ = some (.int .i64 a0_4) := (blk_cell BK136.out 4).trans rfl; have hcz10_5 : w8.cell? ⟨gb136, 5, none⟩ = some (.slice A0_5 l0_5.length c0_5) := (blk_cell BK136.out 5).trans rfl; have hcz10_6 : w8.cell? ⟨gb136, 6, none⟩ = some (.int .u64 a0_6) := (blk_cell BK136.out 6).trans rfl; have hcz10_7 : w8.cell? ⟨gb136, 7, none⟩ = some (.int .u64 a0_7) := (blk_cell BK136.out 7).trans rfl; have hcz10_8 : w8.cell? ⟨gb136, 8, none⟩ = some (.slice A0_8 l0_8.length c0_8) := (blk_cell BK136.out 8).trans rfl; have hcz10_9 : w8.cell? ⟨gb136, 9, none⟩ = some (.int .u64 a0_9) := (blk_cell BK136.out 9).trans rfl; have hcz10_10 : w8.cell? ⟨gb136, 10, none⟩ = some (.int .u8 a0_10) := (blk_cell BK136.out 10).trans rfl; have hcz10_11 : w8.cell? ⟨gb136, 11, none⟩ = some (.int .u32 a0_11) := (blk_cell BK136.out 11).trans rfl; have hcz10_12 : w8.cell? ⟨gb136, 12, none⟩ = some (.int .i64 a0_12) := (blk_cell BK136.out 12).trans rfl; have hcz10_13 : w8.cell? ⟨gb136, 13, none⟩ = some (.slice A0_13 l0_13.length c0_13) := (blk_cell BK136.out 13).trans rfl; have hfz10_0 := blk_frozen BK136.out 0; have hfz10_1 := blk_frozen BK136.out 1; have hfz10_2 := blk_frozen BK136.out 2; have hfz10_3 := blk_frozen BK136.out 3; have hfz10_4 := blk_frozen BK136.out 4; have hfz10_5 := blk_frozen BK136.out 5; have hfz10_6 := blk_frozen BK136.out 6; have hfz10_7 := blk_frozen BK136.out 7; have hfz10_8 := blk_frozen BK136.out 8; have hfz10_9 := blk_frozen BK136.out 9; have hfz10_10 := blk_frozen BK136.out 10; have hfz10_11 := blk_frozen BK136.out 11; have hfz10_12 := blk_frozen BK136.out 12; have hfz10_13 := blk_frozen BK136.out 13) | ((with_reducible refine gate_dst (N := 9) rfl ?_); refine Kd.R_lit (Kd.int .u8) _ 5 ?hg (N := 9) ?hd (xs := ([] : List Int)) (inner := []) (ok := fun _ => True) (okp := fun _ => True) ?hr ?hp (fun _ hk => hk) trivial (Below.refl _ _) (Nat.le_refl _) (by simp) ?_; (case hd => rfl); (case hg => rfl); (case hr => first | (go_simp; done) | (go_simp; rfl)); (case hp => exact (Reps.none _ _)); intro v142 w11 ho12 hb hg_ hnew_; clear hg_ hnew_; (first | rw [← Ny141.out] at ho12 | (simp only [Int.reduceToNat] at ho12; rw [← Ny141.out] at ho12)); have n0_ := Aside0.mk (Kd.S_elder' (by (with_reducible repeat (first | apply Kd.S_alloc | apply Kd.S_drewN | apply Kd.S_drew)); exact (Kd.S_mono (Kd.S_far (p := ⟨gb136, 5, none⟩) (Kd.S_types HO140.out BK136.out (by decide)) (fun _ hk => hk.2) (.slice Ao9 t138.length co9)) (fun _ h_ => h_.1))) (Kd.R_base ho12) hb); have n1_ := Aside0.mk (Kd.R_lower ho12 (below_size (by repeat (first | (with_reducible first | exact HB.out | apply below_alloc | apply pw_below_drewN | apply below_drew1 | refine below_set ?_ GE136.out | refine below_set ?_ GE137.out) | exact HB.out)))); have n2_ := Aside0.mk (blk_below (g := gb136) (o := .cells #[.int .u8 a0_0, .int .u64 a0_1, .int .u64 a0_2, .int .i64 a0_3, .int .i64 a0_4, .slice Ao9 t138.length co9, .int .u64 a0_6, .int .u64 a0_7, .slice A0_8 l0_8.length c0_8, .int .u64 a0_9, .int .u8 a0_10, .int .u32 a0_11, .int .i64 a0_12, .slice A0_13 l0_13.length c0_13] 29 (0, 0)) (by (with_reducible repeat (first | refine blk_drewN ?_ _ | refine blk_drew ?_ | refine blk_alloc ?_ _)); refine blk_put (cs := #[.int .u8 a0_0, .int .u64 a0_1, .int .u64 a0_2, .int .i64 a0_3, .int .i64 a0_4, .slice A0_5 l0_5.length c0_5, .int .u64 a0_6, .int .u64 a0_7, .slice A0_8 l0_8.length c0_8, .int .u64 a0_9, .int .u8 a0_10, .int .u32 a0_11, .int .i64 a0_12, .slice A0_13 l0_13.length c0_13]) ?_ 5 _ rfl; (with_reducible repeat (first | refine blk_drewN ?_ _ | refine blk_drew ?_ | refine blk_alloc ?_ _)); exact BK136.out) hb); have n3_ := Aside0.mk (blk_below (g := gb137) (o := .cells #[.int .u8 0, .int .u64 0, .int .u64 0, .int .i64 0, .int .i64 0, .slice none 0 0, .int .u64 0, .int .u64 0, .slice none 0 0, .int .u64 0, .int .u8 0, .int .u32 0, .int .i64 0, .slice none 0 0] 29 (0, 0)) (by (with_reducible repeat (first | refine blk_drewN ?_ _ | refine blk_drew ?_ | refine blk_alloc ?_ _)); refine blk_far ?_ NB137_136.out _; (with_reducible repeat (first | refine blk_drewN ?_ _ | refine blk_drew ?_ | refine blk_alloc ?_ _)); exact BK137.out) hb); have n4_ := Aside0.mk (below_step (by repeat (first | (with_reducible first | exact HB.out | apply below_alloc | apply pw_below_drewN | apply below_drew1 | refine below_set ?_ GE136.out | refine below_set ?_ GE137.out) | exact HB.out)) hb); clear HO140; clear BK136; clear BK137; clear HB; have HO140 := n0_; have HO143 := n1_; have BK136 := n2_; have BK137 := n3_; have HB := n4_; clear n0_ n1_ n2_ n3_ n4_; clear hb ho12; have hcz13_0 : w11.cell? ⟨gb136, 0, none⟩ = some (.int .u8 a0_0) := (blk_cell BK136.out 0).trans rfl; have hcz13_1 : w11.cell? ⟨gb136, 1, none⟩ = some (.int .u64 a0_1) := (blk_cell BK136.out 1).trans rfl; have hcz13_2 : w11.cell? ⟨gb136, 2, none⟩ = some (.int .u64 a0_2) := (blk_cell BK136.out 2).trans rfl; have hcz13_3 : w11.cell? ⟨gb136, 3, none⟩ = some (.int .i64 a0_3) := (blk_cell BK136.out 3).trans rfl; have hcz13_4 : w11.cell? ⟨gb136, 4, none⟩ = some (.int .i64 a0_4) := (blk_cell BK136.out 4).trans rfl; have hcz13_5 : w11.cell? ⟨gb136, 5, none⟩ = some (.slice Ao9 t138.length co9) := (blk_cell BK136.out 5).trans rfl; have hcz13_6 : w11.cell? ⟨gb136, 6, none⟩ = some (.int .u64 a0_6) := (blk_cell BK136.out 6).trans rfl; have hcz13_7 : w11.cell? ⟨gb136, 7, none⟩ = some (.int .u64 a0_7) := (blk_cell BK136.out 7).trans rfl; have hcz13_8 : w11.cell? ⟨gb136, 8, none⟩ = some (.slice A0_8 l0_8.length c0_8) := (blk_cell BK136.out 8).trans rfl; have hcz13_9 : w11.cell? ⟨gb136, 9, none⟩ = some (.int .u64 a0_9) := (blk_cell BK136.out 9).trans rfl; have hcz13_10 : w11.cell? ⟨gb136, 10, none⟩ = some (.int .u8 a0_10) := (blk_cell BK136.out 10).trans rfl; have hcz13_11 : w11.cell? ⟨gb136, 11, none⟩ = some (.int .u32 a0_11) := (blk_cell BK136.out 11).trans rfl; have hcz13_12 : w11.cell? ⟨gb136, 12, none⟩ = some (.int .i64 a0_12) := (blk_cell BK136.out 12).trans rfl; have hcz13_13 : w11.cell? ⟨gb136, 13, none⟩ = some (.slice A0_13 l0_13.length c0_13) := (blk_cell BK136.out 13).trans rfl; have hfz13_0 := blk_frozen BK136.out 0; have hfz13_1 := blk_frozen BK136.out 1; have hfz13_2 := blk_frozen BK136.out 2; have hfz13_3 := blk_frozen BK136.out 3; have hfz13_4 := blk_frozen BK136.out 4; have hfz13_5 := blk_frozen BK136.out 5; have hfz13_6 := blk_frozen BK136.out 6; have hfz13_7 := blk_frozen BK136.out 7; have hfz13_8 := blk_frozen BK136.out 8; have hfz13_9 := blk_frozen BK136.out 9; have hfz13_10 := blk_frozen BK136.out 10; have hfz13_11 := blk_frozen BK136.out 11; have hfz13_12 := blk_frozen BK136.out 12; have hfz13_13 := blk_frozen BK136.out 13) | ((with_reducible refine gate_builtin (b := .append) (xs := #[.tmp 9, .tmp 11]) rfl ?_); at_builtin; refine Kd.R_append_rows (Kd.int .u8) (w0 := w) w.heap.size rfl (.tmp 9) (.tmp 11) 24 5 (.int .u8 0) 1 rfl Try.underlying24 info5 rfl (by decide) (by omega) v142 y141 l0_8 _ _ _ (fun _ => True) (fun _ => False) rfl rfl ?aO ?aR (fun _ _ h => h) (fun _ h => h.elim) ?aF ?aB ?aS ?aL ?_; (case aR => repeat (first | exact (Kd.C_below HR0_8.out HB.out) | (with_reducible refine Kd.C_alloc ?_ _) | (with_reducible refine Kd.C_drewN ?_ _) | (with_reducible refine Kd.C_drew ?_))); (case aB => exact (by repeat (first | (with_reducible first | exact HB.out | apply below_alloc | apply pw_below_drewN | apply below_drew1 | refine below_set ?_ GE136.out | refine below_set ?_ GE137.out) | exact HB.out))); (case aF => exact (fun _ _ => trivial)); (case aO => exact (by (with_reducible repeat (first | apply Kd.R_alloc | apply Kd.R_drewN | apply Kd.R_drew)); exact HO143.out)); (case aS => exact (below_size (by repeat (first | (with_reducible first | exact HB.out | apply below_alloc | apply pw_below_drewN | apply below_drew1 | refine below_set ?_ GE136.out | refine below_set ?_ GE137.out) | exact HB.out)))); (case aL => have := LMc3.out; omega); intro v145 w14 ho hb hg hat; rw [← Ny144.out] at ho; have n0_ := Aside0.mk (blk_grown (g := gb136) (o := .cells #[.int .u8 a0_0, .int .u64 a0_1, .int .u64 a0_2, .int .i64 a0_3, .int .i64 a0_4, .slice Ao9 t138.length co9, .int .u64 a0_6, .int .u64 a0_7, .slice A0_8 l0_8.length c0_8, .int .u64 a0_9, .int .u8 a0_10, .int .u32 a0_11, .int .i64 a0_12, .slice A0_13 l0_13.length c0_13] 29 (0, 0)) (by (with_reducible repeat (first | refine blk_drewN ?_ _ | refine blk_drew ?_ | refine blk_alloc ?_ _)); exact BK136.out) hg (Kd.R_ne HO143.out BK136.out (by decide))); have n1_ := Aside0.mk (blk_grown (g := gb137) (o := .cells #[.int .u8 0, .int .u64 0, .int .u64 0, .int .i64 0, .int .i64 0, .slice none 0 0, .int .u64 0, .int .u64 0, .slice none 0 0, .int .u64 0, .int .u8 0, .int .u32 0, .int .i64 0, .slice none 0 0] 29 (0, 0)) (by (with_reducible repeat (first | refine blk_drewN ?_ _ | refine blk_drew ?_ | refine blk_alloc ?_ _)); exact BK137.out) hg (Kd.R_ne HO143.out BK137.out (by decide))); have n2_ := Aside0.mk (Kd.S_after (ok := (fun _ => True)) (by (with_reducible repeat (first | apply Kd.S_alloc | apply Kd.S_drewN | apply Kd.S_drew)); exact HO140.out) hg hat); have n3_ := Aside0.mk (hb); have n4_ := Aside0.mk (ho); clear BK136; clear BK137; clear HO140; clear HB; clear HO143; have BK136 := n0_; have BK137 := n1_; have HO140 := n2_; have HB := n3_; have HO146 := n4_; clear n0_ n1_ n2_ n3_ n4_; clear ho hb hg hat; obtain ⟨Ao15, co15, eo15⟩ := Kd.R_slice HO146.out; subst eo15; have hcz16_0 : w14.cell? ⟨gb136, 0, none⟩ = some (.int .u8 a0_0) := (blk_cell BK136.out 0).trans rfl; have hcz16_1 : w14.cell? ⟨gb136, 1, none⟩ = some (.int .u64 a0_1) := (blk_cell BK136.out 1).trans rfl; have hcz16_2 : w14.cell? ⟨gb136, 2, none⟩ = some (.int .u64 a0_2) := (blk_cell BK136.out 2).trans rfl; have hcz16_3 : w14.cell? ⟨gb136, 3, none⟩ = some (.int .i64 a0_3) := (blk_cell BK136.out 3).trans rfl; have hcz16_4 : w14.cell? ⟨gb136, 4, none⟩ = some (.int .i64 a0_4) := (blk_cell BK136.out 4).trans rfl; have hcz16_5 : w14.cell? ⟨gb136, 5, none⟩ = some (.slice Ao9 t138.length co9) := (blk_cell BK136.out 5).trans rfl; have hcz16_6 : w14.cell? ⟨gb136, 6, none⟩ = some (.int .u64 a0_6) := (blk_cell BK136.out 6).trans rfl; have hcz16_7 : w14.cell? ⟨gb136, 7, none⟩ = some (.int .u64 a0_7) := (blk_cell BK136.out 7).trans rfl; have hcz16_8 : w14.cell? ⟨gb136, 8, none⟩ = some (.slice A0_8 l0_8.length c0_8) := (blk_cell BK136.out 8).trans rfl; have hcz16_9 : w14.cell? ⟨gb136, 9, none⟩ = some (.int .u64 a0_9) := (blk_cell BK136.out 9).trans rfl; have hcz16_10 : w14.cell? ⟨gb136, 10, none⟩ = some (.int .u8 a0_10) := (blk_cell BK136.out 10).trans rfl; have hcz16_11 : w14.cell? ⟨gb136, 11, none⟩ = some (.int .u32 a0_11) := (blk_cell BK136.out 11).trans rfl; have hcz16_12 : w14.cell? ⟨gb136, 12, none⟩ = some (.int .i64 a0_12) := (blk_cell BK136.out 12).trans rfl; have hcz16_13 : w14.cell? ⟨gb136, 13, none⟩ = some (.slice A0_13 l0_13.length c0_13) := (blk_cell BK136.out 13).trans rfl; have hfz16_0 := blk_frozen BK136.out 0; have hfz16_1 := blk_frozen BK136.out 1; have hfz16_2 := blk_frozen BK136.out 2; have hfz16_3 := blk_frozen BK136.out 3; have hfz16_4 := blk_frozen BK136.out 4; have hfz16_5 := blk_frozen BK136.out 5; have hfz16_6 := blk_frozen BK136.out 6; have hfz16_7 := blk_frozen BK136.out 7; have hfz16_8 := blk_frozen BK136.out 8; have hfz16_9 := blk_frozen BK136.out 9; have hfz16_10 := blk_frozen BK136.out 10; have hfz16_11 := blk_frozen BK136.out 11; have hfz16_12 := blk_frozen BK136.out 12; have hfz16_13 := blk_frozen BK136.out 13))
    go_loopg [3, 4] k (fun kq v3 v4 w' => ∃ (x3_1 : List (List Int)) (x4_1 : Int), v4 = .int .i64 x4_1 ∧ Aside0 (tabularyref18_Copied.l0 kq x3_1 x4_1 a0_0 a0_1 a0_2 a0_3 a0_4 t138 a0_6 a0_7 y144 a0_9 a0_10 a0_11 a0_12 l0_13 = some (r1, r2, r3, r4, r5, r6, r7, r8, r9, r10, r11, r12, r13, r14)) ∧ Aside0 (kq ≤ k) ∧ Aside0 (Kd.S (Kd.slice 5 (Kd.int .u8)) 24 w' w.heap.size (fun k_ => some k_ ≠ ((.slice Ao15 y144.length co15) : Value).ownBlock) v3 x3_1) ∧ Aside0 (Kd.S k44 44 w' w.heap.size (fun k_ => some k_ ≠ ((.slice Ao15 y144.length co15) : Value).ownBlock) (.slice Ao9 t138.length co9) t138) ∧ Aside0 (Kd.R (Kd.int .u8) 5 w' w.heap.size (fun _ => True) (.slice Ao15 y144.length co15) y144) ∧ Aside0 (w'.heap[gb136]? = some (.cells #[.int .u8 a0_0, .int .u64 a0_1, .int .u64 a0_2, .int .i64 a0_3, .int .i64 a0_4, (.slice Ao9 t138.length co9), .int .u64 a0_6, .int .u64 a0_7, (.slice Ao15 y144.length co15), .int .u64 a0_9, .int .u8 a0_10, .int .u32 a0_11, .int .i64 a0_12, (.slice A0_13 l0_13.length c0_13)] 29 (0, 0))) ∧ Aside0 (w'.heap[gb137]? = some (.cells #[.int .u8 0, .int .u64 0, .int .u64 0, .int .i64 0, .int .i64 0, (.slice none 0 0), .int .u64 0, .int .u64 0, (.slice none 0 0), .int .u64 0, .int .u8 0, .int .u32 0, .int .i64 0, (.slice none 0 0)] 29 (0, 0))) ∧ Aside0 (Below w.heap.size w w'))
    case atStart => exact ⟨(([] : List (List Int))), (0), (by first | rfl | (simp; done) | (simp [*]; done)), H', ⟨Nat.le_refl _⟩, ⟨by first | exact Kd.S_nil _ _ _ _ _ | exact Kd.N_nil _ _ _ _ _ | exact Kd.V_nil _ _ _ _ _ | exact Kd.Q_nil _ _ _ _ _ | exact Kd.R_nil _ _ _ _ _⟩, ⟨by (with_reducible repeat (first | apply Kd.S_alloc | apply Kd.S_drewN | apply Kd.S_drew)); exact Kd.S_mono (Kd.S_far (p := ⟨gb136, 8, none⟩) (Kd.S_types HO140.out BK136.out (by decide)) (fun _ hk => hk.2) (.slice Ao15 y144.length co15)) (fun _ hk => hk.1.2)⟩, ⟨by (with_reducible repeat (first | apply Kd.R_alloc | apply Kd.R_drewN | apply Kd.R_drew)); exact Kd.R_mono (Kd.R_far (p := ⟨gb136, 8, none⟩) (Kd.R_types HO146.out BK136.out (by decide)) (fun _ hk => hk.2) (.slice Ao15 y144.length co15)) (fun _ hk => trivial)⟩, ⟨by (with_reducible repeat (first | refine blk_drewN ?_ _ | refine blk_drew ?_ | refine blk_alloc ?_ _)); refine blk_put (cs := #[.int .u8 a0_0, .int .u64 a0_1, .int .u64 a0_2, .int .i64 a0_3, .int .i64 a0_4, .slice Ao9 t138.length co9, .int .u64 a0_6, .int .u64 a0_7, .slice A0_8 l0_8.length c0_8, .int .u64 a0_9, .int .u8 a0_10, .int .u32 a0_11, .int .i64 a0_12, .slice A0_13 l0_13.length c0_13]) ?_ 8 _ rfl; (with_reducible repeat (first | refine blk_drewN ?_ _ | refine blk_drew ?_ | refine blk_alloc ?_ _)); exact BK136.out⟩, ⟨by (with_reducible repeat (first | refine blk_drewN ?_ _ | refine blk_drew ?_ | refine blk_alloc ?_ _)); refine blk_far ?_ NB137_136.out _; (with_reducible repeat (first | refine blk_drewN ?_ _ | refine blk_drew ?_ | refine blk_alloc ?_ _)); exact BK137.out⟩, ⟨by repeat (first | (with_reducible first | exact HB.out | apply below_alloc | apply pw_below_drewN | apply below_drew1 | refine below_set ?_ GE136.out | refine below_set ?_ GE137.out) | exact HB.out)⟩⟩
    case round =>
      clear H'
      try clear c1
      try clear p2
      try clear c3
      try clear c6
      try clear c10
      try clear hcz10_0
      try clear hcz10_1
      try clear hcz10_10
      try clear hcz10_11
      try clear hcz10_12
      try clear hcz10_13
      try clear hcz10_2
      try clear hcz10_3
      try clear hcz10_4
      try clear hcz10_5
      try clear hcz10_6
      try clear hcz10_7
      try clear hcz10_8
      try clear hcz10_9
      try clear hcz13_0
      try clear hcz13_1
      try clear hcz13_10
      try clear hcz13_11
      try clear hcz13_12
      try clear hcz13_13
      try clear hcz13_2
      try clear hcz13_3
      try clear hcz13_4
      try clear hcz13_5
      try clear hcz13_6
      try clear hcz13_7
      try clear hcz13_8
      try clear hcz13_9
      try clear hcz16_0
      try clear hcz16_1
      try clear hcz16_10
      try clear hcz16_11
      try clear hcz16_12
      try clear hcz16_13
      try clear hcz16_2
      try clear hcz16_3
      try clear hcz16_4
      try clear hcz16_5
      try clear hcz16_6
      try clear hcz16_7
      try clear hcz16_8
      try clear hcz16_9
      try clear hcz7_0
      try clear hcz7_1
      try clear hcz7_10
      try clear hcz7_11
      try clear hcz7_12
      try clear hcz7_13
      try clear hcz7_2
      try clear hcz7_3
      try clear hcz7_4
      try clear hcz7_5
      try clear hcz7_6
      try clear hcz7_7
      try clear hcz7_8
      try clear hcz7_9
      try clear hfz10_0
      try clear hfz10_1
      try clear hfz10_10
      try clear hfz10_11
      try clear hfz10_12
      try clear hfz10_13
      try clear hfz10_2
      try clear hfz10_3
      try clear hfz10_4
      try clear hfz10_5
      try clear hfz10_6
      try clear hfz10_7
      try clear hfz10_8
      try clear hfz10_9
      try clear hfz13_0
      try clear hfz13_1
      try clear hfz13_10
      try clear hfz13_11
      try clear hfz13_12
      try clear hfz13_13
      try clear hfz13_2
      try clear hfz13_3
      try clear hfz13_4
      try clear hfz13_5
      try clear hfz13_6
      try clear hfz13_7
      try clear hfz13_8
      try clear hfz13_9
      try clear hfz16_0
      try clear hfz16_1
      try clear hfz16_10
      try clear hfz16_11
      try clear hfz16_12
      try clear hfz16_13
      try clear hfz16_2
      try clear hfz16_3
      try clear hfz16_4
      try clear hfz16_5
      try clear hfz16_6
      try clear hfz16_7
      try clear hfz16_8
      try clear hfz16_9
      try clear hfz7_0
      try clear hfz7_1
      try clear hfz7_10
      try clear hfz7_11
      try clear hfz7_12
      try clear hfz7_13
      try clear hfz7_2
      try clear hfz7_3
      try clear hfz7_4
      try clear hfz7_5
      try clear hfz7_6
      try clear hfz7_7
      try clear hfz7_8
      try clear hfz7_9
      obtain ⟨x3_1, x4_1, rfl, HA, HK1, HO_3, HO_137005, HO_137008, BK136, BK137, HB⟩ := hrel
      cases gk with
      | zero => exact absurd HA.out (by simp [tabularyref18_Copied.l0])
      | succ k1 =>
        have H := HA.out
        clear HA
        simp only [tabularyref18_Copied.l0] at H
        by_cases c17 : x4_1 < (l0_13.length : Int)
        · rw [if_pos c17] at H
          have c17b0 : decide (x4_1 < (l0_13.length : Int)) = true := decide_eq_true c17
          clear c17
          obtain ⟨y147, hy147⟩ : ∃ y_ : List Int, y_ = (([] : List Int)) := ⟨_, rfl⟩
          replace H : (if 0 ≤ x4_1 then (if y147.length + (rd_L2 l0_13 x4_1).length < 140737488355328 then (if x3_1.length < 5864062014805 then (tabularyref18_Copied.l0 k1 (x3_1 ++ [(y147 ++ (rd_L2 l0_13 x4_1))]) (wrap64 (x4_1 + 1)) a0_0 a0_1 a0_2 a0_3 a0_4 t138 a0_6 a0_7 y144 a0_9 a0_10 a0_11 a0_12 l0_13) else (none)) else (none)) else (none)) = some (r1, r2, r3, r4, r5, r6, r7, r8, r9, r10, r11, r12, r13, r14) := by first | (rw [hy147]; with_reducible exact H) | (have H2_ := (Option.bind_some _ _).symm.trans H; rw [hy147]; with_reducible exact H2_) | (have H2_ := (Option.bind_some _ _).symm.trans H; with_reducible exact H2_) | with_reducible exact H | (rw [hy147]; exact H) | exact H
          have Ny147 := Aside0.mk hy147
          clear hy147
          by_cases c18 : 0 ≤ x4_1
          · rw [if_pos c18] at H
            have c18b0 : decide (0 ≤ x4_1) = true := decide_eq_true c18
            clear c18
            by_cases c19 : y147.length + (rd_L2 l0_13 x4_1).length < 140737488355328
            · rw [if_pos c19] at H
              have LMc19 := Aside0.mk c19
              clear c19
              obtain ⟨y151, hy151⟩ : ∃ y_ : List Int, y_ = (y147 ++ (rd_L2 l0_13 x4_1)) := ⟨_, rfl⟩
              replace H : (if x3_1.length < 5864062014805 then (tabularyref18_Copied.l0 k1 (x3_1 ++ [y151]) (wrap64 (x4_1 + 1)) a0_0 a0_1 a0_2 a0_3 a0_4 t138 a0_6 a0_7 y144 a0_9 a0_10 a0_11 a0_12 l0_13) else (none)) = some (r1, r2, r3, r4, r5, r6, r7, r8, r9, r10, r11, r12, r13, r14) := by first | (rw [hy151]; with_reducible exact H) | (have H2_ := (Option.bind_some _ _).symm.trans H; rw [hy151]; with_reducible exact H2_) | (have H2_ := (Option.bind_some _ _).symm.trans H; with_reducible exact H2_) | with_reducible exact H | (rw [hy151]; exact H) | exact H
              have Ny151 := Aside0.mk hy151
              clear hy151
              by_cases c20 : x3_1.length < 5864062014805
              · rw [if_pos c20] at H
                have LMc20 := Aside0.mk c20
                clear c20
                obtain ⟨y154, hy154⟩ : ∃ y_ : List (List Int), y_ = (x3_1 ++ [y151]) := ⟨_, rfl⟩
                replace H : (tabularyref18_Copied.l0 k1 y154 (wrap64 (x4_1 + 1)) a0_0 a0_1 a0_2 a0_3 a0_4 t138 a0_6 a0_7 y144 a0_9 a0_10 a0_11 a0_12 l0_13) = some (r1, r2, r3, r4, r5, r6, r7, r8, r9, r10, r11, r12, r13, r14) := by first | (rw [hy154]; with_reducible exact H) | (have H2_ := (Option.bind_some _ _).symm.trans H; rw [hy154]; with_reducible exact H2_) | (have H2_ := (Option.bind_some _ _).symm.trans H; with_reducible exact H2_) | with_reducible exact H | (rw [hy154]; exact H) | exact H
                have Ny154 := Aside0.mk hy154
                clear hy154
                have H' := Aside0.mk H
                clear H
                have hnb21 := NB136_137.out
                have hnc21 := NB137_136.out
                have hcz22_0 : wr.cell? ⟨gb136, 0, none⟩ = some (.int .u8 a0_0) := (blk_cell BK136.out 0).trans rfl
                have hcz22_1 : wr.cell? ⟨gb136, 1, none⟩ = some (.int .u64 a0_1) := (blk_cell BK136.out 1).trans rfl
                have hcz22_2 : wr.cell? ⟨gb136, 2, none⟩ = some (.int .u64 a0_2) := (blk_cell BK136.out 2).trans rfl
                have hcz22_3 : wr.cell? ⟨gb136, 3, none⟩ = some (.int .i64 a0_3) := (blk_cell BK136.out 3).trans rfl
                have hcz22_4 : wr.cell? ⟨gb136, 4, none⟩ = some (.int .i64 a0_4) := (blk_cell BK136.out 4).trans rfl
                have hcz22_5 : wr.cell? ⟨gb136, 5, none⟩ = some (.slice Ao9 t138.length co9) := (blk_cell BK136.out 5).trans rfl
                have hcz22_6 : wr.cell? ⟨gb136, 6, none⟩ = some (.int .u64 a0_6) := (blk_cell BK136.out 6).trans rfl
                have hcz22_7 : wr.cell? ⟨gb136, 7, none⟩ = some (.int .u64 a0_7) := (blk_cell BK136.out 7).trans rfl
                have hcz22_8 : wr.cell? ⟨gb136, 8, none⟩ = some (.slice Ao15 y144.length co15) := (blk_cell BK136.out 8).trans rfl
                have hcz22_9 : wr.cell? ⟨gb136, 9, none⟩ = some (.int .u64 a0_9) := (blk_cell BK136.out 9).trans rfl
                have hcz22_10 : wr.cell? ⟨gb136, 10, none⟩ = some (.int .u8 a0_10) := (blk_cell BK136.out 10).trans rfl
                have hcz22_11 : wr.cell? ⟨gb136, 11, none⟩ = some (.int .u32 a0_11) := (blk_cell BK136.out 11).trans rfl
                have hcz22_12 : wr.cell? ⟨gb136, 12, none⟩ = some (.int .i64 a0_12) := (blk_cell BK136.out 12).trans rfl
                have hcz22_13 : wr.cell? ⟨gb136, 13, none⟩ = some (.slice A0_13 l0_13.length c0_13) := (blk_cell BK136.out 13).trans rfl
                have hfz22_0 := blk_frozen BK136.out 0
                have hfz22_1 := blk_frozen BK136.out 1
                have hfz22_2 := blk_frozen BK136.out 2
                have hfz22_3 := blk_frozen BK136.out 3
                have hfz22_4 := blk_frozen BK136.out 4
                have hfz22_5 := blk_frozen BK136.out 5
                have hfz22_6 := blk_frozen BK136.out 6
                have hfz22_7 := blk_frozen BK136.out 7
                have hfz22_8 := blk_frozen BK136.out 8
                have hfz22_9 := blk_frozen BK136.out 9
                have hfz22_10 := blk_frozen BK136.out 10
                have hfz22_11 := blk_frozen BK136.out 11
                have hfz22_12 := blk_frozen BK136.out 12
                have hfz22_13 := blk_frozen BK136.out 13
                go_wp2_with (first | ((with_reducible refine gate_dst (N := 22) rfl ?_); refine Kd.R_lit (Kd.int .u8) _ 5 ?hg (N := 22) ?hd (xs := ([] : List Int)) (inner := []) (ok := fun _ => True) (okp := fun _ => True) ?hr ?hp (fun _ hk => hk) trivial (Below.refl _ _) (Nat.le_refl _) (by simp) ?_; (case hd => rfl); (case hg => rfl); (case hr => first | (go_simp; done) | (go_simp; rfl)); (case hp => exact (Reps.none _ _)); intro v148 w23 ho24 hb hg_ hnew_; clear hg_ hnew_; (first | rw [← Ny147.out] at ho24 | (simp only [Int.reduceToNat] at ho24; rw [← Ny147.out] at ho24)); have n0_ := Aside0.mk (Kd.S_elder' (by (with_reducible repeat (first | apply Kd.S_alloc | apply Kd.S_drewN | apply Kd.S_drew)); exact HO_3.out) (Kd.R_base ho24) hb); have n1_ := Aside0.mk (Kd.S_elder' (by (with_reducible repeat (first | apply Kd.S_alloc | apply Kd.S_drewN | apply Kd.S_drew)); exact HO_137005.out) (Kd.R_base ho24) hb); have n2_ := Aside0.mk (Kd.R_elder' (by (with_reducible repeat (first | apply Kd.R_alloc | apply Kd.R_drewN | apply Kd.R_drew)); exact HO_137008.out) (Kd.R_base ho24) hb); have n3_ := Aside0.mk (Kd.R_lower (Kd.R_new' ho24 (Kd.R_lt (by (with_reducible repeat (first | apply Kd.R_alloc | apply Kd.R_drewN | apply Kd.R_drew)); exact HO_137008.out))) (below_size (by repeat (first | (with_reducible first | exact HB.out | apply below_alloc | apply pw_below_drewN | apply below_drew1 | refine below_set ?_ GE136.out | refine below_set ?_ GE137.out) | exact HB.out)))); have n4_ := Aside0.mk (blk_below (g := gb136) (o := .cells #[.int .u8 a0_0, .int .u64 a0_1, .int .u64 a0_2, .int .i64 a0_3, .int .i64 a0_4, .slice Ao9 t138.length co9, .int .u64 a0_6, .int .u64 a0_7, .slice Ao15 y144.length co15, .int .u64 a0_9, .int .u8 a0_10, .int .u32 a0_11, .int .i64 a0_12, .slice A0_13 l0_13.length c0_13] 29 (0, 0)) (by (with_reducible repeat (first | refine blk_drewN ?_ _ | refine blk_drew ?_ | refine blk_alloc ?_ _)); exact BK136.out) hb); have n5_ := Aside0.mk (blk_below (g := gb137) (o := .cells #[.int .u8 0, .int .u64 0, .int .u64 0, .int .i64 0, .int .i64 0, .slice none 0 0, .int .u64 0, .int .u64 0, .slice none 0 0, .int .u64 0, .int .u8 0, .int .u32 0, .int .i64 0, .slice none 0 0] 29 (0, 0)) (by (with_reducible repeat (first | refine blk_drewN ?_ _ | refine blk_drew ?_ | refine blk_alloc ?_ _)); exact BK137.out) hb); have n6_ := Aside0.mk (below_step (by repeat (first | (with_reducible first | exact HB.out | apply below_alloc | apply pw_below_drewN | apply below_drew1 | refine below_set ?_ GE136.out | refine below_set ?_ GE137.out) | exact HB.out)) hb); clear HO_3; clear HO_137005; clear HO_137008; clear BK136; clear BK137; clear HB; have HO_3 := n0_; have HO_137005 := n1_; have HO_137008 := n2_; have HO149 := n3_; have BK136 := n4_; have BK137 := n5_; have HB := n6_; clear n0_ n1_ n2_ n3_ n4_ n5_ n6_; clear hb ho24; have hcz25_0 : w23.cell? ⟨gb136, 0, none⟩ = some (.int .u8 a0_0) := (blk_cell BK136.out 0).trans rfl; have hcz25_1 : w23.cell? ⟨gb136, 1, none⟩ = some (.int .u64 a0_1) := (blk_cell BK136.out 1).trans rfl; have hcz25_2 : w23.cell? ⟨gb136, 2, none⟩ = some (.int .u64 a0_2) := (blk_cell BK136.out 2).trans rfl; have hcz25_3 : w23.cell? ⟨gb136, 3, none⟩ = some (.int .i64 a0_3) := (blk_cell BK136.out 3).trans rfl; have hcz25_4 : w23.cell? ⟨gb136, 4, none⟩ = some (.int .i64 a0_4) := (blk_cell BK136.out 4).trans rfl; have hcz25_5 : w23.cell? ⟨gb136, 5, none⟩ = some (.slice Ao9 t138.length co9) := (blk_cell BK136.out 5).trans rfl; have hcz25_6 : w23.cell? ⟨gb136, 6, none⟩ = some (.int .u64 a0_6) := (blk_cell BK136.out 6).trans rfl; have hcz25_7 : w23.cell? ⟨gb136, 7, none⟩ = some (.int .u64 a0_7) := (blk_cell BK136.out 7).trans rfl; have hcz25_8 : w23.cell? ⟨gb136, 8, none⟩ = some (.slice Ao15 y144.length co15) := (blk_cell BK136.out 8).trans rfl; have hcz25_9 : w23.cell? ⟨gb136, 9, none⟩ = some (.int .u64 a0_9) := (blk_cell BK136.out 9).trans rfl; have hcz25_10 : w23.cell? ⟨gb136, 10, none⟩ = some (.int .u8 a0_10) := (blk_cell BK136.out 10).trans rfl; have hcz25_11 : w23.cell? ⟨gb136, 11, none⟩ = some (.int .u32 a0_11) := (blk_cell BK136.out 11).trans rfl; have hcz25_12 : w23.cell? ⟨gb136, 12, none⟩ = some (.int .i64 a0_12) := (blk_cell BK136.out 12).trans rfl; have hcz25_13 : w23.cell? ⟨gb136, 13, none⟩ = some (.slice A0_13 l0_13.length c0_13) := (blk_cell BK136.out 13).trans rfl; have hfz25_0 := blk_frozen BK136.out 0; have hfz25_1 := blk_frozen BK136.out 1; have hfz25_2 := blk_frozen BK136.out 2; have hfz25_3 := blk_frozen BK136.out 3; have hfz25_4 := blk_frozen BK136.out 4; have hfz25_5 := blk_frozen BK136.out 5; have hfz25_6 := blk_frozen BK136.out 6; have hfz25_7 := blk_frozen BK136.out 7; have hfz25_8 := blk_frozen BK136.out 8; have hfz25_9 := blk_frozen BK136.out 9; have hfz25_10 := blk_frozen BK136.out 10; have hfz25_11 := blk_frozen BK136.out 11; have hfz25_12 := blk_frozen BK136.out 12; have hfz25_13 := blk_frozen BK136.out 13; have p150 : 0 ≤ (x4_1 : Int) := of_decide_eq_true (by first | (with_reducible assumption) | assumption); have q150 : x4_1 < (l0_13.length : Int) := of_decide_eq_true (by first | (with_reducible assumption) | assumption); obtain ⟨ad150, A150_0, c150_0, e150, hx150_0, hl150_0, hi150_0⟩ := at_L2 HR0_13.out x4_1 p150 q150; cases e150; replace hx150_0 := (HB.out.cell (World.block_lt_of_cell? w _ hx150_0)).trans hx150_0; have HR150_0 := Aside0.mk hi150_0; have HC150_0 := Aside0.mk hl150_0; clear hi150_0 hl150_0; replace p150 := eq_true p150; replace q150 := eq_true q150) | ((with_reducible refine gate_builtin (b := .append) (xs := #[.tmp 22, .tmp 27]) rfl ?_); at_builtin; refine Kd.R_append_rows (Kd.int .u8) (w0 := w) w.heap.size rfl (.tmp 22) (.tmp 27) 24 5 (.int .u8 0) 1 rfl Try.underlying24 info5 rfl (by decide) (by omega) v148 y147 (rd_L2 l0_13 x4_1) _ _ _ (fun k_ => some k_ ≠ (.slice Ao15 y144.length co15 : Value).ownBlock) (fun _ => False) rfl rfl ?aO ?aR (fun _ _ h => h) (fun _ h => h.elim) ?aF ?aB ?aS ?aL ?_; (case aR => repeat (first | exact (Kd.C_below HR150_0.out HB.out) | (with_reducible refine Kd.C_alloc ?_ _) | (with_reducible refine Kd.C_drewN ?_ _) | (with_reducible refine Kd.C_drew ?_))); (case aB => exact (by repeat (first | (with_reducible first | exact HB.out | apply below_alloc | apply pw_below_drewN | apply below_drew1 | refine below_set ?_ GE136.out | refine below_set ?_ GE137.out) | exact HB.out))); (case aF => exact (fun k_ hk => Kd.fresh' (Kd.R_lt (by (with_reducible repeat (first | apply Kd.R_alloc | apply Kd.R_drewN | apply Kd.R_drew)); exact HO_137008.out)) k_ hk)); (case aO => exact (by (with_reducible repeat (first | apply Kd.R_alloc | apply Kd.R_drewN | apply Kd.R_drew)); exact Kd.R_mono HO149.out (fun _ hk => hk.2))); (case aS => exact (below_size (by repeat (first | (with_reducible first | exact HB.out | apply below_alloc | apply pw_below_drewN | apply below_drew1 | refine below_set ?_ GE136.out | refine below_set ?_ GE137.out) | exact HB.out)))); (case aL => have := LMc19.out; omega); intro v152 w26 ho hb hg hat; rw [← Ny151.out] at ho; have n0_ := Aside0.mk (Kd.S_after (ok := (fun k_ => some k_ ≠ (.slice Ao15 y144.length co15 : Value).ownBlock)) (by (with_reducible repeat (first | apply Kd.S_alloc | apply Kd.S_drewN | apply Kd.S_drew)); exact HO_3.out) hg hat); have n1_ := Aside0.mk (Kd.S_after (ok := (fun k_ => some k_ ≠ (.slice Ao15 y144.length co15 : Value).ownBlock)) (by (with_reducible repeat (first | apply Kd.S_alloc | apply Kd.S_drewN | apply Kd.S_drew)); exact HO_137005.out) hg hat); have n2_ := Aside0.mk (Kd.R_after (ok := (fun _ => True)) (by (with_reducible repeat (first | apply Kd.R_alloc | apply Kd.R_drewN | apply Kd.R_drew)); exact HO_137008.out) hg hat); have n3_ := Aside0.mk (blk_grown (g := gb136) (o := .cells #[.int .u8 a0_0, .int .u64 a0_1, .int .u64 a0_2, .int .i64 a0_3, .int .i64 a0_4, .slice Ao9 t138.length co9, .int .u64 a0_6, .int .u64 a0_7, .slice Ao15 y144.length co15, .int .u64 a0_9, .int .u8 a0_10, .int .u32 a0_11, .int .i64 a0_12, .slice (some ad150) l0_13.length c0_13] 29 (0, 0)) (by (with_reducible repeat (first | refine blk_drewN ?_ _ | refine blk_drew ?_ | refine blk_alloc ?_ _)); exact BK136.out) hg (Kd.R_ne HO149.out BK136.out (by decide))); have n4_ := Aside0.mk (blk_grown (g := gb137) (o := .cells #[.int .u8 0, .int .u64 0, .int .u64 0, .int .i64 0, .int .i64 0, .slice none 0 0, .int .u64 0, .int .u64 0, .slice none 0 0, .int .u64 0, .int .u8 0, .int .u32 0, .int .i64 0, .slice none 0 0] 29 (0, 0)) (by (with_reducible repeat (first | refine blk_drewN ?_ _ | refine blk_drew ?_ | refine blk_alloc ?_ _)); exact BK137.out) hg (Kd.R_ne HO149.out BK137.out (by decide))); have n5_ := Aside0.mk (hb); have n6_ := Aside0.mk (ho); clear HO_3; clear HO_137005; clear HO_137008; clear BK136; clear BK137; clear HB; clear HO149; have HO_3 := n0_; have HO_137005 := n1_; have HO_137008 := n2_; have BK136 := n3_; have BK137 := n4_; have HB := n5_; have HO153 := n6_; clear n0_ n1_ n2_ n3_ n4_ n5_ n6_; clear ho hb hg hat; obtain ⟨Ao28, co28, eo28⟩ := Kd.R_slice HO153.out; subst eo28) | ((with_reducible refine gate_builtin (b := .append) (xs := #[.tmp 21, .tmp 29]) rfl ?_); at_builtin; refine Kd.S_append (Kd.slice 5 (Kd.int .u8)) (w0 := w) w.heap.size rfl (.tmp 21) (.tmp 29) 27 24 (.slice none 0 0) 24 rfl Try.underlying27 info24 rfl (by decide) (by omega) u3 x3_1 y151 [.slice Ao28 y151.length co28] (fun k_ => some k_ ≠ (.slice Ao15 y144.length co15 : Value).ownBlock) (fun k_ => some k_ = (.slice Ao28 y151.length co28 : Value).ownBlock) rfl rfl ?aP (fun k_ hk_ => ((Kd.R_mono (ok' := fun k_ => ((fun k_ => some k_ ≠ (.slice Ao15 y144.length co15 : Value).ownBlock)) k_ ∧ some k_ ≠ (u3 : Value).ownBlock) (Kd.R_apart' (HO153.out) (Kd.S_typed HO_3.out) (by decide)) (fun k_ hk => ⟨hk.1, hk.2⟩))).1 k_ hk_.symm) ?aF ?aO ?aB ?aS ?aL ?_; (case aP => exact Kd.M_row (Kd.R_mono (Kd.R_tight rfl (Kd.R_mono (ok' := fun k_ => ((fun k_ => some k_ ≠ (.slice Ao15 y144.length co15 : Value).ownBlock)) k_ ∧ some k_ ≠ (u3 : Value).ownBlock) (Kd.R_apart' (HO153.out) (Kd.S_typed HO_3.out) (by decide)) (fun k_ hk => ⟨hk.1, hk.2⟩))) (fun _ h_ => h_))); (case aB => exact (by repeat (first | (with_reducible first | exact HB.out | apply below_alloc | apply pw_below_drewN | apply below_drew1 | refine below_set ?_ GE136.out | refine below_set ?_ GE137.out) | exact HB.out))); (case aF => exact (fun k_ hk => Kd.fresh' (Kd.R_lt (by (with_reducible repeat (first | apply Kd.R_alloc | apply Kd.R_drewN | apply Kd.R_drew)); exact HO_137008.out)) k_ hk)); (case aO => exact (by (with_reducible repeat (first | apply Kd.S_alloc | apply Kd.S_drewN | apply Kd.S_drew)); exact Kd.S_mono HO_3.out (fun k_ hk => ⟨hk.1, fun e_ => hk.2 e_⟩))); (case aS => exact (below_size (by repeat (first | (with_reducible first | exact HB.out | apply below_alloc | apply pw_below_drewN | apply below_drew1 | refine below_set ?_ GE136.out | refine below_set ?_ GE137.out) | exact HB.out)))); (case aL => have := LMc20.out; omega); intro v155 w27 ho hb hg hat; rw [← Ny154.out] at ho; have n0_ := Aside0.mk (Kd.S_over' (by (with_reducible repeat (first | apply Kd.S_alloc | apply Kd.S_drewN | apply Kd.S_drew)); exact HO_137005.out) (Kd.S_typed (by (with_reducible repeat (first | apply Kd.S_alloc | apply Kd.S_drewN | apply Kd.S_drew)); exact HO_3.out)) (by decide) hg); have n1_ := Aside0.mk (Kd.R_over' (by (with_reducible repeat (first | apply Kd.R_alloc | apply Kd.R_drewN | apply Kd.R_drew)); exact HO_137008.out) (Kd.S_typed (by (with_reducible repeat (first | apply Kd.S_alloc | apply Kd.S_drewN | apply Kd.S_drew)); exact HO_3.out)) (by decide) hg); have n2_ := Aside0.mk (blk_grown (g := gb136) (o := .cells #[.int .u8 a0_0, .int .u64 a0_1, .int .u64 a0_2, .int .i64 a0_3, .int .i64 a0_4, .slice Ao9 t138.length co9, .int .u64 a0_6, .int .u64 a0_7, .slice Ao15 y144.length co15, .int .u64 a0_9, .int .u8 a0_10, .int .u32 a0_11, .int .i64 a0_12, .slice (some ad150) l0_13.length c0_13] 29 (0, 0)) (by (with_reducible repeat (first | refine blk_drewN ?_ _ | refine blk_drew ?_ | refine blk_alloc ?_ _)); exact BK136.out) hg (Kd.S_ne HO_3.out BK136.out (by decide))); have n3_ := Aside0.mk (blk_grown (g := gb137) (o := .cells #[.int .u8 0, .int .u64 0, .int .u64 0, .int .i64 0, .int .i64 0, .slice none 0 0, .int .u64 0, .int .u64 0, .slice none 0 0, .int .u64 0, .int .u8 0, .int .u32 0, .int .i64 0, .slice none 0 0] 29 (0, 0)) (by (with_reducible repeat (first | refine blk_drewN ?_ _ | refine blk_drew ?_ | refine blk_alloc ?_ _)); exact BK137.out) hg (Kd.S_ne HO_3.out BK137.out (by decide))); have n4_ := Aside0.mk (hb); have n5_ := Aside0.mk (ho); clear HO_137005; clear HO_137008; clear BK136; clear BK137; clear HB; clear HO_3; clear HO153; have HO_137005 := n0_; have HO_137008 := n1_; have BK136 := n2_; have BK137 := n3_; have HB := n4_; have HO156 := n5_; clear n0_ n1_ n2_ n3_ n4_ n5_; clear ho hb hg hat))
                go_roundg k1
                case measure => have := HK1.out; omega
                case rel => exact ⟨(y154), (wrap64 (x4_1 + 1)), (by first | rfl | (simp; done) | (simp [*]; done)), H', ⟨by have := HK1.out; omega⟩, ⟨by (with_reducible repeat (first | apply Kd.S_alloc | apply Kd.S_drewN | apply Kd.S_drew)); exact HO156.out⟩, ⟨by (with_reducible repeat (first | apply Kd.S_alloc | apply Kd.S_drewN | apply Kd.S_drew)); exact Kd.S_mono HO_137005.out (fun _ hk => hk.1)⟩, ⟨by (with_reducible repeat (first | apply Kd.R_alloc | apply Kd.R_drewN | apply Kd.R_drew)); exact Kd.R_mono HO_137008.out (fun _ hk => trivial)⟩, ⟨by (with_reducible repeat (first | refine blk_drewN ?_ _ | refine blk_drew ?_ | refine blk_alloc ?_ _)); exact BK136.out⟩, ⟨by (with_reducible repeat (first | refine blk_drewN ?_ _ | refine blk_drew ?_ | refine blk_alloc ?_ _)); exact BK137.out⟩, ⟨by repeat (first | (with_reducible first | exact HB.out | apply below_alloc | apply pw_below_drewN | apply below_drew1 | refine below_set ?_ GE136.out | refine below_set ?_ GE137.out) | exact HB.out)⟩⟩
              · rw [if_neg c20] at H
                exact absurd H (by simp)
            · rw [if_neg c19] at H
              exact absurd H (by simp)
          · rw [if_neg c18] at H
            exact absurd H (by simp)
        · rw [if_neg c17] at H
          have c17b0 : decide (x4_1 < (l0_13.length : Int)) = false := decide_eq_false c17
          clear c17
          simp only [Option.some.injEq, Prod.mk.injEq] at H
          obtain ⟨rfl, rfl, rfl, rfl, rfl, rfl, rfl, rfl, rfl, rfl, rfl, rfl, rfl, rfl⟩ := H
          have hnb29 := NB136_137.out
          have hnc29 := NB137_136.out
          have hcz30_0 : wr.cell? ⟨gb136, 0, none⟩ = some (.int .u8 a0_0) := (blk_cell BK136.out 0).trans rfl
          have hcz30_1 : wr.cell? ⟨gb136, 1, none⟩ = some (.int .u64 a0_1) := (blk_cell BK136.out 1).trans rfl
          have hcz30_2 : wr.cell? ⟨gb136, 2, none⟩ = some (.int .u64 a0_2) := (blk_cell BK136.out 2).trans rfl
          have hcz30_3 : wr.cell? ⟨gb136, 3, none⟩ = some (.int .i64 a0_3) := (blk_cell BK136.out 3).trans rfl
          have hcz30_4 : wr.cell? ⟨gb136, 4, none⟩ = some (.int .i64 a0_4) := (blk_cell BK136.out 4).trans rfl
          have hcz30_5 : wr.cell? ⟨gb136, 5, none⟩ = some (.slice Ao9 t138.length co9) := (blk_cell BK136.out 5).trans rfl
          have hcz30_6 : wr.cell? ⟨gb136, 6, none⟩ = some (.int .u64 a0_6) := (blk_cell BK136.out 6).trans rfl
          have hcz30_7 : wr.cell? ⟨gb136, 7, none⟩ = some (.int .u64 a0_7) := (blk_cell BK136.out 7).trans rfl
          have hcz30_8 : wr.cell? ⟨gb136, 8, none⟩ = some (.slice Ao15 y144.length co15) := (blk_cell BK136.out 8).trans rfl
          have hcz30_9 : wr.cell? ⟨gb136, 9, none⟩ = some (.int .u64 a0_9) := (blk_cell BK136.out 9).trans rfl
          have hcz30_10 : wr.cell? ⟨gb136, 10, none⟩ = some (.int .u8 a0_10) := (blk_cell BK136.out 10).trans rfl
          have hcz30_11 : wr.cell? ⟨gb136, 11, none⟩ = some (.int .u32 a0_11) := (blk_cell BK136.out 11).trans rfl
          have hcz30_12 : wr.cell? ⟨gb136, 12, none⟩ = some (.int .i64 a0_12) := (blk_cell BK136.out 12).trans rfl
          have hcz30_13 : wr.cell? ⟨gb136, 13, none⟩ = some (.slice A0_13 l0_13.length c0_13) := (blk_cell BK136.out 13).trans rfl
          have hfz30_0 := blk_frozen BK136.out 0
          have hfz30_1 := blk_frozen BK136.out 1
          have hfz30_2 := blk_frozen BK136.out 2
          have hfz30_3 := blk_frozen BK136.out 3
          have hfz30_4 := blk_frozen BK136.out 4
          have hfz30_5 := blk_frozen BK136.out 5
          have hfz30_6 := blk_frozen BK136.out 6
          have hfz30_7 := blk_frozen BK136.out 7
          have hfz30_8 := blk_frozen BK136.out 8
          have hfz30_9 := blk_frozen BK136.out 9
          have hfz30_10 := blk_frozen BK136.out 10
          have hfz30_11 := blk_frozen BK136.out 11
          have hfz30_12 := blk_frozen BK136.out 12
          have hfz30_13 := blk_frozen BK136.out 13
          obtain ⟨Ao31, co31, eo31⟩ := Kd.S_slice HO_3.out
          subst eo31
          have hcz32_0 : wr.cell? ⟨gb137, 0, none⟩ = some (.int .u8 0) := (blk_cell BK137.out 0).trans rfl
          have hcz32_1 : wr.cell? ⟨gb137, 1, none⟩ = some (.int .u64 0) := (blk_cell BK137.out 1).trans rfl
          have hcz32_2 : wr.cell? ⟨gb137, 2, none⟩ = some (.int .u64 0) := (blk_cell BK137.out 2).trans rfl
          have hcz32_3 : wr.cell? ⟨gb137, 3, none⟩ = some (.int .i64 0) := (blk_cell BK137.out 3).trans rfl
          have hcz32_4 : wr.cell? ⟨gb137, 4, none⟩ = some (.int .i64 0) := (blk_cell BK137.out 4).trans rfl
          have hcz32_5 : wr.cell? ⟨gb137, 5, none⟩ = some (.slice none 0 0) := (blk_cell BK137.out 5).trans rfl
          have hcz32_6 : wr.cell? ⟨gb137, 6, none⟩ = some (.int .u64 0) := (blk_cell BK137.out 6).trans rfl
          have hcz32_7 : wr.cell? ⟨gb137, 7, none⟩ = some (.int .u64 0) := (blk_cell BK137.out 7).trans rfl
          have hcz32_8 : wr.cell? ⟨gb137, 8, none⟩ = some (.slice none 0 0) := (blk_cell BK137.out 8).trans rfl
          have hcz32_9 : wr.cell? ⟨gb137, 9, none⟩ = some (.int .u64 0) := (blk_cell BK137.out 9).trans rfl
          have hcz32_10 : wr.cell? ⟨gb137, 10, none⟩ = some (.int .u8 0) := (blk_cell BK137.out 10).trans rfl
          have hcz32_11 : wr.cell? ⟨gb137, 11, none⟩ = some (.int .u32 0) := (blk_cell BK137.out 11).trans rfl
          have hcz32_12 : wr.cell? ⟨gb137, 12, none⟩ = some (.int .i64 0) := (blk_cell BK137.out 12).trans rfl
          have hcz32_13 : wr.cell? ⟨gb137, 13, none⟩ = some (.slice none 0 0) := (blk_cell BK137.out 13).trans rfl
          have hfz32_0 := blk_frozen BK137.out 0
          have hfz32_1 := blk_frozen BK137.out 1
          have hfz32_2 := blk_frozen BK137.out 2
          have hfz32_3 := blk_frozen BK137.out 3
          have hfz32_4 := blk_frozen BK137.out 4
          have hfz32_5 := blk_frozen BK137.out 5
          have hfz32_6 := blk_frozen BK137.out 6
          have hfz32_7 := blk_frozen BK137.out 7
          have hfz32_8 := blk_frozen BK137.out 8
          have hfz32_9 := blk_frozen BK137.out 9
          have hfz32_10 := blk_frozen BK137.out 10
          have hfz32_11 := blk_frozen BK137.out 11
          have hfz32_12 := blk_frozen BK137.out 12
          have hfz32_13 := blk_frozen BK137.out 13
          go_wp2
          refine bodyPost_ret (results_cell_row rfl _ _ gb137 29 #[.int .u8 a0_0, .int .u64 a0_1, .int .u64 a0_2, .int .i64 a0_3, .int .i64 a0_4, .slice Ao9 t138.length co9, .int .u64 a0_6, .int .u64 a0_7, .slice Ao15 y144.length co15, .int .u64 a0_9, .int .u8 a0_10, .int .u32 a0_11, .int .i64 a0_12, .slice Ao31 x3_1.length co31] (0, 0) _ rfl (by (with_reducible repeat (first | refine blk_drewN ?_ _ | refine blk_drew ?_ | refine blk_alloc ?_ _)); refine blk_put (cs := #[.int .u8 a0_0, .int .u64 a0_1, .int .u64 a0_2, .int .i64 a0_3, .int .i64 a0_4, .slice Ao9 t138.length co9, .int .u64 a0_6, .int .u64 a0_7, .slice Ao15 y144.length co15, .int .u64 a0_9, .int .u8 a0_10, .int .u32 a0_11, .int .i64 a0_12, .slice none 0 0]) ?_ 13 _ rfl; (with_reducible repeat (first | refine blk_drewN ?_ _ | refine blk_drew ?_ | refine blk_alloc ?_ _)); refine blk_put (cs := #[.int .u8 a0_0, .int .u64 a0_1, .int .u64 a0_2, .int .i64 a0_3, .int .i64 a0_4, .slice Ao9 t138.length co9, .int .u64 a0_6, .int .u64 a0_7, .slice Ao15 y144.length co15, .int .u64 a0_9, .int .u8 a0_10, .int .u32 a0_11, .int .i64 0, .slice none 0 0]) ?_ 12 _ rfl; (with_reducible repeat (first | refine blk_drewN ?_ _ | refine blk_drew ?_ | refine blk_alloc ?_ _)); refine blk_put (cs := #[.int .u8 a0_0, .int .u64 a0_1, .int .u64 a0_2, .int .i64 a0_3, .int .i64 a0_4, .slice Ao9 t138.length co9, .int .u64 a0_6, .int .u64 a0_7, .slice Ao15 y144.length co15, .int .u64 a0_9, .int .u8 a0_10, .int .u32 0, .int .i64 0, .slice none 0 0]) ?_ 11 _ rfl; (with_reducible repeat (first | refine blk_drewN ?_ _ | refine blk_drew ?_ | refine blk_alloc ?_ _)); refine blk_put (cs := #[.int .u8 a0_0, .int .u64 a0_1, .int .u64 a0_2, .int .i64 a0_3, .int .i64 a0_4, .slice Ao9 t138.length co9, .int .u64 a0_6, .int .u64 a0_7, .slice Ao15 y144.length co15, .int .u64 a0_9, .int .u8 0, .int .u32 0, .int .i64 0, .slice none 0 0]) ?_ 10 _ rfl; (with_reducible repeat (first | refine blk_drewN ?_ _ | refine blk_drew ?_ | refine blk_alloc ?_ _)); refine blk_put (cs := #[.int .u8 a0_0, .int .u64 a0_1, .int .u64 a0_2, .int .i64 a0_3, .int .i64 a0_4, .slice Ao9 t138.length co9, .int .u64 a0_6, .int .u64 a0_7, .slice Ao15 y144.length co15, .int .u64 0, .int .u8 0, .int .u32 0, .int .i64 0, .slice none 0 0]) ?_ 9 _ rfl; (with_reducible repeat (first | refine blk_drewN ?_ _ | refine blk_drew ?_ | refine blk_alloc ?_ _)); refine blk_put (cs := #[.int .u8 a0_0, .int .u64 a0_1, .int .u64 a0_2, .int .i64 a0_3, .int .i64 a0_4, .slice Ao9 t138.length co9, .int .u64 a0_6, .int .u64 a0_7, .slice none 0 0, .int .u64 0, .int .u8 0, .int .u32 0, .int .i64 0, .slice none 0 0]) ?_ 8 _ rfl; (with_reducible repeat (first | refine blk_drewN ?_ _ | refine blk_drew ?_ | refine blk_alloc ?_ _)); refine blk_put (cs := #[.int .u8 a0_0, .int .u64 a0_1, .int .u64 a0_2, .int .i64 a0_3, .int .i64 a0_4, .slice Ao9 t138.length co9, .int .u64 a0_6, .int .u64 0, .slice none 0 0, .int .u64 0, .int .u8 0, .int .u32 0, .int .i64 0, .slice none 0 0]) ?_ 7 _ rfl; (with_reducible repeat (first | refine blk_drewN ?_ _ | refine blk_drew ?_ | refine blk_alloc ?_ _)); refine blk_put (cs := #[.int .u8 a0_0, .int .u64 a0_1, .int .u64 a0_2, .int .i64 a0_3, .int .i64 a0_4, .slice Ao9 t138.length co9, .int .u64 0, .int .u64 0, .slice none 0 0, .int .u64 0, .int .u8 0, .int .u32 0, .int .i64 0, .slice none 0 0]) ?_ 6 _ rfl; (with_reducible repeat (first | refine blk_drewN ?_ _ | refine blk_drew ?_ | refine blk_alloc ?_ _)); refine blk_put (cs := #[.int .u8 a0_0, .int .u64 a0_1, .int .u64 a0_2, .int .i64 a0_3, .int .i64 a0_4, .slice none 0 0, .int .u64 0, .int .u64 0, .slice none 0 0, .int .u64 0, .int .u8 0, .int .u32 0, .int .i64 0, .slice none 0 0]) ?_ 5 _ rfl; (with_reducible repeat (first | refine blk_drewN ?_ _ | refine blk_drew ?_ | refine blk_alloc ?_ _)); refine blk_put (cs := #[.int .u8 a0_0, .int .u64 a0_1, .int .u64 a0_2, .int .i64 a0_3, .int .i64 0, .slice none 0 0, .int .u64 0, .int .u64 0, .slice none 0 0, .int .u64 0, .int .u8 0, .int .u32 0, .int .i64 0, .slice none 0 0]) ?_ 4 _ rfl; (with_reducible repeat (first | refine blk_drewN ?_ _ | refine blk_drew ?_ | refine blk_alloc ?_ _)); refine blk_put (cs := #[.int .u8 a0_0, .int .u64 a0_1, .int .u64 a0_2, .int .i64 0, .int .i64 0, .slice none 0 0, .int .u64 0, .int .u64 0, .slice none 0 0, .int .u64 0, .int .u8 0, .int .u32 0, .int .i64 0, .slice none 0 0]) ?_ 3 _ rfl; (with_reducible repeat (first | refine blk_drewN ?_ _ | refine blk_drew ?_ | refine blk_alloc ?_ _)); refine blk_put (cs := #[.int .u8 a0_0, .int .u64 a0_1, .int .u64 0, .int .i64 0, .int .i64 0, .slice none 0 0, .int .u64 0, .int .u64 0, .slice none 0 0, .int .u64 0, .int .u8 0, .int .u32 0, .int .i64 0, .slice none 0 0]) ?_ 2 _ rfl; (with_reducible repeat (first | refine blk_drewN ?_ _ | refine blk_drew ?_ | refine blk_alloc ?_ _)); refine blk_put (cs := #[.int .u8 a0_0, .int .u64 0, .int .u64 0, .int .i64 0, .int .i64 0, .slice none 0 0, .int .u64 0, .int .u64 0, .slice none 0 0, .int .u64 0, .int .u8 0, .int .u32 0, .int .i64 0, .slice none 0 0]) ?_ 1 _ rfl; (with_reducible repeat (first | refine blk_drewN ?_ _ | refine blk_drew ?_ | refine blk_alloc ?_ _)); refine blk_put (cs := #[.int .u8 0, .int .u64 0, .int .u64 0, .int .i64 0, .int .i64 0, .slice none 0 0, .int .u64 0, .int .u64 0, .slice none 0 0, .int .u64 0, .int .u8 0, .int .u32 0, .int .i64 0, .slice none 0 0]) ?_ 0 _ rfl; (with_reducible repeat (first | refine blk_drewN ?_ _ | refine blk_drew ?_ | refine blk_alloc ?_ _)); refine blk_far ?_ NB137_136.out _; (with_reducible repeat (first | refine blk_drewN ?_ _ | refine blk_drew ?_ | refine blk_alloc ?_ _)); exact BK137.out) Try.underlying29 rfl (by kernel_rfl)) rfl ?_
          exact ⟨_, _, _, by first | rfl | (simp [errW_none, errW_some] <;> rfl) | (simp [*, errW_none, errW_some] <;> rfl), by (with_reducible repeat (first | apply Kd.S_alloc | apply Kd.S_drewN | apply Kd.S_drew)); exact Kd.S_mono (Kd.S_far (p := ⟨gb137, 13, none⟩) (Kd.S_far (p := ⟨gb137, 12, none⟩) (Kd.S_far (p := ⟨gb137, 11, none⟩) (Kd.S_far (p := ⟨gb137, 10, none⟩) (Kd.S_far (p := ⟨gb137, 9, none⟩) (Kd.S_far (p := ⟨gb137, 8, none⟩) (Kd.S_far (p := ⟨gb137, 7, none⟩) (Kd.S_far (p := ⟨gb137, 6, none⟩) (Kd.S_far (p := ⟨gb137, 5, none⟩) (Kd.S_far (p := ⟨gb137, 4, none⟩) (Kd.S_far (p := ⟨gb137, 3, none⟩) (Kd.S_far (p := ⟨gb137, 2, none⟩) (Kd.S_far (p := ⟨gb137, 1, none⟩) (Kd.S_far (p := ⟨gb137, 0, none⟩) (Kd.S_far (p := ⟨gb136, 13, none⟩) (Kd.S_types (Kd.S_types HO_137005.out BK136.out (by decide)) BK137.out (by decide)) (fun _ hk => hk.1.2) (.slice Ao31 x3_1.length co31)) (fun _ hk => hk.2) (.int .u8 a0_0)) (fun _ hk => hk.2) (.int .u64 a0_1)) (fun _ hk => hk.2) (.int .u64 a0_2)) (fun _ hk => hk.2) (.int .i64 a0_3)) (fun _ hk => hk.2) (.int .i64 a0_4)) (fun _ hk => hk.2) (.slice Ao9 t138.length co9)) (fun _ hk => hk.2) (.int .u64 a0_6)) (fun _ hk => hk.2) (.int .u64 a0_7)) (fun _ hk => hk.2) (.slice Ao15 y144.length co15)) (fun _ hk => hk.2) (.int .u64 a0_9)) (fun _ hk => hk.2) (.int .u8 a0_10)) (fun _ hk => hk.2) (.int .u32 a0_11)) (fun _ hk => hk.2) (.int .i64 a0_12)) (fun _ hk => hk.2) (.slice Ao31 x3_1.length co31)) (fun _ hk => hk.1.1), by (with_reducible repeat (first | apply Kd.R_alloc | apply Kd.R_drewN | apply Kd.R_drew)); exact Kd.R_mono (Kd.R_far (p := ⟨gb137, 13, none⟩) (Kd.R_far (p := ⟨gb137, 12, none⟩) (Kd.R_far (p := ⟨gb137, 11, none⟩) (Kd.R_far (p := ⟨gb137, 10, none⟩) (Kd.R_far (p := ⟨gb137, 9, none⟩) (Kd.R_far (p := ⟨gb137, 8, none⟩) (Kd.R_far (p := ⟨gb137, 7, none⟩) (Kd.R_far (p := ⟨gb137, 6, none⟩) (Kd.R_far (p := ⟨gb137, 5, none⟩) (Kd.R_far (p := ⟨gb137, 4, none⟩) (Kd.R_far (p := ⟨gb137, 3, none⟩) (Kd.R_far (p := ⟨gb137, 2, none⟩) (Kd.R_far (p := ⟨gb137, 1, none⟩) (Kd.R_far (p := ⟨gb137, 0, none⟩) (Kd.R_far (p := ⟨gb136, 13, none⟩) (Kd.R_types (Kd.R_types HO_137008.out BK136.out (by decide)) BK137.out (by decide)) (fun _ hk => hk.1.2) (.slice Ao31 x3_1.length co31)) (fun _ hk => hk.2) (.int .u8 a0_0)) (fun _ hk => hk.2) (.int .u64 a0_1)) (fun _ hk => hk.2) (.int .u64 a0_2)) (fun _ hk => hk.2) (.int .i64 a0_3)) (fun _ hk => hk.2) (.int .i64 a0_4)) (fun _ hk => hk.2) (.slice Ao9 t138.length co9)) (fun _ hk => hk.2) (.int .u64 a0_6)) (fun _ hk => hk.2) (.int .u64 a0_7)) (fun _ hk => hk.2) (.slice Ao15 y144.length co15)) (fun _ hk => hk.2) (.int .u64 a0_9)) (fun _ hk => hk.2) (.int .u8 a0_10)) (fun _ hk => hk.2) (.int .u32 a0_11)) (fun _ hk => hk.2) (.int .i64 a0_12)) (fun _ hk => hk.2) (.slice Ao31 x3_1.length co31)) (fun _ hk => trivial), by (with_reducible repeat (first | apply Kd.S_alloc | apply Kd.S_drewN | apply Kd.S_drew)); exact Kd.S_mono (Kd.S_far (p := ⟨gb137, 13, none⟩) (Kd.S_far (p := ⟨gb137, 12, none⟩) (Kd.S_far (p := ⟨gb137, 11, none⟩) (Kd.S_far (p := ⟨gb137, 10, none⟩) (Kd.S_far (p := ⟨gb137, 9, none⟩) (Kd.S_far (p := ⟨gb137, 8, none⟩) (Kd.S_far (p := ⟨gb137, 7, none⟩) (Kd.S_far (p := ⟨gb137, 6, none⟩) (Kd.S_far (p := ⟨gb137, 5, none⟩) (Kd.S_far (p := ⟨gb137, 4, none⟩) (Kd.S_far (p := ⟨gb137, 3, none⟩) (Kd.S_far (p := ⟨gb137, 2, none⟩) (Kd.S_far (p := ⟨gb137, 1, none⟩) (Kd.S_far (p := ⟨gb137, 0, none⟩) (Kd.S_far (p := ⟨gb136, 13, none⟩) (Kd.S_types (Kd.S_types HO_3.out BK136.out (by decide)) BK137.out (by decide)) (fun _ hk => hk.1.2) (.slice Ao31 x3_1.length co31)) (fun _ hk => hk.2) (.int .u8 a0_0)) (fun _ hk => hk.2) (.int .u64 a0_1)) (fun _ hk => hk.2) (.int .u64 a0_2)) (fun _ hk => hk.2) (.int .i64 a0_3)) (fun _ hk => hk.2) (.int .i64 a0_4)) (fun _ hk => hk.2) (.slice Ao9 t138.length co9)) (fun _ hk => hk.2) (.int .u64 a0_6)) (fun _ hk => hk.2) (.int .u64 a0_7)) (fun _ hk => hk.2) (.slice Ao15 y144.length co15)) (fun _ hk => hk.2) (.int .u64 a0_9)) (fun _ hk => hk.2) (.int .u8 a0_10)) (fun _ hk => hk.2) (.int .u32 a0_11)) (fun _ hk => hk.2) (.int .i64 a0_12)) (fun _ hk => hk.2) (.slice Ao31 x3_1.length co31)) (fun _ hk => hk.1.1), by repeat (first | (with_reducible first | exact HB.out | apply below_alloc | apply pw_below_drewN | apply below_drew1 | refine below_set ?_ GE136.out | refine below_set ?_ GE137.out) | exact HB.out)⟩
  · rw [if_neg c3] at H
    exact absurd H (by simp)

end Go.Proofs.Ytmjbdeoomohanaa.PWirePacks

/- wire: the document's Copied. -/
set_option linter.unusedSimpArgs false
set_option linter.unusedVariables false
namespace Go.Proofs.Ytmjbdeoomohanaa.Mine
open Go.RowKit Go.Maps Go.Proofs.YtmjbdeoomohanaaW.PrintWords Go.Proofs.YtmjbdeoomohanaaW.PrintLast Go.Proofs.YtmjbdeoomohanaaW.PrintMore Go.Proofs.Ytmjbdeoomohanaa.PWirePacks Go.Proofs.Ytmjbdeoomohanaa.Turn

/-- A message of a size that memory bears. -/
structure SmallM (m : Msg) : Prop where
  log : m.log.length * 40 ≤ 140737488351232 ∧ ∀ x ∈ m.log, x.f2.length ≤ 140737488351232
  body : m.body.length ≤ 140737488351232
  blocks : m.blocks.length * 24 ≤ 140737488351232 ∧ ∀ x ∈ m.blocks, x.length ≤ 140737488351232

theorem wrap_small (k n : Nat) (h : k < n) (hn : n ≤ 140737488351232) : wrap64 ((k : Int) + 1) = ((k + 1 : Nat) : Int) := by
  unfold wrap64
  omega
theorem copiedLog_l0 (l : List S44) (h : l.length * 40 ≤ 140737488351232) (hx : ∀ x ∈ l, x.f2.length ≤ 140737488351232) : ∀ (n k : Nat), k + n = l.length → tabularyref18_CopiedLog.l0 (n + 1) l (l.take k) k = some l
  | 0, k, hk => by
    unfold tabularyref18_CopiedLog.l0
    rw [if_neg (by omega), List.take_of_length_le (by omega)]
  | n + 1, k, hk => by
    have hlt : k < l.length := by omega
    have h1 := hx _ (List.getElem_mem hlt)
    unfold tabularyref18_CopiedLog.l0
    rw [if_pos (by omega), if_pos (by omega), rd44' l hlt]
    simp only [Option.bind_some, List.nil_append, List.length_nil, Nat.zero_add]
    rw [if_pos (by omega), if_pos (by rw [List.length_take]; omega), wrap_small k l.length hlt (by omega)]
    have := copiedLog_l0 l h hx n (k + 1) (by omega)
    rw [List.take_succ_eq_append_getElem hlt] at this
    exact this
theorem copied_l0 {a0 a1 a2 a3 a4 : Int} {a5 : List S44} {a6 a7 : Int} {a8 : List Int} {a9 a10 a11 a12 : Int} (l : List (List Int)) (h : l.length * 24 ≤ 140737488351232) (hx : ∀ x ∈ l, x.length ≤ 140737488351232) : ∀ (n k N : Nat), k + n = l.length → n + 1 ≤ N → tabularyref18_Copied.l0 N (l.take k) k a0 a1 a2 a3 a4 a5 a6 a7 a8 a9 a10 a11 a12 l = some (a0, a1, a2, a3, a4, a5, a6, a7, a8, a9, a10, a11, a12, l)
  | 0, k, N + 1, hk, hN => by
    unfold tabularyref18_Copied.l0
    rw [if_neg (by omega), List.take_of_length_le (by omega)]
  | n + 1, k, N + 1, hk, hN => by
    have hlt : k < l.length := by omega
    have h1 := hx _ (List.getElem_mem hlt)
    unfold tabularyref18_Copied.l0
    rw [if_pos (by omega), rdL2' l hlt]
    simp only [Option.bind_some, List.nil_append, List.length_nil, Nat.zero_add]
    rw [if_pos (by omega), if_pos (by omega), if_pos (by rw [List.length_take]; omega), wrap_small k l.length hlt (by omega)]
    have := copied_l0 (a0 := a0) (a1 := a1) (a2 := a2) (a3 := a3) (a4 := a4) (a5 := a5) (a6 := a6) (a7 := a7) (a8 := a8) (a9 := a9) (a10 := a10) (a11 := a11) (a12 := a12) l h hx n (k + 1) N (by omega) (by omega)
    rw [List.take_succ_eq_append_getElem hlt] at this
    exact this
theorem copiedLog_more (l : List S44) (r : List S44) (N : Nat) (h : tabularyref18_CopiedLog.f N l = some r) : ∀ M, N ≤ M → tabularyref18_CopiedLog.f M l = some r := by
  intro M hM
  induction M with
  | zero => rw [show N = 0 by omega] at h; exact h
  | succ M ih =>
    by_cases e : N = M + 1
    · rw [← e]; exact h
    · have := tabularyref18_CopiedLog.mono l M
      have h2 := ih (by omega)
      rw [h2] at this
      simpa [LeO] using this
theorem copied_f {a0 a1 a2 a3 a4 : Int} {a5 : List S44} {a6 a7 : Int} {a8 : List Int} {a9 a10 a11 a12 : Int} {a13 : List (List Int)} (hl : a5.length * 40 ≤ 140737488351232) (hlx : ∀ x ∈ a5, x.f2.length ≤ 140737488351232) (hb : a8.length ≤ 140737488351232) (h : a13.length * 24 ≤ 140737488351232) (hx : ∀ x ∈ a13, x.length ≤ 140737488351232) :
    tabularyref18_Copied.f (a5.length + a13.length + 1) a0 a1 a2 a3 a4 a5 a6 a7 a8 a9 a10 a11 a12 a13 = some (a0, a1, a2, a3, a4, a5, a6, a7, a8, a9, a10, a11, a12, a13) := by
  unfold tabularyref18_Copied.f
  have h1 : tabularyref18_CopiedLog.f (a5.length + 1) a5 = some a5 := copiedLog_l0 a5 hl hlx a5.length 0 (by omega)
  rw [copiedLog_more a5 a5 _ h1 _ (by omega)]
  simp only [Option.bind_some, List.nil_append, List.length_nil, Nat.zero_add]
  rw [if_pos (by omega)]
  exact copied_l0 a13 h hx a13.length 0 _ (by omega) (by omega)

/-- The blocks that are new since w, of cells that may be written. -/
def OwnB (w w' : World) (k : Nat) : Prop := w.heap.size ≤ k ∧ k < w'.heap.size ∧ ∃ q cells, w'.heap[k]? = some (.cells cells q (0, 0))
set_option maxHeartbeats 2000000 in
theorem copied_any {w : World} {m : Msg} {cs : Array Value} {ok : Nat → Prop} (hm : ArgF w ok m cs) (hs : SmallM m) :
    Calls Try.prog 10 #[.agg cs] w fun e w' => ∃ cs', e = .returned (.agg cs') ∧ ArgF w' (OwnB w w') m cs' ∧ Below w.heap.size w w' := by
  obtain ⟨A5, c5, A8, c8, A13, c13, rfl, h1, h2, h3, f5, f8, f13⟩ := hm
  obtain ⟨x0, x1, x2, x3, x4, x5, x6, x7, x8, x9, x10, x11, x12, x13⟩ := m
  refine (tabularyref18_Copied.calls _ x0 x1 x2 x3 x4 A5 c5 x5 x6 x7 A8 c8 x8 x9 x10 x11 x12 A13 c13 x13 _ _ _ _ _ _ _ _ _ _ _ _ _ _ w (Kd.F_now f5) h1 (Kd.F_now f8) h2 (Kd.F_now f13) h3 (copied_f hs.log.1 hs.log.2 hs.body hs.blocks.1 hs.blocks.2)).mono ?_
  rintro e w' ⟨v5, v8, v13, rfl, g5, g8, g13, hb⟩
  have k5 := Kd.S_bound g5
  have k8 := Kd.R_bound g8
  have k13 := Kd.S_bound g13
  obtain ⟨B5, d5, rfl⟩ := Kd.R_slice (Kd.S_R k5)
  obtain ⟨B8, d8, rfl⟩ := Kd.R_slice k8
  obtain ⟨B13, d13, rfl⟩ := Kd.R_slice (Kd.S_R k13)
  refine ⟨_, rfl, ⟨B5, d5, B8, d8, B13, d13, rfl, ?_, ?_, ?_, ?_, ?_, ?_⟩, hb⟩
  · exact (Kd.R_reads' (Kd.S_R k5)).2.1
  · exact (Kd.R_reads' k8).2.1
  · exact (Kd.R_reads' (Kd.S_R k13)).2.1
  · exact Kd.F_mono (Kd.S_F k5) (fun k hk => ⟨hk.2.1, hk.2.2.1, let ⟨q, _, c, hc⟩ := hk.2.2.2; ⟨q, c, hc⟩⟩)
  · exact Kd.F_mono (Kd.R_F k8) (fun k hk => ⟨hk.2.1, hk.2.2.1, let ⟨q, _, c, hc⟩ := hk.2.2.2; ⟨q, c, hc⟩⟩)
  · exact Kd.F_mono (Kd.S_F k13) (fun k hk => ⟨hk.2.1, hk.2.2.1, let ⟨q, _, c, hc⟩ := hk.2.2.2; ⟨q, c, hc⟩⟩)
end Go.Proofs.Ytmjbdeoomohanaa.Mine

/- wire: a message that comes in, of a size that memory bears. -/
set_option linter.unusedSimpArgs false
set_option linter.unusedVariables false
namespace Go.Proofs.Ytmjbdeoomohanaa.Mine
open Go.RowKit Go.Maps Go.Proofs.YtmjbdeoomohanaaW.PrintWords Go.Proofs.YtmjbdeoomohanaaW.PrintLast Go.Proofs.YtmjbdeoomohanaaW.PrintMore Go.Proofs.Ytmjbdeoomohanaa.PWirePacks Go.Proofs.Ytmjbdeoomohanaa.Turn Go.Proofs.Ytmjbdeoomohanaa.Open

theorem msg_of2 {w : World} {p : TM} {cs : Array Value} (h : kM.K w p cs.toList) (hb : BM p) : ∃ m, ArgF w (fun k => k < w.heap.size) m cs ∧ RgM m ∧ SmallM m := by
  obtain ⟨x0, x1, x2, x3, x4, x5, x6, x7, x8, x9, x10, x11, x12, x13⟩ := p
  obtain ⟨c0, d0, e0, h0, c1, d1, rfl, h1, c2, d2, rfl, h2, c3, d3, rfl, h3, c4, d4, rfl, h4, c5, d5, rfl, h5, c6, d6, rfl, h6, c7, d7, rfl, h7, c8, d8, rfl, h8, c9, d9, rfl, h9, c10, d10, rfl, h10, c11, d11, rfl, h11, c12, d12, rfl, h12, h13⟩ := h
  obtain ⟨b0, b1, b2, b3, b4, b5, b6, b7, b8, b9, b10, b11, b12, b13⟩ := hb
  obtain ⟨A5, k5, rfl, hl5, hC5⟩ := h5
  obtain ⟨A8, k8, rfl, hl8, hC8⟩ := h8
  obtain ⟨A13, k13, rfl, hl13, hC13⟩ := h13
  have q0 : c0 = [.int .u8 x0] := h0
  have q1 : c1 = [.int .u64 x1] := h1
  have q2 : c2 = [.int .u64 x2] := h2
  have q3 : c3 = [.int .i64 x3] := h3
  have q4 : c4 = [.int .i64 x4] := h4
  have q6 : c6 = [.int .u64 x6] := h6
  have q7 : c7 = [.int .u64 x7] := h7
  have q9 : c9 = [.int .u64 x9] := h9
  have q10 : c10 = [.int .u8 x10] := h10
  have q11 : c11 = [.int .u32 x11] := h11
  have q12 : c12 = [.int .i64 x12] := h12
  subst q0 q1 q2 q3 q4 q6 q7 q9 q10 q11 q12
  have hcs : cs = mcells ⟨x0, x1, x2, x3, x4, x5, x6, x7, x8, x9, x10, x11, x12, x13⟩ A5 k5 A8 k8 A13 k13 := by
    apply Array.toList_inj.1
    rw [e0]
    rfl
  refine ⟨⟨x0, x1, x2, x3, x4, x5, x6, x7, x8, x9, x10, x11, x12, x13⟩, ⟨A5, k5, A8, k8, A13, k13, hcs, hl5, hl8, hl13, Kd.C_F heap44 hC5, Kd.C_F (Kd.heap_int _) hC8, Kd.C_F (Kd.heap_slice _ (Kd.heap_int _)) hC13⟩, ?_⟩
  have HSMALL : SmallM ⟨x0, x1, x2, x3, x4, x5, x6, x7, x8, x9, x10, x11, x12, x13⟩ :=
    ⟨⟨b5.1, fun x hx => by have := (b5.2.2 x hx).2.2.1; omega⟩, by have : x8.length * 1 ≤ 140737488351232 := b8.1; show x8.length ≤ _; omega, ⟨b13.1, fun x hx => by have := (b13.2.2 x hx).1; omega⟩⟩
  refine ⟨?_, HSMALL⟩
  refine ⟨?_, wf_u64 b1, wf_u64 b2, wf_u64 b6, wf_u64 b7, wf_u64 b9, wf_u8 b10, wf_u32 b11, ⟨?_, fun x hx => ?_⟩, ⟨?_, fun y hy => wf_u8 (b8.2.2 y hy)⟩, ⟨?_, fun x hx y hy => wf_u8 ((b13.2.2 x hx).2.2 y hy)⟩⟩
  · have := wf_u8 b0
    simp only
    omega
  · have h1 : x5.length * 40 ≤ 140737488351232 := b5.1
    show x5.length ≤ _
    omega
  · have := b5.2.2 x hx
    exact ⟨(wf_u64 this.1).1, (wf_u64 this.1).2, (wf_u64 this.2.1).1, (wf_u64 this.2.1).2, fun y hy => wf_u8 (this.2.2.2.2 y hy)⟩
  · have h1 : x8.length * 1 ≤ 140737488351232 := b8.1
    show x8.length ≤ _
    omega
  · have h1 : x13.length * 24 ≤ 140737488351232 := b13.1
    show x13.length ≤ _
    omega
end Go.Proofs.Ytmjbdeoomohanaa.Mine

/- wire: the document's set, Check. -/
set_option linter.unusedSimpArgs false
set_option linter.unusedVariables false
namespace Go.Proofs.Ytmjbdeoomohanaa.Mine
open Go.RowKit Go.Maps Go.Proofs.YtmjbdeoomohanaaW.PrintWords Go.Proofs.YtmjbdeoomohanaaW.PrintLast Go.Proofs.YtmjbdeoomohanaaW.PrintMore Go.Proofs.Ytmjbdeoomohanaa.PWirePacks Go.Proofs.Ytmjbdeoomohanaa.Turn

/-- Thirteen Booleans. -/
def boolsV (f : Nat → Bool) : Array Value := #[.bool (f 0), .bool (f 1), .bool (f 2), .bool (f 3), .bool (f 4), .bool (f 5), .bool (f 6), .bool (f 7), .bool (f 8), .bool (f 9), .bool (f 10), .bool (f 11), .bool (f 12)]
theorem len_ne (n : Nat) : ((n : Int) != 0) = decide (0 < n) := by
  by_cases h : 0 < n
  · rw [decide_eq_true h]; exact bne_iff_ne.2 (by omega)
  · rw [decide_eq_false h]; exact bne_eq_false_iff_eq.2 (by omega)
set_option maxHeartbeats 4000000 in
set_option maxRecDepth 100000 in
theorem setR_any {w : World} {m : Msg} {cs : Array Value} {ok : Nat → Prop} (hm : ArgF w ok m cs) : Calls Try.prog 31 #[.agg cs] w fun e w' => e = .returned (.agg (boolsV fun i => (setL m).getD i false)) ∧ Below w.heap.size w w' := by
  obtain ⟨A5, c5, A8, c8, A13, c13, rfl, -⟩ := hm
  obtain ⟨x0, x1, x2, x3, x4, x5, x6, x7, x8, x9, x10, x11, x12, x13⟩ := m
  unfold mcells
  simp only
  have HV : Aside0 (boolsV (fun i => (setL ⟨x0, x1, x2, x3, x4, x5, x6, x7, x8, x9, x10, x11, x12, x13⟩).getD i false) = #[.bool (x1 != 0), .bool (x2 != 0), .bool (x3 != 0), .bool (x4 != 0), .bool (decide (0 < x5.length)), .bool (x6 != 0), .bool (x7 != 0), .bool (decide (0 < x8.length)), .bool (x9 != 0), .bool (x10 != 0), .bool (x11 != 0), .bool (x12 != 0), .bool (decide (0 < x13.length))]) := ⟨rfl⟩
  go_enter Try.func31, Try.ntmps31
  go_wp2
  refine bodyPost_ret (v := .agg #[.bool (x1 != 0), .bool (x2 != 0), .bool (x3 != 0), .bool (x4 != 0), .bool ((x5.length : Int) != 0), .bool (x6 != 0), .bool (x7 != 0), .bool ((x8.length : Int) != 0), .bool (x9 != 0), .bool (x10 != 0), .bool (x11 != 0), .bool (x12 != 0), .bool ((x13.length : Int) != 0)]) (by simp [results, Try.results31, go_sem]) rfl ⟨by rw [HV.out, len_ne, len_ne, len_ne], below_alloc (below_alloc (Below.refl _ _) _) _⟩

theorem boolsV_at (f : Nat → Bool) {k : Nat} (hk : k < 13) : (boolsV f)[k]? = some (.bool (f k)) := by
  have hd : k = 0 ∨ k = 1 ∨ k = 2 ∨ k = 3 ∨ k = 4 ∨ k = 5 ∨ k = 6 ∨ k = 7 ∨ k = 8 ∨ k = 9 ∨ k = 10 ∨ k = 11 ∨ k = 12 := by omega
  rcases hd with rfl | rfl | rfl | rfl | rfl | rfl | rfl | rfl | rfl | rfl | rfl | rfl | rfl <;> rfl
theorem has_zero (t : Int) (h0 : 0 ≤ t) (h1 : t ≤ 255) : hasB t = 0 ↔ t < 1 ∨ 14 < t := by
  by_cases h : 15 ≤ t
  · have := has_small t h
    unfold hasB
    rw [this]
    simp
    omega
  · have hd : t = 0 ∨ t = 1 ∨ t = 2 ∨ t = 3 ∨ t = 4 ∨ t = 5 ∨ t = 6 ∨ t = 7 ∨ t = 8 ∨ t = 9 ∨ t = 10 ∨ t = 11 ∨ t = 12 ∨ t = 13 ∨ t = 14 := by omega
    rcases hd with rfl | rfl | rfl | rfl | rfl | rfl | rfl | rfl | rfl | rfl | rfl | rfl | rfl | rfl | rfl <;> decide
theorem badF_yes {s : List Bool} {h k : Nat} (hk : k < 13) (h1 : s.getD k false = true) (h2 : h.testBit k = false) : badF s h = true := by
  unfold badF
  rw [List.any_eq_true]
  exact ⟨k, by simp; omega, by rw [h1, h2]; rfl⟩
theorem badF_no {s : List Bool} {h : Nat} (hs : s.length = 13) (hn : ∀ j, j < 13 → (s.getD j false && !h.testBit j) = false) : badF s h = false := by
  unfold badF
  rw [List.any_eq_false]
  intro k _
  by_cases hk : k < 13
  · rw [hn k hk]; simp
  · have : s.getD k false = false := by
      rw [List.getD_eq_getElem?_getD, List.getElem?_eq_none (by omega)]
      rfl
    rw [this]
    simp
end Go.Proofs.Ytmjbdeoomohanaa.Mine
