/- wire: Pack. -/
import Derived.Test.YtmjbdeoomohanaaWireO
set_option linter.unusedSimpArgs false
set_option linter.unusedVariables false
namespace Go.Proofs.Ytmjbdeoomohanaa.Mine
open Go.RowKit Go.Maps Go.Proofs.YtmjbdeoomohanaaW.PrintWords Go.Proofs.YtmjbdeoomohanaaW.PrintLast Go.Proofs.YtmjbdeoomohanaaW.PrintMore Go.Proofs.Ytmjbdeoomohanaa.PWirePacks Go.Proofs.Ytmjbdeoomohanaa.Turn
variable {lo : Nat}

/-- A message's cells; what they lead to lies in ok. -/
def ArgF (w : World) (ok : Nat → Prop) (m : Msg) (cs : Array Value) : Prop :=
  ∃ A5 c5 A8 c8 A13 c13, cs = mcells m A5 c5 A8 c8 A13 c13 ∧ m.log.length ≤ c5 ∧ m.body.length ≤ c8 ∧ m.blocks.length ≤ c13 ∧
    Kd.F k44 w ok A5 m.log.length m.log ∧ Kd.F (Kd.int .u8) w ok A8 m.body.length m.body ∧ Kd.F (Kd.slice 5 (Kd.int .u8)) w ok A13 m.blocks.length m.blocks
theorem ArgF.mono {w : World} {ok ok' : Nat → Prop} {m : Msg} {cs : Array Value} (h : ArgF w ok m cs) (hk : ∀ k, ok k → ok' k) : ArgF w ok' m cs := by
  obtain ⟨A5, c5, A8, c8, A13, c13, e, h1, h2, h3, f5, f8, f13⟩ := h
  exact ⟨A5, c5, A8, c8, A13, c13, e, h1, h2, h3, Kd.F_mono f5 hk, Kd.F_mono f8 hk, Kd.F_mono f13 hk⟩
theorem ArgF.step {w w' : World} {ok : Nat → Prop} {m : Msg} {cs : Array Value} (h : ArgF w ok m cs) (hm : ∀ k, ok k → k < w.heap.size → w'.heap[k]? = w.heap[k]?) : ArgF w' ok m cs := by
  obtain ⟨A5, c5, A8, c8, A13, c13, e, h1, h2, h3, f5, f8, f13⟩ := h
  exact ⟨A5, c5, A8, c8, A13, c13, e, h1, h2, h3, Kd.F_step f5 hm, Kd.F_step f8 hm, Kd.F_step f13 hm⟩
theorem ArgF.bound {w : World} {ok : Nat → Prop} {m : Msg} {cs : Array Value} (h : ArgF w ok m cs) : ArgF w (fun k => ok k ∧ k < w.heap.size) m cs := by
  obtain ⟨A5, c5, A8, c8, A13, c13, e, h1, h2, h3, f5, f8, f13⟩ := h
  exact ⟨A5, c5, A8, c8, A13, c13, e, h1, h2, h3, Kd.F_bound f5, Kd.F_bound f8, Kd.F_bound f13⟩
theorem ArgF.below {w w' : World} {ok : Nat → Prop} {m : Msg} {cs : Array Value} (h : ArgF w ok m cs) (hb : Below w.heap.size w w') : ArgF w' (fun k => ok k ∧ k < w.heap.size) m cs := h.bound.step (fun k _ hlt => hb.block k hlt)
theorem MsgAt.of {w : World} {g : Nat} {G ok : Nat → Prop} {m : Msg} {cs : Array Value} (h : ArgF w ok m cs) (hb : Blk w g cs 29) (hk : ∀ k, ok k → ¬ G k ∧ Off lo g k) : MsgAt lo w g G m := by
  obtain ⟨A5, c5, A8, c8, A13, c13, rfl, h1, h2, h3, f5, f8, f13⟩ := h
  exact ⟨A5, c5, A8, c8, A13, c13, hb, h1, h2, h3, Kd.F_mono f5 hk, Kd.F_mono f8 hk, Kd.F_mono f13 hk⟩
theorem MsgAt.arg {w : World} {g : Nat} {G : Nat → Prop} {m : Msg} (h : MsgAt lo w g G m) : ∃ cs, Blk w g cs 29 ∧ ArgF w (fun k => ¬ G k ∧ Off lo g k) m cs := by
  obtain ⟨A5, c5, A8, c8, A13, c13, hb, h1, h2, h3, f5, f8, f13⟩ := h
  exact ⟨_, hb, A5, c5, A8, c8, A13, c13, rfl, h1, h2, h3, f5, f8, f13⟩

/-- Each field is of its type. -/
structure RgM (m : Msg) : Prop where
  ty : 0 ≤ m.ty ∧ m.ty ≤ 255
  view : 0 ≤ m.view ∧ m.view < 18446744073709551616
  normal : 0 ≤ m.normal ∧ m.normal < 18446744073709551616
  client : 0 ≤ m.client ∧ m.client < 18446744073709551616
  seq : 0 ≤ m.seq ∧ m.seq < 18446744073709551616
  key : 0 ≤ m.key ∧ m.key < 18446744073709551616
  shard : 0 ≤ m.shard ∧ m.shard < 256
  stripe : 0 ≤ m.stripe ∧ m.stripe < 4294967296
  log : m.log.length ≤ 4611686018427387904 ∧ ∀ x ∈ m.log, 0 ≤ x.f0 ∧ x.f0 < 18446744073709551616 ∧ 0 ≤ x.f1 ∧ x.f1 < 18446744073709551616 ∧ ∀ y ∈ x.f2, 0 ≤ y ∧ y < 256
  body : m.body.length ≤ 4611686018427387904 ∧ ∀ y ∈ m.body, 0 ≤ y ∧ y < 256
  blocks : m.blocks.length ≤ 4611686018427387904 ∧ ∀ x ∈ m.blocks, ∀ y ∈ x, 0 ≤ y ∧ y < 256

/-- A message in which Check finds nothing. -/
structure GoodM (m : Msg) : Prop where
  has : hasB m.ty ≠ 0
  set : badF (setL m) (hasB m.ty) = false
  op : 0 ≤ m.op ∧ m.op ≤ 64
  commit : 0 ≤ m.commit ∧ m.commit ≤ 64
  code : 0 ≤ m.code ∧ m.code ≤ 65535
  log : m.log.length ≤ 64 ∧ ∀ x ∈ m.log, x.f2.length ≤ 2048
  body : m.body.length ≤ 2048
  blocks : m.blocks.length ≤ 4096 ∧ ∀ x ∈ m.blocks, x.length = 128
theorem chk_good (m : Msg) : chk m = 0 ↔ GoodM m := by
  unfold chk
  constructor
  · intro h
    split at h
    · cases h
    · rename_i h1
      split at h
      · cases h
      · rename_i h2
        split at h
        · cases h
        · rename_i h3
          split at h
          · cases h
          · rename_i h4
            split at h
            · cases h
            · rename_i h5
              simp only [numBad, Bool.or_eq_true, decide_eq_true_eq, not_or] at h3
              simp only [longBad, Bool.or_eq_true, decide_eq_true_eq, not_or, List.any_eq_true, not_exists, not_and] at h4
              simp only [List.any_eq_true, not_exists, not_and] at h5
              refine ⟨h1, by simpa using h2, by omega, by omega, by omega, ⟨by omega, fun x hx => ?_⟩, by omega, ⟨by omega, fun x hx => ?_⟩⟩
              · have := h4.2 x hx
                simp only [longE, decide_eq_true_eq] at this
                omega
              · have := h5 x hx
                simpa [oddB] using this
  · intro h
    rw [if_neg h.has, if_neg (by rw [h.set]; simp), if_neg, if_neg, if_neg]
    · simp only [List.any_eq_true, not_exists, not_and]
      intro x hx
      simp [oddB, h.blocks.2 x hx]
    · simp only [longBad, Bool.or_eq_true, decide_eq_true_eq, not_or, List.any_eq_true, not_exists, not_and]
      refine ⟨⟨⟨?_, ?_⟩, ?_⟩, ?_⟩
      · have := h.log.1; omega
      · have := h.body; omega
      · have := h.blocks.1; omega
      · intro x hx
        have := h.log.2 x hx
        simp only [longE, decide_eq_true_eq]
        omega
    · simp only [numBad, Bool.or_eq_true, decide_eq_true_eq, not_or]
      have := h.op; have := h.commit; have := h.code
      omega
theorem GoodM.okM {m : Msg} (h : GoodM m) (r : RgM m) : OkM m := by
  intro i hi
  have hd : i = 0 ∨ i = 1 ∨ i = 2 ∨ i = 3 ∨ i = 4 ∨ i = 5 ∨ i = 6 ∨ i = 7 ∨ i = 8 ∨ i = 9 ∨ i = 10 ∨ i = 11 ∨ i = 12 := by omega
  rcases hd with rfl | rfl | rfl | rfl | rfl | rfl | rfl | rfl | rfl | rfl | rfl | rfl | rfl
  · exact r.view
  · exact r.normal
  · exact ⟨h.op.1, by have := h.op.2; omega⟩
  · exact ⟨h.commit.1, by have := h.commit.2; omega⟩
  · refine ⟨by have := h.log.1; omega, fun x hx => ?_⟩
    obtain ⟨a1, a2, a3, a4, -⟩ := r.log.2 x hx
    exact ⟨h.log.2 x hx, a1, a2, a3, a4⟩
  · exact r.client
  · exact r.seq
  · have := h.body
    exact Nat.le_trans this (by omega)
  · exact r.key
  · exact r.shard
  · exact r.stripe
  · exact ⟨h.code.1, by have := h.code.2; omega⟩
  · exact ⟨by have := h.blocks.1; omega, fun x hx => by rw [h.blocks.2 x hx]; omega⟩

theorem R_one (W : World) {base : Nat} (hb : base ≤ W.heap.size) (x : Int) : Kd.R (Kd.int .u8) 5 (W.alloc (.cells #[.int .u8 x] 5)) base (fun k => k = W.heap.size) (.slice (some ⟨W.heap.size, 0, none⟩) 1 1) [x] :=
  Kd.R_of_own (xs := [x]) (World.ownsRow_lit (base := base) (e := 5) (size := 1) W #[.int .u8 x] 1 hb (by decide) (by simp)) (fun k hk => by simpa [Value.ownBlock] using hk.symm)

set_option maxHeartbeats 2000000 in
theorem pack_no {w : World} {m : Msg} {cs : Array Value} {ok : Nat → Prop} (h : ArgF w ok m cs) (hr : RgM m) {e : Int} (he : chk m = e) (hne : e ≠ 0) :
    Calls Try.prog 11 #[.agg cs] w fun en w' => en = .returned (.tuple #[.slice none 0 0, .int .i64 e]) ∧ Below w.heap.size w w' := by
  obtain ⟨A5, c5, A8, c8, A13, c13, rfl, h1, h2, h3, f5, f8, f13⟩ := h
  have HC := Aside0.mk (fun (W : World) (hb : Below w.heap.size w W) => check_any m A5 c5 A8 c8 A13 c13 W hr.ty.1 hr.ty.2 hr.log.1 (Kd.C_below (Kd.F_now f5) hb) hr.body.1 hr.blocks.1 (Kd.C_below (Kd.F_now f13) hb))
  rw [he] at HC
  have HX := Aside0.mk (Blk.new w (mcells m A5 c5 A8 c8 A13 c13) 29)
  have HA := Aside0.mk (below_alloc (Below.refl w.heap.size w) (.cells (mcells m A5 c5 A8 c8 A13 c13) 29))
  have hbq : (e != 0) = true := bne_iff_ne.2 hne
  clear f5 f8 f13 he hne h1 h2 h3 hr
  obtain ⟨cs, hcs⟩ : ∃ cs, mcells m A5 c5 A8 c8 A13 c13 = cs := ⟨_, rfl⟩
  unfold mcells at HC HX HA ⊢
  go_enter Try.func11, Try.ntmps11
  go_wp2_with fail
  refine (HC.out _ HA.out).mono ?_
  rintro en w1 ⟨rfl, hb⟩
  have HB := Aside0.mk (below_step HA.out hb)
  clear hb
  go_wp2_with fail
  go_ret2
  exact ⟨rfl, HB.out⟩

set_option maxHeartbeats 4000000 in
theorem pack_yes {w : World} {m : Msg} {cs : Array Value} (h : ArgF w (fun k => k < w.heap.size) m cs) (hr : RgM m) (hg : GoodM m) {l : List Int} (hl : allS (.W [m.ty]) m = .ok (m, .W l)) :
    Calls Try.prog 11 #[.agg cs] w fun en w' => ∃ A c, en = .returned (.tuple #[.slice A l.length c, .int .i64 0]) ∧ l.length ≤ c ∧ Kd.F (Kd.int .u8) w' (fun k => w.heap.size ≤ k) A l.length l ∧ Below w.heap.size w w' := by
  have HARG := Aside0.mk h
  obtain ⟨A5, c5, A8, c8, A13, c13, rfl, h1, h2, h3, f5, f8, f13⟩ := h
  have HC := Aside0.mk (fun (W : World) (hb : Below w.heap.size w W) => check_any m A5 c5 A8 c8 A13 c13 W hr.ty.1 hr.ty.2 hr.log.1 (Kd.C_below (Kd.F_now f5) hb) hr.body.1 hr.blocks.1 (Kd.C_below (Kd.F_now f13) hb))
  rw [(chk_good m).2 hg] at HC
  have HX := Aside0.mk (Blk.new w (mcells m A5 c5 A8 c8 A13 c13) 29)
  have HA := Aside0.mk (below_alloc (Below.refl w.heap.size w) (.cells (mcells m A5 c5 A8 c8 A13 c13) 29))
  have HALL : Aside0 (∀ (W : World) (base b g : Nat) (G : Nat → Prop), Cod W base G b (.W [m.ty]) → MsgAt w.heap.size W g G m → ¬ G g → base ≤ g → Calls Try.prog 20 #[.pointer (some ⟨b, 0, none⟩), .pointer (some ⟨g, 0, none⟩)] W fun e w' => EndsM w.heap.size W base G b g (.ok (m, .W l)) e w') :=
    ⟨fun W base b g G h1 h2 h3 h4 => by rw [← hl]; exact allM_any h1 h2 h3 h4 (N := 1) (S := .W [m.ty]) (Nat.le_refl 1) (by omega) (hg.okM hr) hr.ty.1 hr.ty.2⟩
  have HMA : Aside0 (∀ W : World, Below w.heap.size w W → ArgF W (fun k => k < w.heap.size) m (mcells m A5 c5 A8 c8 A13 c13)) := ⟨fun W hb => (HARG.out.below hb).mono (fun k hk => hk.2)⟩
  clear f5 f8 f13 h1 h2 h3 hr hl hg HARG
  obtain ⟨ty, view, normal, op, commit, log, client, seq, body, key, shard, stripe, code, blocks⟩ := m
  obtain ⟨mm, hmm⟩ : ∃ mm : Msg, (⟨ty, view, normal, op, commit, log, client, seq, body, key, shard, stripe, code, blocks⟩ : Msg) = mm := ⟨_, rfl⟩
  rw [hmm] at HALL HMA
  have HTY : Aside0 (mm.ty = ty) := ⟨by rw [← hmm]⟩
  unfold mcells at HC HX HA HMA ⊢
  rw [← hmm] at HMA
  simp only at HC HX HA HMA ⊢
  rw [hmm] at HMA
  clear hmm
  go_enter Try.func11, Try.ntmps11
  go_wp2_with fail
  refine (HC.out _ HA.out).mono ?_
  rintro en w1 ⟨rfl, hb⟩
  have HB := Aside0.mk (below_step HA.out hb)
  have hx1 : Blk w1 w.heap.size _ 29 := (hb.block _ HX.out.lt).trans HX.out
  have HX1 := Aside0.mk hx1
  have hxl := hx1.lt
  have p : w1.cell? ⟨w.heap.size, 0, none⟩ = some (.int .u8 ty) := (hx1.cell 0).trans rfl
  clear hb hx1
  go_wp2_with fail
  have hw1 : w.heap.size < w1.heap.size := hxl
  have hz3 : ((w1.alloc (.cells #[.int .u8 ty] 5)).alloc (.cells #[.slice (some ⟨w1.heap.size, 0, none⟩) 1 1, .bool false] 48)).heap.size = w1.heap.size + 2 := by simp
  have HZ3 := Aside0.mk hz3
  have HCOD : Aside0 (Cod ((w1.alloc (.cells #[.int .u8 ty] 5)).alloc (.cells #[.slice (some ⟨w1.heap.size, 0, none⟩) 1 1, .bool false] 48)) w.heap.size (fun k => k = w1.heap.size ∨ k = w1.heap.size + 1) (w1.heap.size + 1) (.W [mm.ty])) := by
    rw [HTY.out]
    refine ⟨⟨.inr rfl, fun k hk => ⟨by rw [hz3]; rcases hk with rfl | rfl <;> omega, by rcases hk with rfl | rfl <;> omega⟩, _, ?_, Kd.R_mono (Kd.R_alloc (R_one w1 (Nat.le_of_lt hw1) ty) _) (fun k hk => .inl hk)⟩⟩
    have := Blk.new (w1.alloc (.cells #[.int .u8 ty] 5)) #[.slice (some ⟨w1.heap.size, 0, none⟩) 1 1, .bool false] 48
    rwa [show (w1.alloc (.cells #[.int .u8 ty] 5)).heap.size = w1.heap.size + 1 by simp] at this
  have HB3 : Aside0 (Below w.heap.size w ((w1.alloc (.cells #[.int .u8 ty] 5)).alloc (.cells #[.slice (some ⟨w1.heap.size, 0, none⟩) 1 1, .bool false] 48))) := ⟨below_alloc (below_alloc HB.out _) _⟩
  have HMSG : Aside0 (MsgAt w.heap.size ((w1.alloc (.cells #[.int .u8 ty] 5)).alloc (.cells #[.slice (some ⟨w1.heap.size, 0, none⟩) 1 1, .bool false] 48)) w.heap.size (fun k => k = w1.heap.size ∨ k = w1.heap.size + 1) mm) :=
    ⟨MsgAt.of (HMA.out _ HB3.out) ((HX1.out.alloc _).alloc _) (fun k hk => ⟨by omega, by omega, .inl hk⟩)⟩
  refine (HALL.out _ _ _ _ _ HCOD.out HMSG.out (by omega) (Nat.le_refl _)).mono ?_
  rintro en w2 ⟨G', hG', hT', rfl, ⟨h1, h2, v, h3, h4⟩, hM2, hg2⟩
  obtain ⟨A, c, rfl, hc, -⟩ := Kd.R_reads h4
  have HEND : Aside0 (l.length ≤ c ∧ Kd.F (Kd.int .u8) w2 (fun k => w.heap.size ≤ k) A l.length l ∧ Below w.heap.size w w2) := by
    refine ⟨⟨hc, Kd.F_mono (Kd.R_F h4) (fun k hk => (h2 k hk).2), ?_⟩⟩
    refine below_turned HB3.out hT' (by rw [hz3]; omega) (fun k hk => ?_)
    omega
  have q : w2.cell? ⟨w1.heap.size + 1, 0, none⟩ = some (.slice A l.length c) := (h3.cell 0).trans rfl
  have hl2 := h3.lt
  clear HCOD HMSG HB3 hG' hT' h1 h2 h3 h4 hM2 hg2 hz3 hc
  go_wp2_with fail
  go_ret2
  exact ⟨A, c, rfl, HEND.out⟩
end Go.Proofs.Ytmjbdeoomohanaa.Mine
