import Derived.Test.YtopehfjohifpnaaDoorZ16
import Derived.Test.YtopehfjohifpnaaDoorZ15
import Derived.Test.YtopehfjohifpnaaDoorZ3
section
set_option linter.unusedSimpArgs false
set_option linter.unusedVariables false
namespace Go.Proofs.YtopehfjohifpnaaDoor.Mine
open Go.RowKit Go.Shelf Go.Proofs.YtopehfjohifpnaaDoorW.PrintWords Go.Proofs.YtopehfjohifpnaaDoorW.PrintLast Go.Proofs.YtopehfjohifpnaaDoorW.PrintMore Go.Proofs.YtopehfjohifpnaaDoor.Turn Go.Proofs.YtopehfjohifpnaaDoor.Doc
noncomputable def addR (its : List S25) (L : List Int) (cl : Bool) (x : S25) : Int := if cl = true then 7 else if (checkT (its.map bare ++ [x])).2 ≠ 0 then (checkT (its.map bare ++ [x])).2 else if 131072 < (L ++ piecesF x).length + 1024 then 2 else 0
structure Added (W W' : World) (B T base : Nat) (vt vi : Value) (cl : Bool) (rs : List Raw) (L : List Int) : Prop where
  ex : ∃ vt' vi', Wr W' B T base vt' vi' cl rs L ∧ (vt'.ownBlock = vt.ownBlock ∨ ∃ g, vt'.ownBlock = some g ∧ W.heap.size ≤ g) ∧ (vi'.ownBlock = vi.ownBlock ∨ ∃ g, vi'.ownBlock = some g ∧ W.heap.size ≤ g)
  turn : Turned (InW B T vt vi) W W'
def EndsAdd (W : World) (B T base : Nat) (vt vi : Value) (cl : Bool) (its : List S25) (L : List Int) (x : S25) (e : Ending) (W' : World) : Prop :=
  e = .returned (.int .i64 (addR its L cl x)) ∧ Added W W' B T base vt vi cl (if addR its L cl x = 0 then (its ++ [x]).map rawB else its.map rawB) (if addR its L cl x = 0 then L ++ piecesF x else L)
theorem own_lenX {A : Option Addr} {n m c c' : Nat} : (Value.slice A n c).ownBlock = (Value.slice A m c').ownBlock := by cases A <;> rfl
theorem nil_CB (W : World) : Kd.C (Kd.int .u8) W none 0 [] := by
  obtain ⟨A', c', e, hc, hC⟩ := Kd.R_reads (Kd.R_nil (Kd.int .u8) 5 W 0 (fun _ => True))
  cases e
  exact hC
theorem Added.same {W W' : World} {B T base : Nat} {vt vi : Value} {cl : Bool} {rs : List Raw} {L : List Int} (h : Wr W' B T base vt vi cl rs L) (ht : Turned (InW B T vt vi) W W') : Added W W' B T base vt vi cl rs L := ⟨⟨vt, vi, h, .inl rfl, .inl rfl⟩, ht⟩
section
variable {P : Program}
theorem step_append_r {ops : Array Oper} {o : Oper} {a : Act} {w : World} {K : Act → World → Prop} {Q : Exit → Act → World → Prop} {E : Prop}
    (hg : o.guard = none) (d s : Operand) (t t' : TypeId) (ho : o.op = Op.call { callee := Callee.builtin Builtin.append, args := #[d, s], argTypes := #[t, t'] }) (v u : Value) (hd : a.eval d = v) (hs : a.eval s = u) {v' : Value} {w' : World}
    (hr : (Builtin.append_ #[t, t'] o.type #[v, u]).run P w = .ok v' w') (hK : K (a.put o.dst v') w') :
    if Region.wanted o (yielded ops a.tmps) = true then Oper.wp P o a w K Q else E := by
  have hw : Region.wanted o (yielded ops a.tmps) = true := by simp [Region.wanted, hg]
  rw [if_pos hw]
  unfold Oper.wp execOp
  simp only [ho, resolve, invoke, builtin, Sem.run_bind, Sem.run_pure, Result.andThen_ok, List.map_toArray, List.map_cons, List.map_nil, hd, hs, hr]
  exact hK
end
theorem infoIt : (Tryd.prog.info? 25).map (fun i => (i.zero, i.size, i.bytes)) = some (some (.agg #[(.string ⟨#[]⟩), (.int .u8 0), (.int .i64 0), (.int .i64 0), (.slice none 0 0), (.string ⟨#[]⟩)]), 6, 80) := by kernel_rfl
theorem append_item {W : World} {base : Nat} {v : Value} {rs : List Raw} (r : Raw) (h : W.ownsRow base 25 6 v rs.length (rawL rs)) (hb : base ≤ W.heap.size) (hn : rs.length ≤ 1000) :
    ∃ v1 w1, (Builtin.append_ #[35, 35] 35 #[v, .slice (some ⟨W.heap.size, 0, none⟩) 1 1]).run Tryd.prog ((W.alloc (.cells (rawV r).toArray 25)).drew) = .ok v1 w1 ∧ w1.ownsRow base 25 6 v1 (rs.length + 1) (rawL (rs ++ [r])) ∧ w1.ownsRow base 25 6 v rs.length (rawL rs) ∧
      ((W.alloc (.cells (rawV r).toArray 25)).drew).grownBy w1 v.ownBlock ∧ (v1.ownBlock = v.ownBlock ∨ ∃ b, v1.ownBlock = some b ∧ W.heap.size ≤ b) := by
  obtain ⟨i0, hi, hzz⟩ := Option.map_eq_some_iff.1 infoIt
  simp only [Prod.mk.injEq] at hzz
  obtain ⟨hz0, hz1, hz2⟩ := hzz
  have h2 : ((W.alloc (.cells (rawV r).toArray 25)).drew).ownsRow base 25 6 v rs.length (rawL rs) := pw_own_below h (below_drew (below_alloc (Below.refl _ W) _))
  obtain ⟨v1, w1, hr, ho, hold, hg, hat⟩ := append_both (P := Tryd.prog) ((W.alloc (.cells (rawV r).toArray 25)).drew) base 35 35 25 i0 _ 6 80 Tryd.underlying35 hi hz0 hz1 hz2 rfl (by omega) v rs.length (rawL rs) h2 ⟨W.heap.size, 0, none⟩ 1 1 (rawV r) rfl
    (by simpa using World.news_of_block (w := (W.alloc (.cells (rawV r).toArray 25)).drew) (cs := (rawV r).toArray) (t := 25) (fr := (0, 0)) (heap_alloc_new W (.cells (rawV r).toArray 25))) (by
      intro u hu
      simp only [rawV, List.mem_cons, List.not_mem_nil, or_false] at hu
      rcases hu with rfl | rfl | rfl | rfl | rfl | rfl <;> rfl) (by simp only [maxLen]; omega) (by omega) (by simp; omega)
  refine ⟨v1, w1, hr, by rw [rawL_snoc]; exact ho, hold, hg, ?_⟩
  rcases hat with hat | hat
  · exact .inl hat
  · exact .inr ⟨_, hat, by simp⟩
set_option maxRecDepth 100000 in
set_option maxHeartbeats 8000000 in
theorem add_any {W W0 : World} {B T : Nat} {vt vi : Value} {cl : Bool} {its : List S25} {L : List Int} (x : S25) (A : Option Addr) (c : Nat) (i0 : Int) (h : Wr W B T W0.heap.size vt vi cl (its.map rawB) L)
    (hB : Below W0.heap.size W0 W) (hV : Vars W0 i0) (hC : ∀ X, Turned (InW B T vt vi) W X → Kd.C (Kd.int .u8) X A x.f4.length x.f4) (hc : x.f4.length ≤ c) (hl : L.length ≤ 131072) (hn : its.length ≤ 1000) :
    Calls Tryd.prog 17 #[.pointer (some ⟨B, 0, none⟩), .agg #[.string x.f0, .int .u8 x.f1, .int .i64 x.f2, .int .i64 x.f3, .slice A x.f4.length c, .string x.f5]] W (EndsAdd W B T W0.heap.size vt vi cl its L x) := by
  have HE : Aside0 (EndsAdd W B T W0.heap.size vt vi cl its L x = fun e W' => e = .returned (.int .i64 (addR its L cl x)) ∧ Added W W' B T W0.heap.size vt vi cl (if addR its L cl x = 0 then (its ++ [x]).map rawB else its.map rawB) (if addR its L cl x = 0 then L ++ piecesF x else L)) := ⟨rfl⟩
  obtain ⟨PE, hPE⟩ : ∃ PE, EndsAdd W B T W0.heap.size vt vi cl its L x = PE := ⟨_, rfl⟩
  rw [hPE] at HE ⊢
  have HR : Aside0 (addR its L cl x = if cl = true then 7 else if (checkT (its.map bare ++ [x])).2 ≠ 0 then (checkT (its.map bare ++ [x])).2 else if 131072 < (L ++ piecesF x).length + 1024 then 2 else 0) := ⟨rfl⟩
  generalize addR its L cl x = ar at *
  obtain ⟨bx, hbx⟩ : ∃ bx : Obj, bx = .cells #[.string x.f0, .int .u8 x.f1, .int .i64 x.f2, .int .i64 x.f3, .slice A x.f4.length c, .string x.f5] 25 := ⟨_, rfl⟩
  have hW1 := h.below (below_alloc (Below.refl _ W) (.cells #[.string x.f0, .int .u8 x.f1, .int .i64 x.f2, .int .i64 x.f3, .slice A x.f4.length c, .string x.f5] 25))
  have hT1 : Turned (InW B T vt vi) W (W.alloc (.cells #[.string x.f0, .int .u8 x.f1, .int .i64 x.f2, .int .i64 x.f3, .slice A x.f4.length c, .string x.f5] 25)) := (Turned.refl _ W).below (below_alloc (Below.refl _ W) _)
  have hX1 := Blk.new W #[.string x.f0, .int .u8 x.f1, .int .i64 x.f2, .int .i64 x.f3, .slice A x.f4.length c, .string x.f5] 25
  obtain ⟨g, hg⟩ : ∃ g, W.heap.size = g := ⟨_, rfl⟩
  rw [hg] at hX1
  have HG := Aside0.mk hg
  have HW0 := Aside0.mk h
  have HB := Aside0.mk hB
  have HV := Aside0.mk hV
  have HC := Aside0.mk hC
  clear h hB hV hC hPE hbx bx
  go_enter Tryd.func17, Tryd.ntmps17
  go_upto_region 1 with (fail)
  generalize W.alloc (.cells #[.string x.f0, .int .u8 x.f1, .int .i64 x.f2, .int .i64 x.f3, .slice A x.f4.length c, .string x.f5] 25) = W1 at *
  have HW1 := Aside0.mk hW1
  have HT1 := Aside0.mk hT1
  have HX1 := Aside0.mk hX1
  have k0 : W1.cell? ⟨B, 0, none⟩ = some (.pointer (some ⟨T, 0, none⟩)) := (Blk.cell hW1.blk 0).trans rfl
  have k1 : W1.cell? ⟨B, 1, none⟩ = some vi := (Blk.cell hW1.blk 1).trans rfl
  have k2 : W1.cell? ⟨B, 2, none⟩ = some (.bool cl) := (Blk.cell hW1.blk 2).trans rfl
  have hlB := Blk.lt hW1.blk
  have hlg := hX1.lt
  clear hW1 hT1 hX1 hg
  cases cl
  case true =>
    have h7 : ar = 7 := by rw [HR.out, if_pos rfl]
    go_wp2_with fail
    rw [HE.out, h7]
    exact ⟨rfl, by rw [if_neg (by decide), if_neg (by decide)]; exact Added.same HW1.out HT1.out⟩
  case false =>
    have HR2 : Aside0 (ar = if (checkT (its.map bare ++ [x])).2 ≠ 0 then (checkT (its.map bare ++ [x])).2 else if 131072 < (L ++ piecesF x).length + 1024 then 2 else 0) := ⟨by rw [HR.out, if_neg (by simp)]⟩
    clear HR
    have hlen : (its.map rawB).length = its.length := List.length_map ..
    obtain ⟨v1, w2, hrun, hnew, hold, hgr, hat⟩ := append_item (rawI x A c) HW1.out.row (by have := HW1.out.hB; have := hlB; omega) (by rw [hlen]; exact hn)
    have HNEW := Aside0.mk hnew
    have HOLD := Aside0.mk hold
    have HGR := Aside0.mk hgr
    have HAT := Aside0.mk hat
    have c0 : W1.cell? ⟨g, 0, none⟩ = some (.string x.f0) := (Blk.cell HX1.out 0).trans rfl
    have c1 : W1.cell? ⟨g, 1, none⟩ = some (.int .u8 x.f1) := (Blk.cell HX1.out 1).trans rfl
    have c2 : W1.cell? ⟨g, 2, none⟩ = some (.int .i64 x.f2) := (Blk.cell HX1.out 2).trans rfl
    have c3 : W1.cell? ⟨g, 3, none⟩ = some (.int .i64 x.f3) := (Blk.cell HX1.out 3).trans rfl
    have c4 : W1.cell? ⟨g, 4, none⟩ = some (.slice A x.f4.length c) := (Blk.cell HX1.out 4).trans rfl
    have c5 : W1.cell? ⟨g, 5, none⟩ = some (.string x.f5) := (Blk.cell HX1.out 5).trans rfl
    have hrun2 : (Builtin.append_ #[35, 35] 35 #[vi, .slice (some ⟨W1.heap.size, 0, none⟩) 1 1]).run Tryd.prog ((W1.alloc (.cells #[.string x.f0, .int .u8 x.f1, .int .i64 x.f2, .int .i64 x.f3, .slice A x.f4.length c, .string x.f5] 25)).drew) = .ok v1 w2 := hrun
    clear hnew hold hgr hat hlen hrun
    have hrun3 : (Builtin.append_ #[35, 35] 35 #[vi, .slice (some ⟨W1.heap.size, 0, none⟩) 1 1]).run Tryd.prog (W1.drew.alloc (.cells #[.string x.f0, .int .u8 x.f1, .int .i64 x.f2, .int .i64 x.f3, .slice A x.f4.length c, .string x.f5] 25)) = .ok v1 w2 := hrun2
    clear hrun2
    have hne1 := HW1.out.ne
    have hlg2 : ∀ k, vi.ownBlock = some k → k < g := fun k hk => by have := own_lt HW0.out.row k hk; have := HG.out; omega
    have HB2 : Aside0 (Blk w2 B #[.pointer (some ⟨T, 0, none⟩), vi, .bool false] 64) := ⟨(HGR.out.block B (by simp; omega) (fun e => hne1.2.2.1 e.symm)).trans (HW1.out.blk.alloc _)⟩
    have HX2 : Aside0 (Blk w2 g #[.string x.f0, .int .u8 x.f1, .int .i64 x.f2, .int .i64 x.f3, .slice A x.f4.length c, .string x.f5] 25) := ⟨(HGR.out.block g (by simp; omega) (fun e => by have := hlg2 g e.symm; omega)).trans (HX1.out.alloc _)⟩
    have kk1 : w2.cell? ⟨B, 1, none⟩ = some vi := (Blk.cell HB2.out 1).trans rfl
    have cc0 : w2.cell? ⟨g, 0, none⟩ = some (.string x.f0) := (Blk.cell HX2.out 0).trans rfl
    have cc1 : w2.cell? ⟨g, 1, none⟩ = some (.int .u8 x.f1) := (Blk.cell HX2.out 1).trans rfl
    have cc2 : w2.cell? ⟨g, 2, none⟩ = some (.int .i64 x.f2) := (Blk.cell HX2.out 2).trans rfl
    have cc3 : w2.cell? ⟨g, 3, none⟩ = some (.int .i64 x.f3) := (Blk.cell HX2.out 3).trans rfl
    have cc4 : w2.cell? ⟨g, 4, none⟩ = some (.slice A x.f4.length c) := (Blk.cell HX2.out 4).trans rfl
    have cc5 : w2.cell? ⟨g, 5, none⟩ = some (.string x.f5) := (Blk.cell HX2.out 5).trans rfl
    clear hne1
    go_upto_region 6 with (fail)
    go_region_held3 (fun w' => w'.cell? ⟨B, 1, none⟩ = some vi ∧ w'.cell? ⟨g, 0, none⟩ = some (.string x.f0) ∧ w'.cell? ⟨g, 1, none⟩ = some (.int .u8 x.f1) ∧ w'.cell? ⟨g, 2, none⟩ = some (.int .i64 x.f2) ∧ w'.cell? ⟨g, 3, none⟩ = some (.int .i64 x.f3) ∧ w'.cell? ⟨g, 4, none⟩ = some (.slice A x.f4.length c) ∧ w'.cell? ⟨g, 5, none⟩ = some (.string x.f5)) (first | go_keep | assumption | exact ⟨k1, c0, c1, c2, c3, c4, c5⟩ | exact ⟨kk1, cc0, cc1, cc2, cc3, cc4, cc5⟩) (first | (refine step_append_r rfl (.tmp 25) (.tmp 27) 35 35 rfl vi (.slice (some ⟨W1.heap.size, 0, none⟩) 1 1) rfl rfl hrun3 ?_))
    go_wp2_with fail
    clear k0 k1 k2 kk1 c0 c1 c2 c3 c4 c5 cc0 cc1 cc2 cc3 cc4 cc5 hrun3
    have hT2 : Turned (InW B T vt vi) W w2 := ((HT1.out.below (below_drew (below_alloc (Below.refl _ W1) (.cells #[.string x.f0, .int .u8 x.f1, .int .i64 x.f2, .int .i64 x.f3, .slice A x.f4.length c, .string x.f5] 25)))).grown HGR.out (fun k hk => .inl (.inr (.inr (.inr hk)))))
    have hW2 : Wr w2 B T W0.heap.size vt vi false (its.map rawB) L := by
      obtain ⟨n1, n2, n3, n4, n5, n6⟩ := HW1.out.ne
      refine ⟨HB2.out, HW1.out.tape.keep (fun k h1 h2 => ?_), HOLD.out, HW1.out.hB, HW1.out.hT⟩
      refine (HGR.out.block k (by simp; omega) (fun e => ?_)).trans (heap_alloc_old W1 _ h2)
      rcases h1 with rfl | h1
      · exact n5 e.symm
      · exact n6 k h1 e.symm
    have HT2 := Aside0.mk hT2
    have HW2 := Aside0.mk hW2
    have hY : ∃ A1 c1, v1 = .slice A1 (its.map bare ++ [x]).length c1 ∧ (its.map bare ++ [x]).length ≤ c1 ∧ Kd.C k25 w2 A1 (its.map bare ++ [x]).length (its.map bare ++ [x]) := by
      refine raw_C HNEW.out (by simp) (fun j r y hr hy => ?_)
      rcases Nat.lt_or_ge j its.length with hj | hj
      · rw [List.getElem?_append_left (by simpa using hj), List.getElem?_map] at hr hy
        cases hq : its[j]? with
        | none => rw [hq] at hr; cases hr
        | some q =>
          rw [hq] at hr hy
          cases hr
          cases hy
          exact ⟨none, 0, rfl, Nat.le_refl _, nil_CB _⟩
      · rw [List.getElem?_append_right (by simpa using hj)] at hr hy
        rw [List.length_map] at hr hy
        obtain rfl : j = its.length := by
          have := (List.getElem?_eq_some_iff.1 hr).1
          simp at this
          omega
        rw [Nat.sub_self] at hr hy
        cases hr
        cases hy
        exact ⟨A, c, rfl, hc, HC.out _ HT2.out⟩
    obtain ⟨A1, c1, rfl, hlc1, hC1⟩ := hY
    have hV2 : Vars w2 i0 := HV.out.below (HB.out.trans (HT2.out.toBelow HB.out.size (fun k hk => HW0.out.base_le k hk)))
    have HCK := Aside0.mk (checkT_any A1 c1 (its.map bare ++ [x]) i0 w2 hC1 hV2.len)
    have HV2 := Aside0.mk hV2
    clear hT2 hW2 hC1 hlc1 hV2 HNEW HOLD HGR HB2
    refine HCK.out.mono ?_
    rintro e w3 ⟨rfl, hb3⟩
    have HW3 := Aside0.mk (HW2.out.below hb3)
    have HT3 := Aside0.mk (HT2.out.below hb3)
    have HX3 : Aside0 (Blk w3 g #[.string x.f0, .int .u8 x.f1, .int .i64 x.f2, .int .i64 x.f3, .slice A x.f4.length c, .string x.f5] 25) := ⟨(hb3.block g HX2.out.lt).trans HX2.out⟩
    clear HCK HW2 HT2 HX2 hb3 HV2 HX1 HW1 HT1 hlg2 HAT hlB hlg
    by_cases h0 : (checkT (its.map bare ++ [x])).2 = 0
    case neg =>
      have HZ : Aside0 (ar = (checkT (its.map bare ++ [x])).2) := ⟨by rw [HR2.out, if_pos h0]⟩
      have hne : ((checkT (its.map bare ++ [x])).2 != 0) = true := bne_iff_ne.2 h0
      generalize checkT (its.map bare ++ [x]) = ct at *
      obtain ⟨ca, ce⟩ := ct
      simp only at hne h0 HZ
      simp only
      clear HR2
      go_wp2_with fail
      rw [HE.out, HZ.out]
      exact ⟨rfl, by rw [if_neg h0, if_neg h0]; exact Added.same HW3.out HT3.out⟩
    case pos =>
      have HR3 : Aside0 (ar = if 131072 < (L ++ piecesF x).length + 1024 then 2 else 0) := ⟨by rw [HR2.out, if_neg (fun e => e h0)]⟩
      have hm : mayX x = 0 := check_mem h0 x (by simp)
      rw [h0]
      generalize (checkT (its.map bare ++ [x])).1 = ca
      clear HR2 h0
      go_wp2_with fail
      refine (lenW_any HW3.out).mono ?_
      rintro e w4 ⟨rfl, hb4⟩
      have HW4 := Aside0.mk (HW3.out.below hb4)
      have HT4 := Aside0.mk (HT3.out.below hb4)
      have HX4 : Aside0 (Blk w4 g #[.string x.f0, .int .u8 x.f1, .int .i64 x.f2, .int .i64 x.f3, .slice A x.f4.length c, .string x.f5] 25) := ⟨(hb4.block g HX3.out.lt).trans HX3.out⟩
      clear hb4 HW3 HT3 HX3
      have HWd := Aside0.mk (HW4.out.below (below_drew (Below.refl _ w4)))
      have HTd := Aside0.mk (HT4.out.below (below_drew (Below.refl _ w4)))
      have hXd : Blk w4.drew g #[.string x.f0, .int .u8 x.f1, .int .i64 x.f2, .int .i64 x.f3, .slice A x.f4.length c, .string x.f5] 25 := HX4.out
      have hvt : ∀ k, vt.ownBlock = some k → k < g := fun k hk => by have := (HW0.out.tape.own_rg k hk).2; have := HG.out; omega
      have hTg : T < g := by have := Blk.lt HW0.out.tape.1; have := HG.out; omega
      have hBg : B < g := by have := Blk.lt HW0.out.blk; have := HG.out; omega
      have hpl := pieces_len hm
      have hIT : Calls Tryd.prog 26 #[.pointer (some ⟨T, 0, none⟩), .agg #[.string x.f0, .int .u8 x.f1, .int .i64 x.f2, .int .i64 x.f3, .slice A x.f4.length c, .string x.f5]] w4.drew (EndsItem W0 w4.drew T vt (L ++ piecesF x)) :=
        item_any x hm A c i0 W0 w4.drew HWd.out.tape HWd.out.hT (HB.out.trans (HTd.out.toBelow HB.out.size (fun k hk => HW0.out.base_le k hk))) HV.out (fun X v l' hz => HC.out X (HTd.out.then_ hz.turn (fun k hk => .inl (hk.elim (fun e => .inr (.inl e)) (fun e => .inr (.inr (.inl e))))))) hc (by omega)
      have HIT := Aside0.mk hIT
      have HBD : Aside0 (Blk w4.drew B #[.pointer (some ⟨T, 0, none⟩), vi, .bool false] 64) := ⟨HWd.out.blk⟩
      have HXD := Aside0.mk hXd
      have HNE := Aside0.mk HW0.out.ne
      have HVT := Aside0.mk hvt
      have HTG := Aside0.mk hTg
      have HBG := Aside0.mk hBg
      generalize piecesF x = pc at *
      have k0 : w4.cell? ⟨B, 0, none⟩ = some (.pointer (some ⟨T, 0, none⟩)) := (Blk.cell HW4.out.blk 0).trans rfl
      have hlB := Blk.lt HW4.out.blk
      have hlg := HX4.out.lt
      have c0 : w4.cell? ⟨g, 0, none⟩ = some (.string x.f0) := (Blk.cell HX4.out 0).trans rfl
      have c1 : w4.cell? ⟨g, 1, none⟩ = some (.int .u8 x.f1) := (Blk.cell HX4.out 1).trans rfl
      have c2 : w4.cell? ⟨g, 2, none⟩ = some (.int .i64 x.f2) := (Blk.cell HX4.out 2).trans rfl
      have c3 : w4.cell? ⟨g, 3, none⟩ = some (.int .i64 x.f3) := (Blk.cell HX4.out 3).trans rfl
      have c4 : w4.cell? ⟨g, 4, none⟩ = some (.slice A x.f4.length c) := (Blk.cell HX4.out 4).trans rfl
      have c5 : w4.cell? ⟨g, 5, none⟩ = some (.string x.f5) := (Blk.cell HX4.out 5).trans rfl
      clear hIT hXd hvt hTg hBg hm
      go_upto_region 11 with (fail)
      go_region_held3 (fun w' => w'.cell? ⟨B, 0, none⟩ = some (.pointer (some ⟨T, 0, none⟩)) ∧ w'.cell? ⟨g, 0, none⟩ = some (.string x.f0) ∧ w'.cell? ⟨g, 1, none⟩ = some (.int .u8 x.f1) ∧ w'.cell? ⟨g, 2, none⟩ = some (.int .i64 x.f2) ∧ w'.cell? ⟨g, 3, none⟩ = some (.int .i64 x.f3) ∧ w'.cell? ⟨g, 4, none⟩ = some (.slice A x.f4.length c) ∧ w'.cell? ⟨g, 5, none⟩ = some (.string x.f5)) (first | go_keep | assumption | exact ⟨k0, c0, c1, c2, c3, c4, c5⟩ | exact ⟨q0, d0, d1, d2, d3, d4, d5⟩) (first | (go_at_call 26; refine HIT.out.mono ?_; rintro e w5 ⟨rfl, v5, hz5⟩; have hB5 : Blk w5 B #[.pointer (some ⟨T, 0, none⟩), vi, .bool false] 64 := hz5.turn.blk HBD.out (fun hk => hk.elim HNE.out.1 HNE.out.2.1); have hX5 : Blk w5 g #[.string x.f0, .int .u8 x.f1, .int .i64 x.f2, .int .i64 x.f3, .slice A x.f4.length c, .string x.f5] 25 := hz5.turn.blk HXD.out (fun hk => hk.elim (fun e => by have := HTG.out; omega) (fun e => by have := HVT.out _ e; omega)); have q0 : w5.cell? ⟨B, 0, none⟩ = some (.pointer (some ⟨T, 0, none⟩)) := (Blk.cell hB5 0).trans rfl; have d0 : w5.cell? ⟨g, 0, none⟩ = some (.string x.f0) := (Blk.cell hX5 0).trans rfl; have d1 : w5.cell? ⟨g, 1, none⟩ = some (.int .u8 x.f1) := (Blk.cell hX5 1).trans rfl; have d2 : w5.cell? ⟨g, 2, none⟩ = some (.int .i64 x.f2) := (Blk.cell hX5 2).trans rfl; have d3 : w5.cell? ⟨g, 3, none⟩ = some (.int .i64 x.f3) := (Blk.cell hX5 3).trans rfl; have d4 : w5.cell? ⟨g, 4, none⟩ = some (.slice A x.f4.length c) := (Blk.cell hX5 4).trans rfl; have d5 : w5.cell? ⟨g, 5, none⟩ = some (.string x.f5) := (Blk.cell hX5 5).trans rfl))
      go_wp2_with fail
      have hW5 : Wr w5 B T W0.heap.size v5 vi false (its.map rawB) (L ++ pc) :=
        ⟨hB5, hz5.tape, own_move HWd.out.row (fun k hk => hz5.turn.block k (own_lt HWd.out.row k hk) (fun h => h.elim (fun e => HNE.out.2.2.2.2.1 (by rw [hk, e])) (fun e => HNE.out.2.2.2.2.2 k e hk))), HWd.out.hB, HWd.out.hT⟩
      have hT5 : Turned (InW B T vt vi) W w5 := HTd.out.then_ hz5.turn (fun k hk => .inl (hk.elim (fun e => .inr (.inl e)) (fun e => .inr (.inr (.inl e)))))
      have HO5 : Aside0 (v5.ownBlock = vt.ownBlock ∨ ∃ g, v5.ownBlock = some g ∧ W.heap.size ≤ g) := ⟨hz5.own.elim .inl (fun ⟨k, h1, h2⟩ => .inr ⟨k, h1, Nat.le_trans HTd.out.size h2⟩)⟩
      have HW5 := Aside0.mk hW5
      have HT5 := Aside0.mk hT5
      have HX5 := Aside0.mk hX5
      have HLL : Aside0 ((L ++ pc).take L.length = L) := ⟨List.take_left' rfl⟩
      have hlen2 : (L ++ pc).length ≤ 400000 := by rw [List.length_append]; omega
      have hlen3 : L.length ≤ (L ++ pc).length := by rw [List.length_append]; omega
      clear hW5 hT5 hX5 hB5 hz5 q0 d0 d1 d2 d3 d4 d5 k0 c0 c1 c2 c3 c4 c5 hlB hlg HWd HTd HW4 HT4 HX4 HIT HBD HXD hpl
      generalize L ++ pc = L2 at *
      refine (lenW_any HW5.out).mono ?_
      rintro e w6 ⟨rfl, hb6⟩
      have HW6 := Aside0.mk (HW5.out.below hb6)
      have HT6 := Aside0.mk (HT5.out.below hb6)
      have HX6 : Aside0 (Blk w6 g #[.string x.f0, .int .u8 x.f1, .int .i64 x.f2, .int .i64 x.f3, .slice A x.f4.length c, .string x.f5] 25) := ⟨(hb6.block g HX5.out.lt).trans HX5.out⟩
      clear hb6 HW5 HT5 HX5
      have hlB := Blk.lt HW6.out.blk
      have hlT := Blk.lt HW6.out.tape.1
      have hlg := HX6.out.lt
      by_cases hbig : 131072 < L2.length + 1024
      · have HZ : Aside0 (ar = 2) := ⟨by rw [HR3.out, if_pos hbig]⟩
        have hd : decide ((131072 : Int) < (L2.length : Int) + 1024) = true := decide_eq_true (by omega)
        obtain ⟨A5, c5, e5, hc5, -⟩ := Kd.R_reads HW6.out.tape.2
        subst e5
        obtain ⟨i05, hi05, _⟩ := info_parts info5
        have hcut : ∀ W : World, (Instr.slice 23 (.slice A5 L2.length c5) none (some (.int .i64 (L.length : Int))) none).run Tryd.prog W = .ok (.slice A5 L.length c5) W := fun W => by
          have h := cut_to (P := Tryd.prog) 23 5 .i64 Tryd.underlying23 hi05 A5 L2.length c5 (L.length : Int) (by omega) (by omega) hc5 W
          rwa [Int.toNat_natCast] at h
        have k0 : w6.cell? ⟨B, 0, none⟩ = some (.pointer (some ⟨T, 0, none⟩)) := (Blk.cell HW6.out.blk 0).trans rfl
        have kT : w6.cell? ⟨T, 0, none⟩ = some (.slice A5 L2.length c5) := (Blk.cell HW6.out.tape.1 0).trans rfl
        have kf : w6.frozen? ⟨T, 0, none⟩ = false := Blk.free HW6.out.tape.1 0
        clear hbig HR3 hc5
        go_upto_region 13 with (fail)
        go_region
        go_wp2_with fail
        rw [HE.out, HZ.out]
        have ho : (Value.slice A5 L.length c5).ownBlock = (Value.slice A5 L2.length c5).ownBlock := own_lenX
        have hX := HW6.out
        refine ⟨rfl, ⟨⟨.slice A5 L.length c5, vi, ?_, by rw [ho]; exact HO5.out, .inl rfl⟩, (HT6.out.setCell (p := ⟨T, 0, none⟩) (.inl (.inr (.inl rfl))) _).drew⟩⟩
        rw [if_neg (by decide), if_neg (by decide)]
        have hr := Kd.R_take hX.tape.2 hlen3
        rw [HLL.out] at hr
        exact ⟨(Below.heap_setCell w6 ⟨T, 0, none⟩ _ B HNE.out.1).trans hX.blk, ⟨(hX.tape.1.set 0 _).trans rfl, Kd.R_drew (Kd.R_set hr hX.tape.1 (by decide) 0 _)⟩, own_move hX.row (fun k hk => Below.heap_setCell w6 ⟨T, 0, none⟩ _ k (fun e => HNE.out.2.2.2.2.1 (by rw [hk, e]))), hX.hB, hX.hT⟩
      · have HZ : Aside0 (ar = 0) := ⟨by rw [HR3.out, if_neg hbig]⟩
        have hd : decide ((131072 : Int) < (L2.length : Int) + 1024) = false := decide_eq_false (by omega)
        clear hbig HR3
        have k4 : w6.cell? ⟨g, 4, none⟩ = some (.slice A x.f4.length c) := (Blk.cell HX6.out 4).trans rfl
        have kf4 : w6.frozen? ⟨g, 4, none⟩ = false := Blk.free HX6.out 4
        go_upto_region 16 with (fail)
        have hfar : ∀ k, k ≠ g → (w6.setCell ⟨g, 4, none⟩ (.slice none 0 0)).heap[k]? = w6.heap[k]? := fun k hk => Below.heap_setCell w6 ⟨g, 4, none⟩ _ k hk
        have hvi : ∀ k, vi.ownBlock = some k → k < g := fun k hk => by have := own_lt HW0.out.row k hk; have := HG.out; omega
        have HX7 : Aside0 (Blk (w6.setCell ⟨g, 4, none⟩ (.slice none 0 0)) g #[.string x.f0, .int .u8 x.f1, .int .i64 x.f2, .int .i64 x.f3, .slice none 0 0, .string x.f5] 25) := ⟨(HX6.out.set 4 (.slice none 0 0)).trans rfl⟩
        have HT7 : Aside0 (Turned (InW B T vt vi) W (w6.setCell ⟨g, 4, none⟩ (.slice none 0 0))) := ⟨HT6.out.setCell (p := ⟨g, 4, none⟩) (.inr (Nat.le_of_eq HG.out)) _⟩
        have hv5 : ∀ k, v5.ownBlock = some k → k ≠ g := fun k hk e => Kd.R_ne HW6.out.tape.2 HX6.out (by decide) (by rw [hk, e])
        have HW7 : Aside0 (Wr (w6.setCell ⟨g, 4, none⟩ (.slice none 0 0)) B T W0.heap.size v5 vi false (its.map rawB) L2) := ⟨⟨(hfar B (by have := HBG.out; omega)).trans HW6.out.blk, HW6.out.tape.keep (fun k h1 _ => hfar k (h1.elim (fun e => by have := HTG.out; omega) (fun e => hv5 k e))), own_move HW6.out.row (fun k hk => hfar k (by have := hvi k hk; omega)), HW6.out.hB, HW6.out.hT⟩⟩
        clear k4 kf4 hfar HW6 HT6 HX6 hlB hlT hlg hv5
        generalize w6.setCell ⟨g, 4, none⟩ (.slice none 0 0) = w7 at *
        have hlB := Blk.lt HW7.out.blk
        have hlg := HX7.out.lt
        have hlen : (its.map rawB).length = its.length := List.length_map ..
        obtain ⟨v8, w8, hrun, hnew, hold, hgr, hat⟩ := append_item (rawB x) HW7.out.row (by have := HW7.out.hB; omega) (by rw [hlen]; exact hn)
        obtain ⟨A8, c8, e8⟩ := own_slice hnew
        subst e8
        have HNEW := Aside0.mk hnew
        have HGR := Aside0.mk hgr
        have HAT := Aside0.mk hat
        have hrun3 : (Builtin.append_ #[35, 35] 35 #[vi, .slice (some ⟨w7.heap.size, 0, none⟩) 1 1]).run Tryd.prog (w7.drew.alloc (.cells #[.string x.f0, .int .u8 x.f1, .int .i64 x.f2, .int .i64 x.f3, .slice none 0 0, .string x.f5] 25)) = .ok (.slice A8 ((its.map rawB).length + 1) c8) w8 := hrun
        have hne1 := HW7.out.ne
        have HB8 : Aside0 (Blk w8 B #[.pointer (some ⟨T, 0, none⟩), vi, .bool false] 64) := ⟨(HGR.out.block B (by simp; omega) (fun e => hne1.2.2.1 e.symm)).trans (HW7.out.blk.alloc _)⟩
        have HX8 : Aside0 (Blk w8 g #[.string x.f0, .int .u8 x.f1, .int .i64 x.f2, .int .i64 x.f3, .slice none 0 0, .string x.f5] 25) := ⟨(HGR.out.block g (by simp; omega) (fun e => by have := hvi g e.symm; omega)).trans (HX7.out.alloc _)⟩
        have k1 : w7.cell? ⟨B, 1, none⟩ = some vi := (Blk.cell HW7.out.blk 1).trans rfl
        have c0 : w7.cell? ⟨g, 0, none⟩ = some (.string x.f0) := (Blk.cell HX7.out 0).trans rfl
        have c1 : w7.cell? ⟨g, 1, none⟩ = some (.int .u8 x.f1) := (Blk.cell HX7.out 1).trans rfl
        have c2 : w7.cell? ⟨g, 2, none⟩ = some (.int .i64 x.f2) := (Blk.cell HX7.out 2).trans rfl
        have c3 : w7.cell? ⟨g, 3, none⟩ = some (.int .i64 x.f3) := (Blk.cell HX7.out 3).trans rfl
        have c4 : w7.cell? ⟨g, 4, none⟩ = some (.slice none 0 0) := (Blk.cell HX7.out 4).trans rfl
        have c5 : w7.cell? ⟨g, 5, none⟩ = some (.string x.f5) := (Blk.cell HX7.out 5).trans rfl
        have kk1 : w8.cell? ⟨B, 1, none⟩ = some vi := (Blk.cell HB8.out 1).trans rfl
        have kkf : w8.frozen? ⟨B, 1, none⟩ = false := Blk.free HB8.out 1
        have cc0 : w8.cell? ⟨g, 0, none⟩ = some (.string x.f0) := (Blk.cell HX8.out 0).trans rfl
        have cc1 : w8.cell? ⟨g, 1, none⟩ = some (.int .u8 x.f1) := (Blk.cell HX8.out 1).trans rfl
        have cc2 : w8.cell? ⟨g, 2, none⟩ = some (.int .i64 x.f2) := (Blk.cell HX8.out 2).trans rfl
        have cc3 : w8.cell? ⟨g, 3, none⟩ = some (.int .i64 x.f3) := (Blk.cell HX8.out 3).trans rfl
        have cc4 : w8.cell? ⟨g, 4, none⟩ = some (.slice none 0 0) := (Blk.cell HX8.out 4).trans rfl
        have cc5 : w8.cell? ⟨g, 5, none⟩ = some (.string x.f5) := (Blk.cell HX8.out 5).trans rfl
        have hl8 := HX8.out.lt
        have hl9 := Blk.lt HB8.out
        clear hnew hold hgr hat hlen hrun hne1
        have hnew' : w8.ownsRow W0.heap.size 25 6 (.slice A8 (its.length + 1) c8) ((its ++ [x]).map rawB).length (rawL ((its ++ [x]).map rawB)) := by
          have h := HNEW.out
          rw [List.length_map] at h
          rw [List.map_append, List.length_append, List.length_map]
          exact h
        have hAT : (Value.slice A8 (its.length + 1) c8).ownBlock = vi.ownBlock ∨ ∃ b, (Value.slice A8 (its.length + 1) c8).ownBlock = some b ∧ w7.heap.size ≤ b := by
          have h := HAT.out
          rw [List.length_map] at h
          exact h
        have hne7 := HW7.out.ne
        have htape : Tape w8 T W0.heap.size v5 L2 := HW7.out.tape.keep (fun k h1 h2 => (HGR.out.block k (by simp; omega) (fun e => by
          rcases h1 with rfl | h1
          · exact hne7.2.2.2.2.1 e.symm
          · exact hne7.2.2.2.2.2 k h1 e.symm)).trans (heap_alloc_old w7 _ h2))
        have HWF : Aside0 (Wr (w8.setCell ⟨B, 1, none⟩ (.slice A8 (its.length + 1) c8)) B T W0.heap.size v5 (.slice A8 (its.length + 1) c8) false ((its ++ [x]).map rawB) L2) := ⟨⟨(HB8.out.set 1 _).trans rfl, htape.keep (fun k h1 _ => Below.heap_setCell w8 ⟨B, 1, none⟩ _ k (fun e => by
            have e' : k = B := e
            rcases h1 with h1 | h1
            · exact hne7.1 (e'.symm.trans h1)
            · exact hne7.2.1 (by rw [h1, e']))), own_move hnew' (fun k hk => Below.heap_setCell w8 ⟨B, 1, none⟩ _ k (fun e => by
            have e' : k = B := e
            rcases hAT with h1 | ⟨b, h1, h2⟩
            · exact hne7.2.2.1 (by rw [← h1, hk, e'])
            · have := h1.symm.trans hk
              injection this with this
              omega)), HW7.out.hB, HW7.out.hT⟩⟩
        have HTF : Aside0 (Turned (InW B T vt vi) W (w8.setCell ⟨B, 1, none⟩ (.slice A8 (its.length + 1) c8))) := ⟨((HT7.out.below (below_drew (below_alloc (Below.refl _ w7) _))).grown HGR.out (fun k hk => .inl (.inr (.inr (.inr hk))))).setCell (p := ⟨B, 1, none⟩) (.inl (.inl rfl)) _⟩
        have HAF : Aside0 ((Value.slice A8 (its.length + 1) c8).ownBlock = vi.ownBlock ∨ ∃ b, (Value.slice A8 (its.length + 1) c8).ownBlock = some b ∧ W.heap.size ≤ b) := ⟨hAT.elim .inl (fun ⟨b, h1, h2⟩ => .inr ⟨b, h1, Nat.le_trans HT7.out.size h2⟩)⟩
        clear hnew' hAT hne7 htape
        refine wp_region_any (by kernel_rfl) ?_
        try (change wpAny _ _ _ _ _ _ _ (World.drew _))
        refine wpAny_take (i := 0) (v := ?_) rfl (by kernel_rfl) (by kernel_rfl) (by kernel_rfl) (fun _ _ _ h => h) (Or.inl ⟨by rfl, ?_⟩) ?_
        rotate_left
        · (intro w; go_simp; first | done | (with_reducible rfl))
        refine wpAny_take (i := 1) (v := ?_) rfl (by kernel_rfl) (by kernel_rfl) (by kernel_rfl) (fun _ _ _ h => h) (Or.inl ⟨by rfl, ?_⟩) ?_
        rotate_left
        · (intro w; go_simp; first | done | (with_reducible rfl))
        refine wpAny_take (i := 2) (v := ?_) rfl (by kernel_rfl) (by kernel_rfl) (by kernel_rfl) (fun _ _ _ h => h) (Or.inl ⟨by rfl, ?_⟩) ?_
        rotate_left
        · (intro w; go_simp; first | done | (with_reducible rfl))
        refine wpAny_take (i := 3) (v := ?_) rfl (by kernel_rfl) (by kernel_rfl) (by kernel_rfl) (fun _ _ _ h => h) (Or.inl ⟨by rfl, ?_⟩) ?_
        rotate_left
        · (intro w; go_simp; first | done | (with_reducible rfl))
        refine wpAny_ready (rs := [4, 5]) (by kernel_rfl) (by simp) ?_
        refine AllReady.cons rfl (fun K hK => ?_) (AllReady.cons rfl (fun K hK => ?_) AllReady.nil)
        · go_simp
          refine hK _ _ ?_
          clear hK K
          refine wpAny_ready (rs := [5]) (by kernel_rfl) (by simp) ?_
          refine AllReady.cons rfl (fun K hK => ?_) AllReady.nil
          go_simp
          refine hK _ _ ?_
          clear hK K
          refine wpAny_ready (rs := [6]) (by kernel_rfl) (by simp) ?_
          refine AllReady.cons rfl (fun K hK => ?_) AllReady.nil
          go_simp
          refine hK _ _ ?_
          clear hK K
          refine wpAny_ready (rs := [7]) (by kernel_rfl) (by simp) ?_
          refine AllReady.cons rfl (fun K hK => ?_) AllReady.nil
          refine step_append_r rfl (.tmp 69) (.tmp 71) 35 35 rfl vi (.slice (some ⟨w7.heap.size, 0, none⟩) 1 1) rfl rfl hrun3 ?_
          refine hK _ _ ?_
          clear hK K
          refine wpAny_take (i := 8) (v := ?_) rfl (by kernel_rfl) (by kernel_rfl) (by kernel_rfl) (fun _ _ _ h => h) (Or.inl ⟨by rfl, ?_⟩) ?_
          rotate_left
          · (intro w; go_simp; first | done | (with_reducible rfl))
          refine wpAny_take (i := 9) (v := ?_) rfl (by kernel_rfl) (by kernel_rfl) (by kernel_rfl) (fun _ _ _ h => h) (Or.inl ⟨by rfl, ?_⟩) ?_
          rotate_left
          · (intro w; go_simp; first | done | (with_reducible rfl))
          refine wpAny_ready (rs := [10]) (by kernel_rfl) (by simp) ?_
          refine AllReady.cons rfl (fun K hK => ?_) AllReady.nil
          go_simp
          refine hK _ _ ?_
          clear hK K
          refine wpAny_done (by kernel_rfl) ?_ _
          go_wp2_with fail
          rw [HE.out, HZ.out]
          exact ⟨rfl, ⟨⟨v5, _, by rw [if_pos rfl, if_pos rfl]; exact HWF.out, HO5.out, HAF.out⟩, HTF.out⟩⟩
        · go_simp
          refine hK _ _ ?_
          clear hK K
          refine wpAny_ready (rs := [4, 6]) (by kernel_rfl) (by simp) ?_
          refine AllReady.cons rfl (fun K hK => ?_) (AllReady.cons rfl (fun K hK => ?_) AllReady.nil)
          · go_simp
            refine hK _ _ ?_
            clear hK K
            refine wpAny_ready (rs := [6]) (by kernel_rfl) (by simp) ?_
            refine AllReady.cons rfl (fun K hK => ?_) AllReady.nil
            go_simp
            refine hK _ _ ?_
            clear hK K
            refine wpAny_ready (rs := [7]) (by kernel_rfl) (by simp) ?_
            refine AllReady.cons rfl (fun K hK => ?_) AllReady.nil
            refine step_append_r rfl (.tmp 69) (.tmp 71) 35 35 rfl vi (.slice (some ⟨w7.heap.size, 0, none⟩) 1 1) rfl rfl hrun3 ?_
            refine hK _ _ ?_
            clear hK K
            refine wpAny_take (i := 8) (v := ?_) rfl (by kernel_rfl) (by kernel_rfl) (by kernel_rfl) (fun _ _ _ h => h) (Or.inl ⟨by rfl, ?_⟩) ?_
            rotate_left
            · (intro w; go_simp; first | done | (with_reducible rfl))
            refine wpAny_take (i := 9) (v := ?_) rfl (by kernel_rfl) (by kernel_rfl) (by kernel_rfl) (fun _ _ _ h => h) (Or.inl ⟨by rfl, ?_⟩) ?_
            rotate_left
            · (intro w; go_simp; first | done | (with_reducible rfl))
            refine wpAny_ready (rs := [10]) (by kernel_rfl) (by simp) ?_
            refine AllReady.cons rfl (fun K hK => ?_) AllReady.nil
            go_simp
            refine hK _ _ ?_
            clear hK K
            refine wpAny_done (by kernel_rfl) ?_ _
            go_wp2_with fail
            rw [HE.out, HZ.out]
            exact ⟨rfl, ⟨⟨v5, _, by rw [if_pos rfl, if_pos rfl]; exact HWF.out, HO5.out, HAF.out⟩, HTF.out⟩⟩
          · go_simp
            refine hK _ _ ?_
            clear hK K
            refine wpAny_ready (rs := [4]) (by kernel_rfl) (by simp) ?_
            refine AllReady.cons rfl (fun K hK => ?_) AllReady.nil
            go_simp
            refine hK _ _ ?_
            clear hK K
            refine wpAny_ready (rs := [7]) (by kernel_rfl) (by simp) ?_
            refine AllReady.cons rfl (fun K hK => ?_) AllReady.nil
            refine step_append_r rfl (.tmp 69) (.tmp 71) 35 35 rfl vi (.slice (some ⟨w7.heap.size, 0, none⟩) 1 1) rfl rfl hrun3 ?_
            refine hK _ _ ?_
            clear hK K
            refine wpAny_take (i := 8) (v := ?_) rfl (by kernel_rfl) (by kernel_rfl) (by kernel_rfl) (fun _ _ _ h => h) (Or.inl ⟨by rfl, ?_⟩) ?_
            rotate_left
            · (intro w; go_simp; first | done | (with_reducible rfl))
            refine wpAny_take (i := 9) (v := ?_) rfl (by kernel_rfl) (by kernel_rfl) (by kernel_rfl) (fun _ _ _ h => h) (Or.inl ⟨by rfl, ?_⟩) ?_
            rotate_left
            · (intro w; go_simp; first | done | (with_reducible rfl))
            refine wpAny_ready (rs := [10]) (by kernel_rfl) (by simp) ?_
            refine AllReady.cons rfl (fun K hK => ?_) AllReady.nil
            go_simp
            refine hK _ _ ?_
            clear hK K
            refine wpAny_done (by kernel_rfl) ?_ _
            go_wp2_with fail
            rw [HE.out, HZ.out]
            exact ⟨rfl, ⟨⟨v5, _, by rw [if_pos rfl, if_pos rfl]; exact HWF.out, HO5.out, HAF.out⟩, HTF.out⟩⟩
end Go.Proofs.YtopehfjohifpnaaDoor.Mine
end
section
set_option linter.unusedSimpArgs false
set_option linter.unusedVariables false
namespace Go.Proofs.YtopehfjohifpnaaDoor.Mine
open Go.RowKit Go.Shelf Go.Proofs.YtopehfjohifpnaaDoorW.PrintWords Go.Proofs.YtopehfjohifpnaaDoorW.PrintLast Go.Proofs.YtopehfjohifpnaaDoorW.PrintMore Go.Proofs.YtopehfjohifpnaaDoor.Turn Go.Proofs.YtopehfjohifpnaaDoor.Doc
set_option maxRecDepth 100000 in
set_option maxHeartbeats 8000000 in
theorem sizeW_any (A : Option Addr) (c : Nat) (l : List S25) (i0 : Int) (w : World) (hr : Kd.C k25 w A l.length l) (hV : Vars w i0) :
    Calls Tryd.prog 12 #[.slice A l.length c] w fun e w' => e = .returned (.tuple #[.int .i64 (writeF l).1.length, .int .i64 (writeF l).2.2]) ∧ Below w.heap.size w w' := by
  have HWA := Aside0.mk (write_any A c l i0 w hr hV)
  generalize writeF l = R at *
  obtain ⟨vb, va, ve⟩ := R
  unfold EndsWrite at HWA
  simp only at HWA ⊢
  clear hr hV
  go_enter Tryd.func12, Tryd.ntmps12
  go_wp2_with fail
  refine HWA.out.mono ?_
  rintro e w1 ⟨A1, c1, rfl, ho, hb⟩
  have HB := Aside0.mk hb
  clear ho hb HWA
  go_wp2_with fail
  go_ret2
  exact ⟨rfl, HB.out⟩
end Go.Proofs.YtopehfjohifpnaaDoor.Mine
end
