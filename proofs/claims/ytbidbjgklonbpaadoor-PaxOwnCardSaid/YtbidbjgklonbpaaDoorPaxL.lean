/- pax: Get, by the program. -/
import Derived.Test.YtbidbjgklonbpaaDoorPaxL1
import Derived.Test.YtbidbjgklonbpaaDoorPaxJ
set_option linter.unusedSimpArgs false
set_option linter.unusedVariables false
namespace Go.Proofs.YtbidbjgklonbpaaDoor.Mine
open Go.RowKit Go.Maps Go.Proofs.YtbidbjgklonbpaaDoorW.PrintWords Go.Proofs.YtbidbjgklonbpaaDoorW.PrintLast Go.Proofs.YtbidbjgklonbpaaDoorW.PrintMore Go.Proofs.YtbidbjgklonbpaaDoor.Turn Go.Proofs.YtbidbjgklonbpaaDoor.PPaxGets

def measG (w : World) (n : Nat) (W : World) : Nat := n - (match W.cell? ⟨w.heap.size + 1, 0, none⟩ with | some v => (intOf v).toNat | none => 0)
theorem measG_eq {w W : World} {v : Value} {a : Nat} {acc : List S23} (h : GetW w W v a acc) (n : Nat) : measG w n W = n - a := by
  unfold measG
  rw [show W.cell? ⟨w.heap.size + 1, 0, none⟩ = some (.int .i64 a) from (h.2.2.1.cell 0).trans rfl]
  simp [intOf]

theorem row1 {W : World} {g : Nat} {k v : ByteArray} (hb : Blk W g #[.string k, .string v] 23) : ReadsRow (fun (x : S23) cs => k23.K W x cs) 2 W (some ⟨g, 0, none⟩) 1 [⟨k, v⟩] :=
  ⟨rfl, by omega, fun _ => ⟨_, rfl, fun j p hj => by
    cases j with
    | zero =>
      simp at hj
      subst hj
      refine ⟨[.string k, .string v], rfl, k23_mk _ _, fun i u hu => ?_⟩
      match i, hu with
      | 0, hu => simp at hu; subst hu; exact (hb.cell 0).trans rfl
      | 1, hu => simp at hu; subst hu; exact (hb.cell 1).trans rfl
      | i + 2, hu => simp at hu
    | succ j => simp at hj⟩⟩

set_option maxHeartbeats 8000000 in
set_option maxRecDepth 100000 in
theorem get_any (A : Option Addr) (c : Nat) (L : List Int) (w : World) (hb : ∀ x ∈ L, 0 ≤ x ∧ x < 256) (hl : L.length ≤ 1152921504606846976) (hc : L.length ≤ c) (hr : Kd.C (Kd.int .u8) w A L.length L) (ht : Tab w) (hm : ∃ m, w.cell? ⟨0, 0, none⟩ = some (.int .i64 m)) :
    Calls Tryd.prog 24 #[.slice A L.length c] w (EndsGet w (getF L)) := by
  have hmf : ∀ (fn : Fn) (first cap : Array Value) (w : World), (Instr.makeFunc fn first cap).run Tryd.prog w = .ok (.func fn first cap) w := fun _ _ _ _ => rfl
  have HONE : Aside0 (∀ (W : World) (a : Nat), Below w.heap.size w W → a < L.length → Calls Tryd.prog 40 #[.slice A L.length c, .int .i64 a] W (EndsOne W a (oneL (L.drop a)))) := ⟨fun W a hbw ha => one_any A c L a W hb hl hc ha (Kd.C_below hr hbw) (ht.below hbw) (by
    obtain ⟨m, hm⟩ := hm
    exact ⟨m, (World.cell?_of_block (hbw.block _ (World.block_lt_of_cell? _ _ hm))).trans hm⟩)⟩
  have HX : Aside0 (getF L = getG L 66 0 []) := ⟨rfl⟩
  obtain ⟨X, hX⟩ : ∃ X, getF L = X := ⟨_, rfl⟩
  rw [hX] at HX ⊢
  clear hX hb hr ht hm
  go_enter_defers Tryd.func24, Tryd.ntmps24
  go_wp2_with fail
  have HG0 : Aside0 (GetW w (((w.alloc (.cells #[.slice none 0 0] 33)).alloc (.cells #[.int .i64 0] 3)).alloc (.cells #[.int .i64 0] 25)) (.slice none 0 0) (0 : Nat) []) := by
    refine ⟨below_alloc (below_alloc (below_alloc (Below.refl _ _) _) _) _, ((Blk.new w #[.slice none 0 0] 33).alloc _).alloc _, ?_, ?_, by simp, Kd.R_nil _ _ _ _ _⟩
    · have := (Blk.new (w.alloc (.cells #[.slice none 0 0] 33)) #[.int .i64 0] 3).alloc (.cells #[.int .i64 0] 25)
      rwa [show (w.alloc (.cells #[.slice none 0 0] 33)).heap.size = w.heap.size + 1 by simp] at this
    · have := Blk.new ((w.alloc (.cells #[.slice none 0 0] 33)).alloc (.cells #[.int .i64 0] 3)) #[.int .i64 0] 25
      rwa [show ((w.alloc (.cells #[.slice none 0 0] 33)).alloc (.cells #[.int .i64 0] 3)).heap.size = w.heap.size + 2 by simp] at this
  generalize ((w.alloc (.cells #[.slice none 0 0] 33)).alloc (.cells #[.int .i64 0] 3)).alloc (.cells #[.int .i64 0] 25) = W0 at *
  clear hmf
  go_loopw [5, 6] (fun v5 v6 wr => ∃ (v : Value) (a : Nat) (acc : List S23), a ≤ L.length ∧ acc.length ≤ 64 ∧ Aside0 (GetW w wr v a acc) ∧ Aside0 (X = getG L (66 - acc.length) a acc)) (fun _ _ wr => measG w L.length wr)
  case atStart => exact ⟨_, 0, [], Nat.zero_le _, Nat.zero_le _, HG0, HX⟩
  case round =>
    clear HG0 HX
    obtain ⟨v, a, acc, haL, hal, HG, HX⟩ := hrel
    obtain ⟨A1, c1, rfl, hc1, hC1⟩ := Kd.R_reads HG.out.2.2.2.2.2
    have HC1 := Aside0.mk hC1
    have hbl := HG.out.2.1
    have hba := HG.out.2.2.1
    have hbe := HG.out.2.2.2.1
    have hl1 := hbl.lt
    have hl2 := hba.lt
    have hl3 := hbe.lt
    have hbl0 : World.cell? wr ⟨w.heap.size, 0, none⟩ = some (.slice A1 acc.length c1) := Blk.cell hbl 0
    have hblf0 : World.frozen? wr ⟨w.heap.size, 0, none⟩ = false := Blk.free hbl 0
    have hba0 : World.cell? wr ⟨(w.heap.size + 1), 0, none⟩ = some (.int .i64 a) := Blk.cell hba 0
    have hbaf0 : World.frozen? wr ⟨(w.heap.size + 1), 0, none⟩ = false := Blk.free hba 0
    have hbe0 : World.cell? wr ⟨(w.heap.size + 2), 0, none⟩ = some (.int .i64 0) := Blk.cell hbe 0
    have hbef0 : World.frozen? wr ⟨(w.heap.size + 2), 0, none⟩ = false := Blk.free hbe 0
    clear hC1
    have HMS := Aside0.mk (measG_eq HG.out L.length)
    have HX1 : Aside0 (X = if L.length ≤ a then (acc, (0 : Int), (0 : Int)) else if acc.length = 64 then (([] : List S23), (a : Int), (3 : Int)) else
      match oneL (L.drop a) with
      | .error c => (([] : List S23), (a : Int), c)
      | .ok (k, v, n) => if outOf acc k = true then (([] : List S23), (a : Int), (92 : Int)) else getG L (65 - acc.length) (a + n) (acc ++ [⟨k, v⟩])) := ⟨by
      rw [HX.out, show 66 - acc.length = (65 - acc.length) + 1 by omega]; rfl⟩
    clear HX
    by_cases h1 : a < L.length
    case neg =>
      have HX2 : Aside0 (X = (acc, (0 : Int), (0 : Int))) := ⟨by rw [HX1.out, if_pos (by omega)]⟩
      go_wp2_with fail
      refine (clip_any A1 c1 acc.length (by omega) hc1 _).mono ?_
      rintro e w2 ⟨rfl, rfl⟩
      go_wp2_with fail
      exact leaves_right24 rfl rfl rfl HG.out HX2.out
    case pos =>
      by_cases h2 : acc.length = 64
      · have HX2 : Aside0 (X = (([] : List S23), (a : Int), (3 : Int))) := ⟨by rw [HX1.out, if_neg (by omega), if_pos h2]⟩
        have e2 : ((acc.length : Int) == 64) = true := by rw [beq_iff_eq]; omega
        go_wp2_with fail
        exact leaves_wrong24 _ _ rfl rfl rfl HG.out HX2.out
      · have HX2 : Aside0 (X = match oneL (L.drop a) with
          | .error c => (([] : List S23), (a : Int), c)
          | .ok (k, v, n) => if outOf acc k = true then (([] : List S23), (a : Int), (92 : Int)) else getG L (65 - acc.length) (a + n) (acc ++ [⟨k, v⟩])) := ⟨by rw [HX1.out, if_neg (by omega), if_neg h2]⟩
        have e2 : ((acc.length : Int) == 64) = false := by rw [beq_eq_false_iff_ne]; omega
        clear HX1
        go_wp2_with fail
        obtain ⟨Y, hY⟩ : ∃ Y, oneL (L.drop a) = Y := ⟨_, rfl⟩
        have hcall := HONE.out wr a HG.out.1 h1
        rw [hY] at HX2 hcall
        refine hcall.mono ?_
        have HY := Aside0.mk hY
        clear hcall hY
        cases Y with
        | error cc =>
          rintro e w2 ⟨hb2, he⟩
          subst he
          have HG2 := Aside0.mk (HG.out.step hb2)
          clear hb2
          go_wp2_with fail
          exact leaves_wrong24 _ _ rfl rfl rfl HG2.out HX2.out
        | ok y =>
          obtain ⟨k, v, n⟩ := y
          rintro e w2 ⟨hb2, he⟩
          subst he
          have hno := oneL_ok HY.out
          rw [List.length_drop] at hno
          have HG2 := Aside0.mk ((HG.out.step hb2).step (below_alloc (Below.refl w2.heap.size w2) (.cells #[.string k, .string v] 23)))
          have HC2 := Aside0.mk (Kd.C_below (Kd.C_below HC1.out hb2) (below_alloc (Below.refl w2.heap.size w2) (.cells #[.string k, .string v] 23)))
          have HK := Aside0.mk (Blk.new w2 #[.string k, .string v] 23)
          have hsz2 : w.heap.size + 3 ≤ w2.heap.size := Nat.le_trans HG.out.2.2.2.2.1 hb2.size
          clear hb2 HG HC1 hbl0 hblf0 hba0 hbaf0 hbe0 hbef0 hl1 hl2 hl3
          go_upto_region 6 with (fail)
          have hal3 : w2.heap.size < (w2.alloc (.cells #[.string k, .string v] 23)).heap.size := by simp
          generalize w2.alloc (.cells #[.string k, .string v] 23) = W3 at *
          have hbl := HG2.out.2.1
          have hba := HG2.out.2.2.1
          have hbk := HK.out
          have hl1 := hbl.lt
          have hl2 := hba.lt
          have hbl0 : World.cell? W3 ⟨w.heap.size, 0, none⟩ = some (.slice A1 acc.length c1) := Blk.cell hbl 0
          have hblf0 : World.frozen? W3 ⟨w.heap.size, 0, none⟩ = false := Blk.free hbl 0
          have hba0 : World.cell? W3 ⟨(w.heap.size + 1), 0, none⟩ = some (.int .i64 a) := Blk.cell hba 0
          have hbaf0 : World.frozen? W3 ⟨(w.heap.size + 1), 0, none⟩ = false := Blk.free hba 0
          have hbk0 : World.cell? W3 ⟨w2.heap.size, 0, none⟩ = some (.string k) := Blk.cell hbk 0
          have hbk1 : World.cell? W3 ⟨w2.heap.size, 1, none⟩ = some (.string v) := Blk.cell hbk 1
          obtain ⟨bad, hbad⟩ : ∃ bad, outOf acc k = bad := ⟨_, rfl⟩
          have HX3 : Aside0 (X = if bad = true then (([] : List S23), (a : Int), (92 : Int)) else getG L (65 - acc.length) (a + n) (acc ++ [⟨k, v⟩])) := ⟨by rw [HX2.out, ← hbad]⟩
          have HBAD := Aside0.mk hbad
          clear hbl hba hbk hbad HX2
          go_cut [38] from 8 to 46 (fun b wx => b = .bool bad ∧ ∃ n, Aside0 (wx = W3.drewN n))
          case first =>
            by_cases h0 : acc.length = 0
            · have HQ : Aside0 (bad = false) := ⟨by rw [← HBAD.out]; simp [outOf, h0]⟩
              have e3 : decide (0 < acc.length) = false := decide_eq_false (by omega)
              have e4 : decide ((0 : Int) < (acc.length : Int)) = false := decide_eq_false (by omega)
              clear HX3 HBAD HC2 HY HONE
              go_quiet (fail)
              all_goals
                go_wp2_with fail
                go_meet
                exact ⟨by rw [HQ.out], _, ⟨rfl⟩⟩
            · obtain ⟨j, hj⟩ : ∃ j, acc.length = j + 1 := ⟨acc.length - 1, by omega⟩
              obtain ⟨ad, e, hy0, -⟩ := at_T23 HC2.out (j : Int) (by omega) (by omega)
              subst e
              rw [Int.toNat_natCast, show rd_T23 acc (j : Int) = rdP acc j by unfold rd_T23 rdP; rw [Int.toNat_natCast]] at hy0
              obtain ⟨q, hq⟩ : ∃ q, Op.bytesLess (rdP acc j).f0.toList k.toList = q := ⟨_, rfl⟩
              have HQQ := Aside0.mk hq
              have HQ : Aside0 (bad = !q) := ⟨by rw [← HBAD.out, ← hq, outOf, hj]; simp⟩
              have e3 : decide (0 < acc.length) = true := decide_eq_true (by omega)
              have hw1 : IntKind.i64.wrap ((acc.length : Int) - 1) = (j : Int) := by rw [IntWalk.i64_in _ (by omega)]; omega
              have hjl : j < acc.length := by omega
              clear HX3 HBAD HC2 HY HONE hj hq h0
              go_quiet (fail)
              all_goals
                go_wp2_with fail
                go_meet
                exact ⟨by rw [HQ.out, ← HQQ.out, less_turn], _, ⟨rfl⟩⟩
          case rest =>
            obtain ⟨rfl, n3, HWC⟩ := hcut
            have hwc := HWC.out
            subst hwc
            cases bad with
            | true =>
              have HX4 : Aside0 (X = (([] : List S23), (a : Int), (92 : Int))) := ⟨by rw [HX3.out, if_pos rfl]⟩
              have HG3 := Aside0.mk (HG2.out.step (pw_below_drewN (Below.refl _ W3) n3))
              go_wp2_with fail
              exact leaves_wrong24 _ _ rfl rfl rfl HG3.out HX4.out
            | false =>
              have HX4 : Aside0 (X = getG L (65 - acc.length) (a + n) (acc ++ [⟨k, v⟩])) := ⟨by rw [HX3.out, if_neg (by simp)]⟩
              have HG3 := Aside0.mk (HG2.out.step (pw_below_drewN (Below.refl _ W3) n3))
              clear HX3 HBAD HG2 HC2
              have HROW := Aside0.mk (row1 (Blk.new (W3.drewN n3) #[.string k, .string v] 23))
              have HG5 := Aside0.mk (HG3.out.step (below_alloc (Below.refl _ (W3.drewN n3)) (.cells #[.string k, .string v] 23)))
              go_wp2_with (at_builtin; refine Kd.R_append_rows k23 (w0 := (W3.drewN n3).alloc (.cells #[.string k, .string v] 23)) (w.heap.size + 3) rfl (.tmp 42) (.tmp 44) 33 23 (.agg #[(.string ⟨#[]⟩), (.string ⟨#[]⟩)]) 32 rfl Tryd.underlying33 info23 rfl (by decide) (by omega) (.slice A1 acc.length c1) acc [⟨k, v⟩] _ _ _ (fun k => w.heap.size + 3 ≤ k) (fun _ => False) rfl rfl HG5.out.2.2.2.2.2 HROW.out (fun _ _ h => h) (fun _ h => h.elim) (fun _ hk => Nat.le_trans HG5.out.2.2.2.2.1 hk) (Below.refl _ _) HG5.out.2.2.2.2.1 (by omega) ?_; intro v1 w1 ho hb hg hat; obtain ⟨A4, c4, rfl, hc4, -⟩ := Kd.R_reads ho; have HG6 := Aside0.mk ((HG5.out.setL hb ho).setA (b := (a : Int) + (n : Int))); rw [show (acc ++ [(⟨k, v⟩ : S23)]).length = acc.length + 1 by simp] at HG6; have b2 := (hb.block w.heap.size (by omega)).trans HG5.out.2.1; have b3 := (hb.block (w.heap.size + 1) (by omega)).trans HG5.out.2.2.1; have z0 := Blk.cell b2 0; have zf0 := Blk.free b2 0; have z1 := Blk.cell b3 0; have zf1 := Blk.free b3 0; clear b2 b3 ho hb hg hat hc4)
              go_roundw
              case rel => exact ⟨_, a + n, acc ++ [⟨k, v⟩], by omega, by rw [List.length_append]; simp; omega, ⟨by rw [Int.natCast_add]; exact HG6.out⟩, ⟨by rw [HX4.out, List.length_append]; congr 1; simp⟩⟩
              case measure => rw [measG_eq (a := a + n) (by rw [Int.natCast_add]; exact HG6.out), HMS.out]; omega
end Go.Proofs.YtbidbjgklonbpaaDoor.Mine
