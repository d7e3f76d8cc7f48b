/- pax: ref's one, walked. -/
import Derived.Test.YtbidbjgklonbpaaDoorPaxN
set_option linter.unusedSimpArgs false
set_option linter.unusedVariables false
namespace Go.Proofs.YtbidbjgklonbpaaDoor.Mine
open Go.RowKit Go.Maps Go.Proofs.YtbidbjgklonbpaaDoorW.PrintWords Go.Proofs.YtbidbjgklonbpaaDoorW.PrintLast Go.Proofs.YtbidbjgklonbpaaDoorW.PrintMore Go.Proofs.YtbidbjgklonbpaaDoor.Turn Go.Proofs.YtbidbjgklonbpaaDoor.PPaxGets

set_option maxHeartbeats 8000000 in
set_option maxRecDepth 100000 in
theorem oneR_any (A : Option Addr) (c : Nat) (l : List Int) (w : World) (hb : ∀ x ∈ l, 0 ≤ x ∧ x < 256) (hl : l.length ≤ 1152921504606846976) (hc : l.length ≤ c) (hr : Kd.C (Kd.int .u8) w A l.length l) :
    Calls Tryd.prog 41 #[.slice A l.length c] w (EndsOneR w (oneL l)) := by
  have HO0 : Aside0 (OneR w (w.alloc (.cells #[.string ⟨#[]⟩, .string ⟨#[]⟩] 23)) A l) := ⟨below_alloc (Below.refl _ _) _, Blk.new w _ _, Kd.C_below hr (below_alloc (Below.refl _ _) _)⟩
  have HL := Aside0.mk (long_any A c l hl hc _ HO0.out.2.2)
  have HBY := Aside0.mk hb
  obtain ⟨X, hX⟩ : ∃ X, oneL l = X := ⟨_, rfl⟩
  rw [hX]
  have HX := Aside0.mk hX
  clear hX hb hr
  go_enter Tryd.func41, Tryd.ntmps41
  go_wp2_with fail
  refine (HL.out).mono ?_
  rintro e w1 ⟨rfl, hb1⟩
  have HO1 := Aside0.mk (HO0.out.step hb1)
  clear hb1 HL HO0
  have hbl := HO1.out.2.1
  have hlt := hbl.lt
  have hbl0 : World.cell? w1 ⟨w.heap.size, 0, none⟩ = some (.string ⟨#[]⟩) := Blk.cell hbl 0
  have hblf0 : World.frozen? w1 ⟨w.heap.size, 0, none⟩ = false := Blk.free hbl 0
  have hbl1 : World.cell? w1 ⟨w.heap.size, 1, none⟩ = some (.string ⟨#[]⟩) := Blk.cell hbl 1
  have hblf1 : World.frozen? w1 ⟨w.heap.size, 1, none⟩ = false := Blk.free hbl 1
  clear hbl
  by_cases hbad : badH l
  · have HY : Aside0 (X = .error 90) := ⟨by rw [← HX.out]; unfold oneL; exact if_pos hbad⟩
    rw [show longS l = (0, 0) from if_pos hbad]
    clear HX
    go_wp2_with fail
    obtain ⟨hB, hB2⟩ := HO1.out.set ⟨#[]⟩ ⟨#[]⟩
    refine bodyPost_end (run_results41 _ w.heap.size _ _ _ _ _ rfl rfl rfl hB2) rfl ?_
    rw [HY.out]
    exact ⟨hB, rfl⟩
  obtain ⟨p1, p2, hd1, hd4, hdl, hsp, hdd, hn1, hn2⟩ := badH_neg hbad
  have HX1 : Aside0 (X = oneN l (lead l 5) (numN l (lead l 5))) := ⟨HX.out.symm.trans p1⟩
  rw [p2]
  have HSP := Aside0.mk hsp
  have HDD := Aside0.mk hdd
  clear HX p1 p2 hsp hdd hbad
  generalize lead l 5 = d at *
  generalize numN l d = n at *
  obtain ⟨m, rfl⟩ : ∃ m, n = m + 1 := ⟨n - 1, by omega⟩
  have e1 : ((d : Int) == 0) = false := by rw [beq_eq_false_iff_ne]; omega
  by_cases h1 : l.length < m + 1
  · have HY : Aside0 (X = .error 90) := ⟨by rw [HX1.out, oneN, if_pos (.inl h1)]⟩
    go_wp2_with fail
    obtain ⟨hB, hB2⟩ := HO1.out.set ⟨#[]⟩ ⟨#[]⟩
    refine bodyPost_end (run_results41 _ w.heap.size _ _ _ _ _ rfl rfl rfl hB2) rfl ?_
    rw [HY.out]
    exact ⟨hB, rfl⟩
  have hw1 : IntKind.i64.wrap ((m : Int) + 1 - 1) = (m : Int) := by rw [IntWalk.i64_in _ (by omega)]; omega
  have hw2 : IntKind.i64.wrap (((m + 1 : Nat) : Int) - 1) = (m : Int) := by rw [IntWalk.i64_in _ (by omega)]; omega
  have hml : m < l.length := by omega
  have hml2 : ¬ (l.length : Int) < (m : Int) + 1 := by omega
  obtain ⟨ad, e, hx⟩ := Kd.at_int HO1.out.2.2 (m : Int) (by omega) (by omega)
  cases e
  rw [rd_nat, Int.toNat_natCast] at hx
  obtain ⟨x, hX⟩ : ∃ x, l.getD m 0 = x := ⟨_, rfl⟩
  rw [hX] at hx
  have HXX := Aside0.mk hX
  clear hX
  by_cases h2 : x = 10
  case neg =>
    have HY : Aside0 (X = .error 90) := ⟨by rw [HX1.out, oneN, if_pos (.inr (by rw [Nat.add_sub_cancel, HXX.out]; exact h2))]⟩
    have e2 : (x != 10) = true := bne_iff_ne.2 h2
    go_wp2_with fail
    obtain ⟨hB, hB2⟩ := HO1.out.set ⟨#[]⟩ ⟨#[]⟩
    refine bodyPost_end (run_results41 _ w.heap.size _ _ _ _ _ rfl rfl rfl hB2) rfl ?_
    rw [HY.out]
    exact ⟨hB, rfl⟩
  have HX2 : Aside0 (X = oneB (m + 1) ((l.take m).drop (d + 1))) := ⟨by
    rw [HX1.out, oneN, if_neg, Nat.add_sub_cancel]
    rintro (h | h)
    · exact h1 h
    · exact h (by rw [Nat.add_sub_cancel, HXX.out]; exact h2)⟩
  have e2 : (x != 10) = false := bne_eq_false_iff_eq.2 h2
  have hdm : d + 1 ≤ m := by
    refine Classical.byContradiction fun h => ?_
    by_cases hmd : m = d
    · subst hmd
      have := HSP.out
      rw [HXX.out] at this
      omega
    · have := HDD.out m (by omega)
      rw [HXX.out] at this
      simp [isD, h2] at this
  clear HX1 HSP HXX h2 HDD
  go_wp2_with fail
  clear hx e1 e2
  have hbl : ((l.take m).drop (d + 1)).length = m - (d + 1) := by rw [List.length_drop, List.length_take]; omega
  have HBR : Aside0 (∀ x ∈ (l.take m).drop (d + 1), 0 ≤ x ∧ x < 256) := ⟨fun x hx => HBY.out x (List.mem_of_mem_take (List.mem_of_mem_drop hx))⟩
  have HBG : Aside0 (∀ j, j < m - (d + 1) → ((l.take m).drop (d + 1)).getD j 0 = l.getD (d + 1 + j) 0) := ⟨fun j hj => by
    rw [List.getD_eq_getElem?_getD, List.getElem?_drop, List.getElem?_take, if_pos (by omega), ← List.getD_eq_getElem?_getD]⟩
  go_loopw [7] (fun v wr => ∃ s : Nat, d + 1 ≤ s ∧ s ≤ m ∧ v = .int .i64 s ∧ Aside0 (∀ j, d + 1 ≤ j → j < s → l.getD j 0 ≠ 61) ∧ wr = w1) (fun v _ => m - (intOf v).toNat)
  case atStart => exact ⟨d + 1, by omega, by omega, by go_num, ⟨fun j h1 h2 => by omega⟩, rfl⟩
  case round =>
    obtain ⟨s, hs1, hs2, rfl, HNS, rfl⟩ := hrel
    by_cases hsm : s < m
    case neg =>
      have HY : Aside0 (X = .error 90) := ⟨by
        rw [HX2.out, oneB, if_pos]
        rw [idx_none _ HBR.out (fun j hj => by rw [hbl] at hj; rw [HBG.out j hj]; exact HNS.out _ (by omega) (by omega))]
        decide⟩
      go_wp2_with fail
      obtain ⟨hB, hB2⟩ := HO1.out.set ⟨#[]⟩ ⟨#[]⟩
      refine bodyPost_end (run_results41 _ w.heap.size _ _ _ _ _ rfl rfl rfl hB2) rfl ?_
      rw [HY.out]
      exact ⟨hB, rfl⟩
    obtain ⟨ad1, e, hx⟩ := Kd.at_int HO1.out.2.2 (s : Int) (by omega) (by omega)
    cases e
    rw [rd_nat, Int.toNat_natCast] at hx
    obtain ⟨x, hX⟩ : ∃ x, l.getD s 0 = x := ⟨_, rfl⟩
    rw [hX] at hx
    have HXX := Aside0.mk hX
    clear hX
    by_cases hx61 : x = 61
    case neg =>
      have e3 : (x != 61) = true := bne_iff_ne.2 hx61
      have HNS2 : Aside0 (∀ j, d + 1 ≤ j → j < s + 1 → l.getD j 0 ≠ 61) := ⟨fun j h1 h2 => by
        by_cases h : j = s
        · rw [h, HXX.out]; exact hx61
        · exact HNS.out j h1 (by omega)⟩
      clear HNS
      go_wp2_with fail
      go_roundw
      case rel => exact ⟨s + 1, by omega, by omega, by go_num, HNS2, trivial⟩
      case measure => simp [intOf]; omega
    have e3 : (x != 61) = false := bne_eq_false_iff_eq.2 hx61
    have hge : ¬ ((s : Int) ≥ (m : Int)) := by omega
    go_upto_region 9 with (fail)
    have HX3 : Aside0 (X = oneP (m + 1) (strOfNums ((l.take s).drop (d + 1))) (strOfNums ((l.take m).drop (s + 1)))) := ⟨by
      have hi : Lib.index (Lib.bytesOf ((l.take m).drop (d + 1))) [61] = ((s - (d + 1) : Nat) : Int) := idx_at _ _ HBR.out (by rw [hbl]; omega) (by rw [HBG.out _ (by omega), show d + 1 + (s - (d + 1)) = s by omega, HXX.out]; exact hx61) (fun j hj => by rw [HBG.out _ (by omega)]; exact HNS.out _ (by omega) (by omega))
      rw [HX2.out, oneB, if_neg (by rw [hi]; omega), hi, Int.toNat_natCast]
      rw [List.take_drop, List.take_take, List.drop_drop, show min (d + 1 + (s - (d + 1))) m = s by omega, show d + 1 + (s - (d + 1) + 1) = s + 1 by omega]⟩
    have g1 : ∀ W, Below wr.heap.size wr W → ∀ cc : Nat, (convert 24 9 (.slice (some ⟨ad.block, ad.off + (d + 1), none⟩) (s - (d + 1)) cc)).run Tryd.prog W = .ok (.string (strOfNums ((l.take s).drop (d + 1)))) W := fun W hW cc => by
      have h1 := Kd.C_take (Kd.C_below HO1.out.2.2 hW) (m := s) (by omega)
      have h2 := Kd.C_drop h1 (m := d + 1) (by rw [List.length_take]; omega) (c := c) (by rw [List.length_take]; omega)
      rw [if_neg (by omega), show (Kd.int IntKind.u8).sz = 1 from rfl, Nat.mul_one, List.length_drop, List.length_take, Nat.min_eq_left (by omega), Option.map_some, show ad.add (d + 1) = ⟨ad.block, ad.off + (d + 1), none⟩ by simp [Addr.add]] at h2
      exact Kd.C_string Tryd.underlying24 Tryd.underlying5 Tryd.underlying9 h2
    have g2 : ∀ W, Below wr.heap.size wr W → ∀ cc : Nat, (convert 24 9 (.slice (some ⟨ad.block, ad.off + (s + 1), none⟩) (m - (s + 1)) cc)).run Tryd.prog W = .ok (.string (strOfNums ((l.take m).drop (s + 1)))) W := fun W hW cc => by
      have h1 := Kd.C_take (Kd.C_below HO1.out.2.2 hW) (m := m) (by omega)
      have h2 := Kd.C_drop h1 (m := s + 1) (by rw [List.length_take]; omega) (c := c) (by rw [List.length_take]; omega)
      rw [if_neg (by omega), show (Kd.int IntKind.u8).sz = 1 from rfl, Nat.mul_one, List.length_drop, List.length_take, Nat.min_eq_left (by omega), Option.map_some, show ad.add (s + 1) = ⟨ad.block, ad.off + (s + 1), none⟩ by simp [Addr.add]] at h2
      exact Kd.C_string Tryd.underlying24 Tryd.underlying5 Tryd.underlying9 h2
    have hcv1 := g1 wr (Below.refl _ _)
    have hcv2 := g2 wr (Below.refl _ _)
    have hcv1b := g1 wr.drew (below_drew (Below.refl _ _))
    have hcv2b := g2 wr.drew (below_drew (Below.refl _ _))
    have hcv1c := g1 (wr.alloc (.cells #[.string ⟨#[]⟩, .string ⟨#[]⟩] 23)).drew (below_drew (below_alloc (Below.refl _ _) _))
    have hcv2c := g2 (wr.alloc (.cells #[.string ⟨#[]⟩, .string ⟨#[]⟩] 23)).drew (below_drew (below_alloc (Below.refl _ _) _))
    clear g1 g2
    have hks : (strOfNums ((l.take s).drop (d + 1))).size ≤ 10000 := by rw [strOfNums_size, List.length_drop, List.length_take]; omega
    have hvs : (strOfNums ((l.take m).drop (s + 1))).size ≤ 10000 := by rw [strOfNums_size, List.length_drop, List.length_take]; omega
    clear HX2 HBR HBG hbl HNS HXX hx61 hx e3 hge
    generalize strOfNums ((l.take s).drop (d + 1)) = k at *
    generalize strOfNums ((l.take m).drop (s + 1)) = v at *
    have hw3 : IntKind.i64.wrap ((d : Int) + 1) = ((d + 1 : Nat) : Int) := by rw [IntWalk.i64_in _ (by omega)]; omega
    have hw4 : IntKind.i64.wrap ((s : Int) + 1) = ((s + 1 : Nat) : Int) := by rw [IntWalk.i64_in _ (by omega)]; omega
    go_wp2_with fail
    have HO2 : Aside0 (OneR w (wr.alloc (.cells #[.string k, .string v] 23)).drew (some ad) l) := ⟨HO1.out.step (below_drew (below_alloc (Below.refl _ _) _))⟩
    have HXB : Aside0 (Blk (wr.alloc (.cells #[.string k, .string v] 23)).drew wr.heap.size #[.string k, .string v] 23) := ⟨Blk_drew (Blk.new wr #[.string k, .string v] 23)⟩
    go_region
    all_goals
      clear hcv1 hcv2 hcv1b hcv2b hcv1c hcv2c
      have hxb := HXB.out
      have hlb := hxb.lt
      generalize (wr.alloc (.cells #[.string k, .string v] 23)).drew = W2 at *
      have hxb0 : World.cell? W2 ⟨wr.heap.size, 0, none⟩ = some (.string k) := Blk.cell hxb 0
      have hxb1 : World.cell? W2 ⟨wr.heap.size, 1, none⟩ = some (.string v) := Blk.cell hxb 1
      clear hxb
      go_wp2_with fail
      refine (fitsR_any k v (by omega) _).mono ?_
      rintro e w3 ⟨rfl, hb3⟩
      have HO3 := Aside0.mk (HO2.out.step hb3)
      have HXB3 := Aside0.mk ((hb3.block _ hlb).trans HXB.out)
      have hx3 : Blk w3 wr.heap.size #[.string k, .string v] 23 := HXB3.out
      have hlb3 := hx3.lt
      have hp3 := HO3.out.2.1
      have hlp3 := hp3.lt
      have hx30 : World.cell? w3 ⟨wr.heap.size, 0, none⟩ = some (.string k) := Blk.cell hx3 0
      have hx31 : World.cell? w3 ⟨wr.heap.size, 1, none⟩ = some (.string v) := Blk.cell hx3 1
      have hp30 : World.cell? w3 ⟨w.heap.size, 0, none⟩ = some (.string ⟨#[]⟩) := Blk.cell hp3 0
      have hp3f0 : World.frozen? w3 ⟨w.heap.size, 0, none⟩ = false := Blk.free hp3 0
      have hp31 : World.cell? w3 ⟨w.heap.size, 1, none⟩ = some (.string ⟨#[]⟩) := Blk.cell hp3 1
      have hp3f1 : World.frozen? w3 ⟨w.heap.size, 1, none⟩ = false := Blk.free hp3 1
      clear hb3 hx3 hp3
      by_cases h0 : fitN k v = 0
      case neg =>
        have HY : Aside0 (X = .error (fitN k v)) := ⟨by rw [HX3.out, oneP, if_pos h0]⟩
        have e5 : (fitN k v != 0) = true := bne_iff_ne.2 h0
        go_wp2_with fail
        obtain ⟨hB, hB2⟩ := HO3.out.set ⟨#[]⟩ ⟨#[]⟩
        refine bodyPost_end (run_results41 _ w.heap.size _ _ _ _ _ rfl rfl rfl hB2) rfl ?_
        rw [HY.out]
        exact ⟨hB, rfl⟩
      have HY4 : Aside0 (X = if 3 + k.size + v.size + dOf (3 + k.size + v.size) ≠ m + 1 then .error 90 else .ok (k, v, m + 1)) := ⟨by rw [HX3.out, oneP, if_neg (by simp [h0])]⟩
      rw [h0]
      have hdd := dOf_is (n := 3 + k.size + v.size) (by omega)
      have HDS := Aside0.mk hdd
      have hd19 := hdd.2.1
      obtain ⟨D, hD⟩ : ∃ D, dOf (3 + k.size + v.size) = D := ⟨_, rfl⟩
      rw [hD] at HDS hd19 HY4
      clear hD hdd HX3 h0
      go_wp2_with fail
      refine (sizeR_any k v (by omega) (by omega) HDS.out w3).mono ?_
      rintro e w4 ⟨rfl, hb4⟩
      have HO4 := Aside0.mk (HO3.out.step hb4)
      have hx4 : Blk w4 wr.heap.size #[.string k, .string v] 23 := (hb4.block _ hlb3).trans HXB3.out
      have hlb4 := hx4.lt
      have hp4 := HO4.out.2.1
      have hlp4 := hp4.lt
      have hx40 : World.cell? w4 ⟨wr.heap.size, 0, none⟩ = some (.string k) := Blk.cell hx4 0
      have hx41 : World.cell? w4 ⟨wr.heap.size, 1, none⟩ = some (.string v) := Blk.cell hx4 1
      have hp40 : World.cell? w4 ⟨w.heap.size, 0, none⟩ = some (.string ⟨#[]⟩) := Blk.cell hp4 0
      have hp4f0 : World.frozen? w4 ⟨w.heap.size, 0, none⟩ = false := Blk.free hp4 0
      have hp41 : World.cell? w4 ⟨w.heap.size, 1, none⟩ = some (.string ⟨#[]⟩) := Blk.cell hp4 1
      have hp4f1 : World.frozen? w4 ⟨w.heap.size, 1, none⟩ = false := Blk.free hp4 1
      clear hb4 hx4 hp4
      by_cases hd : 3 + k.size + v.size + D = m + 1
      case neg =>
        have HY5 : Aside0 (X = .error 90) := ⟨by rw [HY4.out, if_pos hd]⟩
        have e5 : (((3 : Int) + (k.size : Int) + (v.size : Int) + (D : Int)) != ((m : Int) + 1)) = true := bne_iff_ne.2 (by omega)
        go_wp2_with fail
        obtain ⟨hB, hB2⟩ := HO4.out.set ⟨#[]⟩ ⟨#[]⟩
        refine bodyPost_end (run_results41 _ w.heap.size _ _ _ _ _ rfl rfl rfl hB2) rfl ?_
        rw [HY5.out]
        exact ⟨hB, rfl⟩
      have HY5 : Aside0 (X = .ok (k, v, m + 1)) := ⟨by rw [HY4.out, if_neg (by simp [hd])]⟩
      have e5 : (((3 : Int) + (k.size : Int) + (v.size : Int) + (D : Int)) != ((m : Int) + 1)) = false := bne_eq_false_iff_eq.2 (by omega)
      go_wp2_with fail
      obtain ⟨hB, hB2⟩ := HO4.out.set k v
      refine bodyPost_end (run_results41 _ w.heap.size _ _ _ _ _ rfl rfl rfl hB2) rfl ?_
      rw [HY5.out]
      exact ⟨hB, by simp⟩
end Go.Proofs.YtbidbjgklonbpaaDoor.Mine
