/- space: SpaceApart. -/
import Derived.Test.YtdcccimdgbkniaaSpO
import Derived.Test.YtdcccimdgbkniaaSpK
import Derived.Deep.RegionWith
import Derived.Deep.DeepCutAuto
import Derived.Deep.CutBlock
set_option linter.unusedSimpArgs false
set_option linter.unusedVariables false
namespace Go.Proofs.Ytdcccimdgbkniaa.Mine
open Go.RowKit Go.Maps Go.Proofs.YtdcccimdgbkniaaW.PrintWords Go.Proofs.YtdcccimdgbkniaaW.PrintLast Go.Proofs.YtdcccimdgbkniaaW.PrintMore Go.Proofs.Ytdcccimdgbkniaa.Turn

set_option maxHeartbeats 1000000 in
theorem over_no (xa xc ya yc : Int) (h1 : 0 ≤ xa) (h2 : 0 ≤ xc) (h3 : xa + xc ≤ 65536) (h4 : 0 ≤ ya) (h5 : 0 ≤ yc) (h6 : ya + yc ≤ 65536) (h : ¬ (xa < ya + yc ∧ ya < xa + xc)) (w : World) :
    Calls Try.prog 21 #[.agg #[.int .i64 xa, .int .i64 xc], .agg #[.int .i64 ya, .int .i64 yc]] w fun e w' => e = .returned (.bool false) ∧ Below w.heap.size w w' := by
  by_cases c1 : xa < ya + yc
  · have c2 : ¬ ya < xa + xc := fun c2 => h ⟨c1, c2⟩
    clear h
    go_enter Try.func21, Try.ntmps21
    go_wp2
    go_ret
    exact ⟨by simp [*], below_alloc (below_alloc (Below.refl _ _) _) _⟩
  · clear h
    go_enter Try.func21, Try.ntmps21
    go_wp2
    go_ret
    exact ⟨by simp [*], below_alloc (below_alloc (Below.refl _ _) _) _⟩

/-- What a round of the walk keeps: the space, what is held, both together. -/
structure Rnd (w0 w : World) (b : Nat) (m : Int) (k : Nat) (v : Value) (F : Nat → Prop) (L H : List R2) : Prop where
  st : St w0 w b F m L
  own : OwnA w w0.heap.size v H
  far : ∀ q, v.ownBlock = some q → ¬ F q
  part : Part m L H
  len : H.length ≤ k
theorem Rnd.below {w0 w w' : World} {b k : Nat} {m : Int} {v : Value} {F : Nat → Prop} {L H : List R2} (h : Rnd w0 w b m k v F L H) (hb : Below w.heap.size w w') : Rnd w0 w' b m k v F L H := ⟨h.st.below hb, h.own.below hb, h.far, h.part, h.len⟩
theorem Rnd.more {w0 w : World} {b k : Nat} {m : Int} {v : Value} {F : Nat → Prop} {L H : List R2} (h : Rnd w0 w b m k v F L H) : Rnd w0 w b m (k + 1) v F L H := ⟨h.st, h.own, h.far, h.part, Nat.le_succ_of_le h.len⟩
/-- An act upon the space: what is held lies still. -/
theorem Rnd.act {w0 w w' : World} {b k : Nat} {m : Int} {v : Value} {F F' : Nat → Prop} {L L' H : List R2} (h : Rnd w0 w b m k v F L H) (hs : Sp w' w0.heap.size F' b m L') (ht : Turned F w w') (hf : ∀ k, F' k → F k ∨ w.heap.size ≤ k) (hg : Good m 0 L') :
    St w0 w' b F' m L' ∧ OwnA w' w0.heap.size v H ∧ ∀ q, v.ownBlock = some q → ¬ F' q :=
  ⟨h.st.next hs ht hg, h.own.turn ht h.far, fun q hq hF => (hf q hF).elim (h.far q hq) (fun h1 => by have := (h.own.lt q hq).2; omega)⟩

theorem rnd_still {w0 w2 : World} {b k : Nat} {m : Int} {v : Value} {F2 : Nat → Prop} {L2 H : List R2} (h : St w0 w2 b F2 m L2 ∧ OwnA w2 w0.heap.size v H ∧ ∀ q, v.ownBlock = some q → ¬ F2 q) (hp : Part m L2 H) (hk : H.length ≤ k) : Rnd w0 w2 b m (k + 1) v F2 L2 H := ⟨h.1, h.2.1, h.2.2, hp, by omega⟩
theorem encR_set {L : List R2} {j : Nat} (hj : j < L.length) (y : R2) : ((encR L).toArray.setIfInBounds (j * 2) (.int .i64 y.1)).setIfInBounds (j * 2 + 1) (.int .i64 y.2) = (encR (L.set j y)).toArray := by
  have h1 : L = L.take j ++ L[j] :: L.drop (j + 1) := split_at hj
  have h2 : L.set j y = L.take j ++ y :: L.drop (j + 1) := List.set_eq_take_append_cons_drop.trans (by rw [if_pos hj])
  have h3 : encR L = encR (L.take j) ++ (.int .i64 L[j].1 :: .int .i64 L[j].2 :: encR (L.drop (j + 1))) := by
    conv => lhs; rw [h1]
    rw [encR_append, encR_cons]
  have hl : (encR (L.take j)).length = j * 2 := by rw [encR_length, List.length_take]; omega
  apply Array.ext'
  rw [Array.toList_setIfInBounds, Array.toList_setIfInBounds, h2, encR_append, encR_cons]
  simp only [h3]
  rw [List.set_append_right _ _ (by omega), hl, Nat.sub_self, List.set_cons_zero, List.set_append_right _ _ (by omega), hl, show j * 2 + 1 - j * 2 = 1 by omega]
  rfl
theorem WholeA.put {w : World} {g : Nat} {L : List R2} (h : WholeA w g L) {j : Nat} (hj : j < L.length) (y : R2) : WholeA ((w.setCell ⟨g, j * 2, none⟩ (.int .i64 y.1)).setCell ⟨g, j * 2 + 1, none⟩ (.int .i64 y.2)) g (L.set j y) := by
  unfold WholeA
  rw [← encR_set hj]
  exact Blk.set (Blk.set h _ _) _ _
theorem rnd_drop {w0 w2 : World} {b k j c g : Nat} {m : Int} {F2 : Nat → Prop} {L2 H Lh : List R2} (h1 : St w0 w2 b F2 m L2) (hw : WholeA w2 g Lh) (hH : H <+: Lh) (hg : w0.heap.size ≤ g) (hc : c = Lh.length) (hcm : c ≤ 9223372036854775807) (hF : ¬ F2 g) (hj : j < H.length) (hp : Part m L2 (dropH H j)) (hk : H.length ≤ k) {n : Nat} (hn : n = H.length - 1) :
    Rnd w0 ((w2.setCell ⟨g, j * 2, none⟩ (.int .i64 (H.getD (H.length - 1) (0, 0)).1)).setCell ⟨g, j * 2 + 1, none⟩ (.int .i64 (H.getD (H.length - 1) (0, 0)).2)) b m (k + 1) (.slice (some ⟨g, 0, none⟩) n c) F2 L2 (dropH H j) := by
  subst hc hn
  have hjl : j < Lh.length := Nat.lt_of_lt_of_le hj hH.length_le
  have ht : Turned (fun q => q = g) w2 ((w2.setCell ⟨g, j * 2, none⟩ (.int .i64 (H.getD (H.length - 1) (0, 0)).1)).setCell ⟨g, j * 2 + 1, none⟩ (.int .i64 (H.getD (H.length - 1) (0, 0)).2)) := ((Turned.refl (fun q => q = g) w2).setCell (p := ⟨g, j * 2, none⟩) (.inl rfl) _).setCell (p := ⟨g, j * 2 + 1, none⟩) (.inl rfl) _
  have hpre : dropH H j <+: Lh.set j (H.getD (H.length - 1) (0, 0)) := by
    obtain ⟨t, rfl⟩ := hH
    rw [dropH, List.set_append_left _ _ hj]
    exact (List.take_prefix _ _).trans (List.prefix_append _ _)
  exact ⟨⟨h1.sp.turn ht (fun q hq hF2 => hF (hq ▸ hF2)), h1.good, below_turned h1.bel ht h1.bel.size (fun q hq => hq ▸ hg)⟩,
    OwnA.mk hg (hw.put hjl _) hpre (by simpa using hcm) dropH_length.symm (by simp), fun q hq hF2 => by cases hq; exact hF hF2, hp, by rw [dropH_length]; omega⟩
theorem rnd_app {w0 w2 w3 : World} {b k : Nat} {m : Int} {v v3 : Value} {F2 : Nat → Prop} {L2 H : List R2} {r : R2} {o : Obj} (h : St w0 w2 b F2 m L2 ∧ OwnA w2 w0.heap.size v H ∧ ∀ q, v.ownBlock = some q → ¬ F2 q) (hp : Part m L2 (H ++ [r])) (hk : H.length ≤ k)
    (ho : OwnA w3 w0.heap.size v3 (H ++ [r])) (ht : Turned (fun q => v.ownBlock = some q) (w2.alloc o) w3) (hat : v3.ownBlock = v.ownBlock ∨ v3.ownBlock = some (w2.alloc o).heap.size) : Rnd w0 w3 b m (k + 1) v3 F2 L2 (H ++ [r]) := by
  obtain ⟨h1, h2, h3⟩ := h
  have hs1 := h1.below (below_alloc (Below.refl _ w2) o)
  refine ⟨⟨hs1.sp.turn ht h3, hs1.good, below_turned hs1.bel ht hs1.bel.size (fun q hq => (h2.lt q hq).1)⟩, ho, fun q hq hF => ?_, hp, by simp; omega⟩
  rcases hat with e | e
  · exact h3 q (by rw [← e]; exact hq) hF
  · rw [e] at hq
    cases hq
    have h8 := (h1.sp.mine _ hF).2
    have h9 : (w2.alloc o).heap.size = w2.heap.size + 1 := by simp
    omega

set_option maxHeartbeats 8000000 in
set_option maxRecDepth 100000 in
theorem spaceApart_any (n : Int) (A : Option Addr) (cc : Nat) (l : List Act3) (w : World) (hc : l.length ≤ cc) (hr : Kd.C kAct w A l.length l) (hl : l.length ≤ 4611686018427387904) (hb : ∀ x ∈ l, (Lit.int .i64 x.2.1).wf = true ∧ (Lit.int .i64 x.2.2).wf = true) (hn : (Lit.int .i64 n).wf = true) :
    Calls Try.prog 5 #[.int .i64 n, .slice A l.length cc] w fun e w' => e = .returned (.bool true) ∧ Below w.heap.size w w' := by
  have HR := Aside0.mk hr
  have HWF := Aside0.mk hb
  clear hr hb
  by_cases h60 : 100 < l.length
  · go_enter Try.func5, Try.ntmps5
    go_wp2_with fail
    refine (wakes_any _).mono ?_
    rintro e w1 ⟨rfl, hb⟩
    have HB := Aside0.mk hb
    clear hb
    go_wp2_with fail
    go_ret
    exact ⟨rfl, HB.out⟩
  obtain ⟨m, hm⟩ : ∃ m, (wrap64 (n.tmod 1024 + 1024)).tmod 1024 = m := ⟨_, rfl⟩
  have hm2 := modm (m := 1024) (by omega) (by omega) n
  rw [hm] at hm2
  obtain ⟨hm0, hm1⟩ := hm2
  have HM := Aside0.mk hm
  clear hm
  go_enter Try.func5, Try.ntmps5
  go_wp2_with fail
  rw [HM.out]
  refine (new_ok m hm0 (by omega) _).mono ?_
  rintro e w1 ⟨b, F, rfl, hs, hb⟩
  have HS1 : Aside0 (Rnd w w1 b m 0 (.slice none 0 0) F (freeL m) []) := ⟨⟨hs, free_good m hm0, hb⟩, OwnA.nil _ _, fun q hq => (by cases hq), part_start m hm0, Nat.le_refl _⟩
  clear hs hb
  go_wp2_with fail
  go_loopw [7, 8] (fun v i wr => ∃ (k : Nat) (L H : List R2) (F' : Nat → Prop), k ≤ l.length ∧ i = .int .i64 k ∧ Aside0 (Rnd w wr b m k v F' L H)) (fun _ i _ => l.length - (intOf i).toNat)
  case atStart => exact ⟨0, _, _, _, Nat.zero_le _, rfl, HS1⟩
  case round =>
    obtain ⟨k, L, H, F1, hk, rfl, HS⟩ := hrel
    clear HS1 F
    obtain ⟨A2, c2, rfl, hc2, hc3, -⟩ := HS.out.own.reads
    by_cases hlt : k < l.length
    · obtain ⟨ad, rfl, hact⟩ := act_at HR.out rfl hlt
      have hwf := HWF.out _ (List.getElem_mem hlt)
      have HWX := Aside0.mk hwf
      generalize l[k] = x at *
      obtain ⟨d, ra, rc⟩ := x
      have HACT := Aside0.mk hact
      obtain ⟨zl, z0, z1, z2⟩ := hact.below HS.out.st.bel
      simp only at z0 z1 z2
      clear hact hwf
      have HS0 := Aside0.mk (HS.out.below (below_alloc (Below.refl _ wr) (.cells #[.int .i64 ra, .int .i64 rc] 32)))
      have HX := Aside0.mk (Blk.new wr #[.int .i64 ra, .int .i64 rc] 32)
      go_upto_block 2 with (fail)
      go_cut [7] (fun v wx => ∃ (L H : List R2) (F' : Nat → Prop), Aside0 (Rnd w wx b m (k + 1) v F' L H))
      case first =>
        have hd : d = 0 ∨ d = 1 ∨ d = 2 ∨ (d ≠ 0 ∧ d ≠ 1 ∧ d ≠ 2) := by omega
        rcases hd with rfl | rfl | rfl | ⟨e0, e1, e2⟩
        · have hx := HX.out
          have hxl := hx.lt
          have hx0 := (hx.cell 0).trans rfl
          have hx1 := (hx.cell 1).trans rfl
          clear hx
          obtain ⟨E, hE⟩ : ∃ E, takeE L rc = E := ⟨_, rfl⟩
          have HE := Aside0.mk hE
          clear hE
          by_cases h0 : E = 0
          · have HP : Aside0 (Part m (takeL L rc) (H ++ [(takeV L rc, rc)])) := ⟨part_take HS.out.part (HE.out.trans h0)⟩
            subst h0
            go_wp2_with fail
            refine (take_any HS0.out.st.sp (HS0.out.st.len (by omega)) (HS0.out.st.small (by omega)) rc).mono ?_
            rw [HE.out]
            generalize takeL L rc = L2 at *
            generalize takeV L rc = V at *
            rintro e w2 ⟨F2, rfl, hs, ht, hf⟩
            have HA := Aside0.mk (HS0.out.act hs ht hf HP.out.good)
            have hx2 : Blk w2 wr.heap.size #[.int .i64 ra, .int .i64 rc] 32 := ht.blk HX.out (fun hF => by have := (HS.out.st.sp.mine _ hF).2; omega)
            have hxl2 := hx2.lt
            have x21 := (hx2.cell 1).trans rfl
            clear hx2 hs ht hf hx0 hx1 hxl
            have HSR := Aside0.mk (SrcA.new w2 (V, rc))
            go_wp2_with ((with_reducible refine gate_builtin (b := .append) (xs := #[.tmp 63, .tmp 68]) rfl ?_); refine list_ownRA rfl (.tmp 63) (.tmp 68) rfl (base := w.heap.size) (v := .slice A2 H.length c2) (u := .slice (some ⟨w2.heap.size, 0, none⟩) 1 1) (l := H) (vs := [(V, rc)]) rfl rfl (HA.out.2.1.below (below_alloc (Below.refl _ _) _)) HSR.out (by have := HA.out.1.bel.size; simp; omega) (by have := HS.out.len; simp; omega) ?_; intro v3 w3 ho ht hat; have HN := Aside0.mk (rnd_app (k := k) HA.out HP.out HS.out.len ho ht hat); clear ho ht hat)
            go_meet
            exact ⟨_, _, _, HN⟩
          · have hE0 : (E == 0) = false := beq_eq_false_iff_ne.2 h0
            have hsame := take_none HS.out.part.good (c := rc) (by rw [HE.out]; exact h0)
            have HSM := Aside0.mk hsame
            clear hsame h0
            go_wp2_with fail
            refine (take_any HS0.out.st.sp (HS0.out.st.len (by omega)) (HS0.out.st.small (by omega)) rc).mono ?_
            rw [HE.out, HSM.out]
            generalize takeV L rc = V at *
            rintro e w2 ⟨F2, rfl, hs, ht, hf⟩
            have HA := Aside0.mk (HS0.out.act hs ht hf HS.out.part.good)
            clear hs ht hf hx0 hx1 hxl
            go_wp2_with fail
            go_meet
            exact ⟨_, _, _, ⟨rnd_still HA.out HS.out.part HS.out.len⟩⟩
        · have hx := HX.out
          have hxl := hx.lt
          have hx0 := (hx.cell 0).trans rfl
          have hx1 := (hx.cell 1).trans rfl
          clear hx
          obtain ⟨E, hE⟩ : ∃ E, holdE m L ra rc = E := ⟨_, rfl⟩
          have HE := Aside0.mk hE
          clear hE
          by_cases h0 : E = 0
          · have HP : Aside0 (Part m (holdL m L ra rc) (H ++ [(ra, rc)])) := ⟨part_hold HS.out.part (HE.out.trans h0)⟩
            subst h0
            go_wp2_with fail
            refine (hold_any HS0.out.st.sp hm0 (by omega) (HS0.out.st.len (by omega)) ra rc HWX.out.2).mono ?_
            rw [HE.out]
            generalize holdL m L ra rc = L2 at *
            rintro e w2 ⟨F2, rfl, hs, ht, hf⟩
            have HA := Aside0.mk (HS0.out.act hs ht hf HP.out.good)
            have hx2 : Blk w2 wr.heap.size #[.int .i64 ra, .int .i64 rc] 32 := ht.blk HX.out (fun hF => by have := (HS.out.st.sp.mine _ hF).2; omega)
            have hxl2 := hx2.lt
            have x20 := (hx2.cell 0).trans rfl
            have x21 := (hx2.cell 1).trans rfl
            clear hx2 hs ht hf hx0 hx1 hxl
            have HSR := Aside0.mk (SrcA.new w2 (ra, rc))
            go_wp2_with ((with_reducible refine gate_builtin (b := .append) (xs := #[.tmp 76, .tmp 78]) rfl ?_); refine list_ownRA rfl (.tmp 76) (.tmp 78) rfl (base := w.heap.size) (v := .slice A2 H.length c2) (u := .slice (some ⟨w2.heap.size, 0, none⟩) 1 1) (l := H) (vs := [(ra, rc)]) rfl rfl (HA.out.2.1.below (below_alloc (Below.refl _ _) _)) HSR.out (by have := HA.out.1.bel.size; simp; omega) (by have := HS.out.len; simp; omega) ?_; intro v3 w3 ho ht hat; have HN := Aside0.mk (rnd_app (k := k) HA.out HP.out HS.out.len ho ht hat); clear ho ht hat)
            go_meet
            exact ⟨_, _, _, HN⟩
          · have hE0 : (E == 0) = false := beq_eq_false_iff_ne.2 h0
            have hsame := hold_none HS.out.part.good (a := ra) (c := rc) (by rw [HE.out]; exact h0)
            have HSM := Aside0.mk hsame
            clear hsame h0
            go_wp2_with fail
            refine (hold_any HS0.out.st.sp hm0 (by omega) (HS0.out.st.len (by omega)) ra rc HWX.out.2).mono ?_
            rw [HE.out, HSM.out]
            rintro e w2 ⟨F2, rfl, hs, ht, hf⟩
            have HA := Aside0.mk (HS0.out.act hs ht hf HS.out.part.good)
            clear hs ht hf hx0 hx1 hxl
            go_wp2_with fail
            go_meet
            exact ⟨_, _, _, ⟨rnd_still HA.out HS.out.part HS.out.len⟩⟩
        · have hx := HX.out
          have hxl := hx.lt
          have hx0 := (hx.cell 0).trans rfl
          have hx1 := (hx.cell 1).trans rfl
          clear hx
          have hHk := HS.out.len
          by_cases h0 : H.length = 0
          · have HH0 := Aside0.mk h0
            have hz : ((H.length : Int) == 0) = true := by rw [h0]; rfl
            have HS1 := Aside0.mk HS0.out.more
            clear h0
            go_wp2_with fail
            go_roundw
            case rel => exact ⟨k + 1, _, _, _, by omega, by go_num, HS1⟩
            case measure => simp [intOf]; omega
          · have hz : ((H.length : Int) == 0) = false := beq_eq_false_iff_ne.2 (by omega)
            have hjm := modm (m := (H.length : Int)) (by omega) (by omega) ra
            obtain ⟨j, hj⟩ : ∃ j : Nat, (wrap64 (ra.tmod (H.length : Int) + (H.length : Int))).tmod (H.length : Int) = j := ⟨_, (Int.toNat_of_nonneg hjm.1).symm⟩
            rw [hj] at hjm
            have hjl : j < H.length := by omega
            have HJ := Aside0.mk hj
            have HOW := HS0.out.own
            obtain ⟨hnil, hnil2⟩ | ⟨g, Lh, hv, hg, hw, hpre, hcm⟩ := HOW
            · rw [hnil2] at h0; exact absurd rfl h0
            simp only [Value.slice.injEq, Option.some.injEq] at hv
            obtain ⟨rfl, -, rfl⟩ := hv
            obtain ⟨A', c', he, -, -, hcell⟩ := HS0.out.own.reads
            cases he
            obtain ⟨g', o', he2, hgl, p0, p1⟩ := hcell j hjl
            obtain ⟨rfl, rfl⟩ : g = g' ∧ 0 = o' := by simpa using he2
            rw [Nat.zero_add] at p0 p1
            have hpg := part_give HS.out.part hjl
            have hin := HS.out.part.in_ (List.getElem_mem hjl)
            have HPG := Aside0.mk hpg
            generalize hy : H[j] = y at *
            obtain ⟨ya, yc⟩ := y
            simp only at p0 p1 hin HPG
            have HWY : Aside0 ((Lit.int .i64 yc).wf = true) := ⟨WalkArith.wf_i64 (by omega)⟩
            have HW0 := Aside0.mk hw
            have HPR := Aside0.mk hpre
            have HFG : Aside0 (¬ F1 g) := ⟨HS0.out.far g rfl⟩
            have hgb : w.heap.size ≤ g := hg
            have hk1 : (H.length : Int) ≤ 1000 := by omega
            clear hcell he2 hw hpre hy hj h0 hg hpg
            go_upto_region 23 with (fail)
            rw [HJ.out]
            go_wp2_with fail
            refine (give_any HS0.out.st.sp hm0 (by omega) (HS0.out.st.len (by omega)) ya yc HWY.out).mono ?_
            rw [HPG.out.1]
            have HGD : Aside0 (Part m (giveL m L ya yc) (dropH H j)) := ⟨HPG.out.2⟩
            generalize giveL m L ya yc = L2 at *
            rintro e w2 ⟨F2, rfl, hs, ht, hf⟩
            have HA := Aside0.mk (HS0.out.act hs ht hf HGD.out.good)
            have HW2 : Aside0 (WholeA w2 g Lh) := ⟨ht.blk HW0.out HFG.out⟩
            have HF2 : Aside0 (¬ F2 g) := ⟨HA.out.2.2 g rfl⟩
            have hl1 : H.length - 1 < H.length := by omega
            obtain ⟨A', c', he, -, -, hcell⟩ := HA.out.2.1.reads
            cases he
            obtain ⟨g', o', he2, hgl2, s0, s1⟩ := hcell (H.length - 1) hl1
            obtain ⟨rfl, rfl⟩ : g = g' ∧ 0 = o' := by simpa using he2
            rw [Nat.zero_add] at s0 s1
            clear he2
            obtain ⟨g', o', he2, -, t0, t1⟩ := hcell j hjl
            obtain ⟨rfl, rfl⟩ : g = g' ∧ 0 = o' := by simpa using he2
            rw [Nat.zero_add] at t0 t1
            have hgd : H.getD (H.length - 1) (0, 0) = H[H.length - 1] := getD_at hl1
            generalize H[j] = yj at t0 t1
            have HDR := Aside0.mk (rnd_drop HA.out.1 HW2.out HPR.out hgb rfl hcm HF2.out hjl HGD.out HS.out.len rfl)
            rw [hgd] at HDR
            generalize H[H.length - 1] = y2 at *
            obtain ⟨za, zc⟩ := y2
            simp only at s0 s1 HDR
            have tf0 : w2.frozen? ⟨g, j * 2, none⟩ = false := Blk.free HW2.out _
            have tf1 : w2.frozen? ⟨g, j * 2 + 1, none⟩ = false := Blk.free HW2.out _
            have hlw1 : IntKind.i64.wrap ((H.length : Int) - 1) = (H.length : Int) - 1 := IntWalk.i64_in _ (by omega)
            have hln : ((H.length : Int) - 1).toNat = H.length - 1 := by omega
            clear hs ht hf hcell he2 hgd p0 p1 hx1 hxl
            go_wp2_with fail
            go_meet
            exact ⟨_, _, _, ⟨HDR.out⟩⟩
        · have f0 : (d == 0) = false := by simpa using e0
          have f1 : (d == 1) = false := by simpa using e1
          have f2 : (d == 2) = false := by simpa using e2
          have HS1 := Aside0.mk HS0.out.more
          go_wp2_with fail
          go_meet
          exact ⟨_, _, _, HS1⟩
      case rest =>
        obtain ⟨L2, H2, F2, HS2⟩ := hcut
        clear HS HS0 HX HACT HWX zl z0 z1 z2
        obtain ⟨A3, c3, rfl, hc4, hc5, -⟩ := HS2.out.own.reads
        have HH2 := Aside0.mk HS2.out.len
        have HL2 := Aside0.mk (good_length HS2.out.part.good (by omega))
        have HE0 : Aside0 (OwnA (wc.alloc (.cells #[] 32)) wc.heap.size (.slice (some ⟨wc.heap.size, 0, none⟩) 0 0) []) := ⟨OwnA.mk (L := []) (Nat.le_refl _) (Blk.new wc _ _) (List.prefix_refl _) (by simp) rfl rfl⟩
        have HSR := Aside0.mk ((HS2.out.own.below (below_alloc (Below.refl _ _) (.cells #[] 32))).src)
        obtain ⟨hp1, hp2⟩ := HS2.out.part.all
        have hAl : (H2 ++ runL L2).length ≤ 70000 := by have := HH2.out; have := HL2.out; rw [List.length_append, runL_length]; omega
        obtain ⟨Q, hQ⟩ : ∃ Q, H2 ++ runL L2 = Q := ⟨_, rfl⟩
        have HQ := Aside0.mk hQ
        rw [hQ] at hp1 hp2 hAl
        have HP1 := Aside0.mk hp1
        have HP2 := Aside0.mk hp2
        have HSUM := Aside0.mk (all_sum hm0 hp1 hp2)
        clear hp1 hp2 hQ
        go_wp2_with (first
          | ((with_reducible refine gate_builtin (b := .append) (xs := #[.tmp 117, .tmp 118]) rfl ?_); refine list_ownRA rfl (.tmp 117) (.tmp 118) rfl (base := wc.heap.size) (v := .slice (some ⟨wc.heap.size, 0, none⟩) 0 0) (u := .slice A3 H2.length c3) (l := []) (vs := H2) rfl rfl HE0.out HSR.out (by simp) (by have := HH2.out; simp; omega) ?_; intro v3 w3 ho ht hat; have HO3 := Aside0.mk ho; have HB3 : Aside0 (Below wc.heap.size wc w3) := ⟨below_turned (below_alloc (Below.refl _ _) _) ht (by simp) (fun q hq => (HE0.out.lt q hq).1)⟩; have HS3 := Aside0.mk (HS2.out.below HB3.out); clear ho ht hat)
          | (go_at_call 19; refine (runs_any HS3.out.st.sp (HS3.out.st.len (by omega)) (HS3.out.st.small (by omega))).mono ?_; rintro e w4 ⟨v4, rfl, ho, hb⟩; have HO4 := Aside0.mk ho; have HO34 := Aside0.mk (HO3.out.below hb); have HB4 := Aside0.mk (below_step HB3.out hb); clear ho hb)
          | ((with_reducible refine gate_builtin (b := .append) (xs := #[.tmp 119, .tmp 121]) rfl ?_); refine list_ownRA rfl (.tmp 119) (.tmp 121) rfl (base := wc.heap.size) (v := v3) (u := v4) (l := [] ++ H2) (vs := runL L2) rfl rfl HO34.out HO4.out.src HB4.out.size (by have := HH2.out; have := HL2.out; rw [runL_length]; simp; omega) ?_; intro v5 w5 ho ht hat; rw [List.nil_append, HQ.out] at ho; have HO5 := Aside0.mk ho; have HB5 : Aside0 (Below wc.heap.size wc w5) := ⟨below_turned HB4.out ht HB4.out.size (fun q hq => (HO34.out.lt q hq).1)⟩; have HS5 := Aside0.mk (HS2.out.below HB5.out); obtain ⟨A5, c5, rfl, hc6, hc7, _⟩ := ho.reads; clear ho ht hat))
        have HO5' := Aside0.mk HO5.out.reads
        clear HO3 HO34 HO4 HB3 HB4 HS3 HE0 HSR HH2 HL2 HO5 HS2
        go_loopw [14, 15] (fun s i wr2 => ∃ a : Nat, a ≤ Q.length ∧ i = .int .i64 a ∧ s = .int .i64 (sumC (Q.take a)) ∧ Aside0 (Below w5.heap.size w5 wr2)) (fun _ i _ => Q.length - (intOf i).toNat)
        case atStart => exact ⟨0, Nat.zero_le _, rfl, rfl, ⟨Below.refl _ _⟩⟩
        case round =>
          obtain ⟨a, ha, rfl, rfl, HB⟩ := hrel
          by_cases hal : a < Q.length
          · obtain ⟨A', c', he, -, -, hcell⟩ := HO5'.out.below HB.out
            cases he
            obtain ⟨g, o, rfl, hg, y0, y1⟩ := hcell a hal
            have hin := all_in HP1.out HP2.out (List.getElem_mem hal)
            have hap := fun (q : Nat) (hq : q < a) => all_apart HP1.out HP2.out hal hq
            have hsu := sum_bound (M := 1024) (A := Q.take a) (fun r hr => by have := all_in HP1.out HP2.out (List.mem_of_mem_take hr); omega)
            have hsl : (1024 : Int) * (Q.take a).length ≤ 71680000 := by rw [List.length_take]; omega
            have HTK := Aside0.mk (sumC_take hal)
            have HAP := Aside0.mk hap
            generalize sumC (Q.take a) = s at *
            have HX : Aside0 (Q[a] = Q[a]) := ⟨rfl⟩
            generalize hx : Q[a] = x at *
            have HXX := Aside0.mk hx
            obtain ⟨xa, xc⟩ := x
            simp only at y0 y1 hin HTK
            clear hcell hap hx HX
            have d1 : decide (xa < 0) = false := decide_eq_false (by omega)
            have d2 : decide (xc < 1) = false := decide_eq_false (by omega)
            have d3 : decide (m - xa < xc) = false := decide_eq_false (by omega)
            have hw1 : IntKind.i64.wrap (m - xa) = m - xa := IntWalk.i64_in _ (by omega)
            have hi0 : (0 : Int) ≤ (a : Int) := by omega
            have hi1 : (a : Int) < (Q.length : Int) := by omega
            go_wp2_with fail
            go_quiet (fail)
            have HB2 : Aside0 (Below w5.heap.size w5 (wr.drewN nq)) := ⟨pw_below_drewN HB.out nq⟩
            clear d1 d2 d3 y0 y1 hg
            generalize wr.drewN nq = w6 at *
            obtain ⟨A', c', he, -, -, hcell⟩ := HO5'.out.below HB2.out
            cases he
            obtain ⟨g', o', he2, hg, y0, y1⟩ := hcell a hal
            obtain ⟨rfl, rfl⟩ : g = g' ∧ o = o' := by simpa using he2
            rw [HXX.out] at y0 y1
            simp only at y0 y1
            clear hcell he2
            go_wp2_with fail
            clear hg y0 y1
            go_loopw [16] (fun i wr3 => ∃ q : Nat, q ≤ a ∧ i = .int .i64 q ∧ Aside0 (Below w5.heap.size w5 wr3)) (fun i _ => a - (intOf i).toNat)
            case atStart => exact ⟨0, Nat.zero_le _, rfl, HB2⟩
            case round =>
              obtain ⟨q, hq, rfl, HB3⟩ := hrel
              clear HB2
              by_cases hqa : q < a
              · obtain ⟨A', c', he, -, -, hcell⟩ := HO5'.out.below HB3.out
                cases he
                obtain ⟨g', o', he2, hg, y0, y1⟩ := hcell a hal
                obtain ⟨rfl, rfl⟩ : g = g' ∧ o = o' := by simpa using he2
                clear he2
                obtain ⟨g', o', he2, -, p0, p1⟩ := hcell q (by omega)
                obtain ⟨rfl, rfl⟩ : g = g' ∧ o = o' := by simpa using he2
                rw [HXX.out] at y0 y1
                simp only at y0 y1
                have hno := HAP.out q hqa
                have hinq := all_in HP1.out HP2.out (List.getElem_mem (show q < Q.length by omega))
                generalize Q[q] = z at *
                obtain ⟨za, zc⟩ := z
                simp only at p0 p1 hno hinq
                have HOV := Aside0.mk (fun W => over_no xa xc za zc (by omega) (by omega) (by omega) (by omega) (by omega) (by omega) hno W)
                have hq0 : (0 : Int) ≤ (q : Int) := by omega
                have hq1 : (q : Int) < (Q.length : Int) := by omega
                clear hcell he2 hno
                go_wp2_with fail
                go_region_with (go_at_call 21; refine (HOV.out _).mono ?_; rintro e w7 ⟨rfl, hb⟩; have HB4 := Aside0.mk (below_step HB3.out (below_step (below_drew (Below.refl _ _)) hb)); clear hb)
                all_goals
                  go_wp2_with fail
                  go_roundw
                  case rel => exact ⟨q + 1, by omega, by go_num, HB4⟩
                  case measure => simp [intOf]; omega
              · obtain rfl : q = a := by omega
                go_wp2_with fail
                go_roundw
                case rel => exact ⟨q + 1, by omega, by go_num, by rw [HTK.out], HB3⟩
                case measure => simp [intOf]; omega
          · obtain rfl : a = Q.length := by omega
            rw [List.take_length, HSUM.out]
            go_wp2_with fail
            go_roundw
            case rel => exact ⟨k + 1, _, _, _, by omega, by go_num, ⟨HS5.out.below HB.out⟩⟩
            case measure => simp [intOf]; omega
    · go_wp2_with fail
      refine (wakes_any _).mono ?_
      rintro e w2 ⟨rfl, hb⟩
      have HB2 := Aside0.mk (HS.out.below hb)
      clear hb
      go_wp2_with fail
      go_ret
      exact ⟨rfl, HB2.out.st.bel⟩
end Go.Proofs.Ytdcccimdgbkniaa.Mine
