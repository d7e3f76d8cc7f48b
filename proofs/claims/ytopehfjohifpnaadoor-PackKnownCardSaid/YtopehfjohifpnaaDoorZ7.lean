import Derived.Test.YtopehfjohifpnaaDoorZ6
import Derived.RangeFuncNested
import Derived.RangeFuncBound
import Derived.RangeFuncCalls
import Derived.RangeFuncLeaves
import Derived.RangeFuncFrom
import Derived.Shelf.Abstract
import Derived.Shelf.RegionOpen
import Derived.WalkKit
import Derived.OwnWalkIn
import Derived.TacticsInMore
import Derived.LoopNIn
import Derived.LoopIn
import Derived.Test.YtopehfjohifpnaaDoorZ4
section
set_option linter.unusedSimpArgs false
set_option linter.unusedVariables false
namespace Go.Proofs.YtopehfjohifpnaaDoor.Mine
open Go.RowKit Go.Shelf Go.Proofs.YtopehfjohifpnaaDoorW.PrintWords Go.Proofs.YtopehfjohifpnaaDoorW.PrintLast Go.Proofs.YtopehfjohifpnaaDoorW.PrintMore Go.Proofs.YtopehfjohifpnaaDoor.Turn Go.Proofs.YtopehfjohifpnaaDoor.Doc
def zA : Array Value := (nums .u8 (zs 512)).toArray
theorem infoI : (Tryd.prog.info? 103).map (fun i => (i.zero, i.size)) = some (some (.agg (Array.replicate 512 (.int .u8 0))), 512) := by kernel_rfl
theorem zeroI (w : World) : (zeroValue 103).run Tryd.prog w = .ok (.agg zA) w := by
  obtain ⟨i, hi, hz⟩ := Option.map_eq_some_iff.1 infoI
  simp only [Prod.mk.injEq] at hz
  have : zA = Array.replicate 512 (.int .u8 0) := by
    unfold zA nums zs
    rw [List.map_replicate]
    exact List.toArray_replicate 512 _
  simp [zeroValue, typeInfo, hi, hz.1, this]
theorem img_zero (W : World) : Img (W.alloc (.cells zA 103)) W.heap.size (zs 512) := ⟨Blk.new W _ _, zs_length 512⟩
theorem img_set {X : World} {B o : Nat} {L : List Int} (h : Img X B L) (ho : o < 512) (x : Int) : Img (X.setCell ⟨B, o, none⟩ (.int .u8 x)) B (setL L o [x]) := by
  rw [setL_one _ _ _ (by rw [h.2]; exact ho)]
  refine ⟨?_, by rw [List.length_set]; exact h.2⟩
  have := h.1.set o (.int .u8 x)
  unfold Blk at this ⊢
  rw [this]
  simp [nums, List.map_set]
theorem undI : Tryd.prog.underlying 103 = some (.array 512 5) := by kernel_rfl
theorem sizeI : (Tryd.prog.info? 103).map (·.size) = some 512 := by kernel_rfl
theorem nums_one (L : List Int) : (nums .u8 L).toArray.all (·.oneCell') = true := by
  rw [List.all_toArray, List.all_eq_true]
  intro x hx
  unfold nums at hx
  obtain ⟨y, _, rfl⟩ := List.mem_map.1 hx
  rfl
structure LaySt (W X : World) (bx za : Array Value) (P : List Int) : Prop where
  box : Blk X W.heap.size bx 83
  res : Blk X (W.heap.size + 1) za 103
  img : Img X (W.heap.size + 1 + 1) (imgL P)
  bel : Below W.heap.size W X
theorem LaySt.next {W X X' : World} {bx za : Array Value} {P vs : List Int} {o : Nat} (h : LaySt W X bx za P) (hT : Turned (Eq (W.heap.size + 1 + 1)) X X') (hI : Img X' (W.heap.size + 1 + 1) (setL (imgL P) o vs)) (hle : P.length ≤ o) (h2 : o + vs.length ≤ 512) : LaySt W X' bx za (appL P o vs) :=
  ⟨hT.blk h.box (by omega), hT.blk h.res (by omega), by rw [← setL_img hle h2]; exact hI, h.bel.trans (hT.toBelow h.bel.size (fun k hk => by omega))⟩
theorem LaySt.drew {W X : World} {bx za : Array Value} {P : List Int} (h : LaySt W X bx za P) : LaySt W X.drew bx za P := ⟨h.box, h.res, h.img, below_drew h.bel⟩
set_option maxRecDepth 100000 in
set_option maxHeartbeats 8000000 in
theorem layH_any (nm pf : ByteArray) (md sz tm ty : Int) (lk : ByteArray) (hg : GoodH nm pf md sz tm ty lk) (W : World) :
    Calls Tryd.prog 56 #[.agg #[.string nm, .string pf, .int .i64 md, .int .i64 sz, .int .i64 tm, .int .u8 ty, .string lk]] W fun e W' => e = .returned (.agg (nums .u8 (layF nm pf md sz tm ty lk)).toArray) ∧ Below W.heap.size W W' := by
  have hz0 := fun W => img_zero W
  obtain ⟨za, hza⟩ : ∃ za, zA = za := ⟨_, rfl⟩
  have hzs : za.size = 512 := by rw [← hza]; unfold zA; rw [List.size_toArray, nums_length, zs_length]
  rw [hza] at hz0
  have hzi : ∀ w, (zeroValue 103).run Tryd.prog w = .ok (.agg za) w := by rw [← hza]; exact zeroI
  clear hza
  have hx0 := Blk.new W #[.string nm, .string pf, .int .i64 md, .int .i64 sz, .int .i64 tm, .int .u8 ty, .string lk] 83
  have hb0 := below_alloc (Below.refl W.heap.size W) (.cells #[.string nm, .string pf, .int .i64 md, .int .i64 sz, .int .i64 tm, .int .u8 ty, .string lk] 83)
  have hs0 : (W.alloc (.cells #[.string nm, .string pf, .int .i64 md, .int .i64 sz, .int .i64 tm, .int .u8 ty, .string lk] 83)).heap.size = W.heap.size + 1 := by simp
  have HE : Aside0 (layF nm pf md sz tm ty lk = sealL (imgL (layP nm pf md sz tm ty lk))) := ⟨rfl⟩
  have HEB := Aside0.mk (layP_bytes hg).img
  have HP : Aside0 (layP nm pf md sz tm ty lk = appL (appL (appL (appL (appL (appL (appL (appL (appL (appL (appL (appL [] 0 (bytesOf nm)) 100 (octF md 8).1) 108 (octF 0 8).1) 116 (octF 0 8).1) 124 (octF sz 12).1) 136 (octF tm 12).1) 156 [ty]) 157 (bytesOf lk)) 257 magicL) 329 (octF 0 8).1) 337 (octF 0 8).1) 345 (bytesOf pf)) := ⟨rfl⟩
  generalize layP nm pf md sz tm ty lk = PP at *
  generalize layF nm pf md sz tm ty lk = RR at *
  go_enter Tryd.func56, Tryd.ntmps56
  go_wp2_with fail
  generalize W.alloc (.cells #[.string nm, .string pf, .int .i64 md, .int .i64 sz, .int .i64 tm, .int .u8 ty, .string lk] 83) = W1 at *
  have hx1 := hx0.alloc (.cells za 103)
  have hr1 := Blk.new W1 za 103
  rw [hs0] at hr1
  have hb1 := below_alloc hb0 (.cells za 103)
  have hs1 : (W1.alloc (.cells za 103)).heap.size = W.heap.size + 1 + 1 := by simp [hs0]
  clear hx0 hb0 hs0
  generalize W1.alloc (.cells za 103) = W2 at *
  have hx2 := hx1.alloc (.cells za 103)
  have hr2 := hr1.alloc (.cells za 103)
  have hI2 := hz0 W2
  rw [hs1] at hI2
  have hb2 := below_alloc hb1 (.cells za 103)
  clear hx1 hr1 hb1 hs1 hz0 hzi
  generalize W2.alloc (.cells za 103) = W3 at *
  have e0 : zs 512 = imgL [] := by simp [imgL, zs]
  rw [e0] at hI2
  have H0 : Aside0 (LaySt W W3 #[.string nm, .string pf, .int .i64 md, .int .i64 sz, .int .i64 tm, .int .u8 ty, .string lk] za []) := ⟨⟨hx2, hr2, hI2, hb2⟩⟩
  have hcut0 := fun Wx => cut_img0 (W.heap.size + 1 + 1) Wx
  have q0 := hg.hnm
  have q1 := hg.hlk
  have q2 := hg.hpf
  have p0 := bytesOf_length nm
  have p1 := bytesOf_length lk
  have p2 := bytesOf_length pf
  clear hx2 hr2 hI2 hb2 e0
  have l0 : ([] : List Int).length = 0 := rfl
  have kl0 := H0.out.box.lt
  have kd0 := H0.out.img.lt
  have kc0 : W3.cell? ⟨W.heap.size, 0, none⟩ = some (.string nm) := (Blk.cell H0.out.box 0).trans rfl
  obtain ⟨X1, hrun1, hI1, hT1⟩ := copy_img_str (W := W3.drew) (B := W.heap.size + 1 + 1) H0.out.drew.img 3 0 nm (by omega)
  simp only [Nat.sub_zero] at hrun1
  have H1 := Aside0.mk (H0.out.drew.next hT1 hI1 (by omega) (by omega))
  clear hI1 hT1
  go_region
  clear hrun1 kl0 kd0 kc0
  have l1 : (appL (([] : List Int)) 0 (bytesOf nm)).length = 0 + nm.size := (appL_length (pre := ([] : List Int)) (o := 0) (vs := bytesOf nm) (by omega)).trans (by rw [p0])
  have kl1 := H1.out.box.lt
  have kd1 := H1.out.img.lt
  have kc1 : X1.cell? ⟨W.heap.size, 2, none⟩ = some (.int .i64 md) := (Blk.cell H1.out.box 2).trans rfl
  have ol2 := (oct8_len hg.hmd.1 hg.hmd.2 : (octF md 8).1.length = 8)
  go_wp2_with fail
  refine (number_any (B := W.heap.size + 1 + 1) 100 8 md (.inr (.inl rfl)) (by omega) _ H1.out.img).mono ?_
  rintro e X2 ⟨rfl, hI2, hT2⟩
  have H2 := Aside0.mk (H1.out.next hT2 hI2 (by omega) (by omega))
  clear hI2 hT2 kl1 kd1 kc1
  have l2 : (appL (appL (([] : List Int)) 0 (bytesOf nm)) 100 ((octF md 8).1)).length = 100 + 8 := (appL_length (pre := appL (([] : List Int)) 0 (bytesOf nm)) (o := 100) (vs := (octF md 8).1) (by omega)).trans (by rw [ol2])
  have kl2 := H2.out.box.lt
  have kd2 := H2.out.img.lt
  have ol3 := (oct8_len (by omega) (by omega) : (octF 0 8).1.length = 8)
  go_wp2_with fail
  refine (number_any (B := W.heap.size + 1 + 1) 108 8 0 (.inr (.inl rfl)) (by omega) _ H2.out.img).mono ?_
  rintro e X3 ⟨rfl, hI3, hT3⟩
  have H3 := Aside0.mk (H2.out.next hT3 hI3 (by omega) (by omega))
  clear hI3 hT3 kl2 kd2
  have l3 : (appL (appL (appL (([] : List Int)) 0 (bytesOf nm)) 100 ((octF md 8).1)) 108 ((octF 0 8).1)).length = 108 + 8 := (appL_length (pre := appL (appL (([] : List Int)) 0 (bytesOf nm)) 100 ((octF md 8).1)) (o := 108) (vs := (octF 0 8).1) (by omega)).trans (by rw [ol3])
  have kl3 := H3.out.box.lt
  have kd3 := H3.out.img.lt
  have ol4 := (oct8_len (by omega) (by omega) : (octF 0 8).1.length = 8)
  go_wp2_with fail
  refine (number_any (B := W.heap.size + 1 + 1) 116 8 0 (.inr (.inl rfl)) (by omega) _ H3.out.img).mono ?_
  rintro e X4 ⟨rfl, hI4, hT4⟩
  have H4 := Aside0.mk (H3.out.next hT4 hI4 (by omega) (by omega))
  clear hI4 hT4 kl3 kd3
  have l4 : (appL (appL (appL (appL (([] : List Int)) 0 (bytesOf nm)) 100 ((octF md 8).1)) 108 ((octF 0 8).1)) 116 ((octF 0 8).1)).length = 116 + 8 := (appL_length (pre := appL (appL (appL (([] : List Int)) 0 (bytesOf nm)) 100 ((octF md 8).1)) 108 ((octF 0 8).1)) (o := 116) (vs := (octF 0 8).1) (by omega)).trans (by rw [ol4])
  have kl4 := H4.out.box.lt
  have kd4 := H4.out.img.lt
  have kc4 : X4.cell? ⟨W.heap.size, 3, none⟩ = some (.int .i64 sz) := (Blk.cell H4.out.box 3).trans rfl
  have ol5 := (oct12_len hg.hsz.1 (by have := hg.hsz.2; omega) : (octF sz 12).1.length = 12)
  go_wp2_with fail
  refine (number_any (B := W.heap.size + 1 + 1) 124 12 sz (.inr (.inr rfl)) (by omega) _ H4.out.img).mono ?_
  rintro e X5 ⟨rfl, hI5, hT5⟩
  have H5 := Aside0.mk (H4.out.next hT5 hI5 (by omega) (by omega))
  clear hI5 hT5 kl4 kd4 kc4
  have l5 : (appL (appL (appL (appL (appL (([] : List Int)) 0 (bytesOf nm)) 100 ((octF md 8).1)) 108 ((octF 0 8).1)) 116 ((octF 0 8).1)) 124 ((octF sz 12).1)).length = 124 + 12 := (appL_length (pre := appL (appL (appL (appL (([] : List Int)) 0 (bytesOf nm)) 100 ((octF md 8).1)) 108 ((octF 0 8).1)) 116 ((octF 0 8).1)) (o := 124) (vs := (octF sz 12).1) (by omega)).trans (by rw [ol5])
  have kl5 := H5.out.box.lt
  have kd5 := H5.out.img.lt
  have kc5 : X5.cell? ⟨W.heap.size, 4, none⟩ = some (.int .i64 tm) := (Blk.cell H5.out.box 4).trans rfl
  have ol6 := (oct12_len hg.htm.1 hg.htm.2 : (octF tm 12).1.length = 12)
  go_wp2_with fail
  refine (number_any (B := W.heap.size + 1 + 1) 136 12 tm (.inr (.inr rfl)) (by omega) _ H5.out.img).mono ?_
  rintro e X6 ⟨rfl, hI6, hT6⟩
  have H6 := Aside0.mk (H5.out.next hT6 hI6 (by omega) (by omega))
  clear hI6 hT6 kl5 kd5 kc5
  have l6 : (appL (appL (appL (appL (appL (appL (([] : List Int)) 0 (bytesOf nm)) 100 ((octF md 8).1)) 108 ((octF 0 8).1)) 116 ((octF 0 8).1)) 124 ((octF sz 12).1)) 136 ((octF tm 12).1)).length = 136 + 12 := (appL_length (pre := appL (appL (appL (appL (appL (([] : List Int)) 0 (bytesOf nm)) 100 ((octF md 8).1)) 108 ((octF 0 8).1)) 116 ((octF 0 8).1)) 124 ((octF sz 12).1)) (o := 136) (vs := (octF tm 12).1) (by omega)).trans (by rw [ol6])
  have kl6 := H6.out.box.lt
  have kd6 := H6.out.img.lt
  have kc6 : X6.cell? ⟨W.heap.size, 5, none⟩ = some (.int .u8 ty) := (Blk.cell H6.out.box 5).trans rfl
  have hc7 := H6.out.img.cell (i := 156) (by omega)
  have hfz7 : X6.frozen? ⟨W.heap.size + 1 + 1, 156, none⟩ = false := Blk.free H6.out.img.1 156
  have H7 : Aside0 (LaySt W (X6.setCell ⟨W.heap.size + 1 + 1, 156, none⟩ (.int .u8 ty)) #[.string nm, .string pf, .int .i64 md, .int .i64 sz, .int .i64 tm, .int .u8 ty, .string lk] za (appL (appL (appL (appL (appL (appL (appL (([] : List Int)) 0 (bytesOf nm)) 100 ((octF md 8).1)) 108 ((octF 0 8).1)) 116 ((octF 0 8).1)) 124 ((octF sz 12).1)) 136 ((octF tm 12).1)) 156 [ty])) := ⟨H6.out.next ((Turned.refl (Eq (W.heap.size + 1 + 1)) _).setCell (p := ⟨W.heap.size + 1 + 1, 156, none⟩) (.inl rfl) _) (img_set H6.out.img (by omega) ty) (by omega) (by simp)⟩
  go_wp2_with fail
  clear kl6 kd6 kc6 hc7 hfz7
  generalize X6.setCell ⟨W.heap.size + 1 + 1, 156, none⟩ (.int .u8 ty) = X7 at *
  have l7 := (appL_length (pre := appL (appL (appL (appL (appL (appL (([] : List Int)) 0 (bytesOf nm)) 100 ((octF md 8).1)) 108 ((octF 0 8).1)) 116 ((octF 0 8).1)) 124 ((octF sz 12).1)) 136 ((octF tm 12).1)) (o := 156) (vs := [ty]) (by omega)).trans (rfl : _ = 157)
  have kl7 := H7.out.box.lt
  have kd7 := H7.out.img.lt
  have kc7 : X7.cell? ⟨W.heap.size, 6, none⟩ = some (.string lk) := (Blk.cell H7.out.box 6).trans rfl
  obtain ⟨X8, hrun8, hI8, hT8⟩ := copy_img_str (W := X7.drew) (B := W.heap.size + 1 + 1) H7.out.drew.img 3 157 lk (by omega)
  have hcut8 : ∀ Wx, (Instr.sliceAt 103 (.pointer (some ⟨W.heap.size + 1 + 1, 0, none⟩)) (some (.int .i64 157)) none none).run Tryd.prog Wx = .ok (.slice (some ⟨W.heap.size + 1 + 1, 157, none⟩) 355 355) Wx := fun Wx => cut_img (W.heap.size + 1 + 1) 157 (by omega) Wx
  simp only [Nat.reduceSub] at hrun8
  have H8 := Aside0.mk (H7.out.drew.next hT8 hI8 (by omega) (by omega))
  clear hI8 hT8
  go_region
  clear hrun8 kl7 kd7 kc7
  have l8 : (appL (appL (appL (appL (appL (appL (appL (appL (([] : List Int)) 0 (bytesOf nm)) 100 ((octF md 8).1)) 108 ((octF 0 8).1)) 116 ((octF 0 8).1)) 124 ((octF sz 12).1)) 136 ((octF tm 12).1)) 156 [ty]) 157 (bytesOf lk)).length = 157 + lk.size := (appL_length (pre := appL (appL (appL (appL (appL (appL (appL (([] : List Int)) 0 (bytesOf nm)) 100 ((octF md 8).1)) 108 ((octF 0 8).1)) 116 ((octF 0 8).1)) 124 ((octF sz 12).1)) 136 ((octF tm 12).1)) 156 [ty]) (o := 157) (vs := bytesOf lk) (by omega)).trans (by rw [p1])
  have kl8 := H8.out.box.lt
  have kd8 := H8.out.img.lt
  obtain ⟨X9, hrun9, hI9, hT9⟩ := copy_img_str (W := X8) (B := W.heap.size + 1 + 1) H8.out.img 3 257 ⟨#[117, 115, 116, 97, 114, 0, 48, 48]⟩ (by decide)
  have hcut9 : ∀ Wx, (Instr.sliceAt 103 (.pointer (some ⟨W.heap.size + 1 + 1, 0, none⟩)) (some (.int .i64 257)) none none).run Tryd.prog Wx = .ok (.slice (some ⟨W.heap.size + 1 + 1, 257, none⟩) 255 255) Wx := fun Wx => cut_img (W.heap.size + 1 + 1) 257 (by omega) Wx
  simp only [Nat.reduceSub] at hrun9
  rw [show bytesOf (⟨#[117, 115, 116, 97, 114, 0, 48, 48]⟩ : ByteArray) = magicL by decide] at hI9
  have H9 := Aside0.mk (H8.out.next hT9 hI9 (by omega) (by decide))
  clear hI9 hT9
  go_wp2_with fail
  clear hrun9 kl8 kd8
  have l9 := (appL_length (pre := appL (appL (appL (appL (appL (appL (appL (appL (([] : List Int)) 0 (bytesOf nm)) 100 ((octF md 8).1)) 108 ((octF 0 8).1)) 116 ((octF 0 8).1)) 124 ((octF sz 12).1)) 136 ((octF tm 12).1)) 156 [ty]) 157 (bytesOf lk)) (o := 257) (vs := magicL) (by omega)).trans (rfl : _ = 265)
  have kl9 := H9.out.box.lt
  have kd9 := H9.out.img.lt
  have ol10 := (oct8_len (by omega) (by omega) : (octF 0 8).1.length = 8)
  go_wp2_with fail
  refine (number_any (B := W.heap.size + 1 + 1) 329 8 0 (.inr (.inl rfl)) (by omega) _ H9.out.img).mono ?_
  rintro e X10 ⟨rfl, hI10, hT10⟩
  have H10 := Aside0.mk (H9.out.next hT10 hI10 (by omega) (by omega))
  clear hI10 hT10 kl9 kd9
  have l10 : (appL (appL (appL (appL (appL (appL (appL (appL (appL (appL (([] : List Int)) 0 (bytesOf nm)) 100 ((octF md 8).1)) 108 ((octF 0 8).1)) 116 ((octF 0 8).1)) 124 ((octF sz 12).1)) 136 ((octF tm 12).1)) 156 [ty]) 157 (bytesOf lk)) 257 magicL) 329 ((octF 0 8).1)).length = 329 + 8 := (appL_length (pre := appL (appL (appL (appL (appL (appL (appL (appL (appL (([] : List Int)) 0 (bytesOf nm)) 100 ((octF md 8).1)) 108 ((octF 0 8).1)) 116 ((octF 0 8).1)) 124 ((octF sz 12).1)) 136 ((octF tm 12).1)) 156 [ty]) 157 (bytesOf lk)) 257 magicL) (o := 329) (vs := (octF 0 8).1) (by omega)).trans (by rw [ol10])
  have kl10 := H10.out.box.lt
  have kd10 := H10.out.img.lt
  have ol11 := (oct8_len (by omega) (by omega) : (octF 0 8).1.length = 8)
  go_wp2_with fail
  refine (number_any (B := W.heap.size + 1 + 1) 337 8 0 (.inr (.inl rfl)) (by omega) _ H10.out.img).mono ?_
  rintro e X11 ⟨rfl, hI11, hT11⟩
  have H11 := Aside0.mk (H10.out.next hT11 hI11 (by omega) (by omega))
  clear hI11 hT11 kl10 kd10
  have l11 : (appL (appL (appL (appL (appL (appL (appL (appL (appL (appL (appL (([] : List Int)) 0 (bytesOf nm)) 100 ((octF md 8).1)) 108 ((octF 0 8).1)) 116 ((octF 0 8).1)) 124 ((octF sz 12).1)) 136 ((octF tm 12).1)) 156 [ty]) 157 (bytesOf lk)) 257 magicL) 329 ((octF 0 8).1)) 337 ((octF 0 8).1)).length = 337 + 8 := (appL_length (pre := appL (appL (appL (appL (appL (appL (appL (appL (appL (appL (([] : List Int)) 0 (bytesOf nm)) 100 ((octF md 8).1)) 108 ((octF 0 8).1)) 116 ((octF 0 8).1)) 124 ((octF sz 12).1)) 136 ((octF tm 12).1)) 156 [ty]) 157 (bytesOf lk)) 257 magicL) 329 ((octF 0 8).1)) (o := 337) (vs := (octF 0 8).1) (by omega)).trans (by rw [ol11])
  have kl11 := H11.out.box.lt
  have kd11 := H11.out.img.lt
  have kc11 : X11.cell? ⟨W.heap.size, 1, none⟩ = some (.string pf) := (Blk.cell H11.out.box 1).trans rfl
  obtain ⟨X12, hrun12, hI12, hT12⟩ := copy_img_str (W := X11.drew) (B := W.heap.size + 1 + 1) H11.out.drew.img 3 345 pf (by omega)
  have hcut12 : ∀ Wx, (Instr.sliceAt 103 (.pointer (some ⟨W.heap.size + 1 + 1, 0, none⟩)) (some (.int .i64 345)) none none).run Tryd.prog Wx = .ok (.slice (some ⟨W.heap.size + 1 + 1, 345, none⟩) 167 167) Wx := fun Wx => cut_img (W.heap.size + 1 + 1) 345 (by omega) Wx
  simp only [Nat.reduceSub] at hrun12
  have H12 := Aside0.mk (H11.out.drew.next hT12 hI12 (by omega) (by omega))
  clear hI12 hT12
  go_wp2_with fail
  go_region
  clear hrun12 kl11 kd11 kc11
  have l12 : (appL (appL (appL (appL (appL (appL (appL (appL (appL (appL (appL (appL (([] : List Int)) 0 (bytesOf nm)) 100 ((octF md 8).1)) 108 ((octF 0 8).1)) 116 ((octF 0 8).1)) 124 ((octF sz 12).1)) 136 ((octF tm 12).1)) 156 [ty]) 157 (bytesOf lk)) 257 magicL) 329 ((octF 0 8).1)) 337 ((octF 0 8).1)) 345 (bytesOf pf)).length = 345 + pf.size := (appL_length (pre := appL (appL (appL (appL (appL (appL (appL (appL (appL (appL (appL (([] : List Int)) 0 (bytesOf nm)) 100 ((octF md 8).1)) 108 ((octF 0 8).1)) 116 ((octF 0 8).1)) 124 ((octF sz 12).1)) 136 ((octF tm 12).1)) 156 [ty]) 157 (bytesOf lk)) 257 magicL) 329 ((octF 0 8).1)) 337 ((octF 0 8).1)) (o := 345) (vs := bytesOf pf) (by omega)).trans (by rw [p2])
  have HF : Aside0 (LaySt W X12 #[.string nm, .string pf, .int .i64 md, .int .i64 sz, .int .i64 tm, .int .u8 ty, .string lk] za PP) := ⟨by rw [HP.out]; exact H12.out⟩
  clear H0 H1 H2 H3 H4 H5 H6 H7 H8 H9 H10 H11 H12 l0 l1 l2 l3 l4 l5 l6 l7 l8 l9 l10 l11 l12 HP
  go_wp2_with fail
  refine (seal_any (B := W.heap.size + 1 + 1) HEB.out _ HF.out.img).mono ?_
  rintro e X13 ⟨rfl, hI13, hT13⟩
  rw [← HE.out] at hI13
  have hR13 := hT13.blk HF.out.res (by omega)
  have HB13 := Aside0.mk (HF.out.bel.trans (hT13.toBelow HF.out.bel.size (fun k hk => by omega)))
  have hAs : (nums .u8 RR).toArray.size = 512 := by rw [List.size_toArray, nums_length, hI13.2]
  have hA1 := nums_one RR
  have hA13 := hI13.1
  clear hI13 HE HEB HF hT13 hcut0
  obtain ⟨aA, haA⟩ : ∃ aA, (nums .u8 RR).toArray = aA := ⟨_, rfl⟩
  rw [haA] at hAs hA1 hA13
  have HAA := Aside0.mk haA
  clear haA
  have hR14 : Blk (X13.setRow (W.heap.size + 1) aA) (W.heap.size + 1) aA 103 := setRow_heap X13 _ za aA _ _ hR13
  have HB14 : Aside0 (Below W.heap.size W (X13.setRow (W.heap.size + 1) aA)) := ⟨HB13.out.trans ((turned_setRow X13 (W.heap.size + 1) aA).toBelow HB13.out.size (fun k hk => by omega))⟩
  have HA13 := Aside0.mk hA13
  have HR13 := Aside0.mk hR13
  have HR14 := Aside0.mk hR14
  have HA1 := Aside0.mk hA1
  have HAS := Aside0.mk hAs
  have HZS := Aside0.mk hzs
  clear hA13 hR13 hR14 HB13 hA1 hAs hzs
  go_wp2_with (first | (refine wpList_load_row rfl 103 (.tmp 3) rfl (W.heap.size + 1 + 1) rfl 103 aA (0, 0) _ HA13.out undI rfl (by rw [sizeI, HAS.out]) ?_) | (refine wpList_store_row rfl 103 (.tmp 2) (.tmp 35) rfl (W.heap.size + 1) aA rfl rfl 103 za HR13.out (by rw [sizeI, HAS.out]) (by rw [HZS.out, HAS.out]) HA1.out ?_))
  refine bodyPost_ret (results_cell_row (fn := Tryd.f56) rfl _ _ (W.heap.size + 1) 103 aA (0, 0) _ rfl HR14.out undI rfl (by rw [sizeI, HAS.out])) rfl ?_
  exact ⟨by rw [HAA.out], HB14.out⟩
end Go.Proofs.YtopehfjohifpnaaDoor.Mine
end
section
set_option linter.unusedSimpArgs false
set_option linter.unusedVariables false
namespace Go.Proofs.YtopehfjohifpnaaDoor.Mine
open Go.RowKit Go.Shelf Go.Proofs.YtopehfjohifpnaaDoorW.PrintWords Go.Proofs.YtopehfjohifpnaaDoorW.PrintLast Go.Proofs.YtopehfjohifpnaaDoorW.PrintMore Go.Proofs.YtopehfjohifpnaaDoor.Turn Go.Proofs.YtopehfjohifpnaaDoor.Doc
def EndsH (W : World) (nm pf : ByteArray) (md sz tm ty : Int) (lk : ByteArray) (e : Ending) (W' : World) : Prop :=
  Below W.heap.size W W' ∧ ((mayH nm pf md sz tm ty lk = 0 ∧ ∃ g, W.heap.size ≤ g ∧ Img W' g (layF nm pf md sz tm ty lk) ∧ e = .returned (.tuple #[.slice (some ⟨g, 0, none⟩) 512 512, .int .i64 0])) ∨ (mayH nm pf md sz tm ty lk ≠ 0 ∧ e = .returned (.tuple #[.slice none 0 0, .int .i64 (mayH nm pf md sz tm ty lk)])))
set_option maxRecDepth 100000 in
set_option maxHeartbeats 4000000 in
theorem putH_any (nm pf : ByteArray) (md sz tm ty : Int) (lk : ByteArray) (W : World) :
    Calls Tryd.prog 39 #[.agg #[.string nm, .string pf, .int .i64 md, .int .i64 sz, .int .i64 tm, .int .u8 ty, .string lk]] W (EndsH W nm pf md sz tm ty lk) := by
  have HM := Aside0.mk (fun W => mayH_any nm pf md sz tm ty lk W)
  have HL := Aside0.mk (fun h W => layH_any nm pf md sz tm ty lk (good_of h) W)
  have HLL : Aside0 (mayH nm pf md sz tm ty lk = 0 → (layF nm pf md sz tm ty lk).length = 512) := ⟨fun h => by
    have hl := imgL_length (layP_len (good_of h))
    have hb := (layP_bytes (good_of h)).img
    have h7 := octF_length (n := sumH (imgL (layP nm pf md sz tm ty lk))) (w := 7) (by omega) (octF_ok7 (sumH_rg hb hl).1 (sumH_rg hb hl).2)
    unfold layF sealL
    have h1 : (setL (imgL (layP nm pf md sz tm ty lk)) 148 (octF (sumH (imgL (layP nm pf md sz tm ty lk))) 7).1).length = 512 := by rw [setL_length (by omega)]; exact hl
    rw [setL_length (by rw [h1]; simp), h1]⟩
  have hx0 := Blk.new W #[.string nm, .string pf, .int .i64 md, .int .i64 sz, .int .i64 tm, .int .u8 ty, .string lk] 83
  have hb0 := below_alloc (Below.refl W.heap.size W) (.cells #[.string nm, .string pf, .int .i64 md, .int .i64 sz, .int .i64 tm, .int .u8 ty, .string lk] 83)
  have HE : Aside0 (EndsH W nm pf md sz tm ty lk = fun e W' => Below W.heap.size W W' ∧ ((mayH nm pf md sz tm ty lk = 0 ∧ ∃ g, W.heap.size ≤ g ∧ Img W' g (layF nm pf md sz tm ty lk) ∧ e = .returned (.tuple #[.slice (some ⟨g, 0, none⟩) 512 512, .int .i64 0])) ∨ (mayH nm pf md sz tm ty lk ≠ 0 ∧ e = .returned (.tuple #[.slice none 0 0, .int .i64 (mayH nm pf md sz tm ty lk)])))) := ⟨rfl⟩
  obtain ⟨PE, hPE⟩ : ∃ PE, EndsH W nm pf md sz tm ty lk = PE := ⟨_, rfl⟩
  rw [hPE] at HE ⊢
  clear hPE
  generalize mayH nm pf md sz tm ty lk = mh at *
  generalize layF nm pf md sz tm ty lk = lf at *
  have c0 := (Blk.cell hx0 0).trans rfl
  have c1 := (Blk.cell hx0 1).trans rfl
  have c2 := (Blk.cell hx0 2).trans rfl
  have c3 := (Blk.cell hx0 3).trans rfl
  have c4 := (Blk.cell hx0 4).trans rfl
  have c5 := (Blk.cell hx0 5).trans rfl
  have c6 := (Blk.cell hx0 6).trans rfl
  have hlt := hx0.lt
  have HX0 := Aside0.mk hx0
  have HB0 := Aside0.mk hb0
  clear hx0 hb0
  go_enter Tryd.func39, Tryd.ntmps39
  go_wp2_with fail
  refine (HM.out _).mono ?_
  rintro e W2 ⟨rfl, hb⟩
  have hx2 : Blk W2 W.heap.size #[.string nm, .string pf, .int .i64 md, .int .i64 sz, .int .i64 tm, .int .u8 ty, .string lk] 83 := (hb.block _ HX0.out.lt).trans HX0.out
  have HB2 := Aside0.mk (below_step HB0.out hb)
  clear hb c0 c1 c2 c3 c4 c5 c6 HX0
  have c0 := (Blk.cell hx2 0).trans rfl
  have c1 := (Blk.cell hx2 1).trans rfl
  have c2 := (Blk.cell hx2 2).trans rfl
  have c3 := (Blk.cell hx2 3).trans rfl
  have c4 := (Blk.cell hx2 4).trans rfl
  have c5 := (Blk.cell hx2 5).trans rfl
  have c6 := (Blk.cell hx2 6).trans rfl
  have hlt2 := hx2.lt
  by_cases h0 : mh = 0
  · subst h0
    have HL2 := Aside0.mk (HL.out rfl)
    have HLL2 := Aside0.mk (HLL.out rfl)
    have hzi := zeroI
    clear HL HLL HM
    obtain ⟨aA, haA⟩ : ∃ aA, (nums .u8 lf).toArray = aA := ⟨_, rfl⟩
    have HAA := Aside0.mk haA
    have hcl : aA.size = 512 := by rw [← haA, List.size_toArray, nums_length, HLL2.out]
    have ha1 : aA.all (·.oneCell') = true := by rw [← haA]; exact nums_one lf
    rw [haA] at HL2
    clear haA
    obtain ⟨za, hza⟩ : ∃ za, zA = za := ⟨_, rfl⟩
    have hzs : za.size = 512 := by rw [← hza]; unfold zA; rw [List.size_toArray, nums_length, zs_length]
    rw [hza] at hzi
    have HCL := Aside0.mk hcl
    have HA1 := Aside0.mk ha1
    have HZS := Aside0.mk hzs
    clear hza hcl ha1 hzs
    go_wp2_with fail
    refine (HL2.out _).mono ?_
    rintro e W3 ⟨rfl, hb⟩
    have HB3 := Aside0.mk (below_step HB2.out hb)
    have hI4 := Blk.new W3 za 103
    have HB4 := Aside0.mk (below_alloc HB3.out (.cells za 103))
    have HI4 := Aside0.mk hI4
    have HI5 : Aside0 (Blk ((W3.alloc (.cells za 103)).setRow W3.heap.size aA) W3.heap.size aA 103) := ⟨setRow_heap _ _ za aA _ _ hI4⟩
    have HB5 : Aside0 (Below W.heap.size W ((W3.alloc (.cells za 103)).setRow W3.heap.size aA)) := ⟨HB4.out.trans ((turned_setRow (W3.alloc (.cells za 103)) W3.heap.size aA).toBelow HB4.out.size (fun k hk => by have := HB3.out.size; omega))⟩
    have HGE := Aside0.mk HB3.out.size
    have hcut0 := fun Wx => cut_img0 W3.heap.size Wx
    clear hb hI4 c0 c1 c2 c3 c4 c5 c6 hx2
    go_wp2_with (refine wpList_store_row rfl 103 (.tmp 5) (.tmp 12) rfl W3.heap.size aA rfl rfl 103 za HI4.out (by rw [sizeI, HCL.out]) (by rw [HZS.out, HCL.out]) HA1.out ?_)
    skip
    rw [HE.out]
    exact ⟨HB5.out, .inl ⟨by first | rfl | trivial, _, HGE.out, ⟨by rw [HAA.out]; exact HI5.out, HLL2.out⟩, rfl⟩⟩
  · have hne : (mh != 0) = true := bne_iff_ne.2 h0
    have H0 := Aside0.mk h0
    clear HL HLL HM h0
    go_wp2_with fail
    skip
    rw [HE.out]
    exact ⟨HB2.out, .inr ⟨H0.out, by first | rfl | trivial⟩⟩
end Go.Proofs.YtopehfjohifpnaaDoor.Mine
end
section
set_option linter.unusedSimpArgs false
set_option linter.unusedVariables false
namespace Go.Proofs.YtopehfjohifpnaaDoor.Mine
open Go.RowKit Go.Shelf Go.Proofs.YtopehfjohifpnaaDoorW.PrintWords Go.Proofs.YtopehfjohifpnaaDoorW.PrintLast Go.Proofs.YtopehfjohifpnaaDoorW.PrintMore Go.Proofs.YtopehfjohifpnaaDoor.Turn Go.Proofs.YtopehfjohifpnaaDoor.Doc
def fillL (b : List Int) : List Int := b ++ zs ((512 - b.length % 512) % 512)
theorem fillL_len (b : List Int) : (fillL b).length = (b.length + 511) / 512 * 512 := by
  unfold fillL
  rw [List.length_append, zs_length]
  omega
abbrev RB (W : World) (base : Nat) (v : Value) (l : List Int) : Prop := Kd.R (Kd.int .u8) 5 W base (fun _ => True) v l
def Tape (W : World) (T base : Nat) (v : Value) (l : List Int) : Prop := Blk W T #[v] 59 ∧ RB W base v l
theorem Tape.ne {W : World} {T base : Nat} {v : Value} {l : List Int} (h : Tape W T base v l) : v.ownBlock ≠ some T := fun e => Kd.R_ne h.2 h.1 (by decide) e.symm
theorem Tape.keep {W W' : World} {T base : Nat} {v : Value} {l : List Int} (h : Tape W T base v l) (hk : ∀ k, (k = T ∨ v.ownBlock = some k) → k < W.heap.size → W'.heap[k]? = W.heap[k]?) : Tape W' T base v l := by
  refine ⟨(hk T (.inl rfl) (Blk.lt h.1)).trans h.1, ?_⟩
  have hb := Kd.R_bound h.2
  have h2 : Kd.R (Kd.int .u8) 5 W base (fun k => v.ownBlock = some k) v l := ⟨fun k hk => hk, by
    obtain ⟨_, inner, ho, hr⟩ := h.2
    exact ⟨inner, ho, hr⟩⟩
  exact Kd.R_mono (Kd.R_step h2 (fun k ho hlt => hk k (.inr ho) hlt)) (fun _ _ => trivial)
theorem Tape.below {W W' : World} {T base : Nat} {v : Value} {l : List Int} (h : Tape W T base v l) (hb : Below W.heap.size W W') : Tape W' T base v l := h.keep (fun k _ hlt => hb.block k hlt)
def InT (T : Nat) (v : Value) (k : Nat) : Prop := k = T ∨ v.ownBlock = some k
def EndsPutT (W : World) (T base : Nat) (v : Value) (l : List Int) (e : Ending) (W' : World) : Prop :=
  e = .returned (.tuple #[]) ∧ ∃ v', Tape W' T base v' l ∧ Turned (InT T v) W W' ∧ (v'.ownBlock = v.ownBlock ∨ ∃ g, v'.ownBlock = some g ∧ W.heap.size ≤ g)
set_option maxRecDepth 100000 in
set_option maxHeartbeats 4000000 in
theorem put_tape {T base : Nat} {v : Value} {l b : List Int} (A : Option Addr) (c : Nat) (W : World) (hT : Tape W T base v l) (hC : Kd.C (Kd.int .u8) W A b.length b) (hc : b.length ≤ c) (hsz : l.length + b.length + 512 ≤ 140737488355328) (hbase : base ≤ W.heap.size) :
    Calls Tryd.prog 40 #[.pointer (some ⟨T, 0, none⟩), .slice A b.length c] W (EndsPutT W T base v (l ++ fillL b)) := by
  have hne := hT.ne
  obtain ⟨A0, c0, rfl⟩ := Kd.R_slice hT.2
  have HT := Aside0.mk hT
  have HC := Aside0.mk hC
  have k0 : W.cell? ⟨T, 0, none⟩ = some (.slice A0 l.length c0) := (Blk.cell hT.1 0).trans rfl
  have kf : W.frozen? ⟨T, 0, none⟩ = false := Blk.free hT.1 0
  have hlt := Blk.lt hT.1
  have HE : Aside0 (EndsPutT W T base (.slice A0 l.length c0) (l ++ fillL b) = fun e W' => e = .returned (.tuple #[]) ∧ ∃ v', Tape W' T base v' (l ++ fillL b) ∧ Turned (InT T (.slice A0 l.length c0)) W W' ∧ (v'.ownBlock = (Value.slice A0 l.length c0).ownBlock ∨ ∃ g, v'.ownBlock = some g ∧ W.heap.size ≤ g)) := ⟨rfl⟩
  obtain ⟨PE, hPE⟩ : ∃ PE, EndsPutT W T base (.slice A0 l.length c0) (l ++ fillL b) = PE := ⟨_, rfl⟩
  rw [hPE] at HE ⊢
  have HNE := Aside0.mk hne
  clear hT hC hPE hne
  go_enter Tryd.func40, Tryd.ntmps40
  by_cases hn : b.length % 512 = 0
  case' pos => have hnz : decide ((0 : Int) < (b.length : Int) % 512) = false := decide_eq_false (by omega)
  case' neg => have hnz : decide ((0 : Int) < (b.length : Int) % 512) = true := decide_eq_true (by omega)
  all_goals go_wp2_with (first | (at_builtin; refine Kd.R_append_rows (Kd.int .u8) (w0 := W) base rfl (.tmp 9) (.tmp 10) 23 5 (.int .u8 0) 1 rfl Tryd.underlying23 info5 rfl (by decide) (by omega) (.slice A0 l.length c0) l b A b.length c (fun _ => True) (fun _ => False) rfl rfl HT.out.2 HC.out (fun _ _ h => h) (fun _ h => h.elim) (fun _ _ => trivial) (Below.refl _ _) hbase (by omega) ?_; intro v1 w1 ho hb hg hat; obtain ⟨A1, c1, rfl⟩ := Kd.R_slice ho; have HO1 := Aside0.mk ho; have HG1 := Aside0.mk hg; have HAT1 := Aside0.mk hat; have hx1 : Blk w1 T #[.slice A0 l.length c0] 59 := (hg.block T (Blk.lt HT.out.1) (fun e => HNE.out e.symm)).trans HT.out.1; have k1 : w1.cell? ⟨T, 0, none⟩ = some (.slice A0 l.length c0) := (Blk.cell hx1 0).trans rfl; have kf1 : w1.frozen? ⟨T, 0, none⟩ = false := Blk.free hx1 0; have hlt1 := Blk.lt hx1; have HT1 : Aside0 (Turned (InT T (.slice A0 l.length c0)) W (w1.setCell ⟨T, 0, none⟩ (.slice A1 (l.length + b.length) c1))) := ⟨((Turned.refl (InT T (.slice A0 l.length c0)) W).grown hg (fun k hk => .inl (.inr hk))).setCell (p := ⟨T, 0, none⟩) (.inl (.inl rfl)) _⟩; have HO2 : Aside0 (RB (w1.setCell ⟨T, 0, none⟩ (.slice A1 (l.length + b.length) c1)) base (.slice A1 (l.length + b.length) c1) (l ++ b)) := ⟨by rw [← List.length_append]; exact Kd.R_set ho hx1 (by decide) 0 _⟩; have HX2 : Aside0 (Blk (w1.setCell ⟨T, 0, none⟩ (.slice A1 (l.length + b.length) c1)) T #[.slice A1 (l.length + b.length) c1] 59) := ⟨hx1.set 0 _⟩; rw [List.length_append] at HAT1; have HS2 : Aside0 (base ≤ (w1.setCell ⟨T, 0, none⟩ (.slice A1 (l.length + b.length) c1)).heap.size) := ⟨by have := hg.size; simp [World.setCell]; omega⟩; have HW2 : Aside0 (W.heap.size ≤ (w1.setCell ⟨T, 0, none⟩ (.slice A1 (l.length + b.length) c1)).heap.size) := ⟨by have := hg.size; simp [World.setCell]; omega⟩; clear ho hb hg hat hx1) | (at_builtin; refine Kd.R_append_zeros (Kd.int .u8) (w0 := w1.setCell ⟨T, 0, none⟩ (.slice A1 (l.length + b.length) c1)) base rfl (.tmp 23) (.tmp 25) 23 3 5 (.int .u8 0) 1 rfl Tryd.underlying23 Tryd.underlying3 info5 rfl (by decide) (by omega) (.slice A1 (l.length + b.length) c1) (l ++ b) 0 (512 - (b.length : Int) % 512) (fun _ => True) rfl rfl rfl (fun _ _ => trivial) HO2.out (by omega) (Below.refl _ _) HS2.out (by rw [List.length_append]; omega) ?_; intro v3 w3 ho hb hg hat; obtain ⟨L3, hL3⟩ : ∃ L3, l ++ b ++ List.replicate (512 - (b.length : Int) % 512).toNat (0 : Int) = L3 := ⟨_, rfl⟩; rw [hL3] at ho; have HL3 := Aside0.mk hL3; obtain ⟨A3, c3, rfl⟩ := Kd.R_slice ho; have hx3 : Blk w3 T #[.slice A1 (l.length + b.length) c1] 59 := (hg.block T (Blk.lt HX2.out) (fun e => Kd.R_ne HO2.out HX2.out (by decide) e)).trans HX2.out; have k3 : w3.cell? ⟨T, 0, none⟩ = some (.slice A1 (l.length + b.length) c1) := (Blk.cell hx3 0).trans rfl; have kf3 : w3.frozen? ⟨T, 0, none⟩ = false := Blk.free hx3 0; have hlt3 := Blk.lt hx3; have HX3 := Aside0.mk hx3; have HO3 := Aside0.mk ho; have HG3 := Aside0.mk hg; have HAT3 := Aside0.mk hat; clear ho hb hg hat hx3 hL3))
  · refine bodyPost_end (v := .tuple #[]) (by simp [results, Tryd.f40, go_sem]) rfl ?_
    rw [HE.out]
    have e : l ++ fillL b = L3 := by
      rw [← HL3.out, List.append_assoc]
      unfold fillL zs
      congr 3
      omega
    rw [e]
    refine ⟨rfl, _, ⟨HX3.out.set 0 _, Kd.R_set HO3.out HX3.out (by decide) 0 _⟩, (HT1.out.grown HG3.out (fun k hk => ?_)).setCell (p := ⟨T, 0, none⟩) (.inl (.inl rfl)) _, ?_⟩
    · rcases HAT1.out with h | ⟨g, h, hg⟩
      · exact .inl (.inr (h.symm.trans hk))
      · exact .inr (by have e9 := h.symm.trans hk; injection e9 with e9; omega)
    · rcases HAT3.out with h | ⟨g, h, hg⟩
      · rw [h]; exact HAT1.out
      · exact .inr ⟨g, h, Nat.le_trans HW2.out hg⟩
  · refine bodyPost_end (v := .tuple #[]) (by simp [results, Tryd.f40, go_sem]) rfl ?_
    rw [HE.out]
    refine ⟨rfl, _, ⟨HX2.out, ?_⟩, HT1.out, HAT1.out⟩
    have e : fillL b = b := by unfold fillL; rw [hn]; simp [zs]
    rw [e]
    exact HO2.out
end Go.Proofs.YtopehfjohifpnaaDoor.Mine
end
section
set_option linter.unusedSimpArgs false
set_option linter.unusedVariables false
namespace Go.Proofs.YtopehfjohifpnaaDoor.Mine
open Go.RowKit Go.Shelf Go.Proofs.YtopehfjohifpnaaDoorW.PrintWords Go.Proofs.YtopehfjohifpnaaDoorW.PrintLast Go.Proofs.YtopehfjohifpnaaDoorW.PrintMore Go.Proofs.YtopehfjohifpnaaDoor.Turn Go.Proofs.YtopehfjohifpnaaDoor.Doc
attribute [local go_sem] Oper.semAt_some
def KpE (n0 Bn : Nat) (W W' : World) : Prop := Below n0 W W' ∧ W'.heap[Bn]? = W.heap[Bn]?
theorem kpE_t {n0 Bn : Nat} {A B C : World} (h : KpE n0 Bn A B) (k : KpE n0 Bn B C) : KpE n0 Bn A C := ⟨h.1.trans k.1, k.2.trans h.2⟩
theorem kpE_b {n0 Bn : Nat} {w : World} (hn : n0 ≤ w.heap.size) (hB : Bn < w.heap.size) (W : World) (l : Nat) (o o' : Obj) (hl : w.heap.size ≤ l) (h : W.heap[l]? = some o) (h1 : o.isCells = false) (h2 : o.isWalk = false) : KpE n0 Bn W (W.putObj l o') :=
  ⟨belowK_b (w := w) hn W l o o' hl h h1 h2, (grownBy_putObj' W l o').block Bn (by have := (Array.getElem?_eq_some_iff.1 h).1; omega) (by simp; omega)⟩
theorem cell_same {W W' : World} {b i : Nat} {v : Value} (h : W.cell? ⟨b, i, none⟩ = some v) (he : W'.heap[b]? = W.heap[b]?) : W'.cell? ⟨b, i, none⟩ = some v := (World.cell?_of_block he).trans h
set_option maxRecDepth 100000 in
set_option maxHeartbeats 2000000 in
theorem each1_in (F : Fence) (n : Nat) (h57 : F.fn 57) (h43 : F.fn 43) (hro : F.round = none) (hn : 6 ≤ n) (l Bn n0 : Nat) (s : ByteArray) (hs : s.size ≤ 400) (J Jx : List S95 → World → Prop)
    (hY : ∀ pre x W, J pre W → pre.length < (pcs s).length → YieldAt F (n - 1) Tryd.prog l #[.int .i64 x.f0, .string x.f1] W fun e W' =>
      (e = .returned (.bool true) ∧ J (pre ++ [x]) W' ∧ KpE n0 Bn W W') ∨ (e = .returned (.bool false) ∧ Jx (pre ++ [x]) W'))
    (hIB : ∀ (m : Nat) (t : ByteArray) (W : World), 1 ≤ m → CallsIn F m Tryd.prog 43 #[.string t, .int .u8 47] W fun e W' => e = .returned (.int .i64 (Lib.indexByte t.data.toList 47)) ∧ W' = W)
    (W : World) (hBn : W.cell? ⟨Bn, 0, none⟩ = some (.string s)) (h0 : J [] W) :
    CallsIn F n Tryd.prog 57 #[.func (.yield l) #[] #[], .pointer (some ⟨Bn, 0, none⟩)] W fun e W' => (∃ v, e = .returned v) ∧
      ((∃ ys, ys = pcs s ∧ J ys W') ∨ (∃ pre, pre <+: pcs s ∧ Jx pre W')) := by
  refine callsIn_of_wp Tryd.func57 rfl h57 ?_ hro
  simp only [Tryd.ntmps57, List.size_toArray, List.length_cons, List.length_nil, Nat.reduceAdd, Nat.reduceSub, Array.replicate_succ, Array.replicate_zero, List.push_toArray, List.append_toArray, List.nil_append, List.cons_append]
  have h1 : 1 ≤ n - 1 := by omega
  have h1n : 1 ≤ n := by omega
  gi_wp2
  gi_loopw [3] (fun v3 wr => ∃ (pre : List S95) (a : Nat), v3 = .int .i64 a ∧ a ≤ s.size ∧ pcs s = pre ++ pcG s (s.size - a) a a ∧ J pre wr ∧ wr.cell? ⟨Bn, 0, none⟩ = some (.string s))
    (fun v3 _ => s.size + 1 - (intOf v3).toNat)
  case atStart => exact ⟨[], 0, rfl, Nat.zero_le _, rfl, h0, hBn⟩
  case round =>
    obtain ⟨pre, a, rfl, ha, hx, hJ, hbn⟩ := hrel
    have HX := Aside0.mk hx
    have HIX := Aside0.mk hIB
    have HYX := Aside0.mk hY
    clear hx
    rcases Int.lt_or_le (Lib.indexByte (s.extract a s.size).data.toList 47) 0 with hneg | hpos
    · have hl := pcs_last s a ha hneg
      have HL : Aside0 (pcs s = pre ++ [⟨(a : Int), s.extract a s.size⟩]) := ⟨by rw [HX.out, hl]⟩
      obtain ⟨fn, tmps, assign, body, hy, hR⟩ := HYX.out pre ⟨(a : Int), s.extract a s.size⟩ wr hJ (by rw [HL.out]; simp)
      dsimp only at hy
      have hcall := HIX.out (n - 1) (s.extract a s.size) wr h1
      generalize Lib.indexByte (s.extract a s.size).data.toList 47 = ix at *
      have HCALL := Aside0.mk hcall
      clear hl hIB hY hBn h0 hcall
      gi_wp2_with (gi_at_call 43; refine HCALL.out.mono ?_; rintro e w' ⟨rfl, rfl⟩)
      refine hR.mono ?_
      rintro e W3 (⟨rfl, hJ3, hk3⟩ | ⟨rfl, hJx3⟩)
      · gi_wp2
        refine bodyPost_ret (results_none rfl _ _ _) rfl ?_
        exact ⟨⟨_, rfl⟩, .inl ⟨_, HL.out.symm, hJ3⟩⟩
      · gi_wp2
        refine bodyPost_ret (results_none rfl _ _ _) rfl ?_
        exact ⟨⟨_, rfl⟩, .inr ⟨_, by rw [HL.out]; exact List.prefix_refl _, hJx3⟩⟩
    · obtain ⟨k, hk⟩ : ∃ k : Nat, Lib.indexByte (s.extract a s.size).data.toList 47 = k := ⟨(Lib.indexByte (s.extract a s.size).data.toList 47).toNat, by omega⟩
      obtain ⟨hlt, hm⟩ := pcs_more s a k ha hk
      have HL : Aside0 (pcs s = (pre ++ [⟨(a : Int), s.extract a (a + k)⟩]) ++ pcG s (s.size - (a + k + 1)) (a + k + 1) (a + k + 1)) := ⟨by rw [HX.out, hm]; simp⟩
      obtain ⟨fn, tmps, assign, body, hy, hR⟩ := HYX.out pre ⟨(a : Int), s.extract a (a + k)⟩ wr hJ (by rw [HL.out]; simp)
      dsimp only at hy
      have hcall := HIX.out (n - 1) (s.extract a s.size) wr h1
      rw [hk] at hcall
      have HCALL := Aside0.mk hcall
      have hsl : ∀ W, (Instr.slice 9 (.string s) (some (.int .i64 (a : Int))) (some (.int .i64 ((a : Int) + (k : Int)))) none).run Tryd.prog W = .ok (.string (s.extract a (a + k))) W := fun W => by
        have h := run_slice_string (P := Tryd.prog) (w := W) 9 s .i64 .i64 (a : Int) ((a : Int) + (k : Int)) Tryd.underlying9 (by omega) (by omega) (by omega)
        rw [h]
        congr 3
      clear hm hIB hY hBn h0 hcall hk hpos
      gi_wp2_with (gi_at_call 43; refine HCALL.out.mono ?_; rintro e w' ⟨rfl, rfl⟩)
      refine hR.mono ?_
      rintro e W3 (⟨rfl, hJ3, hk3⟩ | ⟨rfl, hJx3⟩)
      · have hbn3 := cell_same hbn hk3.2
        gi_wp2
        go_roundw
        case rel => exact ⟨_, a + k + 1, by go_num, by omega, HL.out, hJ3, hbn3⟩
        case measure => simp [intOf]; omega
      · gi_wp2
        refine bodyPost_ret (results_none rfl _ _ _) rfl ?_
        exact ⟨⟨_, rfl⟩, .inr ⟨_, by rw [HL.out]; exact List.prefix_append _ _, hJx3⟩⟩
set_option maxHeartbeats 1000000 in
theorem each_in (F : Fence) (n : Nat) (h42 : F.fn 42) (hro : F.round = none) (s : ByteArray) (w : World) :
    CallsIn F n Tryd.prog 42 #[.string s] w fun e w' => e = .returned (.func (.func 57) #[] #[.pointer (some ⟨w.heap.size, 0, none⟩)]) ∧ w' = w.alloc (.cells #[.string s] 9) := by
  refine callsIn_of_wp Tryd.func42 rfl h42 ?_ hro
  simp only [Tryd.ntmps42, List.size_toArray, List.length_cons, List.length_nil, Nat.reduceAdd, Nat.reduceSub, Array.replicate_succ, Array.replicate_zero, List.push_toArray, List.append_toArray, List.nil_append, List.cons_append]
  gi_wp2
  go_ret
  exact ⟨rfl, rfl⟩
theorem each_stops (F : Fence) (n : Nat) (h57 : F.fn 57) (h43 : F.fn 43) (hro : F.round = none) (hn : 6 ≤ n) (hIB : ∀ (m : Nat) (t : ByteArray) (W : World), 1 ≤ m → CallsIn F m Tryd.prog 43 #[.string t, .int .u8 47] W fun e W' => e = .returned (.int .i64 (Lib.indexByte t.data.toList 47)) ∧ W' = W) (Bn n0 : Nat) (s : ByteArray) (hs : s.size ≤ 400) (w : World) (hBn : Bn < w.heap.size) (hc : w.cell? ⟨Bn, 0, none⟩ = some (.string s)) :
    SeqStopsK F n Tryd.prog 57 #[.pointer (some ⟨Bn, 0, none⟩)] (fun x : S95 => #[.int .i64 x.f0, .string x.f1]) (KpE n0 Bn) (fun ys => ys = pcs s) (fun pre => pre <+: pcs s) (pcs s).length w := fun l J Jx W hW _ _ hY h0 =>
  each1_in F n h57 h43 hro hn l Bn n0 s hs J Jx hY hIB W ((hW.cell (p := ⟨Bn, 0, none⟩) hBn).trans hc) h0
end Go.Proofs.YtopehfjohifpnaaDoor.Mine
end
