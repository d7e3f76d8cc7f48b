import Derived.Test.YtopehfjohifpnaaDoorZ5
import Derived.Laws.CopyRow
import Derived.Lib.BufferWrite
import Derived.Laws.IdiomCopy
import Derived.Test.YtopehfjohifpnaaDoorZ3
import Derived.Deep.WholeRow
section
set_option linter.unusedSimpArgs false
set_option linter.unusedVariables false
namespace Go.Proofs.YtopehfjohifpnaaDoor.Mine
open Go.RowKit Go.Shelf Go.Proofs.YtopehfjohifpnaaDoorW.PrintWords Go.Proofs.YtopehfjohifpnaaDoorW.PrintLast Go.Proofs.YtopehfjohifpnaaDoorW.PrintMore Go.Proofs.YtopehfjohifpnaaDoor.Turn Go.Proofs.YtopehfjohifpnaaDoor.Doc
section
variable {P : Program}
end
def Img (w : World) (B : Nat) (L : List Int) : Prop := Blk w B (nums .u8 L).toArray 103 ∧ L.length = 512
def setL (L : List Int) (o : Nat) (vs : List Int) : List Int := L.take o ++ vs ++ L.drop (o + vs.length)
theorem setL_length {L vs : List Int} {o : Nat} (h : o + vs.length ≤ L.length) : (setL L o vs).length = L.length := by simp [setL]; omega
theorem setL_nil (L : List Int) (o : Nat) : setL L o [] = L := by simp [setL]
theorem setL_one (L : List Int) (o : Nat) (x : Int) (h : o < L.length) : setL L o [x] = L.set o x := by
  unfold setL
  rw [List.set_eq_take_append_cons_drop, if_pos h]
  simp
theorem Img.lt {w : World} {B : Nat} {L : List Int} (h : Img w B L) : B < w.heap.size := Blk.lt h.1
theorem Img.cell {w : World} {B : Nat} {L : List Int} (h : Img w B L) {i : Nat} (hi : i < 512) : w.cell? ⟨B, i, none⟩ = some (.int .u8 (L.getD i 0)) := by
  rw [Blk.cell h.1]
  have hl : i < L.length := by rw [h.2]; exact hi
  simp [nums, List.getD_eq_getElem?_getD, List.getElem?_eq_getElem hl]
theorem Img.turn {S : Nat → Prop} {w w' : World} {B : Nat} {L : List Int} (h : Img w B L) (ht : Turned S w w') (hS : ¬ S B) : Img w' B L := ⟨(ht.block B h.lt hS).trans h.1, h.2⟩
theorem Img.below {w w' : World} {B : Nat} {L : List Int} (h : Img w B L) (hb : Below w.heap.size w w') : Img w' B L := ⟨(hb.block B h.lt).trans h.1, h.2⟩
theorem Img.reads {w : World} {B : Nat} {L : List Int} (h : Img w B L) : Kd.C (Kd.int .u8) w (some ⟨B, 0, none⟩) 512 L := by
  refine ⟨h.2, by omega, fun _ => ⟨_, rfl, fun j p hj => ⟨[.int .u8 p], rfl, rfl, fun i u hu => ?_⟩⟩⟩
  match i, hu with
  | 0, hu =>
    simp only [List.getElem?_cons_zero, Option.some.injEq] at hu
    subst hu
    have hjl : j < 512 := by rw [← h.2]; exact (List.getElem?_eq_some_iff.1 hj).1
    have hc := h.cell hjl
    rw [List.getD_eq_getElem?_getD, hj, Option.getD_some] at hc
    rcases Nat.eq_zero_or_pos j with rfl | hj0
    · simpa [Addr.add, Kd.int, Kd.scalar] using hc
    · simpa [Addr.add, Kd.int, Kd.scalar, Nat.ne_of_gt hj0] using hc
  | i + 1, hu => simp at hu
theorem und_img : Tryd.prog.underlying 103 = some (.array (Tryd.prog.arrayLen 103) (Tryd.prog.elem 103)) := by kernel_rfl
theorem len_img : Tryd.prog.arrayLen 103 = 512 := by kernel_rfl
theorem elem_img : Tryd.prog.elem 103 = 5 := by kernel_rfl
theorem size5 (W : World) : (sizeOf 5).run Tryd.prog W = .ok 1 W := by kernel_rfl
theorem cut_img (B o : Nat) (ho : o < 512) (W : World) : (Instr.sliceAt 103 (.pointer (some ⟨B, 0, none⟩)) (some (.int .i64 (o : Int))) none none).run Tryd.prog W = .ok (.slice (some ⟨B, o, none⟩) (512 - o) (512 - o)) W := by
  rw [run_sliceAt_array_l W _ ⟨B, 0, none⟩ und_img .i64 (o : Int) (by omega) (by rw [len_img]; omega), elem_img, size5, len_img]
  simp only [Result.andThen_ok, slicedAt, Int.toNat_natCast]
  rw [if_neg (by omega)]
  congr 3
  unfold Addr.add
  split <;> simp_all
theorem cut_img0 (B : Nat) (W : World) : (Instr.sliceAt 103 (.pointer (some ⟨B, 0, none⟩)) none none none).run Tryd.prog W = .ok (.slice (some ⟨B, 0, none⟩) 512 512) W := by
  rw [run_sliceAt_array_all W _ ⟨B, 0, none⟩ und_img, elem_img, size5, len_img]
  simp only [Result.andThen_ok, slicedAt]
  congr 3
theorem info5s : (Tryd.prog.info? 5).map (·.size) = some 1 := by kernel_rfl
theorem turned_setRow (w : World) (g : Nat) (cs : Array Value) : Turned (Eq g) w (w.setRow g cs) := (Turned.refl _ w).setRow (.inl rfl) cs
theorem copy_img {W : World} {B : Nat} {L xs : List Int} {A : Option Addr} (hI : Img W B L) (ty o c : Nat) (hC : Kd.C (Kd.int .u8) W A xs.length xs) (ho : o + xs.length ≤ 512) :
    ∃ W', (Builtin.copy_ #[23, 23] ty #[.slice (some ⟨B, o, none⟩) (512 - o) (512 - o), .slice A xs.length c]).run Tryd.prog W = .ok (goInt xs.length) W' ∧ Img W' B (setL L o xs) ∧ Turned (Eq B) W W' := by
  rcases Nat.eq_zero_or_pos xs.length with h0 | h0
  · have hx : xs = [] := List.eq_nil_of_length_eq_zero h0
    subst hx
    refine ⟨W, ?_, by rw [setL_nil]; exact hI, Turned.refl _ _⟩
    exact run_copy_none W 23 23 ty 5 _ _ _ _ _ _ Tryd.underlying23 info5s (by simp)
  · obtain ⟨hl, hm, hr⟩ := hC
    obtain ⟨ad, rfl, hcell⟩ := hr h0
    have hcs : ∀ j v, (nums .u8 xs)[j]? = some v → W.cell? (ad.add j) = some v := fun j v hj => by
      unfold nums at hj
      rw [List.getElem?_map] at hj
      cases hq : xs[j]? with
      | none => rw [hq] at hj; cases hj
      | some x =>
        rw [hq] at hj
        cases hj
        obtain ⟨cs, hcs, hcs1, hcs2⟩ := hcell j x hq
        have hcs' : cs = [.int .u8 x] := hcs1
        subst hcs'
        have := hcs2 0 _ rfl
        simpa [Kd.int, Kd.scalar] using this
    have hrun := run_copy_row (P := Tryd.prog) W 23 23 ty 5 B o (512 - o) (512 - o) ad xs.length c (nums .u8 L).toArray 103 (nums .u8 xs) Tryd.underlying23 info5s hI.1 (by rw [nums_length]; exact (Nat.min_eq_left (by omega)).symm) hcs (by rw [nums_length, List.size_toArray, nums_length, hI.2]; exact ho) (by simp [nums, Value.oneCell'])
    rw [nums_length] at hrun
    refine ⟨_, hrun, ⟨?_, by rw [setL_length (by rw [hI.2]; exact ho)]; exact hI.2⟩, turned_setRow _ _ _⟩
    have := setRow_heap W B (nums .u8 L).toArray ((nums .u8 L).toArray.toList.take o ++ nums .u8 xs ++ (nums .u8 L).toArray.toList.drop (o + xs.length)).toArray _ _ hI.1
    rw [Blk, this]
    simp [setL, nums]
theorem copy_img_str {W : World} {B : Nat} {L : List Int} (hI : Img W B L) (ty o : Nat) (s : ByteArray) (ho : o + s.size ≤ 512) :
    ∃ W', (Builtin.copy_ #[23, 9] ty #[.slice (some ⟨B, o, none⟩) (512 - o) (512 - o), .string s]).run Tryd.prog W = .ok (goInt s.size) W' ∧ Img W' B (setL L o (bytesOf s)) ∧ Turned (Eq B) W W' := by
  have hrun := Lib.run_copy_row_string (P := Tryd.prog) W 23 9 ty 5 B o (512 - o) (512 - o) s (nums .u8 L).toArray 103 Tryd.underlying23 info5s hI.1 (by omega) (by rw [List.size_toArray, nums_length, hI.2]; exact ho)
  refine ⟨_, hrun, ⟨?_, by rw [setL_length (by rw [hI.2, bytesOf_length]; exact ho)]; exact hI.2⟩, turned_setRow _ _ _⟩
  have := setRow_heap W B (nums .u8 L).toArray ((nums .u8 L).toArray.toList.take o ++ Lib.byteCells s.data.toList ++ (nums .u8 L).toArray.toList.drop (o + s.size)).toArray _ _ hI.1
  rw [Blk, this]
  have hbl := bytesOf_length s
  simp [setL, nums, hbl]
  simp [Lib.byteCells, bytesOf]
set_option maxRecDepth 100000 in
set_option maxHeartbeats 2000000 in
theorem number_any {B : Nat} {L : List Int} (o w : Nat) (n : Int) (hw : W3 w) (ho : o + w ≤ 512) (W : World) (hI : Img W B L) :
    Calls Tryd.prog 64 #[.pointer (some ⟨B, 0, none⟩), .int .i64 o, .int .i64 w, .int .i64 n] W fun e W' => e = .returned (.tuple #[]) ∧ Img W' B (setL L o (octF n w).1) ∧ Turned (Eq B) W W' := by
  have hP := fun W => octal_Put.calls 20 n (w : Int) (octF n w).1 (octF n w).2 W (octPut_f n hw 20 (Nat.le_refl _))
  have hle := octF_le n w (by rcases hw with rfl | rfl | rfl <;> omega)
  generalize octF n w = r at *
  obtain ⟨xs, e0⟩ := r
  dsimp only at hP hle ⊢
  have HI := Aside0.mk hI
  have hlt := hI.lt
  have hwr : 7 ≤ w := by rcases hw with rfl | rfl | rfl <;> omega
  have hcut := fun W => cut_img B o (by omega) W
  clear hI
  go_enter Tryd.func64, Tryd.ntmps64
  go_wp2_with (first | (go_at_call 72; refine (hP _).mono ?_; rintro e W1 ⟨v1, rfl, ho1, hb1⟩; obtain ⟨A1, c1, rfl, hc1, hC1⟩ := Kd.R_reads ho1; have HI1 := Aside0.mk (HI.out.below hb1); have HB1 := Aside0.mk hb1; have HC1 := Aside0.mk hC1; have hlt1 := Nat.lt_of_lt_of_le hlt hb1.size; clear hC1 hb1 ho1; obtain ⟨W2, hrun, hI2, hT2⟩ := copy_img HI1.out 3 o c1 HC1.out (by omega); have HI2 := Aside0.mk hI2; have HT2 := Aside0.mk ((Turned.of_below HB1.out (Eq B)).then_ hT2 (fun k hk => .inl hk)); clear hI2 hT2))
  refine bodyPost_end (v := .tuple #[]) (by simp [results, Tryd.f64, go_sem]) rfl ?_
  exact ⟨rfl, HI2.out, HT2.out⟩
def sumG (L : List Int) : Nat → Nat → Int → Int
  | 0, _, n => n
  | m + 1, i, n => sumG L m (i + 1) (n + if 148 ≤ i ∧ i < 156 then 32 else L.getD i 0)
def sumH (L : List Int) : Int := sumG L L.length 0 0
def Bytes (L : List Int) : Prop := ∀ x ∈ L, 0 ≤ x ∧ x < 256
theorem Bytes.at {L : List Int} (h : Bytes L) (i : Nat) : 0 ≤ L.getD i 0 ∧ L.getD i 0 < 256 := by
  rw [List.getD_eq_getElem?_getD]
  rcases Nat.lt_or_ge i L.length with hi | hi
  · rw [List.getElem?_eq_getElem hi]; exact h _ (List.getElem_mem hi)
  · rw [List.getElem?_eq_none hi]; simp
theorem sumG_rg {L : List Int} (h : Bytes L) : ∀ m i n, 0 ≤ n → n ≤ sumG L m i n ∧ sumG L m i n ≤ n + 255 * m
  | 0, _, n, h0 => by simp [sumG]
  | m + 1, i, n, h0 => by
    have hb := h.at i
    unfold sumG
    split
    · have := sumG_rg h m (i + 1) (n + 32) (by omega); omega
    · have := sumG_rg h m (i + 1) (n + L.getD i 0) (by omega); omega
set_option maxRecDepth 100000 in
set_option maxHeartbeats 2000000 in
theorem sum_any {B : Nat} {L : List Int} (hb : Bytes L) (W : World) (hI : Img W B L) :
    Calls Tryd.prog 73 #[.pointer (some ⟨B, 0, none⟩)] W fun e W' => e = .returned (.int .i64 (sumH L)) ∧ Below W.heap.size W W' := by
  have HI := Aside0.mk hI
  have HBY := Aside0.mk hb
  have HR : Aside0 (sumH L = sumG L 512 0 0) := ⟨by unfold sumH; rw [hI.2]⟩
  generalize sumH L = r at *
  have hlt := hI.lt
  clear hI hb
  go_enter Tryd.func73, Tryd.ntmps73
  go_wp2_with fail
  go_loopw [3, 7] (fun s v wr => ∃ (i : Nat) (n : Int), i ≤ 512 ∧ 0 ≤ n ∧ n ≤ 255 * i ∧ v = .int .i64 i ∧ s = .int .i64 n ∧ Aside0 (r = sumG L (512 - i) i n) ∧ Aside0 (Below W.heap.size W wr)) (fun _ v _ => 512 - (intOf v).toNat)
  case atStart => exact ⟨0, 0, by omega, by omega, by omega, rfl, rfl, HR, ⟨Below.refl _ _⟩⟩
  case round =>
    clear HR
    obtain ⟨i, n, hi, hn0, hn1, rfl, rfl, HR, HB⟩ := hrel
    by_cases h : i < 512
    · have hc := (HI.out.below HB.out).cell h
      have hby := HBY.out.at i
      have HS : Aside0 (r = sumG L (512 - (i + 1)) (i + 1) (n + if 148 ≤ i ∧ i < 156 then 32 else L.getD i 0)) := ⟨by rw [HR.out, show 512 - i = (512 - (i + 1)) + 1 by omega]; rfl⟩
      generalize L.getD i 0 = x at *
      have hbl := World.block_lt_of_cell? _ _ hc
      clear HR
      go_wp2_with fail
      go_region
      go_wp2_with fail
      · have h1 : 148 ≤ i ∧ i < 156 := ⟨by omega, by omega⟩
        refine ⟨⟨i + 1, n + 32, by omega, by omega, by omega, by go_num, rfl, ⟨by rw [HS.out, if_pos h1]⟩, ⟨below_drew HB.out⟩⟩, ?_⟩
        simp [intOf]; omega
      · have h1 : ¬ (148 ≤ i ∧ i < 156) := by omega
        refine ⟨⟨i + 1, n + x, by omega, by omega, by omega, by go_num, rfl, ⟨by rw [HS.out, if_neg h1]⟩, ⟨below_drew HB.out⟩⟩, ?_⟩
        simp [intOf]; omega
      · have h1 : ¬ (148 ≤ i ∧ i < 156) := by omega
        refine ⟨⟨i + 1, n + x, by omega, by omega, by omega, by go_num, rfl, ⟨by rw [HS.out, if_neg h1]⟩, ⟨below_drew HB.out⟩⟩, ?_⟩
        simp [intOf]; omega
    · obtain rfl : i = 512 := by omega
      have HY : Aside0 (r = n) := ⟨by rw [HR.out]; rfl⟩
      go_wp2_with fail
      go_ret
      exact ⟨by rw [HY.out]; rfl, HB.out⟩
def sealL (L : List Int) : List Int := setL (setL L 148 (octF (sumH L) 7).1) 155 [32]
theorem sumH_rg {L : List Int} (h : Bytes L) (hl : L.length = 512) : 0 ≤ sumH L ∧ sumH L ≤ 130560 := by
  have := sumG_rg h 512 0 0 (by omega)
  unfold sumH
  rw [hl]
  omega
theorem octF_ok7 {n : Int} (h0 : 0 ≤ n) (h1 : n ≤ 130560) : (octF n 7).2 = 0 := by
  unfold octF
  rw [if_neg (by omega), if_pos (by omega)]
set_option maxRecDepth 100000 in
set_option maxHeartbeats 2000000 in
theorem seal_any {B : Nat} {L : List Int} (hb : Bytes L) (W : World) (hI : Img W B L) :
    Calls Tryd.prog 65 #[.pointer (some ⟨B, 0, none⟩)] W fun e W' => e = .returned (.tuple #[]) ∧ Img W' B (sealL L) ∧ Turned (Eq B) W W' := by
  have hS := fun W hI => sum_any hb W hI (B := B)
  have hN := fun W hI => number_any (B := B) (L := L) 148 7 (sumH L) (.inl rfl) (by omega) W hI
  have hrg := sumH_rg hb hI.2
  have HE : Aside0 (sealL L = setL (setL L 148 (octF (sumH L) 7).1) 155 [32]) := ⟨rfl⟩
  have hl2 : (setL L 148 (octF (sumH L) 7).1).length = 512 := by
    rw [setL_length, hI.2]
    rw [octF_length (by omega) (octF_ok7 hrg.1 hrg.2), hI.2]
    omega
  generalize setL L 148 (octF (sumH L) 7).1 = L2 at *
  generalize sealL L = L3 at *
  generalize sumH L = n at *
  have HI := Aside0.mk hI
  clear hI hb
  go_enter Tryd.func65, Tryd.ntmps65
  go_wp2_with (first | (go_at_call 73; refine (hS _ HI.out).mono ?_; rintro e W1 ⟨rfl, hb1⟩; have HI1 := Aside0.mk (HI.out.below hb1); have HB1 := Aside0.mk hb1; clear hb1) | (go_at_call 64; refine (hN _ HI1.out).mono ?_; rintro e W2 ⟨rfl, hI2, hT2⟩; have HI2 := Aside0.mk hI2; have HT2 := Aside0.mk ((Turned.of_below HB1.out (Eq B)).then_ hT2 (fun k hk => .inl hk)); have hc := hI2.cell (i := 155) (by omega); have hfz : W2.frozen? ⟨B, 155, none⟩ = false := Blk.free hI2.1 155; have hlt := hI2.lt; clear hI2 hT2))
  refine bodyPost_end (v := .tuple #[]) (by simp [results, Tryd.f65, go_sem]) rfl ?_
  refine ⟨rfl, ?_, HT2.out.setCell (p := ⟨B, 155, none⟩) (.inl rfl) _⟩
  rw [HE.out, setL_one _ _ _ (by omega)]
  refine ⟨?_, by rw [List.length_set]; exact HI2.out.2⟩
  have := HI2.out.1.set 155 (.int .u8 32)
  unfold Blk at this ⊢
  rw [this]
  simp [nums, List.map_set]
end Go.Proofs.YtopehfjohifpnaaDoor.Mine
end
section
set_option linter.unusedSimpArgs false
set_option linter.unusedVariables false
namespace Go.Proofs.YtopehfjohifpnaaDoor.Mine
open Go.RowKit Go.Shelf Go.Proofs.YtopehfjohifpnaaDoorW.PrintWords Go.Proofs.YtopehfjohifpnaaDoorW.PrintLast Go.Proofs.YtopehfjohifpnaaDoorW.PrintMore Go.Proofs.YtopehfjohifpnaaDoor.Turn Go.Proofs.YtopehfjohifpnaaDoor.Doc
def zs (n : Nat) : List Int := List.replicate n 0
theorem zs_length (n : Nat) : (zs n).length = n := List.length_replicate
theorem zs_zs (a b : Nat) : zs a ++ zs b = zs (a + b) := List.replicate_append_replicate
def imgL (pre : List Int) : List Int := pre ++ zs (512 - pre.length)
def appL (pre : List Int) (o : Nat) (vs : List Int) : List Int := pre ++ zs (o - pre.length) ++ vs
theorem appL_length {pre vs : List Int} {o : Nat} (h : pre.length ≤ o) : (appL pre o vs).length = o + vs.length := by
  unfold appL
  rw [List.length_append, List.length_append, zs_length]
  omega
theorem imgL_length {pre : List Int} (h : pre.length ≤ 512) : (imgL pre).length = 512 := by
  unfold imgL
  rw [List.length_append, zs_length]
  omega
theorem setL_img {pre vs : List Int} {o : Nat} (h : pre.length ≤ o) (h2 : o + vs.length ≤ 512) : setL (imgL pre) o vs = imgL (appL pre o vs) := by
  have e : imgL pre = (pre ++ zs (o - pre.length)) ++ (zs vs.length ++ zs (512 - (o + vs.length))) := by
    unfold imgL
    rw [List.append_assoc, zs_zs, zs_zs]
    congr 2
    omega
  have hl : (pre ++ zs (o - pre.length)).length = o := by rw [List.length_append, zs_length]; omega
  unfold setL
  rw [e, List.take_left' hl, List.drop_append, hl, List.drop_eq_nil_of_le (by rw [hl]; omega), List.nil_append, show o + vs.length - o = vs.length by omega, List.drop_left' (zs_length _)]
  unfold imgL
  rw [appL_length h]
  rfl
def magicL : List Int := [117, 115, 116, 97, 114, 0, 48, 48]
def layP (nm pf : ByteArray) (md sz tm ty : Int) (lk : ByteArray) : List Int :=
  appL (appL (appL (appL (appL (appL (appL (appL (appL (appL (appL (appL [] 0 (bytesOf nm)) 100 (octF md 8).1) 108 (octF 0 8).1) 116 (octF 0 8).1) 124 (octF sz 12).1) 136 (octF tm 12).1) 156 [ty]) 157 (bytesOf lk)) 257 magicL) 329 (octF 0 8).1) 337 (octF 0 8).1) 345 (bytesOf pf)
def layF (nm pf : ByteArray) (md sz tm ty : Int) (lk : ByteArray) : List Int := sealL (imgL (layP nm pf md sz tm ty lk))
def nulB (s : ByteArray) : Bool := s.data.toList.contains 0
def mayH (nm pf : ByteArray) (md sz tm ty : Int) (lk : ByteArray) : Int :=
  if ¬ (ty = 48 ∨ ty = 49 ∨ ty = 50 ∨ ty = 53 ∨ ty = 120) then 102 else
  if 100 < nm.size ∨ 100 < lk.size ∨ 155 < pf.size then 2 else
  if nulB nm = true ∨ nulB lk = true ∨ nulB pf = true then 82 else
  if md < 0 ∨ 4095 < md ∨ sz < 0 ∨ 8589934591 < sz ∨ tm < 0 ∨ 1099511627776 < tm then 1 else 0
structure GoodH (nm pf : ByteArray) (md sz tm ty : Int) (lk : ByteArray) : Prop where
  hty : ty = 48 ∨ ty = 49 ∨ ty = 50 ∨ ty = 53 ∨ ty = 120
  hnm : nm.size ≤ 100
  hlk : lk.size ≤ 100
  hpf : pf.size ≤ 155
  nnul : nulB nm = false
  lnul : nulB lk = false
  pnul : nulB pf = false
  hmd : 0 ≤ md ∧ md ≤ 4095
  hsz : 0 ≤ sz ∧ sz ≤ 8589934591
  htm : 0 ≤ tm ∧ tm ≤ 1099511627776
theorem good_of {nm pf lk : ByteArray} {md sz tm ty : Int} (h : mayH nm pf md sz tm ty lk = 0) : GoodH nm pf md sz tm ty lk := by
  unfold mayH at h
  by_cases h1 : ty = 48 ∨ ty = 49 ∨ ty = 50 ∨ ty = 53 ∨ ty = 120
  · rw [if_neg (fun e => e h1)] at h
    by_cases h2 : 100 < nm.size ∨ 100 < lk.size ∨ 155 < pf.size
    · rw [if_pos h2] at h; cases h
    · rw [if_neg h2] at h
      by_cases h3 : nulB nm = true ∨ nulB lk = true ∨ nulB pf = true
      · rw [if_pos h3] at h; cases h
      · rw [if_neg h3] at h
        by_cases h4 : md < 0 ∨ 4095 < md ∨ sz < 0 ∨ 8589934591 < sz ∨ tm < 0 ∨ 1099511627776 < tm
        · rw [if_pos h4] at h; cases h
        · exact ⟨h1, by omega, by omega, by omega, by simpa using fun e => h3 (.inl e), by simpa using fun e => h3 (.inr (.inl e)), by simpa using fun e => h3 (.inr (.inr e)), by omega, by omega, by omega⟩
  · rw [if_pos h1] at h; cases h
theorem oct8_ok {n : Int} (h0 : 0 ≤ n) (h1 : n ≤ 4095) : (octF n 8).2 = 0 := by unfold octF; rw [if_neg (by omega), if_pos (by omega)]
theorem oct12_ok {n : Int} (h0 : 0 ≤ n) (h1 : n ≤ 1099511627776) : (octF n 12).2 = 0 := by
  unfold octF
  rw [if_neg (by omega)]
  split
  · rfl
  · rw [if_pos]
    rw [Nat.div_eq_zero_iff]
    right
    omega
theorem oct8_len {n : Int} (h0 : 0 ≤ n) (h1 : n ≤ 4095) : (octF n 8).1.length = 8 := octF_length (by omega) (oct8_ok h0 h1)
theorem oct12_len {n : Int} (h0 : 0 ≤ n) (h1 : n ≤ 1099511627776) : (octF n 12).1.length = 12 := octF_length (by omega) (oct12_ok h0 h1)
theorem bytesOf_rg (s : ByteArray) : Bytes (bytesOf s) := by
  intro x hx
  unfold bytesOf at hx
  obtain ⟨b, _, rfl⟩ := List.mem_map.1 hx
  have := b.toNat_lt
  omega
theorem Bytes.app {a b : List Int} (ha : Bytes a) (hb : Bytes b) : Bytes (a ++ b) := fun x hx => (List.mem_append.1 hx).elim (ha x) (hb x)
theorem Bytes.zs (n : Nat) : Bytes (zs n) := fun x hx => by rw [List.eq_of_mem_replicate hx]; omega
theorem Bytes.appL {pre vs : List Int} (hp : Bytes pre) (o : Nat) (hv : Bytes vs) : Bytes (appL pre o vs) := (hp.app (Bytes.zs _)).app hv
theorem Bytes.img {pre : List Int} (hp : Bytes pre) : Bytes (imgL pre) := hp.app (Bytes.zs _)
theorem Bytes.oct (n : Int) (w : Nat) : Bytes (octF n w).1 := octF_byte n w
theorem Bytes.set {L vs : List Int} (hL : Bytes L) (o : Nat) (hv : Bytes vs) : Bytes (setL L o vs) := by
  intro x hx
  unfold setL at hx
  rcases List.mem_append.1 hx with h | h
  · rcases List.mem_append.1 h with h | h
    · exact hL x (List.mem_of_mem_take h)
    · exact hv x h
  · exact hL x (List.mem_of_mem_drop h)
section
variable {nm pf lk : ByteArray} {md sz tm ty : Int} (h : GoodH nm pf md sz tm ty lk)
include h
theorem layP_bytes : Bytes (layP nm pf md sz tm ty lk) := by
  unfold layP
  have hty : Bytes [ty] := fun x hx => by rw [List.mem_singleton.1 hx]; have := h.hty; omega
  have hmg : Bytes magicL := by unfold magicL Bytes; decide
  have h0 : Bytes ([] : List Int) := fun x hx => by cases hx
  exact (((((((((((h0.appL 0 (bytesOf_rg nm)).appL 100 (Bytes.oct _ _)).appL 108 (Bytes.oct _ _)).appL 116 (Bytes.oct _ _)).appL 124 (Bytes.oct _ _)).appL 136 (Bytes.oct _ _)).appL 156 hty).appL 157 (bytesOf_rg lk)).appL 257 hmg).appL 329 (Bytes.oct _ _)).appL 337 (Bytes.oct _ _)).appL 345 (bytesOf_rg pf)
end
def padL (l : List Int) (n : Nat) : List Int := l ++ zs (n - l.length)
theorem pad_len {l : List Int} {n : Nat} (h : l.length ≤ n) : (padL l n).length = n := by unfold padL; rw [List.length_append, zs_length]; omega
def layC (nm pf : ByteArray) (md sz tm ty : Int) (lk : ByteArray) : List Int :=
  padL (bytesOf nm) 100 ++ (octF md 8).1 ++ (octF 0 8).1 ++ (octF 0 8).1 ++ (octF sz 12).1 ++ (octF tm 12).1 ++ zs 8 ++ [ty] ++ padL (bytesOf lk) 100 ++ magicL ++ zs 64 ++ (octF 0 8).1 ++ (octF 0 8).1 ++ padL (bytesOf pf) 155 ++ zs 12
theorem appL_at {pre vs : List Int} {o : Nat} (h : o = pre.length) : appL pre o vs = pre ++ vs := by
  unfold appL
  rw [h, Nat.sub_self]
  simp [zs]
theorem appL_gap {pre vs : List Int} {o k : Nat} (h : o = pre.length + k) : appL pre o vs = pre ++ zs k ++ vs := by
  unfold appL
  rw [h, Nat.add_sub_cancel_left]
section
variable {nm pf lk : ByteArray} {md sz tm ty : Int} (h : GoodH nm pf md sz tm ty lk)
include h
theorem layC_eq : imgL (layP nm pf md sz tm ty lk) = layC nm pf md sz tm ty lk := by
  have hn := bytesOf_length nm
  have hl := bytesOf_length lk
  have hp := bytesOf_length pf
  have h1 := h.hnm
  have h2 := h.hlk
  have h3 := h.hpf
  have o8 := oct8_len h.hmd.1 h.hmd.2
  have o0 : (octF 0 8).1.length = 8 := oct8_len (by omega) (by omega)
  have oz := oct12_len (n := sz) h.hsz.1 (by have := h.hsz.2; omega)
  have ot := oct12_len h.htm.1 h.htm.2
  have hm : magicL.length = 8 := rfl
  unfold layP layC
  generalize bytesOf nm = N at *
  generalize bytesOf lk = K at *
  generalize bytesOf pf = P at *
  generalize (octF md 8).1 = M at *
  generalize (octF 0 8).1 = Z at *
  generalize (octF sz 12).1 = S at *
  generalize (octF tm 12).1 = T at *
  generalize magicL = G at *
  have e0 : appL [] 0 N = N := by simp [appL, zs]
  rw [e0]
  have l1 : (padL N 100).length = 100 := pad_len (by omega)
  have e1 : appL N 100 M = padL N 100 ++ M := by unfold appL padL; rfl
  rw [e1, appL_at (o := 108) (by rw [List.length_append]; omega), appL_at (o := 116) (by simp only [List.length_append]; omega), appL_at (o := 124) (by simp only [List.length_append]; omega), appL_at (o := 136) (by simp only [List.length_append]; omega), appL_gap (o := 156) (k := 8) (by simp only [List.length_append]; omega), appL_at (o := 157) (by simp only [List.length_append, zs_length, List.length_singleton]; omega)]
  have e2 : ∀ pre : List Int, pre.length = 157 → appL (pre ++ K) 257 G = pre ++ padL K 100 ++ G := fun pre hpre => by
    unfold appL padL
    rw [List.length_append, hpre, show 257 - (157 + K.length) = 100 - K.length by omega]
    simp only [List.append_assoc]
  rw [e2 _ (by simp only [List.length_append, zs_length, List.length_singleton]; omega)]
  have l2 : (padL K 100).length = 100 := pad_len (by omega)
  rw [appL_gap (o := 329) (k := 64) (by simp only [List.length_append, zs_length, List.length_singleton]; omega), appL_at (o := 337) (by simp only [List.length_append, zs_length, List.length_singleton]; omega), appL_at (o := 345) (by simp only [List.length_append, zs_length, List.length_singleton]; omega)]
  have e3 : ∀ pre : List Int, pre.length = 345 → imgL (pre ++ P) = pre ++ padL P 155 ++ zs 12 := fun pre hpre => by
    unfold imgL padL
    rw [List.length_append, hpre, show 512 - (345 + P.length) = (155 - P.length) + 12 by omega, ← zs_zs]
    simp only [List.append_assoc]
  rw [e3 _ (by simp only [List.length_append, zs_length, List.length_singleton]; omega)]
theorem layP_len : (layP nm pf md sz tm ty lk).length ≤ 512 := by
  have hp := bytesOf_length pf
  have h3 := h.hpf
  have o8 := oct8_len h.hmd.1 h.hmd.2
  have o0 : (octF 0 8).1.length = 8 := oct8_len (by omega) (by omega)
  have oz := oct12_len (n := sz) h.hsz.1 (by have := h.hsz.2; omega)
  have ot := oct12_len h.htm.1 h.htm.2
  have hl := bytesOf_length lk
  have hn := bytesOf_length nm
  have h1 := h.hnm
  have h2 := h.hlk
  have hm : magicL.length = 8 := rfl
  unfold layP
  rw [appL_length (o := 345), hp]
  · omega
  rw [appL_length (o := 337), o0]
  · omega
  rw [appL_length (o := 329), o0]
  · omega
  rw [appL_length (o := 257), hm]
  · omega
  rw [appL_length (o := 157), hl]
  · omega
  rw [appL_length (o := 156)]
  · simp
  rw [appL_length (o := 136), ot]
  · omega
  rw [appL_length (o := 124), oz]
  · omega
  rw [appL_length (o := 116), o0]
  · omega
  rw [appL_length (o := 108), o0]
  · omega
  rw [appL_length (o := 100), o8]
  · omega
  rw [appL_length (o := 0), hn]
  · omega
  simp
end
def putH (nm pf : ByteArray) (md sz tm ty : Int) (lk : ByteArray) : List Int × Int := if mayH nm pf md sz tm ty lk = 0 then (layF nm pf md sz tm ty lk, 0) else ([], mayH nm pf md sz tm ty lk)
end Go.Proofs.YtopehfjohifpnaaDoor.Mine
end
section
set_option linter.unusedSimpArgs false
set_option linter.unusedVariables false
namespace Go.Proofs.YtopehfjohifpnaaDoor.Mine
open Go.RowKit Go.Shelf Go.Proofs.YtopehfjohifpnaaDoorW.PrintWords Go.Proofs.YtopehfjohifpnaaDoorW.PrintLast Go.Proofs.YtopehfjohifpnaaDoorW.PrintMore Go.Proofs.YtopehfjohifpnaaDoor.Turn Go.Proofs.YtopehfjohifpnaaDoor.Doc
theorem nul3 (a b c : ByteArray) : decide (0 ≤ Lib.indexByte ((a ++ b) ++ c).data.toList 0) = (nulB a || nulB b || nulB c) := by
  rw [← Lib.contains_iff_indexByte]
  unfold nulB
  simp only [ByteArray.data_append, Array.toList_append]
  rw [List.contains_append, List.contains_append]
set_option maxRecDepth 100000 in
set_option maxHeartbeats 4000000 in
theorem mayH_any (nm pf : ByteArray) (md sz tm ty : Int) (lk : ByteArray) (W : World) :
    Calls Tryd.prog 55 #[.agg #[.string nm, .string pf, .int .i64 md, .int .i64 sz, .int .i64 tm, .int .u8 ty, .string lk]] W fun e W' => e = .returned (.int .i64 (mayH nm pf md sz tm ty lk)) ∧ Below W.heap.size W W' := by
  have hx0 := Blk.new W #[.string nm, .string pf, .int .i64 md, .int .i64 sz, .int .i64 tm, .int .u8 ty, .string lk] 83
  have HB := Aside0.mk (below_alloc (Below.refl W.heap.size W) (.cells #[.string nm, .string pf, .int .i64 md, .int .i64 sz, .int .i64 tm, .int .u8 ty, .string lk] 83))
  have HM : Aside0 (mayH nm pf md sz tm ty lk =   if ¬ (ty = 48 ∨ ty = 49 ∨ ty = 50 ∨ ty = 53 ∨ ty = 120) then 102 else
  if 100 < nm.size ∨ 100 < lk.size ∨ 155 < pf.size then 2 else
  if nulB nm = true ∨ nulB lk = true ∨ nulB pf = true then 82 else
  if md < 0 ∨ 4095 < md ∨ sz < 0 ∨ 8589934591 < sz ∨ tm < 0 ∨ 1099511627776 < tm then 1 else 0) := ⟨rfl⟩
  generalize mayH nm pf md sz tm ty lk = r at *
  have hIB := fun (t : ByteArray) W => Tryd.strings_IndexByte t 0 W
  have hn3 := nul3 nm lk pf
  have c0 := (Blk.cell hx0 0).trans rfl
  have c1 := (Blk.cell hx0 1).trans rfl
  have c2 := (Blk.cell hx0 2).trans rfl
  have c3 := (Blk.cell hx0 3).trans rfl
  have c4 := (Blk.cell hx0 4).trans rfl
  have c5 := (Blk.cell hx0 5).trans rfl
  have c6 := (Blk.cell hx0 6).trans rfl
  have hlt := hx0.lt
  by_cases hT : ty = 48 ∨ ty = 49 ∨ ty = 50 ∨ ty = 53 ∨ ty = 120
  case neg =>
    have HY : Aside0 (r = 102) := ⟨by rw [HM.out, if_pos hT]⟩
    have t1 : (ty == 48) = false := beq_eq_false_iff_ne.2 (fun e => hT (.inl e))
    have t2 : (ty == 49) = false := beq_eq_false_iff_ne.2 (fun e => hT (.inr (.inl e)))
    have t3 : (ty == 50) = false := beq_eq_false_iff_ne.2 (fun e => hT (.inr (.inr (.inl e))))
    have t4 : (ty == 53) = false := beq_eq_false_iff_ne.2 (fun e => hT (.inr (.inr (.inr (.inl e)))))
    have t5 : (ty == 120) = false := beq_eq_false_iff_ne.2 (fun e => hT (.inr (.inr (.inr (.inr e)))))
    clear HM hn3 hT
    go_enter Tryd.func55, Tryd.ntmps55
    go_wp2_with (go_at_call 43; refine (hIB _ _).mono ?_; rintro e w' ⟨rfl, rfl⟩)
    all_goals first
      | (go_ret; exact ⟨by rw [HY.out]; rfl, HB.out⟩)
      | (exfalso; omega)
  case pos =>
    have HM2 : Aside0 (r = if 100 < nm.size ∨ 100 < lk.size ∨ 155 < pf.size then 2 else
      if nulB nm = true ∨ nulB lk = true ∨ nulB pf = true then 82 else
      if md < 0 ∨ 4095 < md ∨ sz < 0 ∨ 8589934591 < sz ∨ tm < 0 ∨ 1099511627776 < tm then 1 else 0) := ⟨by rw [HM.out, if_neg (fun e => e hT)]⟩
    clear HM
    by_cases hZ : 100 < nm.size ∨ 100 < lk.size ∨ 155 < pf.size
    case pos =>
      have HY : Aside0 (r = 2) := ⟨by rw [HM2.out, if_pos hZ]⟩
      clear HM2 hn3
      rcases hT with rfl | rfl | rfl | rfl | rfl
      all_goals
        go_enter Tryd.func55, Tryd.ntmps55
        go_wp2_with (go_at_call 43; refine (hIB _ _).mono ?_; rintro e w' ⟨rfl, rfl⟩)
        all_goals first
          | (go_ret; exact ⟨by rw [HY.out]; rfl, HB.out⟩)
          | (exfalso; omega)
    case neg =>
      have HM3 : Aside0 (r = if nulB nm = true ∨ nulB lk = true ∨ nulB pf = true then 82 else
        if md < 0 ∨ 4095 < md ∨ sz < 0 ∨ 8589934591 < sz ∨ tm < 0 ∨ 1099511627776 < tm then 1 else 0) := ⟨by rw [HM2.out, if_neg hZ]⟩
      have o1 : ∀ w, (Op.stringOp .add nm lk).run Tryd.prog w = .ok (.string (nm ++ lk)) w := fun w => run_string_add w _ _ (by omega) (by omega)
      have o2 : ∀ w, (Op.stringOp .add (nm ++ lk) pf).run Tryd.prog w = .ok (.string (nm ++ lk ++ pf)) w := fun w => run_string_add w _ _ (by rw [ByteArray.size_append]; omega) (by omega)
      have hix : ∀ W, Calls Tryd.prog 43 #[.string (nm ++ lk ++ pf), .int .u8 0] W fun e W' => e = .returned (.int .i64 (Lib.indexByte (nm ++ lk ++ pf).data.toList 0)) ∧ W' = W := fun W => hIB _ W
      clear HM2 hIB
      generalize Lib.indexByte (nm ++ lk ++ pf).data.toList 0 = ix at *
      generalize nm ++ lk ++ pf = al at *
      by_cases hN : nulB nm = true ∨ nulB lk = true ∨ nulB pf = true
      case pos =>
        have HY : Aside0 (r = 82) := ⟨by rw [HM3.out, if_pos hN]⟩
        have hge : 0 ≤ ix := of_decide_eq_true (by rw [hn3]; rcases hN with h | h | h <;> simp [h])
        clear HM3 hn3 hN
        rcases hT with rfl | rfl | rfl | rfl | rfl
        all_goals
          go_enter Tryd.func55, Tryd.ntmps55
          go_wp2_with (go_at_call 43; refine (hix _).mono ?_; rintro e w' ⟨rfl, rfl⟩)
          all_goals first
            | (go_ret; exact ⟨by rw [HY.out]; rfl, HB.out⟩)
            | (exfalso; omega)
      case neg =>
        have hge : ¬ 0 ≤ ix := of_decide_eq_false (by
          rw [hn3]
          have h1 : nulB nm = false := by simpa using fun e => hN (.inl e)
          have h2 : nulB lk = false := by simpa using fun e => hN (.inr (.inl e))
          have h3 : nulB pf = false := by simpa using fun e => hN (.inr (.inr e))
          rw [h1, h2, h3]; rfl)
        have HM4 : Aside0 (r = if md < 0 ∨ 4095 < md ∨ sz < 0 ∨ 8589934591 < sz ∨ tm < 0 ∨ 1099511627776 < tm then 1 else 0) := ⟨by rw [HM3.out, if_neg hN]⟩
        clear HM3 hn3 hN
        by_cases hR : md < 0 ∨ 4095 < md ∨ sz < 0 ∨ 8589934591 < sz ∨ tm < 0 ∨ 1099511627776 < tm
        case pos =>
          have HY : Aside0 (r = 1) := ⟨by rw [HM4.out, if_pos hR]⟩
          clear HM4
          rcases hT with rfl | rfl | rfl | rfl | rfl
          all_goals
            go_enter Tryd.func55, Tryd.ntmps55
            go_wp2_with (go_at_call 43; refine (hix _).mono ?_; rintro e w' ⟨rfl, rfl⟩)
            all_goals first
              | (go_ret; exact ⟨by rw [HY.out]; rfl, HB.out⟩)
              | (exfalso; omega)
        case neg =>
          have HY : Aside0 (r = 0) := ⟨by rw [HM4.out, if_neg hR]⟩
          clear HM4
          rcases hT with rfl | rfl | rfl | rfl | rfl
          all_goals
            go_enter Tryd.func55, Tryd.ntmps55
            go_wp2_with (go_at_call 43; refine (hix _).mono ?_; rintro e w' ⟨rfl, rfl⟩)
            all_goals first
              | (go_ret; exact ⟨by rw [HY.out]; rfl, HB.out⟩)
              | (exfalso; omega)
end Go.Proofs.YtopehfjohifpnaaDoor.Mine
end
