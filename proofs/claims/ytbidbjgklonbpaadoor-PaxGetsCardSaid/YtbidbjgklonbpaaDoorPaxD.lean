/- pax: Record, by both. -/
import Derived.Test.YtbidbjgklonbpaaDoorPaxC
import Derived.Test.YtbidbjgklonbpaaDoorBehind
import Derived.Lib.Bytes
set_option linter.unusedSimpArgs false
set_option linter.unusedVariables false
namespace Go.Proofs.YtbidbjgklonbpaaDoor.Mine
open Go.RowKit Go.Maps Go.Proofs.YtbidbjgklonbpaaDoorW.PrintWords Go.Proofs.YtbidbjgklonbpaaDoorW.PrintLast Go.Proofs.YtbidbjgklonbpaaDoorW.PrintMore Go.Proofs.YtbidbjgklonbpaaDoor.Turn Go.Proofs.YtbidbjgklonbpaaDoor.PPaxGets

/-- A record, if the pair fits. -/
def recV (k v : ByteArray) (d : Nat) : List Int := if fitN k v = 0 then recL k v d else []
def EndsRec (w : World) (k v : ByteArray) (d : Nat) (e : Ending) (w' : World) : Prop := ∃ A c, e = .returned (.tuple #[.slice A (recV k v d).length c, .int .i64 (fitN k v)]) ∧ Own w' w.heap.size (.slice A (recV k v d).length c) (recV k v d) ∧ Below w.heap.size w w'
theorem fit_small {k v : ByteArray} (h : fitN k v = 0) : k.size ≤ 32 ∧ v.size ≤ 1024 := by
  unfold fitN at h
  split at h
  · cases h
  · rename_i h1
    split at h
    · cases h
    · omega
theorem fit_rg (k v : ByteArray) : fitN k v = 91 ∨ fitN k v = 2 ∨ fitN k v = 0 := by
  unfold fitN
  split
  · exact .inl rfl
  · split
    · exact .inr (.inl rfl)
    · exact .inr (.inr rfl)

set_option maxHeartbeats 4000000 in
theorem record_any (k v : ByteArray) (hk : k.size ≤ 140737488351232) (hv : v.size ≤ 140737488351232) {d : Nat} (hd : SizeIs (3 + k.size + v.size) d) (w : World) (ht : Tab w) :
    Calls Tryd.prog 12 #[.agg #[.string k, .string v]] w (EndsRec w k v d) := by
  have HB0 := Aside0.mk (below_alloc (Below.refl w.heap.size w) (.cells #[.string k, .string v] 23))
  have HX0 := Aside0.mk (Blk.new w #[.string k, .string v] 23)
  have HT := Aside0.mk ht
  have HD := Aside0.mk hd
  clear ht hd
  have HF := Aside0.mk (fits_any k v)
  have hrg := fit_rg k v
  have HRV : Aside0 (recV k v d = if fitN k v = 0 then recL k v d else []) := ⟨rfl⟩
  have HFIT : Aside0 (fitN k v = 0 → k.size ≤ 32 ∧ v.size ≤ 1024) := ⟨fun h => by
    unfold fitN at h
    split at h
    · cases h
    · rename_i h1
      split at h
      · cases h
      · omega⟩
  have HE : Aside0 (EndsRec w k v d = fun e w' => ∃ A c, e = .returned (.tuple #[.slice A (recV k v d).length c, .int .i64 (fitN k v)]) ∧ Own w' w.heap.size (.slice A (recV k v d).length c) (recV k v d) ∧ Below w.heap.size w w') := ⟨rfl⟩
  obtain ⟨P, hP⟩ : ∃ P, EndsRec w k v d = P := ⟨_, rfl⟩
  rw [hP] at HE ⊢
  clear hP
  generalize recV k v d = R at *
  generalize fitN k v = f at *
  go_enter Tryd.func12, Tryd.ntmps12
  go_wp2_with fail
  refine (HF.out _).mono ?_
  rintro e w2 ⟨rfl, hb⟩
  have HB2 := Aside0.mk (below_step HB0.out hb)
  have hx2 : Blk w2 w.heap.size #[.string k, .string v] 23 := (hb.block _ HX0.out.lt).trans HX0.out
  have hl2 := hx2.lt
  have hx20 : World.cell? w2 ⟨w.heap.size, 0, none⟩ = some (.string k) := Blk.cell hx2 0
  have hx21 : World.cell? w2 ⟨w.heap.size, 1, none⟩ = some (.string v) := Blk.cell hx2 1
  clear hb hx2
  by_cases h0 : f = 0
  · subst h0
    have hfit := HFIT.out rfl
    have hk32 := hfit.1
    have hv32 := hfit.2
    have HRR : Aside0 (R = recL k v d) := ⟨by rw [HRV.out, if_pos rfl]⟩
    clear hfit HRV hrg
    go_wp2_with fail
    refine (lay_any (B := w.heap.size) (l := []) k v hk hv (by simp; omega) HD.out w2 (HT.out.b.on HB2.out) HB2.out.size (Own.nil _ _)).mono ?_
    rintro e w3 ⟨v', rfl, ho, hb⟩
    rw [List.nil_append, ← HRR.out] at ho
    obtain ⟨A, c, rfl⟩ := own_slice ho
    have HO := Aside0.mk ho
    have HB3 := Aside0.mk (HB2.out.trans hb)
    clear ho hb
    go_wp2_with fail
    rw [HE.out]
    exact ⟨A, c, rfl, HO.out, HB3.out⟩
  · have HRR : Aside0 (R = []) := ⟨by rw [HRV.out, if_neg h0]⟩
    have hne : (f == 0) = false := beq_eq_false_iff_ne.2 h0
    have hne2 : (f != 0) = true := bne_iff_ne.2 h0
    clear HRV h0 hrg
    go_wp2_with fail
    rw [HE.out, HRR.out]
    exact ⟨none, 0, rfl, Own.nil _ _, HB2.out⟩

theorem decimalR_any (n : Nat) (hn : n ≤ 9223372036854775807) (x : Int) (hx : x = n) (w : World) : Calls Tryd.prog 34 #[.int .i64 x] w fun e w' => e = .returned (.string ⟨(Lib.decDigits n).toArray⟩) ∧ Below w.heap.size w w' := by
  subst hx
  exact tabularyref09_decimal.calls 20 n _ w (decimal_f n 20 hn (Nat.le_refl _))
def EndsRecR (w : World) (k v : ByteArray) (d : Nat) (e : Ending) (w' : World) : Prop := ∃ A c, e = .returned (.tuple #[.slice A (recV k v d).length c, .int .i64 (fitN k v)]) ∧ (recV k v d).length ≤ c ∧ Kd.F (Kd.int .u8) w' (fun k => w.heap.size ≤ k) A (recV k v d).length (recV k v d) ∧ Below w.heap.size w w'
/-- The record as a string. -/
def recS (k v : ByteArray) (d : Nat) : ByteArray := (⟨(Lib.decDigits (3 + k.size + v.size + d)).toArray⟩ : ByteArray) ++ ⟨#[32]⟩ ++ k ++ ⟨#[61]⟩ ++ v ++ ⟨#[10]⟩

theorem recS_bytes (k v : ByteArray) (d : Nat) : bytesOf (recS k v d) = recL k v d := by
  unfold recS recL bytesOf decL
  simp only [ByteArray.data_append, Array.toList_append, List.map_append]
  rfl
theorem bytes_C (w0 : World) {W : World} {s : ByteArray} {g : Nat} {fz : Nat × Nat} (h : W.heap[g]? = some (.cells (Lib.bytesCells w0 5 s) 5 fz)) (hs : s.size ≤ 9223372036854775807) : Kd.C (Kd.int .u8) W (some ⟨g, 0, none⟩) s.size (bytesOf s) := by
  refine ⟨bytesOf_length s, hs, fun _ => ⟨_, rfl, fun j p hj => ⟨[.int .u8 p], rfl, rfl, fun i u hu => ?_⟩⟩⟩
  match i, hu with
  | 0, hu =>
    simp only [List.getElem?_cons_zero, Option.some.injEq] at hu
    subst hu
    have hjl : j < s.size := by
      have := (List.getElem?_eq_some_iff.1 hj).1
      rwa [bytesOf_length] at this
    have hc : W.cell? ⟨g, j, none⟩ = some (.int .u8 p) := by
      have e1 : W.cell? ⟨g, j, none⟩ = (Lib.bytesCells w0 5 s)[j]? := by simp [World.cell?, h]
      rw [e1]
      unfold Lib.bytesCells
      rw [Array.getElem?_append_left (by simpa using hjl), Array.getElem?_map]
      unfold bytesOf at hj
      rw [List.getElem?_map] at hj
      cases hq : s.data.toList[j]? with
      | none => rw [hq] at hj; cases hj
      | some b =>
        rw [hq] at hj
        cases hj
        rw [Array.getElem?_toList] at hq
        rw [hq]
        rfl
    rcases Nat.eq_zero_or_pos j with rfl | hj0
    · simpa [Addr.add, Kd.int, Kd.scalar] using hc
    · simpa [Addr.add, Kd.int, Kd.scalar, Nat.ne_of_gt hj0] using hc
  | i + 1, hu => simp at hu
theorem bytes_F (w0 : World) {W : World} {s : ByteArray} {g B : Nat} {fz : Nat × Nat} (h : W.heap[g]? = some (.cells (Lib.bytesCells w0 5 s) 5 fz)) (hg : B ≤ g) (hs : s.size ≤ 9223372036854775807 := by omega) : Kd.F (Kd.int .u8) W (fun k => B ≤ k) (some ⟨g, 0, none⟩) s.size (bytesOf s) :=
  fun W' hW => bytes_C w0 ((hW g hg (blk_lt h)).trans h) hs

set_option maxHeartbeats 4000000 in
set_option maxRecDepth 100000 in
theorem recordR_any (k v : ByteArray) (hk : k.size ≤ 140737488351232) (hv : v.size ≤ 140737488351232) {d : Nat} (hd : SizeIs (3 + k.size + v.size) d) (w : World) :
    Calls Tryd.prog 13 #[.agg #[.string k, .string v]] w (EndsRecR w k v d) := by
  have HB0 := Aside0.mk (below_alloc (Below.refl w.heap.size w) (.cells #[.string k, .string v] 23))
  have HX0 := Aside0.mk (Blk.new w #[.string k, .string v] 23)
  have HD := Aside0.mk hd
  have hd2 := hd.2.1
  have hdl : (⟨(Lib.decDigits (3 + k.size + v.size + d)).toArray⟩ : ByteArray).size = d := (size_of _).trans ((Lib.decDigits_length _).trans hd.2.2.1)
  clear hd
  have HF := Aside0.mk (fitsR_any k v hk)
  have HSZ := Aside0.mk (sizeR_any k v hk hv HD.out)
  have HDC := Aside0.mk (decimalR_any (3 + k.size + v.size + d) (by omega) (3 + (k.size : Int) + (v.size : Int) + (d : Int)) (by omega))
  have HFIT : Aside0 (fitN k v = 0 → k.size ≤ 32 ∧ v.size ≤ 1024) := ⟨fit_small⟩
  have HRV : Aside0 (recV k v d = if fitN k v = 0 then recL k v d else []) := ⟨rfl⟩
  have HRS : Aside0 (recS k v d = (⟨(Lib.decDigits (3 + k.size + v.size + d)).toArray⟩ : ByteArray) ++ ⟨#[32]⟩ ++ k ++ ⟨#[61]⟩ ++ v ++ ⟨#[10]⟩) := ⟨rfl⟩
  have HE : Aside0 (EndsRecR w k v d = fun e w' => ∃ A c, e = .returned (.tuple #[.slice A (recV k v d).length c, .int .i64 (fitN k v)]) ∧ (recV k v d).length ≤ c ∧ Kd.F (Kd.int .u8) w' (fun k => w.heap.size ≤ k) A (recV k v d).length (recV k v d) ∧ Below w.heap.size w w') := ⟨rfl⟩
  obtain ⟨P, hP⟩ : ∃ P, EndsRecR w k v d = P := ⟨_, rfl⟩
  rw [hP] at HE ⊢
  clear hP
  generalize recV k v d = R at *
  generalize fitN k v = f at *
  generalize (⟨(Lib.decDigits (3 + k.size + v.size + d)).toArray⟩ : ByteArray) = ds at *
  go_enter Tryd.func13, Tryd.ntmps13
  go_wp2_with fail
  refine (HF.out _).mono ?_
  rintro e w2 ⟨rfl, hb⟩
  have HB2 := Aside0.mk (below_step HB0.out hb)
  have hx2 : Blk w2 w.heap.size #[.string k, .string v] 23 := (hb.block _ HX0.out.lt).trans HX0.out
  have hl2 := hx2.lt
  have hx20 : World.cell? w2 ⟨w.heap.size, 0, none⟩ = some (.string k) := Blk.cell hx2 0
  have hx21 : World.cell? w2 ⟨w.heap.size, 1, none⟩ = some (.string v) := Blk.cell hx2 1
  clear hb hx2
  by_cases h0 : f = 0
  · subst h0
    have HRR : Aside0 (R = recL k v d) := ⟨by rw [HRV.out, if_pos rfl]⟩
    have hk32 := (HFIT.out rfl).1
    have hv32 := (HFIT.out rfl).2
    have lx0 := fun x : Behind w2 => later_cell hx20 x
    have lx1 := fun x : Behind w2 => later_cell hx21 x
    have ll := fun x : Behind w2 => Nat.lt_of_lt_of_le hl2 x.below.size
    obtain ⟨s1, hs1⟩ : ∃ s1, ds ++ (⟨#[32]⟩ : ByteArray) = s1 := ⟨_, rfl⟩
    have z1 : s1.size = d + 1 := by rw [← hs1, ByteArray.size_append, hdl]; rfl
    obtain ⟨s2, hs2⟩ : ∃ s2, s1 ++ k = s2 := ⟨_, rfl⟩
    have z2 : s2.size = d + 1 + k.size := by rw [← hs2, ByteArray.size_append, z1]
    obtain ⟨s3, hs3⟩ : ∃ s3, s2 ++ (⟨#[61]⟩ : ByteArray) = s3 := ⟨_, rfl⟩
    have z3 : s3.size = d + 1 + k.size + 1 := by rw [← hs3, ByteArray.size_append, z2]; rfl
    obtain ⟨s4, hs4⟩ : ∃ s4, s3 ++ v = s4 := ⟨_, rfl⟩
    have z4 : s4.size = d + 1 + k.size + 1 + v.size := by rw [← hs4, ByteArray.size_append, z3]
    obtain ⟨s5, hs5⟩ : ∃ s5, s4 ++ (⟨#[10]⟩ : ByteArray) = s5 := ⟨_, rfl⟩
    have z5 : s5.size = d + 1 + k.size + 1 + v.size + 1 := by rw [← hs5, ByteArray.size_append, z4]; rfl
    have HS5 : Aside0 (recS k v d = s5) := ⟨by rw [HRS.out, hs1, hs2, hs3, hs4, hs5]⟩
    have Z5 := Aside0.mk z5
    have o1 : ∀ w, (Op.stringOp .add ds (⟨#[32]⟩ : ByteArray)).run Tryd.prog w = .ok (.string s1) w := fun w => by rw [← hs1]; exact run_string_add w _ _ (by omega) (by show ((1 : Nat) : Int) ≤ _; omega)
    have o2 : ∀ w, (Op.stringOp .add s1 k).run Tryd.prog w = .ok (.string s2) w := fun w => by rw [← hs2]; exact run_string_add w _ _ (by omega) (by omega)
    have o3 : ∀ w, (Op.stringOp .add s2 (⟨#[61]⟩ : ByteArray)).run Tryd.prog w = .ok (.string s3) w := fun w => by rw [← hs3]; exact run_string_add w _ _ (by omega) (by show ((1 : Nat) : Int) ≤ _; omega)
    have o4 : ∀ w, (Op.stringOp .add s3 v).run Tryd.prog w = .ok (.string s4) w := fun w => by rw [← hs4]; exact run_string_add w _ _ (by omega) (by omega)
    have o5 : ∀ w, (Op.stringOp .add s4 (⟨#[10]⟩ : ByteArray)).run Tryd.prog w = .ok (.string s5) w := fun w => by rw [← hs5]; exact run_string_add w _ _ (by omega) (by show ((1 : Nat) : Int) ≤ _; omega)
    clear hs1 hs2 hs3 hs4 hs5 z1 z2 z3 z4 z5 hdl
    clear HRV
    go_wp2_with fail
    refine wp_region_behind (by kernel_rfl) (by kernel_rfl) ?_
    repeat (go_big_quiet_step (first | (go_at_call 15; exact calls_behind _ (HSZ.out _)) | (go_at_call 34; exact calls_behind _ (HDC.out _))))
    refine wpQuiet_nil ?_
    rintro _ ⟨x, rfl⟩
    have hcv := Lib.run_convert_string_bytes (P := Tryd.prog) (later w2 x) 9 24 5 s5 Tryd.underlying9 Tryd.underlying24 Tryd.underlying5
    have HBX := Aside0.mk (below_step HB2.out x.below)
    have HBY := Aside0.mk (below_step HBX.out (Lib.bytesWorld_below (later w2 x) 5 s5))
    have HLT := Aside0.mk (Nat.le_trans HB2.out.size x.below.size)
    go_wp2_with fail
    rw [HE.out]
    have hR : R = bytesOf s5 := by rw [HRR.out, ← recS_bytes, HS5.out]
    have hlen : R.length = s5.size := by rw [hR, bytesOf_length]
    rw [hR, bytesOf_length]
    exact ⟨_, _, rfl, grownCap_ge _ _ _ _, bytes_F _ (Lib.bytesWorld_at_new (later w2 x) 5 s5) HLT.out (by have := Z5.out; omega), HBY.out⟩
  · have HRR : Aside0 (R = []) := ⟨by rw [HRV.out, if_neg h0]⟩
    have hne : (f == 0) = false := beq_eq_false_iff_ne.2 h0
    have hne2 : (f != 0) = true := bne_iff_ne.2 h0
    clear HRV h0
    go_wp2_with fail
    rw [HE.out, HRR.out]
    exact ⟨none, 0, rfl, Nat.le_refl _, Kd.F_nil _ _ _, HB2.out⟩
end Go.Proofs.YtbidbjgklonbpaaDoor.Mine
