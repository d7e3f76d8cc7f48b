/- pax: Record, by both. -/
import Derived.Test.YtbidbjgklonbpaaDoorPaxC
import Derived.Test.YtbidbjgklonbpaaDoorBehind
import Derived.Lib.Bytes
set_option linter.unusedSimpArgs false
set_option linter.unusedVariables false
namespace Go.Proofs.YtbidbjgklonbpaaDoor.Mine
open Go.RowKit Go.Maps Go.Proofs.YtbidbjgklonbpaaDoorW.PrintWords Go.Proofs.YtbidbjgklonbpaaDoorW.PrintLast Go.Proofs.YtbidbjgklonbpaaDoorW.PrintMore Go.Proofs.YtbidbjgklonbpaaDoor.Turn Go.Proofs.YtbidbjgklonbpaaDoor.PPaxGets

/-- A record, if the pair fits. -/
def recV (k v : ByteArray) (d : Nat) : List Int := if fitN k v = 0 then recL k v d else []
def EndsRec (w : World) (k v : ByteArray) (d : Nat) (e : Ending) (w' : World) : Prop := ∃ A c, e = .returned (.tuple #[.slice A (recV k v d).length c, .int .i64 (fitN k v)]) ∧ Own w' w.heap.size (.slice A (recV k v d).length c) (recV k v d) ∧ Below w.heap.size w w'
theorem fit_small {k v : ByteArray} (h : fitN k v = 0) : k.size ≤ 32 ∧ v.size ≤ 1024 := by
  unfold fitN at h
  split at h
  · cases h
  · rename_i h1
    split at h
    · cases h
    · omega
theorem fit_rg (k v : ByteArray) : fitN k v = 91 ∨ fitN k v = 2 ∨ fitN k v = 0 := by
  unfold fitN
  split
  · exact .inl rfl
  · split
    · exact .inr (.inl rfl)
    · exact .inr (.inr rfl)

set_option maxHeartbeats 4000000 in
theorem record_any (k v : ByteArray) (hk : k.size ≤ 140737488351232) (hv : v.size ≤ 140737488351232) {d : Nat} (hd : SizeIs (3 + k.size + v.size) d) (w : World) (ht : Tab w) :
    Calls Tryd.prog 12 #[.agg #[.string k, .string v]] w (EndsRec w k v d) := by
  have HB0 := Aside0.mk (below_alloc (Below.refl w.heap.size w) (.cells #[.string k, .string v] 23))
  have HX0 := Aside0.mk (Blk.new w #[.string k, .string v] 23)
  have HT := Aside0.mk ht
  have HD := Aside0.mk hd
  clear ht hd
  have HF := Aside0.mk (fits_any k v)
  have hrg := fit_rg k v
  have HRV : Aside0 (recV k v d = if fitN k v = 0 then recL k v d else []) := ⟨rfl⟩
  have HFIT : Aside0 (fitN k v = 0 → k.size ≤ 32 ∧ v.size ≤ 1024) := ⟨fun h => by
    unfold fitN at h
    split at h
    · cases h
    · rename_i h1
      split at h
      · cases h
      · omega⟩
  have HE : Aside0 (EndsRec w k v d = fun e w' => ∃ A c, e = .returned (.tuple #[.slice A (recV k v d).length c, .int .i64 (fitN k v)]) ∧ Own w' w.heap.size (.slice A (recV k v d).length c) (recV k v d) ∧ Below w.heap.size w w') := ⟨rfl⟩
  obtain ⟨P, hP⟩ : ∃ P, EndsRec w k v d = P := ⟨_, rfl⟩
  rw [hP] at HE ⊢
  clear hP
  generalize recV k v d = R at *
  generalize fitN k v = f at *
  go_enter Tryd.func12, Tryd.ntmps12
  go_wp2_with fail
  refine (HF.out _).mono ?_
  rintro e w2 ⟨rfl, hb⟩
  have HB2 := Aside0.mk (below_step HB0.out hb)
  have hx2 : Blk w2 w.heap.size #[.string k, .string v] 23 := (hb.block _ HX0.out.lt).trans HX0.out
  have hl2 := hx2.lt
  have hx20 : World.cell? w2 ⟨w.heap.size, 0, none⟩ = some (.string k) := Blk.cell hx2 0
  have hx21 : World.cell? w2 ⟨w.heap.size, 1, none⟩ = some (.string v) := Blk.cell hx2 1
  clear hb hx2
  by_cases h0 : f = 0
  · subst h0
    have hfit := HFIT.out rfl
    have hk32 := hfit.1
    have hv32 := hfit.2
    have HRR : Aside0 (R = recL k v d) := ⟨by rw [HRV.out, if_pos rfl]⟩
    clear hfit HRV hrg
    go_wp2_with fail
    refine (lay_any (B := w.heap.size) (l := []) k v hk hv (by simp; omega) HD.out w2 (HT.out.b.on HB2.out) HB2.out.size (Own.nil _ _)).mono ?_
    rintro e w3 ⟨v', rfl, ho, hb⟩
    rw [List.nil_append, ← HRR.out] at ho
    obtain ⟨A, c, rfl⟩ := own_slice ho
    have HO := Aside0.mk ho
    have HB3 := Aside0.mk (HB2.out.trans hb)
    clear ho hb
    go_wp2_with fail
    rw [HE.out]
    exact ⟨A, c, rfl, HO.out, HB3.out⟩
  · have HRR : Aside0 (R = []) := ⟨by rw [HRV.out, if_neg h0]⟩
    have hne : (f == 0) = false := beq_eq_false_iff_ne.2 h0
    have hne2 : (f != 0) = true := bne_iff_ne.2 h0
    clear HRV h0 hrg
    go_wp2_with fail
    rw [HE.out, HRR.out]
    exact ⟨none, 0, rfl, Own.nil _ _, HB2.out⟩

theorem decimalR_any (n : Nat) (hn : n ≤ 9223372036854775807) (x : Int) (hx : x = n) (w : World) : Calls Tryd.prog 34 #[.int .i64 x] w fun e w' => e = .returned (.string ⟨(Lib.decDigits n).toArray⟩) ∧ Below w.heap.size w w' := by
  subst hx
  exact tabularyref09_decimal.calls 20 n _ w (decimal_f n 20 hn (Nat.le_refl _))
def EndsRecR (w : World) (k v : ByteArray) (d : Nat) (e : Ending) (w' : World) : Prop := ∃ A c, e = .returned (.tuple #[.slice A (recV k v d).length c, .int .i64 (fitN k v)]) ∧ (recV k v d).length ≤ c ∧ Kd.F (Kd.int .u8) w' (fun k => w.heap.size ≤ k) A (recV k v d).length (recV k v d) ∧ Below w.heap.size w w'
/-- The record as a string. -/
def recS (k v : ByteArray) (d : Nat) : ByteArray := (⟨(Lib.decDigits (3 + k.size + v.size + d)).toArray⟩ : ByteArray) ++ ⟨#[32]⟩ ++ k ++ ⟨#[61]⟩ ++ v ++ ⟨#[10]⟩

theorem recS_bytes (k v : ByteArray) (d : Nat) : bytesOf (recS k v d) = recL k v d := by
  unfold recS recL bytesOf decL
  simp only [ByteArray.data_append, Array.toList_append, List.map_append]
  rfl
theorem bytes_C (w0 : World) {W : World} {s : ByteArray} {g : Nat} {fz : Nat × Nat} (h : W.heap[g]? = some (.cells (Lib.bytesCells w0 5 s) 5 fz)) (hs : s.size ≤ 9223372036854775807) : Kd.C (Kd.int .u8) W (some ⟨g, 0, none⟩) s.size (bytesOf s) := by
  refine ⟨bytesOf_length s, hs, fun _ => ⟨_, rfl, fun j p hj => ⟨[.int .u8 p], rfl, rfl, fun i u hu => ?_⟩⟩⟩
  match i, hu with
  | 0, hu =>
    simp only [List.getElem?_cons_zero, Option.some.injEq] at hu
    subst hu
    have hjl : j < s.size := by
      have := (List.getElem?_eq_some_iff.1 hj).1
      rwa [bytesOf_length] at this
    have hc : W.cell? ⟨g, j, none⟩ = some (.int .u8 p) := by
      have e1 : W.cell? ⟨g, j, none⟩ = (Lib.bytesCells w0 5 s)[j]? := by simp [World.cell?, h]
      rw [e1]
      unfold Lib.bytesCells
      rw [Array.getElem?_append_left (by simpa using hjl), Array.getElem?_map]
      unfold bytesOf at hj
      rw [List.getElem?_map] at hj
      cases hq : s.data.toList[j]? with
      | none => rw [hq] at hj; cases hj
      | some b =>
        rw [hq] at hj
        cases hj
        rw [Array.getElem?_toList] at hq
        rw [hq]
        rfl
    rcases Nat.eq_zero_or_pos j with rfl | hj0
    · simpa [Addr.add, Kd.int, Kd.scalar] using hc
    · simpa [Addr.add, Kd.int, Kd.scalar, Nat.ne_of_gt hj0] using hc
  | i + 1, hu => simp at hu
theorem bytes_F (w0 : World) {W : World} {s : ByteArray} {g B : Nat} {fz : Nat × Nat} (h : W.heap[g]? = some (.cells (Lib.bytesCells w0 5 s) 5 fz)) (hg : B ≤ g) (hs : s.size ≤ 9223372036854775807 := by omega) : Kd.F (Kd.int .u8) W (fun k => B ≤ k) (some ⟨g, 0, none⟩) s.size (bytesOf s) :=
  fun W' hW => bytes_C w0 ((hW g hg (blk_lt h)).trans h) hs

set_option maxHeartbeats 4000000 in
set_option maxRecDepth 100000 in
theorem recordR_any (k v : ByteArray) (hk : k.size ≤ 140737488351232) (hv : v.size ≤ 140737488351232) {d : Nat} (hd : SizeIs (3 + k.size + v.size) d) (w : World) :
    Calls Tryd.prog 13 #[.agg #[.string k, .string v]] w (EndsRecR w k v d) := by
  have HB0 := Aside0.mk (below_alloc (Below.refl w.heap.size w) (.cells #[.string k, .string v] 23))
  have HX0 := Aside0.mk (Blk.new w #[.string k, .string v] 23)
  have HD := Aside0.mk hd
  have hd2 := hd.2.1
  have hdl : (⟨(Lib.decDigits (3 + k.size + v.size + d)).toArray⟩ : ByteArray).size = d := (size_of _).trans ((Lib.decDigits_length _).trans hd.2.2.1)
  clear hd
  have HF := Aside0.mk (fitsR_any k v hk)
  have HSZ := Aside0.mk (sizeR_any k v hk hv HD.out)
  have HDC := Aside0.mk (decimalR_any (3 + k.size + v.size + d) (by omega) (3 + (k.size : Int) + (v.size : Int) + (d : Int)) (by omega))
  have HFIT : Aside0 (fitN k v = 0 → k.size ≤ 32 ∧ v.size ≤ 1024) := ⟨fit_small⟩
  have HRV : Aside0 (recV k v d = if fitN k v = 0 then recL k v d else []) := ⟨rfl⟩
  have HRS : Aside0 (recS k v d = (⟨(Lib.decDigits (3 + k.size + v.size + d)).toArray⟩ : ByteArray) ++ ⟨#[32]⟩ ++ k ++ ⟨#[61]⟩ ++ v ++ ⟨#[10]⟩) := ⟨rfl⟩
  have HE : Aside0 (EndsRecR w k v d = fun e w' => ∃ A c, e = .returned (.tuple #[.slice A (recV k v d).length c, .int .i64 (fitN k v)]) ∧ (recV k v d).length ≤ c ∧ Kd.F (Kd.int .u8) w' (fun k => w.heap.size ≤ k) A (recV k v d).length (recV k v d) ∧ Below w.heap.size w w') := ⟨rfl⟩
  obtain ⟨P, hP⟩ : ∃ P, EndsRecR w k v d = P := ⟨_, rfl⟩
  rw [hP] at HE ⊢
  clear hP
  generalize recV k v d = R at *
  generalize fitN k v = f at *
  generalize (⟨(Lib.decDigits (3 + k.size + v.size + d)).toArray⟩ : ByteArray) = ds at *
  go_enter Tryd.func13, Tryd.ntmps13
  go_wp2_with fail
  refine (HF.out _).mono ?_
  rintro e w2 ⟨rfl, hb⟩
  have HB2 := Aside0.mk (below_step HB0.out hb)
  have hx2 : Blk w2 w.heap.size #[.string k, .string v] 23 := (hb.block _ HX0.out.lt).trans HX0.out
  have hl2 := hx2.lt
  have hx20 : World.cell? w2 ⟨w.heap.size, 0, none⟩ = some (.string k) := Blk.cell hx2 0
  have hx21 : World.cell? w2 ⟨w.heap.size, 1, none⟩ = some (.string v) := Blk.cell hx2 1
  clear hb hx2
  by_cases h0 : f = 0
  · subst h0
    have HRR : Aside0 (R = recL k v d) := ⟨by rw [HRV.out, if_pos rfl]⟩
    have hk32 := (HFIT.out rfl).1
    have hv32 := (HFIT.out rfl).2
    have lx0 := fun x : Behind w2 => later_cell hx20 x
    have lx1 := fun x : Behind w2 => later_cell hx21 x
    have ll := fun x : Behind w2 => Nat.lt_of_lt_of_le hl2 x.below.size
    obtain ⟨s1, hs1⟩ : ∃ s1, ds ++ (⟨#[32]⟩ : ByteArray) = s1 := ⟨_, rfl⟩
    have z1 : s1.size = d + 1 := by rw [← hs1, ByteArray.size_append, hdl]; rfl
    obtain ⟨s2, hs2⟩ : ∃ s2, s1 ++ k = s2 := ⟨_, rfl⟩
    have z2 : s2.size = d + 1 + k.size := by rw [← hs2, ByteArray.size_append, z1]
    obtain ⟨s3, hs3⟩ : ∃ s3, s2 ++ (⟨#[61]⟩ : ByteArray) = s3 := ⟨_, rfl⟩
    have z3 : s3.size = d + 1 + k.size + 1 := by rw [← hs3, ByteArray.size_append, z2]; rfl
    obtain ⟨s4, hs4⟩ : ∃ s4, s3 ++ v = s4 := ⟨_, rfl⟩
    have z4 : s4.size = d + 1 + k.size + 1 + v.size := by rw [← hs4, ByteArray.size_append, z3]
    obtain ⟨s5, hs5⟩ : ∃ s5, s4 ++ (⟨#[10]⟩ : ByteArray) = s5 := ⟨_, rfl⟩
    have z5 : s5.size = d + 1 + k.size + 1 + v.size + 1 := by rw [← hs5, ByteArray.size_append, z4]; rfl
    have HS5 : Aside0 (recS k v d = s5) := ⟨by rw [HRS.out, hs1, hs2, hs3, hs4, hs5]⟩
    have Z5 := Aside0.mk z5
    have o1 : ∀ w, (Op.stringOp .add ds (⟨#[32]⟩ : ByteArray)).run Tryd.prog w = .ok (.string s1) w := fun w => by rw [← hs1]; exact run_string_add w _ _ (by omega) (by show ((1 : Nat) : Int) ≤ _; omega)
    have o2 : ∀ w, (Op.stringOp .add s1 k).run Tryd.prog w = .ok (.string s2) w := fun w => by rw [← hs2]; exact run_string_add w _ _ (by omega) (by omega)
    have o3 : ∀ w, (Op.stringOp .add s2 (⟨#[61]⟩ : ByteArray)).run Tryd.prog w = .ok (.string s3) w := fun w => by rw [← hs3]; exact run_string_add w _ _ (by omega) (by show ((1 : Nat) : Int) ≤ _; omega)
    have o4 : ∀ w, (Op.stringOp .add s3 v).run Tryd.prog w = .ok (.string s4) w := fun w => by rw [← hs4]; exact run_string_add w _ _ (by omega) (by omega)
    have o5 : ∀ w, (Op.stringOp .add s4 (⟨#[10]⟩ : ByteArray)).run Tryd.prog w = .ok (.string s5) w := fun w => by rw [← hs5]; exact run_string_add w _ _ (by omega) (by show ((1 : Nat) : Int) ≤ _; omega)
    clear hs1 hs2 hs3 hs4 hs5 z1 z2 z3 z4 z5 hdl
    clear HRV
    go_wp2_with fail
    refine wp_region_behind (by kernel_rfl) (by kernel_rfl) ?_
    repeat (go_big_quiet_step (first | (go_at_call 15; exact calls_behind _ (HSZ.out _)) | (go_at_call 34; exact calls_behind _ (HDC.out _))))
    refine wpQuiet_nil ?_
    rintro _ ⟨x, rfl⟩
    have hcv := Lib.run_convert_string_bytes (P := Tryd.prog) (later w2 x) 9 24 5 s5 Tryd.underlying9 Tryd.underlying24 Tryd.underlying5
    have HBX := Aside0.mk (below_step HB2.out x.below)
    have HBY := Aside0.mk (below_step HBX.out (Lib.bytesWorld_below (later w2 x) 5 s5))
    have HLT := Aside0.mk (Nat.le_trans HB2.out.size x.below.size)
    go_wp2_with fail
    rw [HE.out]
    have hR : R = bytesOf s5 := by rw [HRR.out, ← recS_bytes, HS5.out]
    have hlen : R.length = s5.size := by rw [hR, bytesOf_length]
    rw [hR, bytesOf_length]
    exact ⟨_, _, rfl, grownCap_ge _ _ _ _, bytes_F _ (Lib.bytesWorld_at_new (later w2 x) 5 s5) HLT.out (by have := Z5.out; omega), HBY.out⟩
  · have HRR : Aside0 (R = []) := ⟨by rw [HRV.out, if_neg h0]⟩
    have hne : (f == 0) = false := beq_eq_false_iff_ne.2 h0
    have hne2 : (f != 0) = true := bne_iff_ne.2 h0
    clear HRV h0
    go_wp2_with fail
    rw [HE.out, HRR.out]
    exact ⟨none, 0, rfl, Nat.le_refl _, Kd.F_nil _ _ _, HB2.out⟩
end Go.Proofs.YtbidbjgklonbpaaDoor.Mine
/- pax: PaxRecords. -/
set_option linter.unusedSimpArgs false
set_option linter.unusedVariables false
namespace Go.Proofs.YtbidbjgklonbpaaDoor.Mine
open Go.RowKit Go.Maps Go.Proofs.YtbidbjgklonbpaaDoorW.PrintWords Go.Proofs.YtbidbjgklonbpaaDoorW.PrintLast Go.Proofs.YtbidbjgklonbpaaDoorW.PrintMore Go.Proofs.YtbidbjgklonbpaaDoor.Turn Go.Proofs.YtbidbjgklonbpaaDoor.PPaxGets

theorem bytes_l0 (a b : List Int) (hl : a.length = b.length) (hn : a.length ≤ 9223372036854775806) : ∀ (m i : Nat), i + m = a.length → a.take i = b.take i → tabularylaw09_bytes.l0 (m + 1) a b i = some (decide (a = b))
  | 0, i, h, ht => by
    rw [tabularylaw09_bytes.l0.eq_2, if_neg (by omega)]
    rw [List.take_of_length_le (by omega), List.take_of_length_le (by omega)] at ht
    rw [decide_eq_true ht]
  | m + 1, i, h, ht => by
    have hi : i < a.length := by omega
    rw [tabularylaw09_bytes.l0.eq_2, if_pos (by omega), if_pos (by omega), if_pos (by omega)]
    have ra : rd a (i : Int) = a[i] := by unfold rd; rw [Int.toNat_natCast, List.getD_eq_getElem?_getD, List.getElem?_eq_getElem hi]; rfl
    have rb : rd b (i : Int) = b[i]'(by omega) := by unfold rd; rw [Int.toNat_natCast, List.getD_eq_getElem?_getD, List.getElem?_eq_getElem (by omega)]; rfl
    rw [ra, rb]
    by_cases he : a[i] = b[i]'(by omega)
    · rw [if_pos he, wrap_id (by omega) (by omega), show (i : Int) + 1 = ((i + 1 : Nat) : Int) by omega]
      exact bytes_l0 a b hl hn m (i + 1) (by omega) (by rw [List.take_succ_eq_append_getElem hi, List.take_succ_eq_append_getElem (by omega), ht, he])
    · rw [if_neg he, decide_eq_false (fun e => he (by subst e; rfl))]
theorem bytes_f (a b : List Int) (hn : a.length ≤ 9223372036854775806) : tabularylaw09_bytes.f (a.length + 1) a b = some (decide (a = b)) := by
  unfold tabularylaw09_bytes.f
  by_cases hl : a.length = b.length
  · rw [if_pos (by omega)]
    exact bytes_l0 a b hl hn a.length 0 (by omega) rfl
  · rw [if_neg (by omega), decide_eq_false (fun e => hl (by rw [e]))]
theorem bytes_any (A0 : Option Addr) (c0 : Nat) (l0 : List Int) (A1 : Option Addr) (c1 : Nat) (l1 : List Int) (w : World) (hn : l0.length ≤ 9223372036854775806) (hr0 : Kd.C (Kd.int .u8) w A0 l0.length l0) (hc0 : l0.length ≤ c0) (hr1 : Kd.C (Kd.int .u8) w A1 l1.length l1) (hc1 : l1.length ≤ c1) :
    Calls Tryd.prog 16 #[.slice A0 l0.length c0, .slice A1 l1.length c1] w fun e w' => e = .returned (.bool (decide (l0 = l1))) ∧ Below w.heap.size w w' :=
  (tabularylaw09_bytes.calls _ A0 c0 l0 A1 c1 l1 _ w hr0 hc0 hr1 hc1 (bytes_f l0 l1 hn)).mono fun e w' ⟨h1, h2⟩ => ⟨h1, h2.below⟩
theorem Own.C {w : World} {B : Nat} {A : Option Addr} {c : Nat} {l : List Int} (h : Own w B (.slice A l.length c) l) : l.length ≤ c ∧ Kd.C (Kd.int .u8) w A l.length l := by
  obtain ⟨A', c', he, hc, hr⟩ := own_reads_of_le (enc := fun x : Int => Value.int .u8 x) (d := 0) h
  cases he
  exact ⟨hc, Kd.C_of_reads hr⟩
theorem Own.size {w : World} {B : Nat} {v : Value} {l : List Int} (h : Own w B v l) : l.length ≤ 9223372036854775807 := by
  obtain ⟨A, c, rfl⟩ := own_slice h
  exact h.C.2.2.1

set_option maxHeartbeats 4000000 in
set_option maxRecDepth 100000 in
theorem paxRecords_any (k v : ByteArray) (hk : k.size ≤ 140737488351232) (hv : v.size ≤ 140737488351232) (w : World) (ht : Tab w) :
    Calls Tryd.prog 3 #[.agg #[.string k, .string v]] w fun e w' => e = .returned (.bool true) ∧ Below w.heap.size w w' := by
  obtain ⟨d, hd⟩ := size_ex (3 + k.size + v.size) (by omega)
  have HB0 := Aside0.mk (below_alloc (Below.refl w.heap.size w) (.cells #[.string k, .string v] 23))
  have HX0 := Aside0.mk (Blk.new w #[.string k, .string v] 23)
  have HT := Aside0.mk ht
  have HD := Aside0.mk hd
  have HLEN : Aside0 ((recV k v d).length ≤ 1000000) := ⟨by
    unfold recV
    split
    · rename_i h
      have := fit_small h
      rw [recL_length hd]
      have := hd.2.1
      omega
    · simp⟩
  clear ht hd
  have HR1 := Aside0.mk (fun w h => record_any k v hk hv HD.out w h)
  have HR2 := Aside0.mk (recordR_any k v hk hv HD.out)
  have HS1 := Aside0.mk (fun w h => size_any k v hk (by omega) HD.out w h)
  have HS2 := Aside0.mk (sizeR_any k v hk hv HD.out)
  unfold EndsRec at HR1
  unfold EndsRecR at HR2
  generalize recV k v d = R at *
  generalize fitN k v = f at *
  go_enter Tryd.func3, Tryd.ntmps3
  go_wp2_with fail
  refine (HR1.out _ (HT.out.below HB0.out)).mono ?_
  rintro e w1 ⟨A1, c1, rfl, ho1, hb⟩
  have HB1 := Aside0.mk (below_step HB0.out hb)
  have HO1 := Aside0.mk ho1
  have hx1 : Blk w1 w.heap.size #[.string k, .string v] 23 := (hb.block _ HX0.out.lt).trans HX0.out
  have HX1 := Aside0.mk hx1
  have hl1 := hx1.lt
  have hx10 : World.cell? w1 ⟨w.heap.size, 0, none⟩ = some (.string k) := Blk.cell hx1 0
  have hx11 : World.cell? w1 ⟨w.heap.size, 1, none⟩ = some (.string v) := Blk.cell hx1 1
  clear hb hx1 ho1
  go_wp2_with fail
  refine (HR2.out _).mono ?_
  rintro e w2 ⟨A2, c2, rfl, hc2, hf2, hb⟩
  have HB2 := Aside0.mk (below_step HB1.out hb)
  have HO2 := Aside0.mk (HO1.out.below hb)
  have HC2 := Aside0.mk hc2
  have HF2 := Aside0.mk (Kd.F_now hf2)
  have hx2 : Blk w2 w.heap.size #[.string k, .string v] 23 := (hb.block _ HX1.out.lt).trans HX1.out
  have hl2 := hx2.lt
  have hx20 : World.cell? w2 ⟨w.heap.size, 0, none⟩ = some (.string k) := Blk.cell hx2 0
  have hx21 : World.cell? w2 ⟨w.heap.size, 1, none⟩ = some (.string v) := Blk.cell hx2 1
  have lx0 := fun x : Behind w2 => later_cell hx20 x
  have lx1 := fun x : Behind w2 => later_cell hx21 x
  have ll := fun x : Behind w2 => Nat.lt_of_lt_of_le hl2 x.below.size
  have HBY := Aside0.mk (fun x : Behind w2 => bytes_any A1 c1 R A2 c2 R (later w2 x) (by have := HLEN.out; omega) (HO2.out.below x.below).C.2 (HO2.out.C.1) (later_C HF2.out x) HC2.out)
  have HT2 := Aside0.mk (fun x : Behind w2 => HT.out.below (below_step HB2.out x.below))
  have hff : (f == f) = true := by simp
  have hss : ((3 + (k.size : Int) + (v.size : Int) + (d : Int)) == (3 + (k.size : Int) + (v.size : Int) + (d : Int))) = true := by simp
  clear hb hx2 hc2 hf2 hx10 hx11 hl1
  go_wp2_with fail
  refine wp_region_behind (by kernel_rfl) (by kernel_rfl) ?_
  repeat (go_big_quiet_step (first | (go_at_call 14; exact calls_behind _ (HS1.out _ (HT2.out _))) | (go_at_call 15; exact calls_behind _ (HS2.out _)) | (go_at_call 16; exact calls_behind _ (HBY.out _))))
  refine wpQuiet_nil ?_
  rintro _ ⟨x, rfl⟩
  have HB3 := Aside0.mk (below_step HB2.out x.below)
  go_wp2_with fail
  go_ret
  exact ⟨by simp, HB3.out⟩
end Go.Proofs.YtbidbjgklonbpaaDoor.Mine
/- pax: lent, kept. -/
set_option linter.unusedSimpArgs false
set_option linter.unusedVariables false
namespace Go.Proofs.YtbidbjgklonbpaaDoor.Mine
open Go.RowKit Go.Maps Go.Proofs.YtbidbjgklonbpaaDoorW.PrintWords Go.Proofs.YtbidbjgklonbpaaDoorW.PrintLast Go.Proofs.YtbidbjgklonbpaaDoorW.PrintMore Go.Proofs.YtbidbjgklonbpaaDoor.Turn Go.Proofs.YtbidbjgklonbpaaDoor.PPaxGets

def mark : S23 := ⟨(⟨#[109, 97, 114, 107]⟩ : ByteArray), (⟨#[]⟩ : ByteArray)⟩

set_option maxHeartbeats 1000000 in
theorem lent_any (A : Option Addr) (c : Nat) (l : List S23) (w : World) (hl : l.length + 1 < 4398046511104) (hr : Kd.C k23 w A l.length l) :
    Calls Tryd.prog 17 #[.slice A l.length c] w fun e w' => ∃ A' c', e = .returned (.slice A' l.length c') ∧ l.length + 1 ≤ c' ∧ Kd.C k23 w' A' (l.length + 1) (l ++ [mark]) ∧ Below w.heap.size w w' := by
  have HR := Aside0.mk hr
  clear hr
  have HB := Aside0.mk (Below.refl w.heap.size w)
  go_enter Tryd.func17, Tryd.ntmps17
  go_wp2_with (first
    | ((with_reducible refine gate_builtin (b := .append) (xs := #[.tmp 4, .tmp 5]) rfl ?_); at_builtin; refine Kd.R_append_rows k23 (w0 := w) w.heap.size rfl (.tmp 4) (.tmp 5) 33 23 (.agg #[(.string ⟨#[]⟩), (.string ⟨#[]⟩)]) 32 rfl Tryd.underlying33 info23 rfl (by decide) (by omega) (.slice none 0 0) ([] : List (S23)) l _ _ _ (fun _ => True) (fun _ => False) rfl rfl (Kd.R_nil _ _ _ _ (fun _ => True)) HR.out (fun _ _ h => h) (fun _ h => h.elim) (fun _ _ => trivial) HB.out (Nat.le_refl _) (by simp; omega) ?_; intro v102 w6 ho hb hg hat; rw [List.nil_append] at ho; have HB2 := Aside0.mk hb; have HO2 := Aside0.mk ho; clear ho hb hg hat)
    | ((with_reducible refine gate_builtin (b := .append) (xs := #[.tmp 7, .tmp 9]) rfl ?_); at_builtin; refine Kd.R_append k23 (w0 := w) w.heap.size rfl (.tmp 7) (.tmp 9) 33 23 (.agg #[(.string ⟨#[]⟩), (.string ⟨#[]⟩)]) 32 rfl Tryd.underlying33 info23 rfl (by decide) (by omega) v102 l mark [.string (⟨#[109, 97, 114, 107]⟩ : ByteArray), .string (⟨#[]⟩ : ByteArray)] (fun _ => True) (fun _ => False) rfl rfl (k23_mkM _ _ _ mark) (fun _ h => h.elim) (fun _ _ => trivial) HO2.out HB2.out HB2.out.size (by omega) ?_; intro v103 w7 ho hb hg hat; obtain ⟨A', c', rfl, hlc, hC⟩ := Kd.R_reads ho; have hlc2 : l.length + 1 ≤ c' := (by rw [List.length_append] at hlc; exact hlc); have HB3 := Aside0.mk hb; have HC3 := Aside0.mk hC; clear ho hb hg hat hC; rw [List.length_append, List.length_singleton] at HC3 hlc ⊢))
  go_ret
  exact ⟨A', c', rfl, hlc2, HC3.out, HB3.out⟩

theorem C_prefix {α : Type} {d : Kd α} {w : World} {A : Option Addr} {l m : List α} (h : d.C w A (l ++ m).length (l ++ m)) : d.C w A l.length l := by
  obtain ⟨_, h2, h3⟩ := h
  rw [List.length_append] at h2 h3
  refine ⟨rfl, by omega, fun hp => ?_⟩
  obtain ⟨ad, e, hc⟩ := h3 (by omega)
  refine ⟨ad, e, fun j p hj => hc j p ?_⟩
  have hlt : j < l.length := by
    rcases Nat.lt_or_ge j l.length with h | h
    · exact h
    · rw [List.getElem?_eq_none h] at hj; cases hj
  rw [List.getElem?_append_left hlt]
  exact hj

theorem pairs_eq (l : List S23) : ∀ (d : Nat) (i : Int), 0 ≤ i → (l.length : Int) - i = d → i ≤ l.length → l.length ≤ 4611686018427387904 → tabularylaw09_pairs.l0 (d + 1) l l i = some true := by
  intro d
  induction d with
  | zero =>
    intro i h0 h1 h2 h3
    simp only [tabularylaw09_pairs.l0]
    rw [if_neg (by omega)]
  | succ d ih =>
    intro i h0 h1 h2 h3
    have hw : wrap64 (i + 1) = i + 1 := by unfold wrap64; omega
    simp only [tabularylaw09_pairs.l0]
    rw [if_pos (by omega), if_pos h0, if_pos (by omega), if_neg (by simp), hw]
    exact ih (i + 1) (by omega) (by omega) (by omega) h3

set_option maxHeartbeats 1000000 in
theorem kept_any (A A0 : Option Addr) (c c0 : Nat) (l : List S23) (w : World) (hl : l.length + 1 < 4398046511104) (hc : l.length + 1 ≤ c) (hc0 : l.length ≤ c0) (hr : Kd.C k23 w A (l.length + 1) (l ++ [mark])) (hr0 : Kd.C k23 w A0 l.length l) :
    Calls Tryd.prog 20 #[.slice A l.length c, .slice A0 l.length c0] w fun e w' => e = .returned (.bool true) ∧ Below w.heap.size w w' := by
  have hp := C_prefix (l := l) (m := [mark]) (by rw [List.length_append, List.length_singleton]; exact hr)
  obtain ⟨ad, e, hx0, hx1⟩ := at_T23 hr (l.length : Int) (by omega) (by omega)
  cases e
  have hm : rd_T23 (l ++ [mark]) (l.length : Int) = mark := by simp [rd_T23]
  rw [hm, Int.toNat_natCast] at hx0 hx1
  have HP := Aside0.mk hp
  have HR0 := Aside0.mk hr0
  clear hp hr0 hr hm
  replace hx0 : w.cell? (ad.add (l.length * 2)) = some (Value.string ⟨#[109, 97, 114, 107]⟩) := hx0
  replace hx1 : w.cell? ⟨(ad.add (l.length * 2)).block, (ad.add (l.length * 2)).off + 1, none⟩ = some (Value.string ⟨#[]⟩) := hx1
  go_enter Tryd.func20, Tryd.ntmps20
  go_wp2_with fail
  refine (tabularylaw09_pairs.calls (l.length + 1) (some ad) c l A0 c0 l true _ HP.out (by omega) HR0.out hc0 (by unfold tabularylaw09_pairs.f; rw [if_pos rfl]; exact pairs_eq l l.length 0 (by omega) (by omega) (by omega) (by omega))).mono ?_
  rintro e w' ⟨rfl, ⟨nd, rfl⟩⟩
  go_wp2
  go_ret
  exact ⟨rfl, pw_below_drewN (Below.refl _ _) _⟩

end Go.Proofs.YtbidbjgklonbpaaDoor.Mine
