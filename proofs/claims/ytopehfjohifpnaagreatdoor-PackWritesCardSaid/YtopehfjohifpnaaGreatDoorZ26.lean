import Derived.Test.YtopehfjohifpnaaGreatDoorZ24
import Derived.Test.YtopehfjohifpnaaGreatDoorZ25
import Derived.Test.YtopehfjohifpnaaGreatDoorZ6
import Derived.IntWalk
import Derived.Lib.AppendIntMem
import Derived.Test.YtopehfjohifpnaaGreatDoorZ9
import Derived.Lib.Bytes
import Derived.Lib.AtoiErrMem
section
set_option linter.unusedSimpArgs false
set_option linter.unusedVariables false
namespace Go.Proofs.YtopehfjohifpnaaGreatDoor.Mine
open Go.RowKit Go.Maps Go.Proofs.YtopehfjohifpnaaGreatDoorW.PrintWords Go.Proofs.YtopehfjohifpnaaGreatDoorW.PrintLast Go.Proofs.YtopehfjohifpnaaGreatDoorW.PrintMore Go.Proofs.YtopehfjohifpnaaGreatDoor.Turn Go.Proofs.YtopehfjohifpnaaGreatDoor.Doc
theorem size_of (l : List UInt8) : (⟨l.toArray⟩ : ByteArray).size = l.length := List.size_toArray
def Tab (w : World) : Prop := Lib.TabIs Tryz.prog w "internal/strconv.uint64pow10" .u64 Lib.pow10Tab
theorem Tab.below {w w' : World} (h : Tab w) (hb : Below w.heap.size w w') : Tab w' := Lib.tabBelow_of_tabIs h w' hb
def SizeIs (n d : Nat) : Prop := 1 ≤ d ∧ d ≤ 19 ∧ Lib.nDigits (n + d) = d ∧ ∀ k, 1 ≤ k → k < d → Lib.nDigits (n + k) ≠ k
theorem nDigits_lt : ∀ (k n : Nat), 1 ≤ k → (Lib.nDigits n ≤ k ↔ n < 10 ^ k)
  | 0, n, h => by omega
  | k + 1, n, _ => by
    unfold Lib.nDigits
    by_cases h : n < 10
    · rw [dif_pos h]
      refine ⟨fun _ => ?_, fun _ => by omega⟩
      have := Nat.pow_le_pow_right (n := 10) (by omega) (show 1 ≤ k + 1 by omega)
      omega
    · rw [dif_neg h]
      cases k with
      | zero =>
        have h1 : 1 ≤ Lib.nDigits (n / 10) := by unfold Lib.nDigits; split <;> omega
        refine ⟨fun h2 => by omega, fun h2 => by simp at h2; omega⟩
      | succ k =>
        have ih := nDigits_lt (k + 1) (n / 10) (by omega)
        rw [Nat.pow_succ]
        constructor
        · intro h2
          have := ih.1 (by omega)
          omega
        · intro h2
          have := ih.2 (by omega)
          omega
theorem nDigits_pos (n : Nat) : 1 ≤ Lib.nDigits n := by unfold Lib.nDigits; split <;> omega
theorem size_ex (n : Nat) (h : n < 100000000000000000) : ∃ d, SizeIs n d := by
  have hex : ∃ d, 1 ≤ d ∧ d ≤ 19 ∧ Lib.nDigits (n + d) = d := by
    obtain ⟨D, hD⟩ : ∃ D, Lib.nDigits n = D := ⟨_, rfl⟩
    have h1 : 1 ≤ D := by rw [← hD]; exact nDigits_pos n
    have h17 : D ≤ 17 := by rw [← hD]; exact (nDigits_lt 17 n (by omega)).2 (by omega)
    have hlt : n < 10 ^ D := (nDigits_lt D n h1).1 (by omega)
    have hge : ∀ m, n ≤ m → D ≤ Lib.nDigits m := fun m hm => by
      rcases Nat.lt_or_ge 1 D with h2 | h2
      · by_cases h3 : Lib.nDigits m ≤ D - 1
        · have := (nDigits_lt (D - 1) m (by omega)).1 h3
          have := (nDigits_lt (D - 1) n (by omega)).2 (by omega)
          omega
        · omega
      · have := nDigits_pos m; omega
    have hp : D + 1 ≤ 9 * 10 ^ D := by
      have : ∀ k, k + 1 ≤ 9 * 10 ^ k := by
        intro k
        induction k with
        | zero => decide
        | succ k ih => rw [Nat.pow_succ]; omega
      exact this D
    have hup : Lib.nDigits (n + D + 1) ≤ D + 1 := (nDigits_lt (D + 1) _ (by omega)).2 (by rw [Nat.pow_succ]; omega)
    have hup0 : Lib.nDigits (n + D) ≤ D + 1 := (nDigits_lt (D + 1) _ (by omega)).2 (by rw [Nat.pow_succ]; omega)
    by_cases he : Lib.nDigits (n + D) = D
    · exact ⟨D, h1, by omega, he⟩
    · refine ⟨D + 1, by omega, by omega, ?_⟩
      have hg0 := hge (n + D) (by omega)
      have h3 : ¬ n + D < 10 ^ D := fun h4 => by have := (nDigits_lt D _ h1).2 h4; omega
      have h5 : ¬ Lib.nDigits (n + (D + 1)) ≤ D := fun h4 => by have := (nDigits_lt D _ h1).1 h4; omega
      have : n + (D + 1) = n + D + 1 := by omega
      rw [this] at h5 ⊢
      omega
  obtain ⟨d, hd⟩ := hex
  induction d using Nat.strongRecOn with
  | _ d ih =>
    by_cases hm : ∃ k, 1 ≤ k ∧ k < d ∧ Lib.nDigits (n + k) = k
    · obtain ⟨k, h1, h2, h3⟩ := hm
      exact ih k h2 ⟨h1, by omega, h3⟩
    · exact ⟨d, hd.1, hd.2.1, hd.2.2, fun k h1 h2 h3 => hm ⟨k, h1, h2, h3⟩⟩
set_option maxHeartbeats 2000000 in
set_option maxRecDepth 100000 in
theorem size_any (k v : ByteArray) (hk : k.size ≤ 140737488351232) (hv : v.size ≤ 140737488351240) {d : Nat} (hd : SizeIs (3 + k.size + v.size) d) (w : World) (ht : Tab w) :
    Calls Tryz.prog 98 #[.agg #[.string k, .string v]] w fun e w' => e = .returned (.int .i64 (3 + (k.size : Int) + (v.size : Int) + (d : Int))) ∧ Below w.heap.size w w' := by
  have HB0 := Aside0.mk (below_alloc (Below.refl w.heap.size w) (.cells #[.string k, .string v] 64))
  have HT := Aside0.mk ht
  have HD := Aside0.mk hd
  have hd1 := hd.1
  have hd2 := hd.2.1
  clear ht hd
  go_enter Tryz.func98, Tryz.ntmps98
  go_wp2_with fail
  go_loopw [4] (fun i wr => ∃ j : Nat, 1 ≤ j ∧ j ≤ d ∧ i = .int .i64 j ∧ Aside0 (Below w.heap.size w wr) ∧ Aside0 (Tab wr)) (fun i _ => d - (intOf i).toNat)
  case atStart => exact ⟨1, by omega, by omega, rfl, HB0, ⟨HT.out.below HB0.out⟩⟩
  case round =>
    obtain ⟨j, hj1, hj, rfl, HB, HTR⟩ := hrel
    have hlen : (Lib.itoa (3 + (k.size : Int) + (v.size : Int) + (j : Int))).length = Lib.nDigits (3 + k.size + v.size + j) := by
      rw [show (3 + (k.size : Int) + (v.size : Int) + (j : Int)) = ((3 + k.size + v.size + j : Nat) : Int) by omega, Lib.itoa_nonneg, Lib.decDigits_length]
    have HLEN := Aside0.mk hlen
    clear hlen
    go_wp2_with fail
    refine (Tryz.strconv_Itoa _ (by omega) (by omega) _ HTR.out).mono ?_
    rintro e w2 ⟨rfl, k2, os, hw⟩
    have hb2 : Below wr.heap.size wr w2 := by rw [hw]; exact Lib.below_grow _ _ (Nat.le_refl _) _ _
    have HB2 := Aside0.mk (below_step HB.out hb2)
    have HT2 := Aside0.mk (HTR.out.below hb2)
    obtain ⟨s, hs⟩ : ∃ s : ByteArray, { data := (Lib.itoa (3 + (k.size : Int) + (v.size : Int) + (j : Int))).toArray } = s := ⟨_, rfl⟩
    have HS : Aside0 (s.size = Lib.nDigits (3 + k.size + v.size + j)) := ⟨by rw [← hs, ← HLEN.out]; exact size_of _⟩
    rw [hs]
    clear hw hb2 hs HLEN
    by_cases hx : s.size = j
    · have hjd : j = d := by
        have := HD.out.2.2.2 j hj1
        by_cases e : j < d
        · exact absurd (HS.out.symm.trans hx) (this e)
        · omega
      have hne : ((s.size : Int) != (j : Int)) = false := by simp [hx]
      have HJ := Aside0.mk hjd
      clear hjd hx
      go_wp2_with fail
      go_ret
      exact ⟨by rw [← HJ.out]; rfl, HB2.out⟩
    · have hjd : j ≠ d := fun e => hx (by rw [HS.out, e]; exact HD.out.2.2.1)
      have hne : ((s.size : Int) != (j : Int)) = true := by rw [bne_iff_ne]; omega
      have HJ := Aside0.mk hjd
      clear hjd hx
      go_wp2_with fail
      go_roundw
      case rel => exact ⟨j + 1, by omega, by have := HJ.out; omega, by go_num, HB2, HT2⟩
      case measure => have := HJ.out; simp [intOf]; omega
theorem one_char (n : Nat) (h : n < 10) : strOfNums [wrap64 (48 + (n : Int)) % 256] = ⟨#[UInt8.ofNat (48 + n)]⟩ := by
  rw [wrap_id (by omega) (by omega), show (48 + (n : Int)) % 256 = ((48 + n : Nat) : Int) by omega]
  show (⟨#[UInt8.ofNat ((48 + n : Nat) : Int).toNat]⟩ : ByteArray) = _
  rw [Int.toNat_natCast]
theorem app_bytes (l : List UInt8) (s : ByteArray) : (⟨l.toArray⟩ : ByteArray) ++ s = ⟨(l ++ s.data.toList).toArray⟩ := by
  apply ByteArray.ext
  simp
theorem decimal_l0 : ∀ (k n : Nat) (s : ByteArray), n < 10 ^ (k + 1) → n ≤ 9223372036854775807 → s.size + k ≤ 1000 → tabularyref09_decimal.l0 (k + 1) n s = some ⟨(Lib.decDigits n ++ s.data.toList).toArray⟩
  | 0, n, s, h, hn, hs => by
    have h9 : n < 10 := by simpa using h
    unfold tabularyref09_decimal.l0
    rw [if_neg (by omega)]
    simp only [Option.bind_some]
    rw [one_char n h9, if_pos (by have : (⟨#[UInt8.ofNat (48 + n)]⟩ : ByteArray).size = 1 := rfl; omega), Lib.decDigits_one h9]
    exact congrArg some (app_bytes [UInt8.ofNat (48 + n)] s)
  | k + 1, n, s, h, hn, hs => by
    unfold tabularyref09_decimal.l0
    by_cases h9 : n < 10
    · rw [if_neg (by omega)]
      simp only [Option.bind_some]
      rw [one_char n h9, if_pos (by have : (⟨#[UInt8.ofNat (48 + n)]⟩ : ByteArray).size = 1 := rfl; omega), Lib.decDigits_one h9]
      exact congrArg some (app_bytes [UInt8.ofNat (48 + n)] s)
    · rw [if_pos (by omega)]
      simp only [Option.bind_some]
      have e1 : Int.tmod (n : Int) 10 = ((n % 10 : Nat) : Int) := by rw [Int.tmod_eq_emod_of_nonneg (by omega)]; omega
      have e2 : wrap64 (Int.tdiv (n : Int) 10) = ((n / 10 : Nat) : Int) := by rw [Int.tdiv_eq_ediv_of_nonneg (by omega), wrap_id (by omega) (by omega)]; omega
      rw [e1, e2, one_char (n % 10) (by omega), if_pos (by have : (⟨#[UInt8.ofNat (48 + n % 10)]⟩ : ByteArray).size = 1 := rfl; omega)]
      rw [app_bytes [UInt8.ofNat (48 + n % 10)] s]
      have hz : (⟨([UInt8.ofNat (48 + n % 10)] ++ s.data.toList).toArray⟩ : ByteArray).size = s.size + 1 := by
        show ([UInt8.ofNat (48 + n % 10)] ++ s.data.toList).toArray.size = _
        simp
      rw [decimal_l0 k (n / 10) _ (by rw [Nat.pow_succ] at h; omega) (by omega) (by rw [hz]; omega)]
      rw [show Lib.decDigits n = Lib.decDigits (n / 10) ++ [UInt8.ofNat (48 + n % 10)] by rw [Lib.decDigits.eq_def n, dif_neg h9]]
      simp
theorem decimal_f (n K : Nat) (hn : n ≤ 9223372036854775807) (hK : 20 ≤ K) : tabularyref09_decimal.f K n = some ⟨(Lib.decDigits n).toArray⟩ := by
  have h := decimal_l0 19 n ⟨#[]⟩ (by omega) hn (by decide)
  have e : (⟨#[]⟩ : ByteArray).data.toList = [] := rfl
  rw [e, List.append_nil] at h
  exact at_rounds (g := fun k => tabularyref09_decimal.f k n) (tabularyref09_decimal.mono n) hK h
theorem nDigits_20 {n : Nat} (h : n ≤ 281474976802467) : Lib.nDigits n ≤ 20 := (nDigits_lt 20 _ (by omega)).2 (by omega)
theorem size_step (n d K j : Nat) (hK : 20 ≤ K) (hn : n ≤ 281474976702467) (hd : SizeIs n d) (hj : j ≤ d) : tabularyref09_Size.l0 (K + 1) n ((n + j : Nat) : Int) = if j = d then some ((n + d : Nat) : Int) else tabularyref09_Size.l0 K n ((n + (j + 1) : Nat) : Int) := by
  have hd2 := hd.2.1
  have hz : (⟨(Lib.decDigits (n + j)).toArray⟩ : ByteArray).size = Lib.nDigits (n + j) := (size_of _).trans (Lib.decDigits_length _)
  have h20 : Lib.nDigits (n + j) ≤ 20 := nDigits_20 (by omega)
  have hdf := decimal_f (n + j) K (by omega) hK
  generalize Lib.decDigits (n + j) = ds at hz hdf
  have hwr : wrap64 ((n : Int) + ((⟨ds.toArray⟩ : ByteArray).size : Int)) = (n : Int) + (Lib.nDigits (n + j) : Int) := by rw [hz]; exact wrap_id (by omega) (by omega)
  rw [tabularyref09_Size.l0.eq_2, hdf, Option.bind_some, hwr]
  by_cases he : Lib.nDigits (n + j) = j
  · have hjd : j = d := by
      by_cases e : j < d
      · have h1 : 1 ≤ j := by have := nDigits_pos (n + j); omega
        exact absurd he (hd.2.2.2 j h1 e)
      · omega
    rw [if_pos (by omega), if_pos hjd, hjd]
  · have hjd : j ≠ d := fun e => he (by rw [e]; exact hd.2.2.1)
    rw [if_neg (by omega), if_neg hjd, wrap_id (by omega) (by omega), show ((n + j : Nat) : Int) + 1 = ((n + (j + 1) : Nat) : Int) by omega]
theorem size_l0 (n d : Nat) (hn : n ≤ 281474976702467) (hd : SizeIs n d) : ∀ (m j K : Nat), 20 + m ≤ K → j ≤ d → d ≤ j + m → tabularyref09_Size.l0 (K + 1) n ((n + j : Nat) : Int) = some ((n + d : Nat) : Int) := by
  intro m
  induction m with
  | zero =>
    intro j K hK hj hm
    rw [size_step n d K j hK hn hd hj, if_pos (by omega)]
  | succ m ih =>
    intro j K hK hj hm
    rw [size_step n d K j (by omega) hn hd hj]
    split
    · rfl
    · obtain ⟨K, rfl⟩ : ∃ K', K = K' + 1 := ⟨K - 1, by omega⟩
      exact ih (j + 1) K (by omega) (by omega) (by omega)
theorem sizeR_any (k v : ByteArray) (hk : k.size ≤ 140737488351232) (hv : v.size ≤ 140737488351232) {d : Nat} (hd : SizeIs (3 + k.size + v.size) d) (w : World) :
    Calls Tryz.prog 104 #[.agg #[.string k, .string v]] w fun e w' => e = .returned (.int .i64 (3 + (k.size : Int) + (v.size : Int) + (d : Int))) ∧ Below w.heap.size w w' := by
  refine tabularyref09_Size.calls (d + 20 + 1) k v _ w ?_
  unfold tabularyref09_Size.f
  rw [wrap_id (x := 3 + (k.size : Int)) (by omega) (by omega), wrap_id (by omega) (by omega)]
  have h := size_l0 (3 + k.size + v.size) d (by omega) hd d 0 (d + 20) (by omega) (by omega) (by omega)
  rw [show 3 + k.size + v.size + 0 = 3 + k.size + v.size from rfl] at h
  rw [show 3 + (k.size : Int) + (v.size : Int) = ((3 + k.size + v.size : Nat) : Int) by omega, h]
  exact congrArg some (by omega)
theorem key_l0 (k : ByteArray) (hk : k.size ≤ 140737488351232) : ∀ (m i : Nat), i + m = k.size → tabularyref09_Key.l0 (m + 1) k i = some (!badK (k.data.toList.drop i) && (decide (1 ≤ k.size) && decide (k.size ≤ 32)))
  | 0, i, h => by
    unfold tabularyref09_Key.l0
    rw [if_neg (by omega), List.drop_eq_nil_of_le (by rw [← Lib.size_eq]; omega)]
    by_cases h1 : 1 ≤ k.size
    · rw [if_pos (by omega)]
      have e : decide ((k.size : Int) ≤ 32) = decide (k.size ≤ 32) := by
        by_cases h2 : k.size ≤ 32
        · rw [decide_eq_true h2, decide_eq_true (by omega)]
        · rw [decide_eq_false h2, decide_eq_false (by omega)]
      rw [e]
      simp [badK, h1]
    · rw [if_neg (by omega)]
      simp [h1]
  | m + 1, i, h => by
    have hi : i < k.size := by omega
    obtain ⟨x, hx, hb⟩ := bt_get k i hi
    have hlt : i < k.data.toList.length := by rw [← Lib.size_eq]; exact hi
    have hxe : k.data.toList[i] = x := by rw [List.getElem?_eq_getElem hlt] at hx; exact Option.some.inj hx
    unfold tabularyref09_Key.l0
    rw [if_pos (by omega), if_pos (by omega), hb, List.drop_eq_getElem_cons hlt, hxe]
    have ih := key_l0 k hk m (i + 1) (by omega)
    rw [wrap_id (by omega) (by omega), show (i : Int) + 1 = ((i + 1 : Nat) : Int) by omega]
    have c0 : (x == 0) = decide ((x.toNat : Int) = 0) := by
      rw [Bool.eq_iff_iff, beq_iff_eq, decide_eq_true_iff, ← UInt8.toNat_inj]
      show x.toNat = 0 ↔ _
      omega
    have c1 : (x == 10) = decide ((x.toNat : Int) = 10) := by
      rw [Bool.eq_iff_iff, beq_iff_eq, decide_eq_true_iff, ← UInt8.toNat_inj]
      show x.toNat = 10 ↔ _
      omega
    have c2 : (x == 61) = decide ((x.toNat : Int) = 61) := by
      rw [Bool.eq_iff_iff, beq_iff_eq, decide_eq_true_iff, ← UInt8.toNat_inj]
      show x.toNat = 61 ↔ _
      omega
    have hbk : badK (x :: k.data.toList.drop (i + 1)) = ((x == 0 || (x == 10 || x == 61)) || badK (k.data.toList.drop (i + 1))) := rfl
    rw [hbk, c0, c1, c2]
    by_cases h0 : (x.toNat : Int) = 0
    · rw [if_pos h0]; simp [h0]
    · rw [if_neg h0]
      by_cases h1 : (x.toNat : Int) = 10
      · rw [if_pos h1]; simp [h1]
      · rw [if_neg h1]
        by_cases h2 : (x.toNat : Int) = 61
        · rw [if_pos h2]; simp [h2]
        · rw [if_neg h2, ih, decide_eq_false h0, decide_eq_false h1, decide_eq_false h2, Bool.false_or, Bool.false_or, Bool.false_or]
theorem fits_f (k v : ByteArray) (hk : k.size ≤ 140737488351232) : tabularyref09_Fits.f (k.size + 1) k v = some (fitN k v) := by
  unfold tabularyref09_Fits.f tabularyref09_Key.f
  have h := key_l0 k hk k.size 0 (by omega)
  rw [show ((0 : Nat) : Int) = 0 from rfl] at h
  rw [h, List.drop_zero]
  simp only [Option.bind_some]
  unfold fitN
  by_cases h0 : k.size = 0 ∨ 32 < k.size ∨ badK k.data.toList = true
  · rw [if_pos h0, if_neg]
    rcases h0 with h0 | h0 | h0
    · simp [h0]
    · simp; omega
    · simp [h0]
  · rw [if_neg h0]
    have h1 : ¬ k.size = 0 := fun e => h0 (.inl e)
    have h2 : ¬ 32 < k.size := fun e => h0 (.inr (.inl e))
    have h3 : badK k.data.toList = false := by
      cases hb : badK k.data.toList with
      | true => exact absurd (.inr (.inr hb)) h0
      | false => rfl
    rw [if_pos (by rw [h3]; simp; omega)]
    by_cases h4 : 1024 < v.size
    · rw [if_pos h4, if_pos (by omega)]
    · rw [if_neg h4, if_neg (by omega)]
theorem fitsR_any (k v : ByteArray) (hk : k.size ≤ 140737488351232) (w : World) : Calls Tryz.prog 102 #[.agg #[.string k, .string v]] w fun e w' => e = .returned (.int .i64 (fitN k v)) ∧ Below w.heap.size w w' :=
  tabularyref09_Fits.calls _ k v _ w (fits_f k v hk)
def Own (w : World) (B : Nat) (v : Value) (l : List Int) : Prop := w.ownsRow B 5 1 v l.length (nums .u8 l)
theorem Own.nil (w : World) (B : Nat) : Own w B (.slice none 0 0) [] := own_nil _ _ _ _
theorem Own.below {w w' : World} {B : Nat} {v : Value} {l : List Int} (h : Own w B v l) (hb : Below w.heap.size w w') : Own w' B v l := pw_own_below h hb
theorem Own.type_ne {w : World} {B b t : Nat} {v : Value} {l : List Int} {cs : Array Value} (h : Own w B v l) (hx : Blk w b cs t) (ht : t ≠ 5) : some b ≠ v.ownBlock := fun e => by
  obtain ⟨cells, hc⟩ := own_typed h b e.symm
  have := hx.symm.trans hc
  simp only [Option.some.injEq, Obj.cells.injEq] at this
  exact ht this.2.1
def TabB (B : Nat) (w : World) : Prop := Lib.TabBelow Tryz.prog B w "internal/strconv.uint64pow10" .u64 Lib.pow10Tab
theorem Tab.b {w : World} (h : Tab w) : TabB w.heap.size w := Lib.tabBelow_of_tabIs h
theorem TabB.on {B : Nat} {w w' : World} (h : TabB B w) (hb : Below B w w') : TabB B w' := Lib.TabBelow.on h hb
theorem TabB.tab {B : Nat} {w : World} (h : TabB B w) : Tab w := Lib.TabBelow.here h
def decL (n : Nat) : List Int := (Lib.decDigits n).map fun b => (b.toNat : Int)
theorem decL_length (n : Nat) : (decL n).length = Lib.nDigits n := by rw [decL, List.length_map, Lib.decDigits_length]
def recL (k v : ByteArray) (d : Nat) : List Int := decL (3 + k.size + v.size + d) ++ [32] ++ bytesOf k ++ [61] ++ bytesOf v ++ [10]
theorem recL_length {k v : ByteArray} {d : Nat} (hd : SizeIs (3 + k.size + v.size) d) : (recL k v d).length = 3 + k.size + v.size + d := by
  unfold recL
  simp only [List.length_append, List.length_cons, List.length_nil, bytesOf_length, decL_length, hd.2.2.1]
  omega
theorem nums_dec (n : Nat) : Lib.byteCells (Lib.decDigits n) = nums .u8 (decL n) := by simp [Lib.byteCells, nums, decL]
set_option maxHeartbeats 4000000 in
set_option maxRecDepth 100000 in
theorem lay_any {B : Nat} {v : Value} {l : List Int} (k val : ByteArray) (hk : k.size ≤ 140737488351232) (hv : val.size ≤ 140737488351232) (hfit : l.length + k.size + val.size + 100 ≤ 140737488355328) {d : Nat} (hd : SizeIs (3 + k.size + val.size) d) (w : World) (ht : TabB B w) (hB : B ≤ w.heap.size) (ho : Own w B v l) :
    Calls Tryz.prog 78 #[v, .agg #[.string k, .string val]] w fun e w' => ∃ v', e = .returned v' ∧ Own w' B v' (l ++ recL k val d) ∧ Below B w w' := by
  have hb0 := (below_alloc (Below.refl w.heap.size w) (.cells #[.string k, .string val] 64)).mono hB
  have HB0 := Aside0.mk hb0
  have HD := Aside0.mk hd
  have hd2 := hd.2.1
  have hx0 := Blk.new w #[.string k, .string val] 64
  have HX0 := Aside0.mk hx0
  have HT0 := Aside0.mk (ht.on hb0)
  have HO0 := Aside0.mk (ho.below (below_alloc (Below.refl _ w) (.cells #[.string k, .string val] 64)))
  have hsz0 : (w.alloc (.cells #[.string k, .string val] 64)).heap.size = w.heap.size + 1 := by simp
  have HSZ0 := Aside0.mk hsz0
  clear ho ht hb0 hx0 hsz0 hd
  go_enter Tryz.func78, Tryz.ntmps78
  go_wp2_with fail
  refine (size_any k val hk (by omega) HD.out _ HT0.out.tab).mono ?_
  rintro e w1 ⟨rfl, hb1⟩
  have hB0 : B ≤ (w.alloc (.cells #[.string k, .string val] 64)).heap.size := by rw [HSZ0.out]; omega
  have HB1 := Aside0.mk (HB0.out.trans (hb1.mono hB0))
  have HT1 := Aside0.mk (HT0.out.on (hb1.mono hB0))
  have HO1 := Aside0.mk (HO0.out.below hb1)
  have HX1 : Aside0 (Blk w1 w.heap.size #[.string k, .string val] 64) := ⟨(hb1.block _ HX0.out.lt).trans HX0.out⟩
  have hB1 : B ≤ w1.heap.size := Nat.le_trans hB0 hb1.size
  clear hb1 hB0
  go_wp2_with fail
  refine (Tryz.strconv_AppendInt_10 B l.length _ (by omega) (by omega) v (nums .u8 l) w1 HO1.out hB1 (by omega) HT1.out).mono ?_
  rintro e w2 ⟨v2, rfl, ho2, hb2, hk2⟩
  have hit : Lib.itoa (3 + (k.size : Int) + (val.size : Int) + (d : Int)) = Lib.decDigits (3 + k.size + val.size + d) := by
    rw [show (3 + (k.size : Int) + (val.size : Int) + (d : Int)) = ((3 + k.size + val.size + d : Nat) : Int) by omega, Lib.itoa_nonneg]
  rw [hit, nums_dec, ← nums_append, Lib.decDigits_length, ← decL_length, ← List.length_append] at ho2
  have HO2 : Aside0 (Own w2 B v2 (l ++ decL (3 + k.size + val.size + d))) := ⟨ho2⟩
  have HX2 : Aside0 (Blk w2 w.heap.size #[.string k, .string val] 64) := ⟨hk2 _ _ HX1.out (by simp) (fun c fz e => by cases e)⟩
  have HB2 := Aside0.mk (HB1.out.trans hb2)
  have hB2 : B ≤ w2.heap.size := Nat.le_trans hB1 hb2.size
  have hx2 := HX2.out
  have hx20 : World.cell? w2 ⟨w.heap.size, 0, none⟩ = some (.string k) := Blk.cell hx2 0
  have hx21 : World.cell? w2 ⟨w.heap.size, 1, none⟩ = some (.string val) := Blk.cell hx2 1
  have hxl2 := hx2.lt
  have HREC : Aside0 (l ++ recL k val d = l ++ decL (3 + k.size + val.size + d) ++ [32] ++ bytesOf k ++ [61] ++ bytesOf val ++ [10]) := ⟨by unfold recL; simp only [List.append_assoc]⟩
  have hl1 : (l ++ decL (3 + k.size + val.size + d)).length ≤ l.length + 20 + (0) := by
    rw [List.length_append, decL_length, HD.out.2.2.1]
    omega
  obtain ⟨L1, hL1⟩ : ∃ L1, l ++ decL (3 + k.size + val.size + d) = L1 := ⟨_, rfl⟩
  rw [hL1] at HO2 hl1 HREC
  have HL1 := Aside0.mk hl1
  clear ho2 hb2 hk2 hit hx2 hL1 hl1
  go_wp2_with (first
    | ((with_reducible refine gate_dst (N := 11) rfl ?_); at_builtin; refine print_append_num (w0 := w2) B rfl (.tmp 9) (.tmp 10) 24 5 .u8 1 rfl Tryz.underlying24 info5 (by decide) v2 L1 32 rfl rfl HO2.out (Below.refl _ _) hB2 ?hl ?_; (case hl => (have := HL1.out; omega)); intro v3 w3 ho hb hg hat; obtain ⟨L2, hL2⟩ : ∃ L2, L1 ++ [32] = L2 := ⟨_, rfl⟩; rw [hL2] at ho; have HE2 := Aside0.mk hL2; have HL2 : Aside0 (L2.length ≤ l.length + 20 + (1)) := ⟨by have := HL1.out; rw [← hL2]; simp only [List.length_append, List.length_cons, List.length_nil, bytesOf_length]; omega⟩; clear hL2; have HO3 : Aside0 (Own w3 B v3 L2) := ⟨ho⟩; have HB3 := Aside0.mk (HB2.out.trans hb); have HX3 : Aside0 (Blk w3 w.heap.size #[.string k, .string val] 64) := ⟨(hg.block _ HX2.out.lt (fun e => HO2.out.type_ne HX2.out (by decide) e)).trans HX2.out⟩; have hB3 : B ≤ w3.heap.size := Nat.le_trans hB2 hb.size; have hc30 : World.cell? w3 ⟨w.heap.size, 0, none⟩ = some (.string k) := (HX3.out.cell 0).trans rfl; have hc31 : World.cell? w3 ⟨w.heap.size, 1, none⟩ = some (.string val) := (HX3.out.cell 1).trans rfl; have hxl3 := HX3.out.lt; clear ho hb hg hat)
    | ((with_reducible refine gate_dst (N := 15) rfl ?_); at_builtin; refine print_append_str (w0 := w3) B rfl (.tmp 12) (.tmp 14) 24 9 5 rfl Tryz.underlying24 Tryz.underlying9 info5 v3 L2 k rfl rfl HO3.out (Below.refl _ _) hB3 ?hl ?_; (case hl => (have := HL2.out; omega)); intro v4 w4 ho hb hg; obtain ⟨L3, hL3⟩ : ∃ L3, L2 ++ bytesOf k = L3 := ⟨_, rfl⟩; rw [hL3] at ho; have HE3 := Aside0.mk hL3; have HL3 : Aside0 (L3.length ≤ l.length + 20 + (1 + k.size)) := ⟨by have := HL2.out; rw [← hL3]; simp only [List.length_append, List.length_cons, List.length_nil, bytesOf_length]; omega⟩; clear hL3; have HO4 : Aside0 (Own w4 B v4 L3) := ⟨ho⟩; have HB4 := Aside0.mk (HB3.out.trans hb); have HX4 : Aside0 (Blk w4 w.heap.size #[.string k, .string val] 64) := ⟨(hg.block _ HX3.out.lt (fun e => HO3.out.type_ne HX3.out (by decide) e)).trans HX3.out⟩; have hB4 : B ≤ w4.heap.size := Nat.le_trans hB3 hb.size; have hc40 : World.cell? w4 ⟨w.heap.size, 0, none⟩ = some (.string k) := (HX4.out.cell 0).trans rfl; have hc41 : World.cell? w4 ⟨w.heap.size, 1, none⟩ = some (.string val) := (HX4.out.cell 1).trans rfl; have hxl4 := HX4.out.lt; clear ho hb hg)
    | ((with_reducible refine gate_dst (N := 18) rfl ?_); at_builtin; refine print_append_num (w0 := w4) B rfl (.tmp 16) (.tmp 17) 24 5 .u8 1 rfl Tryz.underlying24 info5 (by decide) v4 L3 61 rfl rfl HO4.out (Below.refl _ _) hB4 ?hl ?_; (case hl => (have := HL3.out; omega)); intro v5 w5 ho hb hg hat; obtain ⟨L4, hL4⟩ : ∃ L4, L3 ++ [61] = L4 := ⟨_, rfl⟩; rw [hL4] at ho; have HE4 := Aside0.mk hL4; have HL4 : Aside0 (L4.length ≤ l.length + 20 + (1 + k.size + 1)) := ⟨by have := HL3.out; rw [← hL4]; simp only [List.length_append, List.length_cons, List.length_nil, bytesOf_length]; omega⟩; clear hL4; have HO5 : Aside0 (Own w5 B v5 L4) := ⟨ho⟩; have HB5 := Aside0.mk (HB4.out.trans hb); have HX5 : Aside0 (Blk w5 w.heap.size #[.string k, .string val] 64) := ⟨(hg.block _ HX4.out.lt (fun e => HO4.out.type_ne HX4.out (by decide) e)).trans HX4.out⟩; have hB5 : B ≤ w5.heap.size := Nat.le_trans hB4 hb.size; have hc50 : World.cell? w5 ⟨w.heap.size, 0, none⟩ = some (.string k) := (HX5.out.cell 0).trans rfl; have hc51 : World.cell? w5 ⟨w.heap.size, 1, none⟩ = some (.string val) := (HX5.out.cell 1).trans rfl; have hxl5 := HX5.out.lt; clear ho hb hg hat)
    | ((with_reducible refine gate_dst (N := 22) rfl ?_); at_builtin; refine print_append_str (w0 := w5) B rfl (.tmp 19) (.tmp 21) 24 9 5 rfl Tryz.underlying24 Tryz.underlying9 info5 v5 L4 val rfl rfl HO5.out (Below.refl _ _) hB5 ?hl ?_; (case hl => (have := HL4.out; omega)); intro v6 w6 ho hb hg; obtain ⟨L5, hL5⟩ : ∃ L5, L4 ++ bytesOf val = L5 := ⟨_, rfl⟩; rw [hL5] at ho; have HE5 := Aside0.mk hL5; have HL5 : Aside0 (L5.length ≤ l.length + 20 + (1 + k.size + 1 + val.size)) := ⟨by have := HL4.out; rw [← hL5]; simp only [List.length_append, List.length_cons, List.length_nil, bytesOf_length]; omega⟩; clear hL5; have HO6 : Aside0 (Own w6 B v6 L5) := ⟨ho⟩; have HB6 := Aside0.mk (HB5.out.trans hb); have HX6 : Aside0 (Blk w6 w.heap.size #[.string k, .string val] 64) := ⟨(hg.block _ HX5.out.lt (fun e => HO5.out.type_ne HX5.out (by decide) e)).trans HX5.out⟩; have hB6 : B ≤ w6.heap.size := Nat.le_trans hB5 hb.size; have hc60 : World.cell? w6 ⟨w.heap.size, 0, none⟩ = some (.string k) := (HX6.out.cell 0).trans rfl; have hc61 : World.cell? w6 ⟨w.heap.size, 1, none⟩ = some (.string val) := (HX6.out.cell 1).trans rfl; have hxl6 := HX6.out.lt; clear ho hb hg)
    | ((with_reducible refine gate_dst (N := 25) rfl ?_); at_builtin; refine print_append_num (w0 := w6) B rfl (.tmp 23) (.tmp 24) 24 5 .u8 1 rfl Tryz.underlying24 info5 (by decide) v6 L5 10 rfl rfl HO6.out (Below.refl _ _) hB6 ?hl ?_; (case hl => (have := HL5.out; omega)); intro v7 w7 ho hb hg hat; obtain ⟨L6, hL6⟩ : ∃ L6, L5 ++ [10] = L6 := ⟨_, rfl⟩; rw [hL6] at ho; have HE6 := Aside0.mk hL6; have HL6 : Aside0 (L6.length ≤ l.length + 20 + (1 + k.size + 1 + val.size + 1)) := ⟨by have := HL5.out; rw [← hL6]; simp only [List.length_append, List.length_cons, List.length_nil, bytesOf_length]; omega⟩; clear hL6; have HO7 : Aside0 (Own w7 B v7 L6) := ⟨ho⟩; have HB7 := Aside0.mk (HB6.out.trans hb); have HX7 : Aside0 (Blk w7 w.heap.size #[.string k, .string val] 64) := ⟨(hg.block _ HX6.out.lt (fun e => HO6.out.type_ne HX6.out (by decide) e)).trans HX6.out⟩; have hB7 : B ≤ w7.heap.size := Nat.le_trans hB6 hb.size; have hc70 : World.cell? w7 ⟨w.heap.size, 0, none⟩ = some (.string k) := (HX7.out.cell 0).trans rfl; have hc71 : World.cell? w7 ⟨w.heap.size, 1, none⟩ = some (.string val) := (HX7.out.cell 1).trans rfl; have hxl7 := HX7.out.lt; clear ho hb hg hat))
  go_ret
  refine ⟨_, rfl, ?_, HB7.out⟩
  rw [HREC.out, HE2.out, HE3.out, HE4.out, HE5.out, HE6.out]
  exact HO7.out
end Go.Proofs.YtopehfjohifpnaaGreatDoor.Mine
end
section
set_option linter.unusedSimpArgs false
set_option linter.unusedVariables false
namespace Go.Proofs.YtopehfjohifpnaaGreatDoor.Mine
open Go.RowKit Go.Maps Go.Proofs.YtopehfjohifpnaaGreatDoorW.PrintWords Go.Proofs.YtopehfjohifpnaaGreatDoorW.PrintLast Go.Proofs.YtopehfjohifpnaaGreatDoorW.PrintMore Go.Proofs.YtopehfjohifpnaaGreatDoor.Turn Go.Proofs.YtopehfjohifpnaaGreatDoor.Doc
def recV (k v : ByteArray) (d : Nat) : List Int := if fitN k v = 0 then recL k v d else []
theorem fit_small {k v : ByteArray} (h : fitN k v = 0) : k.size ≤ 32 ∧ v.size ≤ 1024 := by
  unfold fitN at h
  split at h
  · cases h
  · rename_i h1
    split at h
    · cases h
    · omega
theorem decimalR_any (n : Nat) (hn : n ≤ 9223372036854775807) (x : Int) (hx : x = n) (w : World) : Calls Tryz.prog 103 #[.int .i64 x] w fun e w' => e = .returned (.string ⟨(Lib.decDigits n).toArray⟩) ∧ Below w.heap.size w w' := by
  subst hx
  exact tabularyref09_decimal.calls 20 n _ w (decimal_f n 20 hn (Nat.le_refl _))
def EndsRecR (w : World) (k v : ByteArray) (d : Nat) (e : Ending) (w' : World) : Prop := ∃ A c, e = .returned (.tuple #[.slice A (recV k v d).length c, .int .i64 (fitN k v)]) ∧ (recV k v d).length ≤ c ∧ Kd.F (Kd.int .u8) w' (fun k => w.heap.size ≤ k) A (recV k v d).length (recV k v d) ∧ Below w.heap.size w w'
def recS (k v : ByteArray) (d : Nat) : ByteArray := (⟨(Lib.decDigits (3 + k.size + v.size + d)).toArray⟩ : ByteArray) ++ ⟨#[32]⟩ ++ k ++ ⟨#[61]⟩ ++ v ++ ⟨#[10]⟩
theorem recS_bytes (k v : ByteArray) (d : Nat) : bytesOf (recS k v d) = recL k v d := by
  unfold recS recL bytesOf decL
  simp only [ByteArray.data_append, Array.toList_append, List.map_append]
  rfl
theorem bytes_C (w0 : World) {W : World} {s : ByteArray} {g : Nat} {fz : Nat × Nat} (h : W.heap[g]? = some (.cells (Lib.bytesCells w0 5 s) 5 fz)) (hs : s.size ≤ 9223372036854775807) : Kd.C (Kd.int .u8) W (some ⟨g, 0, none⟩) s.size (bytesOf s) := by
  refine ⟨bytesOf_length s, hs, fun _ => ⟨_, rfl, fun j p hj => ⟨[.int .u8 p], rfl, rfl, fun i u hu => ?_⟩⟩⟩
  match i, hu with
  | 0, hu =>
    simp only [List.getElem?_cons_zero, Option.some.injEq] at hu
    subst hu
    have hjl : j < s.size := by
      have := (List.getElem?_eq_some_iff.1 hj).1
      rwa [bytesOf_length] at this
    have hc : W.cell? ⟨g, j, none⟩ = some (.int .u8 p) := by
      have e1 : W.cell? ⟨g, j, none⟩ = (Lib.bytesCells w0 5 s)[j]? := by simp [World.cell?, h]
      rw [e1]
      unfold Lib.bytesCells
      rw [Array.getElem?_append_left (by simpa using hjl), Array.getElem?_map]
      unfold bytesOf at hj
      rw [List.getElem?_map] at hj
      cases hq : s.data.toList[j]? with
      | none => rw [hq] at hj; cases hj
      | some b =>
        rw [hq] at hj
        cases hj
        rw [Array.getElem?_toList] at hq
        rw [hq]
        rfl
    rcases Nat.eq_zero_or_pos j with rfl | hj0
    · simpa [Addr.add, Kd.int, Kd.scalar] using hc
    · simpa [Addr.add, Kd.int, Kd.scalar, Nat.ne_of_gt hj0] using hc
  | i + 1, hu => simp at hu
theorem bytes_F (w0 : World) {W : World} {s : ByteArray} {g B : Nat} {fz : Nat × Nat} (h : W.heap[g]? = some (.cells (Lib.bytesCells w0 5 s) 5 fz)) (hg : B ≤ g) (hs : s.size ≤ 9223372036854775807 := by omega) : Kd.F (Kd.int .u8) W (fun k => B ≤ k) (some ⟨g, 0, none⟩) s.size (bytesOf s) :=
  fun W' hW => bytes_C w0 ((hW g hg (blk_lt h)).trans h) hs
set_option maxHeartbeats 4000000 in
set_option maxRecDepth 100000 in
theorem recordR_any (k v : ByteArray) (hk : k.size ≤ 140737488351232) (hv : v.size ≤ 140737488351232) {d : Nat} (hd : SizeIs (3 + k.size + v.size) d) (w : World) :
    Calls Tryz.prog 83 #[.agg #[.string k, .string v]] w (EndsRecR w k v d) := by
  have HB0 := Aside0.mk (below_alloc (Below.refl w.heap.size w) (.cells #[.string k, .string v] 64))
  have HX0 := Aside0.mk (Blk.new w #[.string k, .string v] 64)
  have HD := Aside0.mk hd
  have hd2 := hd.2.1
  have hdl : (⟨(Lib.decDigits (3 + k.size + v.size + d)).toArray⟩ : ByteArray).size = d := (size_of _).trans ((Lib.decDigits_length _).trans hd.2.2.1)
  clear hd
  have HF := Aside0.mk (fitsR_any k v hk)
  have HSZ := Aside0.mk (sizeR_any k v hk hv HD.out)
  have HDC := Aside0.mk (decimalR_any (3 + k.size + v.size + d) (by omega) (3 + (k.size : Int) + (v.size : Int) + (d : Int)) (by omega))
  have HFIT : Aside0 (fitN k v = 0 → k.size ≤ 32 ∧ v.size ≤ 1024) := ⟨fit_small⟩
  have HRV : Aside0 (recV k v d = if fitN k v = 0 then recL k v d else []) := ⟨rfl⟩
  have HRS : Aside0 (recS k v d = (⟨(Lib.decDigits (3 + k.size + v.size + d)).toArray⟩ : ByteArray) ++ ⟨#[32]⟩ ++ k ++ ⟨#[61]⟩ ++ v ++ ⟨#[10]⟩) := ⟨rfl⟩
  have HE : Aside0 (EndsRecR w k v d = fun e w' => ∃ A c, e = .returned (.tuple #[.slice A (recV k v d).length c, .int .i64 (fitN k v)]) ∧ (recV k v d).length ≤ c ∧ Kd.F (Kd.int .u8) w' (fun k => w.heap.size ≤ k) A (recV k v d).length (recV k v d) ∧ Below w.heap.size w w') := ⟨rfl⟩
  obtain ⟨P, hP⟩ : ∃ P, EndsRecR w k v d = P := ⟨_, rfl⟩
  rw [hP] at HE ⊢
  clear hP
  generalize recV k v d = R at *
  generalize fitN k v = f at *
  generalize (⟨(Lib.decDigits (3 + k.size + v.size + d)).toArray⟩ : ByteArray) = ds at *
  go_enter Tryz.func83, Tryz.ntmps83
  go_wp2_with fail
  refine (HF.out _).mono ?_
  rintro e w2 ⟨rfl, hb⟩
  have HB2 := Aside0.mk (below_step HB0.out hb)
  have hx2 : Blk w2 w.heap.size #[.string k, .string v] 64 := (hb.block _ HX0.out.lt).trans HX0.out
  have hl2 := hx2.lt
  have hx20 : World.cell? w2 ⟨w.heap.size, 0, none⟩ = some (.string k) := Blk.cell hx2 0
  have hx21 : World.cell? w2 ⟨w.heap.size, 1, none⟩ = some (.string v) := Blk.cell hx2 1
  clear hb hx2
  by_cases h0 : f = 0
  · subst h0
    have HRR : Aside0 (R = recL k v d) := ⟨by rw [HRV.out, if_pos rfl]⟩
    have hk32 := (HFIT.out rfl).1
    have hv32 := (HFIT.out rfl).2
    have lx0 := fun x : Behind w2 => later_cell hx20 x
    have lx1 := fun x : Behind w2 => later_cell hx21 x
    have ll := fun x : Behind w2 => Nat.lt_of_lt_of_le hl2 x.below.size
    obtain ⟨s1, hs1⟩ : ∃ s1, ds ++ (⟨#[32]⟩ : ByteArray) = s1 := ⟨_, rfl⟩
    have z1 : s1.size = d + 1 := by rw [← hs1, ByteArray.size_append, hdl]; rfl
    obtain ⟨s2, hs2⟩ : ∃ s2, s1 ++ k = s2 := ⟨_, rfl⟩
    have z2 : s2.size = d + 1 + k.size := by rw [← hs2, ByteArray.size_append, z1]
    obtain ⟨s3, hs3⟩ : ∃ s3, s2 ++ (⟨#[61]⟩ : ByteArray) = s3 := ⟨_, rfl⟩
    have z3 : s3.size = d + 1 + k.size + 1 := by rw [← hs3, ByteArray.size_append, z2]; rfl
    obtain ⟨s4, hs4⟩ : ∃ s4, s3 ++ v = s4 := ⟨_, rfl⟩
    have z4 : s4.size = d + 1 + k.size + 1 + v.size := by rw [← hs4, ByteArray.size_append, z3]
    obtain ⟨s5, hs5⟩ : ∃ s5, s4 ++ (⟨#[10]⟩ : ByteArray) = s5 := ⟨_, rfl⟩
    have z5 : s5.size = d + 1 + k.size + 1 + v.size + 1 := by rw [← hs5, ByteArray.size_append, z4]; rfl
    have HS5 : Aside0 (recS k v d = s5) := ⟨by rw [HRS.out, hs1, hs2, hs3, hs4, hs5]⟩
    have Z5 := Aside0.mk z5
    have o1 : ∀ w, (Op.stringOp .add ds (⟨#[32]⟩ : ByteArray)).run Tryz.prog w = .ok (.string s1) w := fun w => by rw [← hs1]; exact run_string_add w _ _ (by omega) (by show ((1 : Nat) : Int) ≤ _; omega)
    have o2 : ∀ w, (Op.stringOp .add s1 k).run Tryz.prog w = .ok (.string s2) w := fun w => by rw [← hs2]; exact run_string_add w _ _ (by omega) (by omega)
    have o3 : ∀ w, (Op.stringOp .add s2 (⟨#[61]⟩ : ByteArray)).run Tryz.prog w = .ok (.string s3) w := fun w => by rw [← hs3]; exact run_string_add w _ _ (by omega) (by show ((1 : Nat) : Int) ≤ _; omega)
    have o4 : ∀ w, (Op.stringOp .add s3 v).run Tryz.prog w = .ok (.string s4) w := fun w => by rw [← hs4]; exact run_string_add w _ _ (by omega) (by omega)
    have o5 : ∀ w, (Op.stringOp .add s4 (⟨#[10]⟩ : ByteArray)).run Tryz.prog w = .ok (.string s5) w := fun w => by rw [← hs5]; exact run_string_add w _ _ (by omega) (by show ((1 : Nat) : Int) ≤ _; omega)
    clear hs1 hs2 hs3 hs4 hs5 z1 z2 z3 z4 z5 hdl
    clear HRV
    go_wp2_with fail
    refine wp_region_behind (by kernel_rfl) (by kernel_rfl) ?_
    repeat (go_big_quiet_step (first | (go_at_call 104; exact calls_behind _ (HSZ.out _)) | (go_at_call 103; exact calls_behind _ (HDC.out _))))
    refine wpQuiet_nil ?_
    rintro _ ⟨x, rfl⟩
    have hcv := Lib.run_convert_string_bytes (P := Tryz.prog) (later w2 x) 9 24 5 s5 Tryz.underlying9 Tryz.underlying24 Tryz.underlying5
    have HBX := Aside0.mk (below_step HB2.out x.below)
    have HBY := Aside0.mk (below_step HBX.out (Lib.bytesWorld_below (later w2 x) 5 s5))
    have HLT := Aside0.mk (Nat.le_trans HB2.out.size x.below.size)
    go_wp2_with fail
    rw [HE.out]
    have hR : R = bytesOf s5 := by rw [HRR.out, ← recS_bytes, HS5.out]
    have hlen : R.length = s5.size := by rw [hR, bytesOf_length]
    rw [hR, bytesOf_length]
    exact ⟨_, _, rfl, grownCap_ge _ _ _ _, bytes_F _ (Lib.bytesWorld_at_new (later w2 x) 5 s5) HLT.out (by have := Z5.out; omega), HBY.out⟩
  · have HRR : Aside0 (R = []) := ⟨by rw [HRV.out, if_neg h0]⟩
    have hne : (f == 0) = false := beq_eq_false_iff_ne.2 h0
    have hne2 : (f != 0) = true := bne_iff_ne.2 h0
    clear HRV h0
    go_wp2_with fail
    rw [HE.out, HRR.out]
    exact ⟨none, 0, rfl, Nat.le_refl _, Kd.F_nil _ _ _, HB2.out⟩
theorem Own.C {w : World} {B : Nat} {A : Option Addr} {c : Nat} {l : List Int} (h : Own w B (.slice A l.length c) l) : l.length ≤ c ∧ Kd.C (Kd.int .u8) w A l.length l := by
  obtain ⟨A', c', he, hc, hr⟩ := own_reads_of_le (enc := fun x : Int => Value.int .u8 x) (d := 0) h
  cases he
  exact ⟨hc, Kd.C_of_reads hr⟩
theorem Own.size {w : World} {B : Nat} {v : Value} {l : List Int} (h : Own w B v l) : l.length ≤ 9223372036854775807 := by
  obtain ⟨A, c, rfl⟩ := own_slice h
  exact h.C.2.2.1
end Go.Proofs.YtopehfjohifpnaaGreatDoor.Mine
end
