import Derived.Test.YtopehfjohifpnaaGreatDoorZ9
import Derived.Test.YtopehfjohifpnaaGreatDoorZ12
import Derived.Deep.WholeRow
section
set_option linter.unusedSimpArgs false
set_option linter.unusedVariables false
namespace Go.Proofs.YtopehfjohifpnaaGreatDoor.Mine
open Go.RowKit Go.Shelf Go.Proofs.YtopehfjohifpnaaGreatDoorW.PrintWords Go.Proofs.YtopehfjohifpnaaGreatDoorW.PrintLast Go.Proofs.YtopehfjohifpnaaGreatDoorW.PrintMore Go.Proofs.YtopehfjohifpnaaGreatDoor.Turn Go.Proofs.YtopehfjohifpnaaGreatDoor.Doc
def zs (n : Nat) : List Int := List.replicate n 0
theorem zs_length (n : Nat) : (zs n).length = n := List.length_replicate
theorem zs_zs (a b : Nat) : zs a ++ zs b = zs (a + b) := List.replicate_append_replicate
def imgL (pre : List Int) : List Int := pre ++ zs (512 - pre.length)
def appL (pre : List Int) (o : Nat) (vs : List Int) : List Int := pre ++ zs (o - pre.length) ++ vs
theorem appL_length {pre vs : List Int} {o : Nat} (h : pre.length ≤ o) : (appL pre o vs).length = o + vs.length := by
  unfold appL
  rw [List.length_append, List.length_append, zs_length]
  omega
theorem imgL_length {pre : List Int} (h : pre.length ≤ 512) : (imgL pre).length = 512 := by
  unfold imgL
  rw [List.length_append, zs_length]
  omega
theorem setL_img {pre vs : List Int} {o : Nat} (h : pre.length ≤ o) (h2 : o + vs.length ≤ 512) : setL (imgL pre) o vs = imgL (appL pre o vs) := by
  have e : imgL pre = (pre ++ zs (o - pre.length)) ++ (zs vs.length ++ zs (512 - (o + vs.length))) := by
    unfold imgL
    rw [List.append_assoc, zs_zs, zs_zs]
    congr 2
    omega
  have hl : (pre ++ zs (o - pre.length)).length = o := by rw [List.length_append, zs_length]; omega
  unfold setL
  rw [e, List.take_left' hl, List.drop_append, hl, List.drop_eq_nil_of_le (by rw [hl]; omega), List.nil_append, show o + vs.length - o = vs.length by omega, List.drop_left' (zs_length _)]
  unfold imgL
  rw [appL_length h]
  rfl
def magicL : List Int := [117, 115, 116, 97, 114, 0, 48, 48]
def layP (nm pf : ByteArray) (md sz tm ty : Int) (lk : ByteArray) : List Int :=
  appL (appL (appL (appL (appL (appL (appL (appL (appL (appL (appL (appL [] 0 (bytesOf nm)) 100 (octF md 8).1) 108 (octF 0 8).1) 116 (octF 0 8).1) 124 (octF sz 12).1) 136 (octF tm 12).1) 156 [ty]) 157 (bytesOf lk)) 257 magicL) 329 (octF 0 8).1) 337 (octF 0 8).1) 345 (bytesOf pf)
def layF (nm pf : ByteArray) (md sz tm ty : Int) (lk : ByteArray) : List Int := sealL (imgL (layP nm pf md sz tm ty lk))
def nulB (s : ByteArray) : Bool := s.data.toList.contains 0
def mayH (nm pf : ByteArray) (md sz tm ty : Int) (lk : ByteArray) : Int :=
  if ¬ (ty = 48 ∨ ty = 49 ∨ ty = 50 ∨ ty = 53 ∨ ty = 120) then 102 else
  if 100 < nm.size ∨ 100 < lk.size ∨ 155 < pf.size then 2 else
  if nulB nm = true ∨ nulB lk = true ∨ nulB pf = true then 82 else
  if md < 0 ∨ 4095 < md ∨ sz < 0 ∨ 8589934591 < sz ∨ tm < 0 ∨ 1099511627776 < tm then 1 else 0
structure GoodH (nm pf : ByteArray) (md sz tm ty : Int) (lk : ByteArray) : Prop where
  hty : ty = 48 ∨ ty = 49 ∨ ty = 50 ∨ ty = 53 ∨ ty = 120
  hnm : nm.size ≤ 100
  hlk : lk.size ≤ 100
  hpf : pf.size ≤ 155
  nnul : nulB nm = false
  lnul : nulB lk = false
  pnul : nulB pf = false
  hmd : 0 ≤ md ∧ md ≤ 4095
  hsz : 0 ≤ sz ∧ sz ≤ 8589934591
  htm : 0 ≤ tm ∧ tm ≤ 1099511627776
theorem good_of {nm pf lk : ByteArray} {md sz tm ty : Int} (h : mayH nm pf md sz tm ty lk = 0) : GoodH nm pf md sz tm ty lk := by
  unfold mayH at h
  by_cases h1 : ty = 48 ∨ ty = 49 ∨ ty = 50 ∨ ty = 53 ∨ ty = 120
  · rw [if_neg (fun e => e h1)] at h
    by_cases h2 : 100 < nm.size ∨ 100 < lk.size ∨ 155 < pf.size
    · rw [if_pos h2] at h; cases h
    · rw [if_neg h2] at h
      by_cases h3 : nulB nm = true ∨ nulB lk = true ∨ nulB pf = true
      · rw [if_pos h3] at h; cases h
      · rw [if_neg h3] at h
        by_cases h4 : md < 0 ∨ 4095 < md ∨ sz < 0 ∨ 8589934591 < sz ∨ tm < 0 ∨ 1099511627776 < tm
        · rw [if_pos h4] at h; cases h
        · exact ⟨h1, by omega, by omega, by omega, by simpa using fun e => h3 (.inl e), by simpa using fun e => h3 (.inr (.inl e)), by simpa using fun e => h3 (.inr (.inr e)), by omega, by omega, by omega⟩
  · rw [if_pos h1] at h; cases h
theorem oct8_ok {n : Int} (h0 : 0 ≤ n) (h1 : n ≤ 4095) : (octF n 8).2 = 0 := by unfold octF; rw [if_neg (by omega), if_pos (by omega)]
theorem oct12_ok {n : Int} (h0 : 0 ≤ n) (h1 : n ≤ 1099511627776) : (octF n 12).2 = 0 := by
  unfold octF
  rw [if_neg (by omega)]
  split
  · rfl
  · rw [if_pos]
    rw [Nat.div_eq_zero_iff]
    right
    omega
theorem oct8_len {n : Int} (h0 : 0 ≤ n) (h1 : n ≤ 4095) : (octF n 8).1.length = 8 := octF_length (by omega) (oct8_ok h0 h1)
theorem oct12_len {n : Int} (h0 : 0 ≤ n) (h1 : n ≤ 1099511627776) : (octF n 12).1.length = 12 := octF_length (by omega) (oct12_ok h0 h1)
theorem bytesOf_rg (s : ByteArray) : Bytes (bytesOf s) := by
  intro x hx
  unfold bytesOf at hx
  obtain ⟨b, _, rfl⟩ := List.mem_map.1 hx
  have := b.toNat_lt
  omega
theorem Bytes.app {a b : List Int} (ha : Bytes a) (hb : Bytes b) : Bytes (a ++ b) := fun x hx => (List.mem_append.1 hx).elim (ha x) (hb x)
theorem Bytes.zs (n : Nat) : Bytes (zs n) := fun x hx => by rw [List.eq_of_mem_replicate hx]; omega
theorem Bytes.appL {pre vs : List Int} (hp : Bytes pre) (o : Nat) (hv : Bytes vs) : Bytes (appL pre o vs) := (hp.app (Bytes.zs _)).app hv
theorem Bytes.img {pre : List Int} (hp : Bytes pre) : Bytes (imgL pre) := hp.app (Bytes.zs _)
theorem Bytes.oct (n : Int) (w : Nat) : Bytes (octF n w).1 := octF_byte n w
theorem Bytes.set {L vs : List Int} (hL : Bytes L) (o : Nat) (hv : Bytes vs) : Bytes (setL L o vs) := by
  intro x hx
  unfold setL at hx
  rcases List.mem_append.1 hx with h | h
  · rcases List.mem_append.1 h with h | h
    · exact hL x (List.mem_of_mem_take h)
    · exact hv x h
  · exact hL x (List.mem_of_mem_drop h)
section
variable {nm pf lk : ByteArray} {md sz tm ty : Int} (h : GoodH nm pf md sz tm ty lk)
include h
theorem layP_bytes : Bytes (layP nm pf md sz tm ty lk) := by
  unfold layP
  have hty : Bytes [ty] := fun x hx => by rw [List.mem_singleton.1 hx]; have := h.hty; omega
  have hmg : Bytes magicL := by unfold magicL Bytes; decide
  have h0 : Bytes ([] : List Int) := fun x hx => by cases hx
  exact (((((((((((h0.appL 0 (bytesOf_rg nm)).appL 100 (Bytes.oct _ _)).appL 108 (Bytes.oct _ _)).appL 116 (Bytes.oct _ _)).appL 124 (Bytes.oct _ _)).appL 136 (Bytes.oct _ _)).appL 156 hty).appL 157 (bytesOf_rg lk)).appL 257 hmg).appL 329 (Bytes.oct _ _)).appL 337 (Bytes.oct _ _)).appL 345 (bytesOf_rg pf)
end
def padL (l : List Int) (n : Nat) : List Int := l ++ zs (n - l.length)
theorem textR_l0 (n : Nat) (hn : n ≤ 1000) : ∀ (m K i : Nat) (l : List Int), m + 1 ≤ K → i + m = n → l.length ≤ 100000 + i → tabularyref10_text.l0 K l (n : Int) (i : Int) = some (l ++ zs m)
  | 0, K, i, l, hK, hi, hl => by
    obtain ⟨K, rfl⟩ : ∃ K', K = K' + 1 := ⟨K - 1, by omega⟩
    rw [tabularyref10_text.l0.eq_2, if_neg (by omega)]
    simp [zs]
  | m + 1, K, i, l, hK, hi, hl => by
    obtain ⟨K, rfl⟩ : ∃ K', K = K' + 1 := ⟨K - 1, by omega⟩
    rw [tabularyref10_text.l0.eq_2, if_pos (by omega), if_pos (by omega), wrap_id (by omega) (by omega), show (i : Int) + 1 = ((i + 1 : Nat) : Int) by omega, textR_l0 n hn m K (i + 1) _ (by omega) (by omega) (by rw [List.length_append, List.length_singleton]; omega)]
    rw [List.append_assoc]
    rfl
theorem textR_f (l : List Int) (s : ByteArray) (n : Nat) (hn : n ≤ 1000) (hs : s.size ≤ n) (hl : l.length ≤ 1000) (K : Nat) (hK : 1001 ≤ K) : tabularyref10_text.f K l s (n : Int) = some (l ++ padL (bytesOf s) n) := by
  have hb := bytesOf_length s
  unfold tabularyref10_text.f
  rw [if_pos (by omega), textR_l0 n hn (n - s.size) K s.size _ (by omega) (by omega) (by rw [List.length_append, hb]; omega)]
  unfold padL
  rw [hb, List.append_assoc]
theorem sumR_l0 (L : List Int) (hb : Bytes L) (hl : L.length = 512) : ∀ (m K i : Nat) (n : Int), m + 1 ≤ K → i + m = 512 → 0 ≤ n → n ≤ 255 * i → tabularyref10_Sum.l0 K L n (i : Int) = some (sumG L m i n)
  | 0, K, i, n, hK, hi, h0, h1 => by
    obtain ⟨K, rfl⟩ : ∃ K', K = K' + 1 := ⟨K - 1, by omega⟩
    rw [tabularyref10_Sum.l0.eq_2, if_neg (by omega)]
    rfl
  | m + 1, K, i, n, hK, hi, h0, h1 => by
    obtain ⟨K, rfl⟩ : ∃ K', K = K' + 1 := ⟨K - 1, by omega⟩
    have hx := hb.at i
    have er : rd L (i : Int) = L.getD i 0 := by unfold rd; rw [Int.toNat_natCast]
    rw [tabularyref10_Sum.l0.eq_2, if_pos (by omega), er]
    unfold sumG
    have hw : wrap64 ((i : Int) + 1) = ((i + 1 : Nat) : Int) := by rw [wrap_id (by omega) (by omega)]; rfl
    have hw2 : wrap64 (n + wrap64 (L.getD i 0)) = n + L.getD i 0 := by rw [wrap_id (x := L.getD i 0) (by omega) (by omega), wrap_id (by omega) (by omega)]
    have hw3 : wrap64 (n + 32) = n + 32 := wrap_id (by omega) (by omega)
    rw [hw, hw2, hw3]
    by_cases c1 : 148 ≤ i
    · rw [if_pos (by omega)]
      by_cases c2 : i < 156
      · rw [if_pos (by omega), if_pos ⟨c1, c2⟩]
        exact sumR_l0 L hb hl m K (i + 1) _ (by omega) (by omega) (by omega) (by omega)
      · rw [if_neg (by omega), if_pos (by omega), if_neg (fun e => c2 e.2)]
        exact sumR_l0 L hb hl m K (i + 1) _ (by omega) (by omega) (by omega) (by omega)
    · rw [if_neg (by omega), if_pos (by omega), if_neg (fun e => c1 e.1)]
      exact sumR_l0 L hb hl m K (i + 1) _ (by omega) (by omega) (by omega) (by omega)
theorem sumR_f (L : List Int) (hb : Bytes L) (hl : L.length = 512) (K : Nat) (hK : 600 ≤ K) : tabularyref10_Sum.f K L = some (sumH L) := by
  unfold tabularyref10_Sum.f sumH
  rw [hl]
  exact sumR_l0 L hb hl 512 K 0 0 (by omega) (by omega) (by omega) (by omega)
theorem sealR_f (L : List Int) (hb : Bytes L) (hl : L.length = 512) (K : Nat) (hK : 600 ≤ K) : tabularyref10_Seal.f K L = some (sealL L) := by
  have hrg := sumH_rg hb hl
  have h7 := octF_length (n := sumH L) (w := 7) (by omega) (octF_ok7 hrg.1 hrg.2)
  have h148 : (L.take 148).length = 148 := by rw [List.length_take]; omega
  unfold tabularyref10_Seal.f
  rw [if_pos (by omega), if_pos (by simp only [List.length_nil]; omega), sumR_f L hb hl K hK, Option.bind_some, List.nil_append, show (7 : Int) = ((7 : Nat) : Int) from rfl, numberR_f _ _ (by omega) (.inl rfl) (by omega) K (by omega), Option.bind_some, if_pos (by rw [List.length_append]; omega), Option.bind_some, if_pos (by omega), if_pos (by simp only [List.length_append, List.length_drop, List.length_singleton]; omega)]
  unfold sealL
  have e : setL (setL L 148 (octF (sumH L) 7).1) 155 [32] = L.take 148 ++ (octF (sumH L) 7).1 ++ [32] ++ L.drop 156 := by
    have hl2 : (L.take 148 ++ (octF (sumH L) 7).1).length = 155 := by rw [List.length_append]; omega
    have e1 : setL L 148 (octF (sumH L) 7).1 = (L.take 148 ++ (octF (sumH L) 7).1) ++ L.drop 155 := by unfold setL; rw [h7]
    rw [e1]
    unfold setL
    rw [List.take_left' hl2, List.drop_append, hl2, List.drop_eq_nil_of_le (by rw [hl2]; simp), List.nil_append, List.drop_drop]
    rfl
  rw [e]
theorem pad_len {l : List Int} {n : Nat} (h : l.length ≤ n) : (padL l n).length = n := by unfold padL; rw [List.length_append, zs_length]; omega
def layC (nm pf : ByteArray) (md sz tm ty : Int) (lk : ByteArray) : List Int :=
  padL (bytesOf nm) 100 ++ (octF md 8).1 ++ (octF 0 8).1 ++ (octF 0 8).1 ++ (octF sz 12).1 ++ (octF tm 12).1 ++ zs 8 ++ [ty] ++ padL (bytesOf lk) 100 ++ magicL ++ zs 64 ++ (octF 0 8).1 ++ (octF 0 8).1 ++ padL (bytesOf pf) 155 ++ zs 12
theorem appL_at {pre vs : List Int} {o : Nat} (h : o = pre.length) : appL pre o vs = pre ++ vs := by
  unfold appL
  rw [h, Nat.sub_self]
  simp [zs]
theorem appL_gap {pre vs : List Int} {o k : Nat} (h : o = pre.length + k) : appL pre o vs = pre ++ zs k ++ vs := by
  unfold appL
  rw [h, Nat.add_sub_cancel_left]
section
variable {nm pf lk : ByteArray} {md sz tm ty : Int} (h : GoodH nm pf md sz tm ty lk)
include h
theorem layC_eq : imgL (layP nm pf md sz tm ty lk) = layC nm pf md sz tm ty lk := by
  have hn := bytesOf_length nm
  have hl := bytesOf_length lk
  have hp := bytesOf_length pf
  have h1 := h.hnm
  have h2 := h.hlk
  have h3 := h.hpf
  have o8 := oct8_len h.hmd.1 h.hmd.2
  have o0 : (octF 0 8).1.length = 8 := oct8_len (by omega) (by omega)
  have oz := oct12_len (n := sz) h.hsz.1 (by have := h.hsz.2; omega)
  have ot := oct12_len h.htm.1 h.htm.2
  have hm : magicL.length = 8 := rfl
  unfold layP layC
  generalize bytesOf nm = N at *
  generalize bytesOf lk = K at *
  generalize bytesOf pf = P at *
  generalize (octF md 8).1 = M at *
  generalize (octF 0 8).1 = Z at *
  generalize (octF sz 12).1 = S at *
  generalize (octF tm 12).1 = T at *
  generalize magicL = G at *
  have e0 : appL [] 0 N = N := by simp [appL, zs]
  rw [e0]
  have l1 : (padL N 100).length = 100 := pad_len (by omega)
  have e1 : appL N 100 M = padL N 100 ++ M := by unfold appL padL; rfl
  rw [e1, appL_at (o := 108) (by rw [List.length_append]; omega), appL_at (o := 116) (by simp only [List.length_append]; omega), appL_at (o := 124) (by simp only [List.length_append]; omega), appL_at (o := 136) (by simp only [List.length_append]; omega), appL_gap (o := 156) (k := 8) (by simp only [List.length_append]; omega), appL_at (o := 157) (by simp only [List.length_append, zs_length, List.length_singleton]; omega)]
  have e2 : ∀ pre : List Int, pre.length = 157 → appL (pre ++ K) 257 G = pre ++ padL K 100 ++ G := fun pre hpre => by
    unfold appL padL
    rw [List.length_append, hpre, show 257 - (157 + K.length) = 100 - K.length by omega]
    simp only [List.append_assoc]
  rw [e2 _ (by simp only [List.length_append, zs_length, List.length_singleton]; omega)]
  have l2 : (padL K 100).length = 100 := pad_len (by omega)
  rw [appL_gap (o := 329) (k := 64) (by simp only [List.length_append, zs_length, List.length_singleton]; omega), appL_at (o := 337) (by simp only [List.length_append, zs_length, List.length_singleton]; omega), appL_at (o := 345) (by simp only [List.length_append, zs_length, List.length_singleton]; omega)]
  have e3 : ∀ pre : List Int, pre.length = 345 → imgL (pre ++ P) = pre ++ padL P 155 ++ zs 12 := fun pre hpre => by
    unfold imgL padL
    rw [List.length_append, hpre, show 512 - (345 + P.length) = (155 - P.length) + 12 by omega, ← zs_zs]
    simp only [List.append_assoc]
  rw [e3 _ (by simp only [List.length_append, zs_length, List.length_singleton]; omega)]
theorem layP_len : (layP nm pf md sz tm ty lk).length ≤ 512 := by
  have hp := bytesOf_length pf
  have h3 := h.hpf
  have o8 := oct8_len h.hmd.1 h.hmd.2
  have o0 : (octF 0 8).1.length = 8 := oct8_len (by omega) (by omega)
  have oz := oct12_len (n := sz) h.hsz.1 (by have := h.hsz.2; omega)
  have ot := oct12_len h.htm.1 h.htm.2
  have hl := bytesOf_length lk
  have hn := bytesOf_length nm
  have h1 := h.hnm
  have h2 := h.hlk
  have hm : magicL.length = 8 := rfl
  unfold layP
  rw [appL_length (o := 345), hp]
  · omega
  rw [appL_length (o := 337), o0]
  · omega
  rw [appL_length (o := 329), o0]
  · omega
  rw [appL_length (o := 257), hm]
  · omega
  rw [appL_length (o := 157), hl]
  · omega
  rw [appL_length (o := 156)]
  · simp
  rw [appL_length (o := 136), ot]
  · omega
  rw [appL_length (o := 124), oz]
  · omega
  rw [appL_length (o := 116), o0]
  · omega
  rw [appL_length (o := 108), o0]
  · omega
  rw [appL_length (o := 100), o8]
  · omega
  rw [appL_length (o := 0), hn]
  · omega
  simp
theorem layR_f (K : Nat) (hK : 1100 ≤ K) : tabularyref10_lay.f K nm pf md sz tm ty lk = some (layF nm pf md sz tm ty lk) := by
  have hn := bytesOf_length nm
  have hl := bytesOf_length lk
  have hp := bytesOf_length pf
  have h1 := h.hnm
  have h2 := h.hlk
  have h3 := h.hpf
  have o8 := oct8_len h.hmd.1 h.hmd.2
  have o0 : (octF 0 8).1.length = 8 := oct8_len (by omega) (by omega)
  have oz := oct12_len (n := sz) h.hsz.1 (by have := h.hsz.2; omega)
  have ot := oct12_len h.htm.1 h.htm.2
  have hm : magicL.length = 8 := rfl
  have l1 : (padL (bytesOf nm) 100).length = 100 := pad_len (by omega)
  have l2 : (padL (bytesOf lk) 100).length = 100 := pad_len (by omega)
  have l3 : (padL (bytesOf pf) 155).length = 155 := pad_len (by omega)
  have hE : padL (bytesOf (⟨#[]⟩ : ByteArray)) 8 = zs 8 := rfl
  have hE64 : padL (bytesOf (⟨#[]⟩ : ByteArray)) 64 = zs 64 := rfl
  have hE12 : padL (bytesOf (⟨#[]⟩ : ByteArray)) 12 = zs 12 := rfl
  have hMg : padL (bytesOf (⟨#[117, 115, 116, 97, 114, 0, 48, 48]⟩ : ByteArray)) 8 = magicL := by decide
  have hmd := h.hmd
  have hsz := h.hsz
  have htm := h.htm
  have w8 : W3 8 := .inr (.inl rfl)
  have w12 : W3 12 := .inr (.inr rfl)
  have z8 : (8 : Int) = ((8 : Nat) : Int) := rfl
  have z12 : (12 : Int) = ((12 : Nat) : Int) := rfl
  have z100 : (100 : Int) = ((100 : Nat) : Int) := rfl
  have z155 : (155 : Int) = ((155 : Nat) : Int) := rfl
  have z64 : (64 : Int) = ((64 : Nat) : Int) := rfl
  have hC : layF nm pf md sz tm ty lk = sealL (layC nm pf md sz tm ty lk) := by unfold layF; rw [layC_eq h]
  have hCl : (layC nm pf md sz tm ty lk).length = 512 := by rw [← layC_eq h]; exact imgL_length (layP_len h)
  have hCb : Bytes (layC nm pf md sz tm ty lk) := by rw [← layC_eq h]; exact (layP_bytes h).img
  have hS := sealR_f _ hCb hCl K (by omega)
  unfold tabularyref10_lay.f
  rw [z100, textR_f [] nm 100 (by omega) (by omega) (by simp) K (by omega), Option.bind_some, List.nil_append, z8]
  rw [numberR_f _ md (by omega) w8 (by omega) K (by omega), Option.bind_some]
  rw [numberR_f _ 0 (by omega) w8 (by rw [List.length_append]; omega) K (by omega), Option.bind_some]
  rw [numberR_f _ 0 (by omega) w8 (by simp only [List.length_append]; omega) K (by omega), Option.bind_some, z12]
  rw [numberR_f _ sz (by omega) w12 (by simp only [List.length_append]; omega) K (by omega), Option.bind_some]
  rw [numberR_f _ tm (by omega) w12 (by simp only [List.length_append]; omega) K (by omega), Option.bind_some]
  rw [textR_f _ ⟨#[]⟩ 8 (by omega) (by decide) (by simp only [List.length_append]; omega) K (by omega), Option.bind_some, hE]
  rw [if_pos (by simp only [List.length_append, zs_length]; omega)]
  rw [textR_f _ lk 100 (by omega) (by omega) (by simp only [List.length_append, zs_length, List.length_singleton]; omega) K (by omega), Option.bind_some]
  rw [textR_f _ ⟨#[117, 115, 116, 97, 114, 0, 48, 48]⟩ 8 (by omega) (by decide) (by simp only [List.length_append, zs_length, List.length_singleton]; omega) K (by omega), Option.bind_some, hMg, z64]
  rw [textR_f _ ⟨#[]⟩ 64 (by omega) (by decide) (by simp only [List.length_append, zs_length, List.length_singleton]; omega) K (by omega), Option.bind_some, hE64]
  rw [numberR_f _ 0 (by omega) w8 (by simp only [List.length_append, zs_length, List.length_singleton]; omega) K (by omega), Option.bind_some]
  rw [numberR_f _ 0 (by omega) w8 (by simp only [List.length_append, zs_length, List.length_singleton]; omega) K (by omega), Option.bind_some, z155]
  rw [textR_f _ pf 155 (by omega) (by omega) (by simp only [List.length_append, zs_length, List.length_singleton]; omega) K (by omega), Option.bind_some]
  rw [textR_f _ ⟨#[]⟩ 12 (by omega) (by decide) (by simp only [List.length_append, zs_length, List.length_singleton]; omega) K (by omega), Option.bind_some, hE12]
  unfold layC at hS hC
  rw [hS, Option.bind_some, hC]
end
theorem nulR_l0 (s : ByteArray) (hs : s.size ≤ 1000) : ∀ (m K i : Nat), m + 1 ≤ K → i + m = s.size → tabularyref10_nul.l0 K s (i : Int) = some ((s.data.toList.drop i).contains 0)
  | 0, K, i, hK, hi => by
    obtain ⟨K, rfl⟩ : ∃ K', K = K' + 1 := ⟨K - 1, by omega⟩
    rw [tabularyref10_nul.l0.eq_2, if_neg (by omega), List.drop_eq_nil_of_le (by rw [← Lib.size_eq]; omega)]
    rfl
  | m + 1, K, i, hK, hi => by
    obtain ⟨K, rfl⟩ : ∃ K', K = K' + 1 := ⟨K - 1, by omega⟩
    obtain ⟨x, hx, hb⟩ := bt_get s i (by omega)
    have hlt : i < s.data.toList.length := by rw [← Lib.size_eq]; omega
    have hxe : s.data.toList[i] = x := by rw [List.getElem?_eq_getElem hlt] at hx; exact Option.some.inj hx
    rw [tabularyref10_nul.l0.eq_2, if_pos (by omega), if_pos (by omega), hb, wrap_id (by omega) (by omega), show (i : Int) + 1 = ((i + 1 : Nat) : Int) by omega, nulR_l0 s hs m K (i + 1) (by omega) (by omega), List.drop_eq_getElem_cons hlt, hxe, List.contains_cons]
    by_cases h0 : x = 0
    · subst h0
      rw [if_pos (c := ((0 : UInt8).toNat : Int) = 0) rfl]
      rfl
    · have h1 : (0 == x) = false := beq_eq_false_iff_ne.2 (fun e => h0 e.symm)
      rw [if_neg (fun e => h0 (UInt8.toNat_inj.1 (by show x.toNat = 0; omega))), h1, Bool.false_or]
theorem nulR_f (s : ByteArray) (hs : s.size ≤ 1000) (K : Nat) (hK : 1001 ≤ K) : tabularyref10_nul.f K s = some (nulB s) := by
  have := nulR_l0 s hs s.size K 0 (by omega) (by omega)
  rw [List.drop_zero] at this
  exact this
theorem mayR_f (nm pf : ByteArray) (md sz tm ty : Int) (lk : ByteArray) (K : Nat) (hK : 1100 ≤ K) : tabularyref10_May.f K nm pf md sz tm ty lk = some (mayH nm pf md sz tm ty lk) := by
  obtain ⟨K, rfl⟩ : ∃ K', K = K' + 3 := ⟨K - 3, by omega⟩
  have h2 : ∀ b, tabularyref10_May.j2 (K + 1) b nm pf md sz tm ty lk = some (if b = true then 82 else if md < 0 ∨ 4095 < md ∨ sz < 0 ∨ 8589934591 < sz ∨ tm < 0 ∨ 1099511627776 < tm then 1 else 0) := fun b => by
    rw [tabularyref10_May.j2.eq_2]
    by_cases hb : b = true
    · rw [if_pos hb, if_pos hb]
    · rw [if_neg hb, if_neg hb]
      by_cases c1 : md < 0
      · rw [if_pos c1, if_pos (.inl c1)]
      rw [if_neg c1]
      by_cases c2 : md > 4095
      · rw [if_pos c2, if_pos (by omega)]
      rw [if_neg c2]
      by_cases c3 : sz < 0
      · rw [if_pos c3, if_pos (by omega)]
      rw [if_neg c3]
      by_cases c4 : sz > 8589934591
      · rw [if_pos c4, if_pos (by omega)]
      rw [if_neg c4]
      by_cases c5 : tm < 0
      · rw [if_pos c5, if_pos (by omega)]
      rw [if_neg c5]
      by_cases c6 : tm > 1099511627776
      · rw [if_pos c6, if_pos (by omega)]
      rw [if_neg c6, if_neg (by omega)]
  have h1 : ∀ b, (b = false → nm.size ≤ 100 ∧ lk.size ≤ 100 ∧ pf.size ≤ 155) → tabularyref10_May.j1 (K + 2) b nm pf md sz tm ty lk = some (if b = true then 2 else if nulB nm = true ∨ nulB lk = true ∨ nulB pf = true then 82 else if md < 0 ∨ 4095 < md ∨ sz < 0 ∨ 8589934591 < sz ∨ tm < 0 ∨ 1099511627776 < tm then 1 else 0) := fun b hz => by
    rw [tabularyref10_May.j1.eq_2]
    by_cases hb : b = true
    · rw [if_pos hb, if_pos hb]
    · obtain ⟨z1, z2, z3⟩ := hz (by simpa using hb)
      rw [if_neg hb, if_neg hb, nulR_f nm (by omega) _ (by omega), Option.bind_some]
      by_cases c1 : nulB nm = true
      · rw [if_pos c1, h2, if_pos rfl, if_pos (.inl c1)]
      rw [if_neg c1, nulR_f lk (by omega) _ (by omega), Option.bind_some]
      by_cases c2 : nulB lk = true
      · rw [if_pos c2, h2, if_pos rfl, if_pos (.inr (.inl c2))]
      rw [if_neg c2, nulR_f pf (by omega) _ (by omega), Option.bind_some, h2]
      by_cases c3 : nulB pf = true
      · rw [if_pos c3, if_pos (.inr (.inr c3))]
      · rw [if_neg c3, if_neg (c := nulB nm = true ∨ nulB lk = true ∨ nulB pf = true) (fun e => e.elim c1 (fun e => e.elim c2 c3))]
  have h0 : ∀ b, tabularyref10_May.j0 (K + 3) b nm pf md sz tm ty lk = some (if b = true then 102 else if 100 < nm.size ∨ 100 < lk.size ∨ 155 < pf.size then 2 else if nulB nm = true ∨ nulB lk = true ∨ nulB pf = true then 82 else if md < 0 ∨ 4095 < md ∨ sz < 0 ∨ 8589934591 < sz ∨ tm < 0 ∨ 1099511627776 < tm then 1 else 0) := fun b => by
    rw [tabularyref10_May.j0.eq_2]
    by_cases hb : b = true
    · rw [if_pos hb, if_pos hb]
    rw [if_neg hb, if_neg hb]
    by_cases c1 : 100 < nm.size
    · rw [if_pos (by omega), h1 true (fun e => by cases e), if_pos rfl, if_pos (.inl c1)]
    rw [if_neg (by omega)]
    by_cases c2 : 100 < lk.size
    · rw [if_pos (by omega), h1 true (fun e => by cases e), if_pos rfl, if_pos (.inr (.inl c2))]
    rw [if_neg (by omega)]
    by_cases c3 : 155 < pf.size
    · rw [decide_eq_true (by omega), h1 true (fun e => by cases e), if_pos rfl, if_pos (.inr (.inr c3))]
    · rw [decide_eq_false (by omega), h1 false (fun e => by omega), if_neg (by simp), if_neg (c := 100 < nm.size ∨ 100 < lk.size ∨ 155 < pf.size) (by omega)]
  unfold tabularyref10_May.f mayH
  by_cases t1 : ty = 48
  · rw [if_pos t1, h0, if_neg (c := false = true) (by simp), if_neg (c := ¬ (ty = 48 ∨ ty = 49 ∨ ty = 50 ∨ ty = 53 ∨ ty = 120)) (fun e => e (.inl t1))]
  rw [if_neg t1]
  by_cases t2 : ty = 49
  · rw [if_pos t2, h0, if_neg (c := false = true) (by simp), if_neg (c := ¬ (ty = 48 ∨ ty = 49 ∨ ty = 50 ∨ ty = 53 ∨ ty = 120)) (fun e => e (.inr (.inl t2)))]
  rw [if_neg t2]
  by_cases t3 : ty = 50
  · rw [if_pos t3, h0, if_neg (c := false = true) (by simp), if_neg (c := ¬ (ty = 48 ∨ ty = 49 ∨ ty = 50 ∨ ty = 53 ∨ ty = 120)) (fun e => e (.inr (.inr (.inl t3))))]
  rw [if_neg t3]
  by_cases t4 : ty = 53
  · rw [if_pos t4, h0, if_neg (c := false = true) (by simp), if_neg (c := ¬ (ty = 48 ∨ ty = 49 ∨ ty = 50 ∨ ty = 53 ∨ ty = 120)) (fun e => e (.inr (.inr (.inr (.inl t4)))))]
  rw [if_neg t4, h0]
  by_cases t5 : ty = 120
  · rw [if_neg (c := (ty != 120) = true) (by simp [t5]), if_neg (c := ¬ (ty = 48 ∨ ty = 49 ∨ ty = 50 ∨ ty = 53 ∨ ty = 120)) (fun e => e (.inr (.inr (.inr (.inr t5)))))]
  · rw [if_pos (c := (ty != 120) = true) (bne_iff_ne.2 t5), if_pos (c := ¬ (ty = 48 ∨ ty = 49 ∨ ty = 50 ∨ ty = 53 ∨ ty = 120)) (fun e => by omega)]
def putH (nm pf : ByteArray) (md sz tm ty : Int) (lk : ByteArray) : List Int × Int := if mayH nm pf md sz tm ty lk = 0 then (layF nm pf md sz tm ty lk, 0) else ([], mayH nm pf md sz tm ty lk)
theorem putHR_f (nm pf : ByteArray) (md sz tm ty : Int) (lk : ByteArray) (K : Nat) (hK : 1100 ≤ K) : tabularyref10_Put.f K nm pf md sz tm ty lk = some (putH nm pf md sz tm ty lk) := by
  unfold tabularyref10_Put.f putH
  rw [mayR_f nm pf md sz tm ty lk K hK, Option.bind_some]
  by_cases h : mayH nm pf md sz tm ty lk = 0
  · rw [if_pos h, if_pos h, layR_f (good_of h) K hK, Option.bind_some]
  · rw [if_neg h, if_neg h]
end Go.Proofs.YtopehfjohifpnaaGreatDoor.Mine
end
section
set_option linter.unusedSimpArgs false
set_option linter.unusedVariables false
namespace Go.Proofs.YtopehfjohifpnaaGreatDoor.Mine
open Go.RowKit Go.Shelf Go.Proofs.YtopehfjohifpnaaGreatDoorW.PrintWords Go.Proofs.YtopehfjohifpnaaGreatDoorW.PrintLast Go.Proofs.YtopehfjohifpnaaGreatDoorW.PrintMore Go.Proofs.YtopehfjohifpnaaGreatDoor.Turn Go.Proofs.YtopehfjohifpnaaGreatDoor.Doc
theorem nul3 (a b c : ByteArray) : decide (0 ≤ Lib.indexByte ((a ++ b) ++ c).data.toList 0) = (nulB a || nulB b || nulB c) := by
  rw [← Lib.contains_iff_indexByte]
  unfold nulB
  simp only [ByteArray.data_append, Array.toList_append]
  rw [List.contains_append, List.contains_append]
set_option maxRecDepth 100000 in
set_option maxHeartbeats 4000000 in
theorem mayH_any (nm pf : ByteArray) (md sz tm ty : Int) (lk : ByteArray) (W : World) :
    Calls Tryz.prog 47 #[.agg #[.string nm, .string pf, .int .i64 md, .int .i64 sz, .int .i64 tm, .int .u8 ty, .string lk]] W fun e W' => e = .returned (.int .i64 (mayH nm pf md sz tm ty lk)) ∧ Below W.heap.size W W' := by
  have hx0 := Blk.new W #[.string nm, .string pf, .int .i64 md, .int .i64 sz, .int .i64 tm, .int .u8 ty, .string lk] 68
  have HB := Aside0.mk (below_alloc (Below.refl W.heap.size W) (.cells #[.string nm, .string pf, .int .i64 md, .int .i64 sz, .int .i64 tm, .int .u8 ty, .string lk] 68))
  have HM : Aside0 (mayH nm pf md sz tm ty lk =   if ¬ (ty = 48 ∨ ty = 49 ∨ ty = 50 ∨ ty = 53 ∨ ty = 120) then 102 else
  if 100 < nm.size ∨ 100 < lk.size ∨ 155 < pf.size then 2 else
  if nulB nm = true ∨ nulB lk = true ∨ nulB pf = true then 82 else
  if md < 0 ∨ 4095 < md ∨ sz < 0 ∨ 8589934591 < sz ∨ tm < 0 ∨ 1099511627776 < tm then 1 else 0) := ⟨rfl⟩
  generalize mayH nm pf md sz tm ty lk = r at *
  have hIB := fun (t : ByteArray) W => Tryz.strings_IndexByte t 0 W
  have hn3 := nul3 nm lk pf
  have c0 := (Blk.cell hx0 0).trans rfl
  have c1 := (Blk.cell hx0 1).trans rfl
  have c2 := (Blk.cell hx0 2).trans rfl
  have c3 := (Blk.cell hx0 3).trans rfl
  have c4 := (Blk.cell hx0 4).trans rfl
  have c5 := (Blk.cell hx0 5).trans rfl
  have c6 := (Blk.cell hx0 6).trans rfl
  have hlt := hx0.lt
  by_cases hT : ty = 48 ∨ ty = 49 ∨ ty = 50 ∨ ty = 53 ∨ ty = 120
  case neg =>
    have HY : Aside0 (r = 102) := ⟨by rw [HM.out, if_pos hT]⟩
    have t1 : (ty == 48) = false := beq_eq_false_iff_ne.2 (fun e => hT (.inl e))
    have t2 : (ty == 49) = false := beq_eq_false_iff_ne.2 (fun e => hT (.inr (.inl e)))
    have t3 : (ty == 50) = false := beq_eq_false_iff_ne.2 (fun e => hT (.inr (.inr (.inl e))))
    have t4 : (ty == 53) = false := beq_eq_false_iff_ne.2 (fun e => hT (.inr (.inr (.inr (.inl e)))))
    have t5 : (ty == 120) = false := beq_eq_false_iff_ne.2 (fun e => hT (.inr (.inr (.inr (.inr e)))))
    clear HM hn3 hT
    go_enter Tryz.func47, Tryz.ntmps47
    go_wp2_with (go_at_call 75; refine (hIB _ _).mono ?_; rintro e w' ⟨rfl, rfl⟩)
    all_goals first
      | (go_ret; exact ⟨by rw [HY.out]; rfl, HB.out⟩)
      | (exfalso; omega)
  case pos =>
    have HM2 : Aside0 (r = if 100 < nm.size ∨ 100 < lk.size ∨ 155 < pf.size then 2 else
      if nulB nm = true ∨ nulB lk = true ∨ nulB pf = true then 82 else
      if md < 0 ∨ 4095 < md ∨ sz < 0 ∨ 8589934591 < sz ∨ tm < 0 ∨ 1099511627776 < tm then 1 else 0) := ⟨by rw [HM.out, if_neg (fun e => e hT)]⟩
    clear HM
    by_cases hZ : 100 < nm.size ∨ 100 < lk.size ∨ 155 < pf.size
    case pos =>
      have HY : Aside0 (r = 2) := ⟨by rw [HM2.out, if_pos hZ]⟩
      clear HM2 hn3
      rcases hT with rfl | rfl | rfl | rfl | rfl
      all_goals
        go_enter Tryz.func47, Tryz.ntmps47
        go_wp2_with (go_at_call 75; refine (hIB _ _).mono ?_; rintro e w' ⟨rfl, rfl⟩)
        all_goals first
          | (go_ret; exact ⟨by rw [HY.out]; rfl, HB.out⟩)
          | (exfalso; omega)
    case neg =>
      have HM3 : Aside0 (r = if nulB nm = true ∨ nulB lk = true ∨ nulB pf = true then 82 else
        if md < 0 ∨ 4095 < md ∨ sz < 0 ∨ 8589934591 < sz ∨ tm < 0 ∨ 1099511627776 < tm then 1 else 0) := ⟨by rw [HM2.out, if_neg hZ]⟩
      have o1 : ∀ w, (Op.stringOp .add nm lk).run Tryz.prog w = .ok (.string (nm ++ lk)) w := fun w => run_string_add w _ _ (by omega) (by omega)
      have o2 : ∀ w, (Op.stringOp .add (nm ++ lk) pf).run Tryz.prog w = .ok (.string (nm ++ lk ++ pf)) w := fun w => run_string_add w _ _ (by rw [ByteArray.size_append]; omega) (by omega)
      have hix : ∀ W, Calls Tryz.prog 75 #[.string (nm ++ lk ++ pf), .int .u8 0] W fun e W' => e = .returned (.int .i64 (Lib.indexByte (nm ++ lk ++ pf).data.toList 0)) ∧ W' = W := fun W => hIB _ W
      clear HM2 hIB
      generalize Lib.indexByte (nm ++ lk ++ pf).data.toList 0 = ix at *
      generalize nm ++ lk ++ pf = al at *
      by_cases hN : nulB nm = true ∨ nulB lk = true ∨ nulB pf = true
      case pos =>
        have HY : Aside0 (r = 82) := ⟨by rw [HM3.out, if_pos hN]⟩
        have hge : 0 ≤ ix := of_decide_eq_true (by rw [hn3]; rcases hN with h | h | h <;> simp [h])
        clear HM3 hn3 hN
        rcases hT with rfl | rfl | rfl | rfl | rfl
        all_goals
          go_enter Tryz.func47, Tryz.ntmps47
          go_wp2_with (go_at_call 75; refine (hix _).mono ?_; rintro e w' ⟨rfl, rfl⟩)
          all_goals first
            | (go_ret; exact ⟨by rw [HY.out]; rfl, HB.out⟩)
            | (exfalso; omega)
      case neg =>
        have hge : ¬ 0 ≤ ix := of_decide_eq_false (by
          rw [hn3]
          have h1 : nulB nm = false := by simpa using fun e => hN (.inl e)
          have h2 : nulB lk = false := by simpa using fun e => hN (.inr (.inl e))
          have h3 : nulB pf = false := by simpa using fun e => hN (.inr (.inr e))
          rw [h1, h2, h3]; rfl)
        have HM4 : Aside0 (r = if md < 0 ∨ 4095 < md ∨ sz < 0 ∨ 8589934591 < sz ∨ tm < 0 ∨ 1099511627776 < tm then 1 else 0) := ⟨by rw [HM3.out, if_neg hN]⟩
        clear HM3 hn3 hN
        by_cases hR : md < 0 ∨ 4095 < md ∨ sz < 0 ∨ 8589934591 < sz ∨ tm < 0 ∨ 1099511627776 < tm
        case pos =>
          have HY : Aside0 (r = 1) := ⟨by rw [HM4.out, if_pos hR]⟩
          clear HM4
          rcases hT with rfl | rfl | rfl | rfl | rfl
          all_goals
            go_enter Tryz.func47, Tryz.ntmps47
            go_wp2_with (go_at_call 75; refine (hix _).mono ?_; rintro e w' ⟨rfl, rfl⟩)
            all_goals first
              | (go_ret; exact ⟨by rw [HY.out]; rfl, HB.out⟩)
              | (exfalso; omega)
        case neg =>
          have HY : Aside0 (r = 0) := ⟨by rw [HM4.out, if_neg hR]⟩
          clear HM4
          rcases hT with rfl | rfl | rfl | rfl | rfl
          all_goals
            go_enter Tryz.func47, Tryz.ntmps47
            go_wp2_with (go_at_call 75; refine (hix _).mono ?_; rintro e w' ⟨rfl, rfl⟩)
            all_goals first
              | (go_ret; exact ⟨by rw [HY.out]; rfl, HB.out⟩)
              | (exfalso; omega)
end Go.Proofs.YtopehfjohifpnaaGreatDoor.Mine
end
