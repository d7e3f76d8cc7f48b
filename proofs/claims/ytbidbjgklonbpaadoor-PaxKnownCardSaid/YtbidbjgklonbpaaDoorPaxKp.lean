/- pax: the plain law of the closed statement's examples. -/
import Derived.Test.YtbidbjgklonbpaaDoorPaxR
set_option linter.unusedSimpArgs false
set_option linter.unusedVariables false
namespace Go.Proofs.YtbidbjgklonbpaaDoor.Mine
open Go.RowKit Go.Maps Go.Proofs.YtbidbjgklonbpaaDoorW.PrintWords Go.Proofs.YtbidbjgklonbpaaDoorW.PrintLast Go.Proofs.YtbidbjgklonbpaaDoorW.PrintMore Go.Proofs.YtbidbjgklonbpaaDoor.Turn Go.Proofs.YtbidbjgklonbpaaDoor.PPaxGets

/-- n times the byte v. -/
def vS (n : Nat) : ByteArray := ⟨(List.replicate n (118 : UInt8)).toArray⟩
theorem vS_size (n : Nat) : (vS n).size = n := by
  show (List.replicate n (118 : UInt8)).toArray.size = n
  simp
theorem vS_succ (n : Nat) : vS n ++ ⟨#[118]⟩ = vS (n + 1) := by
  apply ByteArray.ext
  apply Array.ext'
  show ((vS n ++ ⟨#[118]⟩ : ByteArray).data).toList = _
  rw [ByteArray.data_append, Array.toList_append]
  show List.replicate n (118 : UInt8) ++ [118] = List.replicate (n + 1) 118
  rw [List.replicate_succ']
theorem vS_cut (n k : Nat) (h : k ≤ n) : (vS n).extract 0 k = vS k := by
  apply ByteArray.ext
  apply Array.ext'
  rw [ByteArray.data_extract, Array.toList_extract]
  show (List.replicate n (118 : UInt8)).extract 0 k = List.replicate k 118
  rw [List.extract_eq_take_drop]
  simp [h]
theorem getF_err1 {L : List Int} {c : Int} (h0 : 0 < L.length) (h : oneL L = .error c) : getF L = ([], 0, c) := by
  unfold getF getG
  rw [if_neg (by omega), if_neg (by simp), List.drop_zero, h]
  rfl
theorem oneL_wrong {l : List Int} (h : lead l 5 = 0 ∨ 4 < lead l 5 ∨ l.getD 0 0 = 48 ∨ lead l 5 = l.length ∨ l.getD (lead l 5) 0 ≠ 32) : oneL l = .error 90 := by
  unfold oneL
  rw [if_pos h]
theorem oneL_right {l : List Int} (d n : Nat) (hd : lead l 5 = d) (hn : numN l d = n) (h : ¬ (d = 0 ∨ 4 < d ∨ l.getD 0 0 = 48 ∨ d = l.length ∨ l.getD d 0 ≠ 32)) : oneL l = oneN l d n := by
  unfold oneL
  rw [hd, if_neg h, hn]
theorem ref_1 : getF [53, 32, 97, 61, 98, 10] = ([], 0, 90) := getF_err1 (by decide) (by
  rw [oneL_right 1 5 rfl rfl (by decide)]
  unfold oneN
  rw [if_pos (by decide)])
theorem ref_2 : getF [54, 32, 97, 61, 98, 99] = ([], 0, 90) := getF_err1 (by decide) (by
  rw [oneL_right 1 6 rfl rfl (by decide)]
  unfold oneN
  rw [if_pos (by decide)])
theorem ref_3 : getF [49, 48, 48, 48, 48, 32, 97, 61, 98, 10] = ([], 0, 90) := getF_err1 (by decide) (oneL_wrong (by decide))
theorem ref_4 : getF [53, 32, 97, 98, 10] = ([], 0, 90) := getF_err1 (by decide) (by
  rw [oneL_right 1 5 rfl rfl (by decide)]
  unfold oneN
  rw [if_neg (by decide)]
  unfold oneB
  rw [if_pos (by decide)])
theorem ref_6 : getF [55, 32, 97, 61, 98, 10] = ([], 0, 90) := getF_err1 (by decide) (by
  rw [oneL_right 1 7 rfl rfl (by decide)]
  unfold oneN
  rw [if_pos (by decide)])
theorem ref_7 : getF [48, 54, 32, 97, 61, 98, 10] = ([], 0, 90) := getF_err1 (by decide) (oneL_wrong (by decide))
theorem ref_8 : getF [54, 32, 61, 98, 99, 10] = ([], 0, 91) := getF_err1 (by decide) (by
  rw [oneL_right 1 6 rfl rfl (by decide)]
  unfold oneN
  rw [if_neg (by decide)]
  unfold oneB
  rw [if_neg (by decide)]
  unfold oneP
  rw [if_pos (by decide)]
  rfl)
theorem ref_9 : getF [54, 32, 98, 61, 97, 10, 54, 32, 97, 61, 98, 10] = ([], 6, 92) := by
  have e1 : recP ⟨⟨#[98]⟩, ⟨#[97]⟩⟩ = [54, 32, 98, 61, 97, 10] := rec_six 98 97
  have e2 : recP ⟨⟨#[97]⟩, ⟨#[98]⟩⟩ = [54, 32, 97, 61, 98, 10] := rec_six 97 98
  have h1 := one_back (k := ⟨#[98]⟩) (v := ⟨#[97]⟩) rfl [54, 32, 97, 61, 98, 10]
  have h2 := one_back (k := ⟨#[97]⟩) (v := ⟨#[98]⟩) rfl []
  rw [e1] at h1
  rw [e2] at h2
  have e3 : [(54 : Int), 32, 98, 61, 97, 10] ++ [54, 32, 97, 61, 98, 10] = [54, 32, 98, 61, 97, 10, 54, 32, 97, 61, 98, 10] := rfl
  rw [e3] at h1
  rw [List.append_nil] at h2
  unfold getF getG
  rw [if_neg (by simp), if_neg (by simp), List.drop_zero, h1]
  simp only
  rw [show outOf [] (⟨#[98]⟩ : ByteArray) = false from rfl]
  simp only [Bool.false_eq_true, if_false]
  unfold getG
  rw [if_neg (by simp), if_neg (by simp)]
  rw [show ([(54 : Int), 32, 98, 61, 97, 10, 54, 32, 97, 61, 98, 10]).drop (0 + [(54 : Int), 32, 98, 61, 97, 10].length) = [54, 32, 97, 61, 98, 10] from rfl, h2]
  simp only
  have e4 : outOf ([] ++ [(⟨⟨#[98]⟩, ⟨#[97]⟩⟩ : S23)]) (⟨#[97]⟩ : ByteArray) = true := by
    unfold outOf
    rw [Lib.toList_data, Lib.toList_data]
    rfl
  rw [e4]
  rfl
theorem bytesOf_app (a b : ByteArray) : bytesOf (a ++ b) = bytesOf a ++ bytesOf b := by
  unfold bytesOf
  rw [ByteArray.data_append, Array.toList_append, List.map_append]
theorem vS_bytes (n : Nat) : bytesOf (vS n) = List.replicate n 118 := by
  unfold bytesOf
  show (List.replicate n (118 : UInt8)).map (fun b => (b.toNat : Int)) = _
  rw [List.map_replicate]
  rfl
theorem ref_5 : getF ([49, 48, 48, 32, 97, 61] ++ List.replicate 93 118 ++ [10]) = ([], 0, 90) := getF_err1 (by simp) (by
  rw [oneL_right 3 100 rfl rfl (by decide)]
  unfold oneN
  rw [if_neg (by decide)]
  have e : (([49, 48, 48, 32, 97, 61] ++ List.replicate 93 118 ++ [10] : List Int).take (100 - 1)).drop (3 + 1) = bytesOf ⟨#[97]⟩ ++ [61] ++ bytesOf (vS 93) := by rw [vS_bytes]; rfl
  rw [e]
  unfold oneB
  rw [index_bytes _ _ rfl, if_neg (by omega), Int.toNat_natCast]
  have t1 : (bytesOf ⟨#[97]⟩ ++ [61] ++ bytesOf (vS 93)).take (⟨#[97]⟩ : ByteArray).size = bytesOf ⟨#[97]⟩ := by
    rw [List.append_assoc, List.take_left' (bytesOf_length _)]
  have t2 : (bytesOf ⟨#[97]⟩ ++ [61] ++ bytesOf (vS 93)).drop ((⟨#[97]⟩ : ByteArray).size + 1) = bytesOf (vS 93) := by
    rw [List.drop_left' (by simp [bytesOf_length])]
  rw [t1, t2, str_bytes, str_bytes]
  unfold oneP
  have hf : fitN ⟨#[97]⟩ (vS 93) = 0 := by
    unfold fitN
    rw [if_neg (by decide), if_neg (by rw [vS_size]; omega)]
  rw [if_neg (by rw [hf]; decide), if_pos]
  rw [vS_size]
  show 97 + dOf 97 ≠ 100
  rw [dOf_two (by omega) (by omega)]
  decide)
/-- The two lists out of order. -/
theorem put_ba : putF [⟨⟨#[98]⟩, ⟨#[]⟩⟩, ⟨⟨#[97]⟩, ⟨#[]⟩⟩] = ([], 1, 92) := by
  unfold putF
  rw [if_neg (by simp)]
  show putG _ 2 0 [] = _
  unfold putG
  rw [if_neg (by decide), if_neg (by decide)]
  unfold putG
  rw [if_neg (by decide), if_pos]
  · rfl
  · rw [Lib.toList_data, Lib.toList_data]; rfl
theorem put_aa : putF [⟨⟨#[97]⟩, ⟨#[]⟩⟩, ⟨⟨#[97]⟩, ⟨#[]⟩⟩] = ([], 1, 92) := by
  unfold putF
  rw [if_neg (by simp)]
  show putG _ 2 0 [] = _
  unfold putG
  rw [if_neg (by decide), if_neg (by decide)]
  unfold putG
  rw [if_neg (by decide), if_pos]
  · rfl
  · rw [Lib.toList_data, Lib.toList_data]; rfl
def lA : List S23 := [⟨⟨#[97]⟩, ⟨#[49]⟩⟩, ⟨⟨#[98]⟩, ⟨#[50]⟩⟩]
def lB : List S23 := [⟨⟨#[98]⟩, ⟨#[51]⟩⟩, ⟨⟨#[99]⟩, ⟨#[52]⟩⟩]
def lC : List S23 := [⟨⟨#[97]⟩, ⟨#[49]⟩⟩, ⟨⟨#[98]⟩, ⟨#[51]⟩⟩, ⟨⟨#[99]⟩, ⟨#[52]⟩⟩]
theorem good_lA : Good lA := by
  intro i hi
  match i, hi with
  | 0, _ => exact ⟨rfl, fun h => by omega⟩
  | 1, _ => exact ⟨rfl, fun _ => by show Op.bytesLess (⟨#[97]⟩ : ByteArray).toList (⟨#[98]⟩ : ByteArray).toList = true; rw [Lib.toList_data, Lib.toList_data]; rfl⟩
theorem good_lB : Good lB := by
  intro i hi
  match i, hi with
  | 0, _ => exact ⟨rfl, fun h => by omega⟩
  | 1, _ => exact ⟨rfl, fun _ => by show Op.bytesLess (⟨#[98]⟩ : ByteArray).toList (⟨#[99]⟩ : ByteArray).toList = true; rw [Lib.toList_data, Lib.toList_data]; rfl⟩
theorem mg_AB : mg lA lB = lC := by
  unfold lA lB
  rw [mg, if_pos (by decide), mg, if_neg (by decide), if_pos (by decide), nil_mg]
  rfl
theorem over_AB : overF lA lB = (lC, 0) := by
  have p1 : ¬ (putF lA).2.2 ≠ 0 := fun e => e (by rw [putF_good (by decide) good_lA])
  have p2 : ¬ (putF lB).2.2 ≠ 0 := fun e => e (by rw [putF_good (by decide) good_lB])
  unfold overF
  rw [if_neg p1, if_neg p2, mg_AB, if_neg (by decide)]
def sKey : ByteArray := ⟨#[107, 101, 121]⟩
theorem fit_key (n : Nat) (h : n ≤ 1024) : fitN sKey (vS n) = 0 := by
  unfold fitN
  rw [if_neg (by decide), if_neg (by rw [vS_size]; omega)]
theorem get_key (n : Nat) (h : n ≤ 1024) : getF (recP ⟨sKey, vS n⟩) = ([⟨sKey, vS n⟩], 0, 0) := by
  have hg : Good [⟨sKey, vS n⟩] := by
    intro i hi
    match i, hi with
    | 0, _ => exact ⟨fit_key n h, fun h => by omega⟩
  have h1 := putF_good (l := [⟨sKey, vS n⟩]) (by simp) hg
  have h2 := put_get (l := [⟨sKey, vS n⟩]) (by rw [h1])
  rw [h1] at h2
  simpa using h2
def sK32 : ByteArray := ⟨#[97, 98, 99, 100, 101, 102, 103, 104, 105, 106, 107, 108, 109, 110, 111, 112, 113, 114, 115, 116, 117, 118, 119, 120, 121, 122, 49, 50, 51, 52, 53, 54]⟩
theorem fit_32 : fitN sK32 ⟨#[]⟩ = 0 := by decide
theorem fit_33 : fitN (sK32 ++ ⟨#[55]⟩) ⟨#[]⟩ = 91 := by decide
/-- The sizes of the loop. -/
def szs : List Int := [97, 98, 99, 101, 102]
theorem size_v (k : Nat) (h : k < 5) : ∃ d, SizeIs (3 + (⟨#[97]⟩ : ByteArray).size + (vS (91 + k)).size) d ∧ 3 + ((⟨#[97]⟩ : ByteArray).size : Int) + ((vS (91 + k)).size : Int) + (d : Int) = szs.getD k 0 := by
  refine ⟨dOf (3 + (⟨#[97]⟩ : ByteArray).size + (vS (91 + k)).size), dOf_is (by rw [vS_size]; show 3 + 1 + (91 + k) < _; omega), ?_⟩
  rw [vS_size]
  show 3 + ((1 : Nat) : Int) + ((91 + k : Nat) : Int) + (dOf (3 + 1 + (91 + k)) : Int) = _
  match k, h with
  | 0, _ => rw [dOf_two (by omega) (by omega)]; rfl
  | 1, _ => rw [dOf_two (by omega) (by omega)]; rfl
  | 2, _ => rw [dOf_two (by omega) (by omega)]; rfl
  | 3, _ => rw [dOf_three (by omega) (by omega)]; rfl
  | 4, _ => rw [dOf_three (by omega) (by omega)]; rfl
end Go.Proofs.YtbidbjgklonbpaaDoor.Mine
