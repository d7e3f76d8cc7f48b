/- name: Split. -/
import Derived.Test.YtopehfjohifpnaaDoorPkC
import Derived.Test.YtopehfjohifpnaaDoorPPackPairsx5
import Derived.ProofKit
import Derived.Below
import Derived.Lib.Hide
import Derived.Deep.QuietTactic
import Derived.BigQuiet
import Derived.Lib.LastIndexByte
set_option linter.unusedSimpArgs false
set_option linter.unusedVariables false
namespace Go.Proofs.YtopehfjohifpnaaDoor.Mine
open Go.RowKit Go.Shelf Go.Proofs.YtopehfjohifpnaaDoorW.PrintWords Go.Proofs.YtopehfjohifpnaaDoorW.PrintLast Go.Proofs.YtopehfjohifpnaaDoorW.PrintMore Go.Proofs.YtopehfjohifpnaaDoor.Turn Go.Proofs.YtopehfjohifpnaaDoor.PPackPairs

attribute [local go_sem] Oper.semAt_some

def splitN (s : ByteArray) : Int := Lib.lastIdx s 47 (min s.size 156)
/-- A path, cut for a head. -/
def splitF (s : ByteArray) : ByteArray × ByteArray × Int :=
  if (checkF s).2 ≠ 0 then (⟨#[]⟩, ⟨#[]⟩, (checkF s).2) else if s.size ≤ 100 then (⟨#[]⟩, s, 0) else
  if splitN s < 0 ∨ 100 < (s.size : Int) - splitN s - 1 then (⟨#[]⟩, ⟨#[]⟩, 2) else (s.extract 0 (splitN s).toNat, s.extract ((splitN s).toNat + 1) s.size, 0)
theorem splitN_rg (s : ByteArray) : -1 ≤ splitN s ∧ splitN s < (min s.size 156 : Nat) := by
  rcases Lib.lastIdx_spec s 47 (min s.size 156) with ⟨e, _⟩ | ⟨i, hi, e, _⟩
  · unfold splitN; rw [e]; omega
  · unfold splitN; rw [e]; omega
theorem get!_extract (s : ByteArray) (m j : Nat) (hm : m ≤ s.size) (hj : j < m) : (s.extract 0 m).data[j]! = s.data[j]! := by
  have h1 : j < s.data.size := Nat.lt_of_lt_of_le hj hm
  have h2 : j < (s.extract 0 m).data.size := by rw [ByteArray.data_extract, Array.size_extract]; have : s.data.size = s.size := rfl; omega
  rw [getElem!_pos (s.extract 0 m).data j h2, getElem!_pos s.data j h1]
  simp [ByteArray.data_extract]
theorem lastIdx_cut (s : ByteArray) (c : Int) (m : Nat) (hm : m ≤ s.size) : ∀ k, k ≤ m → Lib.lastIdx (s.extract 0 m) c k = Lib.lastIdx s c k
  | 0, _ => rfl
  | k + 1, h => by
    unfold Lib.lastIdx
    rw [get!_extract s m k hm (by omega), lastIdx_cut s c m hm k (by omega)]
theorem last_cut (s : ByteArray) : Lib.lastIndexByte (s.extract 0 (min s.size 156)) 47 = splitN s := by
  unfold Lib.lastIndexByte splitN
  rw [lastIdx_cut s 47 (min s.size 156) (Nat.min_le_left _ _) _ (by rw [ByteArray.size_extract]; omega), ByteArray.size_extract]
  congr 1
  omega
theorem bt_bang (s : ByteArray) (j : Nat) (hj : j < s.size) : bt s j = ((s.data[j]!).toNat : Int) := by
  obtain ⟨x, hx, hb⟩ := bt_get s j hj
  rw [hb]
  have h1 : j < s.data.size := hj
  rw [getElem!_pos s.data j h1]
  have : s.data.toList[j]? = some s.data[j] := by simp [h1]
  rw [this] at hx
  rw [Option.some.inj hx]
def sres (s : ByteArray) : ByteArray × ByteArray × Int := if splitN s < 0 ∨ 100 < (s.size : Int) - splitN s - 1 then (⟨#[]⟩, ⟨#[]⟩, 2) else (s.extract 0 (splitN s).toNat, s.extract ((splitN s).toNat + 1) s.size, 0)
theorem split_l0 (s : ByteArray) (hs : s.size ≤ 400) : ∀ (m K : Nat), m + 1 ≤ K → m ≤ s.size → (m ≤ 156 → splitN s = Lib.lastIdx s 47 m ∨ (splitN s ≥ m ∧ 100 < (s.size : Int) - splitN s - 1)) → tabularyref08_Split.l0 K s ((m : Int) - 1) = some (sres s)
  | 0, K, hK, hm, hq => by
    obtain ⟨K, rfl⟩ : ∃ K', K = K' + 1 := ⟨K - 1, by omega⟩
    rw [tabularyref08_Split.l0.eq_2, if_neg (by omega)]
    have := splitN_rg s
    unfold sres
    rw [if_pos]
    rcases hq (by omega) with h | h
    · left; rw [h]; simp [Lib.lastIdx]
    · exact .inr h.2
  | m + 1, K, hK, hm, hq => by
    obtain ⟨K, rfl⟩ : ∃ K', K = K' + 1 := ⟨K - 1, by omega⟩
    have hr := splitN_rg s
    have e0 : ((m + 1 : Nat) : Int) - 1 = (m : Int) := by omega
    have hw : wrap64 ((m : Int) - 1) = (m : Int) - 1 := wrap_id (by omega) (by omega)
    have hw2 : wrap64 (wrap64 ((s.size : Int) - m) - 1) = (s.size : Int) - m - 1 := by rw [wrap_id (x := (s.size : Int) - m) (by omega) (by omega), wrap_id (by omega) (by omega)]
    have hw3 : wrap64 ((m : Int) + 1) = ((m + 1 : Nat) : Int) := by rw [wrap_id (by omega) (by omega)]; rfl
    rw [tabularyref08_Split.l0.eq_2, e0, if_pos (by omega), if_pos (by omega), if_pos (by omega), hw, hw2, hw3]
    have hb := bt_bang s m (by omega)
    by_cases h47 : bt s m = 47
    · rw [if_pos h47]
      have hl : Lib.lastIdx s 47 (m + 1) = m := Lib.lastIdx_hit s 47 m (by rw [← hb]; exact h47)
      by_cases h1 : m ≤ 155
      · rw [if_pos (by omega)]
        rcases hq (by omega) with h | h
        · rw [hl] at h
          by_cases h2 : (s.size : Int) - m - 1 ≤ 100
          · rw [if_pos h2, if_pos (by omega), if_pos (by omega), if_pos (by omega)]
            unfold sres
            rw [h, if_neg (by omega), Int.toNat_natCast, Int.toNat_natCast]
          · rw [if_neg h2]
            exact split_l0 s hs m K (by omega) (by omega) (fun _ => .inr (by rw [h]; omega))
        · rw [if_neg (by omega)]
          exact split_l0 s hs m K (by omega) (by omega) (fun _ => .inr (by omega))
      · rw [if_neg (by omega)]
        refine split_l0 s hs m K (by omega) (by omega) (fun h => .inl ?_)
        unfold splitN
        rw [show min s.size 156 = m by omega]
    · rw [if_neg h47]
      have hl : Lib.lastIdx s 47 (m + 1) = Lib.lastIdx s 47 m := Lib.lastIdx_miss s 47 m (by rw [← hb]; exact h47)
      refine split_l0 s hs m K (by omega) (by omega) (fun h => ?_)
      by_cases h5 : m + 1 ≤ 156
      · rw [hl] at hq
        rcases hq h5 with h | h
        · exact .inl h
        · exact .inr (by omega)
      · left
        unfold splitN
        rw [show min s.size 156 = m by omega]
theorem split_f (s : ByteArray) (K : Nat) (hK : 2000 ≤ K) : tabularyref08_Split.f K s = some (splitF s) := by
  unfold tabularyref08_Split.f splitF
  rw [check_f s K hK, Option.bind_some]
  by_cases h : (checkF s).2 = 0
  · rw [if_pos h, if_neg (c := (checkF s).2 ≠ 0) (fun e => e h)]
    by_cases h1 : s.size ≤ 100
    · rw [if_pos (by omega), if_pos h1]
    · have hsz : s.size ≤ 400 := by
        rcases Nat.lt_or_ge 400 s.size with h2 | h2
        · unfold checkF at h; rw [if_pos h2] at h; simp at h
        · exact h2
      rw [if_neg (by omega), if_neg h1, wrap_id (by omega) (by omega)]
      refine split_l0 s hsz s.size K (by omega) (Nat.le_refl _) (fun h => .inl ?_)
      unfold splitN
      rw [show min s.size 156 = s.size by omega]
  · rw [if_neg h, if_pos h]

theorem check_any (s : ByteArray) (w : World) : Calls Tryd.prog 29 #[.string s] w fun e w' => e = .returned (.tuple #[.int .i64 (checkF s).1, .int .i64 (checkF s).2]) ∧ Below w.heap.size w w' :=
  callsIn_wide.1 (check_in Fence.wide 20 trivial trivial trivial trivial rfl (by omega) (fun m t c W h => callsIn_wide.2 (Tryd.strings_IndexByte t c W)) s w)
set_option maxRecDepth 100000 in
set_option maxHeartbeats 4000000 in
theorem split_any (s : ByteArray) (w : World) : Calls Tryd.prog 21 #[.string s] w fun e w' => e = .returned (.tuple #[.string (splitF s).1, .string (splitF s).2.1, .int .i64 (splitF s).2.2]) ∧ Below w.heap.size w w' := by
  have hC := check_any s w
  have hbig : (checkF s).2 = 0 → s.size ≤ 400 := fun h => by
    rcases Nat.lt_or_ge 400 s.size with h2 | h2
    · unfold checkF at h; rw [if_pos h2] at h; simp at h
    · exact h2
  have hrg := splitN_rg s
  have hcut : Lib.lastIndexByte (s.extract 0 (min (s.size : Int) 156).toNat) 47 = splitN s := by
    rw [← last_cut s]; congr 2; omega
  have hsF : splitF s = if (checkF s).2 ≠ 0 then (⟨#[]⟩, ⟨#[]⟩, (checkF s).2) else if s.size ≤ 100 then (⟨#[]⟩, s, 0) else sres s := rfl
  have hsr : sres s = if splitN s < 0 ∨ 100 < (s.size : Int) - splitN s - 1 then (⟨#[]⟩, ⟨#[]⟩, 2) else (s.extract 0 (splitN s).toNat, s.extract ((splitN s).toNat + 1) s.size, 0) := rfl
  generalize splitN s = sN at *
  generalize checkF s = ck at *
  generalize splitF s = sf at *
  generalize sres s = sr at *
  have HSF := Aside0.mk hsF
  have HSR := Aside0.mk hsr
  clear hsF hsr
  go_enter Tryd.func21, Tryd.ntmps21
  go_wp2_with (first | (go_at_call 29; refine hC.mono ?_; rintro e w' ⟨rfl, hB⟩) | (go_at_call 31; refine (Tryd.strings_LastIndexByte _ _ (by rw [ByteArray.size_extract]; omega) _).mono ?_; rintro e w'' ⟨rfl, rfl⟩; rw [hcut]))
  · have h : (ck.2 != 0) = true := by assumption
    go_ret3
    refine ⟨?_, hB⟩
    rw [HSF.out, if_pos (bne_iff_ne.1 h)]
    rfl
  · have h : (ck.2 != 0) = false := by assumption
    go_ret3
    refine ⟨?_, hB⟩
    rw [HSF.out, if_neg (fun e => e (by simpa using h)), if_pos (by omega)]
    rfl
  · have h : (ck.2 != 0) = false := by assumption
    have h0 : ck.2 = 0 := by simpa using h
    have hz := hbig h0
    have h3 : 0 ≤ sN := by assumption
    have h4 : 100 < wrap64 (wrap64 ((s.size : Int) - sN) - 1) := by rcases ‹sN < 0 ∨ 100 < wrap64 (wrap64 ((s.size : Int) - sN) - 1)› with h5 | h5; exact absurd h3 (by omega); exact h5
    rw [wrap_id (x := (s.size : Int) - sN) (by omega) (by omega), wrap_id (by omega) (by omega)] at h4
    go_ret3
    refine ⟨?_, hB⟩
    rw [HSF.out, if_neg (fun e => e h0), if_neg (by omega), HSR.out, if_pos (.inr (by omega))]
    rfl
  · have h : (ck.2 != 0) = false := by assumption
    have h0 : ck.2 = 0 := by simpa using h
    have hz := hbig h0
    have h4 : 0 ≤ sN ∧ wrap64 (wrap64 ((s.size : Int) - sN) - 1) ≤ 100 := by assumption
    obtain ⟨k, rfl⟩ : ∃ k : Nat, sN = k := ⟨sN.toNat, by omega⟩
    have hw1 : wrap64 ((k : Int) + 1) = ((k + 1 : Nat) : Int) := by rw [wrap_id (by omega) (by omega)]; rfl
    have hlt : k + 1 ≤ s.size := by omega
    rw [wrap_id (x := (s.size : Int) - k) (by omega) (by omega), wrap_id (by omega) (by omega)] at h4
    have hsl : ∀ W, (Instr.slice 9 (.string s) (some (.int .i64 (wrap64 ((k : Int) + 1)))) none none).run Tryd.prog W = .ok (.string (s.extract (k + 1) s.size)) W := fun W => by
      rw [hw1]
      exact run_slice_string_l W 9 s Tryd.underlying9 .i64 _ (by omega) (by omega)
    clear hcut hC
    go_region
    all_goals
      go_wp2_with fail
      go_ret3
      refine ⟨?_, hB.drew⟩
      rw [HSF.out, if_neg (fun e => e h0), if_neg (by omega), HSR.out, if_neg (by omega), Int.toNat_natCast]
      rfl
  · have h : (ck.2 != 0) = false := by assumption
    have h0 : ck.2 = 0 := by simpa using h
    have hz := hbig h0
    have h3 : sN < 0 := by assumption
    go_ret3
    refine ⟨?_, hB⟩
    rw [HSF.out, if_neg (fun e => e h0), if_neg (by omega), HSR.out, if_pos (.inl (by omega))]
    rfl
end Go.Proofs.YtopehfjohifpnaaDoor.Mine
