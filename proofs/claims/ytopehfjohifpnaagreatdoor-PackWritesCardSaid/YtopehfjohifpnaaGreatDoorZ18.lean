import Derived.Test.YtopehfjohifpnaaGreatDoorZ15
import Derived.Test.YtopehfjohifpnaaGreatDoorZ17
import Derived.ProofKit
import Derived.Below
import Derived.Lib.Hide
import Derived.Deep.QuietTactic
import Derived.BigQuiet
import Derived.Lib.LastIndexByte
import Derived.Test.YtopehfjohifpnaaGreatDoorZ16
import Derived.Lib.SplitLaws
import Derived.Lib.Join
section
set_option linter.unusedSimpArgs false
set_option linter.unusedVariables false
namespace Go.Proofs.YtopehfjohifpnaaGreatDoor.Mine
open Go.RowKit Go.Shelf Go.Proofs.YtopehfjohifpnaaGreatDoorW.PrintWords Go.Proofs.YtopehfjohifpnaaGreatDoorW.PrintLast Go.Proofs.YtopehfjohifpnaaGreatDoorW.PrintMore Go.Proofs.YtopehfjohifpnaaGreatDoor.Turn Go.Proofs.YtopehfjohifpnaaGreatDoor.Doc
attribute [local go_sem] Oper.semAt_some
def splitN (s : ByteArray) : Int := Lib.lastIdx s 47 (min s.size 156)
def splitF (s : ByteArray) : ByteArray × ByteArray × Int :=
  if (checkF s).2 ≠ 0 then (⟨#[]⟩, ⟨#[]⟩, (checkF s).2) else if s.size ≤ 100 then (⟨#[]⟩, s, 0) else
  if splitN s < 0 ∨ 100 < (s.size : Int) - splitN s - 1 then (⟨#[]⟩, ⟨#[]⟩, 2) else (s.extract 0 (splitN s).toNat, s.extract ((splitN s).toNat + 1) s.size, 0)
theorem splitN_rg (s : ByteArray) : -1 ≤ splitN s ∧ splitN s < (min s.size 156 : Nat) := by
  rcases Lib.lastIdx_spec s 47 (min s.size 156) with ⟨e, _⟩ | ⟨i, hi, e, _⟩
  · unfold splitN; rw [e]; omega
  · unfold splitN; rw [e]; omega
theorem get!_extract (s : ByteArray) (m j : Nat) (hm : m ≤ s.size) (hj : j < m) : (s.extract 0 m).data[j]! = s.data[j]! := by
  have h1 : j < s.data.size := Nat.lt_of_lt_of_le hj hm
  have h2 : j < (s.extract 0 m).data.size := by rw [ByteArray.data_extract, Array.size_extract]; have : s.data.size = s.size := rfl; omega
  rw [getElem!_pos (s.extract 0 m).data j h2, getElem!_pos s.data j h1]
  simp [ByteArray.data_extract]
theorem lastIdx_cut (s : ByteArray) (c : Int) (m : Nat) (hm : m ≤ s.size) : ∀ k, k ≤ m → Lib.lastIdx (s.extract 0 m) c k = Lib.lastIdx s c k
  | 0, _ => rfl
  | k + 1, h => by
    unfold Lib.lastIdx
    rw [get!_extract s m k hm (by omega), lastIdx_cut s c m hm k (by omega)]
theorem last_cut (s : ByteArray) : Lib.lastIndexByte (s.extract 0 (min s.size 156)) 47 = splitN s := by
  unfold Lib.lastIndexByte splitN
  rw [lastIdx_cut s 47 (min s.size 156) (Nat.min_le_left _ _) _ (by rw [ByteArray.size_extract]; omega), ByteArray.size_extract]
  congr 1
  omega
theorem bt_bang (s : ByteArray) (j : Nat) (hj : j < s.size) : bt s j = ((s.data[j]!).toNat : Int) := by
  obtain ⟨x, hx, hb⟩ := bt_get s j hj
  rw [hb]
  have h1 : j < s.data.size := hj
  rw [getElem!_pos s.data j h1]
  have : s.data.toList[j]? = some s.data[j] := by simp [h1]
  rw [this] at hx
  rw [Option.some.inj hx]
def sres (s : ByteArray) : ByteArray × ByteArray × Int := if splitN s < 0 ∨ 100 < (s.size : Int) - splitN s - 1 then (⟨#[]⟩, ⟨#[]⟩, 2) else (s.extract 0 (splitN s).toNat, s.extract ((splitN s).toNat + 1) s.size, 0)
theorem split_l0 (s : ByteArray) (hs : s.size ≤ 400) : ∀ (m K : Nat), m + 1 ≤ K → m ≤ s.size → (m ≤ 156 → splitN s = Lib.lastIdx s 47 m ∨ (splitN s ≥ m ∧ 100 < (s.size : Int) - splitN s - 1)) → tabularyref08_Split.l0 K s ((m : Int) - 1) = some (sres s)
  | 0, K, hK, hm, hq => by
    obtain ⟨K, rfl⟩ : ∃ K', K = K' + 1 := ⟨K - 1, by omega⟩
    rw [tabularyref08_Split.l0.eq_2, if_neg (by omega)]
    have := splitN_rg s
    unfold sres
    rw [if_pos]
    rcases hq (by omega) with h | h
    · left; rw [h]; simp [Lib.lastIdx]
    · exact .inr h.2
  | m + 1, K, hK, hm, hq => by
    obtain ⟨K, rfl⟩ : ∃ K', K = K' + 1 := ⟨K - 1, by omega⟩
    have hr := splitN_rg s
    have e0 : ((m + 1 : Nat) : Int) - 1 = (m : Int) := by omega
    have hw : wrap64 ((m : Int) - 1) = (m : Int) - 1 := wrap_id (by omega) (by omega)
    have hw2 : wrap64 (wrap64 ((s.size : Int) - m) - 1) = (s.size : Int) - m - 1 := by rw [wrap_id (x := (s.size : Int) - m) (by omega) (by omega), wrap_id (by omega) (by omega)]
    have hw3 : wrap64 ((m : Int) + 1) = ((m + 1 : Nat) : Int) := by rw [wrap_id (by omega) (by omega)]; rfl
    rw [tabularyref08_Split.l0.eq_2, e0, if_pos (by omega), if_pos (by omega), if_pos (by omega), hw, hw2, hw3]
    have hb := bt_bang s m (by omega)
    by_cases h47 : bt s m = 47
    · rw [if_pos h47]
      have hl : Lib.lastIdx s 47 (m + 1) = m := Lib.lastIdx_hit s 47 m (by rw [← hb]; exact h47)
      by_cases h1 : m ≤ 155
      · rw [if_pos (by omega)]
        rcases hq (by omega) with h | h
        · rw [hl] at h
          by_cases h2 : (s.size : Int) - m - 1 ≤ 100
          · rw [if_pos h2, if_pos (by omega), if_pos (by omega), if_pos (by omega)]
            unfold sres
            rw [h, if_neg (by omega), Int.toNat_natCast, Int.toNat_natCast]
          · rw [if_neg h2]
            exact split_l0 s hs m K (by omega) (by omega) (fun _ => .inr (by rw [h]; omega))
        · rw [if_neg (by omega)]
          exact split_l0 s hs m K (by omega) (by omega) (fun _ => .inr (by omega))
      · rw [if_neg (by omega)]
        refine split_l0 s hs m K (by omega) (by omega) (fun h => .inl ?_)
        unfold splitN
        rw [show min s.size 156 = m by omega]
    · rw [if_neg h47]
      have hl : Lib.lastIdx s 47 (m + 1) = Lib.lastIdx s 47 m := Lib.lastIdx_miss s 47 m (by rw [← hb]; exact h47)
      refine split_l0 s hs m K (by omega) (by omega) (fun h => ?_)
      by_cases h5 : m + 1 ≤ 156
      · rw [hl] at hq
        rcases hq h5 with h | h
        · exact .inl h
        · exact .inr (by omega)
      · left
        unfold splitN
        rw [show min s.size 156 = m by omega]
theorem split_f (s : ByteArray) (K : Nat) (hK : 2000 ≤ K) : tabularyref08_Split.f K s = some (splitF s) := by
  unfold tabularyref08_Split.f splitF
  rw [check_f s K hK, Option.bind_some]
  by_cases h : (checkF s).2 = 0
  · rw [if_pos h, if_neg (c := (checkF s).2 ≠ 0) (fun e => e h)]
    by_cases h1 : s.size ≤ 100
    · rw [if_pos (by omega), if_pos h1]
    · have hsz : s.size ≤ 400 := by
        rcases Nat.lt_or_ge 400 s.size with h2 | h2
        · unfold checkF at h; rw [if_pos h2] at h; simp at h
        · exact h2
      rw [if_neg (by omega), if_neg h1, wrap_id (by omega) (by omega)]
      refine split_l0 s hsz s.size K (by omega) (Nat.le_refl _) (fun h => .inl ?_)
      unfold splitN
      rw [show min s.size 156 = s.size by omega]
  · rw [if_neg h, if_pos h]
theorem check_any (s : ByteArray) (w : World) : Calls Tryz.prog 67 #[.string s] w fun e w' => e = .returned (.tuple #[.int .i64 (checkF s).1, .int .i64 (checkF s).2]) ∧ Below w.heap.size w w' :=
  callsIn_wide.1 (check_in Fence.wide 20 trivial trivial trivial trivial rfl (by omega) (fun m t c W h => callsIn_wide.2 (Tryz.strings_IndexByte t c W)) s w)
set_option maxRecDepth 100000 in
set_option maxHeartbeats 4000000 in
theorem split_any (s : ByteArray) (w : World) : Calls Tryz.prog 42 #[.string s] w fun e w' => e = .returned (.tuple #[.string (splitF s).1, .string (splitF s).2.1, .int .i64 (splitF s).2.2]) ∧ Below w.heap.size w w' := by
  have hC := check_any s w
  have hbig : (checkF s).2 = 0 → s.size ≤ 400 := fun h => by
    rcases Nat.lt_or_ge 400 s.size with h2 | h2
    · unfold checkF at h; rw [if_pos h2] at h; simp at h
    · exact h2
  have hrg := splitN_rg s
  have hcut : Lib.lastIndexByte (s.extract 0 (min (s.size : Int) 156).toNat) 47 = splitN s := by
    rw [← last_cut s]; congr 2; omega
  have hsF : splitF s = if (checkF s).2 ≠ 0 then (⟨#[]⟩, ⟨#[]⟩, (checkF s).2) else if s.size ≤ 100 then (⟨#[]⟩, s, 0) else sres s := rfl
  have hsr : sres s = if splitN s < 0 ∨ 100 < (s.size : Int) - splitN s - 1 then (⟨#[]⟩, ⟨#[]⟩, 2) else (s.extract 0 (splitN s).toNat, s.extract ((splitN s).toNat + 1) s.size, 0) := rfl
  generalize splitN s = sN at *
  generalize checkF s = ck at *
  generalize splitF s = sf at *
  generalize sres s = sr at *
  have HSF := Aside0.mk hsF
  have HSR := Aside0.mk hsr
  clear hsF hsr
  go_enter Tryz.func42, Tryz.ntmps42
  go_wp2_with (first | (go_at_call 67; refine hC.mono ?_; rintro e w' ⟨rfl, hB⟩) | (go_at_call 69; refine (Tryz.strings_LastIndexByte _ _ (by rw [ByteArray.size_extract]; omega) _).mono ?_; rintro e w'' ⟨rfl, rfl⟩; rw [hcut]))
  · have h : (ck.2 != 0) = true := by assumption
    go_ret3
    refine ⟨?_, hB⟩
    rw [HSF.out, if_pos (bne_iff_ne.1 h)]
    rfl
  · have h : (ck.2 != 0) = false := by assumption
    go_ret3
    refine ⟨?_, hB⟩
    rw [HSF.out, if_neg (fun e => e (by simpa using h)), if_pos (by omega)]
    rfl
  · have h : (ck.2 != 0) = false := by assumption
    have h0 : ck.2 = 0 := by simpa using h
    have hz := hbig h0
    have h3 : 0 ≤ sN := by assumption
    have h4 : 100 < wrap64 (wrap64 ((s.size : Int) - sN) - 1) := by rcases ‹sN < 0 ∨ 100 < wrap64 (wrap64 ((s.size : Int) - sN) - 1)› with h5 | h5; exact absurd h3 (by omega); exact h5
    rw [wrap_id (x := (s.size : Int) - sN) (by omega) (by omega), wrap_id (by omega) (by omega)] at h4
    go_ret3
    refine ⟨?_, hB⟩
    rw [HSF.out, if_neg (fun e => e h0), if_neg (by omega), HSR.out, if_pos (.inr (by omega))]
    rfl
  · have h : (ck.2 != 0) = false := by assumption
    have h0 : ck.2 = 0 := by simpa using h
    have hz := hbig h0
    have h4 : 0 ≤ sN ∧ wrap64 (wrap64 ((s.size : Int) - sN) - 1) ≤ 100 := by assumption
    obtain ⟨k, rfl⟩ : ∃ k : Nat, sN = k := ⟨sN.toNat, by omega⟩
    have hw1 : wrap64 ((k : Int) + 1) = ((k + 1 : Nat) : Int) := by rw [wrap_id (by omega) (by omega)]; rfl
    have hlt : k + 1 ≤ s.size := by omega
    rw [wrap_id (x := (s.size : Int) - k) (by omega) (by omega), wrap_id (by omega) (by omega)] at h4
    have hsl : ∀ W, (Instr.slice 9 (.string s) (some (.int .i64 (wrap64 ((k : Int) + 1)))) none none).run Tryz.prog W = .ok (.string (s.extract (k + 1) s.size)) W := fun W => by
      rw [hw1]
      exact run_slice_string_l W 9 s Tryz.underlying9 .i64 _ (by omega) (by omega)
    clear hcut hC
    go_region
    all_goals
      go_wp2_with fail
      go_ret3
      refine ⟨?_, hB.drew⟩
      rw [HSF.out, if_neg (fun e => e h0), if_neg (by omega), HSR.out, if_neg (by omega), Int.toNat_natCast]
      rfl
  · have h : (ck.2 != 0) = false := by assumption
    have h0 : ck.2 = 0 := by simpa using h
    have hz := hbig h0
    have h3 : sN < 0 := by assumption
    go_ret3
    refine ⟨?_, hB⟩
    rw [HSF.out, if_neg (fun e => e h0), if_neg (by omega), HSR.out, if_pos (.inl (by omega))]
    rfl
end Go.Proofs.YtopehfjohifpnaaGreatDoor.Mine
end
section
set_option linter.unusedSimpArgs false
set_option linter.unusedVariables false
namespace Go.Proofs.YtopehfjohifpnaaGreatDoor.Mine
open Go.RowKit Go.Shelf Go.Proofs.YtopehfjohifpnaaGreatDoorW.PrintWords Go.Proofs.YtopehfjohifpnaaGreatDoorW.PrintLast Go.Proofs.YtopehfjohifpnaaGreatDoorW.PrintMore Go.Proofs.YtopehfjohifpnaaGreatDoor.Turn Go.Proofs.YtopehfjohifpnaaGreatDoor.Doc
def stepL (ps : List ByteArray) (x : ByteArray) : Option (List ByteArray) :=
  if x.toList = [] ∨ x.toList = [46] then some ps else if x.toList = [46, 46] then (if ps.length = 0 then none else some ps.dropLast) else some (ps ++ [x])
def runL : List ByteArray → List S137 → Option (List ByteArray)
  | ps, [] => some ps
  | ps, x :: l => (stepL ps x.f1).bind fun q => runL q l
theorem runL_app : ∀ (ps : List ByteArray) (a b : List S137), runL ps (a ++ b) = (runL ps a).bind fun q => runL q b
  | ps, [], b => rfl
  | ps, x :: a, b => by
    show (stepL ps x.f1).bind _ = ((stepL ps x.f1).bind _).bind _
    cases stepL ps x.f1 with
    | none => rfl
    | some q => exact runL_app q a b
def dirs (f : ByteArray) : List ByteArray := ((pcs f).map (·.f1)).dropLast
def leadE (f t : ByteArray) : Int := if (checkF f).2 ≠ 0 then (checkF f).2 else if t.size = 0 then 80 else if 400 < t.size then 2 else if 0 ≤ Lib.indexByte t.data.toList 0 then 82 else if bt t 0 = 47 then 83 else if (runL (dirs f) (pcs t)).isNone then 83 else 0
def Sml (ps : List ByteArray) : Prop := ∀ p ∈ ps, p.size ≤ 400
theorem sml_step {ps q : List ByteArray} {x : ByteArray} (h : Sml ps) (hx : x.size ≤ 400) (e : stepL ps x = some q) : Sml q ∧ q.length ≤ ps.length + 1 := by
  unfold stepL at e
  split at e
  · cases e; exact ⟨h, by omega⟩
  · split at e
    · split at e
      · cases e
      · cases e; exact ⟨fun p hp => h p (List.dropLast_subset _ hp), by simp; omega⟩
    · cases e
      refine ⟨fun p hp => ?_, by simp⟩
      rcases List.mem_append.1 hp with h1 | h1
      · exact h p h1
      · rw [List.mem_singleton.1 h1]; exact hx
theorem sml_run : ∀ {l : List S137} {ps q : List ByteArray}, Sml ps → (∀ x ∈ l, x.f1.size ≤ 400) → runL ps l = some q → Sml q ∧ q.length ≤ ps.length + l.length
  | [], ps, q, h, _, e => by cases e; exact ⟨h, by simp⟩
  | x :: l, ps, q, h, hx, e => by
    have e' : (stepL ps x.f1).bind (fun q => runL q l) = some q := e
    cases hs : stepL ps x.f1 with
    | none => rw [hs] at e'; cases e'
    | some p =>
      rw [hs] at e'
      have h1 := sml_step h (hx x (List.mem_cons_self ..)) hs
      have h2 := sml_run h1.1 (fun y hy => hx y (List.mem_cons_of_mem _ hy)) e'
      exact ⟨h2.1, by simp only [List.length_cons]; omega⟩
theorem sml_dirs {f : ByteArray} (hf : f.size ≤ 400) : Sml (dirs f) ∧ (dirs f).length ≤ 400 := by
  refine ⟨fun p hp => ?_, ?_⟩
  · obtain ⟨x, hx, rfl⟩ := List.mem_map.1 (List.dropLast_subset _ hp)
    have := pcG_small f f.size 0 0 (Nat.zero_le _) (by omega) x hx
    omega
  · have := pcG_len f f.size 0 0
    unfold dirs pcs
    simp
    omega
theorem joined_l0 (l : List ByteArray) (hl : Sml l) (hn : l.length ≤ 1000) : ∀ (m K i : Nat) (x : ByteArray), m + 1 ≤ K → i + m = l.length → x.size ≤ i * 401 → ∃ r, tabularyref08_Joined.l0 K l x i = some r
  | 0, K, i, x, hK, hi, hx => by
    obtain ⟨K, rfl⟩ : ∃ K', K = K' + 1 := ⟨K - 1, by omega⟩
    rw [tabularyref08_Joined.l0.eq_2, if_neg (by omega)]
    exact ⟨_, rfl⟩
  | m + 1, K, i, x, hK, hi, hx => by
    obtain ⟨K, rfl⟩ : ∃ K', K = K' + 1 := ⟨K - 1, by omega⟩
    have hlt : i < l.length := by omega
    have hr : rdOf ByteArray.empty l (i : Int) = l[i] := by unfold rdOf; rw [Int.toNat_natCast, List.getD_eq_getElem?_getD, List.getElem?_eq_getElem hlt]; rfl
    have hs := hl _ (List.getElem_mem hlt)
    have hw : wrap64 ((i : Int) + 1) = ((i + 1 : Nat) : Int) := by rw [wrap_id (by omega) (by omega)]; rfl
    have h1 : (x ++ (⟨#[47]⟩ : ByteArray)).size = x.size + 1 := by rw [ByteArray.size_append]; rfl
    rw [tabularyref08_Joined.l0.eq_2, if_pos (by omega), hr, h1, hw]
    by_cases h0 : i = 0
    · rw [if_neg (by omega), if_pos (by omega), if_pos (by omega)]
      exact joined_l0 l hl hn m K (i + 1) _ (by omega) (by omega) (by rw [ByteArray.size_append]; omega)
    · rw [if_pos (by omega), if_pos (by omega), if_pos (by omega), if_pos (by omega)]
      exact joined_l0 l hl hn m K (i + 1) _ (by omega) (by omega) (by rw [ByteArray.size_append, h1]; omega)
theorem joined_f (l : List ByteArray) (hl : Sml l) (hn : l.length ≤ 1000) (K : Nat) (hK : 1001 ≤ K) : ∃ r, tabularyref08_Joined.f K l = some r := by
  have := joined_l0 l hl hn l.length K 0 ⟨#[]⟩ (by omega) (by omega) (Nat.zero_le _)
  exact this
theorem rd95 (l : List S137) (i : Nat) (hlt : i < l.length) : rd_T137 l (i : Int) = l[i] := by unfold rd_T137; rw [Int.toNat_natCast, List.getD_eq_getElem?_getD, List.getElem?_eq_getElem hlt]; rfl
theorem lead_l1 (l : List S137) (hl : ∀ x ∈ l, x.f1.size ≤ 400) (hn : l.length ≤ 401) : ∀ (m K i : Nat) (ps : List ByteArray), 2 * m + 2000 ≤ K → i + m = l.length → Sml ps → ps.length ≤ 401 + i → ∃ r, tabularyref08_Lead.l1 K ps l i = some (r, if (runL ps (l.drop i)).isNone then 83 else 0)
  | 0, K, i, ps, hK, hi, hs, hp => by
    obtain ⟨K, rfl⟩ : ∃ K', K = K' + 1 := ⟨K - 1, by omega⟩
    rw [tabularyref08_Lead.l1.eq_2, if_neg (by omega), List.drop_eq_nil_of_le (by omega)]
    obtain ⟨r, hr⟩ := joined_f ps hs (by omega) K (by omega)
    rw [hr]
    exact ⟨r, rfl⟩
  | m + 1, K, i, ps, hK, hi, hs, hp => by
    obtain ⟨K, rfl⟩ : ∃ K', K = K' + 2 := ⟨K - 2, by omega⟩
    have hlt : i < l.length := by omega
    have hx := hl _ (List.getElem_mem hlt)
    have hw : wrap64 ((i : Int) + 1) = ((i + 1 : Nat) : Int) := by rw [wrap_id (by omega) (by omega)]; rfl
    have ih := fun ps h1 h2 => lead_l1 l hl hn m K (i + 1) ps (by omega) (by omega) h1 h2
    rw [tabularyref08_Lead.l1.eq_2, if_pos (by omega), if_pos (by omega), rd95 l i hlt, List.drop_eq_getElem_cons hlt]
    show ∃ r, _ = some (r, if (((stepL ps l[i].f1).bind fun q => runL q (l.drop (i + 1))).isNone) then 83 else 0)
    have hj : ∀ b, tabularyref08_Lead.j2 (K + 1) ps l (i : Int) l[i].f1 b = if b = true then tabularyref08_Lead.l1 K ps l ((i + 1 : Nat) : Int) else (if l[i].f1.toList = ([46, 46] : List UInt8) then (if (ps.length : Int) = 0 then (some ((⟨#[]⟩ : ByteArray), 83)) else (if 0 ≤ (wrap64 ((ps.length : Int) - 1)) then (if (wrap64 ((ps.length : Int) - 1)) ≤ (ps.length : Int) then (tabularyref08_Lead.l1 K (ps.take ((wrap64 ((ps.length : Int) - 1)) : Int).toNat) l ((i + 1 : Nat) : Int)) else (none)) else (none))) else (if ps.length < 8796093022208 then (tabularyref08_Lead.l1 K (ps ++ [l[i].f1]) l ((i + 1 : Nat) : Int)) else (none))) := fun b => by
      rw [tabularyref08_Lead.j2.eq_2, hw]
    rw [hj true, hj]
    by_cases h1 : l[i].f1.toList = []
    · rw [if_pos h1, if_pos rfl]
      have : stepL ps l[i].f1 = some ps := by unfold stepL; rw [if_pos (.inl h1)]
      rw [this]
      exact ih ps hs (by omega)
    · rw [if_neg h1]
      by_cases h2 : l[i].f1.toList = [46]
      · rw [if_pos (by rw [h2]; rfl)]
        have : stepL ps l[i].f1 = some ps := by unfold stepL; rw [if_pos (.inr h2)]
        rw [this]
        exact ih ps hs (by omega)
      · rw [if_neg (by rw [beq_iff_eq]; exact h2)]
        by_cases h3 : l[i].f1.toList = [46, 46]
        · rw [if_pos h3]
          by_cases h4 : ps.length = 0
          · have : stepL ps l[i].f1 = none := by unfold stepL; rw [if_neg (fun e => e.elim h1 h2), if_pos h3, if_pos h4]
            rw [if_pos (by omega), this]
            exact ⟨_, rfl⟩
          · have : stepL ps l[i].f1 = some ps.dropLast := by unfold stepL; rw [if_neg (fun e => e.elim h1 h2), if_pos h3, if_neg h4]
            rw [if_neg (by omega), wrap_id (by omega) (by omega), if_pos (by omega), if_pos (by omega), this, show ((ps.length : Int) - 1).toNat = ps.length - 1 by omega, ← List.dropLast_eq_take]
            have hs' := sml_step hs hx this
            exact ih _ hs'.1 (by omega)
        · have : stepL ps l[i].f1 = some (ps ++ [l[i].f1]) := by unfold stepL; rw [if_neg (fun e => e.elim h1 h2), if_neg h3]
          rw [if_neg h3, if_pos (by omega), this]
          have hs' := sml_step hs hx this
          exact ih _ hs'.1 (by omega)
theorem lead_l0 (t : ByteArray) (ht : t.size ≤ 400) (l : List S137) (hl : ∀ x ∈ l, x.f1.size ≤ 400) (hn : l.length ≤ 401) (h1 : 1 ≤ l.length) : ∀ (m K i : Nat), m + 4000 ≤ K → i + m + 1 = l.length → ∃ r, tabularyref08_Lead.l0 K t ((l.map (·.f1)).take i) l i = some (r, if (runL ((l.map (·.f1)).dropLast) (pcs t)).isNone then 83 else 0)
  | 0, K, i, hK, hi => by
    obtain ⟨K, rfl⟩ : ∃ K', K = K' + 1 := ⟨K - 1, by omega⟩
    have hw : wrap64 ((i : Int) + 1) = ((i + 1 : Nat) : Int) := by rw [wrap_id (by omega) (by omega)]; rfl
    rw [tabularyref08_Lead.l0.eq_2, hw, if_neg (by omega), pieces_f t (by omega) K (by omega), Option.bind_some, List.dropLast_eq_take, List.length_map, show l.length - 1 = i by omega]
    have hlen := pcG_len t t.size 0 0
    have := lead_l1 (pcs t) (fun x hx => by have := pcG_small t t.size 0 0 (Nat.zero_le _) (by omega) x hx; omega) (by unfold pcs; omega) (pcs t).length K 0 ((l.map (·.f1)).take i) (by unfold pcs; omega) (by omega)
      (fun p hp => by obtain ⟨x, hx, rfl⟩ := List.mem_map.1 (List.take_subset _ _ hp); exact hl x hx) (by simp; omega)
    rw [List.drop_zero] at this
    exact this
  | m + 1, K, i, hK, hi => by
    obtain ⟨K, rfl⟩ : ∃ K', K = K' + 1 := ⟨K - 1, by omega⟩
    have hlt : i < l.length := by omega
    have hw : wrap64 ((i : Int) + 1) = ((i + 1 : Nat) : Int) := by rw [wrap_id (by omega) (by omega)]; rfl
    rw [tabularyref08_Lead.l0.eq_2, hw, if_pos (by omega), if_pos (by omega), if_pos (by omega), if_pos (by simp; omega), rd95 l i hlt]
    have e : (l.map (·.f1)).take i ++ [l[i].f1] = (l.map (·.f1)).take (i + 1) := by
      rw [List.take_add_one, List.getElem?_map, List.getElem?_eq_getElem hlt]
      rfl
    rw [e]
    exact lead_l0 t ht l hl hn h1 m K (i + 1) (by omega) (by omega)
theorem pcG_pos (s : ByteArray) : ∀ m f i, 1 ≤ (pcG s m f i).length
  | 0, f, i => by simp [pcG]
  | m + 1, f, i => by
    unfold pcG
    split
    · simp
    · exact pcG_pos s m f (i + 1)
theorem lead_f (f t : ByteArray) (K : Nat) (hK : 5000 ≤ K) : ∃ r, tabularyref08_Lead.f K f t = some (r, leadE f t) := by
  unfold tabularyref08_Lead.f leadE
  rw [check_f f K (by omega), Option.bind_some]
  by_cases h : (checkF f).2 = 0
  · rw [if_pos h, if_neg (c := (checkF f).2 ≠ 0) (fun e => e h)]
    have hsz : f.size ≤ 400 := by
      rcases Nat.lt_or_ge 400 f.size with h2 | h2
      · unfold checkF at h; rw [if_pos h2] at h; simp at h
      · exact h2
    by_cases h0 : t.size = 0
    · rw [if_pos ((toList_nil t).2 h0), if_pos h0]
      exact ⟨_, rfl⟩
    · rw [if_neg (fun e => h0 ((toList_nil t).1 e)), if_neg h0]
      by_cases h1 : 400 < t.size
      · rw [if_pos (by omega), if_pos h1]
        exact ⟨_, rfl⟩
      · rw [if_neg (by omega), if_neg h1, nul_f t (by omega) K (by omega), Option.bind_some]
        by_cases h2 : 0 ≤ Lib.indexByte t.data.toList 0
        · rw [if_pos h2, if_pos h2]
          exact ⟨_, rfl⟩
        · rw [if_neg h2, if_neg h2, if_pos (by omega)]
          by_cases h3 : bt t 0 = 47
          · rw [if_pos h3, if_pos h3]
            exact ⟨_, rfl⟩
          · rw [if_neg h3, if_neg h3, pieces_f f (by omega) K (by omega), Option.bind_some]
            have hlen := pcG_len f f.size 0 0
            have hpos := pcG_pos f f.size 0 0
            exact lead_l0 t (by omega) (pcs f) (fun x hx => by have := pcG_small f f.size 0 0 (Nat.zero_le _) (by omega) x hx; omega) (by unfold pcs; omega) (by unfold pcs; omega) ((pcs f).length - 1) K 0 (by unfold pcs; omega) (by unfold pcs at *; omega)
  · rw [if_neg h, if_pos h]
    exact ⟨_, rfl⟩
theorem idxB47 (s : ByteArray) : Lib.indexB s ⟨#[47]⟩ = Lib.indexByte s.data.toList 47 := Lib.index_one s.data.toList 47
theorem split_pcs (s : ByteArray) : ∀ (m a : Nat), s.size - a ≤ m → a ≤ s.size → Lib.splitB ⟨#[47]⟩ 0 (Lib.countB (s.extract a s.size) ⟨#[47]⟩) (s.extract a s.size) = (pcG s (s.size - a) a a).map (·.f1)
  | m, a, hm, ha => by
    have hsz : (s.extract a s.size).size = s.size - a := by rw [ByteArray.size_extract]; omega
    rcases Int.lt_or_le (Lib.indexByte (s.extract a s.size).data.toList 47) 0 with hneg | hpos
    · have hn : Lib.indexB (s.extract a s.size) ⟨#[47]⟩ = -1 := by
        have := Lib.indexByte_ge (s.extract a s.size).data.toList 47
        rw [idxB47]; omega
      rw [Lib.splitB_miss _ _ _ _ hn, pcs_last s a ha hneg]
      rfl
    · obtain ⟨k, hk⟩ : ∃ k : Nat, Lib.indexByte (s.extract a s.size).data.toList 47 = k := ⟨(Lib.indexByte (s.extract a s.size).data.toList 47).toNat, by omega⟩
      obtain ⟨hlt, hmo⟩ := pcs_more s a k ha hk
      have hh : Lib.indexB (s.extract a s.size) ⟨#[47]⟩ = k := by rw [idxB47]; exact hk
      rw [Lib.countB_hit _ _ k (by decide) hh, Nat.add_comm, Lib.splitB_hit _ _ _ _ k hh, hmo]
      have e1 : (s.extract a s.size).extract 0 (k + 0) = s.extract a (a + k) := by
        rw [ByteArray.extract_extract]
        congr 1 <;> omega
      have e2 : (s.extract a s.size).extract (k + (⟨#[47]⟩ : ByteArray).size) (s.extract a s.size).size = s.extract (a + k + 1) s.size := by
        rw [ByteArray.extract_extract, hsz, show (⟨#[47]⟩ : ByteArray).size = 1 from rfl]
        congr 1 <;> omega
      rw [e1, e2]
      obtain ⟨m, rfl⟩ : ∃ m', m = m' + 1 := ⟨m - 1, by omega⟩
      rw [split_pcs s m (a + k + 1) (by omega) (by omega)]
      rfl
theorem split_all (s : ByteArray) : Lib.splitB ⟨#[47]⟩ 0 (Lib.countB s ⟨#[47]⟩) s = (pcs s).map (·.f1) := by
  have h := split_pcs s s.size 0 (by omega) (Nat.zero_le _)
  have e : s.extract 0 s.size = s := by
    apply ByteArray.ext
    simp [ByteArray.data_extract]
  rw [e] at h
  exact h
theorem join_len (l : List ByteArray) (hl : Sml l) : (Lib.join (l.map (·.data.toList)) [47]).length ≤ l.length * 401 := by
  have : ∀ (l : List ByteArray), Sml l → ((l.map (·.data.toList)).map ([47] ++ ·)).flatten.length ≤ l.length * 401 := by
    intro l
    induction l with
    | nil => intro _; simp
    | cons x l ih =>
      intro h
      have h1 := h x (List.mem_cons_self ..)
      have h2 := ih (fun p hp => h p (List.mem_cons_of_mem _ hp))
      rw [Lib.size_eq] at h1
      simp only [List.map_cons, List.flatten_cons, List.length_append, List.length_cons, List.length_nil] at h2 ⊢
      omega
  cases l with
  | nil => simp [Lib.join_nil]
  | cons x r =>
    have h1 := hl x (List.mem_cons_self ..)
    have h2 := this r (fun p hp => hl p (List.mem_cons_of_mem _ hp))
    rw [Lib.size_eq] at h1
    rw [List.map_cons, Lib.join_cons, List.length_append, List.length_cons]
    have h3 : (Lib.joinTail [47] (r.map (·.data.toList))).length ≤ r.length * 401 := h2
    omega
end Go.Proofs.YtopehfjohifpnaaGreatDoor.Mine
end
