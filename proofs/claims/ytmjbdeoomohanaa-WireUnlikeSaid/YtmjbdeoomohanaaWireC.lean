/- wire: number. -/
import Derived.Test.YtmjbdeoomohanaaWireB
import Derived.Lib.EndianBits
set_option linter.unusedSimpArgs false
set_option linter.unusedVariables false
namespace Go.Proofs.Ytmjbdeoomohanaa.Mine
open Go.RowKit Go.Maps Go.Proofs.YtmjbdeoomohanaaW.PrintWords Go.Proofs.YtmjbdeoomohanaaW.PrintLast Go.Proofs.YtmjbdeoomohanaaW.PrintMore Go.Proofs.Ytmjbdeoomohanaa.PWirePacks Go.Proofs.Ytmjbdeoomohanaa.Turn


def dig (n : Int) (sz i : Nat) : Int := n / 2 ^ (8 * (sz - 1 - i)) % 256
def be (n : Int) (sz : Nat) : List Int := (List.range sz).map (dig n sz)
def val (l : List Int) : Int := l.foldl (fun a x => a * 256 + x) 0
def filled (n : Int) (sz k : Nat) : Array Value := ((List.range sz).map (fun i => if i < k then Value.int .u8 (dig n sz i) else Value.int .u8 0)).toArray
theorem filled_at (n : Int) (sz k i : Nat) (hi : i < sz) : (filled n sz k)[i]? = some (if i < k then Value.int .u8 (dig n sz i) else Value.int .u8 0) := by
  simp [filled, hi]
theorem filled_out (n : Int) (sz k i : Nat) (hi : sz ≤ i) : (filled n sz k)[i]? = none := by simp [filled, hi]
theorem filled_size (n : Int) (sz k : Nat) : (filled n sz k).size = sz := by simp [filled]
theorem filled_set (n : Int) (sz k : Nat) (hk : k < sz) : (filled n sz k).setIfInBounds k (.int .u8 (dig n sz k)) = filled n sz (k + 1) := by
  apply Array.ext_getElem?
  intro i
  by_cases hi : i < sz
  · rw [Array.getElem?_setIfInBounds, filled_at n sz (k + 1) i hi, filled_size]
    by_cases e : k = i
    · subst e
      rw [if_pos rfl, if_pos hk, if_pos (by omega)]
    · rw [if_neg e, filled_at n sz k i hi]
      by_cases h : i < k
      · rw [if_pos h, if_pos (by omega)]
      · rw [if_neg h, if_neg (by omega)]
  · rw [filled_out n sz (k + 1) i (by omega), Array.getElem?_eq_none (by simp [filled_size]; omega)]
theorem filled_zero (n : Int) (sz : Nat) : filled n sz 0 = madeCells (Value.int .u8 0).cells (sz * 1) := by
  apply Array.ext
  · simp [filled, madeCells]
  · intro i h1 h2
    simp [filled, madeCells, Value.cells, Nat.mod_one]
theorem run_make_bytes (sz : Nat) (hz : sz ≤ 8) (W : World) : (Instr.makeSlice 24 (.int .i64 sz) (.int .i64 sz)).run Try.prog W = .ok (.slice (some ⟨W.heap.size, 0, none⟩) sz sz) (W.alloc (.cells (filled 0 sz 0) 5)) := by
  obtain ⟨i0, hi, hzz⟩ := Option.map_eq_some_iff.1 info5
  simp only [Prod.mk.injEq] at hzz
  obtain ⟨hz0, hz1, hz2⟩ := hzz
  rw [run_make W 24 5 i0 (.int .u8 0) Try.underlying24 hi hz0 .i64 .i64 sz sz (by omega) (by omega) (by rw [hz2]; omega) (by omega), filled_zero, hz1]
  simp

theorem be_len (n : Int) (sz : Nat) : (be n sz).length = sz := by simp [be]
theorem be_range (n : Int) (sz : Nat) : ∀ x ∈ be n sz, 0 ≤ x ∧ x < 256 := by
  intro x hx
  obtain ⟨i, _, rfl⟩ := List.mem_map.1 hx
  unfold dig
  omega
/-- What a coder holds is small, and bytes. -/
def OkS : St → Prop
  | .W l => l.length ≤ 1099511627776
  | .R l => l.length ≤ 1099511627776 ∧ ∀ x ∈ l, 0 ≤ x ∧ x < 256
theorem OkS.fits {S : St} (h : OkS S) (m : Nat) (hm : m ≤ 1099511627776) : Fits S m := by
  cases S with
  | W l => exact Nat.le_trans (Nat.add_le_add h hm) (by omega)
  | R l => exact Nat.le_trans h.1 (by omega)
theorem step_ok {S S' : St} {bs r : List Int} {n : Nat} (h : OkS S) (hb : ∀ x ∈ bs, 0 ≤ x ∧ x < 256) (hn : bs.length = n) (hs : step S bs n = .ok (r, S')) : r.length = n ∧ ∀ x ∈ r, 0 ≤ x ∧ x < 256 := by
  cases S with
  | W l =>
    simp only [step, Except.ok.injEq, Prod.mk.injEq] at hs
    obtain ⟨rfl, rfl⟩ := hs
    exact ⟨hn, hb⟩
  | R l =>
    simp only [step] at hs
    split at hs
    · cases hs
    · simp only [Except.ok.injEq, Prod.mk.injEq] at hs
      obtain ⟨rfl, rfl⟩ := hs
      exact ⟨by rw [List.length_take]; omega, fun x hx => h.2 x (List.mem_of_mem_take hx)⟩

theorem blk_C {w : World} {g : Nat} {n : Int} {sz : Nat} (h : Blk w g (filled n sz sz) 5) (hz8 : sz ≤ 8) : Kd.C (Kd.int .u8) w (some ⟨g, 0, none⟩) (be n sz).length (be n sz) := by
  rw [be_len]
  refine ⟨be_len _ _, ?_, fun _ => ⟨_, rfl, fun j p hj => ⟨[.int .u8 p], rfl, rfl, fun i u hu => ?_⟩⟩⟩
  · omega
  match i, hu with
  | 0, hu =>
    simp only [List.getElem?_cons_zero, Option.some.injEq] at hu
    subst hu
    have hjl : j < sz := by
      have := (List.getElem?_eq_some_iff.1 hj).1
      rwa [be_len] at this
    have hp : dig n sz j = p := by
      simpa [be, hjl] using hj
    have h2 := (h.cell j).trans (filled_at n sz sz j hjl)
    rw [if_pos hjl, hp] at h2
    rcases Nat.eq_zero_or_pos j with rfl | hj0
    · simpa [Addr.add, Kd.int, Kd.scalar] using h2
    · simpa [Addr.add, Kd.int, Kd.scalar, Nat.ne_of_gt hj0] using h2
  | i + 1, hu => simp at hu

theorem or_turned (k : IntKind) (a b : Int) : bits .or k a b = bits .or k b a := by
  unfold bits
  simp [BitVec.or_comm]
theorem val_take {r : List Int} {j : Nat} (hj : j < r.length) : val (r.take (j + 1)) = val (r.take j) * 256 + r.getD j 0 := by
  rw [List.take_succ_eq_append_getElem hj, val, List.foldl_append, List.getD_eq_getElem?_getD, List.getElem?_eq_getElem hj]
  rfl
theorem val_range {r : List Int} (h : ∀ x ∈ r, 0 ≤ x ∧ x < 256) : ∀ j, j ≤ r.length → 0 ≤ val (r.take j) ∧ val (r.take j) < 256 ^ j := by
  intro j
  induction j with
  | zero => intro _; simp [val]
  | succ j ih =>
    intro hj
    have h1 := ih (by omega)
    have h2 : 0 ≤ r.getD j 0 ∧ r.getD j 0 < 256 := by
      rw [List.getD_eq_getElem?_getD, List.getElem?_eq_getElem (show j < r.length by omega)]
      exact h _ (List.getElem_mem _)
    rw [val_take (show j < r.length by omega), Int.pow_succ]
    omega
theorem join_byte {r : List Int} (h : ∀ x ∈ r, 0 ≤ x ∧ x < 256) {j : Nat} (hj : j < r.length) (h8 : r.length ≤ 8) : bits .or .u64 (IntKind.u64.wrap (val (r.take j) * 256)) (IntKind.u64.wrap (r.getD j 0)) = val (r.take (j + 1)) := by
  have h1 := val_range h j (by omega)
  have h2 : 0 ≤ r.getD j 0 ∧ r.getD j 0 < 256 := by
    rw [List.getD_eq_getElem?_getD, List.getElem?_eq_getElem hj]
    exact h _ (List.getElem_mem _)
  have h3 : (256 : Int) ^ j ≤ 72057594037927936 := by
    have hd : j = 0 ∨ j = 1 ∨ j = 2 ∨ j = 3 ∨ j = 4 ∨ j = 5 ∨ j = 6 ∨ j = 7 := by omega
    rcases hd with rfl | rfl | rfl | rfl | rfl | rfl | rfl | rfl <;> decide
  have e1 : IntKind.u64.wrap (val (r.take j) * 256) = val (r.take j) * 256 := by rw [IntKind.wrap_u64]; omega
  have e2 : IntKind.u64.wrap (r.getD j 0) = r.getD j 0 := by rw [IntKind.wrap_u64]; omega
  rw [val_take hj, e1, e2, or_turned, u64_or8 _ _ h2.1 h2.2 (by omega) (by omega) (by omega)]
  omega

/-- How number ends. -/
def EndsN (w : World) (base : Nat) (G : Nat → Prop) (b : Nat) (x : Except Int (List Int × St)) (e : Ending) (w' : World) : Prop :=
  ∃ G' : Nat → Prop, (∀ k, G' k → G k ∨ w.heap.size ≤ k) ∧ Turned G w w' ∧ match x with
  | .ok (r, S') => e = .returned (.int .u64 (val r)) ∧ Cod w' base G' b S'
  | .error x => e = wrongs x

set_option maxHeartbeats 2000000 in
theorem number_any {w : World} {base b : Nat} {G : Nat → Prop} {S : St} (h : Cod w base G b S) (hS : OkS S) (n : Int) (h0 : 0 ≤ n) (hn : n < 18446744073709551616) (sz : Nat) (hz : 0 < sz) (hz8 : sz ≤ 8) :
    Calls Try.prog 33 #[.pointer (some ⟨b, 0, none⟩), .int .u64 n, .int .i64 sz] w fun e w' => EndsN w base G b (step S (be n sz) sz) e w' := by
  have hmk := run_make_bytes sz hz8
  have HC := Aside0.mk h
  have HS := Aside0.mk hS
  clear h hS
  go_enter Try.func33, Try.ntmps33
  go_wp2_with fail
  have HB0 : Aside0 (Blk (w.alloc (.cells (filled 0 sz 0) 5)) w.heap.size (filled n sz 0) 5) := ⟨by rw [filled_zero n, ← filled_zero 0]; exact Blk.new _ _ _⟩
  go_loopw [15] (fun i wr => ∃ k : Nat, k ≤ sz ∧ i = .int .i64 k ∧ Aside0 (Blk wr w.heap.size (filled n sz k) 5) ∧ Aside0 (Below w.heap.size w wr)) (fun i _ => sz - (intOf i).toNat)
  case atStart => exact ⟨0, Nat.zero_le _, rfl, HB0, ⟨below_alloc (Below.refl _ _) _⟩⟩
  case round =>
    obtain ⟨k, hk, rfl, HX, HB⟩ := hrel
    clear HB0
    by_cases hlt : k < sz
    · have hw1 : IntKind.i64.wrap ((sz : Int) - 1) = (sz : Int) - 1 := IntWalk.i64_in _ (by omega)
      have hw2 : IntKind.i64.wrap ((sz : Int) - 1 - k) = (sz : Int) - 1 - k := IntWalk.i64_in _ (by omega)
      have hw3 : IntKind.i64.wrap (8 * ((sz : Int) - 1 - k)) = 8 * ((sz : Int) - 1 - k) := IntWalk.i64_in _ (by omega)
      have x0 : wr.cell? ⟨w.heap.size, k, none⟩ = some (.int .u8 0) := (HX.out.cell k).trans (by rw [filled_at _ _ _ _ hlt, if_neg (by omega)])
      have xf : wr.frozen? ⟨w.heap.size, k, none⟩ = false := HX.out.free k
      go_wp2_with fail
      go_roundw
      case rel => exact ⟨k + 1, by omega, by go_num, ⟨by rw [← filled_set n sz k hlt]; exact HX.out.set k _⟩, ⟨HB.out.setCell (Nat.le_refl _) _⟩⟩
      case measure => simp [intOf]; omega
    · obtain rfl : k = sz := by omega
      clear hlt hk hmk
      go_wp2_with fail
      have hcod := HC.out.below HB.out
      have hF : Kd.F (Kd.int .u8) wr (fun q => ¬ G q ∧ w.heap.size ≤ q) (some ⟨w.heap.size, 0, none⟩) (be n k).length (be n k) := fun W' hW =>
        blk_C (hz8 := hz8) ((hW w.heap.size ⟨fun hG => by have := (HC.out.2.1 _ hG).1; omega, Nat.le_refl _⟩ HX.out.lt).trans HX.out)
      have hby := bytes_any hcod (some ⟨w.heap.size, 0, none⟩) k (be n k) k (by rw [be_len]; exact Nat.le_refl _) hF (HS.out.fits _ (by rw [be_len]; omega))
      rw [be_len] at hby
      refine hby.mono ?_
      clear hby hF hcod
      obtain ⟨x, hx⟩ : ∃ x, step S (be n k) k = x := ⟨_, rfl⟩
      rw [hx]
      have HSX := Aside0.mk hx
      cases x with
      | error x =>
        rintro e w2 ⟨G', hG', hT', he⟩
        have he2 : e = .panicked [{ v := .iface 63 (.agg #[.int .i64 x]), recovered := false }] := he
        subst he2
        clear he
        have HG := Aside0.mk hG'
        have HT := Aside0.mk hT'
        clear hG' hT' hx
        go_wp2_with fail
        rw [HSX.out]
        exact ⟨rfl, G', fun q hq => (HG.out q hq).imp id (fun h => Nat.le_trans HB.out.size h), (Turned.of_below HB.out G).then_ HT.out (fun _ hk => .inl hk), rfl⟩
      | ok x =>
        obtain ⟨r, S'⟩ := x
        have hr := step_ok HS.out (be_range n k) (be_len n k) hx
        rintro e w2 ⟨G', hG', hT', ⟨A2, c2, rfl, hc2, hF2⟩, hC2⟩
        have HG := Aside0.mk hG'
        have HT := Aside0.mk hT'
        have HC2 := Aside0.mk hC2
        have HR := Aside0.mk (Kd.F_now hF2)
        have HV := Aside0.mk hr.2
        have hrl : r.length = k := hr.1
        clear hG' hT' hx hr hF2 hC2
        go_wp2_with fail
        go_loopw [1, 35] (fun acc i wr2 => ∃ j : Nat, j ≤ r.length ∧ i = .int .i64 j ∧ acc = .int .u64 (val (r.take j)) ∧ Aside0 (w2 = wr2)) (fun _ i _ => r.length - (intOf i).toNat)
        case atStart => exact ⟨0, Nat.zero_le _, rfl, rfl, ⟨rfl⟩⟩
        case round =>
          obtain ⟨j, hj, rfl, rfl, HW⟩ := hrel
          obtain rfl := HW.out
          by_cases hjl : j < r.length
          · obtain ⟨ad, cs, e, _, hK, hcc⟩ := Kd.C_get HR.out 0 (j : Int) (by omega) (by omega)
            cases e
            have hx0 := hcc 0 (.int .u8 (r.getD j 0)) (by rw [show cs = [.int .u8 (r.getD ((j : Int)).toNat 0)] from hK]; simp)
            replace hx0 : w2.cell? (ad.add j) = some (.int .u8 (r.getD j 0)) := by
              rw [Int.toNat_natCast] at hx0
              simpa [Kd.int, Kd.scalar] using hx0
            clear hcc hK
            generalize hxx : r.getD j 0 = x at hx0
            have HXX := Aside0.mk hxx
            clear hxx
            go_wp2_with fail
            go_roundw
            case rel => exact ⟨j + 1, by omega, by go_num, by rw [← HXX.out, join_byte HV.out hjl (by omega)], ⟨by first | exact rfl | exact trivial⟩⟩
            case measure => simp [intOf]; omega
          · obtain rfl : j = r.length := by omega
            rw [List.take_length]
            go_wp2_with fail
            rw [HSX.out]
            go_ret
            exact ⟨G', fun q hq => (HG.out q hq).imp id (fun h => Nat.le_trans HB.out.size h), (Turned.of_below HB.out G).then_ HT.out (fun _ hk => .inl hk), rfl, HC2.out⟩
end Go.Proofs.Ytmjbdeoomohanaa.Mine
