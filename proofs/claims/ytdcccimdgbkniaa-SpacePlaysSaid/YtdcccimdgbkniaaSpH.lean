/- space: Runs, Free; no space. -/
import Derived.Test.YtdcccimdgbkniaaSpG
import Derived.Test.YtdcccimdgbkniaaSpB2
set_option linter.unusedSimpArgs false
set_option linter.unusedVariables false
namespace Go.Proofs.Ytdcccimdgbkniaa.Mine
open Go.RowKit Go.Maps Go.Proofs.YtdcccimdgbkniaaW.PrintWords Go.Proofs.YtdcccimdgbkniaaW.PrintLast Go.Proofs.YtdcccimdgbkniaaW.PrintMore Go.Proofs.Ytdcccimdgbkniaa.Turn

/-- A run as place and count. -/
def runL (l : List R2) : List R2 := l.map fun r => (r.1, r.2 - r.1)
theorem runL_take {l : List R2} {k : Nat} (h : k < l.length) : runL (l.take (k + 1)) = runL (l.take k) ++ [(l[k].1, l[k].2 - l[k].1)] := by
  rw [List.take_succ_eq_append_getElem h, runL, List.map_append]; rfl
theorem runL_length (l : List R2) : (runL l).length = l.length := List.length_map _
def sumC (l : List R2) : Int := l.foldl (fun a r => a + r.2) 0
theorem sumC_take {l : List R2} {k : Nat} (h : k < l.length) : sumC (l.take (k + 1)) = sumC (l.take k) + l[k].2 := by
  rw [List.take_succ_eq_append_getElem h, sumC, List.foldl_append]; rfl

def GotR (w : World) (l : List R2) (e : Ending) (w' : World) : Prop := ∃ v, e = .returned v ∧ OwnA w' w.heap.size v l ∧ Below w.heap.size w w'

set_option maxHeartbeats 1000000 in
theorem runs_nil (w : World) : Calls Try.prog 19 #[.pointer none] w fun e w' => e = .returned (.slice none 0 0) ∧ w = w' := by
  go_enter Try.func19, Try.ntmps19
  go_wp2_with fail
  go_ret
  exact ⟨rfl, rfl⟩

set_option maxHeartbeats 2000000 in
theorem runs_any {w : World} {base b : Nat} {F : Nat → Prop} {n : Int} {l : List R2} (h : Sp w base F b n l) (hl : l.length ≤ 1000000) (hs : Small l) :
    Calls Try.prog 19 #[.pointer (some ⟨b, 0, none⟩)] w (GotR w (runL l)) := by
  obtain ⟨-, -, v, h3, h4, h5⟩ := h
  have hlt := h3.lt
  have H4 := Aside0.mk h4.reads
  have HSM := Aside0.mk hs
  obtain ⟨A, cc, rfl, hc, hc2, -⟩ := h4.reads
  have h30 : World.cell? w ⟨b, 0, none⟩ = some (.int .i64 n) := Blk.cell h3 0
  have h3f0 : World.frozen? w ⟨b, 0, none⟩ = false := Blk.free h3 0
  have h31 : World.cell? w ⟨b, 1, none⟩ = some (.slice A l.length cc) := Blk.cell h3 1
  have h3f1 : World.frozen? w ⟨b, 1, none⟩ = false := Blk.free h3 1
  clear h3 h4 h5 hs
  go_enter Try.func19, Try.ntmps19
  go_wp2_with fail
  go_loopw [3, 13] (fun u i wr => ∃ k : Nat, k ≤ l.length ∧ i = .int .i64 k ∧ Aside0 (OwnA wr w.heap.size u (runL (l.take k))) ∧ Aside0 (Below w.heap.size w wr)) (fun _ i _ => l.length - (intOf i).toNat)
  case atStart => exact ⟨0, Nat.zero_le _, rfl, ⟨OwnA.nil _ _⟩, ⟨Below.refl _ _⟩⟩
  case round =>
    obtain ⟨k, hk, rfl, HO, HB⟩ := hrel
    by_cases hlt2 : k < l.length
    · obtain ⟨A', c', he, -, -, hcell⟩ := H4.out.below HB.out
      cases he
      obtain ⟨g, o, rfl, hg, y0, y1⟩ := hcell k hlt2
      have hsm := HSM.out _ (List.getElem_mem hlt2)
      have HT := Aside0.mk (runL_take hlt2)
      clear hcell
      generalize l[k] = x at *
      obtain ⟨xa, xe⟩ := x
      simp only at hsm y0 y1 HT
      obtain ⟨hm0, hm1, hm2⟩ := hsm
      have HLN : Aside0 ((runL (l.take k)).length = k) := ⟨by rw [runL_length, List.length_take]; omega⟩
      have HBB : Aside0 (Below w.heap.size w (wr.alloc (.cells #[.int .i64 xa, .int .i64 xe] 50))) := ⟨below_alloc HB.out _⟩
      have hbs := HB.out.size
      have HSR : Aside0 (SrcA ((wr.alloc (.cells #[.int .i64 xa, .int .i64 xe] 50)).alloc (.cells #[.int .i64 xa, .int .i64 (xe - xa)] 32)) (.slice (some ⟨wr.heap.size + 1, 0, none⟩) 1 1) [(xa, xe - xa)]) := ⟨by simpa using SrcA.new (wr.alloc (.cells #[.int .i64 xa, .int .i64 xe] 50)) (xa, xe - xa)⟩
      go_wp2_with ((with_reducible refine gate_builtin (b := .append) (xs := #[.tmp 17, .tmp 26]) rfl ?_); refine list_ownRA rfl (.tmp 17) (.tmp 26) rfl (base := w.heap.size) (u := .slice (some ⟨wr.heap.size + 1, 0, none⟩) 1 1) (l := runL (l.take k)) (vs := [(xa, xe - xa)]) rfl rfl ((HO.out.below (below_alloc (Below.refl _ _) _)).below (below_alloc (Below.refl _ _) _)) HSR.out (by simp; omega) (by rw [HLN.out]; simp; omega) ?_; intro v1 w1 ho ht hat; rw [← HT.out] at ho; have HO1 := Aside0.mk ho; have HB1 : Aside0 (Below w.heap.size w w1) := ⟨below_turned (below_alloc HBB.out _) ht (by simp; omega) (fun k hk => (HO.out.lt k hk).1)⟩; clear ho ht hat)
      go_roundw
      case rel => exact ⟨k + 1, by omega, by go_num, HO1, HB1⟩
      case measure => simp [intOf]; omega
    · obtain rfl : k = l.length := by omega
      rw [List.take_length] at HO
      go_wp2_with fail
      go_ret
      exact ⟨_, rfl, HO.out, HB.out⟩

set_option maxHeartbeats 1000000 in
theorem free_nil (w : World) : Calls Try.prog 16 #[.pointer none] w fun e w' => e = .returned (.int .i64 0) ∧ w = w' := by
  go_enter Try.func16, Try.ntmps16
  go_wp2_with fail
  refine (runs_nil _).mono ?_
  rintro e w' ⟨rfl, rfl⟩
  go_wp2_with fail
  go_loop [3, 9] (fun s i => s = .int .i64 0 ∧ i = .int .i64 0) (fun _ _ => 0)
  case atStart => exact ⟨rfl, rfl⟩
  case round =>
    obtain ⟨rfl, rfl⟩ := hrel
    go_wp2_with fail
    go_ret
    exact ⟨rfl, rfl⟩

set_option maxHeartbeats 2000000 in
theorem free_any {w : World} {base b : Nat} {F : Nat → Prop} {n : Int} {l : List R2} (h : Sp w base F b n l) (hl : l.length ≤ 1000000) (hs : Small l) (hsum : ∀ k, k ≤ l.length → 0 ≤ sumC ((runL l).take k) ∧ sumC ((runL l).take k) ≤ 65536) :
    Calls Try.prog 16 #[.pointer (some ⟨b, 0, none⟩)] w fun e w' => e = .returned (.int .i64 (sumC (runL l))) ∧ Below w.heap.size w w' := by
  have HSU := Aside0.mk hsum
  have HSM := Aside0.mk hs
  have HC := Aside0.mk (runs_any h hl hs)
  clear h hsum hs
  go_enter Try.func16, Try.ntmps16
  go_wp2_with fail
  refine HC.out.mono ?_
  rintro e w1 ⟨v, rfl, ho, hb⟩
  have HB1 := Aside0.mk hb
  have H4 := Aside0.mk ho.reads
  obtain ⟨A, cc, rfl, hc, hc2, -⟩ := ho.reads
  clear ho hb HC
  rw [runL_length]
  rw [runL_length] at hc
  go_wp2_with fail
  go_loopw [3, 9] (fun s i wr => ∃ k : Nat, k ≤ l.length ∧ i = .int .i64 k ∧ s = .int .i64 (sumC ((runL l).take k)) ∧ Aside0 (Below w1.heap.size w1 wr)) (fun _ i _ => l.length - (intOf i).toNat)
  case atStart => exact ⟨0, Nat.zero_le _, rfl, rfl, ⟨Below.refl _ _⟩⟩
  case round =>
    obtain ⟨k, hk, rfl, rfl, HB⟩ := hrel
    by_cases hlt2 : k < l.length
    · have hlt3 : k < (runL l).length := by rw [runL_length]; exact hlt2
      obtain ⟨A', c', he, -, -, hcell⟩ := H4.out.below HB.out
      rw [runL_length] at he
      cases he
      obtain ⟨g, o, rfl, hg, y0, y1⟩ := hcell k hlt3
      have HT := Aside0.mk (sumC_take hlt3)
      have hs1 := HSU.out k (by omega)
      have hs2 := HSU.out (k + 1) (by omega)
      rw [HT.out] at hs2
      clear hcell
      generalize (runL l)[k] = x at *
      obtain ⟨xa, xc⟩ := x
      simp only at y0 y1 HT hs2
      generalize sumC ((runL l).take k) = s at *
      go_wp2_with fail
      go_roundw
      case rel => exact ⟨k + 1, by omega, by go_num, by rw [HT.out], ⟨below_alloc HB.out _⟩⟩
      case measure => simp [intOf]; omega
    · obtain rfl : k = l.length := by omega
      go_wp2_with fail
      go_ret
      exact ⟨by rw [List.take_of_length_le (by rw [runL_length]; exact Nat.le_refl _)]; rfl, below_step HB1.out HB.out⟩

set_option maxHeartbeats 1000000 in
theorem take_nil (c : Int) (w : World) : Calls Try.prog 10 #[.pointer none, .int .i64 c] w fun e w' => e = .returned (.tuple #[.int .i64 0, .int .i64 8]) ∧ Below w.heap.size w w' := by
  go_enter Try.func10, Try.ntmps10
  go_wp2_with fail
  go_ret2
  exact ⟨rfl, below_alloc (Below.refl _ _) _⟩
set_option maxHeartbeats 1000000 in
theorem hold_nil (a c : Int) (w : World) : Calls Try.prog 12 #[.pointer none, .agg #[.int .i64 a, .int .i64 c]] w fun e w' => e = .returned (.int .i64 8) ∧ Below w.heap.size w w' := by
  go_enter Try.func12, Try.ntmps12
  go_wp2_with fail
  refine (right_nil _ _ _).mono ?_
  rintro e w1 ⟨rfl, hb⟩
  have HB := Aside0.mk (below_step (below_alloc (Below.refl _ _) _) hb)
  clear hb
  go_wp2_with fail
  go_ret
  exact ⟨rfl, below_alloc HB.out _⟩
set_option maxHeartbeats 1000000 in
theorem give_nil (a c : Int) (w : World) : Calls Try.prog 14 #[.pointer none, .agg #[.int .i64 a, .int .i64 c]] w fun e w' => e = .returned (.int .i64 8) ∧ Below w.heap.size w w' := by
  go_enter Try.func14, Try.ntmps14
  go_wp2_with fail
  refine (right_nil _ _ _).mono ?_
  rintro e w1 ⟨rfl, hb⟩
  have HB := Aside0.mk (below_step (below_alloc (Below.refl _ _) _) hb)
  clear hb
  go_wp2_with fail
  go_ret
  exact ⟨rfl, below_alloc HB.out _⟩
end Go.Proofs.Ytdcccimdgbkniaa.Mine
