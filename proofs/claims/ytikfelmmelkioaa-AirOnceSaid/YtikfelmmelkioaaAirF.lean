/- Contracts of Hold, Lose, Carry. -/
import Derived.Test.YtikfelmmelkioaaAirE
import Derived.Test.YtikfelmmelkioaaCopy
import Derived.IntWalk
set_option linter.unusedSimpArgs false
set_option linter.unusedVariables false
namespace Go.Proofs.Ytikfelmmelkioaa.Mine
open Go.RowKit Go.Maps Go.Proofs.YtikfelmmelkioaaW.PrintWords Go.Proofs.YtikfelmmelkioaaW.PrintLast Go.Proofs.YtikfelmmelkioaaW.PrintMore Go.Proofs.Ytikfelmmelkioaa.PAirOnce Go.Proofs.Ytikfelmmelkioaa.Turn

set_option maxHeartbeats 1000000 in
theorem hold_nil (i : Int) (w : World) :
    Calls Try.prog 13 #[.pointer none, .int .i64 i] w fun e w' => e = .returned (.bool false) ∧ w = w' := by
  by_cases h : i < 0
  · go_enter Try.func13, Try.ntmps13
    go_wp2
    go_ret
    exact ⟨rfl, rfl⟩
  · go_enter Try.func13, Try.ntmps13
    go_wp2
    go_ret
    exact ⟨rfl, rfl⟩

set_option maxHeartbeats 1000000 in
theorem hold_none {w : World} {F : Nat → Prop} {b : Nat} {n : Int} {L : List S24} {D : DataW Unit} {M : Nat} (h : AirRep w F b n L D M) (i : Int) (hi : i < 0 ∨ (L.length : Int) ≤ i) :
    Calls Try.prog 13 #[.pointer (some ⟨b, 0, none⟩), .int .i64 i] w fun e w' => e = .returned (.bool false) ∧ w = w' := by
  have HA := Aside0.mk h
  clear h
  by_cases h0 : i < 0
  · clear hi
    go_enter Try.func13, Try.ntmps13
    go_wp2
    go_ret
    exact ⟨rfl, rfl⟩
  · have hi : (L.length : Int) ≤ i := by omega
    go_enter Try.func13, Try.ntmps13
    go_wp2_with (go_at_call 9; refine (count_any HA.out).mono ?_; rintro e w' ⟨rfl, rfl⟩)
    go_ret
    exact ⟨rfl, rfl⟩

/-- Element i goes to the end. -/
def toEnd {α : Type} (l : List α) (i : Nat) : List α := l.eraseIdx i ++ (l[i]?).toList


theorem reps_perm {α : Type} {R : α → List Value → Prop} {L L' : List α} {inner inner' : List Value} (h : Reps R 3 L inner) (hlen : L'.length = L.length) (σ : Nat → Nat) (hσ : ∀ j, j < L.length → L'[j]? = L[σ j]?) (hin : inner'.length = inner.length)
    (hc : ∀ j t, j < L.length → t < 3 → inner'[j * 3 + t]? = inner[σ j * 3 + t]?) : Reps R 3 L' inner' := by
  refine ⟨by rw [hin, h.1, hlen], fun j p hj => ?_⟩
  have hjl : j < L.length := by
    rcases Nat.lt_or_ge j L.length with h1 | h1
    · exact h1
    · rw [List.getElem?_eq_none (by omega)] at hj; cases hj
  have h2 := h.2 (σ j) p (by rw [← hσ j hjl]; exact hj)
  have e : (inner'.drop (j * 3)).take 3 = (inner.drop (σ j * 3)).take 3 := by
    apply List.ext_getElem?
    intro t
    rw [List.getElem?_take, List.getElem?_take]
    split
    · rw [List.getElem?_drop, List.getElem?_drop]
      exact hc j t hjl (by assumption)
    · rfl
  rw [e]
  exact h2
/-- Where element j of the turned list comes from. -/
def from_ (n i j : Nat) : Nat := if j < i then j else if j + 1 < n then j + 1 else i
theorem toEnd_at {α : Type} (L : List α) (i : Nat) (hi : i < L.length) (j : Nat) (hj : j < L.length) : (toEnd L i)[j]? = L[from_ L.length i j]? := by
  unfold toEnd from_
  have hl : (L.eraseIdx i).length = L.length - 1 := by rw [List.length_eraseIdx]; simp [hi]
  rcases Nat.lt_or_ge j (L.length - 1) with h1 | h1
  · rw [List.getElem?_append_left (by omega), List.getElem?_eraseIdx]
    by_cases h2 : j < i
    · rw [if_pos h2, if_pos h2]
    · rw [if_neg h2, if_neg h2, if_pos (by omega)]
  · rw [List.getElem?_append_right (by omega), hl, if_neg (show ¬ j < i by omega), if_neg (by omega)]
    rw [show j - (L.length - 1) = 0 by omega, List.getElem?_eq_getElem hi]
    rfl
theorem toEnd_length {α : Type} (L : List α) (i : Nat) (hi : i < L.length) : (toEnd L i).length = L.length := by
  unfold toEnd
  rw [List.length_append, List.length_eraseIdx, List.getElem?_eq_getElem hi]
  simp [hi]
  omega
theorem hold_close {w w3 : World} {F : Nat → Prop} {b g cap : Nat} {n : Int} {L : List S24} {D : DataW Unit} {M bm : Nat} {cur cur3 : Array Value} {i : Nat} (hi : i < L.length) (h1 : Blk w b #[.int .i64 n, .slice (some ⟨g, 0, none⟩) L.length cap, .map (some bm)] 48)
    (h2 : Kd.R k24 24 w 0 F (.slice (some ⟨g, 0, none⟩) L.length cap) L) (h3 : w.ownsMap Try.prog 53 (unitElem (H := Unit)) bm M D) (h4 : F b) (h5 : F bm) (h6 : ∀ k, F k → k < w.heap.size) (hg : Blk w g cur 24) (hc : L.length ≤ cap) (hm : cap ≤ 9223372036854775807) (hs : cur.size = cap * 3)
    (hT : Turned (fun k => k = g) w w3) (hg3 : Blk w3 g cur3 24) (hs3 : cur3.size = cap * 3) (h : ∀ j t, j < L.length → t < 3 → cur3[j * 3 + t]? = cur[from_ L.length i j * 3 + t]?) :
    AirRep w3 F b n (toEnd L i) D M ∧ Turned F w w3 := by
  have hgb : b ≠ g := by
    rintro rfl
    unfold Blk at h1 hg
    rw [h1] at hg
    cases hg
  have hFg : F g := h2.1 g rfl
  have hTF : Turned F w w3 := hT.mono (fun k hk => by rw [hk]; exact hFg)
  obtain ⟨es, clock, hmm, hrest⟩ := h3
  have hmg : bm ≠ g := by
    rintro rfl
    unfold Blk at hg
    rw [hg] at hmm
    cases hmm
  have hl : (toEnd L i).length = L.length := toEnd_length L i hi
  refine ⟨⟨.slice (some ⟨g, 0, none⟩) (toEnd L i).length cap, bm, ?_, ?_, ⟨es, clock, (hT.block bm (blk_lt hmm) hmg).trans hmm, hrest⟩, h4, h5, fun k hk => Nat.lt_of_lt_of_le (h6 k hk) hT.size⟩, hTF⟩
  · rw [hl]
    exact hT.blk h1 hgb
  · obtain ⟨_, inner, hown, hr⟩ := h2
    have hinner : cur.toList.take (L.length * 3) = inner := by
      rcases hown.2 with ⟨e, _⟩ | ⟨g', cap', cur', e, _, q1, q2, q3, q4, q5⟩
      · cases e
      · injection e with e1 e2 e3
        injection e1 with e1
        injection e1 with e1
        subst e1; subst e3
        unfold Blk at hg
        rw [hg] at q1
        injection q1 with q1
        injection q1 with q1
        subst q1
        exact q5
    have hr3 : Reps (k24.M w3 0 (fun k => F k ∧ some k ≠ (Value.slice (some ⟨g, 0, none⟩) (toEnd L i).length cap).ownBlock)) 3 L inner :=
      hr.imp_ (fun _ _ hp => k24.M_mono (fun _ hk => hk) (Kd.M_step hp (fun k hk hlt => hT.block k hlt (fun e => hk.2 (by rw [e]; rfl)))))
    refine ⟨fun k hk => by injection hk with hk; rw [← hk]; exact hFg, cur3.toList.take (L.length * 3), ?_, ?_⟩
    · refine ⟨by rw [List.length_take, Array.length_toList, hl]; show min (L.length * 3) cur3.size = L.length * 3; omega, .inr ⟨g, cap, cur3, by rw [hl], Nat.zero_le _, hg3, by rw [hl]; exact hc, hm, hs3, by rw [hl]; rfl⟩⟩
    · refine reps_perm hr3 hl (from_ L.length i) (fun j hj => toEnd_at L i hi j hj) ?_ ?_
      · rw [← hinner]; simp only [List.length_take, Array.length_toList, hs, hs3]
      · intro j t hj ht
        have hfr : from_ L.length i j < L.length := by unfold from_; split <;> (try split) <;> omega
        rw [← hinner, List.getElem?_take, List.getElem?_take, if_pos (by omega), if_pos (by omega), Array.getElem?_toList, Array.getElem?_toList]
        exact h j t hj ht

theorem moved_dummy : True := trivial
/-- The cells that go down by one element. -/
def moved (cur : Array Value) (n i : Nat) : List Value := (cur.toList.drop ((i + 1) * 3)).take ((n - (i + 1)) * 3)
theorem moved_len {cur : Array Value} {cap n i : Nat} (hs : cur.size = cap * 3) (hc : n ≤ cap) (hi : i < n) : (moved cur n i).length = (n - (i + 1)) * 3 := by
  unfold moved
  rw [List.length_take, List.length_drop, Array.length_toList]
  omega
theorem moved_length {cur : Array Value} {cap n : Nat} (hs : cur.size = cap * 3) (hc : n ≤ cap) (i : Nat) (hi : i < n) : (moved cur n i).length = Nat.min (n - (i + 1)) (n - i) * 3 := by
  rw [moved_len hs hc hi, show Nat.min (n - (i + 1)) (n - i) = n - (i + 1) from Nat.min_eq_left (by omega)]
theorem moved_fits {cur : Array Value} {cap n : Nat} (hs : cur.size = cap * 3) (hc : n ≤ cap) (i : Nat) (hi : i < n) : i * 3 + (moved cur n i).length ≤ cur.size := by
  rw [moved_len hs hc hi]
  omega
theorem moved_size {cur : Array Value} {cap n : Nat} (hs : cur.size = cap * 3) (hc : n ≤ cap) (i : Nat) (hi : i < n) : (cur.toList.take (i * 3) ++ (moved cur n i ++ cur.toList.drop (i * 3 + (moved cur n i).length))).toArray.size = cap * 3 := by
  have h := moved_len hs hc hi
  rw [List.size_toArray, List.length_append, List.length_append, List.length_take, List.length_drop, Array.length_toList, h]
  omega
theorem moved_all {cur : Array Value} {cap n : Nat} (hs : cur.size = cap * 3) (hc : n ≤ cap) (i : Nat) (hi : i < n) : ∀ m, m < n * 3 → (cur.toList.take (i * 3) ++ (moved cur n i ++ cur.toList.drop (i * 3 + (moved cur n i).length))).toArray[m]? = if m < i * 3 then cur[m]? else if m < (n - 1) * 3 then cur[m + 3]? else cur[m]? := by
  have h := moved_len hs hc hi
  intro m hm
  have ht : (cur.toList.take (i * 3)).length = i * 3 := by rw [List.length_take, Array.length_toList]; omega
  rw [List.getElem?_toArray]
  by_cases h1 : m < i * 3
  · rw [if_pos h1, List.getElem?_append_left (by omega), List.getElem?_take, if_pos h1, Array.getElem?_toList]
  · rw [if_neg h1, List.getElem?_append_right (by omega), ht]
    by_cases h2 : m < (n - 1) * 3
    · rw [if_pos h2, List.getElem?_append_left (by omega)]
      unfold moved
      rw [List.getElem?_take, if_pos (by omega), List.getElem?_drop, Array.getElem?_toList, show (i + 1) * 3 + (m - i * 3) = m + 3 by omega]
    · rw [if_neg h2, List.getElem?_append_right (by omega), List.getElem?_drop, Array.getElem?_toList, h, show i * 3 + (n - (i + 1)) * 3 + (m - i * 3 - (n - (i + 1)) * 3) = m by omega]
theorem hold_cells {cur cur2 : Array Value} {cap n i : Nat} (hi : i < n) (hc : n ≤ cap) (hs : cur2.size = cap * 3) (hat : ∀ m, m < n * 3 → cur2[m]? = if m < i * 3 then cur[m]? else if m < (n - 1) * 3 then cur[m + 3]? else cur[m]?) {c0 c1 c2 : Value} (e0 : cur[i * 3]? = some c0) (e1 : cur[i * 3 + 1]? = some c1) (e2 : cur[i * 3 + 2]? = some c2) :
    ∀ j t, j < n → t < 3 → (((cur2.setIfInBounds ((n - 1) * 3) c0).setIfInBounds ((n - 1) * 3 + 1) c1).setIfInBounds ((n - 1) * 3 + 2) c2)[j * 3 + t]? = cur[from_ n i j * 3 + t]? := by
  intro j t hj ht
  simp only [Array.getElem?_setIfInBounds, Array.size_setIfInBounds]
  by_cases hl : j + 1 = n
  · have hf : from_ n i j = i := by unfold from_; rw [if_neg (by omega), if_neg (by omega)]
    rw [hf]
    match t, ht with
    | 0, _ => rw [if_neg (by omega), if_neg (by omega), if_pos (by omega), if_pos (by omega), Nat.add_zero, e0]
    | 1, _ => rw [if_neg (by omega), if_pos (by omega), if_pos (by omega), e1]
    | 2, _ => rw [if_pos (by omega), if_pos (by omega), e2]
  · rw [if_neg (by omega), if_neg (by omega), if_neg (by omega), hat _ (by omega)]
    by_cases h1 : j < i
    · have hf : from_ n i j = j := by unfold from_; rw [if_pos h1]
      rw [hf, if_pos (by omega)]
    · have hf : from_ n i j = j + 1 := by unfold from_; rw [if_neg h1, if_pos (by omega)]
      rw [hf, if_neg (by omega), if_pos (by omega), show j * 3 + t + 3 = (j + 1) * 3 + t by omega]
theorem moved_at {cur : Array Value} {n i j : Nat} {u : Value} (h : (moved cur n i)[j]? = some u) : cur[(i + 1) * 3 + j]? = some u ∧ (i + 1) * 3 + j < n * 3 := by
  unfold moved at h
  rw [List.getElem?_take] at h
  split at h
  · rw [List.getElem?_drop] at h
    exact ⟨by simpa using h, by omega⟩
  · cases h
theorem moved_reads {w : World} {g n : Nat} {cur : Array Value} (h : Blk w g cur 24) (i : Nat) : ∀ j v, (moved cur n i)[j]? = some v → w.drew.cell? ((⟨g, (i + 1) * 3, none⟩ : Addr).add j) = some v := by
  intro j v hj
  have h1 := (moved_at hj).1
  have h2 : w.cell? ⟨g, (i + 1) * 3 + j, none⟩ = some v := (Blk.cell h _).trans h1
  rw [show (⟨g, (i + 1) * 3, none⟩ : Addr).add j = ⟨g, (i + 1) * 3 + j, none⟩ from by unfold Addr.add; split <;> simp_all]
  exact h2
theorem moved_none {w : World} {ad : Addr} {cap n i : Nat} {cur : Array Value} (h : cap = i + 1) (hc : n ≤ cap) : ∀ j v, (moved cur n i)[j]? = some v → w.cell? (ad.add j) = some v := by
  intro j v hj
  have := (moved_at hj).2
  omega
theorem reps_one {α : Type} {R : α → List Value → Prop} {L : List α} {inner : List Value} (h : Reps R 3 L inner) (hR : ∀ p c, R p c → ∀ u ∈ c, u.oneCell' = true) : ∀ u ∈ inner, u.oneCell' = true := by
  intro u hu
  obtain ⟨m, hm, rfl⟩ := List.getElem_of_mem hu
  have hl := h.1
  have hq : m / 3 < L.length := by omega
  refine hR _ _ (h.2 (m / 3) _ (List.getElem?_eq_getElem hq)) _ (List.mem_iff_getElem?.2 ⟨m % 3, ?_⟩)
  rw [List.getElem?_take, if_pos (by omega), List.getElem?_drop, show m / 3 * 3 + m % 3 = m by omega, List.getElem?_eq_getElem hm]
theorem moved_one {w : World} {g cap : Nat} {F : Nat → Prop} {cur : Array Value} {L : List S24} (h : Kd.R k24 24 w 0 F (.slice (some ⟨g, 0, none⟩) L.length cap) L) (hg : Blk w g cur 24) (i : Nat) : ∀ v ∈ moved cur L.length i, v.oneCell' = true := by
  intro v hv
  obtain ⟨_, inner, hown, hr⟩ := h
  obtain ⟨j, hj⟩ := List.mem_iff_getElem?.1 hv
  obtain ⟨h1, h2⟩ := moved_at hj
  refine reps_one hr (fun p c hp => k24.K_one (k24.K_of_M hp)) v (List.mem_iff_getElem?.2 ⟨(i + 1) * 3 + j, ?_⟩)
  · rcases hown.2 with ⟨e, _⟩ | ⟨g', cap', cur', e, _, q1, q2, q3, q4, q5⟩
    · cases e
    · injection e with e1 e2 e3
      injection e1 with e1
      injection e1 with e1
      subst e1; subst e3
      unfold Blk at hg
      rw [hg] at q1
      injection q1 with q1
      injection q1 with q1
      subst q1
      rw [← q5, List.getElem?_take, if_pos (show (i + 1) * 3 + j < L.length * k24.sz from h2), Array.getElem?_toList]
      exact h1

set_option maxHeartbeats 4000000 in
set_option maxRecDepth 100000 in
theorem hold_ok {w : World} {F : Nat → Prop} {b : Nat} {n : Int} {L : List S24} {D : DataW Unit} {M : Nat} (h : AirRep w F b n L D M) (i : Nat) (hi : i < L.length) :
    Calls Try.prog 13 #[.pointer (some ⟨b, 0, none⟩), .int .i64 i] w fun e w' => e = .returned (.bool true) ∧ AirRep w' F b n (toEnd L i) D M ∧ Turned F w w' := by
  have HA := Aside0.mk h
  obtain ⟨v, bm, h1, h2, h3, h4, h5, h6⟩ := h
  obtain ⟨inner, hown⟩ := Kd.R_own h2
  obtain ⟨g, cap, cur, rfl, hgg, hcap, hsz, htake, hFg, hcm⟩ : ∃ g cap cur, v = .slice (some ⟨g, 0, none⟩) L.length cap ∧ Blk w g cur 24 ∧ L.length ≤ cap ∧ cur.size = cap * 3 ∧ cur.toList.take (L.length * 3) = inner ∧ F g ∧ cap ≤ 9223372036854775807 := by
    rcases hown.2 with ⟨e, e2⟩ | ⟨g', cap', cur, e, _, q1, q2, q3, q4, q5⟩
    · omega
    · exact ⟨g', cap', cur, e, q1, q2, q4, q5, h2.1 g' (by rw [e]; rfl), q3⟩
  have hgb : b ≠ g := by
    rintro rfl
    unfold Blk at h1 hgg
    rw [h1] at hgg
    cases hgg
  have h10 : World.cell? w ⟨b, 0, none⟩ = some (.int .i64 n) := Blk.cell h1 0
  have h1f0 : World.frozen? w ⟨b, 0, none⟩ = false := Blk.free h1 0
  have h11 : World.cell? w ⟨b, 1, none⟩ = some (.slice (some ⟨g, 0, none⟩) L.length cap) := Blk.cell h1 1
  have h1f1 : World.frozen? w ⟨b, 1, none⟩ = false := Blk.free h1 1
  have h12 : World.cell? w ⟨b, 2, none⟩ = some (.map (some bm)) := Blk.cell h1 2
  have h1f2 : World.frozen? w ⟨b, 2, none⟩ = false := Blk.free h1 2
  have hbn : b < w.heap.size := h1.lt
  have hgn : g < w.heap.size := hgg.lt
  obtain ⟨x, A2, c2, hx, z0, z1, z2⟩ : ∃ x A2 c2, x = rd_T24 L i ∧ w.cell? ⟨g, i * 3, none⟩ = some (.int .i64 x.f0) ∧ w.cell? ⟨g, i * 3 + 1, none⟩ = some (.int .i64 x.f1) ∧ w.cell? ⟨g, i * 3 + 2, none⟩ = some (.slice A2 x.f2.length c2) := by
    obtain ⟨A3, c3, e, _, hC⟩ := Kd.R_reads h2
    injection e with e1 e2 e3
    subst e1
    obtain ⟨ad, A2, c2, e, hy0, hy1, hy2, _, _⟩ := at_T24 hC (i : Int) (by omega) (by omega)
    injection e with e
    subst e
    rw [Int.toNat_natCast] at hy0 hy1 hy2
    rw [add_plain] at hy0 hy1 hy2
    exact ⟨_, A2, c2, rfl, hy0, hy1, hy2⟩
  have HX := Aside0.mk hx
  have HZE := Aside0.mk (show cur[i * 3]? = some (.int .i64 x.f0) ∧ cur[i * 3 + 1]? = some (.int .i64 x.f1) ∧ cur[i * 3 + 2]? = some (.slice A2 x.f2.length c2) from ⟨(Blk.cell hgg _).symm.trans z0, (Blk.cell hgg _).symm.trans z1, (Blk.cell hgg _).symm.trans z2⟩)
  clear hx
  by_cases hcp : cap = i + 1
  · have HCP := Aside0.mk hcp
    clear hcp
    go_enter Try.func13, Try.ntmps13
    go_wp2_with (go_at_call 9; refine (count_any HA.out).mono ?_; rintro e w' ⟨rfl, rfl⟩)
    have hg1 := hgg.alloc (.cells #[.int .i64 x.f0, .int .i64 x.f1, .slice A2 x.f2.length c2] 24)
    have hb1 := h1.alloc (.cells #[.int .i64 x.f0, .int .i64 x.f1, .slice A2 x.f2.length c2] 24)
    have hx1 := Blk.new w #[.int .i64 x.f0, .int .i64 x.f1, .slice A2 x.f2.length c2] 24
    have hT1 : Turned (fun k => k = g) w (w.alloc (.cells #[.int .i64 x.f0, .int .i64 x.f1, .slice A2 x.f2.length c2] 24)) := (Turned.refl _ w).alloc _
    obtain ⟨N, hN⟩ : ∃ N, N = w.heap.size := ⟨_, rfl⟩
    rw [← hN] at hx1 hbn hgn ⊢
    generalize w.alloc (.cells #[.int .i64 x.f0, .int .i64 x.f1, .slice A2 x.f2.length c2] 24) = w1 at hg1 hb1 hx1 hT1 ⊢
    have HG := Aside0.mk hgg
    have H1 := Aside0.mk h1
    have H2 := Aside0.mk h2
    have H3 := Aside0.mk h3
    have H6 := Aside0.mk h6
    have HT := Aside0.mk htake
    have HS := Aside0.mk hsz
    have HN := Aside0.mk hN
    have HOW := Aside0.mk hown
    have HT1 := Aside0.mk hT1
    clear h10 h11 h12 h1f0 h1f1 h1f2 z0 z1 z2 hgg h1 h2 h3 h6 htake hsz hN hown hT1
    have hb10 : World.cell? w1 ⟨b, 0, none⟩ = some (.int .i64 n) := Blk.cell hb1 0
    have hb11 : World.cell? w1 ⟨b, 1, none⟩ = some (.slice (some ⟨g, 0, none⟩) L.length cap) := Blk.cell hb1 1
    have hb12 : World.cell? w1 ⟨b, 2, none⟩ = some (.map (some bm)) := Blk.cell hb1 2
    have HG1 := Aside0.mk hg1
    have HB1 := Aside0.mk hb1
    have HX1 := Aside0.mk hx1
    clear hg1 hb1 hx1
    have hcs := moved_length HS.out hcap i hi
    have HCS := Aside0.mk hcs
    have HON := Aside0.mk (moved_one H2.out HG.out i)
    clear hcs
    have hne1 : ¬ cap = i := by omega
    have hne2 := eq_true HCP.out
    have hle1 : (i : Int) + 1 ≤ L.length := by omega
    have hle3 : i ≤ L.length := by omega
    have hle4 : i + 1 ≤ L.length := by omega
    have hle5 : 0 ≤ (i : Int) + 1 := by omega
    have hwr : IntKind.i64.wrap ((i : Int) + 1) = (i : Int) + 1 := IntWalk.i64_in _ (by omega)
    have hle2 : ((i : Int) + 1).toNat = i + 1 := by omega
    go_region_law (refine step_copy_cells (w := w1.drew) rfl (.tmp 26) (.tmp 33) 44 44 rfl 24 3 Try.underlying44 (by kernel_rfl) g (i * 3) (L.length - i) (cap - i) ⟨g, 0, none⟩ (L.length - (i + 1)) (cap - (i + 1)) (by simp [Act.eval, Act.put]) (by simp [Act.eval, Act.put]) cur 24 HG1.out (moved cur L.length i) HCS.out (moved_none HCP.out hcap) (moved_fits HS.out hcap i hi) HON.out ?_)
    all_goals
      have hT2 : Turned (fun k => k = g) w (w1.drew.setRow g ((cur.toList.take (i * 3) ++ (moved cur L.length i ++ cur.toList.drop (i * 3 + (moved cur L.length i).length))).toArray)) := Turned.setRow (S := fun k => k = g) HT1.out.drew (.inl rfl) _
      have hg2 : Blk (w1.drew.setRow g ((cur.toList.take (i * 3) ++ (moved cur L.length i ++ cur.toList.drop (i * 3 + (moved cur L.length i).length))).toArray)) g ((cur.toList.take (i * 3) ++ (moved cur L.length i ++ cur.toList.drop (i * 3 + (moved cur L.length i).length))).toArray) 24 := Blk.setRow (w := w1.drew) HG1.out _
      have hb2 : Blk (w1.drew.setRow g ((cur.toList.take (i * 3) ++ (moved cur L.length i ++ cur.toList.drop (i * 3 + (moved cur L.length i).length))).toArray)) b #[.int .i64 n, .slice (some ⟨g, 0, none⟩) L.length cap, .map (some bm)] 48 := Blk.rowFar (w := w1.drew) HB1.out hgb _
      have hx2 : Blk (w1.drew.setRow g ((cur.toList.take (i * 3) ++ (moved cur L.length i ++ cur.toList.drop (i * 3 + (moved cur L.length i).length))).toArray)) N #[.int .i64 x.f0, .int .i64 x.f1, .slice A2 x.f2.length c2] 24 := Blk.rowFar (w := w1.drew) HX1.out (by omega) _
      generalize w1.drew.setRow g ((cur.toList.take (i * 3) ++ (moved cur L.length i ++ cur.toList.drop (i * 3 + (moved cur L.length i).length))).toArray) = w2 at hT2 hg2 hb2 hx2 ⊢
      have hsc := moved_size HS.out hcap i hi
      have hat := moved_all HS.out hcap i hi
      generalize (cur.toList.take (i * 3) ++ (moved cur L.length i ++ cur.toList.drop (i * 3 + (moved cur L.length i).length))).toArray = cur2 at hg2 hsc hat
      obtain ⟨y0, y1, y2, e0, e1, e2⟩ : ∃ y0 y1 y2, cur2[(L.length - 1) * 3]? = some y0 ∧ cur2[(L.length - 1) * 3 + 1]? = some y1 ∧ cur2[(L.length - 1) * 3 + 2]? = some y2 :=
        ⟨_, _, _, Array.getElem?_eq_getElem (by omega), Array.getElem?_eq_getElem (by omega), Array.getElem?_eq_getElem (by omega)⟩
      have z0 : w2.cell? ⟨g, (L.length - 1) * 3, none⟩ = some y0 := (Blk.cell hg2 _).trans e0
      have z1 : w2.cell? ⟨g, (L.length - 1) * 3 + 1, none⟩ = some y1 := (Blk.cell hg2 _).trans e1
      have z2 : w2.cell? ⟨g, (L.length - 1) * 3 + 2, none⟩ = some y2 := (Blk.cell hg2 _).trans e2
      have f0 : w2.frozen? ⟨g, (L.length - 1) * 3, none⟩ = false := Blk.free hg2 _
      have f1 : w2.frozen? ⟨g, (L.length - 1) * 3 + 1, none⟩ = false := Blk.free hg2 _
      have f2 : w2.frozen? ⟨g, (L.length - 1) * 3 + 2, none⟩ = false := Blk.free hg2 _
      have hT2' := Aside0.mk hT2
      have hG2' := Aside0.mk hg2
      have hSC' := Aside0.mk hsc
      have hAT' := Aside0.mk hat
      clear hT2 hg2 hsc hat e0 e1 e2 hb10 hb11 hb12 HG1 HB1 HX1 HT1 HCS HON hne1 hne2 hle1 hle2 hle3 hle4 hle5 hwr
      have hb20 : World.cell? w2 ⟨b, 0, none⟩ = some (.int .i64 n) := Blk.cell hb2 0
      have hb21 : World.cell? w2 ⟨b, 1, none⟩ = some (.slice (some ⟨g, 0, none⟩) L.length cap) := Blk.cell hb2 1
      have hb22 : World.cell? w2 ⟨b, 2, none⟩ = some (.map (some bm)) := Blk.cell hb2 2
      have hx20 : World.cell? w2 ⟨N, 0, none⟩ = some (.int .i64 x.f0) := Blk.cell hx2 0
      have hx21 : World.cell? w2 ⟨N, 1, none⟩ = some (.int .i64 x.f1) := Blk.cell hx2 1
      have hx22 : World.cell? w2 ⟨N, 2, none⟩ = some (.slice A2 x.f2.length c2) := Blk.cell hx2 2
      clear hb2 hx2
      have hw1 : IntKind.i64.wrap ((L.length : Int) - 1) = (L.length : Int) - 1 := IntWalk.i64_in _ (by omega)
      have hw2 : 0 ≤ (L.length : Int) - 1 := by omega
      have hw3 : (L.length : Int) - 1 < L.length := by omega
      have hw4 : ((L.length : Int) - 1).toNat = L.length - 1 := by omega
      go_wp2
      go_region
      go_wp2
      go_ret
      obtain ⟨ze0, ze1, ze2⟩ := HZE.out
      obtain ⟨k1, k2⟩ := hold_close (cur3 := ((cur2.setIfInBounds ((L.length - 1) * 3) (.int .i64 x.f0)).setIfInBounds ((L.length - 1) * 3 + 1) (.int .i64 x.f1)).setIfInBounds ((L.length - 1) * 3 + 2) (.slice A2 x.f2.length c2)) (i := i) (by omega) H1.out H2.out H3.out h4 h5 H6.out HG.out hcap hcm HS.out
        (Turned.drew (Turned.setCell (Turned.setCell (Turned.setCell hT2'.out (.inl rfl) (.int .i64 x.f0) (p := ⟨g, (L.length - 1) * 3, none⟩)) (.inl rfl) (.int .i64 x.f1) (p := ⟨g, (L.length - 1) * 3 + 1, none⟩)) (.inl rfl) (.slice A2 x.f2.length c2) (p := ⟨g, (L.length - 1) * 3 + 2, none⟩)))
        (((hG2'.out.set _ _).set _ _).set _ _) (by simpa using hSC'.out) (hold_cells hi hcap hSC'.out hAT'.out ze0 ze1 ze2)
      exact ⟨rfl, k1, k2⟩
  · have HCP := Aside0.mk hcp
    clear hcp
    go_enter Try.func13, Try.ntmps13
    go_wp2_with (go_at_call 9; refine (count_any HA.out).mono ?_; rintro e w' ⟨rfl, rfl⟩)
    have hg1 := hgg.alloc (.cells #[.int .i64 x.f0, .int .i64 x.f1, .slice A2 x.f2.length c2] 24)
    have hb1 := h1.alloc (.cells #[.int .i64 x.f0, .int .i64 x.f1, .slice A2 x.f2.length c2] 24)
    have hx1 := Blk.new w #[.int .i64 x.f0, .int .i64 x.f1, .slice A2 x.f2.length c2] 24
    have hT1 : Turned (fun k => k = g) w (w.alloc (.cells #[.int .i64 x.f0, .int .i64 x.f1, .slice A2 x.f2.length c2] 24)) := (Turned.refl _ w).alloc _
    obtain ⟨N, hN⟩ : ∃ N, N = w.heap.size := ⟨_, rfl⟩
    rw [← hN] at hx1 hbn hgn ⊢
    generalize w.alloc (.cells #[.int .i64 x.f0, .int .i64 x.f1, .slice A2 x.f2.length c2] 24) = w1 at hg1 hb1 hx1 hT1 ⊢
    have HG := Aside0.mk hgg
    have H1 := Aside0.mk h1
    have H2 := Aside0.mk h2
    have H3 := Aside0.mk h3
    have H6 := Aside0.mk h6
    have HT := Aside0.mk htake
    have HS := Aside0.mk hsz
    have HN := Aside0.mk hN
    have HOW := Aside0.mk hown
    have HT1 := Aside0.mk hT1
    clear h10 h11 h12 h1f0 h1f1 h1f2 z0 z1 z2 hgg h1 h2 h3 h6 htake hsz hN hown hT1
    have hb10 : World.cell? w1 ⟨b, 0, none⟩ = some (.int .i64 n) := Blk.cell hb1 0
    have hb11 : World.cell? w1 ⟨b, 1, none⟩ = some (.slice (some ⟨g, 0, none⟩) L.length cap) := Blk.cell hb1 1
    have hb12 : World.cell? w1 ⟨b, 2, none⟩ = some (.map (some bm)) := Blk.cell hb1 2
    have HG1 := Aside0.mk hg1
    have HB1 := Aside0.mk hb1
    have HX1 := Aside0.mk hx1
    clear hg1 hb1 hx1
    have hcs := moved_length HS.out hcap i hi
    have HCS := Aside0.mk hcs
    have HON := Aside0.mk (moved_one H2.out HG.out i)
    clear hcs
    have hne1 : ¬ cap = i := by omega
    have hne2 : ¬ cap = i + 1 := HCP.out
    have hle1 : (i : Int) + 1 ≤ L.length := by omega
    have hle3 : i ≤ L.length := by omega
    have hle4 : i + 1 ≤ L.length := by omega
    have hle5 : 0 ≤ (i : Int) + 1 := by omega
    have hwr : IntKind.i64.wrap ((i : Int) + 1) = (i : Int) + 1 := IntWalk.i64_in _ (by omega)
    have hle2 : ((i : Int) + 1).toNat = i + 1 := by omega
    go_region_law (refine step_copy_cells (w := w1.drew) rfl (.tmp 26) (.tmp 33) 44 44 rfl 24 3 Try.underlying44 (by kernel_rfl) g (i * 3) (L.length - i) (cap - i) ⟨g, (i + 1) * 3, none⟩ (L.length - (i + 1)) (cap - (i + 1)) (by simp [Act.eval, Act.put]) (by simp [Act.eval, Act.put]) cur 24 HG1.out (moved cur L.length i) HCS.out (moved_reads HG1.out i) (moved_fits HS.out hcap i hi) HON.out ?_)
    all_goals
      have hT2 : Turned (fun k => k = g) w (w1.drew.setRow g ((cur.toList.take (i * 3) ++ (moved cur L.length i ++ cur.toList.drop (i * 3 + (moved cur L.length i).length))).toArray)) := Turned.setRow (S := fun k => k = g) HT1.out.drew (.inl rfl) _
      have hg2 : Blk (w1.drew.setRow g ((cur.toList.take (i * 3) ++ (moved cur L.length i ++ cur.toList.drop (i * 3 + (moved cur L.length i).length))).toArray)) g ((cur.toList.take (i * 3) ++ (moved cur L.length i ++ cur.toList.drop (i * 3 + (moved cur L.length i).length))).toArray) 24 := Blk.setRow (w := w1.drew) HG1.out _
      have hb2 : Blk (w1.drew.setRow g ((cur.toList.take (i * 3) ++ (moved cur L.length i ++ cur.toList.drop (i * 3 + (moved cur L.length i).length))).toArray)) b #[.int .i64 n, .slice (some ⟨g, 0, none⟩) L.length cap, .map (some bm)] 48 := Blk.rowFar (w := w1.drew) HB1.out hgb _
      have hx2 : Blk (w1.drew.setRow g ((cur.toList.take (i * 3) ++ (moved cur L.length i ++ cur.toList.drop (i * 3 + (moved cur L.length i).length))).toArray)) N #[.int .i64 x.f0, .int .i64 x.f1, .slice A2 x.f2.length c2] 24 := Blk.rowFar (w := w1.drew) HX1.out (by omega) _
      generalize w1.drew.setRow g ((cur.toList.take (i * 3) ++ (moved cur L.length i ++ cur.toList.drop (i * 3 + (moved cur L.length i).length))).toArray) = w2 at hT2 hg2 hb2 hx2 ⊢
      have hsc := moved_size HS.out hcap i hi
      have hat := moved_all HS.out hcap i hi
      generalize (cur.toList.take (i * 3) ++ (moved cur L.length i ++ cur.toList.drop (i * 3 + (moved cur L.length i).length))).toArray = cur2 at hg2 hsc hat
      obtain ⟨y0, y1, y2, e0, e1, e2⟩ : ∃ y0 y1 y2, cur2[(L.length - 1) * 3]? = some y0 ∧ cur2[(L.length - 1) * 3 + 1]? = some y1 ∧ cur2[(L.length - 1) * 3 + 2]? = some y2 :=
        ⟨_, _, _, Array.getElem?_eq_getElem (by omega), Array.getElem?_eq_getElem (by omega), Array.getElem?_eq_getElem (by omega)⟩
      have z0 : w2.cell? ⟨g, (L.length - 1) * 3, none⟩ = some y0 := (Blk.cell hg2 _).trans e0
      have z1 : w2.cell? ⟨g, (L.length - 1) * 3 + 1, none⟩ = some y1 := (Blk.cell hg2 _).trans e1
      have z2 : w2.cell? ⟨g, (L.length - 1) * 3 + 2, none⟩ = some y2 := (Blk.cell hg2 _).trans e2
      have f0 : w2.frozen? ⟨g, (L.length - 1) * 3, none⟩ = false := Blk.free hg2 _
      have f1 : w2.frozen? ⟨g, (L.length - 1) * 3 + 1, none⟩ = false := Blk.free hg2 _
      have f2 : w2.frozen? ⟨g, (L.length - 1) * 3 + 2, none⟩ = false := Blk.free hg2 _
      have hT2' := Aside0.mk hT2
      have hG2' := Aside0.mk hg2
      have hSC' := Aside0.mk hsc
      have hAT' := Aside0.mk hat
      clear hT2 hg2 hsc hat e0 e1 e2 hb10 hb11 hb12 HG1 HB1 HX1 HT1 HCS HON hne1 hne2 hle1 hle2 hle3 hle4 hle5 hwr
      have hb20 : World.cell? w2 ⟨b, 0, none⟩ = some (.int .i64 n) := Blk.cell hb2 0
      have hb21 : World.cell? w2 ⟨b, 1, none⟩ = some (.slice (some ⟨g, 0, none⟩) L.length cap) := Blk.cell hb2 1
      have hb22 : World.cell? w2 ⟨b, 2, none⟩ = some (.map (some bm)) := Blk.cell hb2 2
      have hx20 : World.cell? w2 ⟨N, 0, none⟩ = some (.int .i64 x.f0) := Blk.cell hx2 0
      have hx21 : World.cell? w2 ⟨N, 1, none⟩ = some (.int .i64 x.f1) := Blk.cell hx2 1
      have hx22 : World.cell? w2 ⟨N, 2, none⟩ = some (.slice A2 x.f2.length c2) := Blk.cell hx2 2
      clear hb2 hx2
      have hw1 : IntKind.i64.wrap ((L.length : Int) - 1) = (L.length : Int) - 1 := IntWalk.i64_in _ (by omega)
      have hw2 : 0 ≤ (L.length : Int) - 1 := by omega
      have hw3 : (L.length : Int) - 1 < L.length := by omega
      have hw4 : ((L.length : Int) - 1).toNat = L.length - 1 := by omega
      go_wp2
      go_region
      go_wp2
      go_ret
      obtain ⟨ze0, ze1, ze2⟩ := HZE.out
      obtain ⟨k1, k2⟩ := hold_close (cur3 := ((cur2.setIfInBounds ((L.length - 1) * 3) (.int .i64 x.f0)).setIfInBounds ((L.length - 1) * 3 + 1) (.int .i64 x.f1)).setIfInBounds ((L.length - 1) * 3 + 2) (.slice A2 x.f2.length c2)) (i := i) (by omega) H1.out H2.out H3.out h4 h5 H6.out HG.out hcap hcm HS.out
        (Turned.drew (Turned.setCell (Turned.setCell (Turned.setCell hT2'.out (.inl rfl) (.int .i64 x.f0) (p := ⟨g, (L.length - 1) * 3, none⟩)) (.inl rfl) (.int .i64 x.f1) (p := ⟨g, (L.length - 1) * 3 + 1, none⟩)) (.inl rfl) (.slice A2 x.f2.length c2) (p := ⟨g, (L.length - 1) * 3 + 2, none⟩)))
        (((hG2'.out.set _ _).set _ _).set _ _) (by simpa using hSC'.out) (hold_cells hi hcap hSC'.out hAT'.out ze0 ze1 ze2)
      exact ⟨rfl, k1, k2⟩
end Go.Proofs.Ytikfelmmelkioaa.Mine
