/- space: the document's cells: New, right, all, put. -/
import Derived.Test.YtdcccimdgbkniaaSpF
set_option linter.unusedSimpArgs false
set_option linter.unusedVariables false
namespace Go.Proofs.Ytdcccimdgbkniaa.Mine
open Go.RowKit Go.Maps Go.Proofs.YtdcccimdgbkniaaW.PrintWords Go.Proofs.YtdcccimdgbkniaaW.PrintLast Go.Proofs.YtdcccimdgbkniaaW.PrintMore Go.Proofs.Ytdcccimdgbkniaa.Turn

theorem binfo4 : (Try.prog.info? 4).map (fun i => (i.zero, i.size, i.bytes)) = some (some (.bool false), 1, 1) := by kernel_rfl
def encB (t : List Bool) : Array Value := (t.map Value.bool).toArray
theorem encB_size (t : List Bool) : (encB t).size = t.length := by simp [encB]
theorem encB_get {t : List Bool} {k : Nat} (h : k < t.length) : (encB t)[k]? = some (.bool t[k]) := by simp [encB, h]
theorem encB_set (t : List Bool) (k : Nat) (v : Bool) : (encB t).setIfInBounds k (.bool v) = encB (t.set k v) := by
  simp [encB, List.map_set]
theorem made_bools (n : Nat) : madeCells (Value.bool false).cells (n * 1) = encB (List.replicate n false) := by
  apply Array.ext
  · simp [encB, madeCells]
  · intro i h1 h2
    simp [encB, madeCells, Value.cells, Nat.mod_one]
theorem run_make_bools (n : Nat) (hn : n ≤ 65536) (W : World) : (Instr.makeSlice 51 (.int .i64 n) (.int .i64 n)).run Try.prog W = .ok (.slice (some ⟨W.heap.size, 0, none⟩) n n) (W.alloc (.cells (encB (List.replicate n false)) 4)) := by
  obtain ⟨i0, hi, hzz⟩ := Option.map_eq_some_iff.1 binfo4
  simp only [Prod.mk.injEq] at hzz
  obtain ⟨hz0, hz1, hz2⟩ := hzz
  rw [run_make W 51 4 i0 (.bool false) Try.underlying51 hi hz0 .i64 .i64 n n (by omega) (by omega) (by rw [hz2]; omega) (by omega), hz1]
  rw [← made_bools]
  simp

/-- The document's space in block b: the cells t that are taken, in block g. -/
structure Rf (w : World) (base : Nat) (F : Nat → Prop) (b : Nat) (t : List Bool) : Prop where
  self : F b
  mine : ∀ k, F k → base ≤ k ∧ k < w.heap.size
  row : ∃ g, F g ∧ Blk w b #[.slice (some ⟨g, 0, none⟩) t.length t.length] 53 ∧ Blk w g (encB t) 4
section
variable {w w' : World} {base b : Nat} {F S : Nat → Prop} {t : List Bool}
theorem Rf.turn (h : Rf w base F b t) (ht : Turned S w w') (hS : ∀ k, S k → ¬ F k) : Rf w' base F b t := by
  obtain ⟨h1, h2, g, h3, h4, h5⟩ := h
  exact ⟨h1, fun k hk => ⟨(h2 k hk).1, Nat.lt_of_lt_of_le (h2 k hk).2 ht.size⟩, g, h3, ht.blk h4 (fun hs => hS b hs h1), ht.blk h5 (fun hs => hS g hs h3)⟩
theorem Rf.below (h : Rf w base F b t) (hb : Below w.heap.size w w') : Rf w' base F b t := h.turn (Turned.of_below hb (fun _ => False)) (fun _ hk => hk.elim)
theorem Rf.size (h : Rf w base F b t) : base ≤ w.heap.size := by have := h.mine b h.self; omega
end
def MadeR (w : World) (n : Nat) (e : Ending) (w' : World) : Prop := ∃ b F, e = .returned (.tuple #[.pointer (some ⟨b, 0, none⟩), .int .i64 0]) ∧ Rf w' w.heap.size F b (List.replicate n false) ∧ Below w.heap.size w w'
set_option maxHeartbeats 1000000 in
theorem rnew_neg (n : Int) (h : n < 0) (w : World) : Calls Try.prog 9 #[.int .i64 n] w fun e w' => e = .returned (.tuple #[.pointer none, .int .i64 1]) ∧ w = w' := by
  go_enter Try.func9, Try.ntmps9
  go_wp2_with fail
  go_ret2
  exact ⟨rfl, rfl⟩
set_option maxHeartbeats 1000000 in
theorem rnew_long (n : Int) (h : 65536 < n) (w : World) : Calls Try.prog 9 #[.int .i64 n] w fun e w' => e = .returned (.tuple #[.pointer none, .int .i64 2]) ∧ w = w' := by
  go_enter Try.func9, Try.ntmps9
  go_wp2_with fail
  go_ret2
  exact ⟨rfl, rfl⟩
set_option maxHeartbeats 1000000 in
theorem rnew_ok (n : Nat) (hn : n ≤ 65536) (w : World) : Calls Try.prog 9 #[.int .i64 n] w (MadeR w n) := by
  have hmk := run_make_bools n hn
  go_enter Try.func9, Try.ntmps9
  go_wp2_with fail
  go_ret2
  refine ⟨w.heap.size + 1, (fun k => k = w.heap.size ∨ k = w.heap.size + 1), rfl, ⟨.inr rfl, ?_, w.heap.size, .inl rfl, ?_, (Blk.new w _ _).alloc _⟩, below_alloc (below_alloc (Below.refl _ _) _) _⟩
  · rintro k (rfl | rfl) <;> simp <;> omega
  · have := Blk.new (w.alloc (.cells (encB (List.replicate n false)) 4)) #[.slice (some ⟨w.heap.size, 0, none⟩) n n] 53
    simpa using this

set_option maxHeartbeats 4000000 in
theorem rright_any {w : World} {base b : Nat} {F : Nat → Prop} {t : List Bool} (h : Rf w base F b t) (hn : t.length ≤ 65536) (a c : Int) (hc : (Lit.int .i64 c).wf = true) :
    Calls Try.prog 30 #[.pointer (some ⟨b, 0, none⟩), .agg #[.int .i64 a, .int .i64 c]] w fun e w' => e = .returned (.bool (rightB t.length a c)) ∧ Below w.heap.size w w' := by
  obtain ⟨-, -, g, -, h3, -⟩ := h
  have hlt := h3.lt
  have h30 : World.cell? w ⟨b, 0, none⟩ = some (.slice (some ⟨g, 0, none⟩) t.length t.length) := Blk.cell h3 0
  have h3f0 : World.frozen? w ⟨b, 0, none⟩ = false := Blk.free h3 0
  clear h3 h3f0
  cases hr : rightB t.length a c with
  | true =>
    have H := Aside0.mk (rightB_true hr)
    clear hr
    have hd1 : decide (1 ≤ c) = true := decide_eq_true H.out.1
    have hd2 : decide (0 ≤ a) = true := decide_eq_true H.out.2.1
    have hd3 : decide (a ≤ (t.length : Int)) = true := decide_eq_true H.out.2.2.1
    have hd4 : decide (c ≤ (t.length : Int) - a) = true := decide_eq_true H.out.2.2.2
    have hw1 : IntKind.i64.wrap ((t.length : Int) - a) = (t.length : Int) - a := IntWalk.i64_in _ (by have := H.out; omega)
    (go_enter Try.func30, Try.ntmps30; go_wp2_with fail; go_quiet (fail); go_wp2_with fail; go_ret; exact ⟨rfl, pw_below_drewN (below_alloc (Below.refl _ _) _) _⟩)
  | false =>
    rcases rightB_false hr with h1 | ⟨h1, h2⟩ | ⟨h1, h2, h4⟩ | ⟨h1, h2, h4, h5⟩
    · clear hr
      have hd1 : decide (1 ≤ c) = false := decide_eq_false (by omega)
      (go_enter Try.func30, Try.ntmps30; go_wp2_with fail; go_quiet (fail); go_wp2_with fail; go_ret; exact ⟨rfl, pw_below_drewN (below_alloc (Below.refl _ _) _) _⟩)
    · clear hr
      have hd1 : decide (1 ≤ c) = true := decide_eq_true (by omega)
      have hd2 : decide (0 ≤ a) = false := decide_eq_false (by omega)
      (go_enter Try.func30, Try.ntmps30; go_wp2_with fail; go_quiet (fail); go_wp2_with fail; go_ret; exact ⟨rfl, pw_below_drewN (below_alloc (Below.refl _ _) _) _⟩)
    · clear hr
      have hd1 : decide (1 ≤ c) = true := decide_eq_true (by omega)
      have hd2 : decide (0 ≤ a) = true := decide_eq_true (by omega)
      have hd3 : decide (a ≤ (t.length : Int)) = false := decide_eq_false (by omega)
      (go_enter Try.func30, Try.ntmps30; go_wp2_with fail; go_quiet (fail); go_wp2_with fail; go_ret; exact ⟨rfl, pw_below_drewN (below_alloc (Below.refl _ _) _) _⟩)
    · clear hr
      have hd1 : decide (1 ≤ c) = true := decide_eq_true (by omega)
      have hd2 : decide (0 ≤ a) = true := decide_eq_true (by omega)
      have hd3 : decide (a ≤ (t.length : Int)) = true := decide_eq_true (by omega)
      have hd4 : decide (c ≤ (t.length : Int) - a) = false := decide_eq_false (by omega)
      have hw1 : IntKind.i64.wrap ((t.length : Int) - a) = (t.length : Int) - a := IntWalk.i64_in _ (by omega)
      (go_enter Try.func30, Try.ntmps30; go_wp2_with fail; go_quiet (fail); go_wp2_with fail; go_ret; exact ⟨rfl, pw_below_drewN (below_alloc (Below.refl _ _) _) _⟩)

def allB (t : List Bool) (a c : Nat) (v : Bool) : Bool := (List.range c).all fun k => t.getD (a + k) false == v
def putB (t : List Bool) (a c : Nat) (v : Bool) : List Bool := t.take a ++ List.replicate c v ++ t.drop (a + c)
theorem putB_length {t : List Bool} {a c : Nat} {v : Bool} (h : a + c ≤ t.length) : (putB t a c v).length = t.length := by simp [putB]; omega
theorem putB_get {t : List Bool} {a c : Nat} {v : Bool} (h : a + c ≤ t.length) (i : Nat) : (putB t a c v)[i]? = if a ≤ i ∧ i < a + c then some v else t[i]? := by
  unfold putB
  by_cases h1 : i < a
  · rw [if_neg (by omega), List.append_assoc, List.getElem?_append_left (by simp; omega), List.getElem?_take, if_pos h1]
  · by_cases h2 : i < a + c
    · rw [if_pos (by omega), List.getElem?_append_left (by simp; omega), List.getElem?_append_right (by simp; omega), List.getElem?_replicate, if_pos (by simp; omega)]
    · rw [if_neg (by omega), List.getElem?_append_right (by simp; omega), List.getElem?_drop]
      congr 1
      simp
      omega
theorem putB_zero (t : List Bool) (a : Nat) (v : Bool) : putB t a 0 v = t := by simp [putB]
theorem putB_step {t : List Bool} {a k : Nat} {v : Bool} (h : a + k < t.length) : (putB t a k v).set (a + k) v = putB t a (k + 1) v := by
  apply List.ext_getElem?
  intro i
  rw [List.getElem?_set, putB_get (show a + (k + 1) ≤ t.length by omega), putB_length (by omega)]
  by_cases e : a + k = i
  · subst e
    rw [if_pos rfl, if_pos h, if_pos (by omega)]
  · rw [if_neg e, putB_get (by omega)]
    by_cases h1 : a ≤ i ∧ i < a + k
    · rw [if_pos h1, if_pos (by omega)]
    · rw [if_neg h1, if_neg (by omega)]

set_option maxHeartbeats 2000000 in
theorem rall_any {w : World} {base b : Nat} {F : Nat → Prop} {t : List Bool} (h : Rf w base F b t) (hn : t.length ≤ 65536) (a c : Nat) (hac : a + c ≤ t.length) (v : Bool) (aI cI : Int) (ha : aI = a) (hc : cI = c) :
    Calls Try.prog 25 #[.pointer (some ⟨b, 0, none⟩), .agg #[.int .i64 aI, .int .i64 cI], .bool v] w fun e w' => e = .returned (.bool (allB t a c v)) ∧ Below w.heap.size w w' := by
  subst ha hc
  obtain ⟨-, -, g, -, h3, h4⟩ := h
  have H3 := Aside0.mk h3
  have H4 := Aside0.mk h4
  have hlt := h3.lt
  have hgl := h4.lt
  clear h3 h4
  have HX := Aside0.mk (Blk.new w #[.int .i64 (a : Int), .int .i64 (c : Int)] 32)
  go_enter Try.func25, Try.ntmps25
  go_wp2_with fail
  go_loop [7] (fun i => ∃ k : Nat, k ≤ c ∧ i = .int .i64 ((a : Int) + (k : Int)) ∧ Aside0 (∀ j, j < k → (t.getD (a + j) false == v) = true)) (fun i => a + c - (intOf i).toNat)
  case atStart => exact ⟨0, Nat.zero_le _, by simp, ⟨fun j hj => by omega⟩⟩
  case round =>
    obtain ⟨k, hk, rfl, HK⟩ := hrel
    by_cases hkc : k < c
    · have hal : a + k < t.length := by omega
      have y0 : (w.alloc (.cells #[.int .i64 (a : Int), .int .i64 (c : Int)] 32)).cell? ⟨b, 0, none⟩ = some (.slice (some ⟨g, 0, none⟩) t.length t.length) := ((H3.out.alloc _).cell 0).trans rfl
      have y1 : (w.alloc (.cells #[.int .i64 (a : Int), .int .i64 (c : Int)] 32)).cell? ⟨g, a + k, none⟩ = some (.bool t[a + k]) := ((H4.out.alloc _).cell _).trans (encB_get hal)
      have hgd : t.getD (a + k) false = t[a + k] := by rw [List.getD_eq_getElem?_getD, List.getElem?_eq_getElem hal]; rfl
      have HGD := Aside0.mk hgd
      clear hgd
      generalize t[a + k] = x at *
      cases hq : (x == v) with
      | true =>
        have hq2 : (x != v) = false := by rw [bne, hq]; rfl
        have HK2 : Aside0 (∀ j, j < k + 1 → (t.getD (a + j) false == v) = true) := ⟨fun j hj => by
          rcases Nat.lt_or_ge j k with h1 | h1
          · exact HK.out j h1
          · obtain rfl : j = k := by omega
            rw [HGD.out]; exact hq⟩
        obtain rfl : x = v := by simpa using hq
        clear hq hq2
        go_wp2_with fail
        go_round
        case rel => exact ⟨k + 1, by omega, by congr 1, HK2⟩
        case measure => simp [intOf]; omega
      | false =>
        have hq2 : (x != v) = true := by rw [bne, hq]; rfl
        have HF : Aside0 (allB t a c v = false) := ⟨by
          rw [allB, List.all_eq_false]
          exact ⟨k, by simpa using hkc, by rw [HGD.out, hq]; simp⟩⟩
        obtain rfl : x = !v := by cases x <;> cases v <;> simp_all
        clear hq hq2
        cases v
        all_goals
          go_wp2_with fail
          go_ret
          exact ⟨by rw [HF.out]; rfl, below_alloc (Below.refl _ _) _⟩
    · obtain rfl : k = c := by omega
      have HT : Aside0 (allB t a k v = true) := ⟨by
        rw [allB, List.all_eq_true]
        intro j hj
        exact HK.out j (by simpa using hj)⟩
      go_wp2_with fail
      go_ret
      exact ⟨by rw [HT.out]; rfl, below_alloc (Below.refl _ _) _⟩

/-- How a change of the document's space ends. -/
def EndR (w : World) (base : Nat) (F : Nat → Prop) (b : Nat) (t : List Bool) (val : Value) (e : Ending) (w' : World) : Prop :=
  e = .returned val ∧ Rf w' base F b t ∧ Turned F w w'
set_option maxHeartbeats 2000000 in
theorem rput_any {w : World} {base b : Nat} {F : Nat → Prop} {t : List Bool} (h : Rf w base F b t) (hn : t.length ≤ 65536) (a c : Nat) (hac : a + c ≤ t.length) (v : Bool) (aI cI : Int) (ha : aI = a) (hc : cI = c) :
    Calls Try.prog 26 #[.pointer (some ⟨b, 0, none⟩), .agg #[.int .i64 aI, .int .i64 cI], .bool v] w (EndR w base F b (putB t a c v) (.tuple #[])) := by
  subst ha hc
  have HR := Aside0.mk h
  obtain ⟨-, -, g, hFg, h3, h4⟩ := h
  have HFG := Aside0.mk hFg
  have H3 := Aside0.mk (h3.alloc (.cells #[.int .i64 (a : Int), .int .i64 (c : Int)] 32))
  have H4 := Aside0.mk (h4.alloc (.cells #[.int .i64 (a : Int), .int .i64 (c : Int)] 32))
  have hlt := h3.lt
  have hgl := h4.lt
  have hne : b ≠ g := fun e => by
    subst e
    have e2 : (some (Obj.cells #[Value.slice (some ⟨b, 0, none⟩) t.length t.length] 53 (0, 0))) = some (.cells (encB t) 4 (0, 0)) := h3.symm.trans h4
    simp at e2
  clear h3 h4 hFg
  have HX := Aside0.mk (Blk.new w #[.int .i64 (a : Int), .int .i64 (c : Int)] 32)
  have HT0 : Aside0 (Turned F w (w.alloc (.cells #[.int .i64 (a : Int), .int .i64 (c : Int)] 32))) := ⟨(Turned.refl F w).alloc _⟩
  have H40 : Aside0 (Blk (w.alloc (.cells #[.int .i64 (a : Int), .int .i64 (c : Int)] 32)) g (encB (putB t a 0 v)) 4) := ⟨by rw [putB_zero]; exact H4.out⟩
  go_enter Try.func26, Try.ntmps26
  go_wp2_with fail
  go_loopw [6] (fun i wr => ∃ k : Nat, k ≤ c ∧ i = .int .i64 ((a : Int) + (k : Int)) ∧ Aside0 (Blk wr g (encB (putB t a k v)) 4) ∧ Aside0 (Blk wr b #[.slice (some ⟨g, 0, none⟩) t.length t.length] 53) ∧ Aside0 (Blk wr w.heap.size #[.int .i64 (a : Int), .int .i64 (c : Int)] 32) ∧ Aside0 (Turned F w wr)) (fun i _ => a + c - (intOf i).toNat)
  case atStart => exact ⟨0, Nat.zero_le _, by simp, H40, H3, HX, HT0⟩
  case round =>
    obtain ⟨k, hk, rfl, HG, HB, HY, HT⟩ := hrel
    clear HX HT0 H40 H3 H4
    have hx := HY.out
    have hxl := hx.lt
    have hx0 : World.cell? wr ⟨w.heap.size, 0, none⟩ = some (.int .i64 (a : Int)) := Blk.cell hx 0
    have hx1 : World.cell? wr ⟨w.heap.size, 1, none⟩ = some (.int .i64 (c : Int)) := Blk.cell hx 1
    clear hx
    by_cases hkc : k < c
    · have hal : a + k < t.length := by omega
      have hal2 : a + k < (putB t a k v).length := by rw [putB_length (by omega)]; exact hal
      have y0 : wr.cell? ⟨b, 0, none⟩ = some (.slice (some ⟨g, 0, none⟩) t.length t.length) := (HB.out.cell 0).trans rfl
      have y1 : wr.cell? ⟨g, a + k, none⟩ = some (.bool (putB t a k v)[a + k]) := (HG.out.cell _).trans (encB_get hal2)
      have yf : wr.frozen? ⟨g, a + k, none⟩ = false := HG.out.free _
      have hgl2 := HG.out.lt
      have hbl2 := HB.out.lt
      have HG2 : Aside0 (Blk (wr.setCell ⟨g, a + k, none⟩ (.bool v)) g (encB (putB t a (k + 1) v)) 4) := ⟨by rw [← putB_step hal, ← encB_set]; exact HG.out.set _ _⟩
      have HB2 : Aside0 (Blk (wr.setCell ⟨g, a + k, none⟩ (.bool v)) b #[.slice (some ⟨g, 0, none⟩) t.length t.length] 53) := ⟨HB.out.far hne _⟩
      have HY2 : Aside0 (Blk (wr.setCell ⟨g, a + k, none⟩ (.bool v)) w.heap.size #[.int .i64 (a : Int), .int .i64 (c : Int)] 32) := ⟨HY.out.far (by show w.heap.size ≠ g; omega) _⟩
      have HT2 : Aside0 (Turned F w (wr.setCell ⟨g, a + k, none⟩ (.bool v))) := ⟨HT.out.setCell (.inl HFG.out) _⟩
      generalize (putB t a k v)[a + k] = x at *
      go_wp2_with fail
      go_roundw
      case rel => exact ⟨k + 1, by omega, by congr 1, HG2, HB2, HY2, HT2⟩
      case measure => simp [intOf]; omega
    · obtain rfl : k = c := by omega
      go_wp2_with fail
      refine bodyPost_end (results_none rfl _ _ _) rfl ?_
      refine ⟨rfl, ⟨HR.out.self, fun q hq => ⟨(HR.out.mine q hq).1, Nat.lt_of_lt_of_le (HR.out.mine q hq).2 HT.out.size⟩, g, HFG.out, ?_, HG.out⟩, HT.out⟩
      rw [putB_length (by omega)]
      exact HB.out
end Go.Proofs.Ytdcccimdgbkniaa.Mine
