/- space: the document's Take, Hold, Give, Free. -/
import Derived.Test.YtdcccimdgbkniaaSpT
set_option linter.unusedSimpArgs false
set_option linter.unusedVariables false
namespace Go.Proofs.Ytdcccimdgbkniaa.Mine
open Go.RowKit Go.Maps Go.Proofs.YtdcccimdgbkniaaW.PrintWords Go.Proofs.YtdcccimdgbkniaaW.PrintLast Go.Proofs.YtdcccimdgbkniaaW.PrintMore Go.Proofs.Ytdcccimdgbkniaa.Turn

theorem EndR.after {w w1 w2 : World} {base b : Nat} {F : Nat → Prop} {t : List Bool} {val : Value} {e : Ending} (hb : Below w.heap.size w w1) (hs : Rf w2 base F b t) (ht : Turned F w1 w2) (he : e = .returned val) : EndR w base F b t val e w2 :=
  ⟨he, hs, (Turned.of_below hb F).then_ ht (fun k hk => .inl hk)⟩
theorem EndR.same {w w1 : World} {base b : Nat} {F : Nat → Prop} {t : List Bool} {val : Value} {e : Ending} (h : Rf w base F b t) (hb : Below w.heap.size w w1) (he : e = .returned val) : EndR w base F b t val e w1 := ⟨he, h.below hb, Turned.of_below hb F⟩

def rholdE (t : List Bool) (a c : Int) : Int := if rightB t.length a c then (if allB t a.toNat c.toNat false then 0 else 5) else 1
def rholdT (t : List Bool) (a c : Int) : List Bool := if rightB t.length a c then (if allB t a.toNat c.toNat false then putB t a.toNat c.toNat true else t) else t
def rgiveE (t : List Bool) (a c : Int) : Int := if rightB t.length a c then (if allB t a.toNat c.toNat true then 0 else 4) else 1
def rgiveT (t : List Bool) (a c : Int) : List Bool := if rightB t.length a c then (if allB t a.toNat c.toNat true then putB t a.toNat c.toNat false else t) else t

set_option maxHeartbeats 2000000 in
theorem rhold_any {w : World} {base b : Nat} {F : Nat → Prop} {t : List Bool} (h : Rf w base F b t) (hn : t.length ≤ 65536) (a c : Int) (hwf : (Lit.int .i64 c).wf = true) :
    Calls Try.prog 13 #[.pointer (some ⟨b, 0, none⟩), .agg #[.int .i64 a, .int .i64 c]] w (EndR w base F b (rholdT t a c) (.int .i64 (rholdE t a c))) := by
  have HR := Aside0.mk h
  clear h
  have HB0 : Aside0 (Below w.heap.size w (w.alloc (.cells #[.int .i64 a, .int .i64 c] 32))) := ⟨below_alloc (Below.refl _ _) _⟩
  have HX := Aside0.mk (Blk.new w #[.int .i64 a, .int .i64 c] 32)
  have HC := Aside0.mk (rright_any (HR.out.below HB0.out) hn a c hwf)
  cases hr : rightB t.length a c with
  | false =>
    rw [show rholdT t a c = t by rw [rholdT, hr]; rfl, show rholdE t a c = 1 by rw [rholdE, hr]; rfl]
    rw [hr] at HC
    clear hr hwf
    go_enter Try.func13, Try.ntmps13
    go_wp2_with fail
    refine HC.out.mono ?_
    rintro e w1 ⟨rfl, hb⟩
    have HB := Aside0.mk (below_step HB0.out hb)
    clear hb HC
    go_wp2_with fail
    go_ret
    exact EndR.same HR.out HB.out rfl
  | true =>
    obtain ⟨q1, q2, q3, q4⟩ := rightB_true hr
    rw [show rholdT t a c = if allB t a.toNat c.toNat false then putB t a.toNat c.toNat true else t by rw [rholdT, hr]; rfl, show rholdE t a c = if allB t a.toNat c.toNat false then 0 else 5 by rw [rholdE, hr]; rfl]
    rw [hr] at HC
    have HA := Aside0.mk (fun (w1 : World) (hb : Below w.heap.size w w1) => rall_any (HR.out.below hb) hn a.toNat c.toNat (by omega) false a c (by omega) (by omega))
    have HP := Aside0.mk (fun (w1 : World) (hb : Below w.heap.size w w1) => rput_any (HR.out.below hb) hn a.toNat c.toNat (by omega) true a c (by omega) (by omega))
    clear hr hwf
    cases hq : allB t a.toNat c.toNat false with
    | true =>
      rw [hq] at HA
      rw [if_pos rfl, if_pos rfl]
      clear hq
      (go_enter Try.func13, Try.ntmps13; go_wp2_with fail; refine HC.out.mono ?_; rintro e w1 ⟨rfl, hb⟩; have HB := Aside0.mk (below_step HB0.out hb); have hx1 : Blk w1 w.heap.size #[.int .i64 a, .int .i64 c] 32 := (hb.block _ HX.out.lt).trans HX.out; have HX1 := Aside0.mk hx1; have hxl := hx1.lt; have p0 := (hx1.cell 0).trans rfl; have p1 := (hx1.cell 1).trans rfl; clear hb HC hx1; go_wp2_with fail; refine (HA.out _ HB.out).mono ?_; rintro e w2 ⟨rfl, hb⟩; have HB2 := Aside0.mk (below_step HB.out hb))
      have hx2 : Blk w2 w.heap.size #[.int .i64 a, .int .i64 c] 32 := (hb.block _ HX1.out.lt).trans HX1.out
      have hxl2 := hx2.lt
      have r0 := (hx2.cell 0).trans rfl
      have r1 := (hx2.cell 1).trans rfl
      clear hx2 hb
      go_wp2_with fail
      refine (HP.out _ HB2.out).mono ?_
      rintro e w3 ⟨rfl, hs, ht⟩
      have HS := Aside0.mk hs
      have HT := Aside0.mk ht
      clear hs ht
      go_wp2_with fail
      go_ret
      exact EndR.after HB2.out HS.out HT.out rfl
    | false =>
      rw [hq] at HA
      rw [if_neg (by simp), if_neg (by simp)]
      clear hq
      (go_enter Try.func13, Try.ntmps13; go_wp2_with fail; refine HC.out.mono ?_; rintro e w1 ⟨rfl, hb⟩; have HB := Aside0.mk (below_step HB0.out hb); have hx1 : Blk w1 w.heap.size #[.int .i64 a, .int .i64 c] 32 := (hb.block _ HX.out.lt).trans HX.out; have HX1 := Aside0.mk hx1; have hxl := hx1.lt; have p0 := (hx1.cell 0).trans rfl; have p1 := (hx1.cell 1).trans rfl; clear hb HC hx1; go_wp2_with fail; refine (HA.out _ HB.out).mono ?_; rintro e w2 ⟨rfl, hb⟩; have HB2 := Aside0.mk (below_step HB.out hb))
      clear hb
      go_wp2_with fail
      go_ret
      exact EndR.same HR.out HB2.out rfl

set_option maxHeartbeats 2000000 in
theorem rgive_any {w : World} {base b : Nat} {F : Nat → Prop} {t : List Bool} (h : Rf w base F b t) (hn : t.length ≤ 65536) (a c : Int) (hwf : (Lit.int .i64 c).wf = true) :
    Calls Try.prog 15 #[.pointer (some ⟨b, 0, none⟩), .agg #[.int .i64 a, .int .i64 c]] w (EndR w base F b (rgiveT t a c) (.int .i64 (rgiveE t a c))) := by
  have HR := Aside0.mk h
  clear h
  have HB0 : Aside0 (Below w.heap.size w (w.alloc (.cells #[.int .i64 a, .int .i64 c] 32))) := ⟨below_alloc (Below.refl _ _) _⟩
  have HX := Aside0.mk (Blk.new w #[.int .i64 a, .int .i64 c] 32)
  have HC := Aside0.mk (rright_any (HR.out.below HB0.out) hn a c hwf)
  cases hr : rightB t.length a c with
  | false =>
    rw [show rgiveT t a c = t by rw [rgiveT, hr]; rfl, show rgiveE t a c = 1 by rw [rgiveE, hr]; rfl]
    rw [hr] at HC
    clear hr hwf
    go_enter Try.func15, Try.ntmps15
    go_wp2_with fail
    refine HC.out.mono ?_
    rintro e w1 ⟨rfl, hb⟩
    have HB := Aside0.mk (below_step HB0.out hb)
    clear hb HC
    go_wp2_with fail
    go_ret
    exact EndR.same HR.out HB.out rfl
  | true =>
    obtain ⟨q1, q2, q3, q4⟩ := rightB_true hr
    rw [show rgiveT t a c = if allB t a.toNat c.toNat true then putB t a.toNat c.toNat false else t by rw [rgiveT, hr]; rfl, show rgiveE t a c = if allB t a.toNat c.toNat true then 0 else 4 by rw [rgiveE, hr]; rfl]
    rw [hr] at HC
    have HA := Aside0.mk (fun (w1 : World) (hb : Below w.heap.size w w1) => rall_any (HR.out.below hb) hn a.toNat c.toNat (by omega) true a c (by omega) (by omega))
    have HP := Aside0.mk (fun (w1 : World) (hb : Below w.heap.size w w1) => rput_any (HR.out.below hb) hn a.toNat c.toNat (by omega) false a c (by omega) (by omega))
    clear hr hwf
    cases hq : allB t a.toNat c.toNat true with
    | true =>
      rw [hq] at HA
      rw [if_pos rfl, if_pos rfl]
      clear hq
      (go_enter Try.func15, Try.ntmps15; go_wp2_with fail; refine HC.out.mono ?_; rintro e w1 ⟨rfl, hb⟩; have HB := Aside0.mk (below_step HB0.out hb); have hx1 : Blk w1 w.heap.size #[.int .i64 a, .int .i64 c] 32 := (hb.block _ HX.out.lt).trans HX.out; have HX1 := Aside0.mk hx1; have hxl := hx1.lt; have p0 := (hx1.cell 0).trans rfl; have p1 := (hx1.cell 1).trans rfl; clear hb HC hx1; go_wp2_with fail; refine (HA.out _ HB.out).mono ?_; rintro e w2 ⟨rfl, hb⟩; have HB2 := Aside0.mk (below_step HB.out hb))
      have hx2 : Blk w2 w.heap.size #[.int .i64 a, .int .i64 c] 32 := (hb.block _ HX1.out.lt).trans HX1.out
      have hxl2 := hx2.lt
      have r0 := (hx2.cell 0).trans rfl
      have r1 := (hx2.cell 1).trans rfl
      clear hx2 hb
      go_wp2_with fail
      refine (HP.out _ HB2.out).mono ?_
      rintro e w3 ⟨rfl, hs, ht⟩
      have HS := Aside0.mk hs
      have HT := Aside0.mk ht
      clear hs ht
      go_wp2_with fail
      go_ret
      exact EndR.after HB2.out HS.out HT.out rfl
    | false =>
      rw [hq] at HA
      rw [if_neg (by simp), if_neg (by simp)]
      clear hq
      (go_enter Try.func15, Try.ntmps15; go_wp2_with fail; refine HC.out.mono ?_; rintro e w1 ⟨rfl, hb⟩; have HB := Aside0.mk (below_step HB0.out hb); have hx1 : Blk w1 w.heap.size #[.int .i64 a, .int .i64 c] 32 := (hb.block _ HX.out.lt).trans HX.out; have HX1 := Aside0.mk hx1; have hxl := hx1.lt; have p0 := (hx1.cell 0).trans rfl; have p1 := (hx1.cell 1).trans rfl; clear hb HC hx1; go_wp2_with fail; refine (HA.out _ HB.out).mono ?_; rintro e w2 ⟨rfl, hb⟩; have HB2 := Aside0.mk (below_step HB.out hb))
      clear hb
      go_wp2_with fail
      go_ret
      exact EndR.same HR.out HB2.out rfl

/-- The first place of so many free cells, from at on. -/
def rfind (t : List Bool) (c : Nat) (at_ : Nat) : Option Nat :=
  if at_ + c ≤ t.length then (if allB t at_ c false then some at_ else rfind t c (at_ + 1)) else none
termination_by t.length + 1 - at_
theorem rfind_le {t : List Bool} {c : Nat} : ∀ m at_, at_ + m = t.length + 1 → ∀ k, rfind t c at_ = some k → k + c ≤ t.length := by
  intro m
  induction m with
  | zero => intro at_ h k hk; rw [rfind, if_neg (by omega)] at hk; cases hk
  | succ m ih =>
    intro at_ h k hk
    rw [rfind] at hk
    split at hk
    · split at hk
      · cases hk; assumption
      · exact ih _ (by omega) k hk
    · cases hk
def rtakeV (t : List Bool) (c : Int) : Int := if c < 1 then 0 else ((rfind t c.toNat 0).getD 0 : Nat)
def rtakeE (t : List Bool) (c : Int) : Int := if c < 1 then 1 else if (rfind t c.toNat 0).isSome then 0 else 3
def rtakeT (t : List Bool) (c : Int) : List Bool := if c < 1 then t else match rfind t c.toNat 0 with
  | some k => putB t k c.toNat true
  | none => t

set_option maxHeartbeats 4000000 in
theorem rtake_any {w : World} {base b : Nat} {F : Nat → Prop} {t : List Bool} (h : Rf w base F b t) (hn : t.length ≤ 65536) (c : Int) (hwf : (Lit.int .i64 c).wf = true) :
    Calls Try.prog 11 #[.pointer (some ⟨b, 0, none⟩), .int .i64 c] w (EndR w base F b (rtakeT t c) (.tuple #[.int .i64 (rtakeV t c), .int .i64 (rtakeE t c)])) := by
  have HR := Aside0.mk h
  by_cases h1 : c < 1
  · rw [show rtakeT t c = t from if_pos h1, show rtakeV t c = 0 from if_pos h1, show rtakeE t c = 1 from if_pos h1]
    clear h hwf
    go_enter Try.func11, Try.ntmps11
    go_wp2_with fail
    go_ret2
    exact EndR.same HR.out (Below.refl _ _) rfl
  obtain ⟨-, -, g, -, h3, -⟩ := h
  have hlt := h3.lt
  have H3 := Aside0.mk h3
  by_cases h2 : (t.length : Int) < c
  · have hr : rfind t c.toNat 0 = none := by rw [rfind, if_neg (by omega)]
    rw [show rtakeT t c = t by rw [rtakeT, if_neg h1, hr], show rtakeV t c = 0 by rw [rtakeV, if_neg h1, hr]; rfl, show rtakeE t c = 3 by rw [rtakeE, if_neg h1, hr]; rfl]
    have h30 : World.cell? w ⟨b, 0, none⟩ = some (.slice (some ⟨g, 0, none⟩) t.length t.length) := Blk.cell h3 0
    have h3f0 : World.frozen? w ⟨b, 0, none⟩ = false := Blk.free h3 0
    clear h3 hr hwf
    go_enter Try.func11, Try.ntmps11
    go_wp2_with fail
    go_loop [6] (fun i => i = .int .i64 0) (fun _ => 0)
    case atStart => rfl
    case round =>
      obtain rfl := hrel
      go_wp2_with fail
      go_ret2
      exact EndR.same HR.out (Below.refl _ _) rfl
  obtain ⟨c', rfl⟩ : ∃ c' : Nat, c = c' := ⟨c.toNat, by omega⟩
  have H1 := Aside0.mk h1
  obtain ⟨RT, hRT⟩ : ∃ x, rtakeT t c' = x := ⟨_, rfl⟩
  obtain ⟨RV, hRV⟩ : ∃ x, rtakeV t c' = x := ⟨_, rfl⟩
  obtain ⟨RE, hRE⟩ : ∃ x, rtakeE t c' = x := ⟨_, rfl⟩
  rw [hRT, hRV, hRE]
  have HRT := Aside0.mk hRT
  have HRV := Aside0.mk hRV
  have HRE := Aside0.mk hRE
  clear h3 hwf hRT hRV hRE
  go_enter Try.func11, Try.ntmps11
  go_wp2_with fail
  go_loopw [6] (fun i wr => ∃ k : Nat, k ≤ t.length + 1 ∧ i = .int .i64 k ∧ Aside0 (rfind t c' 0 = rfind t c' k) ∧ Aside0 (Below w.heap.size w wr)) (fun i _ => t.length + 1 - (intOf i).toNat)
  case atStart => exact ⟨0, Nat.zero_le _, rfl, ⟨rfl⟩, ⟨Below.refl _ _⟩⟩
  case round =>
    obtain ⟨k, hk, rfl, HI, HB⟩ := hrel
    have y0 : wr.cell? ⟨b, 0, none⟩ = some (.slice (some ⟨g, 0, none⟩) t.length t.length) := pw_cell_below HB.out (H3.out.cell 0)
    have hbl : b < wr.heap.size := Nat.lt_of_lt_of_le hlt HB.out.size
    by_cases hkc : k + c' ≤ t.length
    · have HX : Aside0 (rfind t c' k = if allB t k c' false then some k else rfind t c' (k + 1)) := ⟨by rw [rfind, if_pos hkc]⟩
      have HB1 : Aside0 (Below w.heap.size w (wr.alloc (.cells #[.int .i64 k, .int .i64 c'] 32))) := ⟨below_alloc HB.out _⟩
      have HC := Aside0.mk (rall_any (HR.out.below HB1.out) hn k c' hkc false _ _ rfl rfl)
      cases hq : allB t k c' false with
      | true =>
        have hr : rfind t c' 0 = some k := by rw [HI.out, HX.out, hq]; rfl
        have e1 : RT = putB t k c' true := by rw [← HRT.out, rtakeT, if_neg (by omega), Int.toNat_natCast, hr]
        have e2 : RV = k := by rw [← HRV.out, rtakeV, if_neg (by omega), Int.toNat_natCast, hr]; rfl
        have e3 : RE = 0 := by rw [← HRE.out, rtakeE, if_neg (by omega), Int.toNat_natCast, hr]; rfl
        have HX2 := Aside0.mk (Blk.new wr #[.int .i64 (k : Int), .int .i64 (c' : Int)] 32)
        rw [hq] at HC
        rw [e1, e2, e3]
        clear hr e1 e2 e3 hq
        go_wp2_with fail
        refine HC.out.mono ?_
        rintro e w2 ⟨rfl, hb⟩
        have HB2 := Aside0.mk (below_step HB1.out hb)
        have hx2 : Blk w2 wr.heap.size #[.int .i64 (k : Int), .int .i64 (c' : Int)] 32 := (hb.block _ HX2.out.lt).trans HX2.out
        have hxl2 := hx2.lt
        have p0 := (hx2.cell 0).trans rfl
        have p1 := (hx2.cell 1).trans rfl
        clear hb hx2 HC
        go_wp2_with fail
        refine (rput_any (HR.out.below HB2.out) hn k c' hkc true _ _ rfl rfl).mono ?_
        rintro e w3 ⟨rfl, hs, ht⟩
        have HS := Aside0.mk hs
        have HT := Aside0.mk ht
        clear hs ht
        go_wp2_with fail
        go_ret2
        exact EndR.after HB2.out HS.out HT.out rfl
      | false =>
        have HI2 : Aside0 (rfind t c' 0 = rfind t c' (k + 1)) := ⟨by rw [HI.out, HX.out, hq]; rfl⟩
        rw [hq] at HC
        clear hq
        go_wp2_with fail
        refine HC.out.mono ?_
        rintro e w2 ⟨rfl, hb⟩
        have HB2 := Aside0.mk (below_step HB1.out hb)
        clear hb HC
        go_wp2_with fail
        go_roundw
        case rel => exact ⟨k + 1, by omega, by go_num, HI2, HB2⟩
        case measure => simp [intOf]; omega
    · have hr : rfind t c' 0 = none := by rw [HI.out, rfind, if_neg hkc]
      have e1 : RT = t := by rw [← HRT.out, rtakeT, if_neg (by omega), Int.toNat_natCast, hr]
      have e2 : RV = 0 := by rw [← HRV.out, rtakeV, if_neg (by omega), Int.toNat_natCast, hr]; rfl
      have e3 : RE = 3 := by rw [← HRE.out, rtakeE, if_neg (by omega), Int.toNat_natCast, hr]; rfl
      have E1 := Aside0.mk e1
      have E2 := Aside0.mk e2
      have E3 := Aside0.mk e3
      clear hr e1 e2 e3
      go_wp2_with fail
      go_ret2
      rw [E1.out, E2.out, E3.out]
      exact EndR.same HR.out HB.out rfl

def cntF (t : List Bool) : Nat := t.countP (fun v => !v)
set_option maxHeartbeats 2000000 in
theorem rfree_any {w : World} {base b : Nat} {F : Nat → Prop} {t : List Bool} (h : Rf w base F b t) (hn : t.length ≤ 65536) :
    Calls Try.prog 17 #[.pointer (some ⟨b, 0, none⟩)] w fun e w' => e = .returned (.int .i64 (cntF t)) ∧ w = w' := by
  obtain ⟨-, -, g, -, h3, h4⟩ := h
  have hlt := h3.lt
  have hgl := h4.lt
  have H4 := Aside0.mk h4
  have h30 : World.cell? w ⟨b, 0, none⟩ = some (.slice (some ⟨g, 0, none⟩) t.length t.length) := Blk.cell h3 0
  clear h3 h4
  go_enter Try.func17, Try.ntmps17
  go_wp2_with fail
  go_loop [3, 4] (fun s i => ∃ k : Nat, k ≤ t.length ∧ i = .int .i64 k ∧ ∃ m : Nat, m ≤ k ∧ s = .int .i64 m ∧ Aside0 (cntF (t.take k) = m)) (fun _ i => t.length - (intOf i).toNat)
  case atStart => exact ⟨0, Nat.zero_le _, rfl, 0, Nat.le_refl _, rfl, ⟨rfl⟩⟩
  case round =>
    obtain ⟨k, hk, rfl, m, hm, rfl, HM⟩ := hrel
    by_cases hkl : k < t.length
    · have y1 : w.cell? ⟨g, k, none⟩ = some (.bool t[k]) := (H4.out.cell _).trans (encB_get hkl)
      have hs : cntF (t.take (k + 1)) = m + if t[k] then 0 else 1 := by
        rw [List.take_succ_eq_append_getElem hkl, cntF, List.countP_append]
        have := HM.out
        unfold cntF at this
        rw [this]
        cases t[k] <;> simp
      have HS := Aside0.mk hs
      clear hs
      generalize t[k] = x at *
      cases x
      · go_wp2_with fail
        go_round
        case rel => exact ⟨k + 1, by omega, by go_num, m + 1, by omega, by go_num, ⟨HS.out⟩⟩
        case measure => simp [intOf]; omega
      · go_wp2_with fail
        go_round
        case rel => exact ⟨k + 1, by omega, by go_num, m, by omega, rfl, ⟨HS.out⟩⟩
        case measure => simp [intOf]; omega
    · obtain rfl : k = t.length := by omega
      rw [List.take_length] at HM
      go_wp2_with fail
      go_ret
      exact ⟨by rw [HM.out]; rfl, rfl⟩
end Go.Proofs.Ytdcccimdgbkniaa.Mine
