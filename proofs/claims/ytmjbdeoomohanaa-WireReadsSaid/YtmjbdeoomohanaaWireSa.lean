/- wire: the document's reader: take, number, any. -/
import Derived.Test.YtmjbdeoomohanaaWm6
set_option linter.unusedSimpArgs false
set_option linter.unusedVariables false
namespace Go.Proofs.Ytmjbdeoomohanaa.Mine
open Go.RowKit Go.Maps Go.Proofs.YtmjbdeoomohanaaW.PrintWords Go.Proofs.YtmjbdeoomohanaaW.PrintLast Go.Proofs.YtmjbdeoomohanaaW.PrintMore Go.Proofs.Ytmjbdeoomohanaa.PWirePacks Go.Proofs.Ytmjbdeoomohanaa.Turn

/-- The document's reader in block p: the bytes that are left (they lie below h), and the first thing that was wrong. -/
def Rd (w : World) (h p : Nat) (l : List Int) (x : Int) : Prop :=
  h ≤ p ∧ l.length ≤ 1073741824 ∧ Byt l ∧ ∃ A c, Blk w p #[.slice A l.length c, .int .i64 x] 67 ∧ l.length ≤ c ∧ Kd.F (Kd.int .u8) w (fun k => k < h) A l.length l
theorem Rd.turn {w w' : World} {h p : Nat} {l : List Int} {x : Int} (r : Rd w h p l x) {X : Nat → Prop} (ht : Turned X w w') (hX : ∀ k, X k → k ≠ p ∧ h ≤ k) : Rd w' h p l x := by
  obtain ⟨h1, h2, h3, A, c, h4, h5, h6⟩ := r
  exact ⟨h1, h2, h3, A, c, ht.blk h4 (fun hx => (hX p hx).1 rfl), h5, Kd.F_step h6 (fun k hk hlt => ht.block k hlt (fun hx => by have := (hX k hx).2; omega))⟩
theorem Rd.below {w w' : World} {h p : Nat} {l : List Int} {x : Int} (r : Rd w h p l x) (hb : Below w.heap.size w w') : Rd w' h p l x := r.turn (Turned.of_below hb (fun _ => False)) (fun _ hk => hk.elim)
theorem Rd.wrong {w : World} {h p : Nat} {l : List Int} {x : Int} (r : Rd w h p l x) (y : Int) : Rd (w.setCell ⟨p, 1, none⟩ (.int .i64 y)) h p l y := by
  obtain ⟨h1, h2, h3, A, c, h4, h5, h6⟩ := r
  exact ⟨h1, h2, h3, A, c, h4.set 1 _, h5, Kd.F_step h6 (fun k hk hlt => Below.heap_setCell w _ _ k (fun e => by have : k = p := e; omega))⟩
theorem Rd.lt {w : World} {h p : Nat} {l : List Int} {x : Int} (r : Rd w h p l x) : p < w.heap.size := by
  obtain ⟨-, -, -, A, c, h4, -⟩ := r
  exact h4.lt

/-- How take ends. -/
def EndsT (w : World) (h p : Nat) (l : List Int) (n : Nat) (e : Ending) (w' : World) : Prop :=
  (∃ A c, e = .returned (.slice A n c) ∧ n ≤ c ∧ Kd.F (Kd.int .u8) w' (fun k => k < h) A n (l.take n)) ∧ Rd w' h p (l.drop n) 0 ∧ Turned (fun k => k = p) w w'
theorem take_close {w : World} {h p : Nat} {l : List Int} {A0 A' : Option Addr} {c0 n m' c' : Nat} (r : Rd w h p l 0) (h4 : Blk w p #[.slice A0 l.length c0, .int .i64 0] 67) (h5 : l.length ≤ c0) (h6 : Kd.F (Kd.int .u8) w (fun k => k < h) A0 l.length l) (hn : n ≤ l.length)
    (hA : A' = if c0 = n then A0 else A0.map (fun x => x.add n)) (hm : m' = l.length - n) (hc' : c' = c0 - n) : EndsT w h p l n (.returned (.slice A0 n c0)) (w.setCell ⟨p, 0, none⟩ (.slice A' m' c')) := by
  subst hm hc'
  have hlen : (l.take n).length = n := by rw [List.length_take]; omega
  obtain ⟨h1, h2, h3, -⟩ := r
  have hout : ∀ k, k < h → k < w.heap.size → (w.setCell ⟨p, 0, none⟩ (.slice A' (l.length - n) (c0 - n))).heap[k]? = w.heap[k]? := fun k hk hlt => Below.heap_setCell w _ _ k (fun e => by have : k = p := e; omega)
  refine ⟨⟨A0, c0, rfl, by omega, ?_⟩, ⟨h1, by rw [List.length_drop]; omega, h3.drop n, A', c0 - n, ?_, by rw [List.length_drop]; omega, ?_⟩, Turned.setCell (S := fun k => k = p) (Turned.refl _ w) (.inl rfl) _⟩
  · refine Kd.F_step (Kd.F_imp h6 (fun W' hC => ?_)) hout
    have := Kd.C_take hC hn
    rwa [hlen] at this
  · rw [List.length_drop]
    exact h4.set 0 _
  · refine Kd.F_step (Kd.F_imp h6 (fun W' hC => ?_)) hout
    have hd := Kd.C_drop hC hn h5
    rw [show (Kd.int IntKind.u8).sz = 1 from rfl, Nat.mul_one] at hd
    rw [hA]
    exact hd

set_option maxHeartbeats 2000000 in
theorem take_ok {w : World} {h p : Nat} {l : List Int} (r : Rd w h p l 0) (n : Nat) (hn : n ≤ l.length) :
    Calls Try.prog 61 #[.pointer (some ⟨p, 0, none⟩), .int .i64 n] w fun e w' => EndsT w h p l n e w' := by
  have HH := Aside0.mk r
  obtain ⟨h1, h2, h3, A0, c0, h4, h5, h6⟩ := r
  have h40 : World.cell? w ⟨p, 0, none⟩ = some (.slice A0 l.length c0) := Blk.cell h4 0
  have h4f0 : World.frozen? w ⟨p, 0, none⟩ = false := Blk.free h4 0
  have h41 : World.cell? w ⟨p, 1, none⟩ = some (.int .i64 0) := Blk.cell h4 1
  have h4f1 : World.frozen? w ⟨p, 1, none⟩ = false := Blk.free h4 1
  have H4 := Aside0.mk h4
  have H6 := Aside0.mk h6
  have H5 := Aside0.mk h5
  have HN := Aside0.mk hn
  have hnot : decide (l.length < n) = false := decide_eq_false (by omega)
  clear h1 h3 h4 h6
  go_enter Try.func61, Try.ntmps61
  by_cases hcn : c0 = n
  · obtain rfl := hcn
    go_wp2_with fail
    go_ret
    exact take_close HH.out H4.out H5.out H6.out HN.out (by rw [if_pos rfl]) (by omega) (by omega)
  · go_wp2_with fail
    go_ret
    exact take_close HH.out H4.out H5.out H6.out HN.out (by rw [if_neg hcn]) rfl rfl

set_option maxHeartbeats 2000000 in
theorem take_short {w : World} {h p : Nat} {l : List Int} (r : Rd w h p l 0) (n : Nat) (hn : l.length < n) :
    Calls Try.prog 61 #[.pointer (some ⟨p, 0, none⟩), .int .i64 n] w fun e w' => e = .returned (.slice none 0 0) ∧ Rd w' h p l 201 ∧ Turned (fun k => k = p) w w' := by
  have HH := Aside0.mk (r.wrong 201)
  obtain ⟨h1, h2, h3, A0, c0, h4, h5, h6⟩ := r
  have h40 : World.cell? w ⟨p, 0, none⟩ = some (.slice A0 l.length c0) := Blk.cell h4 0
  have h4f0 : World.frozen? w ⟨p, 0, none⟩ = false := Blk.free h4 0
  have h41 : World.cell? w ⟨p, 1, none⟩ = some (.int .i64 0) := Blk.cell h4 1
  have h4f1 : World.frozen? w ⟨p, 1, none⟩ = false := Blk.free h4 1
  have hnot : decide (l.length < n) = true := decide_eq_true hn
  clear h1 h3 h4 h6
  go_enter Try.func61, Try.ntmps61
  go_wp2_with fail
  go_ret
  exact ⟨rfl, HH.out, Turned.setCell (S := fun k => k = p) (Turned.refl _ w) (.inl rfl) _⟩

set_option maxHeartbeats 2000000 in
theorem take_off {w : World} {h p : Nat} {l : List Int} {x : Int} (r : Rd w h p l x) (hx : x ≠ 0) (n : Int) :
    Calls Try.prog 61 #[.pointer (some ⟨p, 0, none⟩), .int .i64 n] w fun e w' => e = .returned (.slice none 0 0) ∧ w = w' := by
  obtain ⟨h1, h2, h3, A0, c0, h4, h5, h6⟩ := r
  have h40 : World.cell? w ⟨p, 0, none⟩ = some (.slice A0 l.length c0) := Blk.cell h4 0
  have h4f0 : World.frozen? w ⟨p, 0, none⟩ = false := Blk.free h4 0
  have h41 : World.cell? w ⟨p, 1, none⟩ = some (.int .i64 x) := Blk.cell h4 1
  have h4f1 : World.frozen? w ⟨p, 1, none⟩ = false := Blk.free h4 1
  have hb : (x == 0) = false := by simpa using hx
  have hb2 : (x != 0) = true := by simpa using hx
  clear h1 h3 h4 h6 hx
  go_enter Try.func61, Try.ntmps61
  go_wp2_with fail
  go_ret
  exact ⟨rfl, rfl⟩

/-- The reader, which may have seen something wrong. -/
def RdE (w : World) (h p : Nat) : Except Int (List Int) → Prop
  | .ok l => Rd w h p l 0
  | .error x => x ≠ 0 ∧ ∃ l, Rd w h p l x
theorem RdE.turn {w w' : World} {h p : Nat} {X : Except Int (List Int)} (r : RdE w h p X) {S : Nat → Prop} (ht : Turned S w w') (hX : ∀ k, S k → k ≠ p ∧ h ≤ k) : RdE w' h p X := by
  cases X with
  | ok l => exact Rd.turn r ht hX
  | error x => exact ⟨r.1, r.2.imp fun l h => h.turn ht hX⟩
theorem RdE.below {w w' : World} {h p : Nat} {X : Except Int (List Int)} (r : RdE w h p X) (hb : Below w.heap.size w w') : RdE w' h p X := r.turn (Turned.of_below hb (fun _ => False)) (fun _ hk => hk.elim)
theorem RdE.lt {w : World} {h p : Nat} {X : Except Int (List Int)} (r : RdE w h p X) : p < w.heap.size ∧ h ≤ p := by
  cases X with
  | ok l => exact ⟨Rd.lt r, r.1⟩
  | error x =>
    obtain ⟨-, l, h⟩ := r
    exact ⟨h.lt, h.1⟩
def cntL (l : List Int) (sz : Nat) (most bad : Int) : Except Int (Int × List Int) :=
  if l.length < sz then .error 201 else if most < val (l.take sz) then .error bad else .ok (val (l.take sz), l.drop sz)
/-- How number ends. -/
def EndsR (w : World) (h p : Nat) (Y : Except Int (Int × List Int)) (e : Ending) (w' : World) : Prop :=
  Turned (fun k => k = p) w w' ∧ match Y with
  | .ok (v, l') => e = .returned (.int .u64 v) ∧ Rd w' h p l' 0
  | .error x => e = .returned (.int .u64 0) ∧ x ≠ 0 ∧ ∃ l', Rd w' h p l' x

set_option maxHeartbeats 2000000 in
theorem num_off {w : World} {h p : Nat} {l : List Int} {x : Int} (hx : x ≠ 0) (sz : Int) (most bad : Int)
    (ht : Calls Try.prog 61 #[.pointer (some ⟨p, 0, none⟩), .int .i64 sz] w fun e w' => e = .returned (.slice none 0 0) ∧ Rd w' h p l x ∧ Turned (fun k => k = p) w w') :
    Calls Try.prog 54 #[.pointer (some ⟨p, 0, none⟩), .int .i64 sz, .int .u64 most, .int .i64 bad] w fun e w' => EndsR w h p (.error x) e w' := by
  have HC := Aside0.mk ht
  have HX := Aside0.mk hx
  have hb : (x == 0) = false := by simpa using hx
  clear hx ht
  go_enter Try.func54, Try.ntmps54
  go_wp2_with fail
  refine HC.out.mono ?_
  rintro e w2 ⟨rfl, r, hT⟩
  have HH := Aside0.mk r
  have HT := Aside0.mk hT
  obtain ⟨h1, h2, h3, A0, c0, h4, h5, h6⟩ := r
  have h40 : World.cell? w2 ⟨p, 0, none⟩ = some (.slice A0 l.length c0) := Blk.cell h4 0
  have h41 : World.cell? w2 ⟨p, 1, none⟩ = some (.int .i64 x) := Blk.cell h4 1
  clear h1 h3 h4 h6 hT
  go_wp2_with fail
  go_loop [10, 11] (fun acc i => i = .int .i64 0 ∧ acc = .int .u64 0) (fun _ _ => 0)
  case atStart => exact ⟨rfl, rfl⟩
  case round =>
    obtain ⟨rfl, rfl⟩ := hrel
    go_wp2_with fail
    go_ret
    exact ⟨HT.out, rfl, HX.out, l, HH.out⟩

set_option maxHeartbeats 2000000 in
theorem num_ok {w : World} {h p : Nat} {l : List Int} (r : Rd w h p l 0) (sz : Nat) (hz : sz ≤ l.length) (hz8 : sz ≤ 8) (most bad : Int) (hbad : bad = 0 → 18446744073709551615 ≤ most) :
    Calls Try.prog 54 #[.pointer (some ⟨p, 0, none⟩), .int .i64 sz, .int .u64 most, .int .i64 bad] w fun e w' => EndsR w h p (cntL l sz most bad) e w' := by
  have HC := Aside0.mk (take_ok r sz hz)
  have hq : (l.take sz).length = sz := by rw [List.length_take]; omega
  have hby : Byt (l.take sz) := r.2.2.1.take sz
  have hvr := val_range hby (l.take sz).length (Nat.le_refl _)
  rw [List.take_length, hq] at hvr
  have h3 : (256 : Int) ^ sz ≤ 18446744073709551616 := by
    have hd : sz = 0 ∨ sz = 1 ∨ sz = 2 ∨ sz = 3 ∨ sz = 4 ∨ sz = 5 ∨ sz = 6 ∨ sz = 7 ∨ sz = 8 := by omega
    rcases hd with rfl | rfl | rfl | rfl | rfl | rfl | rfl | rfl | rfl <;> decide
  have HE : Aside0 (cntL l sz most bad = if most < val (l.take sz) then .error bad else .ok (val (l.take sz), l.drop sz)) := ⟨by rw [cntL, if_neg (by omega)]⟩
  have HBAD : Aside0 (most < val (l.take sz) → bad ≠ 0) := ⟨fun h1 h2 => by have := hbad h2; omega⟩
  have HBY := Aside0.mk hby
  clear r hvr h3 hbad hby
  generalize cntL l sz most bad = X at HE ⊢
  obtain ⟨q, hqq⟩ : ∃ q, l.take sz = q := ⟨_, rfl⟩
  have HQ := Aside0.mk hqq
  rw [hqq] at hq HE HBAD HBY
  have HQL := Aside0.mk hq
  have hql : q.length ≤ sz := by omega
  have hql2 : sz ≤ q.length := by omega
  clear hq hqq
  go_enter Try.func54, Try.ntmps54
  go_wp2_with fail
  refine HC.out.mono ?_
  rintro e w2 ⟨⟨A, c, rfl, hc, hF⟩, hR, hT⟩
  rw [HQ.out, ← HQL.out] at hF
  have HF := Aside0.mk (Kd.F_now hF)
  have HR := Aside0.mk hR
  have HT := Aside0.mk hT
  obtain ⟨h1, h2, h3, A0, c0, h4, h5, h6⟩ := hR
  have h40 : World.cell? w2 ⟨p, 0, none⟩ = some (.slice A0 (l.drop sz).length c0) := Blk.cell h4 0
  have h4f0 : World.frozen? w2 ⟨p, 0, none⟩ = false := Blk.free h4 0
  have h41 : World.cell? w2 ⟨p, 1, none⟩ = some (.int .i64 0) := Blk.cell h4 1
  have h4f1 : World.frozen? w2 ⟨p, 1, none⟩ = false := Blk.free h4 1
  have HL := Aside0.mk h4.lt
  clear h1 h2 h3 h4 h5 h6 hF hT
  go_wp2_with fail
  go_loop [10, 11] (fun acc i => ∃ j : Nat, j ≤ q.length ∧ i = .int .i64 j ∧ acc = .int .u64 (val (q.take j))) (fun _ i => q.length - (intOf i).toNat)
  case atStart => exact ⟨0, Nat.zero_le _, rfl, rfl⟩
  case round =>
    obtain ⟨j, hj, rfl, rfl⟩ := hrel
    by_cases hjl : j < q.length
    · obtain ⟨ad, cs, e, _, hK, hcc⟩ := Kd.C_get HF.out 0 (j : Int) (by omega) (by omega)
      cases e
      have hx0 := hcc 0 (.int .u8 (q.getD j 0)) (by rw [show cs = [.int .u8 (q.getD ((j : Int)).toNat 0)] from hK]; simp)
      replace hx0 : w2.cell? (ad.add j) = some (.int .u8 (q.getD j 0)) := by
        rw [Int.toNat_natCast] at hx0
        simpa [Kd.int, Kd.scalar] using hx0
      clear hcc hK
      generalize hxx : q.getD j 0 = x at hx0
      have HXX := Aside0.mk hxx
      have hjz : j < sz := by omega
      clear hxx
      go_wp2_with fail
      go_round
      case rel => exact ⟨j + 1, by omega, by go_num, by rw [← HXX.out, join_byte HBY.out hjl (by omega)]⟩
      case measure => simp [intOf]; omega
    · obtain rfl : j = q.length := by omega
      rw [List.take_length]
      obtain ⟨v, hv⟩ : ∃ v, val q = v := ⟨_, rfl⟩
      rw [hv] at HE HBAD ⊢
      clear hv
      have hjz : decide (q.length < sz) = false := decide_eq_false (by omega)
      by_cases hlt : most < v
      · have HX : Aside0 (X = .error bad) := ⟨by rw [HE.out, if_pos hlt]⟩
        have HN := Aside0.mk (HBAD.out hlt)
        clear HE HBAD
        have HW := Aside0.mk (HR.out.wrong bad)
        go_wp2_with fail
        go_ret
        rw [HX.out]
        exact ⟨HT.out.setCell (.inl rfl) _, rfl, HN.out, _, HW.out⟩
      · have HX : Aside0 (X = .ok (v, l.drop sz)) := ⟨by rw [HE.out, if_neg hlt]⟩
        clear HE HBAD
        go_wp2_with fail
        go_ret
        rw [HX.out]
        exact ⟨HT.out, rfl, HR.out⟩

/-- number, of a reader that may have seen something wrong. -/
theorem numR_any {w : World} {h p : Nat} {X : Except Int (List Int)} (r : RdE w h p X) (sz : Nat) (hz8 : sz ≤ 8) (most bad : Int) (hbad : bad = 0 → 18446744073709551615 ≤ most) :
    Calls Try.prog 54 #[.pointer (some ⟨p, 0, none⟩), .int .i64 sz, .int .u64 most, .int .i64 bad] w fun e w' => EndsR w h p (X.bind fun l => cntL l sz most bad) e w' := by
  cases X with
  | error x =>
    obtain ⟨hx, l, r⟩ := r
    exact num_off hx sz most bad ((take_off r hx sz).mono fun e w' ⟨h1, h2⟩ => ⟨h1, h2 ▸ r, h2 ▸ Turned.refl _ w⟩)
  | ok l =>
    by_cases hz : sz ≤ l.length
    · exact num_ok r sz hz hz8 most bad hbad
    · have := num_off (by omega) sz most bad (take_short r sz (by omega))
      rwa [show (Except.ok l : Except Int (List Int)).bind (fun l => cntL l sz most bad) = .error 201 from by simp [Except.bind, cntL]; omega]
def numL (l : List Int) (sz : Nat) : Except Int (Int × List Int) := if l.length < sz then .error 201 else .ok (val (l.take sz), l.drop sz)
theorem cntL_all {l : List Int} (hb : Byt l) {sz : Nat} (hz8 : sz ≤ 8) (bad : Int) : cntL l sz 18446744073709551615 bad = numL l sz := by
  unfold cntL numL
  by_cases h : l.length < sz
  · rw [if_pos h, if_pos h]
  · rw [if_neg h, if_neg h]
    have hvr := val_range (hb.take sz) (l.take sz).length (Nat.le_refl _)
    rw [List.take_length, List.length_take, Nat.min_eq_left (by omega)] at hvr
    have h3 : (256 : Int) ^ sz ≤ 18446744073709551616 := by
      have hd : sz = 0 ∨ sz = 1 ∨ sz = 2 ∨ sz = 3 ∨ sz = 4 ∨ sz = 5 ∨ sz = 6 ∨ sz = 7 ∨ sz = 8 := by omega
      rcases hd with rfl | rfl | rfl | rfl | rfl | rfl | rfl | rfl | rfl <;> decide
    rw [if_neg (by omega)]
theorem RdE.bytes {w : World} {h p : Nat} {l : List Int} (r : RdE w h p (.ok l)) : Byt l ∧ l.length ≤ 1073741824 := ⟨r.2.2.1, r.2.1⟩
set_option maxHeartbeats 2000000 in
theorem anyR_any {w : World} {h p : Nat} {X : Except Int (List Int)} (r : RdE w h p X) (sz : Nat) (hz8 : sz ≤ 8) :
    Calls Try.prog 34 #[.pointer (some ⟨p, 0, none⟩), .int .i64 sz] w fun e w' => EndsR w h p (X.bind fun l => numL l sz) e w' := by
  have hc := numR_any r sz hz8 18446744073709551615 0 (fun _ => Int.le_refl _)
  have he : (X.bind fun l => cntL l sz 18446744073709551615 0) = X.bind fun l => numL l sz := by
    cases X with
    | error x => rfl
    | ok l => exact cntL_all r.bytes.1 hz8 0
  rw [he] at hc
  clear he r
  generalize (X.bind fun l => numL l sz) = Y at *
  have HC := Aside0.mk hc
  clear hc
  go_enter Try.func34, Try.ntmps34
  go_wp2_with fail
  refine HC.out.mono ?_
  cases Y with
  | error x =>
    rintro e w2 ⟨hT, rfl, hx, l, hR⟩
    have HT := Aside0.mk hT
    have HR := Aside0.mk hR
    have HX := Aside0.mk hx
    clear hT hR hx
    go_wp2_with fail
    go_ret
    exact ⟨HT.out, rfl, HX.out, l, HR.out⟩
  | ok y =>
    obtain ⟨v, l2⟩ := y
    rintro e w2 ⟨hT, rfl, hR⟩
    have HT := Aside0.mk hT
    have HR := Aside0.mk hR
    clear hT hR
    go_wp2_with fail
    go_ret
    exact ⟨HT.out, rfl, HR.out⟩

/-- What is left behind. -/
def rest {α : Type} (Y : Except Int (α × List Int)) : Except Int (List Int) := match Y with
  | .ok y => .ok y.2
  | .error x => .error x
/-- number, any: one way for all. -/
def EndsU (w : World) (h p : Nat) (most : Int) (Y : Except Int (Int × List Int)) (e : Ending) (w' : World) : Prop :=
  Turned (fun k => k = p) w w' ∧ ∃ v, e = .returned (.int .u64 v) ∧ 0 ≤ v ∧ v ≤ most ∧ (∀ y, Y = .ok y → v = y.1) ∧ RdE w' h p (rest Y)
theorem EndsR.u {w w' : World} {h p : Nat} {most : Int} {Y : Except Int (Int × List Int)} {e : Ending} (hm : 0 ≤ most) (hY : ∀ y, Y = .ok y → 0 ≤ y.1 ∧ y.1 ≤ most) (r : EndsR w h p Y e w') : EndsU w h p most Y e w' := by
  cases Y with
  | error x => exact ⟨r.1, 0, r.2.1, Int.le_refl _, hm, fun _ e => (by cases e), r.2.2⟩
  | ok y => exact ⟨r.1, y.1, r.2.1, (hY y rfl).1, (hY y rfl).2, fun _ e => by cases e; rfl, r.2.2⟩
theorem cntL_rg {l l' : List Int} {sz : Nat} {most bad v : Int} (hb : Byt l) (h : cntL l sz most bad = .ok (v, l')) : 0 ≤ v ∧ v ≤ most := by
  unfold cntL at h
  split at h
  · cases h
  · split at h
    · cases h
    · cases h
      exact ⟨val_nat (hb.take sz), by omega⟩
theorem numU {w : World} {h p : Nat} {X : Except Int (List Int)} (r : RdE w h p X) (sz : Nat) (hz8 : sz ≤ 8) (most bad : Int) (hm : 0 ≤ most) (hbad : bad ≠ 0) :
    Calls Try.prog 54 #[.pointer (some ⟨p, 0, none⟩), .int .i64 sz, .int .u64 most, .int .i64 bad] w (EndsU w h p most (X.bind fun l => cntL l sz most bad)) := by
  refine (numR_any r sz hz8 most bad (fun e => absurd e hbad)).mono (fun e w' h => h.u hm (fun y hy => ?_))
  cases X with
  | error x => cases hy
  | ok l => exact cntL_rg r.bytes.1 hy
theorem anyU {w : World} {h p : Nat} {X : Except Int (List Int)} (r : RdE w h p X) (sz : Nat) (hz8 : sz ≤ 8) :
    Calls Try.prog 34 #[.pointer (some ⟨p, 0, none⟩), .int .i64 sz] w (EndsU w h p 18446744073709551615 (X.bind fun l => numL l sz)) := by
  refine (anyR_any r sz hz8).mono (fun e w' h => h.u (by omega) (fun y hy => ?_))
  cases X with
  | error x => cases hy
  | ok l =>
    have hy2 : numL l sz = .ok y := hy
    rw [← cntL_all r.bytes.1 hz8 1] at hy2
    exact cntL_rg (v := y.1) r.bytes.1 hy2
def cutL (l : List Int) (n : Nat) : Except Int (List Int × List Int) := if l.length < n then .error 201 else .ok (l.take n, l.drop n)
/-- take: one way for all. -/
def EndsK (w : World) (h p : Nat) (n : Nat) (Y : Except Int (List Int × List Int)) (e : Ending) (w' : World) : Prop :=
  Turned (fun k => k = p) w w' ∧ ∃ A c q, e = .returned (.slice A q.length c) ∧ q.length ≤ c ∧ q.length ≤ n ∧ Kd.F (Kd.int .u8) w' (fun k => k < h) A q.length q ∧ (∀ y, Y = .ok y → q = y.1) ∧ RdE w' h p (rest Y)
theorem takeU {w : World} {h p : Nat} {X : Except Int (List Int)} (r : RdE w h p X) (n : Nat) :
    Calls Try.prog 61 #[.pointer (some ⟨p, 0, none⟩), .int .i64 n] w (EndsK w h p n (X.bind fun l => cutL l n)) := by
  cases X with
  | error x =>
    obtain ⟨hx, l, r⟩ := r
    exact (take_off r hx n).mono (fun e w' ⟨h1, h2⟩ => by subst h2; exact ⟨Turned.refl _ w, none, 0, [], h1, Nat.le_refl _, Nat.zero_le _, Kd.F_nil _ _ _, fun _ e => (by cases e), hx, l, r⟩)
  | ok l =>
    by_cases hn : n ≤ l.length
    · refine (take_ok r n hn).mono (fun e w' ⟨⟨A, c, h1, h2, h3⟩, h4, h5⟩ => ?_)
      have hl : (l.take n).length = n := by rw [List.length_take]; omega
      have he : (Except.ok l : Except Int (List Int)).bind (fun l => cutL l n) = .ok (l.take n, l.drop n) := by simp [Except.bind, cutL]; omega
      rw [he]
      exact ⟨h5, A, c, l.take n, by rw [hl]; exact h1, by omega, by omega, by rw [hl]; exact h3, fun _ e => by cases e; rfl, h4⟩
    · have he : (Except.ok l : Except Int (List Int)).bind (fun l => cutL l n) = .error 201 := by simp [Except.bind, cutL]; omega
      rw [he]
      exact (take_short r n (by omega)).mono (fun e w' ⟨h1, h2, h3⟩ => ⟨h3, none, 0, [], h1, Nat.le_refl _, Nat.zero_le _, Kd.F_nil _ _ _, fun _ e => (by cases e), by omega, l, h2⟩)

def txtL (l : List Int) : Except Int (List Int × List Int) := match cntL l 2 2048 2 with
  | .error x => .error x
  | .ok (n, l1) => cutL l1 n.toNat
/-- A row of the reader's: one way for all. -/
def EndsX {α : Type} (d : Kd α) (t : Nat) (w : World) (h p : Nat) (Y : Except Int (List α × List Int)) (e : Ending) (w' : World) : Prop :=
  Turned (fun k => k = p) w w' ∧ ∃ v q, e = .returned v ∧ Kd.R d t w' w.heap.size (fun _ => True) v q ∧ q.length ≤ 4096 ∧ (∀ y, Y = .ok y → q = y.1) ∧ RdE w' h p (rest Y)
theorem R_turn {α : Type} {d : Kd α} {t : Nat} {w w' : World} {base p : Nat} {ok : Nat → Prop} {v : Value} {q : List α} (h : Kd.R d t w base ok v q) (hT : Turned (fun k => k = p) w w') (hp : p < base) : Kd.R d t w' base ok v q :=
  Kd.R_mono (Kd.R_step (Kd.R_bound h) (fun k hk hlt => hT.block k hlt (fun e => by have := hk.2.1; omega))) (fun k hk => hk.1)
set_option maxHeartbeats 2000000 in
theorem textU {w : World} {h p : Nat} {X : Except Int (List Int)} (r : RdE w h p X) :
    Calls Try.prog 56 #[.pointer (some ⟨p, 0, none⟩)] w (EndsX (Kd.int .u8) 5 w h p (X.bind txtL)) := by
  have HR := Aside0.mk r
  have hpl := r.lt.1
  clear r
  go_enter Try.func56, Try.ntmps56
  go_wp2_with fail
  refine (numU HR.out 2 (by omega) 2048 2 (by omega) (by omega)).mono ?_
  rintro e w1 ⟨hT1, v, rfl, hv0, hv1, hvY, hR1⟩
  have hw : IntKind.i64.wrap v = v := IntWalk.i64_in _ (by omega)
  obtain ⟨n, rfl⟩ : ∃ n : Nat, v = n := ⟨v.toNat, by omega⟩
  have HT1 := Aside0.mk hT1
  have HR1 := Aside0.mk hR1
  have HVY := Aside0.mk hvY
  have hz1 := hT1.size
  clear hT1 hR1 hvY
  go_wp2_with fail
  refine (takeU (HR1.out.below (below_alloc (Below.refl _ _) _)) n).mono ?_
  rintro e w2 ⟨hT2, A, c, q, rfl, hqc, hqn, hF, hqY, hR2⟩
  have hrow := R_turn (R_empty (Kd.int .u8) 5 w1 w.heap.size hz1) hT2 hpl
  have hz2 := hT2.size
  have HT2 := Aside0.mk hT2
  have HROW := Aside0.mk hrow
  have HF := Aside0.mk (Kd.F_now hF)
  have HR2 := Aside0.mk hR2
  have HQY := Aside0.mk hqY
  have hsz : (w1.alloc (.cells #[] 5)).heap.size = w1.heap.size + 1 := by simp
  rw [hsz] at hz2
  clear hT2 hrow hF hR2 hqY hsz
  go_wp2_with (at_builtin; refine Kd.R_append_rows (Kd.int .u8) (w0 := w2) w.heap.size rfl (.tmp 7) (.tmp 10) 24 5 (.int .u8 0) 1 rfl Try.underlying24 info5 rfl (by decide) (by omega) (.slice (some ⟨w1.heap.size, 0, none⟩) 0 0) ([] : List Int) q _ _ _ (fun _ => True) (fun _ => False) rfl rfl HROW.out HF.out (fun _ _ h => h) (fun _ h => h.elim) (fun _ _ => trivial) (Below.refl _ _) (by omega) (by simp; omega) ?_; intro v102 w6 ho hb hg hat; rw [List.nil_append] at ho; have HO := Aside0.mk ho; have HB := Aside0.mk hb; have HG := Aside0.mk hg; clear ho hb hg hat)
  go_ret
  have hrow : ∀ k, (Value.slice (some ⟨w1.heap.size, 0, none⟩) 0 0).ownBlock = some k → k = w1.heap.size := fun k hk => by simp [Value.ownBlock] at hk; omega
  have hTa : Turned (fun k => k = p) w w6 := ((HT1.out.alloc _).then_ HT2.out (fun k hk => .inl hk)).grown HG.out (fun k hk => .inr (by have := hrow k hk; omega))
  have hTb : Turned (fun k => k = w1.heap.size) w2 w6 := (Turned.refl _ w2).grown HG.out (fun k hk => .inl (hrow k hk))
  have hlt := HR.out.lt.2
  refine ⟨hTa, _, q, rfl, HO.out, by omega, fun y hy => ?_, ?_⟩
  · cases X with
    | error x => cases hy
    | ok l =>
      have hy2 : txtL l = .ok y := hy
      unfold txtL at hy2
      have h3 := HVY.out
      have h4 := HQY.out
      have e1 : (Except.ok l : Except Int (List Int)).bind (fun l => cntL l 2 2048 2) = cntL l 2 2048 2 := rfl
      rw [e1] at h3 h4
      cases hc : cntL l 2 2048 2 with
      | error x => rw [hc] at hy2; cases hy2
      | ok z =>
        rw [hc] at hy2 h3 h4
        have e2 := h3 z rfl
        have hy3 : cutL z.2 z.1.toNat = .ok y := hy2
        rw [← e2, Int.toNat_natCast] at hy3
        exact h4 y hy3
  · have e : rest (X.bind txtL) = rest ((rest (X.bind fun l => cntL l 2 2048 2)).bind fun l => cutL l n) := by
      cases X with
      | error x => rfl
      | ok l =>
        have h3 := HVY.out
        have e1 : (Except.ok l : Except Int (List Int)).bind (fun l => cntL l 2 2048 2) = cntL l 2 2048 2 := rfl
        have e2 : (Except.ok l : Except Int (List Int)).bind txtL = txtL l := rfl
        rw [e1] at h3 ⊢
        rw [e2, txtL]
        cases hc : cntL l 2 2048 2 with
        | error x => rfl
        | ok z =>
          have e3 := h3 z hc
          show rest (cutL z.2 z.1.toNat) = rest (cutL z.2 n)
          rw [← e3, Int.toNat_natCast]
    rw [e]
    exact HR2.out.turn hTb (fun k hk => by have := HR1.out.lt; omega)
end Go.Proofs.Ytmjbdeoomohanaa.Mine
