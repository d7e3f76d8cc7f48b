/- pax: PaxOwn. -/
import Derived.Test.YtbidbjgklonbpaaDoorPaxU
import Derived.Test.YtbidbjgklonbpaaDoorPaxOa
set_option linter.unusedSimpArgs false
set_option linter.unusedVariables false
namespace Go.Proofs.YtbidbjgklonbpaaDoor.Mine
open Go.RowKit Go.Maps Go.Proofs.YtbidbjgklonbpaaDoorW.PrintWords Go.Proofs.YtbidbjgklonbpaaDoorW.PrintLast Go.Proofs.YtbidbjgklonbpaaDoorW.PrintMore Go.Proofs.YtbidbjgklonbpaaDoor.Turn Go.Proofs.YtbidbjgklonbpaaDoor.PPaxGets

def hasK (l : List S23) (key : ByteArray) : Bool := l.any fun p => p.f0.toList == key.toList
set_option maxHeartbeats 1000000 in
theorem named_any (A : Option Addr) (c : Nat) (l : List S23) (key : ByteArray) (w : World) (hl : l.length ≤ 4398046511104) (hr : Kd.C k23 w A l.length l) :
    Calls Tryd.prog 28 #[.slice A l.length c, .string key] w fun e w' => e = .returned (.bool (hasK l key)) ∧ w' = w := by
  have HR := Aside0.mk hr
  clear hr
  have HH : Aside0 (∀ k, k < l.length → ((rdP l k).f0.toList == key.toList) = true → hasK l key = true) := ⟨fun k hk he => by
    unfold hasK
    rw [List.any_eq_true]
    exact ⟨rdP l k, by rw [rdP_get hk]; exact List.getElem_mem hk, he⟩⟩
  have HN : Aside0 ((∀ k, k < l.length → ((rdP l k).f0.toList == key.toList) = false) → hasK l key = false) := ⟨fun h => by
    unfold hasK
    rw [List.any_eq_false]
    intro p hp
    obtain ⟨k, hk, rfl⟩ := List.getElem_of_mem hp
    have := h k hk
    rw [rdP_get hk] at this
    simpa using this⟩
  go_enter Tryd.func28, Tryd.ntmps28
  go_wp2_with fail
  go_loopw [5] (fun v5 wr => ∃ k : Nat, k ≤ l.length ∧ v5 = .int .i64 k ∧ Aside0 (∀ j, j < k → ((rdP l j).f0.toList == key.toList) = false) ∧ wr = w) (fun v5 _ => l.length - (intOf v5).toNat)
  case atStart => exact ⟨0, Nat.zero_le _, rfl, ⟨fun j h => by omega⟩, rfl⟩
  case round =>
    obtain ⟨k, hk, rfl, HA, hwr⟩ := hrel
    subst hwr
    by_cases hlt : k < l.length
    · obtain ⟨ad, e, hx0, hx1⟩ := cell_pair HR.out (Below.refl _ _) hlt hl
      subst e
      obtain ⟨q, hq⟩ : ∃ q, ((rdP l k).f0.toList == key.toList) = q := ⟨_, rfl⟩
      have HQ := Aside0.mk hq
      cases q with
      | true =>
        have hh := HH.out k hlt hq
        go_wp2_with fail
        go_ret
        exact ⟨by rw [hh]; rfl, rfl⟩
      | false =>
        have HA2 : Aside0 (∀ j, j < k + 1 → ((rdP l j).f0.toList == key.toList) = false) := ⟨fun j hj => by
          rcases Nat.lt_or_ge j k with h | h
          · exact HA.out j h
          · obtain rfl : j = k := by omega
            exact HQ.out⟩
        go_wp2_with fail
        go_roundw
        case rel => exact ⟨k + 1, by omega, by go_num, HA2, trivial⟩
        case measure => simp [intOf]; omega
    · obtain rfl : k = l.length := by omega
      have hn := HN.out HA.out
      go_wp2_with fail
      go_ret
      exact ⟨by rw [hn]; rfl, rfl⟩

theorem over_err2 {l m : List S23} (h : (overF l m).2 ≠ 0) : (overF l m).1 = [] := by
  unfold overF at h ⊢
  split
  · rfl
  · rename_i h1
    rw [if_neg h1] at h
    split
    · rfl
    · rename_i h2
      rw [if_neg h2] at h
      split
      · rfl
      · rename_i h3
        rw [if_neg h3] at h
        exact absurd rfl h
theorem R_stable {W W' : World} {B lo hi : Nat} {v : Value} {xs : List S23} (h : Kd.R k23 23 W B (fun k => lo ≤ k ∧ k < hi) v xs) (hk : ∀ k, lo ≤ k → k < hi → W'.heap[k]? = W.heap[k]?) : Kd.R k23 23 W' B (fun k => lo ≤ k ∧ k < hi) v xs :=
  Kd.R_step h (fun k hok _ => hk k hok.1 hok.2)
theorem R_seg_ {W : World} {B : Nat} {v : Value} {xs : List S23} (h : Kd.R k23 23 W B (fun k => B ≤ k) v xs) : Kd.R k23 23 W B (fun k => B ≤ k ∧ k < W.heap.size) v xs :=
  Kd.R_mono (Kd.R_bound h) (fun k hk => ⟨hk.2.1, hk.2.2.1⟩)
theorem below_keep {W W' : World} (hb : Below W.heap.size W W') {lo hi : Nat} (hh : hi ≤ W.heap.size) : ∀ k, lo ≤ k → k < hi → W'.heap[k]? = W.heap[k]? := fun k _ h => hb.block k (by omega)
theorem own_stable {lo hi : Nat} {v : Value} {L : List Int} (hv : ∀ k, v.ownBlock = some k → lo ≤ k ∧ k < hi) : Stable (fun W => Own W lo v L) lo hi := fun W W' hk h => own_out h (fun k h1 => hk k (hv k h1).1 (hv k h1).2)
theorem own_seg {W : World} {B : Nat} {v : Value} {L : List Int} (h : Own W B v L) : ∀ k, v.ownBlock = some k → B ≤ k ∧ k < W.heap.size := fun k hk => ⟨own_base h k hk, own_lt h k hk⟩
theorem cellsP_length : ∀ l : List S23, (cellsP l).length = l.length * 2
  | [] => rfl
  | x :: l => by
    have ih := cellsP_length l
    show (cellsP l).length + 1 + 1 = _
    rw [ih, List.length_cons]
    omega
theorem wpList_append_run {P : Program} (w : World) {ops : Array Oper} {rest : List Oper} {o : Oper} {a : Act} {Q : Exit → Act → World → Prop} (hgd : o.guard = none) (s x : Operand) (t : TypeId)
    (ho : o.op = .call { callee := .builtin .append, args := #[s, x], argTypes := #[t, t] }) {v1 v2 v' : Value} {w' : World} (hs : a.eval s = v1) (hx : a.eval x = v2) (hrun : ∀ ty, (Builtin.append_ #[t, t] ty #[v1, v2]).run P w = .ok v' w')
    (hK : wpList P ops Q rest (a.put o.dst v') w') : wpList P ops Q (o :: rest) a w := by
  refine wpList_plain hgd fun K hK' => ?_
  unfold Oper.wp
  simp [execOp, ho, resolve, invoke, builtin, hs, hx, hrun, Result.andThen]
  exact hK' _ _ hK
theorem nextcap_small (n : Nat) (h : n ≤ 100) : Builtin.nextslicecap (n + 4) n ≤ 1000 := by
  unfold Builtin.nextslicecap
  split
  · omega
  · rw [if_pos (by omega)]
    omega
theorem row_sevens (W : World) : ReadsInt (W.alloc (.cells #[.int .u8 7, .int .u8 7, .int .u8 7, .int .u8 7, .int .u8 7, .int .u8 7, .int .u8 7, .int .u8 7, .int .u8 7, .int .u8 7] 5)) .u8 (some ⟨W.heap.size, 0, none⟩) 10 [7, 7, 7, 7, 7, 7, 7, 7, 7, 7] :=
  Kd.reads_of_C (enc := Value.int .u8) (d := (0 : Int)) (h1 := fun _ => rfl) (row_u8 (heap_new W (.cells #[.int .u8 7, .int .u8 7, .int .u8 7, .int .u8 7, .int .u8 7, .int .u8 7, .int .u8 7, .int .u8 7, .int .u8 7, .int .u8 7] 5)) [7, 7, 7, 7, 7, 7, 7, 7, 7, 7] rfl (by decide))

theorem own_put {W : World} {B g n c : Nat} {L : List Int} (h : Own W B (.slice (some ⟨g, 0, none⟩) n c) L) (hn : n = L.length) (k : Nat) (x : Int) : Own (W.setCell ⟨g, k, none⟩ (.int .u8 x)) B (.slice (some ⟨g, 0, none⟩) n c) (L.set k x) ∧ W.grownBy (W.setCell ⟨g, k, none⟩ (.int .u8 x)) (some g) := by
  subst hn
  have := own_store h (k : Int) x
  rw [Int.toNat_natCast] at this
  refine ⟨?_, this.2⟩
  unfold Own
  rw [List.length_set]
  exact this.1
theorem R_shape {W : World} {B n c : Nat} {A : Option Addr} {ok : Nat → Prop} {xs : List S23} (h : Kd.R k23 23 W B ok (.slice A n c) xs) : (A = none ∧ n = 0 ∧ c = 0) ∨ ∃ g, A = some ⟨g, 0, none⟩ ∧ ok g ∧ g < W.heap.size ∧ ∀ k, k < xs.length → W.cell? ⟨g, k * 2, none⟩ = some (.string (rdP xs k).f0) ∧ W.cell? ⟨g, k * 2 + 1, none⟩ = some (.string (rdP xs k).f1) ∧ W.frozen? ⟨g, k * 2, none⟩ = false ∧ W.frozen? ⟨g, k * 2 + 1, none⟩ = false := by
  obtain ⟨hn, hcap, hC⟩ := Kd.R_reads' h
  obtain ⟨inner, hown⟩ := Kd.R_own h
  rcases hown.2 with ⟨h2, h3⟩ | ⟨g, cap, cur, hv, hg, hb, r⟩
  · injection h2 with e1 e2 e3
    exact .inl ⟨e1, e2, e3⟩
  · injection hv with e4 e5 e6
    subst e4
    refine .inr ⟨g, rfl, h.1 g rfl, blk_lt hb, fun k hk => ?_⟩
    obtain ⟨ad, e, hx0, hx1⟩ := at_T23 hC (k : Int) (by omega) (by omega)
    injection e with e
    subst e
    rw [Int.toNat_natCast, add_zero, show rd_T23 xs (k : Int) = rdP xs k by unfold rd_T23 rdP; rw [Int.toNat_natCast]] at hx0 hx1
    exact ⟨hx0, hx1, by simp [World.frozen?, hb], by simp [World.frozen?, hb]⟩
theorem R_gone {W : World} {B g n c : Nat} {ok : Nat → Prop} {xs : List S23} (h : Kd.R k23 23 W B ok (.slice (some ⟨g, 0, none⟩) n c) xs) (k : Nat) (hk : k < n) {a b p q : ByteArray} (h0 : W.cell? ⟨g, k * 2, none⟩ = some (.string p)) (h1 : W.cell? ⟨g, k * 2 + 1, none⟩ = some (.string q)) : Kd.R k23 23 ((W.setCell ⟨g, k * 2, none⟩ (.string a)).setCell ⟨g, k * 2 + 1, none⟩ (.string b)) B ok (.slice (some ⟨g, 0, none⟩) n c) (xs.set k ⟨a, b⟩) ∧ W.grownBy ((W.setCell ⟨g, k * 2, none⟩ (.string a)).setCell ⟨g, k * 2 + 1, none⟩ (.string b)) (some g) := by
  have := Kd.R_seg h (k : Int) (by omega) (by omega) (c := [.string p, .string q]) (seg := [.string a, .string b]) (j := 0) rfl (fun j u hj => by
    rw [Int.toNat_natCast]
    match j, hj with
    | 0, hj => simp at hj; subst hj; exact h0
    | 1, hj => simp at hj; subst hj; exact h1
    | j + 2, hj => simp at hj) (Nat.le_refl _) (x' := ⟨a, b⟩) (okp := fun _ => False) (k23_mkM _ _ _ ⟨a, b⟩) (fun _ h => h.elim)
  rw [Int.toNat_natCast] at this
  exact this
set_option maxRecDepth 100000 in
theorem app_pairs {W : World} {A : Option Addr} {n g : Nat} {xs news : List S23} (hn : n = xs.length) (h64 : n ≤ 100) (hA : (A = none ∧ n = 0) ∨ ∃ g', A = some ⟨g', 0, none⟩ ∧ ∀ k, k < xs.length → W.cell? ⟨g', k * 2, none⟩ = some (.string (rdP xs k).f0) ∧ W.cell? ⟨g', k * 2 + 1, none⟩ = some (.string (rdP xs k).f1) ∧ W.frozen? ⟨g', k * 2, none⟩ = false ∧ W.frozen? ⟨g', k * 2 + 1, none⟩ = false) (hnews : news.length = 4) (hC : Kd.C k23 W (some ⟨g, 0, none⟩) news.length news) :
    ∃ A' n' c' W', (∀ ty, (Builtin.append_ #[33, 33] ty #[.slice A n n, .slice (some ⟨g, 0, none⟩) 4 4]).run Tryd.prog W = .ok (.slice A' n' c') W') ∧ Below W.heap.size W W' := by
  obtain ⟨i0, hi, hz0, hz1, hz2⟩ := info_parts info23
  have cellN : ∀ j v, (cellsP news)[j]? = some v → W.cell? ((⟨g, 0, none⟩ : Addr).add j) = some v := by
    intro j v hj
    rw [add_zero]
    have hjl : j < news.length * 2 := by
      have := (List.getElem?_eq_some_iff.1 hj).1
      rwa [cellsP_length] at this
    obtain ⟨ad, e, hx0, hx1⟩ := at_T23 hC ((j / 2 : Nat) : Int) (by omega) (by omega)
    injection e with e
    subst e
    rw [Int.toNat_natCast, add_zero, show rd_T23 news ((j / 2 : Nat) : Int) = rdP news (j / 2) by unfold rd_T23 rdP; rw [Int.toNat_natCast]] at hx0 hx1
    obtain ⟨e0, e1⟩ := cellsP_at news (j / 2) (rdP news (j / 2)) (by rw [rdP_get (by omega), List.getElem?_eq_getElem (by omega)])
    rcases Nat.mod_two_eq_zero_or_one j with h | h
    · have : j = j / 2 * 2 := by omega
      rw [← this] at hx0 e0
      rw [hx0, ← e0, hj]
    · have : j = j / 2 * 2 + 1 := by omega
      rw [← this] at e1
      have hx1' : W.cell? ⟨g, j / 2 * 2 + 1, none⟩ = some (.string (rdP news (j / 2)).f1) := hx1
      rw [← this] at hx1'
      rw [hx1', ← e1, hj]
  rcases hA with ⟨rfl, h0⟩ | ⟨g', rfl, hold⟩
  · subst h0
    refine ⟨_, _, _, _, fun ty => run_append_nil (P := Tryd.prog) W 33 ty 23 i0 _ Tryd.underlying33 hi hz0 ⟨g, 0, none⟩ 4 4 (cellsP news) (by rw [cellsP_length, hz1, hnews]) cellN (by omega) (by omega) (by rw [hz2]; omega), ?_⟩
    exact (Below.drew (Below.refl _ W)).alloc (Nat.le_refl _) _
  · refine ⟨_, _, _, _, fun ty => run_append_grow (P := Tryd.prog) W 33 ty 23 i0 _ Tryd.underlying33 hi hz0 ⟨g', 0, none⟩ n n (cellsP xs) (by rw [cellsP_length, hz1, hn]) (fun j v hj => ?_) ⟨g, 0, none⟩ 4 4 (cellsP news) (by rw [cellsP_length, hz1, hnews]) cellN (by omega) (by omega) ?_, ?_⟩
    · rw [add_zero]
      have hjl : j < xs.length * 2 := by
        have := (List.getElem?_eq_some_iff.1 hj).1
        rwa [cellsP_length] at this
      obtain ⟨hx0, hx1, -, -⟩ := hold (j / 2) (by omega)
      obtain ⟨e0, e1⟩ := cellsP_at xs (j / 2) (rdP xs (j / 2)) (by rw [rdP_get (by omega), List.getElem?_eq_getElem (by omega)])
      rcases Nat.mod_two_eq_zero_or_one j with h | h
      · have : j = j / 2 * 2 := by omega
        rw [← this] at hx0 e0
        rw [hx0, ← e0, hj]
      · have : j = j / 2 * 2 + 1 := by omega
        rw [← this] at hx1 e1
        rw [hx1, ← e1, hj]
    · rw [hz2]
      have := nextcap_small n (by omega)
      omega
    · exact (Below.drew (Below.refl _ W)).alloc (Nat.le_refl _) _

set_option maxHeartbeats 8000000 in
set_option maxRecDepth 100000 in
theorem paxOwn_any (A B : Option Addr) (c c' : Nat) (l m : List S23) (hl : l.length ≤ 4398046511104) (hm : m.length ≤ 4398046511104) (hsl : SmallP l) (hsm : SmallP m) (hc : l.length ≤ c) (hc' : m.length ≤ c') (w : World) (hr : Kd.C k23 w A l.length l) (hr' : Kd.C k23 w B m.length m) (ht : Tab w) (hmx : MaxL w) :
    Calls Tryd.prog 9 #[.slice A l.length c, .slice B m.length c'] w fun e w' => e = .returned (.bool true) ∧ Below w.heap.size w w' := by
  have HR := Aside0.mk hr
  have HR' := Aside0.mk hr'
  have HT := Aside0.mk ht
  have HM := Aside0.mk hmx
  have HPU : Aside0 (∀ (x : List S23) (a : Option Addr) (cc : Nat) (W : World), Below w.heap.size w W → SmallP x → x.length ≤ 4398046511104 → Kd.C k23 W a x.length x → Calls Tryd.prog 18 #[.slice a x.length cc] W (EndsPut W (putF x))) := ⟨fun x a cc W hb hs hx hC => put_any a cc x hs hx W hC (ht.below hb)⟩
  have HGE : Aside0 (∀ (L : List Int) (a : Option Addr) (cc : Nat) (W : World), Below w.heap.size w W → (∀ x ∈ L, 0 ≤ x ∧ x < 256) → L.length ≤ 1152921504606846976 → L.length ≤ cc → Kd.C (Kd.int .u8) W a L.length L → Calls Tryd.prog 24 #[.slice a L.length cc] W (EndsGetR W (getF L))) := ⟨fun L a cc W hbw hbb hL hcc hC => get_anyR a cc L W hbb hL hcc hC (ht.below hbw) (hmx.below hbw)⟩
  have HOV : Aside0 (∀ W, Below w.heap.size w W → Calls Tryd.prog 21 #[.slice A l.length c, .slice B m.length c'] W (EndsOver W (overF l m))) := ⟨fun W hb => over_any A B c c' l m hl hm hsl hsm hc hc' W (Kd.C_below hr hb) (Kd.C_below hr' hb) (ht.below hb)⟩
  have HSL := Aside0.mk hsl
  have HSM := Aside0.mk hsm
  clear hr hr' ht hmx hsl hsm
  unfold EndsPut at HPU
  unfold EndsGetR at HGE
  unfold EndsOver at HOV
  go_enter Tryd.func9, Tryd.ntmps9
  go_wp2_with fail
  refine (awake_any w HT.out HM.out).mono ?_
  rintro e w1 ⟨rfl, hb1⟩
  have HB1 := Aside0.mk hb1
  clear hb1
  have HPG : Aside0 ((putF l).2.2 = 0 → getF (putF l).1 = (l, 0, 0)) := ⟨put_get⟩
  have HPE : Aside0 ((putF l).2.2 ≠ 0 → (putF l).1 = []) := ⟨putF_err⟩
  have HPR := Aside0.mk (putF_rg l)
  have HPL := Aside0.mk (putF_len l)
  have HQL := Aside0.mk (putF_len m)
  have HL64 : Aside0 ((putF l).2.2 = 0 → l.length ≤ 64) := ⟨fun h => (putF_ok h).1⟩
  have HPl := Aside0.mk (fun (a : Option Addr) (cc : Nat) W hb hC => HPU.out l a cc W hb HSL.out hl hC)
  have HPm := Aside0.mk (fun (a : Option Addr) (cc : Nat) W hb hC => HPU.out m a cc W hb HSM.out hm hC)
  have HVL := Aside0.mk (overF_len l m)
  have HVM : Aside0 (∀ p ∈ (overF l m).1, p ∈ l ∨ p ∈ m) := ⟨fun p hp => by
    by_cases h : (overF l m).2 = 0
    · rw [(over_good h).2.2.2.2.1] at hp
      exact mg_mem_le _ _ p hp
    · rw [over_err2 h] at hp
      cases hp⟩
  clear HPU
  generalize putF l = P at *
  generalize putF m = Q at *
  generalize overF l m = V at *
  obtain ⟨P1, P2, P3⟩ := P
  obtain ⟨Q1, Q2, Q3⟩ := Q
  obtain ⟨V1, V2⟩ := V
  simp only at HPG HPE HPR HPL HQL HL64 HPl HPm HVL HVM HOV
  go_wp2_with fail
  refine (HPl.out A c w1 HB1.out (Kd.C_below HR.out HB1.out)).mono ?_
  rintro e w2 ⟨A2, c2, rfl, ho2, hb2⟩
  have HB2 := Aside0.mk (below_step HB1.out hb2)
  have HO2 := Aside0.mk ho2
  have HS2 := Aside0.mk (own_seg ho2)
  have hz12 := hb2.size
  clear hb2 ho2
  go_wp2_with fail
  refine (HPm.out B c' w2 HB2.out (Kd.C_below HR'.out HB2.out)).mono ?_
  rintro e w3 ⟨A3, c3, rfl, ho3, hb3⟩
  have HB3 := Aside0.mk (below_step HB2.out hb3)
  have HO23 := Aside0.mk (HO2.out.below hb3)
  have HO3 := Aside0.mk ho3
  have HS3 := Aside0.mk (own_seg ho3)
  have hz23 := hb3.size
  clear hb3 ho3 HO2 HPm
  go_wp2_with fail
  refine (HPl.out A c w3 HB3.out (Kd.C_below HR.out HB3.out)).mono ?_
  rintro e w4 ⟨A4, c4, rfl, ho4, hb4⟩
  have HB4 := Aside0.mk (below_step HB3.out hb4)
  have HO24 := Aside0.mk (HO23.out.below hb4)
  have HO34 := Aside0.mk (HO3.out.below hb4)
  have HO4 := Aside0.mk ho4
  have HS4 := Aside0.mk (own_seg ho4)
  have hz34 := hb4.size
  clear hb4 ho4 HO23 HO3
  by_cases h3 : P3 = 0
  case neg =>
    have hp := HPE.out h3
    subst hp
    have hne : (P3 != 0) = true := bne_iff_ne.2 h3
    go_wp2_with fail
    go_ret
    exact ⟨rfl, HB4.out⟩
  case pos =>
    subst h3
    have hg := HPG.out rfl
    have hl64 := HL64.out rfl
    have hpl := HPL.out
    obtain ⟨sW, hsW⟩ : ∃ s, strOfNums P1 = s := ⟨_, rfl⟩
    have HSW := Aside0.mk hsW
    have hcv : (convert 24 9 (.slice A4 P1.length c4)).run Tryd.prog w4 = .ok (.string sW) w4 := by rw [← hsW]; exact own_str HO4.out
    clear hsW
    go_wp2_with fail
    have h1 := HGE.out P1 A2 c2 w4 HB4.out HPR.out (by omega) HO24.out.C.1 HO24.out.C.2
    rw [hg] at h1
    refine Calls.mono h1 ?_
    rintro e w5 ⟨hb5, A5, c5, rfl, hR5⟩
    have HB5 := Aside0.mk (below_step HB4.out hb5)
    have HX5 := Aside0.mk (R_seg_ hR5)
    have HO25 := Aside0.mk (HO24.out.below hb5)
    have HO35 := Aside0.mk (HO34.out.below hb5)
    have HO45 := Aside0.mk (HO4.out.below hb5)
    have hz45 := hb5.size
    clear hb5 hR5 h1 HO24 HO34 HO4 hcv
    go_wp2_with fail
    have h1 := HGE.out P1 A4 c4 w5 HB5.out HPR.out (by omega) HO45.out.C.1 HO45.out.C.2
    rw [hg] at h1
    refine Calls.mono h1 ?_
    rintro e w6 ⟨hb6, A6, c6, rfl, hR6⟩
    have HB6 := Aside0.mk (below_step HB5.out hb6)
    have HY6 := Aside0.mk (R_seg_ hR6)
    have HX6 := Aside0.mk (R_stable HX5.out (below_keep hb6 (Nat.le_refl _)))
    have HO26 := Aside0.mk (HO25.out.below hb6)
    have HO36 := Aside0.mk (HO35.out.below hb6)
    have HO46 := Aside0.mk (HO45.out.below hb6)
    have hz56 := hb6.size
    clear hb6 hR6 h1 HO25 HO35 HO45 HX5 hg
    go_wp2_with fail
    refine (HOV.out w6 HB6.out).mono ?_
    rintro e w7 ⟨hb7, A7, c7, B7, rfl, hB7, hR7⟩
    have HB7 := Aside0.mk (below_step HB6.out hb7)
    have HU7 := Aside0.mk (R_seg_ hR7)
    have HX7 := Aside0.mk (R_stable HX6.out (below_keep hb7 (by omega)))
    have HY7 := Aside0.mk (R_stable HY6.out (below_keep hb7 (Nat.le_refl _)))
    have HO27 := Aside0.mk (HO26.out.below hb7)
    have HO37 := Aside0.mk (HO36.out.below hb7)
    have HO47 := Aside0.mk (HO46.out.below hb7)
    have hz67 := hb7.size
    clear hb7 hR7 HO26 HO36 HO46 HX6 HY6
    go_wp2_with fail
    refine (HOV.out w7 HB7.out).mono ?_
    rintro e w8 ⟨hb8, A8, c8, B8, rfl, hB8, hR8⟩
    have HB8 := Aside0.mk (below_step HB7.out hb8)
    have HV8 := Aside0.mk (R_seg_ hR8)
    have HU8 := Aside0.mk (R_stable HU7.out (below_keep hb8 (Nat.le_refl _)))
    have HX8 := Aside0.mk (R_stable HX7.out (below_keep hb8 (by omega)))
    have HY8 := Aside0.mk (R_stable HY7.out (below_keep hb8 (by omega)))
    have HO28 := Aside0.mk (HO27.out.below hb8)
    have HO38 := Aside0.mk (HO37.out.below hb8)
    have HO48 := Aside0.mk (HO47.out.below hb8)
    have hz78 := hb8.size
    clear hb8 hR8 HO27 HO37 HO47 HX7 HY7 HU7 HOV HPG HPE
    have HYP : Aside0 (HypG w w8 w1.heap.size w2.heap.size w2.heap.size w3.heap.size (fun W => Own W w2.heap.size (.slice A3 Q1.length c3) Q1)) := ⟨HB8.out.size, HB1.out.size, HB2.out.size, Nat.le_refl _, by omega, by omega, own_stable HS3.out⟩
    have HG0 : Aside0 (StG w w8 24 w1.heap.size w2.heap.size w2.heap.size w3.heap.size (.slice A2 P1.length c2) (.slice A3 Q1.length c3) (fun W => Own W w1.heap.size (.slice A2 P1.length c2) P1) (fun W => Own W w2.heap.size (.slice A3 Q1.length c3) Q1) 0 (w8.alloc (.cells #[.slice A2 P1.length c2, .slice A3 Q1.length c3] 24))) :=
      ⟨below_alloc HB8.out _, (Out.refl _ _).to (by simp) (fun k hk _ => (below_alloc (Below.refl _ w8) _).block k hk), ⟨_, _, Blk.new w8 _ 24, fun _ => rfl, fun _ => rfl⟩, fun _ => HO28.out.below (below_alloc (Below.refl _ _) _), fun _ => HO38.out.below (below_alloc (Below.refl _ _) _)⟩
    have hql := HQL.out
    clear HO28 HO38
    go_wp2_with fail
    generalize w8.alloc (.cells #[.slice A2 P1.length c2, .slice A3 Q1.length c3] 24) = W9 at *
    go_loopw [26] (fun v26 wr => ∃ i : Nat, i ≤ 2 ∧ v26 = .int .i64 i ∧ Aside0 (StG w w8 24 w1.heap.size w2.heap.size w2.heap.size w3.heap.size (.slice A2 P1.length c2) (.slice A3 Q1.length c3) (fun W => Own W w1.heap.size (.slice A2 P1.length c2) P1) (fun W => Own W w2.heap.size (.slice A3 Q1.length c3) Q1) i wr)) (fun v26 _ => 2 - (intOf v26).toNat)
    case atStart => exact ⟨0, by omega, rfl, HG0⟩
    case round =>
      clear HG0
      obtain ⟨i, hi, rfl, HG⟩ := hrel
      by_cases hlt : i < 2
      case pos =>
        obtain ⟨vc, hvc, hin⟩ := HG.out.cur hlt
        obtain ⟨An, nn, cn, Bn, Ln, hvc2, hnn, hown, hn70, hBle, hseg⟩ : ∃ An nn cn Bn Ln, vc = .slice An nn cn ∧ nn = List.length Ln ∧ Own wr Bn (.slice An nn cn) Ln ∧ nn ≤ 70400 ∧ Bn ≤ wr.heap.size ∧ ∀ k, (Value.slice An nn cn).ownBlock = some k → (i = 0 ∧ w1.heap.size ≤ k ∧ k < w2.heap.size) ∨ (i = 1 ∧ w2.heap.size ≤ k ∧ k < w3.heap.size) := by
          have hsz := hin.lt
          rcases hvc with ⟨rfl, rfl, ho⟩ | ⟨rfl, rfl, ho⟩
          · exact ⟨A2, P1.length, c2, w1.heap.size, P1, rfl, rfl, ho, hpl, by omega, fun k hk => .inl ⟨rfl, HS2.out k hk⟩⟩
          · exact ⟨A3, Q1.length, c3, w2.heap.size, Q1, rfl, rfl, ho, hql, by omega, fun k hk => .inr ⟨rfl, HS3.out k hk⟩⟩
        subst hvc2
        have HIN0 := Aside0.mk hin
        have HOWN0 := Aside0.mk hown
        have HSEG := Aside0.mk hseg
        have hw1 : IntKind.u8.wrap (i : Int) = (i : Int) := by
          have : i = 0 ∨ i = 1 := by omega
          rcases this with rfl | rfl <;> rfl
        have hw2 : (i : Int) % 256 = (i : Int) := by omega
        clear hvc hin hown hseg HG
        have HBLE := Aside0.mk hBle
        have HNN := Aside0.mk hnn
        clear hBle hnn
        go_wp2_with fail
        go_loopw [27] (fun v27 wr => ∃ (k : Nat) (L' : List Int), k ≤ nn ∧ v27 = .int .i64 k ∧ Aside0 (nn = L'.length) ∧ Aside0 (Bn ≤ wr.heap.size) ∧ Aside0 (InG w w8 24 w1.heap.size w2.heap.size w2.heap.size w3.heap.size (.slice A3 Q1.length c3) (fun W => Own W w2.heap.size (.slice A3 Q1.length c3) Q1) (.slice An nn cn) i wr) ∧ Aside0 (Own wr Bn (.slice An nn cn) L')) (fun v27 _ => nn - (intOf v27).toNat)
        case atStart => exact ⟨0, Ln, Nat.zero_le _, rfl, HNN, HBLE, HIN0, HOWN0⟩
        case round =>
          clear HIN0 HOWN0 HBLE HNN
          obtain ⟨k, L', hk, rfl, HNL, HBL, HIN, HOW⟩ := hrel
          have hcell := HIN.out.cell
          have hfree := HIN.out.free
          have hlt8 := HIN.out.lt
          by_cases hk2 : k < nn
          case pos =>
            obtain ⟨g, hA, hn, hBg, hgl, hcs, hfr⟩ := own_shape HOW.out (by have := HNL.out; omega)
            subst hA
            have hck := hcs k (by omega)
            have hfk := hfr k
            have hst := own_put HOW.out HNL.out k (i : Int)
            have hbk := HSEG.out g rfl
            have HIN2 := Aside0.mk (HIN.out.grown HYP.out hlt hst.2 (fun g' e => by injection e with e; subst e; rcases hbk with h | h <;> omega))
            have HOW2 := Aside0.mk hst.1
            have HNL2 : Aside0 (nn = (L'.set k (i : Int)).length) := ⟨by rw [List.length_set]; exact HNL.out⟩
            have HBL2 : Aside0 (Bn ≤ (wr.setCell ⟨g, k, none⟩ (.int .u8 (i : Int))).heap.size) := ⟨Nat.le_trans HBL.out hst.2.size⟩
            clear hst hcs hfr hn HIN HOW HNL HBL hbk
            go_wp2_with fail
            go_roundw
            case rel => exact ⟨k + 1, L'.set k (i : Int), by omega, by go_num, HNL2, HBL2, HIN2, HOW2⟩
            case measure => simp [intOf]; omega
          case neg =>
            obtain rfl : k = nn := by omega
            have HBA := Aside0.mk (below_alloc (Below.refl wr.heap.size wr) (.cells #[.int .u8 7, .int .u8 7, .int .u8 7, .int .u8 7, .int .u8 7, .int .u8 7, .int .u8 7, .int .u8 7, .int .u8 7, .int .u8 7] 5))
            have HIN2 := Aside0.mk (HIN.out.below HYP.out HBA.out)
            have HOW2 : Aside0 ((wr.alloc (.cells #[.int .u8 7, .int .u8 7, .int .u8 7, .int .u8 7, .int .u8 7, .int .u8 7, .int .u8 7, .int .u8 7, .int .u8 7, .int .u8 7] 5)).ownsRow Bn 5 1 (.slice An k cn) L'.length (nums .u8 L')) := ⟨HOW.out.below HBA.out⟩
            have HROW := Aside0.mk (row_sevens wr)
            have HBL2 := Aside0.mk (Nat.le_trans HBL.out HBA.out.size)
            clear HIN HOW HBL
            go_wp2_with (at_builtin; refine print_append_row (w0 := wr.alloc (.cells #[.int .u8 7, .int .u8 7, .int .u8 7, .int .u8 7, .int .u8 7, .int .u8 7, .int .u8 7, .int .u8 7, .int .u8 7, .int .u8 7] 5)) Bn rfl (.tmp 121) (.tmp 122) 24 5 .u8 1 rfl Tryd.underlying24 info5 (by decide) (.slice An k cn) L' [7, 7, 7, 7, 7, 7, 7, 7, 7, 7] _ 10 _ rfl rfl HOW2.out HROW.out (Below.refl _ _) HBL2.out (by have := HNL.out; omega) ?_; intro v1 w1' ho hb hg hat; obtain ⟨Af, cf, rfl⟩ := own_slice (show Own w1' Bn v1 (L' ++ [7, 7, 7, 7, 7, 7, 7, 7, 7, 7]) from ho); have HIN3 := Aside0.mk (HIN2.out.grown HYP.out hlt hg (fun g' e => by have := HSEG.out g' e; rcases this with h | h <;> omega)); have hcellf := HIN3.out.cell; have hfreef := HIN3.out.free; clear ho hb hg hat HIN2 HOW2 HROW HBL2)
            go_roundw
            case rel => exact ⟨i + 1, by omega, by go_num, ⟨HIN3.out.fin HYP.out hlt _⟩⟩
            case measure => simp [intOf]; omega
      case neg =>
        obtain rfl : i = 2 := by omega
        have HB10 := Aside0.mk HG.out.1
        have HK10 : Aside0 (w8.heap.size ≤ wr.heap.size ∧ ∀ k, w3.heap.size ≤ k → k < w8.heap.size → wr.heap[k]? = w8.heap[k]?) := ⟨HG.out.2.1.1, fun k h1 h2 => HG.out.2.1.2 k h2 (by rintro (h | h) <;> omega)⟩
        clear HG HYP HS2 HS3
        generalize hWB : wr = WB at *
        clear hWB
        have hk10 := HK10.out.1
        have HYP : Aside0 (HypG w WB (w4.heap.size + 3) w5.heap.size B7 w7.heap.size (fun W => Kd.R k23 23 W B7 (fun k => B7 ≤ k ∧ k < w7.heap.size) (.slice A7 V1.length c7) V1)) := ⟨HB10.out.size, Nat.le_trans HB4.out.size (by omega), Nat.le_trans HB6.out.size hB7, by omega, by omega, by omega, fun W W' hk h => R_stable h hk⟩
        have HX10 := Aside0.mk (R_stable HX8.out (fun k h1 h2 => HK10.out.2 k (by omega) (by omega)))
        have HU10 := Aside0.mk (R_stable HU8.out (fun k h1 h2 => HK10.out.2 k (by omega) (by omega)))
        have HBA := Aside0.mk (below_alloc (Below.refl WB.heap.size WB) (.cells #[.slice A5 l.length l.length, .slice A7 V1.length V1.length] 33))
        have HG0 : Aside0 (StG w WB 33 (w4.heap.size + 3) w5.heap.size B7 w7.heap.size (.slice A5 l.length l.length) (.slice A7 V1.length V1.length) (fun W => Kd.R k23 23 W (w4.heap.size + 3) (fun k => w4.heap.size + 3 ≤ k ∧ k < w5.heap.size) (.slice A5 l.length c5) l) (fun W => Kd.R k23 23 W B7 (fun k => B7 ≤ k ∧ k < w7.heap.size) (.slice A7 V1.length c7) V1) 0 (WB.alloc (.cells #[.slice A5 l.length l.length, .slice A7 V1.length V1.length] 33))) :=
          ⟨below_step HB10.out HBA.out, (Out.refl _ _).to HBA.out.size (fun k hk _ => HBA.out.block k hk), ⟨_, _, Blk.new WB _ 33, fun _ => rfl, fun _ => rfl⟩, fun _ => R_stable HX10.out (fun k _ h2 => HBA.out.block k (by omega)), fun _ => R_stable HU10.out (fun k _ h2 => HBA.out.block k (by omega))⟩
        have hvl := HVL.out
        clear HX8 HU8 HX10 HU10 HBA
        go_wp2_with fail
        simp only [Int.cast_ofNat_Int]
        generalize WB.alloc (.cells #[.slice A5 l.length l.length, .slice A7 V1.length V1.length] 33) = W11 at *
        go_loopw [29] (fun v29 wr => ∃ i : Nat, i ≤ 2 ∧ v29 = .int .i64 i ∧ Aside0 (StG w WB 33 (w4.heap.size + 3) w5.heap.size B7 w7.heap.size (.slice A5 l.length l.length) (.slice A7 V1.length V1.length) (fun W => Kd.R k23 23 W (w4.heap.size + 3) (fun k => w4.heap.size + 3 ≤ k ∧ k < w5.heap.size) (.slice A5 l.length c5) l) (fun W => Kd.R k23 23 W B7 (fun k => B7 ≤ k ∧ k < w7.heap.size) (.slice A7 V1.length c7) V1) i wr)) (fun v29 _ => 2 - (intOf v29).toNat)
        case atStart => exact ⟨0, by omega, rfl, HG0⟩
        case round =>
          clear HG0
          obtain ⟨i, hi, rfl, HG⟩ := hrel
          by_cases hlt : i < 2
          case pos =>
            obtain ⟨vc, hvc, hin⟩ := HG.out.cur hlt
            obtain ⟨An, nn, cn, Bn, Ln, lo, hh, hvc2, hnn, hown, hn70, hseg⟩ : ∃ An nn cn Bn Ln lo hh, vc = .slice An nn nn ∧ nn = List.length Ln ∧ Kd.R k23 23 wr Bn (fun k => lo ≤ k ∧ k < hh) (.slice An nn cn) Ln ∧ nn ≤ 64 ∧ ∀ k, lo ≤ k → k < hh → (i = 0 ∧ w4.heap.size + 3 ≤ k ∧ k < w5.heap.size) ∨ (i = 1 ∧ B7 ≤ k ∧ k < w7.heap.size) := by
              have hsz := hin.lt
              rcases hvc with ⟨rfl, rfl, ho⟩ | ⟨rfl, rfl, ho⟩
              · exact ⟨A5, l.length, c5, w4.heap.size + 3, l, _, _, rfl, rfl, ho, hl64, fun k h1 h2 => .inl ⟨rfl, h1, h2⟩⟩
              · exact ⟨A7, V1.length, c7, B7, V1, _, _, rfl, rfl, ho, hvl, fun k h1 h2 => .inr ⟨rfl, h1, h2⟩⟩
            subst hvc2
            have HIN0 := Aside0.mk hin
            have HOWN0 := Aside0.mk hown
            have HSEG := Aside0.mk hseg
            have HNN := Aside0.mk hnn
            clear hvc hin hown hseg HG hnn
            go_wp2_with fail
            go_loopw [30] (fun v30 wr => ∃ (k : Nat) (L' : List S23), k ≤ nn ∧ v30 = .int .i64 k ∧ Aside0 (nn = L'.length) ∧ Aside0 (InG w WB 33 (w4.heap.size + 3) w5.heap.size B7 w7.heap.size (.slice A7 V1.length V1.length) (fun W => Kd.R k23 23 W B7 (fun k => B7 ≤ k ∧ k < w7.heap.size) (.slice A7 V1.length c7) V1) (.slice An nn nn) i wr) ∧ Aside0 (Kd.R k23 23 wr Bn (fun k => lo ≤ k ∧ k < hh) (.slice An nn cn) L')) (fun v30 _ => nn - (intOf v30).toNat)
            case atStart => exact ⟨0, Ln, Nat.zero_le _, rfl, HNN, HIN0, HOWN0⟩
            case round =>
              clear HIN0 HOWN0 HNN
              obtain ⟨k, L', hk, rfl, HNL, HIN, HOW⟩ := hrel
              have hcell := HIN.out.cell
              have hfree := HIN.out.free
              have hlt8 := HIN.out.lt
              have hsh := R_shape HOW.out
              by_cases hk2 : k < nn
              case pos =>
                rcases hsh with ⟨-, h0, -⟩ | ⟨g, hA, hokg, hgl, hcs⟩
                · omega
                subst hA
                have hcs2 := hcs k (by have := HNL.out; omega)
                have hc0 := hcs2.1
                have hc1 := hcs2.2.1
                have hf0 := hcs2.2.2.1
                have hf1 := hcs2.2.2.2
                have hf2 : (wr.setCell ⟨g, k * 2, none⟩ (.string ⟨#[103, 111, 110, 101]⟩)).frozen? ⟨g, k * 2 + 1, none⟩ = false := by rw [World.frozen?_setCell]; exact hf1
                have hbk := HSEG.out g hokg.1 hokg.2
                have hst := R_gone HOW.out k hk2 (a := ⟨#[103, 111, 110, 101]⟩) (b := ⟨#[]⟩) hc0 hc1
                have HIN2 := Aside0.mk (HIN.out.grown HYP.out hlt hst.2 (fun g' e => by injection e with e; subst e; rcases hbk with h | h <;> omega))
                have HOW2 := Aside0.mk hst.1
                have HNL2 : Aside0 (nn = (L'.set k (⟨⟨#[103, 111, 110, 101]⟩, ⟨#[]⟩⟩ : S23)).length) := ⟨by rw [List.length_set]; exact HNL.out⟩
                clear hcs hcs2 hst HIN HOW HNL hbk
                go_wp2_with fail
                go_roundw
                case rel => exact ⟨k + 1, L'.set k ⟨⟨#[103, 111, 110, 101]⟩, ⟨#[]⟩⟩, by omega, by go_num, HNL2, HIN2, HOW2⟩
                case measure => simp [intOf]; omega
              case neg =>
                obtain rfl : k = nn := by omega
                have HBA := Aside0.mk (below_alloc (Below.refl wr.heap.size wr) (.cells #[.string ⟨#[109, 111, 114, 101]⟩, .string ⟨#[]⟩, .string ⟨#[109, 111, 114, 101]⟩, .string ⟨#[]⟩, .string ⟨#[109, 111, 114, 101]⟩, .string ⟨#[]⟩, .string ⟨#[109, 111, 114, 101]⟩, .string ⟨#[]⟩] 23))
                have HINA := Aside0.mk (HIN.out.below HYP.out HBA.out)
                have hshA := R_shape (Kd.R_below HOW.out HBA.out)
                have hC4 := row_pairs (Blk.new wr #[.string ⟨#[109, 111, 114, 101]⟩, .string ⟨#[]⟩, .string ⟨#[109, 111, 114, 101]⟩, .string ⟨#[]⟩, .string ⟨#[109, 111, 114, 101]⟩, .string ⟨#[]⟩, .string ⟨#[109, 111, 114, 101]⟩, .string ⟨#[]⟩] 23) [⟨⟨#[109, 111, 114, 101]⟩, ⟨#[]⟩⟩, ⟨⟨#[109, 111, 114, 101]⟩, ⟨#[]⟩⟩, ⟨⟨#[109, 111, 114, 101]⟩, ⟨#[]⟩⟩, ⟨⟨#[109, 111, 114, 101]⟩, ⟨#[]⟩⟩] rfl (by decide)
                obtain ⟨Af, nf, cf, Wf, hrun, hbf⟩ := app_pairs HNL.out (by omega) (by
                  rcases hshA with ⟨h1, h2, -⟩ | ⟨g', h1, -, -, h2⟩
                  · exact .inl ⟨h1, h2⟩
                  · exact .inr ⟨g', h1, h2⟩) rfl hC4
                have HIN3 := Aside0.mk (HINA.out.below HYP.out hbf)
                have hcellf := HIN3.out.cell
                have hfreef := HIN3.out.free
                have HRUN := Aside0.mk hrun
                clear hsh hshA hC4 HIN HOW HINA hbf hrun
                go_wp2_with (at_builtin; refine wpList_append_run (P := Tryd.prog) _ rfl (.tmp 153) (.tmp 158) 33 rfl rfl rfl HRUN.out ?_)
                go_roundw
                case rel => exact ⟨i + 1, by omega, by go_num, ⟨HIN3.out.fin HYP.out hlt _⟩⟩
                case measure => simp [intOf]; omega
          case neg =>
            obtain rfl : i = 2 := by omega
            have HB12 := Aside0.mk HG.out.1
            have hsz12 : WB.heap.size ≤ wr.heap.size := HG.out.2.1.1
            have HK12 : Aside0 (∀ k, w3.heap.size ≤ k → k < w8.heap.size → (k < w4.heap.size + 3 ∨ w5.heap.size ≤ k) → (k < B7 ∨ w7.heap.size ≤ k) → wr.heap[k]? = w8.heap[k]?) := ⟨fun k h1 h2 h3 h4 => (HG.out.2.1.2 k (by omega) (by rintro (h | h) <;> omega)).trans (HK10.out.2 k h1 h2)⟩
            have HC12 := Aside0.mk (own_out HO48.out (W' := wr) (fun k hk => by have := HS4.out k hk; exact HK12.out k (by omega) (by omega) (by omega) (by omega)))
            have HY12 := Aside0.mk (Kd.R_reads' (R_stable HY8.out (W' := wr) (fun k h1 h2 => HK12.out k (by omega) (by omega) (by omega) (by omega)))).2.2
            have HV12 := Aside0.mk (Kd.R_reads' (R_stable HV8.out (W' := wr) (fun k h1 h2 => HK12.out k (by omega) (by omega) (by omega) (by omega)))).2.2
            clear HG HYP HK10 HK12 HO48 HY8 HV8 HS4 HB1 HB2 HB3 HB4 HB5 HB6 HB7 HB8 HB10 hz12 hz23 hz34 hz45 hz56 hz67 hz78 hk10
            generalize hWC : wr = WC at *
            clear hWC
            go_wp2_with fail
            simp only [Int.cast_ofNat_Int]
            go_loopw [31] (fun v31 wr => ∃ k : Nat, k ≤ V1.length ∧ v31 = .int .i64 k ∧ wr = WC) (fun v31 _ => V1.length - (intOf v31).toNat)
            case atStart => exact ⟨0, Nat.zero_le _, rfl, rfl⟩
            case round =>
              obtain ⟨k, hk, rfl, hwr⟩ := hrel
              subst hwr
              by_cases hkv : k < V1.length
              case pos =>
                obtain ⟨ad, e, hx0, -⟩ := cell_pair HV12.out (Below.refl _ _) hkv (by omega)
                subst e
                have hvm := HVM.out (rdP V1 k) (by rw [rdP_get hkv]; exact List.getElem_mem hkv)
                have HOR : Aside0 ((rdP V1 k).f0.toList = [103, 111, 110, 101] → hasK l ⟨#[103, 111, 110, 101]⟩ = true ∨ hasK m ⟨#[103, 111, 110, 101]⟩ = true) := ⟨fun h => by
                  have e4 : (⟨#[103, 111, 110, 101]⟩ : ByteArray).toList = [103, 111, 110, 101] := by rw [Lib.toList_data]
                  unfold hasK
                  rw [List.any_eq_true, List.any_eq_true, e4]
                  rcases hvm with h1 | h1
                  · exact .inl ⟨_, h1, by rw [h]; rfl⟩
                  · exact .inr ⟨_, h1, by rw [h]; rfl⟩⟩
                have HN1 := Aside0.mk (fun W hb => named_any A c l ⟨#[103, 111, 110, 101]⟩ W hl (Kd.C_below HR.out hb))
                have HN2 := Aside0.mk (fun W hb => named_any B c' m ⟨#[103, 111, 110, 101]⟩ W hm (Kd.C_below HR'.out hb))
                clear hvm
                by_cases hq : (rdP V1 k).f0.toList = [103, 111, 110, 101]
                case neg =>
                  clear HOR HN1 HN2
                  go_wp2_with fail
                  go_roundw
                  case rel => exact ⟨k + 1, by omega, by go_num, trivial⟩
                  case measure => simp [intOf]; omega
                case pos =>
                  have hor := HOR.out hq
                  have hn1 := HN1.out wr HB12.out
                  have hn2 := HN2.out wr HB12.out
                  clear HOR HN1 HN2
                  generalize hasK l ⟨#[103, 111, 110, 101]⟩ = g1 at *
                  generalize hasK m ⟨#[103, 111, 110, 101]⟩ = g2 at *
                  go_wp2_with fail
                  refine hn1.mono ?_
                  rintro e w13 ⟨rfl, hw13⟩
                  subst hw13
                  clear hn1
                  cases g1 with
                  | true =>
                    clear hor hn2
                    go_wp2_with fail
                    go_roundw
                    case rel => exact ⟨k + 1, by omega, by go_num, trivial⟩
                    case measure => simp [intOf]; omega
                  | false =>
                    obtain rfl : g2 = true := by simpa using hor
                    clear hor
                    go_wp2_with fail
                    refine hn2.mono ?_
                    rintro e w14 ⟨rfl, hw14⟩
                    subst hw14
                    clear hn2
                    go_wp2_with fail
                    go_roundw
                    case rel => exact ⟨k + 1, by omega, by go_num, trivial⟩
                    case measure => simp [intOf]; omega
              case neg =>
                obtain rfl : k = V1.length := by omega
                have hsw := HSW.out
                have hcall := HPl.out A6 l.length wr HB12.out HY12.out
                go_wp2_with fail
                refine hcall.mono ?_
                rintro e w15 ⟨A15, c15, rfl, ho15, hb15⟩
                have HB15 := Aside0.mk (below_step HB12.out hb15)
                have HO15 := Aside0.mk ho15
                have hcv1 : (convert 24 9 (.slice A4 P1.length c4)).run Tryd.prog w15 = .ok (.string sW) w15 := by rw [← hsw]; exact own_str (HC12.out.below hb15)
                have hcv2 : (convert 24 9 (.slice A15 P1.length c15)).run Tryd.prog w15 = .ok (.string sW) w15 := by rw [← hsw]; exact own_str HO15.out
                have hyy := Kd.C_below HY12.out hb15
                have HYY := Aside0.mk hyy
                have hss : (sW.toList == sW.toList) = true := by simp
                clear hb15 ho15 hcall hsw hyy
                go_wp2_with fail
                refine (pairs_same A6 A l.length c l w15 (by omega) (Nat.le_refl _) hc HYY.out (Kd.C_below HR.out HB15.out)).mono ?_
                rintro e w16 ⟨rfl, hb16⟩
                have HB16 := Aside0.mk (below_step HB15.out hb16)
                clear hb16 hcv1 hcv2
                go_wp2_with fail
                go_ret
                exact ⟨rfl, HB16.out⟩
end Go.Proofs.YtbidbjgklonbpaaDoor.Mine
