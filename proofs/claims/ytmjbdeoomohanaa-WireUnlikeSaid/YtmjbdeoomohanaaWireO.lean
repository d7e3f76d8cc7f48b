/- wire: all. -/
import Derived.Test.YtmjbdeoomohanaaWireN
import Derived.Laws.EntriesVeiled
set_option linter.unusedSimpArgs false
set_option linter.unusedVariables false
namespace Go.Proofs.Ytmjbdeoomohanaa.Mine
open Go.RowKit Go.Maps Go.Proofs.YtmjbdeoomohanaaW.PrintWords Go.Proofs.YtmjbdeoomohanaaW.PrintLast Go.Proofs.YtmjbdeoomohanaaW.PrintMore Go.Proofs.Ytmjbdeoomohanaa.PWirePacks Go.Proofs.Ytmjbdeoomohanaa.Turn
variable {lo : Nat}

theorem info70 : (Try.prog.info? 70).map (fun i => (i.zero, i.size)) = some (some .nilFunc, 1) := by kernel_rfl
theorem run_index_fns (fns : Array Value) (k : Nat) (u : Value) (hk : k < 13) (hf : fns[k]? = some u) (W : World) : (Instr.index 71 (.agg fns) (.int .i64 k)).run Try.prog W = .ok u W := by
  obtain ⟨i0, hi, hzz⟩ := Option.map_eq_some_iff.1 info70
  simp only [Prod.mk.injEq] at hzz
  obtain ⟨hz0, hz1⟩ := hzz
  simp [Instr.index, asIntOf, run_underlying Try.underlying71, sizeOf, typeInfo, hi, hz1, part, hf]
  intro h
  omega

theorem and_i64 (a b : Nat) (ha : a < 2 ^ 62) (hb : b < 2 ^ 62) : bits .and .i64 (a : Int) (b : Int) = ((a &&& b : Nat) : Int) := by
  have h : a &&& b ≤ a := Nat.and_le_left
  have e1 : (BitVec.ofInt IntKind.i64.bits (a : Int) &&& BitVec.ofInt IntKind.i64.bits (b : Int)).toNat = a &&& b := by
    rw [show IntKind.i64.bits = 64 from rfl, BitVec.toNat_and, BitVec.ofInt_natCast, BitVec.ofInt_natCast, BitVec.toNat_ofNat, BitVec.toNat_ofNat, Nat.mod_eq_of_lt (by omega), Nat.mod_eq_of_lt (by omega)]
  show IntKind.i64.wrap ((BitVec.ofInt IntKind.i64.bits (a : Int) &&& BitVec.ofInt IntKind.i64.bits (b : Int)).toNat : Int) = _
  rw [e1, IntKind.wrap_i64]
  omega
theorem bit_of (h k : Nat) (hh : h < 8192) : (bits .and .i64 ((h : Int) / 2 ^ k) 1 == 1) = h.testBit k := by
  have e : (h : Int) / 2 ^ k = ((h / 2 ^ k : Nat) : Int) := by rw [Int.natCast_ediv, Int.natCast_pow]; rfl
  have hl : h / 2 ^ k ≤ h := Nat.div_le_self _ _
  have h1 := and_i64 (h / 2 ^ k) 1 (by omega) (by omega)
  rw [e, show (1 : Int) = ((1 : Nat) : Int) from rfl, h1, Nat.and_one_is_mod, Nat.testBit_eq_decide_div_mod_eq]
  by_cases hq : h / 2 ^ k % 2 = 1
  · rw [hq]; simp
  · simp only [hq, decide_false]
    apply beq_eq_false_iff_ne.2
    omega
theorem enters (k : Nat) (hk : k < 13) (xs : Array Value) (W : World) : (callFunc (36 + k) xs).run Try.prog W = .ok (.enter (36 + k) xs) W := by
  have hd : k = 0 ∨ k = 1 ∨ k = 2 ∨ k = 3 ∨ k = 4 ∨ k = 5 ∨ k = 6 ∨ k = 7 ∨ k = 8 ∨ k = 9 ∨ k = 10 ∨ k = 11 ∨ k = 12 := by omega
  rcases hd with rfl | rfl | rfl | rfl | rfl | rfl | rfl | rfl | rfl | rfl | rfl | rfl | rfl <;> simp

def goNext (h n k : Nat) (x : Except Int (Msg × St)) : Except Int (Msg × St) :=
  match x with
  | .error e => .error e
  | .ok (m', S') => goS h n k S' m'
/-- Ahead of the k-th field. -/
structure RelA (lo : Nat) (w : World) (base b g : Nat) (G : Nat → Prop) (N h k : Nat) (X : Except Int (Msg × St)) (wr : World) (S : St) (m : Msg) (Gk : Nat → Prop) : Prop where
  own : ∀ q, Gk q → G q ∨ w.heap.size ≤ q
  turn : Turned (fun k => G k ∨ k = g) w wr
  cod : Cod wr base Gk b S
  msg : MsgAt lo wr g Gk m
  apart : ¬ Gk g
  okT : OkT (N + 1048576 * k) S
  okM : ∀ i, k ≤ i → i < 13 → okF i m
  spec : X = goS h (13 - k) k S m

set_option maxHeartbeats 4000000 in
theorem allM_any {w : World} {base b g : Nat} {G : Nat → Prop} {S : St} {m : Msg} (h : Cod w base G b S) (hM : MsgAt lo w g G m) (hg : ¬ G g) (hb : base ≤ g) {N : Nat} (hS : OkT N S) (hN : N ≤ 137438953472) (ho : OkM m) (h0 : 0 ≤ m.ty) (h1 : m.ty ≤ 255) :
    Calls Try.prog 20 #[.pointer (some ⟨b, 0, none⟩), .pointer (some ⟨g, 0, none⟩)] w fun e w' => EndsM lo w base G b g (allS S m) e w' := by
  have HA := Aside0.mk (allS.eq_def S m)
  generalize allS S m = X at HA ⊢
  obtain ⟨A5, c5, A8, c8, A13, c13, hx, hl1, hl2, hl3, h5, h8, h13⟩ := hM
  have HXF : Aside0 (g < w.heap.size) := ⟨hx.lt⟩
  have hxl := hx.lt
  have p : w.cell? ⟨g, 0, none⟩ = some (.int .u8 m.ty) := (hx.cell 0).trans rfl
  have HH := Aside0.mk (fun (w : World) => has_any m.ty h0 h1 w)
  rw [(hasN_nat m.ty).1] at HH
  have HHN := Aside0.mk (hasN_nat m.ty).2
  obtain ⟨hh, hhe⟩ : ∃ hh, hasB m.ty = hh := ⟨_, rfl⟩
  rw [hhe] at HH HHN HA
  clear hhe
  have HM := Aside0.mk (show MsgAt lo w g G m from ⟨A5, c5, A8, c8, A13, c13, hx, hl1, hl2, hl3, h5, h8, h13⟩)
  have HC := Aside0.mk h
  have HS := Aside0.mk hS
  have HO := Aside0.mk ho
  clear h hS ho hx hl1 hl2 hl3 h5 h8 h13 h0 h1
  go_enter Try.func20, Try.ntmps20
  go_wp2_with fail
  refine (HH.out _).mono ?_
  rintro e w1 ⟨rfl, hb1⟩
  have hx1 : Blk w1 w.heap.size _ 71 := (hb1.block _ (Blk.lt (Blk.new w _ 71))).trans (Blk.new w (#[.func (.func 36) #[] #[], .func (.func 37) #[] #[], .func (.func 38) #[] #[], .func (.func 39) #[] #[], .func (.func 40) #[] #[], .func (.func 41) #[] #[], .func (.func 42) #[] #[], .func (.func 43) #[] #[], .func (.func 44) #[] #[], .func (.func 45) #[] #[], .func (.func 46) #[] #[], .func (.func 47) #[] #[], .func (.func 48) #[] #[]]) 71)
  have hx10 : World.cell? w1 ⟨w.heap.size, 0, none⟩ = some (.func (.func 36) #[] #[]) := Blk.cell hx1 0
  have hx11 : World.cell? w1 ⟨w.heap.size, 1, none⟩ = some (.func (.func 37) #[] #[]) := Blk.cell hx1 1
  have hx12 : World.cell? w1 ⟨w.heap.size, 2, none⟩ = some (.func (.func 38) #[] #[]) := Blk.cell hx1 2
  have hx13 : World.cell? w1 ⟨w.heap.size, 3, none⟩ = some (.func (.func 39) #[] #[]) := Blk.cell hx1 3
  have hx14 : World.cell? w1 ⟨w.heap.size, 4, none⟩ = some (.func (.func 40) #[] #[]) := Blk.cell hx1 4
  have hx15 : World.cell? w1 ⟨w.heap.size, 5, none⟩ = some (.func (.func 41) #[] #[]) := Blk.cell hx1 5
  have hx16 : World.cell? w1 ⟨w.heap.size, 6, none⟩ = some (.func (.func 42) #[] #[]) := Blk.cell hx1 6
  have hx17 : World.cell? w1 ⟨w.heap.size, 7, none⟩ = some (.func (.func 43) #[] #[]) := Blk.cell hx1 7
  have hx18 : World.cell? w1 ⟨w.heap.size, 8, none⟩ = some (.func (.func 44) #[] #[]) := Blk.cell hx1 8
  have hx19 : World.cell? w1 ⟨w.heap.size, 9, none⟩ = some (.func (.func 45) #[] #[]) := Blk.cell hx1 9
  have hx110 : World.cell? w1 ⟨w.heap.size, 10, none⟩ = some (.func (.func 46) #[] #[]) := Blk.cell hx1 10
  have hx111 : World.cell? w1 ⟨w.heap.size, 11, none⟩ = some (.func (.func 47) #[] #[]) := Blk.cell hx1 11
  have hx112 : World.cell? w1 ⟨w.heap.size, 12, none⟩ = some (.func (.func 48) #[] #[]) := Blk.cell hx1 12
  have HB1 := Aside0.mk (below_then (below_alloc (Below.refl w.heap.size w) (.cells #[.func (.func 36) #[] #[], .func (.func 37) #[] #[], .func (.func 38) #[] #[], .func (.func 39) #[] #[], .func (.func 40) #[] #[], .func (.func 41) #[] #[], .func (.func 42) #[] #[], .func (.func 43) #[] #[], .func (.func 44) #[] #[], .func (.func 45) #[] #[], .func (.func 46) #[] #[], .func (.func 47) #[] #[], .func (.func 48) #[] #[]] 71)) (by simp) hb1)
  clear hb1 hx1 p
  go_wp2_with fail
  have HF : Aside0 (∀ k : Nat, k < 13 → (#[.func (.func 36) #[] #[], .func (.func 37) #[] #[], .func (.func 38) #[] #[], .func (.func 39) #[] #[], .func (.func 40) #[] #[], .func (.func 41) #[] #[], .func (.func 42) #[] #[], .func (.func 43) #[] #[], .func (.func 44) #[] #[], .func (.func 45) #[] #[], .func (.func 46) #[] #[], .func (.func 47) #[] #[], .func (.func 48) #[] #[]] : Array Value)[k]? = some (.func (.func (36 + k)) #[] #[])) := ⟨fun k hk => by
    have hd : k = 0 ∨ k = 1 ∨ k = 2 ∨ k = 3 ∨ k = 4 ∨ k = 5 ∨ k = 6 ∨ k = 7 ∨ k = 8 ∨ k = 9 ∨ k = 10 ∨ k = 11 ∨ k = 12 := by omega
    rcases hd with rfl | rfl | rfl | rfl | rfl | rfl | rfl | rfl | rfl | rfl | rfl | rfl | rfl <;> rfl⟩
  clear hx10 hx11 hx12 hx13 hx14 hx15 hx16 hx17 hx18 hx19 hx110 hx111 hx112
  have HFS : Aside0 ((#[.func (.func 36) #[] #[], .func (.func 37) #[] #[], .func (.func 38) #[] #[], .func (.func 39) #[] #[], .func (.func 40) #[] #[], .func (.func 41) #[] #[], .func (.func 42) #[] #[], .func (.func 43) #[] #[], .func (.func 44) #[] #[], .func (.func 45) #[] #[], .func (.func 46) #[] #[], .func (.func 47) #[] #[], .func (.func 48) #[] #[]] : Array Value).size = 13) := ⟨rfl⟩
  generalize (#[.func (.func 36) #[] #[], .func (.func 37) #[] #[], .func (.func 38) #[] #[], .func (.func 39) #[] #[], .func (.func 40) #[] #[], .func (.func 41) #[] #[], .func (.func 42) #[] #[], .func (.func 43) #[] #[], .func (.func 44) #[] #[], .func (.func 45) #[] #[], .func (.func 46) #[] #[], .func (.func 47) #[] #[], .func (.func 48) #[] #[]] : Array Value) = fns at HF HFS HB1 ⊢
  have HREL : Aside0 (RelA lo w base b g G N hh 0 X w1 S m G) := ⟨⟨fun q hq => .inl hq, Turned.of_below HB1.out _, HC.out.below HB1.out, HM.out.turn hg (Turned.of_below HB1.out _) (fun q hq => .inl hq), hg, HS.out, fun i _ hi => HO.out i hi, HA.out⟩⟩
  clear HC HM HS HO HA HB1
  go_loopw [15] (fun i wr => ∃ (k : Nat) (S : St) (m : Msg) (Gk : Nat → Prop), k ≤ 13 ∧ i = .int .i64 k ∧ Aside0 (RelA lo w base b g G N hh k X wr S m Gk)) (fun i _ => 13 - (intOf i).toNat)
  case atStart => exact ⟨0, S, m, G, by omega, rfl, HREL⟩
  case round =>
    clear HREL
    obtain ⟨k, S, m, Gk, hk, rfl, HR⟩ := hrel
    by_cases hlt : k < 13
    · have hix := fun W => run_index_fns fns k _ hlt (HF.out k hlt) W
      have hen := enters k hlt
      have hbt := bit_of hh k HHN.out
      have HSPEC := Aside0.mk HR.out.spec
      obtain ⟨j, hj⟩ : ∃ j, 13 - k = j + 1 := ⟨12 - k, by omega⟩
      rw [hj] at HSPEC
      have HJ : Aside0 (j = 13 - (k + 1)) := ⟨by omega⟩
      clear hj
      cases ht : hh.testBit k with
      | false =>
        rw [ht] at hbt
        have HS2 : Aside0 (X = goS hh j (k + 1) S m) := ⟨by rw [HSPEC.out, goS, if_neg (by rw [ht]; simp)]⟩
        clear ht hen
        go_wp2_with fail
        go_roundw
        case rel => exact ⟨k + 1, S, m, Gk, by omega, by go_num, ⟨HR.out.own, HR.out.turn, HR.out.cod, HR.out.msg, HR.out.apart, HR.out.okT.mono (by omega), fun i hi => HR.out.okM i (by omega), by rw [HS2.out, HJ.out]⟩⟩
        case measure => simp [intOf]; omega
      | true =>
        rw [ht] at hbt
        have HC := Aside0.mk (field_any hlt HR.out.cod HR.out.msg HR.out.apart hb HR.out.okT (by omega) (HR.out.okM k (Nat.le_refl _) hlt))
        obtain ⟨x, hx⟩ : ∃ x, fieldS k S m = x := ⟨_, rfl⟩
        have HX := Aside0.mk hx
        have HS2 : Aside0 (X = goNext hh j (k + 1) x) := ⟨by rw [HSPEC.out, goS, if_pos ht, ← hx]; rfl⟩
        rw [hx] at HC
        clear ht hx HSPEC
        go_wp2_with fail
        refine HC.out.mono ?_
        cases x with
        | error x =>
          rintro e w2 ⟨G', hG', hT', he, hbk⟩
          have he2 : e = .panicked [{ v := .iface 63 (.agg #[.int .i64 x]), recovered := false }] := he
          subst he2
          clear he
          have hG2 : ∀ q, G' q → G q ∨ w.heap.size ≤ q := fun q hq => (hG' q hq).elim (HR.out.own q) (fun h => .inr (Nat.le_trans HR.out.turn.size h))
          have HE : Aside0 (EndsM lo w base G b g (.error x) (wrongs x) w2) := ⟨⟨G', hG2, HR.out.turn.then_ hT' (fun q hq => hq.elim (fun h => (HR.out.own q h).imp .inl id) (fun h => .inl (.inr h))), rfl, hbk⟩⟩
          clear hG' hT' hG2 hbk
          go_wp2_with fail
          rw [HS2.out]
          exact ⟨rfl, HE.out⟩
        | ok x =>
          obtain ⟨m2, S2⟩ := x
          rintro e w2 ⟨G', hG', hT', rfl, hC2, hM2, hg2⟩
          have HR2 : Aside0 (RelA lo w base b g G N hh (k + 1) X w2 S2 m2 G') := ⟨⟨fun q hq => (hG' q hq).elim (HR.out.own q) (fun h => .inr (Nat.le_trans HR.out.turn.size h)), HR.out.turn.then_ hT' (fun q hq => hq.elim (fun h => (HR.out.own q h).imp .inl id) (fun h => .inl (.inr h))), hC2, hM2, hg2, (fieldS_okT hlt HR.out.okT (by omega) (HR.out.okM k (Nat.le_refl _) hlt) HX.out).mono (by omega), fun i hi h13 => fieldS_keeps hlt h13 (by omega) HX.out (HR.out.okM i (by omega) h13), by rw [HS2.out, HJ.out]; rfl⟩⟩
          clear hG' hT' hC2 hM2 hg2
          go_wp2_with fail
          go_roundw
          case rel => exact ⟨k + 1, S2, m2, G', by omega, by go_num, HR2⟩
          case measure => simp [intOf]; omega
    · obtain rfl : k = 13 := by omega
      have HE : Aside0 (EndsM lo w base G b g X (.returned (.tuple #[])) wr) := ⟨by
        rw [HR.out.spec]
        exact ⟨Gk, HR.out.own, HR.out.turn, rfl, HR.out.cod, HR.out.msg, HR.out.apart⟩⟩
      clear HR
      go_wp2_with fail
      refine bodyPost_end (results_none rfl _ _ _) rfl ?_
      exact HE.out
end Go.Proofs.Ytmjbdeoomohanaa.Mine
