import Derived.Test.YtmjbdeoomohanaaWm3
import Derived.Laws.EntriesVeiled
import Derived.Test.YtmjbdeoomohanaaOpen
import Derived.DataShut

/- wire: what a message's fields are, one by one; all, plain part. -/
set_option linter.unusedSimpArgs false
set_option linter.unusedVariables false
namespace Go.Proofs.Ytmjbdeoomohanaa.Mine
open Go.RowKit Go.Maps Go.Proofs.YtmjbdeoomohanaaW.PrintWords Go.Proofs.YtmjbdeoomohanaaW.PrintLast Go.Proofs.YtmjbdeoomohanaaW.PrintMore Go.Proofs.Ytmjbdeoomohanaa.PWirePacks Go.Proofs.Ytmjbdeoomohanaa.Turn
variable {lo : Nat}

/-- The k-th field is laid, or read. -/
def fieldS : Nat → St → Msg → Except Int (Msg × St)
  | 0, S, m => thenS (numS S m.view 8) fun v => { m with view := v }
  | 1, S, m => thenS (numS S m.normal 8) fun v => { m with normal := v }
  | 2, S, m => thenS (countS S m.op 1 64 1) fun v => { m with op := v }
  | 3, S, m => thenS (countS S m.commit 1 64 1) fun v => { m with commit := v }
  | 4, S, m => thenS (logS S m.log) fun v => { m with log := v }
  | 5, S, m => thenS (numS S m.client 8) fun v => { m with client := v }
  | 6, S, m => thenS (numS S m.seq 8) fun v => { m with seq := v }
  | 7, S, m => thenS (textS S m.body) fun v => { m with body := v }
  | 8, S, m => thenS (numS S m.key 8) fun v => { m with key := v }
  | 9, S, m => thenS (numS S m.shard 1) fun v => { m with shard := v }
  | 10, S, m => thenS (numS S m.stripe 4) fun v => { m with stripe := v }
  | 11, S, m => thenS (numS S m.code 2) fun v => { m with code := v }
  | _, S, m => thenS (blocksS S m.blocks) fun v => { m with blocks := v }
/-- The k-th field is such that it can be laid. -/
def okF : Nat → Msg → Prop
  | 0, m => 0 ≤ m.view ∧ m.view < 18446744073709551616
  | 1, m => 0 ≤ m.normal ∧ m.normal < 18446744073709551616
  | 2, m => 0 ≤ m.op ∧ m.op ≤ 4611686018427387904
  | 3, m => 0 ≤ m.commit ∧ m.commit ≤ 4611686018427387904
  | 4, m => m.log.length ≤ 65536 ∧ ∀ x ∈ m.log, x.f2.length ≤ 2048 ∧ 0 ≤ x.f0 ∧ x.f0 < 18446744073709551616 ∧ 0 ≤ x.f1 ∧ x.f1 < 18446744073709551616
  | 5, m => 0 ≤ m.client ∧ m.client < 18446744073709551616
  | 6, m => 0 ≤ m.seq ∧ m.seq < 18446744073709551616
  | 7, m => m.body.length ≤ 65536
  | 8, m => 0 ≤ m.key ∧ m.key < 18446744073709551616
  | 9, m => 0 ≤ m.shard ∧ m.shard < 256
  | 10, m => 0 ≤ m.stripe ∧ m.stripe < 4294967296
  | 11, m => 0 ≤ m.code ∧ m.code < 65536
  | _, m => m.blocks.length ≤ 65536 ∧ ∀ x ∈ m.blocks, x.length ≤ 128
def OkM (m : Msg) : Prop := ∀ i, i < 13 → okF i m

theorem thenS_ok {α : Type} {x : Except Int (α × St)} {f : α → Msg} {m' : Msg} {S' : St} (h : thenS x f = .ok (m', S')) : ∃ r, x = .ok (r, S') ∧ m' = f r := by
  rcases x with e | ⟨r, S1⟩
  · cases h
  · simp only [thenS, Except.ok.injEq, Prod.mk.injEq] at h
    exact ⟨r, by rw [h.2], h.1.symm⟩
theorem fieldS_keeps {k i : Nat} {S S' : St} {m m' : Msg} (hk : k < 13) (hi : i < 13) (hki : k < i) (h : fieldS k S m = .ok (m', S')) (ho : okF i m) : okF i m' := by
  have hd : k = 0 ∨ k = 1 ∨ k = 2 ∨ k = 3 ∨ k = 4 ∨ k = 5 ∨ k = 6 ∨ k = 7 ∨ k = 8 ∨ k = 9 ∨ k = 10 ∨ k = 11 ∨ k = 12 := by omega
  have he : i = 0 ∨ i = 1 ∨ i = 2 ∨ i = 3 ∨ i = 4 ∨ i = 5 ∨ i = 6 ∨ i = 7 ∨ i = 8 ∨ i = 9 ∨ i = 10 ∨ i = 11 ∨ i = 12 := by omega
  rcases hd with rfl | rfl | rfl | rfl | rfl | rfl | rfl | rfl | rfl | rfl | rfl | rfl | rfl <;> obtain ⟨r, -, rfl⟩ := thenS_ok h <;> rcases he with rfl | rfl | rfl | rfl | rfl | rfl | rfl | rfl | rfl | rfl | rfl | rfl | rfl <;> first | exact ho | omega
theorem fieldS_ty {k : Nat} {S S' : St} {m m' : Msg} (hk : k < 13) (h : fieldS k S m = .ok (m', S')) : m'.ty = m.ty := by
  have hd : k = 0 ∨ k = 1 ∨ k = 2 ∨ k = 3 ∨ k = 4 ∨ k = 5 ∨ k = 6 ∨ k = 7 ∨ k = 8 ∨ k = 9 ∨ k = 10 ∨ k = 11 ∨ k = 12 := by omega
  rcases hd with rfl | rfl | rfl | rfl | rfl | rfl | rfl | rfl | rfl | rfl | rfl | rfl | rfl <;> obtain ⟨r, -, rfl⟩ := thenS_ok h <;> rfl

theorem OkT.num {N : Nat} {S S' : St} {n m : Int} {sz : Nat} (h : OkT N S) (hs : numS S n sz = .ok (m, S')) : OkT (N + sz) S' := by
  unfold numS at hs
  split at hs
  · cases hs
  · rename_i r S1 h1
    simp only [Except.ok.injEq, Prod.mk.injEq] at hs
    obtain ⟨-, rfl⟩ := hs
    have h2 := h.step h1
    rwa [be_len] at h2
theorem OkT.ent {N : Nat} {S S' : St} {x r : S44} (h : OkT N S) (hx : x.f2.length ≤ 2048) (hN : N + 4096 ≤ 1099511627776) (hs : entS S x = .ok (r, S')) : OkT (N + 4096) S' := by
  unfold entS at hs
  split at hs
  · cases hs
  · rename_i a S1 h1
    have k1 := h.num h1
    split at hs
    · cases hs
    · rename_i c S2 h2
      have k2 := k1.num h2
      split at hs
      · cases hs
      · rename_i q S3 h3
        have k3 := k2.text h3 (by omega)
        simp only [Except.ok.injEq, Prod.mk.injEq] at hs
        obtain ⟨-, rfl⟩ := hs
        exact k3.mono (by omega)
theorem rowL_okT : ∀ {L L' : List S44} {N : Nat} {S S' : St}, OkT N S → (∀ x ∈ L, x.f2.length ≤ 2048) → N + 4096 * L.length ≤ 1099511627776 → rowL S L = .ok (L', S') → OkT (N + 4096 * L.length) S'
  | [], L', N, S, S', h, _, _, hs => by
    simp only [rowL, Except.ok.injEq, Prod.mk.injEq] at hs
    obtain ⟨-, rfl⟩ := hs
    exact h.mono (Nat.le_add_right _ _)
  | x :: L, L', N, S, S', h, hx, hN, hs => by
    rw [List.length_cons] at hN ⊢
    simp only [rowL] at hs
    split at hs
    · cases hs
    · rename_i r S1 h1
      have hb : N + 4096 ≤ 1099511627776 := Nat.le_trans (Nat.add_le_add_left (Nat.le_mul_of_pos_right 4096 (Nat.succ_pos _)) N) hN
      have k1 := h.ent (hx x List.mem_cons_self) hb h1
      split at hs
      · cases hs
      · rename_i rs S2 h2
        have he : N + 4096 + 4096 * L.length = N + 4096 * (L.length + 1) := by rw [Nat.mul_add, Nat.mul_one, Nat.add_assoc, Nat.add_comm 4096]
        have k2 := rowL_okT k1 (fun y hy => hx y (List.mem_cons_of_mem _ hy)) (by rw [he]; exact hN) h2
        simp only [Except.ok.injEq, Prod.mk.injEq] at hs
        obtain ⟨-, rfl⟩ := hs
        rw [he] at k2
        exact k2
theorem rowS_okT : ∀ {L L' : List (List Int)} {N : Nat} {S S' : St}, OkT N S → (∀ x ∈ L, x.length ≤ 128) → rowS S L = .ok (L', S') → OkT (N + 128 * L.length) S'
  | [], L', N, S, S', h, _, hs => by
    simp only [rowS, Except.ok.injEq, Prod.mk.injEq] at hs
    obtain ⟨-, rfl⟩ := hs
    exact h.mono (Nat.le_add_right _ _)
  | x :: L, L', N, S, S', h, hx, hs => by
    rw [List.length_cons]
    simp only [rowS] at hs
    split at hs
    · cases hs
    · rename_i r S1 h1
      have k1 := h.step h1
      have hx1 := hx x List.mem_cons_self
      split at hs
      · cases hs
      · rename_i rs S2 h2
        have k2 := rowS_okT k1 (fun y hy => hx y (List.mem_cons_of_mem _ hy)) h2
        simp only [Except.ok.injEq, Prod.mk.injEq] at hs
        obtain ⟨-, rfl⟩ := hs
        exact k2.mono (by omega)
theorem pad_mem {α : Type} {l : List α} {n : Nat} {z x : α} (h : x ∈ pad l n z) : x ∈ l ∨ x = z := by
  rcases List.mem_append.1 h with h | h
  · exact .inl (List.mem_of_mem_take h)
  · exact .inr (List.eq_of_mem_replicate (List.mem_of_mem_drop h))
theorem fieldS_okT {k N : Nat} {S S' : St} {m m' : Msg} (hk : k < 13) (hS : OkT N S) (hN : N ≤ 274877906944) (ho : okF k m) (h : fieldS k S m = .ok (m', S')) : OkT (N + 1048576) S' := by
  have hd : k = 0 ∨ k = 1 ∨ k = 2 ∨ k = 3 ∨ k = 4 ∨ k = 5 ∨ k = 6 ∨ k = 7 ∨ k = 8 ∨ k = 9 ∨ k = 10 ∨ k = 11 ∨ k = 12 := by omega
  rcases hd with rfl | rfl | rfl | rfl | rfl | rfl | rfl | rfl | rfl | rfl | rfl | rfl | rfl <;> obtain ⟨r, h1, rfl⟩ := thenS_ok h
  case inr.inr.inr.inr.inl =>
    unfold logS at h1
    split at h1
    · cases h1
    · rename_i n S1 h2
      obtain ⟨k1, k2, k3⟩ := hS.count h2 (by omega)
      have k4 := rowL_okT k1 (L := pad m.log n.toNat z44) (fun x hx => (pad_mem hx).elim (fun hx => (ho.2 x hx).1) (fun e => by rw [e]; exact Nat.zero_le _)) (by rw [pad_length]; omega) h1
      rw [pad_length] at k4
      exact k4.mono (by omega)
  case inr.inr.inr.inr.inr.inr.inr.inl =>
    have hb : m.body.length ≤ 65536 := ho
    exact (hS.text h1 (by omega)).mono (by omega)
  case inr.inr.inr.inr.inr.inr.inr.inr.inr.inr.inr.inr =>
    unfold blocksS at h1
    split at h1
    · cases h1
    · rename_i n S1 h2
      obtain ⟨k1, k2, k3⟩ := hS.count h2 (by omega)
      split at h1
      · cases h1
      · have k4 := rowS_okT k1 (L := pad m.blocks n.toNat []) (fun x hx => (pad_mem hx).elim (fun hx => ho.2 x hx) (fun e => by rw [e]; exact Nat.zero_le _)) h1
        rw [pad_length] at k4
        exact k4.mono (by omega)
  all_goals first
    | exact (hS.num h1).mono (by omega)
    | exact (hS.count h1 (by omega)).1.mono (by omega)

/-- n fields from the k-th on, those that h has. -/
def goS (h : Nat) : Nat → Nat → St → Msg → Except Int (Msg × St)
  | 0, _, S, m => .ok (m, S)
  | n + 1, k, S, m => if h.testBit k then (match fieldS k S m with
    | .error e => .error e
    | .ok (m', S') => goS h n (k + 1) S' m') else goS h n (k + 1) S m
def allS (S : St) (m : Msg) : Except Int (Msg × St) := goS (hasB m.ty) 13 0 S m

theorem field_any {k : Nat} (hk : k < 13) {w : World} {base b g : Nat} {G : Nat → Prop} {S : St} {m : Msg} (h : Cod w base G b S) (hM : MsgAt lo w g G m) (hg : ¬ G g) (hb : base ≤ g) {N : Nat} (hS : OkT N S) (hN : N ≤ 274877906944) (ho : okF k m) :
    Calls Try.prog (36 + k) #[.pointer (some ⟨b, 0, none⟩), .pointer (some ⟨g, 0, none⟩)] w fun e w' => EndsM lo w base G b g (fieldS k S m) e w' := by
  have hS1 : OkS S := hS.ok (by omega)
  have hd : k = 0 ∨ k = 1 ∨ k = 2 ∨ k = 3 ∨ k = 4 ∨ k = 5 ∨ k = 6 ∨ k = 7 ∨ k = 8 ∨ k = 9 ∨ k = 10 ∨ k = 11 ∨ k = 12 := by omega
  rcases hd with rfl | rfl | rfl | rfl | rfl | rfl | rfl | rfl | rfl | rfl | rfl | rfl | rfl
  · exact viewM_any h hM hg hb hS1 ho.1 ho.2
  · exact normalM_any h hM hg hb hS1 ho.1 ho.2
  · exact opM_any h hM hg hb hS1 ho.1 ho.2
  · exact commitM_any h hM hg hb hS1 ho.1 ho.2
  · exact logM_any h hM hg hb hS (by omega) ho.1 ho.2
  · exact clientM_any h hM hg hb hS1 ho.1 ho.2
  · exact seqM_any h hM hg hb hS1 ho.1 ho.2
  · exact bodyM_any h hM hg hb hS (by omega) (Nat.le_trans ho (by omega))
  · exact keyM_any h hM hg hb hS1 ho.1 ho.2
  · exact shardM_any h hM hg hb hS1 ho.1 ho.2
  · exact stripeM_any h hM hg hb hS1 ho.1 ho.2
  · exact codeM_any h hM hg hb hS1 ho.1 ho.2
  · exact blocksM_any h hM hg hb hS (by omega) ho.1 ho.2
end Go.Proofs.Ytmjbdeoomohanaa.Mine

/- wire: all. -/
set_option linter.unusedSimpArgs false
set_option linter.unusedVariables false
namespace Go.Proofs.Ytmjbdeoomohanaa.Mine
open Go.RowKit Go.Maps Go.Proofs.YtmjbdeoomohanaaW.PrintWords Go.Proofs.YtmjbdeoomohanaaW.PrintLast Go.Proofs.YtmjbdeoomohanaaW.PrintMore Go.Proofs.Ytmjbdeoomohanaa.PWirePacks Go.Proofs.Ytmjbdeoomohanaa.Turn
variable {lo : Nat}

theorem info70 : (Try.prog.info? 70).map (fun i => (i.zero, i.size)) = some (some .nilFunc, 1) := by kernel_rfl
theorem run_index_fns (fns : Array Value) (k : Nat) (u : Value) (hk : k < 13) (hf : fns[k]? = some u) (W : World) : (Instr.index 71 (.agg fns) (.int .i64 k)).run Try.prog W = .ok u W := by
  obtain ⟨i0, hi, hzz⟩ := Option.map_eq_some_iff.1 info70
  simp only [Prod.mk.injEq] at hzz
  obtain ⟨hz0, hz1⟩ := hzz
  simp [Instr.index, asIntOf, run_underlying Try.underlying71, sizeOf, typeInfo, hi, hz1, part, hf]
  intro h
  omega

theorem and_i64 (a b : Nat) (ha : a < 2 ^ 62) (hb : b < 2 ^ 62) : bits .and .i64 (a : Int) (b : Int) = ((a &&& b : Nat) : Int) := by
  have h : a &&& b ≤ a := Nat.and_le_left
  have e1 : (BitVec.ofInt IntKind.i64.bits (a : Int) &&& BitVec.ofInt IntKind.i64.bits (b : Int)).toNat = a &&& b := by
    rw [show IntKind.i64.bits = 64 from rfl, BitVec.toNat_and, BitVec.ofInt_natCast, BitVec.ofInt_natCast, BitVec.toNat_ofNat, BitVec.toNat_ofNat, Nat.mod_eq_of_lt (by omega), Nat.mod_eq_of_lt (by omega)]
  show IntKind.i64.wrap ((BitVec.ofInt IntKind.i64.bits (a : Int) &&& BitVec.ofInt IntKind.i64.bits (b : Int)).toNat : Int) = _
  rw [e1, IntKind.wrap_i64]
  omega
theorem bit_of (h k : Nat) (hh : h < 8192) : (bits .and .i64 ((h : Int) / 2 ^ k) 1 == 1) = h.testBit k := by
  have e : (h : Int) / 2 ^ k = ((h / 2 ^ k : Nat) : Int) := by rw [Int.natCast_ediv, Int.natCast_pow]; rfl
  have hl : h / 2 ^ k ≤ h := Nat.div_le_self _ _
  have h1 := and_i64 (h / 2 ^ k) 1 (by omega) (by omega)
  rw [e, show (1 : Int) = ((1 : Nat) : Int) from rfl, h1, Nat.and_one_is_mod, Nat.testBit_eq_decide_div_mod_eq]
  by_cases hq : h / 2 ^ k % 2 = 1
  · rw [hq]; simp
  · simp only [hq, decide_false]
    apply beq_eq_false_iff_ne.2
    omega
theorem enters (k : Nat) (hk : k < 13) (xs : Array Value) (W : World) : (callFunc (36 + k) xs).run Try.prog W = .ok (.enter (36 + k) xs) W := by
  have hd : k = 0 ∨ k = 1 ∨ k = 2 ∨ k = 3 ∨ k = 4 ∨ k = 5 ∨ k = 6 ∨ k = 7 ∨ k = 8 ∨ k = 9 ∨ k = 10 ∨ k = 11 ∨ k = 12 := by omega
  rcases hd with rfl | rfl | rfl | rfl | rfl | rfl | rfl | rfl | rfl | rfl | rfl | rfl | rfl <;> simp

def goNext (h n k : Nat) (x : Except Int (Msg × St)) : Except Int (Msg × St) :=
  match x with
  | .error e => .error e
  | .ok (m', S') => goS h n k S' m'
/-- Ahead of the k-th field. -/
structure RelA (lo : Nat) (w : World) (base b g : Nat) (G : Nat → Prop) (N h k : Nat) (X : Except Int (Msg × St)) (wr : World) (S : St) (m : Msg) (Gk : Nat → Prop) : Prop where
  own : ∀ q, Gk q → G q ∨ w.heap.size ≤ q
  turn : Turned (fun k => G k ∨ k = g) w wr
  cod : Cod wr base Gk b S
  msg : MsgAt lo wr g Gk m
  apart : ¬ Gk g
  okT : OkT (N + 1048576 * k) S
  okM : ∀ i, k ≤ i → i < 13 → okF i m
  spec : X = goS h (13 - k) k S m

set_option maxHeartbeats 4000000 in
theorem allM_any {w : World} {base b g : Nat} {G : Nat → Prop} {S : St} {m : Msg} (h : Cod w base G b S) (hM : MsgAt lo w g G m) (hg : ¬ G g) (hb : base ≤ g) {N : Nat} (hS : OkT N S) (hN : N ≤ 137438953472) (ho : OkM m) (h0 : 0 ≤ m.ty) (h1 : m.ty ≤ 255) :
    Calls Try.prog 20 #[.pointer (some ⟨b, 0, none⟩), .pointer (some ⟨g, 0, none⟩)] w fun e w' => EndsM lo w base G b g (allS S m) e w' := by
  have HA := Aside0.mk (allS.eq_def S m)
  generalize allS S m = X at HA ⊢
  obtain ⟨A5, c5, A8, c8, A13, c13, hx, hl1, hl2, hl3, h5, h8, h13⟩ := hM
  have HXF : Aside0 (g < w.heap.size) := ⟨hx.lt⟩
  have hxl := hx.lt
  have p : w.cell? ⟨g, 0, none⟩ = some (.int .u8 m.ty) := (hx.cell 0).trans rfl
  have HH := Aside0.mk (fun (w : World) => has_any m.ty h0 h1 w)
  rw [(hasN_nat m.ty).1] at HH
  have HHN := Aside0.mk (hasN_nat m.ty).2
  obtain ⟨hh, hhe⟩ : ∃ hh, hasB m.ty = hh := ⟨_, rfl⟩
  rw [hhe] at HH HHN HA
  clear hhe
  have HM := Aside0.mk (show MsgAt lo w g G m from ⟨A5, c5, A8, c8, A13, c13, hx, hl1, hl2, hl3, h5, h8, h13⟩)
  have HC := Aside0.mk h
  have HS := Aside0.mk hS
  have HO := Aside0.mk ho
  clear h hS ho hx hl1 hl2 hl3 h5 h8 h13 h0 h1
  go_enter Try.func20, Try.ntmps20
  go_wp2_with fail
  refine (HH.out _).mono ?_
  rintro e w1 ⟨rfl, hb1⟩
  have hx1 : Blk w1 w.heap.size _ 71 := (hb1.block _ (Blk.lt (Blk.new w _ 71))).trans (Blk.new w (#[.func (.func 36) #[] #[], .func (.func 37) #[] #[], .func (.func 38) #[] #[], .func (.func 39) #[] #[], .func (.func 40) #[] #[], .func (.func 41) #[] #[], .func (.func 42) #[] #[], .func (.func 43) #[] #[], .func (.func 44) #[] #[], .func (.func 45) #[] #[], .func (.func 46) #[] #[], .func (.func 47) #[] #[], .func (.func 48) #[] #[]]) 71)
  have hx10 : World.cell? w1 ⟨w.heap.size, 0, none⟩ = some (.func (.func 36) #[] #[]) := Blk.cell hx1 0
  have hx11 : World.cell? w1 ⟨w.heap.size, 1, none⟩ = some (.func (.func 37) #[] #[]) := Blk.cell hx1 1
  have hx12 : World.cell? w1 ⟨w.heap.size, 2, none⟩ = some (.func (.func 38) #[] #[]) := Blk.cell hx1 2
  have hx13 : World.cell? w1 ⟨w.heap.size, 3, none⟩ = some (.func (.func 39) #[] #[]) := Blk.cell hx1 3
  have hx14 : World.cell? w1 ⟨w.heap.size, 4, none⟩ = some (.func (.func 40) #[] #[]) := Blk.cell hx1 4
  have hx15 : World.cell? w1 ⟨w.heap.size, 5, none⟩ = some (.func (.func 41) #[] #[]) := Blk.cell hx1 5
  have hx16 : World.cell? w1 ⟨w.heap.size, 6, none⟩ = some (.func (.func 42) #[] #[]) := Blk.cell hx1 6
  have hx17 : World.cell? w1 ⟨w.heap.size, 7, none⟩ = some (.func (.func 43) #[] #[]) := Blk.cell hx1 7
  have hx18 : World.cell? w1 ⟨w.heap.size, 8, none⟩ = some (.func (.func 44) #[] #[]) := Blk.cell hx1 8
  have hx19 : World.cell? w1 ⟨w.heap.size, 9, none⟩ = some (.func (.func 45) #[] #[]) := Blk.cell hx1 9
  have hx110 : World.cell? w1 ⟨w.heap.size, 10, none⟩ = some (.func (.func 46) #[] #[]) := Blk.cell hx1 10
  have hx111 : World.cell? w1 ⟨w.heap.size, 11, none⟩ = some (.func (.func 47) #[] #[]) := Blk.cell hx1 11
  have hx112 : World.cell? w1 ⟨w.heap.size, 12, none⟩ = some (.func (.func 48) #[] #[]) := Blk.cell hx1 12
  have HB1 := Aside0.mk (below_then (below_alloc (Below.refl w.heap.size w) (.cells #[.func (.func 36) #[] #[], .func (.func 37) #[] #[], .func (.func 38) #[] #[], .func (.func 39) #[] #[], .func (.func 40) #[] #[], .func (.func 41) #[] #[], .func (.func 42) #[] #[], .func (.func 43) #[] #[], .func (.func 44) #[] #[], .func (.func 45) #[] #[], .func (.func 46) #[] #[], .func (.func 47) #[] #[], .func (.func 48) #[] #[]] 71)) (by simp) hb1)
  clear hb1 hx1 p
  go_wp2_with fail
  have HF : Aside0 (∀ k : Nat, k < 13 → (#[.func (.func 36) #[] #[], .func (.func 37) #[] #[], .func (.func 38) #[] #[], .func (.func 39) #[] #[], .func (.func 40) #[] #[], .func (.func 41) #[] #[], .func (.func 42) #[] #[], .func (.func 43) #[] #[], .func (.func 44) #[] #[], .func (.func 45) #[] #[], .func (.func 46) #[] #[], .func (.func 47) #[] #[], .func (.func 48) #[] #[]] : Array Value)[k]? = some (.func (.func (36 + k)) #[] #[])) := ⟨fun k hk => by
    have hd : k = 0 ∨ k = 1 ∨ k = 2 ∨ k = 3 ∨ k = 4 ∨ k = 5 ∨ k = 6 ∨ k = 7 ∨ k = 8 ∨ k = 9 ∨ k = 10 ∨ k = 11 ∨ k = 12 := by omega
    rcases hd with rfl | rfl | rfl | rfl | rfl | rfl | rfl | rfl | rfl | rfl | rfl | rfl | rfl <;> rfl⟩
  clear hx10 hx11 hx12 hx13 hx14 hx15 hx16 hx17 hx18 hx19 hx110 hx111 hx112
  have HFS : Aside0 ((#[.func (.func 36) #[] #[], .func (.func 37) #[] #[], .func (.func 38) #[] #[], .func (.func 39) #[] #[], .func (.func 40) #[] #[], .func (.func 41) #[] #[], .func (.func 42) #[] #[], .func (.func 43) #[] #[], .func (.func 44) #[] #[], .func (.func 45) #[] #[], .func (.func 46) #[] #[], .func (.func 47) #[] #[], .func (.func 48) #[] #[]] : Array Value).size = 13) := ⟨rfl⟩
  generalize (#[.func (.func 36) #[] #[], .func (.func 37) #[] #[], .func (.func 38) #[] #[], .func (.func 39) #[] #[], .func (.func 40) #[] #[], .func (.func 41) #[] #[], .func (.func 42) #[] #[], .func (.func 43) #[] #[], .func (.func 44) #[] #[], .func (.func 45) #[] #[], .func (.func 46) #[] #[], .func (.func 47) #[] #[], .func (.func 48) #[] #[]] : Array Value) = fns at HF HFS HB1 ⊢
  have HREL : Aside0 (RelA lo w base b g G N hh 0 X w1 S m G) := ⟨⟨fun q hq => .inl hq, Turned.of_below HB1.out _, HC.out.below HB1.out, HM.out.turn hg (Turned.of_below HB1.out _) (fun q hq => .inl hq), hg, HS.out, fun i _ hi => HO.out i hi, HA.out⟩⟩
  clear HC HM HS HO HA HB1
  go_loopw [15] (fun i wr => ∃ (k : Nat) (S : St) (m : Msg) (Gk : Nat → Prop), k ≤ 13 ∧ i = .int .i64 k ∧ Aside0 (RelA lo w base b g G N hh k X wr S m Gk)) (fun i _ => 13 - (intOf i).toNat)
  case atStart => exact ⟨0, S, m, G, by omega, rfl, HREL⟩
  case round =>
    clear HREL
    obtain ⟨k, S, m, Gk, hk, rfl, HR⟩ := hrel
    by_cases hlt : k < 13
    · have hix := fun W => run_index_fns fns k _ hlt (HF.out k hlt) W
      have hen := enters k hlt
      have hbt := bit_of hh k HHN.out
      have HSPEC := Aside0.mk HR.out.spec
      obtain ⟨j, hj⟩ : ∃ j, 13 - k = j + 1 := ⟨12 - k, by omega⟩
      rw [hj] at HSPEC
      have HJ : Aside0 (j = 13 - (k + 1)) := ⟨by omega⟩
      clear hj
      cases ht : hh.testBit k with
      | false =>
        rw [ht] at hbt
        have HS2 : Aside0 (X = goS hh j (k + 1) S m) := ⟨by rw [HSPEC.out, goS, if_neg (by rw [ht]; simp)]⟩
        clear ht hen
        go_wp2_with fail
        go_roundw
        case rel => exact ⟨k + 1, S, m, Gk, by omega, by go_num, ⟨HR.out.own, HR.out.turn, HR.out.cod, HR.out.msg, HR.out.apart, HR.out.okT.mono (by omega), fun i hi => HR.out.okM i (by omega), by rw [HS2.out, HJ.out]⟩⟩
        case measure => simp [intOf]; omega
      | true =>
        rw [ht] at hbt
        have HC := Aside0.mk (field_any hlt HR.out.cod HR.out.msg HR.out.apart hb HR.out.okT (by omega) (HR.out.okM k (Nat.le_refl _) hlt))
        obtain ⟨x, hx⟩ : ∃ x, fieldS k S m = x := ⟨_, rfl⟩
        have HX := Aside0.mk hx
        have HS2 : Aside0 (X = goNext hh j (k + 1) x) := ⟨by rw [HSPEC.out, goS, if_pos ht, ← hx]; rfl⟩
        rw [hx] at HC
        clear ht hx HSPEC
        go_wp2_with fail
        refine HC.out.mono ?_
        cases x with
        | error x =>
          rintro e w2 ⟨G', hG', hT', he, hbk⟩
          have he2 : e = .panicked [{ v := .iface 63 (.agg #[.int .i64 x]), recovered := false }] := he
          subst he2
          clear he
          have hG2 : ∀ q, G' q → G q ∨ w.heap.size ≤ q := fun q hq => (hG' q hq).elim (HR.out.own q) (fun h => .inr (Nat.le_trans HR.out.turn.size h))
          have HE : Aside0 (EndsM lo w base G b g (.error x) (wrongs x) w2) := ⟨⟨G', hG2, HR.out.turn.then_ hT' (fun q hq => hq.elim (fun h => (HR.out.own q h).imp .inl id) (fun h => .inl (.inr h))), rfl, hbk⟩⟩
          clear hG' hT' hG2 hbk
          go_wp2_with fail
          rw [HS2.out]
          exact ⟨rfl, HE.out⟩
        | ok x =>
          obtain ⟨m2, S2⟩ := x
          rintro e w2 ⟨G', hG', hT', rfl, hC2, hM2, hg2⟩
          have HR2 : Aside0 (RelA lo w base b g G N hh (k + 1) X w2 S2 m2 G') := ⟨⟨fun q hq => (hG' q hq).elim (HR.out.own q) (fun h => .inr (Nat.le_trans HR.out.turn.size h)), HR.out.turn.then_ hT' (fun q hq => hq.elim (fun h => (HR.out.own q h).imp .inl id) (fun h => .inl (.inr h))), hC2, hM2, hg2, (fieldS_okT hlt HR.out.okT (by omega) (HR.out.okM k (Nat.le_refl _) hlt) HX.out).mono (by omega), fun i hi h13 => fieldS_keeps hlt h13 (by omega) HX.out (HR.out.okM i (by omega) h13), by rw [HS2.out, HJ.out]; rfl⟩⟩
          clear hG' hT' hC2 hM2 hg2
          go_wp2_with fail
          go_roundw
          case rel => exact ⟨k + 1, S2, m2, G', by omega, by go_num, HR2⟩
          case measure => simp [intOf]; omega
    · obtain rfl : k = 13 := by omega
      have HE : Aside0 (EndsM lo w base G b g X (.returned (.tuple #[])) wr) := ⟨by
        rw [HR.out.spec]
        exact ⟨Gk, HR.out.own, HR.out.turn, rfl, HR.out.cod, HR.out.msg, HR.out.apart⟩⟩
      clear HR
      go_wp2_with fail
      refine bodyPost_end (results_none rfl _ _ _) rfl ?_
      exact HE.out
end Go.Proofs.Ytmjbdeoomohanaa.Mine

/- wire: Pack. -/
set_option linter.unusedSimpArgs false
set_option linter.unusedVariables false
namespace Go.Proofs.Ytmjbdeoomohanaa.Mine
open Go.RowKit Go.Maps Go.Proofs.YtmjbdeoomohanaaW.PrintWords Go.Proofs.YtmjbdeoomohanaaW.PrintLast Go.Proofs.YtmjbdeoomohanaaW.PrintMore Go.Proofs.Ytmjbdeoomohanaa.PWirePacks Go.Proofs.Ytmjbdeoomohanaa.Turn
variable {lo : Nat}

/-- A message's cells; what they lead to lies in ok. -/
def ArgF (w : World) (ok : Nat → Prop) (m : Msg) (cs : Array Value) : Prop :=
  ∃ A5 c5 A8 c8 A13 c13, cs = mcells m A5 c5 A8 c8 A13 c13 ∧ m.log.length ≤ c5 ∧ m.body.length ≤ c8 ∧ m.blocks.length ≤ c13 ∧
    Kd.F k44 w ok A5 m.log.length m.log ∧ Kd.F (Kd.int .u8) w ok A8 m.body.length m.body ∧ Kd.F (Kd.slice 5 (Kd.int .u8)) w ok A13 m.blocks.length m.blocks
theorem ArgF.mono {w : World} {ok ok' : Nat → Prop} {m : Msg} {cs : Array Value} (h : ArgF w ok m cs) (hk : ∀ k, ok k → ok' k) : ArgF w ok' m cs := by
  obtain ⟨A5, c5, A8, c8, A13, c13, e, h1, h2, h3, f5, f8, f13⟩ := h
  exact ⟨A5, c5, A8, c8, A13, c13, e, h1, h2, h3, Kd.F_mono f5 hk, Kd.F_mono f8 hk, Kd.F_mono f13 hk⟩
theorem ArgF.step {w w' : World} {ok : Nat → Prop} {m : Msg} {cs : Array Value} (h : ArgF w ok m cs) (hm : ∀ k, ok k → k < w.heap.size → w'.heap[k]? = w.heap[k]?) : ArgF w' ok m cs := by
  obtain ⟨A5, c5, A8, c8, A13, c13, e, h1, h2, h3, f5, f8, f13⟩ := h
  exact ⟨A5, c5, A8, c8, A13, c13, e, h1, h2, h3, Kd.F_step f5 hm, Kd.F_step f8 hm, Kd.F_step f13 hm⟩
theorem ArgF.bound {w : World} {ok : Nat → Prop} {m : Msg} {cs : Array Value} (h : ArgF w ok m cs) : ArgF w (fun k => ok k ∧ k < w.heap.size) m cs := by
  obtain ⟨A5, c5, A8, c8, A13, c13, e, h1, h2, h3, f5, f8, f13⟩ := h
  exact ⟨A5, c5, A8, c8, A13, c13, e, h1, h2, h3, Kd.F_bound f5, Kd.F_bound f8, Kd.F_bound f13⟩
theorem ArgF.below {w w' : World} {ok : Nat → Prop} {m : Msg} {cs : Array Value} (h : ArgF w ok m cs) (hb : Below w.heap.size w w') : ArgF w' (fun k => ok k ∧ k < w.heap.size) m cs := h.bound.step (fun k _ hlt => hb.block k hlt)
theorem MsgAt.of {w : World} {g : Nat} {G ok : Nat → Prop} {m : Msg} {cs : Array Value} (h : ArgF w ok m cs) (hb : Blk w g cs 29) (hk : ∀ k, ok k → ¬ G k ∧ Off lo g k) : MsgAt lo w g G m := by
  obtain ⟨A5, c5, A8, c8, A13, c13, rfl, h1, h2, h3, f5, f8, f13⟩ := h
  exact ⟨A5, c5, A8, c8, A13, c13, hb, h1, h2, h3, Kd.F_mono f5 hk, Kd.F_mono f8 hk, Kd.F_mono f13 hk⟩
theorem MsgAt.arg {w : World} {g : Nat} {G : Nat → Prop} {m : Msg} (h : MsgAt lo w g G m) : ∃ cs, Blk w g cs 29 ∧ ArgF w (fun k => ¬ G k ∧ Off lo g k) m cs := by
  obtain ⟨A5, c5, A8, c8, A13, c13, hb, h1, h2, h3, f5, f8, f13⟩ := h
  exact ⟨_, hb, A5, c5, A8, c8, A13, c13, rfl, h1, h2, h3, f5, f8, f13⟩

/-- Each field is of its type. -/
structure RgM (m : Msg) : Prop where
  ty : 0 ≤ m.ty ∧ m.ty ≤ 255
  view : 0 ≤ m.view ∧ m.view < 18446744073709551616
  normal : 0 ≤ m.normal ∧ m.normal < 18446744073709551616
  client : 0 ≤ m.client ∧ m.client < 18446744073709551616
  seq : 0 ≤ m.seq ∧ m.seq < 18446744073709551616
  key : 0 ≤ m.key ∧ m.key < 18446744073709551616
  shard : 0 ≤ m.shard ∧ m.shard < 256
  stripe : 0 ≤ m.stripe ∧ m.stripe < 4294967296
  log : m.log.length ≤ 4611686018427387904 ∧ ∀ x ∈ m.log, 0 ≤ x.f0 ∧ x.f0 < 18446744073709551616 ∧ 0 ≤ x.f1 ∧ x.f1 < 18446744073709551616 ∧ ∀ y ∈ x.f2, 0 ≤ y ∧ y < 256
  body : m.body.length ≤ 4611686018427387904 ∧ ∀ y ∈ m.body, 0 ≤ y ∧ y < 256
  blocks : m.blocks.length ≤ 4611686018427387904 ∧ ∀ x ∈ m.blocks, ∀ y ∈ x, 0 ≤ y ∧ y < 256

/-- A message in which Check finds nothing. -/
structure GoodM (m : Msg) : Prop where
  has : hasB m.ty ≠ 0
  set : badF (setL m) (hasB m.ty) = false
  op : 0 ≤ m.op ∧ m.op ≤ 64
  commit : 0 ≤ m.commit ∧ m.commit ≤ 64
  code : 0 ≤ m.code ∧ m.code ≤ 65535
  log : m.log.length ≤ 64 ∧ ∀ x ∈ m.log, x.f2.length ≤ 2048
  body : m.body.length ≤ 2048
  blocks : m.blocks.length ≤ 4096 ∧ ∀ x ∈ m.blocks, x.length = 128
theorem chk_good (m : Msg) : chk m = 0 ↔ GoodM m := by
  unfold chk
  constructor
  · intro h
    split at h
    · cases h
    · rename_i h1
      split at h
      · cases h
      · rename_i h2
        split at h
        · cases h
        · rename_i h3
          split at h
          · cases h
          · rename_i h4
            split at h
            · cases h
            · rename_i h5
              simp only [numBad, Bool.or_eq_true, decide_eq_true_eq, not_or] at h3
              simp only [longBad, Bool.or_eq_true, decide_eq_true_eq, not_or, List.any_eq_true, not_exists, not_and] at h4
              simp only [List.any_eq_true, not_exists, not_and] at h5
              refine ⟨h1, by simpa using h2, by omega, by omega, by omega, ⟨by omega, fun x hx => ?_⟩, by omega, ⟨by omega, fun x hx => ?_⟩⟩
              · have := h4.2 x hx
                simp only [longE, decide_eq_true_eq] at this
                omega
              · have := h5 x hx
                simpa [oddB] using this
  · intro h
    rw [if_neg h.has, if_neg (by rw [h.set]; simp), if_neg, if_neg, if_neg]
    · simp only [List.any_eq_true, not_exists, not_and]
      intro x hx
      simp [oddB, h.blocks.2 x hx]
    · simp only [longBad, Bool.or_eq_true, decide_eq_true_eq, not_or, List.any_eq_true, not_exists, not_and]
      refine ⟨⟨⟨?_, ?_⟩, ?_⟩, ?_⟩
      · have := h.log.1; omega
      · have := h.body; omega
      · have := h.blocks.1; omega
      · intro x hx
        have := h.log.2 x hx
        simp only [longE, decide_eq_true_eq]
        omega
    · simp only [numBad, Bool.or_eq_true, decide_eq_true_eq, not_or]
      have := h.op; have := h.commit; have := h.code
      omega
theorem GoodM.okM {m : Msg} (h : GoodM m) (r : RgM m) : OkM m := by
  intro i hi
  have hd : i = 0 ∨ i = 1 ∨ i = 2 ∨ i = 3 ∨ i = 4 ∨ i = 5 ∨ i = 6 ∨ i = 7 ∨ i = 8 ∨ i = 9 ∨ i = 10 ∨ i = 11 ∨ i = 12 := by omega
  rcases hd with rfl | rfl | rfl | rfl | rfl | rfl | rfl | rfl | rfl | rfl | rfl | rfl | rfl
  · exact r.view
  · exact r.normal
  · exact ⟨h.op.1, by have := h.op.2; omega⟩
  · exact ⟨h.commit.1, by have := h.commit.2; omega⟩
  · refine ⟨by have := h.log.1; omega, fun x hx => ?_⟩
    obtain ⟨a1, a2, a3, a4, -⟩ := r.log.2 x hx
    exact ⟨h.log.2 x hx, a1, a2, a3, a4⟩
  · exact r.client
  · exact r.seq
  · have := h.body
    exact Nat.le_trans this (by omega)
  · exact r.key
  · exact r.shard
  · exact r.stripe
  · exact ⟨h.code.1, by have := h.code.2; omega⟩
  · exact ⟨by have := h.blocks.1; omega, fun x hx => by rw [h.blocks.2 x hx]; omega⟩

theorem R_one (W : World) {base : Nat} (hb : base ≤ W.heap.size) (x : Int) : Kd.R (Kd.int .u8) 5 (W.alloc (.cells #[.int .u8 x] 5)) base (fun k => k = W.heap.size) (.slice (some ⟨W.heap.size, 0, none⟩) 1 1) [x] :=
  Kd.R_of_own (xs := [x]) (World.ownsRow_lit (base := base) (e := 5) (size := 1) W #[.int .u8 x] 1 hb (by decide) (by simp)) (fun k hk => by simpa [Value.ownBlock] using hk.symm)

set_option maxHeartbeats 2000000 in
theorem pack_no {w : World} {m : Msg} {cs : Array Value} {ok : Nat → Prop} (h : ArgF w ok m cs) (hr : RgM m) {e : Int} (he : chk m = e) (hne : e ≠ 0) :
    Calls Try.prog 11 #[.agg cs] w fun en w' => en = .returned (.tuple #[.slice none 0 0, .int .i64 e]) ∧ Below w.heap.size w w' := by
  obtain ⟨A5, c5, A8, c8, A13, c13, rfl, h1, h2, h3, f5, f8, f13⟩ := h
  have HC := Aside0.mk (fun (W : World) (hb : Below w.heap.size w W) => check_any m A5 c5 A8 c8 A13 c13 W hr.ty.1 hr.ty.2 hr.log.1 (Kd.C_below (Kd.F_now f5) hb) hr.body.1 hr.blocks.1 (Kd.C_below (Kd.F_now f13) hb))
  rw [he] at HC
  have HX := Aside0.mk (Blk.new w (mcells m A5 c5 A8 c8 A13 c13) 29)
  have HA := Aside0.mk (below_alloc (Below.refl w.heap.size w) (.cells (mcells m A5 c5 A8 c8 A13 c13) 29))
  have hbq : (e != 0) = true := bne_iff_ne.2 hne
  clear f5 f8 f13 he hne h1 h2 h3 hr
  obtain ⟨cs, hcs⟩ : ∃ cs, mcells m A5 c5 A8 c8 A13 c13 = cs := ⟨_, rfl⟩
  unfold mcells at HC HX HA ⊢
  go_enter Try.func11, Try.ntmps11
  go_wp2_with fail
  refine (HC.out _ HA.out).mono ?_
  rintro en w1 ⟨rfl, hb⟩
  have HB := Aside0.mk (below_step HA.out hb)
  clear hb
  go_wp2_with fail
  go_ret2
  exact ⟨rfl, HB.out⟩

set_option maxHeartbeats 4000000 in
theorem pack_yes {w : World} {m : Msg} {cs : Array Value} (h : ArgF w (fun k => k < w.heap.size) m cs) (hr : RgM m) (hg : GoodM m) {l : List Int} (hl : allS (.W [m.ty]) m = .ok (m, .W l)) :
    Calls Try.prog 11 #[.agg cs] w fun en w' => ∃ A c, en = .returned (.tuple #[.slice A l.length c, .int .i64 0]) ∧ l.length ≤ c ∧ Kd.F (Kd.int .u8) w' (fun k => w.heap.size ≤ k) A l.length l ∧ Below w.heap.size w w' := by
  have HARG := Aside0.mk h
  obtain ⟨A5, c5, A8, c8, A13, c13, rfl, h1, h2, h3, f5, f8, f13⟩ := h
  have HC := Aside0.mk (fun (W : World) (hb : Below w.heap.size w W) => check_any m A5 c5 A8 c8 A13 c13 W hr.ty.1 hr.ty.2 hr.log.1 (Kd.C_below (Kd.F_now f5) hb) hr.body.1 hr.blocks.1 (Kd.C_below (Kd.F_now f13) hb))
  rw [(chk_good m).2 hg] at HC
  have HX := Aside0.mk (Blk.new w (mcells m A5 c5 A8 c8 A13 c13) 29)
  have HA := Aside0.mk (below_alloc (Below.refl w.heap.size w) (.cells (mcells m A5 c5 A8 c8 A13 c13) 29))
  have HALL : Aside0 (∀ (W : World) (base b g : Nat) (G : Nat → Prop), Cod W base G b (.W [m.ty]) → MsgAt w.heap.size W g G m → ¬ G g → base ≤ g → Calls Try.prog 20 #[.pointer (some ⟨b, 0, none⟩), .pointer (some ⟨g, 0, none⟩)] W fun e w' => EndsM w.heap.size W base G b g (.ok (m, .W l)) e w') :=
    ⟨fun W base b g G h1 h2 h3 h4 => by rw [← hl]; exact allM_any h1 h2 h3 h4 (N := 1) (S := .W [m.ty]) (Nat.le_refl 1) (by omega) (hg.okM hr) hr.ty.1 hr.ty.2⟩
  have HMA : Aside0 (∀ W : World, Below w.heap.size w W → ArgF W (fun k => k < w.heap.size) m (mcells m A5 c5 A8 c8 A13 c13)) := ⟨fun W hb => (HARG.out.below hb).mono (fun k hk => hk.2)⟩
  clear f5 f8 f13 h1 h2 h3 hr hl hg HARG
  obtain ⟨ty, view, normal, op, commit, log, client, seq, body, key, shard, stripe, code, blocks⟩ := m
  obtain ⟨mm, hmm⟩ : ∃ mm : Msg, (⟨ty, view, normal, op, commit, log, client, seq, body, key, shard, stripe, code, blocks⟩ : Msg) = mm := ⟨_, rfl⟩
  rw [hmm] at HALL HMA
  have HTY : Aside0 (mm.ty = ty) := ⟨by rw [← hmm]⟩
  unfold mcells at HC HX HA HMA ⊢
  rw [← hmm] at HMA
  simp only at HC HX HA HMA ⊢
  rw [hmm] at HMA
  clear hmm
  go_enter Try.func11, Try.ntmps11
  go_wp2_with fail
  refine (HC.out _ HA.out).mono ?_
  rintro en w1 ⟨rfl, hb⟩
  have HB := Aside0.mk (below_step HA.out hb)
  have hx1 : Blk w1 w.heap.size _ 29 := (hb.block _ HX.out.lt).trans HX.out
  have HX1 := Aside0.mk hx1
  have hxl := hx1.lt
  have p : w1.cell? ⟨w.heap.size, 0, none⟩ = some (.int .u8 ty) := (hx1.cell 0).trans rfl
  clear hb hx1
  go_wp2_with fail
  have hw1 : w.heap.size < w1.heap.size := hxl
  have hz3 : ((w1.alloc (.cells #[.int .u8 ty] 5)).alloc (.cells #[.slice (some ⟨w1.heap.size, 0, none⟩) 1 1, .bool false] 48)).heap.size = w1.heap.size + 2 := by simp
  have HZ3 := Aside0.mk hz3
  have HCOD : Aside0 (Cod ((w1.alloc (.cells #[.int .u8 ty] 5)).alloc (.cells #[.slice (some ⟨w1.heap.size, 0, none⟩) 1 1, .bool false] 48)) w.heap.size (fun k => k = w1.heap.size ∨ k = w1.heap.size + 1) (w1.heap.size + 1) (.W [mm.ty])) := by
    rw [HTY.out]
    refine ⟨⟨.inr rfl, fun k hk => ⟨by rw [hz3]; rcases hk with rfl | rfl <;> omega, by rcases hk with rfl | rfl <;> omega⟩, _, ?_, Kd.R_mono (Kd.R_alloc (R_one w1 (Nat.le_of_lt hw1) ty) _) (fun k hk => .inl hk)⟩⟩
    have := Blk.new (w1.alloc (.cells #[.int .u8 ty] 5)) #[.slice (some ⟨w1.heap.size, 0, none⟩) 1 1, .bool false] 48
    rwa [show (w1.alloc (.cells #[.int .u8 ty] 5)).heap.size = w1.heap.size + 1 by simp] at this
  have HB3 : Aside0 (Below w.heap.size w ((w1.alloc (.cells #[.int .u8 ty] 5)).alloc (.cells #[.slice (some ⟨w1.heap.size, 0, none⟩) 1 1, .bool false] 48))) := ⟨below_alloc (below_alloc HB.out _) _⟩
  have HMSG : Aside0 (MsgAt w.heap.size ((w1.alloc (.cells #[.int .u8 ty] 5)).alloc (.cells #[.slice (some ⟨w1.heap.size, 0, none⟩) 1 1, .bool false] 48)) w.heap.size (fun k => k = w1.heap.size ∨ k = w1.heap.size + 1) mm) :=
    ⟨MsgAt.of (HMA.out _ HB3.out) ((HX1.out.alloc _).alloc _) (fun k hk => ⟨by omega, by omega, .inl hk⟩)⟩
  refine (HALL.out _ _ _ _ _ HCOD.out HMSG.out (by omega) (Nat.le_refl _)).mono ?_
  rintro en w2 ⟨G', hG', hT', rfl, ⟨h1, h2, v, h3, h4⟩, hM2, hg2⟩
  obtain ⟨A, c, rfl, hc, -⟩ := Kd.R_reads h4
  have HEND : Aside0 (l.length ≤ c ∧ Kd.F (Kd.int .u8) w2 (fun k => w.heap.size ≤ k) A l.length l ∧ Below w.heap.size w w2) := by
    refine ⟨⟨hc, Kd.F_mono (Kd.R_F h4) (fun k hk => (h2 k hk).2), ?_⟩⟩
    refine below_turned HB3.out hT' (by rw [hz3]; omega) (fun k hk => ?_)
    omega
  have q : w2.cell? ⟨w1.heap.size + 1, 0, none⟩ = some (.slice A l.length c) := (h3.cell 0).trans rfl
  have hl2 := h3.lt
  clear HCOD HMSG HB3 hG' hT' h1 h2 h3 h4 hM2 hg2 hz3 hc
  go_wp2_with fail
  go_ret2
  exact ⟨A, c, rfl, HEND.out⟩
end Go.Proofs.Ytmjbdeoomohanaa.Mine

/- wire: a message that comes in. -/
set_option linter.unusedSimpArgs false
set_option linter.unusedVariables false
namespace Go.Proofs.Ytmjbdeoomohanaa.Mine
open Go.RowKit Go.Maps Go.Proofs.YtmjbdeoomohanaaW.PrintWords Go.Proofs.YtmjbdeoomohanaaW.PrintLast Go.Proofs.YtmjbdeoomohanaaW.PrintMore Go.Proofs.Ytmjbdeoomohanaa.PWirePacks Go.Proofs.Ytmjbdeoomohanaa.Turn Go.Proofs.Ytmjbdeoomohanaa.Open

theorem wf_u8 {n : Int} (h : (Lit.int .u8 n).wf = true) : 0 ≤ n ∧ n < 256 := by
  have h1 := (Lit.wf_int_iff _ _).1 h
  have e1 : IntKind.u8.min = 0 := rfl
  have e2 : IntKind.u8.max = 255 := rfl
  omega
theorem wf_u32 {n : Int} (h : (Lit.int .u32 n).wf = true) : 0 ≤ n ∧ n < 4294967296 := by
  have h1 := (Lit.wf_int_iff _ _).1 h
  have e1 : IntKind.u32.min = 0 := rfl
  have e2 : IntKind.u32.max = 4294967295 := rfl
  omega
theorem wf_u64 {n : Int} (h : (Lit.int .u64 n).wf = true) : 0 ≤ n ∧ n < 18446744073709551616 := by
  have h1 := (Lit.wf_int_iff _ _).1 h
  have e1 : IntKind.u64.min = 0 := rfl
  have e2 : IntKind.u64.max = 18446744073709551615 := rfl
  omega

abbrev Bint (k : IntKind) (n : Int) : Prop := (Lit.int k n).wf = true
abbrev Bbytes (l : List Int) : Prop := l.length * 1 ≤ 140737488351232 ∧ l.length ≤ 9223372036854775807 ∧ ∀ a, a ∈ l → Bint .u8 a
abbrev B44 (x : S44) : Prop := Bint .u64 x.f0 ∧ (Bint .u64 x.f1 ∧ Bbytes x.f2)
abbrev B23 (l : List S44) : Prop := l.length * 40 ≤ 140737488351232 ∧ l.length ≤ 9223372036854775807 ∧ ∀ a, a ∈ l → B44 a
abbrev B27 (l : List (List Int)) : Prop := l.length * 24 ≤ 140737488351232 ∧ l.length ≤ 9223372036854775807 ∧ ∀ a, a ∈ l → Bbytes a
theorem opn24 : Opn Try.prog 24 (Kd.slice 5 (Kd.int .u8)) Bbytes := opn_slice (b := 1) Try.underlying24 (by kernel_rfl) (by kernel_rfl) (opn_int Try.underlying5)
theorem opn44 : Opn Try.prog 44 k44 B44 :=
  opn_iso (d := Kd.pair (Kd.int .u64) (Kd.pair (Kd.int .u64) (Kd.slice 5 (Kd.int .u8)))) (B := fun p => Bint .u64 p.1 ∧ (Bint .u64 p.2.1 ∧ Bbytes p.2.2)) (fun x : S44 => (x.f0, x.f1, x.f2)) (fun p => ⟨p.1, p.2.1, p.2.2⟩) (fun _ => rfl)
    (opn_struct Try.underlying44 (by kernel_rfl) (opnF_cons rfl (by kernel_rfl) (opn_int Try.underlying22) (opnF_cons rfl (by kernel_rfl) (opn_int Try.underlying22) (opnF_one rfl (by kernel_rfl) opn24))))
theorem opn23 : Opn Try.prog 23 (Kd.slice 44 k44) B23 := opn_slice (b := 40) Try.underlying23 (by kernel_rfl) (by kernel_rfl) opn44
theorem opn27 : Opn Try.prog 27 (Kd.slice 24 (Kd.slice 5 (Kd.int .u8))) B27 := opn_slice (b := 24) Try.underlying27 (by kernel_rfl) (by kernel_rfl) opn24
def kM := Kd.pair (Kd.int .u8) (Kd.pair (Kd.int .u64) (Kd.pair (Kd.int .u64) (Kd.pair (Kd.int .i64) (Kd.pair (Kd.int .i64) (Kd.pair (Kd.slice 44 k44) (Kd.pair (Kd.int .u64) (Kd.pair (Kd.int .u64) (Kd.pair (Kd.slice 5 (Kd.int .u8)) (Kd.pair (Kd.int .u64) (Kd.pair (Kd.int .u8) (Kd.pair (Kd.int .u32) (Kd.pair (Kd.int .i64) (Kd.slice 24 (Kd.slice 5 (Kd.int .u8)))))))))))))))
abbrev TM := Int × Int × Int × Int × Int × List S44 × Int × Int × List Int × Int × Int × Int × Int × List (List Int)
abbrev BM (p : TM) : Prop := Bint .u8 p.1 ∧ Bint .u64 p.2.1 ∧ Bint .u64 p.2.2.1 ∧ Bint .i64 p.2.2.2.1 ∧ Bint .i64 p.2.2.2.2.1 ∧ B23 p.2.2.2.2.2.1 ∧ Bint .u64 p.2.2.2.2.2.2.1 ∧ Bint .u64 p.2.2.2.2.2.2.2.1 ∧ Bbytes p.2.2.2.2.2.2.2.2.1 ∧ Bint .u64 p.2.2.2.2.2.2.2.2.2.1 ∧ Bint .u8 p.2.2.2.2.2.2.2.2.2.2.1 ∧ Bint .u32 p.2.2.2.2.2.2.2.2.2.2.2.1 ∧ Bint .i64 p.2.2.2.2.2.2.2.2.2.2.2.2.1 ∧ B27 p.2.2.2.2.2.2.2.2.2.2.2.2.2
theorem opn29 : Opn Try.prog 29 kM BM :=
  opn_struct Try.underlying29 (by kernel_rfl) (opnF_cons rfl (by kernel_rfl) (opn_int Try.underlying5) (opnF_cons rfl (by kernel_rfl) (opn_int Try.underlying22) (opnF_cons rfl (by kernel_rfl) (opn_int Try.underlying22) (opnF_cons rfl (by kernel_rfl) (opn_int Try.underlying3) (opnF_cons rfl (by kernel_rfl) (opn_int Try.underlying3) (opnF_cons rfl (by kernel_rfl) opn23 (opnF_cons rfl (by kernel_rfl) (opn_int Try.underlying22) (opnF_cons rfl (by kernel_rfl) (opn_int Try.underlying22) (opnF_cons rfl (by kernel_rfl) opn24 (opnF_cons rfl (by kernel_rfl) (opn_int Try.underlying22) (opnF_cons rfl (by kernel_rfl) (opn_int Try.underlying5) (opnF_cons rfl (by kernel_rfl) (opn_int Try.underlying25) (opnF_cons rfl (by kernel_rfl) (opn_int Try.underlying26) (opnF_one rfl (by kernel_rfl) opn27))))))))))))))
theorem heap44 : Kd.Heap k44 := Kd.heap_iso _ (Kd.heap_pair (Kd.heap_int _) (Kd.heap_pair (Kd.heap_int _) (Kd.heap_slice _ (Kd.heap_int _))))
theorem msg_of {w : World} {p : TM} {cs : Array Value} (h : kM.K w p cs.toList) (hb : BM p) : ∃ m, ArgF w (fun k => k < w.heap.size) m cs ∧ RgM m := by
  obtain ⟨x0, x1, x2, x3, x4, x5, x6, x7, x8, x9, x10, x11, x12, x13⟩ := p
  obtain ⟨c0, d0, e0, h0, c1, d1, rfl, h1, c2, d2, rfl, h2, c3, d3, rfl, h3, c4, d4, rfl, h4, c5, d5, rfl, h5, c6, d6, rfl, h6, c7, d7, rfl, h7, c8, d8, rfl, h8, c9, d9, rfl, h9, c10, d10, rfl, h10, c11, d11, rfl, h11, c12, d12, rfl, h12, h13⟩ := h
  obtain ⟨b0, b1, b2, b3, b4, b5, b6, b7, b8, b9, b10, b11, b12, b13⟩ := hb
  obtain ⟨A5, k5, rfl, hl5, hC5⟩ := h5
  obtain ⟨A8, k8, rfl, hl8, hC8⟩ := h8
  obtain ⟨A13, k13, rfl, hl13, hC13⟩ := h13
  have q0 : c0 = [.int .u8 x0] := h0
  have q1 : c1 = [.int .u64 x1] := h1
  have q2 : c2 = [.int .u64 x2] := h2
  have q3 : c3 = [.int .i64 x3] := h3
  have q4 : c4 = [.int .i64 x4] := h4
  have q6 : c6 = [.int .u64 x6] := h6
  have q7 : c7 = [.int .u64 x7] := h7
  have q9 : c9 = [.int .u64 x9] := h9
  have q10 : c10 = [.int .u8 x10] := h10
  have q11 : c11 = [.int .u32 x11] := h11
  have q12 : c12 = [.int .i64 x12] := h12
  subst q0 q1 q2 q3 q4 q6 q7 q9 q10 q11 q12
  have hcs : cs = mcells ⟨x0, x1, x2, x3, x4, x5, x6, x7, x8, x9, x10, x11, x12, x13⟩ A5 k5 A8 k8 A13 k13 := by
    apply Array.toList_inj.1
    rw [e0]
    rfl
  refine ⟨⟨x0, x1, x2, x3, x4, x5, x6, x7, x8, x9, x10, x11, x12, x13⟩, ⟨A5, k5, A8, k8, A13, k13, hcs, hl5, hl8, hl13, Kd.C_F heap44 hC5, Kd.C_F (Kd.heap_int _) hC8, Kd.C_F (Kd.heap_slice _ (Kd.heap_int _)) hC13⟩, ?_⟩
  refine ⟨?_, wf_u64 b1, wf_u64 b2, wf_u64 b6, wf_u64 b7, wf_u64 b9, wf_u8 b10, wf_u32 b11, ⟨?_, fun x hx => ?_⟩, ⟨?_, fun y hy => wf_u8 (b8.2.2 y hy)⟩, ⟨?_, fun x hx y hy => wf_u8 ((b13.2.2 x hx).2.2 y hy)⟩⟩
  · have := wf_u8 b0
    simp only
    omega
  · have h1 : x5.length * 40 ≤ 140737488351232 := b5.1
    show x5.length ≤ _
    omega
  · have := b5.2.2 x hx
    exact ⟨(wf_u64 this.1).1, (wf_u64 this.1).2, (wf_u64 this.2.1).1, (wf_u64 this.2.1).2, fun y hy => wf_u8 (this.2.2.2.2 y hy)⟩
  · have h1 : x8.length * 1 ≤ 140737488351232 := b8.1
    show x8.length ≤ _
    omega
  · have h1 : x13.length * 24 ≤ 140737488351232 := b13.1
    show x13.length ≤ _
    omega
end Go.Proofs.Ytmjbdeoomohanaa.Mine

/- wire: a coder that reads goes on reading. -/
set_option linter.unusedSimpArgs false
set_option linter.unusedVariables false
namespace Go.Proofs.Ytmjbdeoomohanaa.Mine
open Go.RowKit Go.Maps Go.Proofs.YtmjbdeoomohanaaW.PrintWords Go.Proofs.YtmjbdeoomohanaaW.PrintLast Go.Proofs.YtmjbdeoomohanaaW.PrintMore Go.Proofs.Ytmjbdeoomohanaa.PWirePacks Go.Proofs.Ytmjbdeoomohanaa.Turn

def isR : St → Bool
  | .W _ => false
  | .R _ => true
theorem step_mode {S S' : St} {bs r : List Int} {n : Nat} (h : step S bs n = .ok (r, S')) : isR S' = isR S := by
  cases S with
  | W l =>
    simp only [step, Except.ok.injEq, Prod.mk.injEq] at h
    rw [← h.2]; rfl
  | R l =>
    simp only [step] at h
    split at h
    · cases h
    · simp only [Except.ok.injEq, Prod.mk.injEq] at h
      rw [← h.2]; rfl
theorem numS_mode {S S' : St} {n r : Int} {sz : Nat} (h : numS S n sz = .ok (r, S')) : isR S' = isR S := by
  unfold numS at h
  split at h
  · cases h
  · rename_i r1 S1 h1
    simp only [Except.ok.injEq, Prod.mk.injEq] at h
    rw [← h.2]; exact step_mode h1
theorem countS_mode {S S' : St} {n r : Int} {sz : Nat} {most bad : Int} (h : countS S n sz most bad = .ok (r, S')) : isR S' = isR S := by
  unfold countS at h
  split at h
  · cases h
  · rename_i r1 S1 h1
    split at h
    · cases h
    · simp only [Except.ok.injEq, Prod.mk.injEq] at h
      rw [← h.2]; exact step_mode h1
theorem textS_mode {S S' : St} {bs r : List Int} (h : textS S bs = .ok (r, S')) : isR S' = isR S := by
  unfold textS at h
  split at h
  · cases h
  · rename_i r1 S1 h1
    rw [step_mode h, countS_mode h1]
theorem entS_mode {S S' : St} {x r : S44} (h : entS S x = .ok (r, S')) : isR S' = isR S := by
  unfold entS at h
  split at h
  · cases h
  · rename_i a S1 h1
    split at h
    · cases h
    · rename_i c S2 h2
      split at h
      · cases h
      · rename_i q S3 h3
        simp only [Except.ok.injEq, Prod.mk.injEq] at h
        rw [← h.2, textS_mode h3, numS_mode h2, numS_mode h1]
theorem rowL_mode : ∀ {L L' : List S44} {S S' : St}, rowL S L = .ok (L', S') → isR S' = isR S
  | [], L', S, S', h => by
    simp only [rowL, Except.ok.injEq, Prod.mk.injEq] at h
    rw [h.2]
  | x :: L, L', S, S', h => by
    simp only [rowL] at h
    split at h
    · cases h
    · rename_i r S1 h1
      split at h
      · cases h
      · rename_i rs S2 h2
        simp only [Except.ok.injEq, Prod.mk.injEq] at h
        rw [← h.2, rowL_mode h2, entS_mode h1]
theorem rowS_mode : ∀ {L L' : List (List Int)} {S S' : St}, rowS S L = .ok (L', S') → isR S' = isR S
  | [], L', S, S', h => by
    simp only [rowS, Except.ok.injEq, Prod.mk.injEq] at h
    rw [h.2]
  | x :: L, L', S, S', h => by
    simp only [rowS] at h
    split at h
    · cases h
    · rename_i r S1 h1
      split at h
      · cases h
      · rename_i rs S2 h2
        simp only [Except.ok.injEq, Prod.mk.injEq] at h
        rw [← h.2, rowS_mode h2, step_mode h1]
theorem logS_mode {S S' : St} {l r : List S44} (h : logS S l = .ok (r, S')) : isR S' = isR S := by
  unfold logS at h
  split at h
  · cases h
  · rename_i r1 S1 h1
    rw [rowL_mode h, countS_mode h1]
theorem blocksS_mode {S S' : St} {l r : List (List Int)} (h : blocksS S l = .ok (r, S')) : isR S' = isR S := by
  unfold blocksS at h
  split at h
  · cases h
  · rename_i r1 S1 h1
    split at h
    · cases h
    · rw [rowS_mode h, countS_mode h1]
theorem fieldS_mode {k : Nat} {S S' : St} {m m' : Msg} (hk : k < 13) (h : fieldS k S m = .ok (m', S')) : isR S' = isR S := by
  have hd : k = 0 ∨ k = 1 ∨ k = 2 ∨ k = 3 ∨ k = 4 ∨ k = 5 ∨ k = 6 ∨ k = 7 ∨ k = 8 ∨ k = 9 ∨ k = 10 ∨ k = 11 ∨ k = 12 := by omega
  rcases hd with rfl | rfl | rfl | rfl | rfl | rfl | rfl | rfl | rfl | rfl | rfl | rfl | rfl <;> obtain ⟨r, h1, rfl⟩ := thenS_ok h
  case inr.inr.inr.inr.inl => exact logS_mode h1
  case inr.inr.inr.inr.inr.inr.inr.inl => exact textS_mode h1
  case inr.inr.inr.inr.inr.inr.inr.inr.inr.inr.inr.inr => exact blocksS_mode h1
  all_goals first
    | exact numS_mode h1
    | exact countS_mode h1
theorem goS_mode (h : Nat) : ∀ {n k : Nat} {S S' : St} {m m' : Msg}, n + k ≤ 13 → goS h n k S m = .ok (m', S') → isR S' = isR S
  | 0, k, S, S', m, m', _, hs => by
    simp only [goS, Except.ok.injEq, Prod.mk.injEq] at hs
    rw [hs.2]
  | n + 1, k, S, S', m, m', hn, hs => by
    simp only [goS] at hs
    split at hs
    · split at hs
      · cases hs
      · rename_i m1 S1 h1
        rw [goS_mode h (by omega) hs, fieldS_mode (by omega) h1]
    · exact goS_mode h (by omega) hs
theorem allS_mode {S S' : St} {m m' : Msg} (h : allS S m = .ok (m', S')) : isR S' = isR S := goS_mode _ (by omega) h
end Go.Proofs.Ytmjbdeoomohanaa.Mine
