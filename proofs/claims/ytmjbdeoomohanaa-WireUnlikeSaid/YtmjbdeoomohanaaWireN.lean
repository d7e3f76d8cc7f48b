/- wire: what a message's fields are, one by one; all, plain part. -/
import Derived.Test.YtmjbdeoomohanaaWireM
import Derived.Test.YtmjbdeoomohanaaWireE
set_option linter.unusedSimpArgs false
set_option linter.unusedVariables false
namespace Go.Proofs.Ytmjbdeoomohanaa.Mine
open Go.RowKit Go.Maps Go.Proofs.YtmjbdeoomohanaaW.PrintWords Go.Proofs.YtmjbdeoomohanaaW.PrintLast Go.Proofs.YtmjbdeoomohanaaW.PrintMore Go.Proofs.Ytmjbdeoomohanaa.PWirePacks Go.Proofs.Ytmjbdeoomohanaa.Turn
variable {lo : Nat}

/-- The k-th field is laid, or read. -/
def fieldS : Nat → St → Msg → Except Int (Msg × St)
  | 0, S, m => thenS (numS S m.view 8) fun v => { m with view := v }
  | 1, S, m => thenS (numS S m.normal 8) fun v => { m with normal := v }
  | 2, S, m => thenS (countS S m.op 1 64 1) fun v => { m with op := v }
  | 3, S, m => thenS (countS S m.commit 1 64 1) fun v => { m with commit := v }
  | 4, S, m => thenS (logS S m.log) fun v => { m with log := v }
  | 5, S, m => thenS (numS S m.client 8) fun v => { m with client := v }
  | 6, S, m => thenS (numS S m.seq 8) fun v => { m with seq := v }
  | 7, S, m => thenS (textS S m.body) fun v => { m with body := v }
  | 8, S, m => thenS (numS S m.key 8) fun v => { m with key := v }
  | 9, S, m => thenS (numS S m.shard 1) fun v => { m with shard := v }
  | 10, S, m => thenS (numS S m.stripe 4) fun v => { m with stripe := v }
  | 11, S, m => thenS (numS S m.code 2) fun v => { m with code := v }
  | _, S, m => thenS (blocksS S m.blocks) fun v => { m with blocks := v }
/-- The k-th field is such that it can be laid. -/
def okF : Nat → Msg → Prop
  | 0, m => 0 ≤ m.view ∧ m.view < 18446744073709551616
  | 1, m => 0 ≤ m.normal ∧ m.normal < 18446744073709551616
  | 2, m => 0 ≤ m.op ∧ m.op ≤ 4611686018427387904
  | 3, m => 0 ≤ m.commit ∧ m.commit ≤ 4611686018427387904
  | 4, m => m.log.length ≤ 65536 ∧ ∀ x ∈ m.log, x.f2.length ≤ 2048 ∧ 0 ≤ x.f0 ∧ x.f0 < 18446744073709551616 ∧ 0 ≤ x.f1 ∧ x.f1 < 18446744073709551616
  | 5, m => 0 ≤ m.client ∧ m.client < 18446744073709551616
  | 6, m => 0 ≤ m.seq ∧ m.seq < 18446744073709551616
  | 7, m => m.body.length ≤ 65536
  | 8, m => 0 ≤ m.key ∧ m.key < 18446744073709551616
  | 9, m => 0 ≤ m.shard ∧ m.shard < 256
  | 10, m => 0 ≤ m.stripe ∧ m.stripe < 4294967296
  | 11, m => 0 ≤ m.code ∧ m.code < 65536
  | _, m => m.blocks.length ≤ 65536 ∧ ∀ x ∈ m.blocks, x.length ≤ 128
def OkM (m : Msg) : Prop := ∀ i, i < 13 → okF i m

theorem thenS_ok {α : Type} {x : Except Int (α × St)} {f : α → Msg} {m' : Msg} {S' : St} (h : thenS x f = .ok (m', S')) : ∃ r, x = .ok (r, S') ∧ m' = f r := by
  rcases x with e | ⟨r, S1⟩
  · cases h
  · simp only [thenS, Except.ok.injEq, Prod.mk.injEq] at h
    exact ⟨r, by rw [h.2], h.1.symm⟩
theorem fieldS_keeps {k i : Nat} {S S' : St} {m m' : Msg} (hk : k < 13) (hi : i < 13) (hki : k < i) (h : fieldS k S m = .ok (m', S')) (ho : okF i m) : okF i m' := by
  have hd : k = 0 ∨ k = 1 ∨ k = 2 ∨ k = 3 ∨ k = 4 ∨ k = 5 ∨ k = 6 ∨ k = 7 ∨ k = 8 ∨ k = 9 ∨ k = 10 ∨ k = 11 ∨ k = 12 := by omega
  have he : i = 0 ∨ i = 1 ∨ i = 2 ∨ i = 3 ∨ i = 4 ∨ i = 5 ∨ i = 6 ∨ i = 7 ∨ i = 8 ∨ i = 9 ∨ i = 10 ∨ i = 11 ∨ i = 12 := by omega
  rcases hd with rfl | rfl | rfl | rfl | rfl | rfl | rfl | rfl | rfl | rfl | rfl | rfl | rfl <;> obtain ⟨r, -, rfl⟩ := thenS_ok h <;> rcases he with rfl | rfl | rfl | rfl | rfl | rfl | rfl | rfl | rfl | rfl | rfl | rfl | rfl <;> first | exact ho | omega
theorem fieldS_ty {k : Nat} {S S' : St} {m m' : Msg} (hk : k < 13) (h : fieldS k S m = .ok (m', S')) : m'.ty = m.ty := by
  have hd : k = 0 ∨ k = 1 ∨ k = 2 ∨ k = 3 ∨ k = 4 ∨ k = 5 ∨ k = 6 ∨ k = 7 ∨ k = 8 ∨ k = 9 ∨ k = 10 ∨ k = 11 ∨ k = 12 := by omega
  rcases hd with rfl | rfl | rfl | rfl | rfl | rfl | rfl | rfl | rfl | rfl | rfl | rfl | rfl <;> obtain ⟨r, -, rfl⟩ := thenS_ok h <;> rfl

theorem OkT.num {N : Nat} {S S' : St} {n m : Int} {sz : Nat} (h : OkT N S) (hs : numS S n sz = .ok (m, S')) : OkT (N + sz) S' := by
  unfold numS at hs
  split at hs
  · cases hs
  · rename_i r S1 h1
    simp only [Except.ok.injEq, Prod.mk.injEq] at hs
    obtain ⟨-, rfl⟩ := hs
    have h2 := h.step h1
    rwa [be_len] at h2
theorem OkT.ent {N : Nat} {S S' : St} {x r : S44} (h : OkT N S) (hx : x.f2.length ≤ 2048) (hN : N + 4096 ≤ 1099511627776) (hs : entS S x = .ok (r, S')) : OkT (N + 4096) S' := by
  unfold entS at hs
  split at hs
  · cases hs
  · rename_i a S1 h1
    have k1 := h.num h1
    split at hs
    · cases hs
    · rename_i c S2 h2
      have k2 := k1.num h2
      split at hs
      · cases hs
      · rename_i q S3 h3
        have k3 := k2.text h3 (by omega)
        simp only [Except.ok.injEq, Prod.mk.injEq] at hs
        obtain ⟨-, rfl⟩ := hs
        exact k3.mono (by omega)
theorem rowL_okT : ∀ {L L' : List S44} {N : Nat} {S S' : St}, OkT N S → (∀ x ∈ L, x.f2.length ≤ 2048) → N + 4096 * L.length ≤ 1099511627776 → rowL S L = .ok (L', S') → OkT (N + 4096 * L.length) S'
  | [], L', N, S, S', h, _, _, hs => by
    simp only [rowL, Except.ok.injEq, Prod.mk.injEq] at hs
    obtain ⟨-, rfl⟩ := hs
    exact h.mono (Nat.le_add_right _ _)
  | x :: L, L', N, S, S', h, hx, hN, hs => by
    rw [List.length_cons] at hN ⊢
    simp only [rowL] at hs
    split at hs
    · cases hs
    · rename_i r S1 h1
      have hb : N + 4096 ≤ 1099511627776 := Nat.le_trans (Nat.add_le_add_left (Nat.le_mul_of_pos_right 4096 (Nat.succ_pos _)) N) hN
      have k1 := h.ent (hx x List.mem_cons_self) hb h1
      split at hs
      · cases hs
      · rename_i rs S2 h2
        have he : N + 4096 + 4096 * L.length = N + 4096 * (L.length + 1) := by rw [Nat.mul_add, Nat.mul_one, Nat.add_assoc, Nat.add_comm 4096]
        have k2 := rowL_okT k1 (fun y hy => hx y (List.mem_cons_of_mem _ hy)) (by rw [he]; exact hN) h2
        simp only [Except.ok.injEq, Prod.mk.injEq] at hs
        obtain ⟨-, rfl⟩ := hs
        rw [he] at k2
        exact k2
theorem rowS_okT : ∀ {L L' : List (List Int)} {N : Nat} {S S' : St}, OkT N S → (∀ x ∈ L, x.length ≤ 128) → rowS S L = .ok (L', S') → OkT (N + 128 * L.length) S'
  | [], L', N, S, S', h, _, hs => by
    simp only [rowS, Except.ok.injEq, Prod.mk.injEq] at hs
    obtain ⟨-, rfl⟩ := hs
    exact h.mono (Nat.le_add_right _ _)
  | x :: L, L', N, S, S', h, hx, hs => by
    rw [List.length_cons]
    simp only [rowS] at hs
    split at hs
    · cases hs
    · rename_i r S1 h1
      have k1 := h.step h1
      have hx1 := hx x List.mem_cons_self
      split at hs
      · cases hs
      · rename_i rs S2 h2
        have k2 := rowS_okT k1 (fun y hy => hx y (List.mem_cons_of_mem _ hy)) h2
        simp only [Except.ok.injEq, Prod.mk.injEq] at hs
        obtain ⟨-, rfl⟩ := hs
        exact k2.mono (by omega)
theorem pad_mem {α : Type} {l : List α} {n : Nat} {z x : α} (h : x ∈ pad l n z) : x ∈ l ∨ x = z := by
  rcases List.mem_append.1 h with h | h
  · exact .inl (List.mem_of_mem_take h)
  · exact .inr (List.eq_of_mem_replicate (List.mem_of_mem_drop h))
theorem fieldS_okT {k N : Nat} {S S' : St} {m m' : Msg} (hk : k < 13) (hS : OkT N S) (hN : N ≤ 274877906944) (ho : okF k m) (h : fieldS k S m = .ok (m', S')) : OkT (N + 1048576) S' := by
  have hd : k = 0 ∨ k = 1 ∨ k = 2 ∨ k = 3 ∨ k = 4 ∨ k = 5 ∨ k = 6 ∨ k = 7 ∨ k = 8 ∨ k = 9 ∨ k = 10 ∨ k = 11 ∨ k = 12 := by omega
  rcases hd with rfl | rfl | rfl | rfl | rfl | rfl | rfl | rfl | rfl | rfl | rfl | rfl | rfl <;> obtain ⟨r, h1, rfl⟩ := thenS_ok h
  case inr.inr.inr.inr.inl =>
    unfold logS at h1
    split at h1
    · cases h1
    · rename_i n S1 h2
      obtain ⟨k1, k2, k3⟩ := hS.count h2 (by omega)
      have k4 := rowL_okT k1 (L := pad m.log n.toNat z44) (fun x hx => (pad_mem hx).elim (fun hx => (ho.2 x hx).1) (fun e => by rw [e]; exact Nat.zero_le _)) (by rw [pad_length]; omega) h1
      rw [pad_length] at k4
      exact k4.mono (by omega)
  case inr.inr.inr.inr.inr.inr.inr.inl =>
    have hb : m.body.length ≤ 65536 := ho
    exact (hS.text h1 (by omega)).mono (by omega)
  case inr.inr.inr.inr.inr.inr.inr.inr.inr.inr.inr.inr =>
    unfold blocksS at h1
    split at h1
    · cases h1
    · rename_i n S1 h2
      obtain ⟨k1, k2, k3⟩ := hS.count h2 (by omega)
      split at h1
      · cases h1
      · have k4 := rowS_okT k1 (L := pad m.blocks n.toNat []) (fun x hx => (pad_mem hx).elim (fun hx => ho.2 x hx) (fun e => by rw [e]; exact Nat.zero_le _)) h1
        rw [pad_length] at k4
        exact k4.mono (by omega)
  all_goals first
    | exact (hS.num h1).mono (by omega)
    | exact (hS.count h1 (by omega)).1.mono (by omega)

/-- n fields from the k-th on, those that h has. -/
def goS (h : Nat) : Nat → Nat → St → Msg → Except Int (Msg × St)
  | 0, _, S, m => .ok (m, S)
  | n + 1, k, S, m => if h.testBit k then (match fieldS k S m with
    | .error e => .error e
    | .ok (m', S') => goS h n (k + 1) S' m') else goS h n (k + 1) S m
def allS (S : St) (m : Msg) : Except Int (Msg × St) := goS (hasB m.ty) 13 0 S m

theorem field_any {k : Nat} (hk : k < 13) {w : World} {base b g : Nat} {G : Nat → Prop} {S : St} {m : Msg} (h : Cod w base G b S) (hM : MsgAt lo w g G m) (hg : ¬ G g) (hb : base ≤ g) {N : Nat} (hS : OkT N S) (hN : N ≤ 274877906944) (ho : okF k m) :
    Calls Try.prog (36 + k) #[.pointer (some ⟨b, 0, none⟩), .pointer (some ⟨g, 0, none⟩)] w fun e w' => EndsM lo w base G b g (fieldS k S m) e w' := by
  have hS1 : OkS S := hS.ok (by omega)
  have hd : k = 0 ∨ k = 1 ∨ k = 2 ∨ k = 3 ∨ k = 4 ∨ k = 5 ∨ k = 6 ∨ k = 7 ∨ k = 8 ∨ k = 9 ∨ k = 10 ∨ k = 11 ∨ k = 12 := by omega
  rcases hd with rfl | rfl | rfl | rfl | rfl | rfl | rfl | rfl | rfl | rfl | rfl | rfl | rfl
  · exact viewM_any h hM hg hb hS1 ho.1 ho.2
  · exact normalM_any h hM hg hb hS1 ho.1 ho.2
  · exact opM_any h hM hg hb hS1 ho.1 ho.2
  · exact commitM_any h hM hg hb hS1 ho.1 ho.2
  · exact logM_any h hM hg hb hS (by omega) ho.1 ho.2
  · exact clientM_any h hM hg hb hS1 ho.1 ho.2
  · exact seqM_any h hM hg hb hS1 ho.1 ho.2
  · exact bodyM_any h hM hg hb hS (by omega) (Nat.le_trans ho (by omega))
  · exact keyM_any h hM hg hb hS1 ho.1 ho.2
  · exact shardM_any h hM hg hb hS1 ho.1 ho.2
  · exact stripeM_any h hM hg hb hS1 ho.1 ho.2
  · exact codeM_any h hM hg hb hS1 ho.1 ho.2
  · exact blocksM_any h hM hg hb hS (by omega) ho.1 ho.2
end Go.Proofs.Ytmjbdeoomohanaa.Mine
