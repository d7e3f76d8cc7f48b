/- wire: the state of a coder, of a message in memory; Clone; bytes. -/
import Derived.Test.YtmjbdeoomohanaaWireA
import Derived.Test.YtmjbdeoomohanaaCopy
set_option linter.unusedSimpArgs false
set_option linter.unusedVariables false
namespace Go.Proofs.Ytmjbdeoomohanaa.Mine
open Go.RowKit Go.Maps Go.Proofs.YtmjbdeoomohanaaW.PrintWords Go.Proofs.YtmjbdeoomohanaaW.PrintLast Go.Proofs.YtmjbdeoomohanaaW.PrintMore Go.Proofs.Ytmjbdeoomohanaa.PWirePacks Go.Proofs.Ytmjbdeoomohanaa.Turn

/-- What a coder holds: bytes that are laid, or bytes that are still to be read. -/
inductive St where
  | W (l : List Int)
  | R (l : List Int)
def step (S : St) (bs : List Int) (n : Nat) : Except Int (List Int × St) :=
  match S with
  | .W l => .ok (bs, .W (l ++ bs))
  | .R l => if l.length < n then .error 201 else .ok (l.take n, .R (l.drop n))
/-- The panic of package wire. -/
def wrongs (x : Int) : Ending := .panicked [{ v := .iface 63 (.agg #[.int .i64 x]), recovered := false }]

/-- The coder in block b; what it may write is G, all of it from base on. -/
def Cod (w : World) (base : Nat) (G : Nat → Prop) (b : Nat) (S : St) : Prop :=
  G b ∧ (∀ k, G k → k < w.heap.size ∧ base ≤ k) ∧ match S with
  | .W l => ∃ v, Blk w b #[v, .bool false] 48 ∧ Kd.R (Kd.int .u8) 5 w base G v l
  | .R l => ∃ A c, Blk w b #[.slice A l.length c, .bool true] 48 ∧ l.length ≤ c ∧ Kd.F (Kd.int .u8) w (fun k => k < base) A l.length l
section
variable {w w' : World} {base b : Nat} {G G' : Nat → Prop} {S : St}
theorem Cod.step (h : Cod w base G b S) {X : Nat → Prop} (ht : Turned X w w') (hX : ∀ k, X k → ¬ G k ∧ base ≤ k) : Cod w' base G b S := by
  obtain ⟨h1, h2, h3⟩ := h
  refine ⟨h1, fun k hk => ⟨Nat.lt_of_lt_of_le (h2 k hk).1 ht.size, (h2 k hk).2⟩, ?_⟩
  cases S with
  | W l =>
    obtain ⟨v, h4, h5⟩ := h3
    exact ⟨v, ht.blk h4 (fun hx => (hX b hx).1 h1), Kd.R_step h5 (fun k hk hlt => ht.block k hlt (fun hx => (hX k hx).1 hk))⟩
  | R l =>
    obtain ⟨A, c, h4, h5, h6⟩ := h3
    exact ⟨A, c, ht.blk h4 (fun hx => (hX b hx).1 h1), h5, Kd.F_step h6 (fun k hk hlt => ht.block k hlt (fun hx => by have := (hX k hx).2; omega))⟩
theorem Cod.below (h : Cod w base G b S) (hb : Below w.heap.size w w') : Cod w' base G b S := h.step (Turned.of_below hb (fun _ => False)) (fun _ hk => hk.elim)
theorem Cod.size (h : Cod w base G b S) : base ≤ w.heap.size := by
  have := h.2.1 b h.1
  omega
end

theorem C_len0 {α : Type} {d : Kd α} {w : World} {n : Nat} {xs : List α} (h : d.C w none n xs) : xs = [] := by
  obtain ⟨h1, _, h3⟩ := h
  rcases Nat.eq_zero_or_pos n with h0 | h0
  · exact List.eq_nil_of_length_eq_zero (by omega)
  · obtain ⟨ad, e, _⟩ := h3 h0
    cases e
theorem R_empty {α : Type} (d : Kd α) (e : Nat) (w : World) (base : Nat) (hb : base ≤ w.heap.size) : d.R e (w.alloc (.cells #[] e)) base (fun _ => True) (.slice (some ⟨w.heap.size, 0, none⟩) 0 0) [] :=
  ⟨fun _ _ => trivial, [], World.ownsRow_made w #[] 0 hb (Nat.zero_le _) (by simp), Reps.none _ _⟩

set_option maxHeartbeats 1000000 in
theorem clone_any (A : Option Addr) (c : Nat) (l : List Int) (w : World) (hl : l.length ≤ 140737488355328) (hr : Kd.C (Kd.int .u8) w A l.length l) :
    Calls Try.prog 60 #[.slice A l.length c] w fun e w' => ∃ v, e = .returned v ∧ Kd.R (Kd.int .u8) 5 w' w.heap.size (fun _ => True) v l ∧ Below w.heap.size w w' := by
  have HR := Aside0.mk hr
  clear hr
  rcases A with _ | ad
  · obtain rfl := C_len0 HR.out
    have heq := fun w => Lib.run_eql_slice_nil (P := Try.prog) w 24 5 none 0 c 0 0 Try.underlying24
    go_enter Try.func60, Try.ntmps60
    go_wp2
    go_ret
    exact ⟨_, rfl, Kd.R_nil _ _ _ _ _, Below.refl _ _⟩
  · have heq := fun w => Lib.run_eql_slice_nil (P := Try.prog) w 24 5 (some ad) l.length c 0 0 Try.underlying24
    go_enter Try.func60, Try.ntmps60
    go_wp2_with (at_builtin; refine Kd.R_append_rows (Kd.int .u8) (w0 := w) w.heap.size rfl (.tmp 5) (.tmp 6) 24 5 (.int .u8 0) 1 rfl Try.underlying24 info5 rfl (by decide) (by omega) (.slice (some ⟨w.heap.size, 0, none⟩) 0 0) ([] : List Int) l _ _ _ (fun _ => True) (fun _ => False) rfl rfl ?aO (Kd.C_alloc HR.out _) (fun _ _ h => h) (fun _ h => h.elim) (fun _ _ => trivial) (below_alloc (Below.refl _ _) _) (by simp) (by simp; omega) ?_; (case aO => exact R_empty _ _ _ _ (Nat.le_refl _)); intro v102 w6 ho hb hg hat; rw [List.nil_append] at ho; have HO := Aside0.mk ho; have HB := Aside0.mk hb; clear ho hb hg hat)
    go_ret
    exact ⟨_, rfl, HO.out, HB.out⟩

/-- How a step of the coder ends. -/
def Ends (w : World) (base : Nat) (G : Nat → Prop) (b : Nat) (Q : Nat → Prop) (x : Except Int (List Int × St)) (e : Ending) (w' : World) : Prop :=
  ∃ G' : Nat → Prop, (∀ k, G' k → G k ∨ w.heap.size ≤ k) ∧ Turned G w w' ∧ match x with
  | .ok (r, S') => (∃ A c, e = .returned (.slice A r.length c) ∧ r.length ≤ c ∧ Kd.F (Kd.int .u8) w' (fun k => ¬ G' k ∧ (Q k ∨ w.heap.size ≤ k)) A r.length r) ∧ Cod w' base G' b S'
  | .error x => e = wrongs x

theorem R_over_blk {w : World} {base b : Nat} {G : Nat → Prop} {v v1 : Value} {l : List Int} {cs : Array Value} (hb : Blk w b cs 48) (h : Kd.R (Kd.int .u8) 5 w base G v l) : some b ≠ v.ownBlock := fun e => Kd.R_ne h hb (by decide) e

theorem F_turn {α : Type} {d : Kd α} {w w' : World} {G G' Q : Nat → Prop} {A : Option Addr} {n : Nat} {l : List α} (hr : Kd.F d w (fun k => ¬ G k ∧ Q k) A n l) (ht : Turned G w w') (hG : ∀ k, G' k → G k ∨ w.heap.size ≤ k) : Kd.F d w' (fun k => ¬ G' k ∧ (Q k ∨ w.heap.size ≤ k)) A n l :=
  Kd.F_mono (Kd.F_step (Kd.F_bound hr) (fun k hk hlt => ht.block k hlt hk.1.1)) (fun k hk => ⟨fun h => (hG k h).elim hk.1.1 (fun h2 => by have := hk.2; omega), .inl hk.1.2⟩)

theorem bytesW_close {w w1 : World} {base b : Nat} {G Q : Nat → Prop} {l bs : List Int} {A Av A1 : Option Addr} {c cv c1 n : Nat} (h1 : G b) (h2 : ∀ k, G k → k < w.heap.size ∧ base ≤ k) (h3 : Blk w b #[.slice Av l.length cv, .bool false] 48) (h4 : Kd.R (Kd.int .u8) 5 w base G (.slice Av l.length cv) l) (hr : Kd.F (Kd.int .u8) w (fun k => ¬ G k ∧ Q k) A bs.length bs)
    (hz : Blk w1 b #[.slice Av l.length cv, .bool false] 48) (ho : Kd.R (Kd.int .u8) 5 w1 base (fun k => G k ∨ w.heap.size ≤ k) (.slice A1 n c1) (l ++ bs)) (hg : w.grownBy w1 (Value.slice Av l.length cv).ownBlock) (hat : (Value.slice A1 n c1).ownBlock = (Value.slice Av l.length cv).ownBlock ∨ ∃ b, (Value.slice A1 n c1).ownBlock = some b ∧ w.heap.size ≤ b) (hc : bs.length ≤ c) :
    Ends w base G b Q (.ok (bs, .W (l ++ bs))) (.returned (.slice A bs.length c)) (w1.setCell ⟨b, 0, none⟩ (.slice A1 n c1)) := by
  have hG : ∀ k, (fun k => G k ∨ (w.heap.size ≤ k ∧ k < w1.heap.size)) k → G k ∨ w.heap.size ≤ k := fun k hk => hk.imp id (fun h => h.1)
  have ht : Turned G w (w1.setCell ⟨b, 0, none⟩ (.slice A1 n c1)) := ((Turned.refl G w).grown hg (fun k hk => .inl (h4.1 k hk))).setCell (.inl h1) _
  have hbase : base ≤ w.heap.size := by have := h2 b h1; omega
  refine ⟨_, hG, ht, ⟨A, c, rfl, hc, F_turn hr ht hG⟩, .inl h1, fun k hk => ?_, .slice A1 n c1, hz.set 0 _, ?_⟩
  · have hs : (w1.setCell ⟨b, 0, none⟩ (.slice A1 n c1)).heap.size = w1.heap.size := by simp [World.setCell]
    have := hg.size
    rcases hk with hk | hk
    · have := h2 k hk; omega
    · omega
  · have hne : some b ≠ (Value.slice A1 n c1).ownBlock := R_over_blk (v1 := .nilIface) hz ho
    have hq : Kd.R (Kd.int .u8) 5 w1 base (fun k => (G k ∨ (w.heap.size ≤ k ∧ k < w1.heap.size)) ∧ k ≠ b) (.slice A1 n c1) (l ++ bs) :=
      Kd.R_mono (Kd.R_tight rfl ho) (fun k hk => ⟨(ho.1 k hk.symm).imp id (fun h => ⟨h, Kd.R_lt ho k hk.symm⟩), fun e => hne (by rw [← e]; exact hk)⟩)
    exact Kd.R_mono (Kd.R_step hq (fun k hk _ => Below.heap_setCell w1 _ _ k hk.2)) (fun k hk => hk.1)

set_option maxHeartbeats 2000000 in
theorem bytes_W {w : World} {base b : Nat} {G Q : Nat → Prop} {l bs : List Int} (h : Cod w base G b (.W l)) (A : Option Addr) (c : Nat) (n : Int) (hl : bs.length ≤ c) (hr : Kd.F (Kd.int .u8) w (fun k => ¬ G k ∧ Q k) A bs.length bs) (hfit : l.length + bs.length ≤ 140737488355328) :
    Calls Try.prog 53 #[.pointer (some ⟨b, 0, none⟩), .slice A bs.length c, .int .i64 n] w fun e w' => Ends w base G b Q (.ok (bs, .W (l ++ bs))) e w' := by
  obtain ⟨h1, h2, v, h3, h4⟩ := h
  have hbase : base ≤ w.heap.size := by have := h2 b h1; omega
  obtain ⟨Av, cv, rfl, hcv, hCv⟩ := Kd.R_reads h4
  have hlt := h3.lt
  have h3' : Kd.R (Kd.int .u8) 5 w base (fun k => G k ∨ w.heap.size ≤ k) (.slice Av l.length cv) l := Kd.R_mono h4 (fun k hk => .inl hk)
  have HC := Aside0.mk (Kd.F_now hr)
  have HF := Aside0.mk hr
  have H1 := Aside0.mk h1
  have H2 := Aside0.mk h2
  have H3 := Aside0.mk h3
  have H4 := Aside0.mk h4
  have HO := Aside0.mk h3'
  have h30 : World.cell? w ⟨b, 0, none⟩ = some (.slice Av l.length cv) := Blk.cell h3 0
  have h3f0 : World.frozen? w ⟨b, 0, none⟩ = false := Blk.free h3 0
  have h31 : World.cell? w ⟨b, 1, none⟩ = some (.bool false) := Blk.cell h3 1
  have h3f1 : World.frozen? w ⟨b, 1, none⟩ = false := Blk.free h3 1
  clear hr h1 h2 h3 h4 h3' hCv
  go_enter Try.func53, Try.ntmps53
  go_wp2_with (at_builtin; refine Kd.R_append_rows (Kd.int .u8) (w0 := w) base rfl (.tmp 17) (.tmp 18) 24 5 (.int .u8 0) 1 rfl Try.underlying24 info5 rfl (by decide) (by omega) (.slice Av l.length cv) l bs _ _ _ (fun k => G k ∨ w.heap.size ≤ k) (fun _ => False) rfl rfl HO.out HC.out (fun _ _ h => h) (fun _ h => h.elim) (fun _ hk => .inr hk) (Below.refl _ _) hbase (by omega) ?_; intro v1 w1 ho hb hg hat; obtain ⟨A1, c1, rfl, hc1, hC1⟩ := Kd.R_reads ho; rw [show (l ++ bs).length = l.length + bs.length from by simp] at ho hat ⊢; have hz : Blk w1 b #[.slice Av l.length cv, .bool false] 48 := (hg.block b hlt (fun e => R_over_blk (v1 := .nilIface) H3.out H4.out e)).trans H3.out; have HZ := Aside0.mk hz; have z0 : w1.cell? ⟨b, 0, none⟩ = some (.slice Av l.length cv) := (hz.cell 0).trans rfl; have zf : w1.frozen? ⟨b, 0, none⟩ = false := hz.free 0; have HOO := Aside0.mk ho; have HG := Aside0.mk hg; have HAT := Aside0.mk hat; clear ho hb hg hat hC1 hz)
  go_ret
  exact bytesW_close H1.out H2.out H3.out H4.out HF.out HZ.out HOO.out HG.out HAT.out hl

set_option maxHeartbeats 2000000 in
theorem bytes_short {w : World} {base b : Nat} {G Q : Nat → Prop} {l : List Int} (h : Cod w base G b (.R l)) (A : Option Addr) (m c : Nat) (n : Nat) (hn : l.length < n) (bs : List Int) :
    Calls Try.prog 53 #[.pointer (some ⟨b, 0, none⟩), .slice A m c, .int .i64 n] w fun e w' => Ends w base G b Q (step (.R l) bs n) e w' := by
  obtain ⟨h1, h2, A0, c0, h3, h4, h5⟩ := h
  have HS : Aside0 (step (.R l) bs n = .error 201) := ⟨by rw [step, if_pos hn]⟩
  have hlt := h3.lt
  have h30 : World.cell? w ⟨b, 0, none⟩ = some (.slice A0 l.length c0) := Blk.cell h3 0
  have h3f0 : World.frozen? w ⟨b, 0, none⟩ = false := Blk.free h3 0
  have h31 : World.cell? w ⟨b, 1, none⟩ = some (.bool true) := Blk.cell h3 1
  have h3f1 : World.frozen? w ⟨b, 1, none⟩ = false := Blk.free h3 1
  clear h1 h2 h3 h4 h5
  go_enter Try.func53, Try.ntmps53
  go_wp2
  rw [HS.out]
  exact ⟨rfl, G, fun _ hk => .inl hk, Turned.refl _ _, rfl⟩

theorem bytesR_close {w w1 : World} {base b : Nat} {G Q : Nat → Prop} {l : List Int} {A0 A1 : Option Addr} {c0 c1 n : Nat} (h : Cod w base G b (.R l)) (h3 : Blk w b #[.slice A0 l.length c0, .bool true] 48) (h5 : Kd.F (Kd.int .u8) w (fun k => k < base) A0 l.length l) (hn : n ≤ l.length) (h4 : l.length ≤ c0)
    (hr : Kd.R (Kd.int .u8) 5 w1 w.heap.size (fun _ => True) (.slice A1 n c1) (l.take n)) (hb : Below w.heap.size w w1) (A' : Option Addr) (hA : A' = if c0 = n then A0 else A0.map (fun x => x.add n)) {m' c' : Nat} (hm : m' = l.length - n) (hc' : c' = c0 - n) :
    Ends w base G b Q (.ok (l.take n, .R (l.drop n))) (.returned (.slice A1 n c1)) (w1.setCell ⟨b, 0, none⟩ (.slice A' m' c')) := by
  subst hm hc'
  have hlen : (l.take n).length = n := by rw [List.length_take]; omega
  obtain ⟨h1, h2, _⟩ := h
  have hs : (w1.setCell ⟨b, 0, none⟩ (.slice A' (l.length - n) (c0 - n))).heap.size = w1.heap.size := by simp [World.setCell]
  have hlt := h3.lt
  have ht : Turned G w (w1.setCell ⟨b, 0, none⟩ (.slice A' (l.length - n) (c0 - n))) := (Turned.of_below hb G).setCell (.inl h1) _
  refine ⟨G, fun _ hk => .inl hk, ht, ⟨A1, c1, by rw [hlen], by rw [hlen]; exact (Kd.R_reads' hr).2.1, ?_⟩, h1, fun k hk => ⟨by rw [hs]; have := (h2 k hk).1; have := hb.size; omega, (h2 k hk).2⟩, A', c0 - n, ?_, by rw [List.length_drop]; omega, ?_⟩
  · have hf := Kd.R_F (Kd.R_bound hr)
    rw [hlen]
    refine Kd.F_mono (Kd.F_far hf (p := ⟨b, 0, none⟩) (fun k hk e => ?_) _) (fun k hk => ⟨fun hG => ?_, .inr hk.2.1⟩)
    · have : k = b := e
      have := hk.2.1
      omega
    · have := (h2 k hG).1
      have := hk.2.1
      omega
  · have hz : Blk w1 b #[.slice A0 l.length c0, .bool true] 48 := (hb.block _ hlt).trans h3
    rw [List.length_drop]
    exact hz.set 0 _
  · refine Kd.F_step (W1 := w1.setCell ⟨b, 0, none⟩ (.slice A' (l.length - n) (c0 - n))) (W := w) (Kd.F_imp h5 (fun W' hC => ?_)) (fun k hk hlt => ht.block k hlt (fun hG => by have := (h2 k hG).2; omega))
    have hd := Kd.C_drop hC hn h4
    rw [show (Kd.int IntKind.u8).sz = 1 from rfl, Nat.mul_one] at hd
    rw [hA]
    exact hd

set_option maxHeartbeats 2000000 in
theorem bytes_R {w : World} {base b : Nat} {G Q : Nat → Prop} {l : List Int} (h : Cod w base G b (.R l)) (A : Option Addr) (m c : Nat) (n : Nat) (hn : n ≤ l.length) (hl : l.length ≤ 140737488355328) (bs : List Int) :
    Calls Try.prog 53 #[.pointer (some ⟨b, 0, none⟩), .slice A m c, .int .i64 n] w fun e w' => Ends w base G b Q (step (.R l) bs n) e w' := by
  have HH := Aside0.mk h
  obtain ⟨h1, h2, A0, c0, h3, h4, h5⟩ := h
  have HS : Aside0 (step (.R l) bs n = .ok (l.take n, .R (l.drop n))) := ⟨by rw [step, if_neg (by omega)]⟩
  have hlt := h3.lt
  have h30 : World.cell? w ⟨b, 0, none⟩ = some (.slice A0 l.length c0) := Blk.cell h3 0
  have h3f0 : World.frozen? w ⟨b, 0, none⟩ = false := Blk.free h3 0
  have h31 : World.cell? w ⟨b, 1, none⟩ = some (.bool true) := Blk.cell h3 1
  have h3f1 : World.frozen? w ⟨b, 1, none⟩ = false := Blk.free h3 1
  have H3 := Aside0.mk h3
  have H5 := Aside0.mk h5
  clear h1 h2 h3 h5
  go_enter Try.func53, Try.ntmps53
  go_wp2_with fail
  have hlen : (l.take n).length = n := by rw [List.length_take]; omega
  have hcl := clone_any A0 c0 (l.take n) w (by omega) (Kd.C_take (Kd.F_now H5.out) hn)
  rw [hlen] at hcl
  refine hcl.mono ?_
  rintro e w1 ⟨v, rfl, hr1, hb1⟩
  obtain ⟨A1, c1, rfl, hc1, hC1⟩ := Kd.R_reads hr1
  rw [hlen] at hr1 ⊢
  have HR1 := Aside0.mk hr1
  have HB1 := Aside0.mk hb1
  have h31 := (hb1.block _ hlt).trans H3.out
  have h32 : Blk w1 b #[.slice A0 l.length c0, .bool true] 48 := h31
  have H32 := Aside0.mk h32
  have hlt1 := h32.lt
  have h320 : World.cell? w1 ⟨b, 0, none⟩ = some (.slice A0 l.length c0) := Blk.cell h32 0
  have h32f0 : World.frozen? w1 ⟨b, 0, none⟩ = false := Blk.free h32 0
  have h321 : World.cell? w1 ⟨b, 1, none⟩ = some (.bool true) := Blk.cell h32 1
  have h32f1 : World.frozen? w1 ⟨b, 1, none⟩ = false := Blk.free h32 1
  clear hcl hr1 hb1 h31 h32 hC1 hlen
  by_cases hcn : c0 = n
  · go_wp2_with fail
    rw [HS.out]
    go_ret
    exact bytesR_close HH.out H3.out H5.out hn h4 HR1.out HB1.out _ (by rw [if_pos hcn]) (by omega) (by omega)
  · go_wp2_with fail
    rw [HS.out]
    go_ret
    exact bytesR_close HH.out H3.out H5.out hn h4 HR1.out HB1.out _ (by rw [if_neg hcn]) rfl rfl

def Fits (S : St) (m : Nat) : Prop := match S with | .W l => l.length + m ≤ 140737488355328 | .R l => l.length ≤ 140737488355328
/-- bytes, whatever the coder does: bs lies where it may be read; what is laid fits. -/
theorem bytes_any {w : World} {base b : Nat} {G Q : Nat → Prop} {S : St} (h : Cod w base G b S) (A : Option Addr) (c : Nat) (bs : List Int) (n : Nat) (hl : bs.length ≤ c) (hr : Kd.F (Kd.int .u8) w (fun k => ¬ G k ∧ Q k) A bs.length bs) (hfit : Fits S bs.length) :
    Calls Try.prog 53 #[.pointer (some ⟨b, 0, none⟩), .slice A bs.length c, .int .i64 n] w fun e w' => Ends w base G b Q (step S bs n) e w' := by
  cases S with
  | W l => exact bytes_W h A c n hl hr hfit
  | R l =>
    by_cases hn : n ≤ l.length
    · exact bytes_R h A bs.length c n hn hfit bs
    · exact bytes_short h A bs.length c n (by omega) bs
end Go.Proofs.Ytmjbdeoomohanaa.Mine
