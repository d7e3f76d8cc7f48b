/- wire: a message in memory; the methods that carry one number (printed by wip/Wire/genG.py). -/
import Derived.Test.YtmjbdeoomohanaaWireF
import Derived.Test.YtmjbdeoomohanaaWireD
set_option linter.unusedSimpArgs false
set_option linter.unusedVariables false
namespace Go.Proofs.Ytmjbdeoomohanaa.Mine
open Go.RowKit Go.Maps Go.Proofs.YtmjbdeoomohanaaW.PrintWords Go.Proofs.YtmjbdeoomohanaaW.PrintLast Go.Proofs.YtmjbdeoomohanaaW.PrintMore Go.Proofs.Ytmjbdeoomohanaa.PWirePacks Go.Proofs.Ytmjbdeoomohanaa.Turn
variable {lo : Nat}
/-- Where a message's lists may lie: not in its own block, and not in what is neither below lo nor behind it. -/
abbrev Off (lo g k : Nat) : Prop := k ≠ g ∧ (k < lo ∨ g < k)

def numS (S : St) (n : Int) (sz : Nat) : Except Int (Int × St) :=
  match step S (be n sz) sz with
  | .error x => .error x
  | .ok (r, S') => .ok (val r, S')
def thenS {α : Type} (x : Except Int (α × St)) (f : α → Msg) : Except Int (Msg × St) :=
  match x with
  | .error x => .error x
  | .ok (r, S') => .ok (f r, S')

/-- The message m in block g; what it is made of lies apart from G. -/
def MsgAt (lo : Nat) (w : World) (g : Nat) (G : Nat → Prop) (m : Msg) : Prop :=
  ∃ A5 c5 A8 c8 A13 c13, Blk w g (mcells m A5 c5 A8 c8 A13 c13) 29 ∧ m.log.length ≤ c5 ∧ m.body.length ≤ c8 ∧ m.blocks.length ≤ c13 ∧
    Kd.F k44 w (fun k => ¬ G k ∧ Off lo g k) A5 m.log.length m.log ∧ Kd.F (Kd.int .u8) w (fun k => ¬ G k ∧ Off lo g k) A8 m.body.length m.body ∧ Kd.F (Kd.slice 5 (Kd.int .u8)) w (fun k => ¬ G k ∧ Off lo g k) A13 m.blocks.length m.blocks

theorem F_apart {α : Type} {d : Kd α} {w w' : World} {G G' : Nat → Prop} {g : Nat} {A : Option Addr} {n : Nat} {l : List α} (hg : g < w.heap.size) (hr : Kd.F d w (fun k => ¬ G k ∧ Off lo g k) A n l) (ht : Turned G w w') (hG : ∀ k, G' k → G k ∨ w.heap.size ≤ k) : Kd.F d w' (fun k => ¬ G' k ∧ Off lo g k) A n l :=
  Kd.F_mono (F_turn (Q := fun k => Off lo g k) hr ht hG) (fun k hk => ⟨hk.1, hk.2.elim id (fun h => by omega)⟩)
theorem MsgAt.turn {w w' : World} {g : Nat} {G G' : Nat → Prop} {m : Msg} (h : MsgAt lo w g G m) (hg : ¬ G g) (ht : Turned G w w') (hG : ∀ k, G' k → G k ∨ w.heap.size ≤ k) : MsgAt lo w' g G' m := by
  obtain ⟨A5, c5, A8, c8, A13, c13, hb, h1, h2, h3, h5, h8, h13⟩ := h
  have hl := hb.lt
  exact ⟨A5, c5, A8, c8, A13, c13, ht.blk hb hg, h1, h2, h3, F_apart hl h5 ht hG, F_apart hl h8 ht hG, F_apart hl h13 ht hG⟩
theorem F_set {α : Type} {d : Kd α} {w : World} {G : Nat → Prop} {g j : Nat} {A : Option Addr} {n : Nat} {l : List α} (hr : Kd.F d w (fun k => ¬ G k ∧ Off lo g k) A n l) (u : Value) : Kd.F d (w.setCell ⟨g, j, none⟩ u) (fun k => ¬ G k ∧ Off lo g k) A n l :=
  Kd.F_step hr (fun k hk _ => Below.heap_setCell w _ u k hk.2.1)

/-- How a method of the coder ends. -/
def EndsM (lo : Nat) (w : World) (base : Nat) (G : Nat → Prop) (b g : Nat) (x : Except Int (Msg × St)) (e : Ending) (w' : World) : Prop :=
  ∃ G' : Nat → Prop, (∀ k, G' k → G k ∨ w.heap.size ≤ k) ∧ Turned (fun k => G k ∨ k = g) w w' ∧ match x with
  | .ok (m, S') => e = .returned (.tuple #[]) ∧ Cod w' base G' b S' ∧ MsgAt lo w' g G' m ∧ ¬ G' g
  | .error x => e = wrongs x ∧ ∃ cs : Array Value, cs.size = 14 ∧ Blk w' g cs 29

/-- A message's block lies apart from G. -/
def Blk14 (w : World) (g : Nat) (G : Nat → Prop) : Prop := (∃ cs : Array Value, cs.size = 14 ∧ Blk w g cs 29) ∧ ¬ G g
theorem MsgAt.blk14 {w : World} {g : Nat} {G : Nat → Prop} {m : Msg} (h : MsgAt lo w g G m) (hg : ¬ G g) : Blk14 w g G := by
  obtain ⟨A5, c5, A8, c8, A13, c13, hb, -⟩ := h
  exact ⟨⟨_, rfl, hb⟩, hg⟩
theorem EndsM.wrong {w w' : World} {base b g : Nat} {G G' : Nat → Prop} {x : Int} (hx : Blk14 w g G) (hG : ∀ k, G' k → G k ∨ w.heap.size ≤ k) (hT : Turned G w w') : EndsM lo w base G b g (.error x) (wrongs x) w' :=
  ⟨G', hG, (Turned.refl _ w).then_ hT (fun _ h => .inl (.inl h)), rfl, hx.1.imp fun _ h => ⟨h.1, hT.blk h.2 hx.2⟩⟩
theorem EndsM.right {w w2 : World} {base b g : Nat} {G G' : Nat → Prop} {m : Msg} {S' : St} {j : Nat} {u : Value} (hG : ∀ k, G' k → G k ∨ w.heap.size ≤ k) (hT : Turned G w w2) (hg : ¬ G' g) (hb : base ≤ g) (hC : Cod w2 base G' b S') (hM : MsgAt lo (w2.setCell ⟨g, j, none⟩ u) g G' m) : EndsM lo w base G b g (.ok (m, S')) (.returned (.tuple #[])) (w2.setCell ⟨g, j, none⟩ u) :=
  ⟨G', hG, ((Turned.refl _ w).then_ hT (fun _ h => .inl (.inl h))).setCell (.inl (.inr rfl)) u, rfl,
    hC.step (X := fun k => k = g) ((Turned.refl (fun k => k = g) w2).setCell (.inl rfl) u) (fun k hk => by rw [hk]; exact ⟨hg, hb⟩), hM, hg⟩

set_option maxHeartbeats 2000000 in
theorem viewM_any {w : World} {base b g : Nat} {G : Nat → Prop} {S : St} {m : Msg} (h : Cod w base G b S) (hM : MsgAt lo w g G m) (hg : ¬ G g) (hb : base ≤ g) (hS : OkS S) (h0 : 0 ≤ m.view) (hn : m.view < 18446744073709551616) :
    Calls Try.prog 36 #[.pointer (some ⟨b, 0, none⟩), .pointer (some ⟨g, 0, none⟩)] w fun e w' => EndsM lo w base G b g (thenS (numS S m.view 8) fun v => { m with view := v }) e w' := by
  have HN := Aside0.mk (number_any h hS m.view h0 (by omega) 8 (by omega) (by omega))
  have HM := Aside0.mk hM
  obtain ⟨A5, c5, A8, c8, A13, c13, hx, hl1, hl2, hl3, h5, h8, h13⟩ := hM
  have hxl := hx.lt
  have HXF : Aside0 (g < w.heap.size) := ⟨hxl⟩
  have p : w.cell? ⟨g, 1, none⟩ = some (.int .u64 m.view) := (hx.cell 1).trans rfl
  have HE := Aside0.mk (numS.eq_def S m.view 8)
  clear h hS hx hl1 hl2 hl3 h5 h8 h13
  obtain ⟨x, hx⟩ : ∃ x, step S (be m.view 8) 8 = x := ⟨_, rfl⟩
  rw [hx] at HN HE
  clear hx
  generalize numS S m.view 8 = X at HE ⊢
  go_enter Try.func36, Try.ntmps36
  go_wp2_with fail
  refine HN.out.mono ?_
  clear HN p
  cases x with
  | error x =>
    rintro e w2 ⟨G', hG', hT', he⟩
    have he2 : e = .panicked [{ v := .iface 63 (.agg #[.int .i64 x]), recovered := false }] := he
    subst he2
    clear he
    have HG := Aside0.mk hG'
    have HT := Aside0.mk hT'
    clear hG' hT'
    go_wp2_with fail
    rw [HE.out]
    exact ⟨rfl, EndsM.wrong (HM.out.blk14 hg) HG.out HT.out⟩
  | ok x =>
    obtain ⟨r, S'⟩ := x
    rintro e w2 ⟨G', hG', hT', rfl, hC2⟩
    have hgG : ¬ G' g := fun h => (hG' g h).elim hg (fun h => by have := HXF.out; omega)
    have hM2 := HM.out.turn hg hT' hG'
    obtain ⟨A5, c5, A8, c8, A13, c13, hx, hl1, hl2, hl3, h5, h8, h13⟩ := hM2
    have HXA : Aside0 (∀ v : Int, MsgAt lo (w2.setCell ⟨g, 1, none⟩ (.int .u64 v)) g G' { m with view := v }) := ⟨fun v => ⟨A5, c5, A8, c8, A13, c13, hx.set 1 _, hl1, hl2, hl3, F_set h5 _, F_set h8 _, F_set h13 _⟩⟩
    have p : w2.cell? ⟨g, 1, none⟩ = some (.int .u64 m.view) := (hx.cell 1).trans rfl
    have pf : w2.frozen? ⟨g, 1, none⟩ = false := hx.free 1
    have hxl2 := hx.lt
    have HG := Aside0.mk hG'
    have HT := Aside0.mk hT'
    have HC2 := Aside0.mk hC2
    have HGG := Aside0.mk hgG
    clear hG' hT' hC2 hx hl1 hl2 hl3 h5 h8 h13 hgG HM
    go_wp2_with fail
    rw [HE.out]
    refine bodyPost_end (results_none rfl _ _ _) rfl ?_
    exact EndsM.right HG.out HT.out HGG.out hb HC2.out (HXA.out _)

set_option maxHeartbeats 2000000 in
theorem normalM_any {w : World} {base b g : Nat} {G : Nat → Prop} {S : St} {m : Msg} (h : Cod w base G b S) (hM : MsgAt lo w g G m) (hg : ¬ G g) (hb : base ≤ g) (hS : OkS S) (h0 : 0 ≤ m.normal) (hn : m.normal < 18446744073709551616) :
    Calls Try.prog 37 #[.pointer (some ⟨b, 0, none⟩), .pointer (some ⟨g, 0, none⟩)] w fun e w' => EndsM lo w base G b g (thenS (numS S m.normal 8) fun v => { m with normal := v }) e w' := by
  have HN := Aside0.mk (number_any h hS m.normal h0 (by omega) 8 (by omega) (by omega))
  have HM := Aside0.mk hM
  obtain ⟨A5, c5, A8, c8, A13, c13, hx, hl1, hl2, hl3, h5, h8, h13⟩ := hM
  have hxl := hx.lt
  have HXF : Aside0 (g < w.heap.size) := ⟨hxl⟩
  have p : w.cell? ⟨g, 2, none⟩ = some (.int .u64 m.normal) := (hx.cell 2).trans rfl
  have HE := Aside0.mk (numS.eq_def S m.normal 8)
  clear h hS hx hl1 hl2 hl3 h5 h8 h13
  obtain ⟨x, hx⟩ : ∃ x, step S (be m.normal 8) 8 = x := ⟨_, rfl⟩
  rw [hx] at HN HE
  clear hx
  generalize numS S m.normal 8 = X at HE ⊢
  go_enter Try.func37, Try.ntmps37
  go_wp2_with fail
  refine HN.out.mono ?_
  clear HN p
  cases x with
  | error x =>
    rintro e w2 ⟨G', hG', hT', he⟩
    have he2 : e = .panicked [{ v := .iface 63 (.agg #[.int .i64 x]), recovered := false }] := he
    subst he2
    clear he
    have HG := Aside0.mk hG'
    have HT := Aside0.mk hT'
    clear hG' hT'
    go_wp2_with fail
    rw [HE.out]
    exact ⟨rfl, EndsM.wrong (HM.out.blk14 hg) HG.out HT.out⟩
  | ok x =>
    obtain ⟨r, S'⟩ := x
    rintro e w2 ⟨G', hG', hT', rfl, hC2⟩
    have hgG : ¬ G' g := fun h => (hG' g h).elim hg (fun h => by have := HXF.out; omega)
    have hM2 := HM.out.turn hg hT' hG'
    obtain ⟨A5, c5, A8, c8, A13, c13, hx, hl1, hl2, hl3, h5, h8, h13⟩ := hM2
    have HXA : Aside0 (∀ v : Int, MsgAt lo (w2.setCell ⟨g, 2, none⟩ (.int .u64 v)) g G' { m with normal := v }) := ⟨fun v => ⟨A5, c5, A8, c8, A13, c13, hx.set 2 _, hl1, hl2, hl3, F_set h5 _, F_set h8 _, F_set h13 _⟩⟩
    have p : w2.cell? ⟨g, 2, none⟩ = some (.int .u64 m.normal) := (hx.cell 2).trans rfl
    have pf : w2.frozen? ⟨g, 2, none⟩ = false := hx.free 2
    have hxl2 := hx.lt
    have HG := Aside0.mk hG'
    have HT := Aside0.mk hT'
    have HC2 := Aside0.mk hC2
    have HGG := Aside0.mk hgG
    clear hG' hT' hC2 hx hl1 hl2 hl3 h5 h8 h13 hgG HM
    go_wp2_with fail
    rw [HE.out]
    refine bodyPost_end (results_none rfl _ _ _) rfl ?_
    exact EndsM.right HG.out HT.out HGG.out hb HC2.out (HXA.out _)

set_option maxHeartbeats 2000000 in
theorem clientM_any {w : World} {base b g : Nat} {G : Nat → Prop} {S : St} {m : Msg} (h : Cod w base G b S) (hM : MsgAt lo w g G m) (hg : ¬ G g) (hb : base ≤ g) (hS : OkS S) (h0 : 0 ≤ m.client) (hn : m.client < 18446744073709551616) :
    Calls Try.prog 41 #[.pointer (some ⟨b, 0, none⟩), .pointer (some ⟨g, 0, none⟩)] w fun e w' => EndsM lo w base G b g (thenS (numS S m.client 8) fun v => { m with client := v }) e w' := by
  have HN := Aside0.mk (number_any h hS m.client h0 (by omega) 8 (by omega) (by omega))
  have HM := Aside0.mk hM
  obtain ⟨A5, c5, A8, c8, A13, c13, hx, hl1, hl2, hl3, h5, h8, h13⟩ := hM
  have hxl := hx.lt
  have HXF : Aside0 (g < w.heap.size) := ⟨hxl⟩
  have p : w.cell? ⟨g, 6, none⟩ = some (.int .u64 m.client) := (hx.cell 6).trans rfl
  have HE := Aside0.mk (numS.eq_def S m.client 8)
  clear h hS hx hl1 hl2 hl3 h5 h8 h13
  obtain ⟨x, hx⟩ : ∃ x, step S (be m.client 8) 8 = x := ⟨_, rfl⟩
  rw [hx] at HN HE
  clear hx
  generalize numS S m.client 8 = X at HE ⊢
  go_enter Try.func41, Try.ntmps41
  go_wp2_with fail
  refine HN.out.mono ?_
  clear HN p
  cases x with
  | error x =>
    rintro e w2 ⟨G', hG', hT', he⟩
    have he2 : e = .panicked [{ v := .iface 63 (.agg #[.int .i64 x]), recovered := false }] := he
    subst he2
    clear he
    have HG := Aside0.mk hG'
    have HT := Aside0.mk hT'
    clear hG' hT'
    go_wp2_with fail
    rw [HE.out]
    exact ⟨rfl, EndsM.wrong (HM.out.blk14 hg) HG.out HT.out⟩
  | ok x =>
    obtain ⟨r, S'⟩ := x
    rintro e w2 ⟨G', hG', hT', rfl, hC2⟩
    have hgG : ¬ G' g := fun h => (hG' g h).elim hg (fun h => by have := HXF.out; omega)
    have hM2 := HM.out.turn hg hT' hG'
    obtain ⟨A5, c5, A8, c8, A13, c13, hx, hl1, hl2, hl3, h5, h8, h13⟩ := hM2
    have HXA : Aside0 (∀ v : Int, MsgAt lo (w2.setCell ⟨g, 6, none⟩ (.int .u64 v)) g G' { m with client := v }) := ⟨fun v => ⟨A5, c5, A8, c8, A13, c13, hx.set 6 _, hl1, hl2, hl3, F_set h5 _, F_set h8 _, F_set h13 _⟩⟩
    have p : w2.cell? ⟨g, 6, none⟩ = some (.int .u64 m.client) := (hx.cell 6).trans rfl
    have pf : w2.frozen? ⟨g, 6, none⟩ = false := hx.free 6
    have hxl2 := hx.lt
    have HG := Aside0.mk hG'
    have HT := Aside0.mk hT'
    have HC2 := Aside0.mk hC2
    have HGG := Aside0.mk hgG
    clear hG' hT' hC2 hx hl1 hl2 hl3 h5 h8 h13 hgG HM
    go_wp2_with fail
    rw [HE.out]
    refine bodyPost_end (results_none rfl _ _ _) rfl ?_
    exact EndsM.right HG.out HT.out HGG.out hb HC2.out (HXA.out _)

set_option maxHeartbeats 2000000 in
theorem seqM_any {w : World} {base b g : Nat} {G : Nat → Prop} {S : St} {m : Msg} (h : Cod w base G b S) (hM : MsgAt lo w g G m) (hg : ¬ G g) (hb : base ≤ g) (hS : OkS S) (h0 : 0 ≤ m.seq) (hn : m.seq < 18446744073709551616) :
    Calls Try.prog 42 #[.pointer (some ⟨b, 0, none⟩), .pointer (some ⟨g, 0, none⟩)] w fun e w' => EndsM lo w base G b g (thenS (numS S m.seq 8) fun v => { m with seq := v }) e w' := by
  have HN := Aside0.mk (number_any h hS m.seq h0 (by omega) 8 (by omega) (by omega))
  have HM := Aside0.mk hM
  obtain ⟨A5, c5, A8, c8, A13, c13, hx, hl1, hl2, hl3, h5, h8, h13⟩ := hM
  have hxl := hx.lt
  have HXF : Aside0 (g < w.heap.size) := ⟨hxl⟩
  have p : w.cell? ⟨g, 7, none⟩ = some (.int .u64 m.seq) := (hx.cell 7).trans rfl
  have HE := Aside0.mk (numS.eq_def S m.seq 8)
  clear h hS hx hl1 hl2 hl3 h5 h8 h13
  obtain ⟨x, hx⟩ : ∃ x, step S (be m.seq 8) 8 = x := ⟨_, rfl⟩
  rw [hx] at HN HE
  clear hx
  generalize numS S m.seq 8 = X at HE ⊢
  go_enter Try.func42, Try.ntmps42
  go_wp2_with fail
  refine HN.out.mono ?_
  clear HN p
  cases x with
  | error x =>
    rintro e w2 ⟨G', hG', hT', he⟩
    have he2 : e = .panicked [{ v := .iface 63 (.agg #[.int .i64 x]), recovered := false }] := he
    subst he2
    clear he
    have HG := Aside0.mk hG'
    have HT := Aside0.mk hT'
    clear hG' hT'
    go_wp2_with fail
    rw [HE.out]
    exact ⟨rfl, EndsM.wrong (HM.out.blk14 hg) HG.out HT.out⟩
  | ok x =>
    obtain ⟨r, S'⟩ := x
    rintro e w2 ⟨G', hG', hT', rfl, hC2⟩
    have hgG : ¬ G' g := fun h => (hG' g h).elim hg (fun h => by have := HXF.out; omega)
    have hM2 := HM.out.turn hg hT' hG'
    obtain ⟨A5, c5, A8, c8, A13, c13, hx, hl1, hl2, hl3, h5, h8, h13⟩ := hM2
    have HXA : Aside0 (∀ v : Int, MsgAt lo (w2.setCell ⟨g, 7, none⟩ (.int .u64 v)) g G' { m with seq := v }) := ⟨fun v => ⟨A5, c5, A8, c8, A13, c13, hx.set 7 _, hl1, hl2, hl3, F_set h5 _, F_set h8 _, F_set h13 _⟩⟩
    have p : w2.cell? ⟨g, 7, none⟩ = some (.int .u64 m.seq) := (hx.cell 7).trans rfl
    have pf : w2.frozen? ⟨g, 7, none⟩ = false := hx.free 7
    have hxl2 := hx.lt
    have HG := Aside0.mk hG'
    have HT := Aside0.mk hT'
    have HC2 := Aside0.mk hC2
    have HGG := Aside0.mk hgG
    clear hG' hT' hC2 hx hl1 hl2 hl3 h5 h8 h13 hgG HM
    go_wp2_with fail
    rw [HE.out]
    refine bodyPost_end (results_none rfl _ _ _) rfl ?_
    exact EndsM.right HG.out HT.out HGG.out hb HC2.out (HXA.out _)

set_option maxHeartbeats 2000000 in
theorem keyM_any {w : World} {base b g : Nat} {G : Nat → Prop} {S : St} {m : Msg} (h : Cod w base G b S) (hM : MsgAt lo w g G m) (hg : ¬ G g) (hb : base ≤ g) (hS : OkS S) (h0 : 0 ≤ m.key) (hn : m.key < 18446744073709551616) :
    Calls Try.prog 44 #[.pointer (some ⟨b, 0, none⟩), .pointer (some ⟨g, 0, none⟩)] w fun e w' => EndsM lo w base G b g (thenS (numS S m.key 8) fun v => { m with key := v }) e w' := by
  have HN := Aside0.mk (number_any h hS m.key h0 (by omega) 8 (by omega) (by omega))
  have HM := Aside0.mk hM
  obtain ⟨A5, c5, A8, c8, A13, c13, hx, hl1, hl2, hl3, h5, h8, h13⟩ := hM
  have hxl := hx.lt
  have HXF : Aside0 (g < w.heap.size) := ⟨hxl⟩
  have p : w.cell? ⟨g, 9, none⟩ = some (.int .u64 m.key) := (hx.cell 9).trans rfl
  have HE := Aside0.mk (numS.eq_def S m.key 8)
  clear h hS hx hl1 hl2 hl3 h5 h8 h13
  obtain ⟨x, hx⟩ : ∃ x, step S (be m.key 8) 8 = x := ⟨_, rfl⟩
  rw [hx] at HN HE
  clear hx
  generalize numS S m.key 8 = X at HE ⊢
  go_enter Try.func44, Try.ntmps44
  go_wp2_with fail
  refine HN.out.mono ?_
  clear HN p
  cases x with
  | error x =>
    rintro e w2 ⟨G', hG', hT', he⟩
    have he2 : e = .panicked [{ v := .iface 63 (.agg #[.int .i64 x]), recovered := false }] := he
    subst he2
    clear he
    have HG := Aside0.mk hG'
    have HT := Aside0.mk hT'
    clear hG' hT'
    go_wp2_with fail
    rw [HE.out]
    exact ⟨rfl, EndsM.wrong (HM.out.blk14 hg) HG.out HT.out⟩
  | ok x =>
    obtain ⟨r, S'⟩ := x
    rintro e w2 ⟨G', hG', hT', rfl, hC2⟩
    have hgG : ¬ G' g := fun h => (hG' g h).elim hg (fun h => by have := HXF.out; omega)
    have hM2 := HM.out.turn hg hT' hG'
    obtain ⟨A5, c5, A8, c8, A13, c13, hx, hl1, hl2, hl3, h5, h8, h13⟩ := hM2
    have HXA : Aside0 (∀ v : Int, MsgAt lo (w2.setCell ⟨g, 9, none⟩ (.int .u64 v)) g G' { m with key := v }) := ⟨fun v => ⟨A5, c5, A8, c8, A13, c13, hx.set 9 _, hl1, hl2, hl3, F_set h5 _, F_set h8 _, F_set h13 _⟩⟩
    have p : w2.cell? ⟨g, 9, none⟩ = some (.int .u64 m.key) := (hx.cell 9).trans rfl
    have pf : w2.frozen? ⟨g, 9, none⟩ = false := hx.free 9
    have hxl2 := hx.lt
    have HG := Aside0.mk hG'
    have HT := Aside0.mk hT'
    have HC2 := Aside0.mk hC2
    have HGG := Aside0.mk hgG
    clear hG' hT' hC2 hx hl1 hl2 hl3 h5 h8 h13 hgG HM
    go_wp2_with fail
    rw [HE.out]
    refine bodyPost_end (results_none rfl _ _ _) rfl ?_
    exact EndsM.right HG.out HT.out HGG.out hb HC2.out (HXA.out _)

set_option maxHeartbeats 2000000 in
theorem shardM_any {w : World} {base b g : Nat} {G : Nat → Prop} {S : St} {m : Msg} (h : Cod w base G b S) (hM : MsgAt lo w g G m) (hg : ¬ G g) (hb : base ≤ g) (hS : OkS S) (h0 : 0 ≤ m.shard) (hn : m.shard < 256) :
    Calls Try.prog 45 #[.pointer (some ⟨b, 0, none⟩), .pointer (some ⟨g, 0, none⟩)] w fun e w' => EndsM lo w base G b g (thenS (numS S m.shard 1) fun v => { m with shard := v }) e w' := by
  have HN := Aside0.mk (number_any h hS m.shard h0 (by omega) 1 (by omega) (by omega))
  have HM := Aside0.mk hM
  have HSO := Aside0.mk hS
  have hw1 : IntKind.u64.wrap m.shard = m.shard := by rw [IntKind.wrap_u64]; omega
  obtain ⟨A5, c5, A8, c8, A13, c13, hx, hl1, hl2, hl3, h5, h8, h13⟩ := hM
  have hxl := hx.lt
  have HXF : Aside0 (g < w.heap.size) := ⟨hxl⟩
  have p : w.cell? ⟨g, 10, none⟩ = some (.int .u8 m.shard) := (hx.cell 10).trans rfl
  have HE := Aside0.mk (numS.eq_def S m.shard 1)
  clear h hS hx hl1 hl2 hl3 h5 h8 h13
  obtain ⟨x, hx⟩ : ∃ x, step S (be m.shard 1) 1 = x := ⟨_, rfl⟩
  have HV : Aside0 (∀ r S', x = .ok (r, S') → 0 ≤ val r ∧ val r < 256 ^ 1) := ⟨fun r S' e => by
    have hq := step_ok HSO.out (be_range m.shard 1) (be_len m.shard 1) (by rw [hx, e])
    have := val_range hq.2 r.length (Nat.le_refl _)
    rwa [List.take_length, hq.1] at this⟩
  rw [hx] at HN HE
  clear hx
  generalize numS S m.shard 1 = X at HE ⊢
  go_enter Try.func45, Try.ntmps45
  go_wp2_with fail
  refine HN.out.mono ?_
  clear HN p
  cases x with
  | error x =>
    rintro e w2 ⟨G', hG', hT', he⟩
    have he2 : e = .panicked [{ v := .iface 63 (.agg #[.int .i64 x]), recovered := false }] := he
    subst he2
    clear he
    have HG := Aside0.mk hG'
    have HT := Aside0.mk hT'
    clear hG' hT'
    go_wp2_with fail
    rw [HE.out]
    exact ⟨rfl, EndsM.wrong (HM.out.blk14 hg) HG.out HT.out⟩
  | ok x =>
    obtain ⟨r, S'⟩ := x
    rintro e w2 ⟨G', hG', hT', rfl, hC2⟩
    have hgG : ¬ G' g := fun h => (hG' g h).elim hg (fun h => by have := HXF.out; omega)
    have hM2 := HM.out.turn hg hT' hG'
    obtain ⟨A5, c5, A8, c8, A13, c13, hx, hl1, hl2, hl3, h5, h8, h13⟩ := hM2
    have HXA : Aside0 (∀ v : Int, MsgAt lo (w2.setCell ⟨g, 10, none⟩ (.int .u8 v)) g G' { m with shard := v }) := ⟨fun v => ⟨A5, c5, A8, c8, A13, c13, hx.set 10 _, hl1, hl2, hl3, F_set h5 _, F_set h8 _, F_set h13 _⟩⟩
    have p : w2.cell? ⟨g, 10, none⟩ = some (.int .u8 m.shard) := (hx.cell 10).trans rfl
    have pf : w2.frozen? ⟨g, 10, none⟩ = false := hx.free 10
    have hxl2 := hx.lt
    have HG := Aside0.mk hG'
    have HT := Aside0.mk hT'
    have HC2 := Aside0.mk hC2
    have HGG := Aside0.mk hgG
    have hv := HV.out r S' rfl
    have hw2 : IntKind.u8.wrap (val r) = val r := by rw [IntKind.wrap_u8]; omega
    clear hv
    clear hG' hT' hC2 hx hl1 hl2 hl3 h5 h8 h13 hgG HM
    go_wp2_with fail
    rw [HE.out]
    refine bodyPost_end (results_none rfl _ _ _) rfl ?_
    exact EndsM.right HG.out HT.out HGG.out hb HC2.out (HXA.out _)

set_option maxHeartbeats 2000000 in
theorem stripeM_any {w : World} {base b g : Nat} {G : Nat → Prop} {S : St} {m : Msg} (h : Cod w base G b S) (hM : MsgAt lo w g G m) (hg : ¬ G g) (hb : base ≤ g) (hS : OkS S) (h0 : 0 ≤ m.stripe) (hn : m.stripe < 4294967296) :
    Calls Try.prog 46 #[.pointer (some ⟨b, 0, none⟩), .pointer (some ⟨g, 0, none⟩)] w fun e w' => EndsM lo w base G b g (thenS (numS S m.stripe 4) fun v => { m with stripe := v }) e w' := by
  have HN := Aside0.mk (number_any h hS m.stripe h0 (by omega) 4 (by omega) (by omega))
  have HM := Aside0.mk hM
  have HSO := Aside0.mk hS
  have hw1 : IntKind.u64.wrap m.stripe = m.stripe := by rw [IntKind.wrap_u64]; omega
  obtain ⟨A5, c5, A8, c8, A13, c13, hx, hl1, hl2, hl3, h5, h8, h13⟩ := hM
  have hxl := hx.lt
  have HXF : Aside0 (g < w.heap.size) := ⟨hxl⟩
  have p : w.cell? ⟨g, 11, none⟩ = some (.int .u32 m.stripe) := (hx.cell 11).trans rfl
  have HE := Aside0.mk (numS.eq_def S m.stripe 4)
  clear h hS hx hl1 hl2 hl3 h5 h8 h13
  obtain ⟨x, hx⟩ : ∃ x, step S (be m.stripe 4) 4 = x := ⟨_, rfl⟩
  have HV : Aside0 (∀ r S', x = .ok (r, S') → 0 ≤ val r ∧ val r < 256 ^ 4) := ⟨fun r S' e => by
    have hq := step_ok HSO.out (be_range m.stripe 4) (be_len m.stripe 4) (by rw [hx, e])
    have := val_range hq.2 r.length (Nat.le_refl _)
    rwa [List.take_length, hq.1] at this⟩
  rw [hx] at HN HE
  clear hx
  generalize numS S m.stripe 4 = X at HE ⊢
  go_enter Try.func46, Try.ntmps46
  go_wp2_with fail
  refine HN.out.mono ?_
  clear HN p
  cases x with
  | error x =>
    rintro e w2 ⟨G', hG', hT', he⟩
    have he2 : e = .panicked [{ v := .iface 63 (.agg #[.int .i64 x]), recovered := false }] := he
    subst he2
    clear he
    have HG := Aside0.mk hG'
    have HT := Aside0.mk hT'
    clear hG' hT'
    go_wp2_with fail
    rw [HE.out]
    exact ⟨rfl, EndsM.wrong (HM.out.blk14 hg) HG.out HT.out⟩
  | ok x =>
    obtain ⟨r, S'⟩ := x
    rintro e w2 ⟨G', hG', hT', rfl, hC2⟩
    have hgG : ¬ G' g := fun h => (hG' g h).elim hg (fun h => by have := HXF.out; omega)
    have hM2 := HM.out.turn hg hT' hG'
    obtain ⟨A5, c5, A8, c8, A13, c13, hx, hl1, hl2, hl3, h5, h8, h13⟩ := hM2
    have HXA : Aside0 (∀ v : Int, MsgAt lo (w2.setCell ⟨g, 11, none⟩ (.int .u32 v)) g G' { m with stripe := v }) := ⟨fun v => ⟨A5, c5, A8, c8, A13, c13, hx.set 11 _, hl1, hl2, hl3, F_set h5 _, F_set h8 _, F_set h13 _⟩⟩
    have p : w2.cell? ⟨g, 11, none⟩ = some (.int .u32 m.stripe) := (hx.cell 11).trans rfl
    have pf : w2.frozen? ⟨g, 11, none⟩ = false := hx.free 11
    have hxl2 := hx.lt
    have HG := Aside0.mk hG'
    have HT := Aside0.mk hT'
    have HC2 := Aside0.mk hC2
    have HGG := Aside0.mk hgG
    have hv := HV.out r S' rfl
    have hw2 : IntKind.u32.wrap (val r) = val r := by rw [IntKind.wrap_u32]; omega
    clear hv
    clear hG' hT' hC2 hx hl1 hl2 hl3 h5 h8 h13 hgG HM
    go_wp2_with fail
    rw [HE.out]
    refine bodyPost_end (results_none rfl _ _ _) rfl ?_
    exact EndsM.right HG.out HT.out HGG.out hb HC2.out (HXA.out _)

set_option maxHeartbeats 2000000 in
theorem codeM_any {w : World} {base b g : Nat} {G : Nat → Prop} {S : St} {m : Msg} (h : Cod w base G b S) (hM : MsgAt lo w g G m) (hg : ¬ G g) (hb : base ≤ g) (hS : OkS S) (h0 : 0 ≤ m.code) (hn : m.code < 65536) :
    Calls Try.prog 47 #[.pointer (some ⟨b, 0, none⟩), .pointer (some ⟨g, 0, none⟩)] w fun e w' => EndsM lo w base G b g (thenS (numS S m.code 2) fun v => { m with code := v }) e w' := by
  have HN := Aside0.mk (number_any h hS m.code h0 (by omega) 2 (by omega) (by omega))
  have HM := Aside0.mk hM
  have HSO := Aside0.mk hS
  have hw1 : IntKind.u64.wrap m.code = m.code := by rw [IntKind.wrap_u64]; omega
  obtain ⟨A5, c5, A8, c8, A13, c13, hx, hl1, hl2, hl3, h5, h8, h13⟩ := hM
  have hxl := hx.lt
  have HXF : Aside0 (g < w.heap.size) := ⟨hxl⟩
  have p : w.cell? ⟨g, 12, none⟩ = some (.int .i64 m.code) := (hx.cell 12).trans rfl
  have HE := Aside0.mk (numS.eq_def S m.code 2)
  clear h hS hx hl1 hl2 hl3 h5 h8 h13
  obtain ⟨x, hx⟩ : ∃ x, step S (be m.code 2) 2 = x := ⟨_, rfl⟩
  have HV : Aside0 (∀ r S', x = .ok (r, S') → 0 ≤ val r ∧ val r < 256 ^ 2) := ⟨fun r S' e => by
    have hq := step_ok HSO.out (be_range m.code 2) (be_len m.code 2) (by rw [hx, e])
    have := val_range hq.2 r.length (Nat.le_refl _)
    rwa [List.take_length, hq.1] at this⟩
  rw [hx] at HN HE
  clear hx
  generalize numS S m.code 2 = X at HE ⊢
  go_enter Try.func47, Try.ntmps47
  go_wp2_with fail
  refine HN.out.mono ?_
  clear HN p
  cases x with
  | error x =>
    rintro e w2 ⟨G', hG', hT', he⟩
    have he2 : e = .panicked [{ v := .iface 63 (.agg #[.int .i64 x]), recovered := false }] := he
    subst he2
    clear he
    have HG := Aside0.mk hG'
    have HT := Aside0.mk hT'
    clear hG' hT'
    go_wp2_with fail
    rw [HE.out]
    exact ⟨rfl, EndsM.wrong (HM.out.blk14 hg) HG.out HT.out⟩
  | ok x =>
    obtain ⟨r, S'⟩ := x
    rintro e w2 ⟨G', hG', hT', rfl, hC2⟩
    have hgG : ¬ G' g := fun h => (hG' g h).elim hg (fun h => by have := HXF.out; omega)
    have hM2 := HM.out.turn hg hT' hG'
    obtain ⟨A5, c5, A8, c8, A13, c13, hx, hl1, hl2, hl3, h5, h8, h13⟩ := hM2
    have HXA : Aside0 (∀ v : Int, MsgAt lo (w2.setCell ⟨g, 12, none⟩ (.int .i64 v)) g G' { m with code := v }) := ⟨fun v => ⟨A5, c5, A8, c8, A13, c13, hx.set 12 _, hl1, hl2, hl3, F_set h5 _, F_set h8 _, F_set h13 _⟩⟩
    have p : w2.cell? ⟨g, 12, none⟩ = some (.int .i64 m.code) := (hx.cell 12).trans rfl
    have pf : w2.frozen? ⟨g, 12, none⟩ = false := hx.free 12
    have hxl2 := hx.lt
    have HG := Aside0.mk hG'
    have HT := Aside0.mk hT'
    have HC2 := Aside0.mk hC2
    have HGG := Aside0.mk hgG
    have hv := HV.out r S' rfl
    have hw2 : IntKind.i64.wrap (val r) = val r := by exact IntWalk.i64_in _ (by omega)
    clear hv
    clear hG' hT' hC2 hx hl1 hl2 hl3 h5 h8 h13 hgG HM
    go_wp2_with fail
    rw [HE.out]
    refine bodyPost_end (results_none rfl _ _ _) rfl ?_
    exact EndsM.right HG.out HT.out HGG.out hb HC2.out (HXA.out _)

set_option maxHeartbeats 2000000 in
theorem opM_any {w : World} {base b g : Nat} {G : Nat → Prop} {S : St} {m : Msg} (h : Cod w base G b S) (hM : MsgAt lo w g G m) (hg : ¬ G g) (hb : base ≤ g) (hS : OkS S) (h0 : 0 ≤ m.op) (hn : m.op ≤ 4611686018427387904) :
    Calls Try.prog 38 #[.pointer (some ⟨b, 0, none⟩), .pointer (some ⟨g, 0, none⟩)] w fun e w' => EndsM lo w base G b g (thenS (countS S m.op 1 64 1) fun v => { m with op := v }) e w' := by
  have HN := Aside0.mk (count_any h hS m.op h0 hn 1 (by omega) (by omega) 64 1 (by omega) (by omega))
  have HM := Aside0.mk hM
  obtain ⟨A5, c5, A8, c8, A13, c13, hx, hl1, hl2, hl3, h5, h8, h13⟩ := hM
  have hxl := hx.lt
  have HXF : Aside0 (g < w.heap.size) := ⟨hxl⟩
  have p : w.cell? ⟨g, 3, none⟩ = some (.int .i64 m.op) := (hx.cell 3).trans rfl
  have HE := Aside0.mk ((rfl : countS S m.op 1 64 1 = countS S m.op 1 64 1))
  clear h hS hx hl1 hl2 hl3 h5 h8 h13
  obtain ⟨x, hx⟩ : ∃ x, countS S m.op 1 64 1 = x := ⟨_, rfl⟩
  rw [hx] at HN ⊢
  clear hx HE
  go_enter Try.func38, Try.ntmps38
  go_wp2_with fail
  refine HN.out.mono ?_
  clear HN p
  cases x with
  | error x =>
    rintro e w2 ⟨G', hG', hT', he⟩
    have he2 : e = .panicked [{ v := .iface 63 (.agg #[.int .i64 x]), recovered := false }] := he
    subst he2
    clear he
    have HG := Aside0.mk hG'
    have HT := Aside0.mk hT'
    clear hG' hT'
    go_wp2_with fail
    exact ⟨rfl, EndsM.wrong (HM.out.blk14 hg) HG.out HT.out⟩
  | ok x =>
    obtain ⟨r, S'⟩ := x
    rintro e w2 ⟨G', hG', hT', rfl, hC2⟩
    have hgG : ¬ G' g := fun h => (hG' g h).elim hg (fun h => by have := HXF.out; omega)
    have hM2 := HM.out.turn hg hT' hG'
    obtain ⟨A5, c5, A8, c8, A13, c13, hx, hl1, hl2, hl3, h5, h8, h13⟩ := hM2
    have HXA : Aside0 (∀ v : Int, MsgAt lo (w2.setCell ⟨g, 3, none⟩ (.int .i64 v)) g G' { m with op := v }) := ⟨fun v => ⟨A5, c5, A8, c8, A13, c13, hx.set 3 _, hl1, hl2, hl3, F_set h5 _, F_set h8 _, F_set h13 _⟩⟩
    have p : w2.cell? ⟨g, 3, none⟩ = some (.int .i64 m.op) := (hx.cell 3).trans rfl
    have pf : w2.frozen? ⟨g, 3, none⟩ = false := hx.free 3
    have hxl2 := hx.lt
    have HG := Aside0.mk hG'
    have HT := Aside0.mk hT'
    have HC2 := Aside0.mk hC2
    have HGG := Aside0.mk hgG
    clear hG' hT' hC2 hx hl1 hl2 hl3 h5 h8 h13 hgG HM
    go_wp2_with fail
    refine bodyPost_end (results_none rfl _ _ _) rfl ?_
    exact EndsM.right HG.out HT.out HGG.out hb HC2.out (HXA.out _)

set_option maxHeartbeats 2000000 in
theorem commitM_any {w : World} {base b g : Nat} {G : Nat → Prop} {S : St} {m : Msg} (h : Cod w base G b S) (hM : MsgAt lo w g G m) (hg : ¬ G g) (hb : base ≤ g) (hS : OkS S) (h0 : 0 ≤ m.commit) (hn : m.commit ≤ 4611686018427387904) :
    Calls Try.prog 39 #[.pointer (some ⟨b, 0, none⟩), .pointer (some ⟨g, 0, none⟩)] w fun e w' => EndsM lo w base G b g (thenS (countS S m.commit 1 64 1) fun v => { m with commit := v }) e w' := by
  have HN := Aside0.mk (count_any h hS m.commit h0 hn 1 (by omega) (by omega) 64 1 (by omega) (by omega))
  have HM := Aside0.mk hM
  obtain ⟨A5, c5, A8, c8, A13, c13, hx, hl1, hl2, hl3, h5, h8, h13⟩ := hM
  have hxl := hx.lt
  have HXF : Aside0 (g < w.heap.size) := ⟨hxl⟩
  have p : w.cell? ⟨g, 4, none⟩ = some (.int .i64 m.commit) := (hx.cell 4).trans rfl
  have HE := Aside0.mk ((rfl : countS S m.commit 1 64 1 = countS S m.commit 1 64 1))
  clear h hS hx hl1 hl2 hl3 h5 h8 h13
  obtain ⟨x, hx⟩ : ∃ x, countS S m.commit 1 64 1 = x := ⟨_, rfl⟩
  rw [hx] at HN ⊢
  clear hx HE
  go_enter Try.func39, Try.ntmps39
  go_wp2_with fail
  refine HN.out.mono ?_
  clear HN p
  cases x with
  | error x =>
    rintro e w2 ⟨G', hG', hT', he⟩
    have he2 : e = .panicked [{ v := .iface 63 (.agg #[.int .i64 x]), recovered := false }] := he
    subst he2
    clear he
    have HG := Aside0.mk hG'
    have HT := Aside0.mk hT'
    clear hG' hT'
    go_wp2_with fail
    exact ⟨rfl, EndsM.wrong (HM.out.blk14 hg) HG.out HT.out⟩
  | ok x =>
    obtain ⟨r, S'⟩ := x
    rintro e w2 ⟨G', hG', hT', rfl, hC2⟩
    have hgG : ¬ G' g := fun h => (hG' g h).elim hg (fun h => by have := HXF.out; omega)
    have hM2 := HM.out.turn hg hT' hG'
    obtain ⟨A5, c5, A8, c8, A13, c13, hx, hl1, hl2, hl3, h5, h8, h13⟩ := hM2
    have HXA : Aside0 (∀ v : Int, MsgAt lo (w2.setCell ⟨g, 4, none⟩ (.int .i64 v)) g G' { m with commit := v }) := ⟨fun v => ⟨A5, c5, A8, c8, A13, c13, hx.set 4 _, hl1, hl2, hl3, F_set h5 _, F_set h8 _, F_set h13 _⟩⟩
    have p : w2.cell? ⟨g, 4, none⟩ = some (.int .i64 m.commit) := (hx.cell 4).trans rfl
    have pf : w2.frozen? ⟨g, 4, none⟩ = false := hx.free 4
    have hxl2 := hx.lt
    have HG := Aside0.mk hG'
    have HT := Aside0.mk hT'
    have HC2 := Aside0.mk hC2
    have HGG := Aside0.mk hgG
    clear hG' hT' hC2 hx hl1 hl2 hl3 h5 h8 h13 hgG HM
    go_wp2_with fail
    refine bodyPost_end (results_none rfl _ _ _) rfl ?_
    exact EndsM.right HG.out HT.out HGG.out hb HC2.out (HXA.out _)

end Go.Proofs.Ytmjbdeoomohanaa.Mine
