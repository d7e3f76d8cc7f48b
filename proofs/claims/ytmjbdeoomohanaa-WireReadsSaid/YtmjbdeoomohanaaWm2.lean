import Derived.Test.YtmjbdeoomohanaaWm1
import Derived.Test.YtmjbdeoomohanaaCopy

/- wire: a message in memory; the methods that carry one number (printed by wip/Wire/genG.py). -/
set_option linter.unusedSimpArgs false
set_option linter.unusedVariables false
namespace Go.Proofs.Ytmjbdeoomohanaa.Mine
open Go.RowKit Go.Maps Go.Proofs.YtmjbdeoomohanaaW.PrintWords Go.Proofs.YtmjbdeoomohanaaW.PrintLast Go.Proofs.YtmjbdeoomohanaaW.PrintMore Go.Proofs.Ytmjbdeoomohanaa.PWirePacks Go.Proofs.Ytmjbdeoomohanaa.Turn
variable {lo : Nat}
/-- Where a message's lists may lie: not in its own block, and not in what is neither below lo nor behind it. -/
abbrev Off (lo g k : Nat) : Prop := k ≠ g ∧ (k < lo ∨ g < k)

def numS (S : St) (n : Int) (sz : Nat) : Except Int (Int × St) :=
  match step S (be n sz) sz with
  | .error x => .error x
  | .ok (r, S') => .ok (val r, S')
def thenS {α : Type} (x : Except Int (α × St)) (f : α → Msg) : Except Int (Msg × St) :=
  match x with
  | .error x => .error x
  | .ok (r, S') => .ok (f r, S')

/-- The message m in block g; what it is made of lies apart from G. -/
def MsgAt (lo : Nat) (w : World) (g : Nat) (G : Nat → Prop) (m : Msg) : Prop :=
  ∃ A5 c5 A8 c8 A13 c13, Blk w g (mcells m A5 c5 A8 c8 A13 c13) 29 ∧ m.log.length ≤ c5 ∧ m.body.length ≤ c8 ∧ m.blocks.length ≤ c13 ∧
    Kd.F k44 w (fun k => ¬ G k ∧ Off lo g k) A5 m.log.length m.log ∧ Kd.F (Kd.int .u8) w (fun k => ¬ G k ∧ Off lo g k) A8 m.body.length m.body ∧ Kd.F (Kd.slice 5 (Kd.int .u8)) w (fun k => ¬ G k ∧ Off lo g k) A13 m.blocks.length m.blocks

theorem F_apart {α : Type} {d : Kd α} {w w' : World} {G G' : Nat → Prop} {g : Nat} {A : Option Addr} {n : Nat} {l : List α} (hg : g < w.heap.size) (hr : Kd.F d w (fun k => ¬ G k ∧ Off lo g k) A n l) (ht : Turned G w w') (hG : ∀ k, G' k → G k ∨ w.heap.size ≤ k) : Kd.F d w' (fun k => ¬ G' k ∧ Off lo g k) A n l :=
  Kd.F_mono (F_turn (Q := fun k => Off lo g k) hr ht hG) (fun k hk => ⟨hk.1, hk.2.elim id (fun h => by omega)⟩)
theorem MsgAt.turn {w w' : World} {g : Nat} {G G' : Nat → Prop} {m : Msg} (h : MsgAt lo w g G m) (hg : ¬ G g) (ht : Turned G w w') (hG : ∀ k, G' k → G k ∨ w.heap.size ≤ k) : MsgAt lo w' g G' m := by
  obtain ⟨A5, c5, A8, c8, A13, c13, hb, h1, h2, h3, h5, h8, h13⟩ := h
  have hl := hb.lt
  exact ⟨A5, c5, A8, c8, A13, c13, ht.blk hb hg, h1, h2, h3, F_apart hl h5 ht hG, F_apart hl h8 ht hG, F_apart hl h13 ht hG⟩
theorem F_set {α : Type} {d : Kd α} {w : World} {G : Nat → Prop} {g j : Nat} {A : Option Addr} {n : Nat} {l : List α} (hr : Kd.F d w (fun k => ¬ G k ∧ Off lo g k) A n l) (u : Value) : Kd.F d (w.setCell ⟨g, j, none⟩ u) (fun k => ¬ G k ∧ Off lo g k) A n l :=
  Kd.F_step hr (fun k hk _ => Below.heap_setCell w _ u k hk.2.1)

/-- How a method of the coder ends. -/
def EndsM (lo : Nat) (w : World) (base : Nat) (G : Nat → Prop) (b g : Nat) (x : Except Int (Msg × St)) (e : Ending) (w' : World) : Prop :=
  ∃ G' : Nat → Prop, (∀ k, G' k → G k ∨ w.heap.size ≤ k) ∧ Turned (fun k => G k ∨ k = g) w w' ∧ match x with
  | .ok (m, S') => e = .returned (.tuple #[]) ∧ Cod w' base G' b S' ∧ MsgAt lo w' g G' m ∧ ¬ G' g
  | .error x => e = wrongs x ∧ ∃ cs : Array Value, cs.size = 14 ∧ Blk w' g cs 29

/-- A message's block lies apart from G. -/
def Blk14 (w : World) (g : Nat) (G : Nat → Prop) : Prop := (∃ cs : Array Value, cs.size = 14 ∧ Blk w g cs 29) ∧ ¬ G g
theorem MsgAt.blk14 {w : World} {g : Nat} {G : Nat → Prop} {m : Msg} (h : MsgAt lo w g G m) (hg : ¬ G g) : Blk14 w g G := by
  obtain ⟨A5, c5, A8, c8, A13, c13, hb, -⟩ := h
  exact ⟨⟨_, rfl, hb⟩, hg⟩
theorem EndsM.wrong {w w' : World} {base b g : Nat} {G G' : Nat → Prop} {x : Int} (hx : Blk14 w g G) (hG : ∀ k, G' k → G k ∨ w.heap.size ≤ k) (hT : Turned G w w') : EndsM lo w base G b g (.error x) (wrongs x) w' :=
  ⟨G', hG, (Turned.refl _ w).then_ hT (fun _ h => .inl (.inl h)), rfl, hx.1.imp fun _ h => ⟨h.1, hT.blk h.2 hx.2⟩⟩
theorem EndsM.right {w w2 : World} {base b g : Nat} {G G' : Nat → Prop} {m : Msg} {S' : St} {j : Nat} {u : Value} (hG : ∀ k, G' k → G k ∨ w.heap.size ≤ k) (hT : Turned G w w2) (hg : ¬ G' g) (hb : base ≤ g) (hC : Cod w2 base G' b S') (hM : MsgAt lo (w2.setCell ⟨g, j, none⟩ u) g G' m) : EndsM lo w base G b g (.ok (m, S')) (.returned (.tuple #[])) (w2.setCell ⟨g, j, none⟩ u) :=
  ⟨G', hG, ((Turned.refl _ w).then_ hT (fun _ h => .inl (.inl h))).setCell (.inl (.inr rfl)) u, rfl,
    hC.step (X := fun k => k = g) ((Turned.refl (fun k => k = g) w2).setCell (.inl rfl) u) (fun k hk => by rw [hk]; exact ⟨hg, hb⟩), hM, hg⟩

set_option maxHeartbeats 2000000 in
theorem viewM_any {w : World} {base b g : Nat} {G : Nat → Prop} {S : St} {m : Msg} (h : Cod w base G b S) (hM : MsgAt lo w g G m) (hg : ¬ G g) (hb : base ≤ g) (hS : OkS S) (h0 : 0 ≤ m.view) (hn : m.view < 18446744073709551616) :
    Calls Try.prog 36 #[.pointer (some ⟨b, 0, none⟩), .pointer (some ⟨g, 0, none⟩)] w fun e w' => EndsM lo w base G b g (thenS (numS S m.view 8) fun v => { m with view := v }) e w' := by
  have HN := Aside0.mk (number_any h hS m.view h0 (by omega) 8 (by omega) (by omega))
  have HM := Aside0.mk hM
  obtain ⟨A5, c5, A8, c8, A13, c13, hx, hl1, hl2, hl3, h5, h8, h13⟩ := hM
  have hxl := hx.lt
  have HXF : Aside0 (g < w.heap.size) := ⟨hxl⟩
  have p : w.cell? ⟨g, 1, none⟩ = some (.int .u64 m.view) := (hx.cell 1).trans rfl
  have HE := Aside0.mk (numS.eq_def S m.view 8)
  clear h hS hx hl1 hl2 hl3 h5 h8 h13
  obtain ⟨x, hx⟩ : ∃ x, step S (be m.view 8) 8 = x := ⟨_, rfl⟩
  rw [hx] at HN HE
  clear hx
  generalize numS S m.view 8 = X at HE ⊢
  go_enter Try.func36, Try.ntmps36
  go_wp2_with fail
  refine HN.out.mono ?_
  clear HN p
  cases x with
  | error x =>
    rintro e w2 ⟨G', hG', hT', he⟩
    have he2 : e = .panicked [{ v := .iface 63 (.agg #[.int .i64 x]), recovered := false }] := he
    subst he2
    clear he
    have HG := Aside0.mk hG'
    have HT := Aside0.mk hT'
    clear hG' hT'
    go_wp2_with fail
    rw [HE.out]
    exact ⟨rfl, EndsM.wrong (HM.out.blk14 hg) HG.out HT.out⟩
  | ok x =>
    obtain ⟨r, S'⟩ := x
    rintro e w2 ⟨G', hG', hT', rfl, hC2⟩
    have hgG : ¬ G' g := fun h => (hG' g h).elim hg (fun h => by have := HXF.out; omega)
    have hM2 := HM.out.turn hg hT' hG'
    obtain ⟨A5, c5, A8, c8, A13, c13, hx, hl1, hl2, hl3, h5, h8, h13⟩ := hM2
    have HXA : Aside0 (∀ v : Int, MsgAt lo (w2.setCell ⟨g, 1, none⟩ (.int .u64 v)) g G' { m with view := v }) := ⟨fun v => ⟨A5, c5, A8, c8, A13, c13, hx.set 1 _, hl1, hl2, hl3, F_set h5 _, F_set h8 _, F_set h13 _⟩⟩
    have p : w2.cell? ⟨g, 1, none⟩ = some (.int .u64 m.view) := (hx.cell 1).trans rfl
    have pf : w2.frozen? ⟨g, 1, none⟩ = false := hx.free 1
    have hxl2 := hx.lt
    have HG := Aside0.mk hG'
    have HT := Aside0.mk hT'
    have HC2 := Aside0.mk hC2
    have HGG := Aside0.mk hgG
    clear hG' hT' hC2 hx hl1 hl2 hl3 h5 h8 h13 hgG HM
    go_wp2_with fail
    rw [HE.out]
    refine bodyPost_end (results_none rfl _ _ _) rfl ?_
    exact EndsM.right HG.out HT.out HGG.out hb HC2.out (HXA.out _)

set_option maxHeartbeats 2000000 in
theorem normalM_any {w : World} {base b g : Nat} {G : Nat → Prop} {S : St} {m : Msg} (h : Cod w base G b S) (hM : MsgAt lo w g G m) (hg : ¬ G g) (hb : base ≤ g) (hS : OkS S) (h0 : 0 ≤ m.normal) (hn : m.normal < 18446744073709551616) :
    Calls Try.prog 37 #[.pointer (some ⟨b, 0, none⟩), .pointer (some ⟨g, 0, none⟩)] w fun e w' => EndsM lo w base G b g (thenS (numS S m.normal 8) fun v => { m with normal := v }) e w' := by
  have HN := Aside0.mk (number_any h hS m.normal h0 (by omega) 8 (by omega) (by omega))
  have HM := Aside0.mk hM
  obtain ⟨A5, c5, A8, c8, A13, c13, hx, hl1, hl2, hl3, h5, h8, h13⟩ := hM
  have hxl := hx.lt
  have HXF : Aside0 (g < w.heap.size) := ⟨hxl⟩
  have p : w.cell? ⟨g, 2, none⟩ = some (.int .u64 m.normal) := (hx.cell 2).trans rfl
  have HE := Aside0.mk (numS.eq_def S m.normal 8)
  clear h hS hx hl1 hl2 hl3 h5 h8 h13
  obtain ⟨x, hx⟩ : ∃ x, step S (be m.normal 8) 8 = x := ⟨_, rfl⟩
  rw [hx] at HN HE
  clear hx
  generalize numS S m.normal 8 = X at HE ⊢
  go_enter Try.func37, Try.ntmps37
  go_wp2_with fail
  refine HN.out.mono ?_
  clear HN p
  cases x with
  | error x =>
    rintro e w2 ⟨G', hG', hT', he⟩
    have he2 : e = .panicked [{ v := .iface 63 (.agg #[.int .i64 x]), recovered := false }] := he
    subst he2
    clear he
    have HG := Aside0.mk hG'
    have HT := Aside0.mk hT'
    clear hG' hT'
    go_wp2_with fail
    rw [HE.out]
    exact ⟨rfl, EndsM.wrong (HM.out.blk14 hg) HG.out HT.out⟩
  | ok x =>
    obtain ⟨r, S'⟩ := x
    rintro e w2 ⟨G', hG', hT', rfl, hC2⟩
    have hgG : ¬ G' g := fun h => (hG' g h).elim hg (fun h => by have := HXF.out; omega)
    have hM2 := HM.out.turn hg hT' hG'
    obtain ⟨A5, c5, A8, c8, A13, c13, hx, hl1, hl2, hl3, h5, h8, h13⟩ := hM2
    have HXA : Aside0 (∀ v : Int, MsgAt lo (w2.setCell ⟨g, 2, none⟩ (.int .u64 v)) g G' { m with normal := v }) := ⟨fun v => ⟨A5, c5, A8, c8, A13, c13, hx.set 2 _, hl1, hl2, hl3, F_set h5 _, F_set h8 _, F_set h13 _⟩⟩
    have p : w2.cell? ⟨g, 2, none⟩ = some (.int .u64 m.normal) := (hx.cell 2).trans rfl
    have pf : w2.frozen? ⟨g, 2, none⟩ = false := hx.free 2
    have hxl2 := hx.lt
    have HG := Aside0.mk hG'
    have HT := Aside0.mk hT'
    have HC2 := Aside0.mk hC2
    have HGG := Aside0.mk hgG
    clear hG' hT' hC2 hx hl1 hl2 hl3 h5 h8 h13 hgG HM
    go_wp2_with fail
    rw [HE.out]
    refine bodyPost_end (results_none rfl _ _ _) rfl ?_
    exact EndsM.right HG.out HT.out HGG.out hb HC2.out (HXA.out _)

set_option maxHeartbeats 2000000 in
theorem clientM_any {w : World} {base b g : Nat} {G : Nat → Prop} {S : St} {m : Msg} (h : Cod w base G b S) (hM : MsgAt lo w g G m) (hg : ¬ G g) (hb : base ≤ g) (hS : OkS S) (h0 : 0 ≤ m.client) (hn : m.client < 18446744073709551616) :
    Calls Try.prog 41 #[.pointer (some ⟨b, 0, none⟩), .pointer (some ⟨g, 0, none⟩)] w fun e w' => EndsM lo w base G b g (thenS (numS S m.client 8) fun v => { m with client := v }) e w' := by
  have HN := Aside0.mk (number_any h hS m.client h0 (by omega) 8 (by omega) (by omega))
  have HM := Aside0.mk hM
  obtain ⟨A5, c5, A8, c8, A13, c13, hx, hl1, hl2, hl3, h5, h8, h13⟩ := hM
  have hxl := hx.lt
  have HXF : Aside0 (g < w.heap.size) := ⟨hxl⟩
  have p : w.cell? ⟨g, 6, none⟩ = some (.int .u64 m.client) := (hx.cell 6).trans rfl
  have HE := Aside0.mk (numS.eq_def S m.client 8)
  clear h hS hx hl1 hl2 hl3 h5 h8 h13
  obtain ⟨x, hx⟩ : ∃ x, step S (be m.client 8) 8 = x := ⟨_, rfl⟩
  rw [hx] at HN HE
  clear hx
  generalize numS S m.client 8 = X at HE ⊢
  go_enter Try.func41, Try.ntmps41
  go_wp2_with fail
  refine HN.out.mono ?_
  clear HN p
  cases x with
  | error x =>
    rintro e w2 ⟨G', hG', hT', he⟩
    have he2 : e = .panicked [{ v := .iface 63 (.agg #[.int .i64 x]), recovered := false }] := he
    subst he2
    clear he
    have HG := Aside0.mk hG'
    have HT := Aside0.mk hT'
    clear hG' hT'
    go_wp2_with fail
    rw [HE.out]
    exact ⟨rfl, EndsM.wrong (HM.out.blk14 hg) HG.out HT.out⟩
  | ok x =>
    obtain ⟨r, S'⟩ := x
    rintro e w2 ⟨G', hG', hT', rfl, hC2⟩
    have hgG : ¬ G' g := fun h => (hG' g h).elim hg (fun h => by have := HXF.out; omega)
    have hM2 := HM.out.turn hg hT' hG'
    obtain ⟨A5, c5, A8, c8, A13, c13, hx, hl1, hl2, hl3, h5, h8, h13⟩ := hM2
    have HXA : Aside0 (∀ v : Int, MsgAt lo (w2.setCell ⟨g, 6, none⟩ (.int .u64 v)) g G' { m with client := v }) := ⟨fun v => ⟨A5, c5, A8, c8, A13, c13, hx.set 6 _, hl1, hl2, hl3, F_set h5 _, F_set h8 _, F_set h13 _⟩⟩
    have p : w2.cell? ⟨g, 6, none⟩ = some (.int .u64 m.client) := (hx.cell 6).trans rfl
    have pf : w2.frozen? ⟨g, 6, none⟩ = false := hx.free 6
    have hxl2 := hx.lt
    have HG := Aside0.mk hG'
    have HT := Aside0.mk hT'
    have HC2 := Aside0.mk hC2
    have HGG := Aside0.mk hgG
    clear hG' hT' hC2 hx hl1 hl2 hl3 h5 h8 h13 hgG HM
    go_wp2_with fail
    rw [HE.out]
    refine bodyPost_end (results_none rfl _ _ _) rfl ?_
    exact EndsM.right HG.out HT.out HGG.out hb HC2.out (HXA.out _)

set_option maxHeartbeats 2000000 in
theorem seqM_any {w : World} {base b g : Nat} {G : Nat → Prop} {S : St} {m : Msg} (h : Cod w base G b S) (hM : MsgAt lo w g G m) (hg : ¬ G g) (hb : base ≤ g) (hS : OkS S) (h0 : 0 ≤ m.seq) (hn : m.seq < 18446744073709551616) :
    Calls Try.prog 42 #[.pointer (some ⟨b, 0, none⟩), .pointer (some ⟨g, 0, none⟩)] w fun e w' => EndsM lo w base G b g (thenS (numS S m.seq 8) fun v => { m with seq := v }) e w' := by
  have HN := Aside0.mk (number_any h hS m.seq h0 (by omega) 8 (by omega) (by omega))
  have HM := Aside0.mk hM
  obtain ⟨A5, c5, A8, c8, A13, c13, hx, hl1, hl2, hl3, h5, h8, h13⟩ := hM
  have hxl := hx.lt
  have HXF : Aside0 (g < w.heap.size) := ⟨hxl⟩
  have p : w.cell? ⟨g, 7, none⟩ = some (.int .u64 m.seq) := (hx.cell 7).trans rfl
  have HE := Aside0.mk (numS.eq_def S m.seq 8)
  clear h hS hx hl1 hl2 hl3 h5 h8 h13
  obtain ⟨x, hx⟩ : ∃ x, step S (be m.seq 8) 8 = x := ⟨_, rfl⟩
  rw [hx] at HN HE
  clear hx
  generalize numS S m.seq 8 = X at HE ⊢
  go_enter Try.func42, Try.ntmps42
  go_wp2_with fail
  refine HN.out.mono ?_
  clear HN p
  cases x with
  | error x =>
    rintro e w2 ⟨G', hG', hT', he⟩
    have he2 : e = .panicked [{ v := .iface 63 (.agg #[.int .i64 x]), recovered := false }] := he
    subst he2
    clear he
    have HG := Aside0.mk hG'
    have HT := Aside0.mk hT'
    clear hG' hT'
    go_wp2_with fail
    rw [HE.out]
    exact ⟨rfl, EndsM.wrong (HM.out.blk14 hg) HG.out HT.out⟩
  | ok x =>
    obtain ⟨r, S'⟩ := x
    rintro e w2 ⟨G', hG', hT', rfl, hC2⟩
    have hgG : ¬ G' g := fun h => (hG' g h).elim hg (fun h => by have := HXF.out; omega)
    have hM2 := HM.out.turn hg hT' hG'
    obtain ⟨A5, c5, A8, c8, A13, c13, hx, hl1, hl2, hl3, h5, h8, h13⟩ := hM2
    have HXA : Aside0 (∀ v : Int, MsgAt lo (w2.setCell ⟨g, 7, none⟩ (.int .u64 v)) g G' { m with seq := v }) := ⟨fun v => ⟨A5, c5, A8, c8, A13, c13, hx.set 7 _, hl1, hl2, hl3, F_set h5 _, F_set h8 _, F_set h13 _⟩⟩
    have p : w2.cell? ⟨g, 7, none⟩ = some (.int .u64 m.seq) := (hx.cell 7).trans rfl
    have pf : w2.frozen? ⟨g, 7, none⟩ = false := hx.free 7
    have hxl2 := hx.lt
    have HG := Aside0.mk hG'
    have HT := Aside0.mk hT'
    have HC2 := Aside0.mk hC2
    have HGG := Aside0.mk hgG
    clear hG' hT' hC2 hx hl1 hl2 hl3 h5 h8 h13 hgG HM
    go_wp2_with fail
    rw [HE.out]
    refine bodyPost_end (results_none rfl _ _ _) rfl ?_
    exact EndsM.right HG.out HT.out HGG.out hb HC2.out (HXA.out _)

set_option maxHeartbeats 2000000 in
theorem keyM_any {w : World} {base b g : Nat} {G : Nat → Prop} {S : St} {m : Msg} (h : Cod w base G b S) (hM : MsgAt lo w g G m) (hg : ¬ G g) (hb : base ≤ g) (hS : OkS S) (h0 : 0 ≤ m.key) (hn : m.key < 18446744073709551616) :
    Calls Try.prog 44 #[.pointer (some ⟨b, 0, none⟩), .pointer (some ⟨g, 0, none⟩)] w fun e w' => EndsM lo w base G b g (thenS (numS S m.key 8) fun v => { m with key := v }) e w' := by
  have HN := Aside0.mk (number_any h hS m.key h0 (by omega) 8 (by omega) (by omega))
  have HM := Aside0.mk hM
  obtain ⟨A5, c5, A8, c8, A13, c13, hx, hl1, hl2, hl3, h5, h8, h13⟩ := hM
  have hxl := hx.lt
  have HXF : Aside0 (g < w.heap.size) := ⟨hxl⟩
  have p : w.cell? ⟨g, 9, none⟩ = some (.int .u64 m.key) := (hx.cell 9).trans rfl
  have HE := Aside0.mk (numS.eq_def S m.key 8)
  clear h hS hx hl1 hl2 hl3 h5 h8 h13
  obtain ⟨x, hx⟩ : ∃ x, step S (be m.key 8) 8 = x := ⟨_, rfl⟩
  rw [hx] at HN HE
  clear hx
  generalize numS S m.key 8 = X at HE ⊢
  go_enter Try.func44, Try.ntmps44
  go_wp2_with fail
  refine HN.out.mono ?_
  clear HN p
  cases x with
  | error x =>
    rintro e w2 ⟨G', hG', hT', he⟩
    have he2 : e = .panicked [{ v := .iface 63 (.agg #[.int .i64 x]), recovered := false }] := he
    subst he2
    clear he
    have HG := Aside0.mk hG'
    have HT := Aside0.mk hT'
    clear hG' hT'
    go_wp2_with fail
    rw [HE.out]
    exact ⟨rfl, EndsM.wrong (HM.out.blk14 hg) HG.out HT.out⟩
  | ok x =>
    obtain ⟨r, S'⟩ := x
    rintro e w2 ⟨G', hG', hT', rfl, hC2⟩
    have hgG : ¬ G' g := fun h => (hG' g h).elim hg (fun h => by have := HXF.out; omega)
    have hM2 := HM.out.turn hg hT' hG'
    obtain ⟨A5, c5, A8, c8, A13, c13, hx, hl1, hl2, hl3, h5, h8, h13⟩ := hM2
    have HXA : Aside0 (∀ v : Int, MsgAt lo (w2.setCell ⟨g, 9, none⟩ (.int .u64 v)) g G' { m with key := v }) := ⟨fun v => ⟨A5, c5, A8, c8, A13, c13, hx.set 9 _, hl1, hl2, hl3, F_set h5 _, F_set h8 _, F_set h13 _⟩⟩
    have p : w2.cell? ⟨g, 9, none⟩ = some (.int .u64 m.key) := (hx.cell 9).trans rfl
    have pf : w2.frozen? ⟨g, 9, none⟩ = false := hx.free 9
    have hxl2 := hx.lt
    have HG := Aside0.mk hG'
    have HT := Aside0.mk hT'
    have HC2 := Aside0.mk hC2
    have HGG := Aside0.mk hgG
    clear hG' hT' hC2 hx hl1 hl2 hl3 h5 h8 h13 hgG HM
    go_wp2_with fail
    rw [HE.out]
    refine bodyPost_end (results_none rfl _ _ _) rfl ?_
    exact EndsM.right HG.out HT.out HGG.out hb HC2.out (HXA.out _)

set_option maxHeartbeats 2000000 in
theorem shardM_any {w : World} {base b g : Nat} {G : Nat → Prop} {S : St} {m : Msg} (h : Cod w base G b S) (hM : MsgAt lo w g G m) (hg : ¬ G g) (hb : base ≤ g) (hS : OkS S) (h0 : 0 ≤ m.shard) (hn : m.shard < 256) :
    Calls Try.prog 45 #[.pointer (some ⟨b, 0, none⟩), .pointer (some ⟨g, 0, none⟩)] w fun e w' => EndsM lo w base G b g (thenS (numS S m.shard 1) fun v => { m with shard := v }) e w' := by
  have HN := Aside0.mk (number_any h hS m.shard h0 (by omega) 1 (by omega) (by omega))
  have HM := Aside0.mk hM
  have HSO := Aside0.mk hS
  have hw1 : IntKind.u64.wrap m.shard = m.shard := by rw [IntKind.wrap_u64]; omega
  obtain ⟨A5, c5, A8, c8, A13, c13, hx, hl1, hl2, hl3, h5, h8, h13⟩ := hM
  have hxl := hx.lt
  have HXF : Aside0 (g < w.heap.size) := ⟨hxl⟩
  have p : w.cell? ⟨g, 10, none⟩ = some (.int .u8 m.shard) := (hx.cell 10).trans rfl
  have HE := Aside0.mk (numS.eq_def S m.shard 1)
  clear h hS hx hl1 hl2 hl3 h5 h8 h13
  obtain ⟨x, hx⟩ : ∃ x, step S (be m.shard 1) 1 = x := ⟨_, rfl⟩
  have HV : Aside0 (∀ r S', x = .ok (r, S') → 0 ≤ val r ∧ val r < 256 ^ 1) := ⟨fun r S' e => by
    have hq := step_ok HSO.out (be_range m.shard 1) (be_len m.shard 1) (by rw [hx, e])
    have := val_range hq.2 r.length (Nat.le_refl _)
    rwa [List.take_length, hq.1] at this⟩
  rw [hx] at HN HE
  clear hx
  generalize numS S m.shard 1 = X at HE ⊢
  go_enter Try.func45, Try.ntmps45
  go_wp2_with fail
  refine HN.out.mono ?_
  clear HN p
  cases x with
  | error x =>
    rintro e w2 ⟨G', hG', hT', he⟩
    have he2 : e = .panicked [{ v := .iface 63 (.agg #[.int .i64 x]), recovered := false }] := he
    subst he2
    clear he
    have HG := Aside0.mk hG'
    have HT := Aside0.mk hT'
    clear hG' hT'
    go_wp2_with fail
    rw [HE.out]
    exact ⟨rfl, EndsM.wrong (HM.out.blk14 hg) HG.out HT.out⟩
  | ok x =>
    obtain ⟨r, S'⟩ := x
    rintro e w2 ⟨G', hG', hT', rfl, hC2⟩
    have hgG : ¬ G' g := fun h => (hG' g h).elim hg (fun h => by have := HXF.out; omega)
    have hM2 := HM.out.turn hg hT' hG'
    obtain ⟨A5, c5, A8, c8, A13, c13, hx, hl1, hl2, hl3, h5, h8, h13⟩ := hM2
    have HXA : Aside0 (∀ v : Int, MsgAt lo (w2.setCell ⟨g, 10, none⟩ (.int .u8 v)) g G' { m with shard := v }) := ⟨fun v => ⟨A5, c5, A8, c8, A13, c13, hx.set 10 _, hl1, hl2, hl3, F_set h5 _, F_set h8 _, F_set h13 _⟩⟩
    have p : w2.cell? ⟨g, 10, none⟩ = some (.int .u8 m.shard) := (hx.cell 10).trans rfl
    have pf : w2.frozen? ⟨g, 10, none⟩ = false := hx.free 10
    have hxl2 := hx.lt
    have HG := Aside0.mk hG'
    have HT := Aside0.mk hT'
    have HC2 := Aside0.mk hC2
    have HGG := Aside0.mk hgG
    have hv := HV.out r S' rfl
    have hw2 : IntKind.u8.wrap (val r) = val r := by rw [IntKind.wrap_u8]; omega
    clear hv
    clear hG' hT' hC2 hx hl1 hl2 hl3 h5 h8 h13 hgG HM
    go_wp2_with fail
    rw [HE.out]
    refine bodyPost_end (results_none rfl _ _ _) rfl ?_
    exact EndsM.right HG.out HT.out HGG.out hb HC2.out (HXA.out _)

set_option maxHeartbeats 2000000 in
theorem stripeM_any {w : World} {base b g : Nat} {G : Nat → Prop} {S : St} {m : Msg} (h : Cod w base G b S) (hM : MsgAt lo w g G m) (hg : ¬ G g) (hb : base ≤ g) (hS : OkS S) (h0 : 0 ≤ m.stripe) (hn : m.stripe < 4294967296) :
    Calls Try.prog 46 #[.pointer (some ⟨b, 0, none⟩), .pointer (some ⟨g, 0, none⟩)] w fun e w' => EndsM lo w base G b g (thenS (numS S m.stripe 4) fun v => { m with stripe := v }) e w' := by
  have HN := Aside0.mk (number_any h hS m.stripe h0 (by omega) 4 (by omega) (by omega))
  have HM := Aside0.mk hM
  have HSO := Aside0.mk hS
  have hw1 : IntKind.u64.wrap m.stripe = m.stripe := by rw [IntKind.wrap_u64]; omega
  obtain ⟨A5, c5, A8, c8, A13, c13, hx, hl1, hl2, hl3, h5, h8, h13⟩ := hM
  have hxl := hx.lt
  have HXF : Aside0 (g < w.heap.size) := ⟨hxl⟩
  have p : w.cell? ⟨g, 11, none⟩ = some (.int .u32 m.stripe) := (hx.cell 11).trans rfl
  have HE := Aside0.mk (numS.eq_def S m.stripe 4)
  clear h hS hx hl1 hl2 hl3 h5 h8 h13
  obtain ⟨x, hx⟩ : ∃ x, step S (be m.stripe 4) 4 = x := ⟨_, rfl⟩
  have HV : Aside0 (∀ r S', x = .ok (r, S') → 0 ≤ val r ∧ val r < 256 ^ 4) := ⟨fun r S' e => by
    have hq := step_ok HSO.out (be_range m.stripe 4) (be_len m.stripe 4) (by rw [hx, e])
    have := val_range hq.2 r.length (Nat.le_refl _)
    rwa [List.take_length, hq.1] at this⟩
  rw [hx] at HN HE
  clear hx
  generalize numS S m.stripe 4 = X at HE ⊢
  go_enter Try.func46, Try.ntmps46
  go_wp2_with fail
  refine HN.out.mono ?_
  clear HN p
  cases x with
  | error x =>
    rintro e w2 ⟨G', hG', hT', he⟩
    have he2 : e = .panicked [{ v := .iface 63 (.agg #[.int .i64 x]), recovered := false }] := he
    subst he2
    clear he
    have HG := Aside0.mk hG'
    have HT := Aside0.mk hT'
    clear hG' hT'
    go_wp2_with fail
    rw [HE.out]
    exact ⟨rfl, EndsM.wrong (HM.out.blk14 hg) HG.out HT.out⟩
  | ok x =>
    obtain ⟨r, S'⟩ := x
    rintro e w2 ⟨G', hG', hT', rfl, hC2⟩
    have hgG : ¬ G' g := fun h => (hG' g h).elim hg (fun h => by have := HXF.out; omega)
    have hM2 := HM.out.turn hg hT' hG'
    obtain ⟨A5, c5, A8, c8, A13, c13, hx, hl1, hl2, hl3, h5, h8, h13⟩ := hM2
    have HXA : Aside0 (∀ v : Int, MsgAt lo (w2.setCell ⟨g, 11, none⟩ (.int .u32 v)) g G' { m with stripe := v }) := ⟨fun v => ⟨A5, c5, A8, c8, A13, c13, hx.set 11 _, hl1, hl2, hl3, F_set h5 _, F_set h8 _, F_set h13 _⟩⟩
    have p : w2.cell? ⟨g, 11, none⟩ = some (.int .u32 m.stripe) := (hx.cell 11).trans rfl
    have pf : w2.frozen? ⟨g, 11, none⟩ = false := hx.free 11
    have hxl2 := hx.lt
    have HG := Aside0.mk hG'
    have HT := Aside0.mk hT'
    have HC2 := Aside0.mk hC2
    have HGG := Aside0.mk hgG
    have hv := HV.out r S' rfl
    have hw2 : IntKind.u32.wrap (val r) = val r := by rw [IntKind.wrap_u32]; omega
    clear hv
    clear hG' hT' hC2 hx hl1 hl2 hl3 h5 h8 h13 hgG HM
    go_wp2_with fail
    rw [HE.out]
    refine bodyPost_end (results_none rfl _ _ _) rfl ?_
    exact EndsM.right HG.out HT.out HGG.out hb HC2.out (HXA.out _)

set_option maxHeartbeats 2000000 in
theorem codeM_any {w : World} {base b g : Nat} {G : Nat → Prop} {S : St} {m : Msg} (h : Cod w base G b S) (hM : MsgAt lo w g G m) (hg : ¬ G g) (hb : base ≤ g) (hS : OkS S) (h0 : 0 ≤ m.code) (hn : m.code < 65536) :
    Calls Try.prog 47 #[.pointer (some ⟨b, 0, none⟩), .pointer (some ⟨g, 0, none⟩)] w fun e w' => EndsM lo w base G b g (thenS (numS S m.code 2) fun v => { m with code := v }) e w' := by
  have HN := Aside0.mk (number_any h hS m.code h0 (by omega) 2 (by omega) (by omega))
  have HM := Aside0.mk hM
  have HSO := Aside0.mk hS
  have hw1 : IntKind.u64.wrap m.code = m.code := by rw [IntKind.wrap_u64]; omega
  obtain ⟨A5, c5, A8, c8, A13, c13, hx, hl1, hl2, hl3, h5, h8, h13⟩ := hM
  have hxl := hx.lt
  have HXF : Aside0 (g < w.heap.size) := ⟨hxl⟩
  have p : w.cell? ⟨g, 12, none⟩ = some (.int .i64 m.code) := (hx.cell 12).trans rfl
  have HE := Aside0.mk (numS.eq_def S m.code 2)
  clear h hS hx hl1 hl2 hl3 h5 h8 h13
  obtain ⟨x, hx⟩ : ∃ x, step S (be m.code 2) 2 = x := ⟨_, rfl⟩
  have HV : Aside0 (∀ r S', x = .ok (r, S') → 0 ≤ val r ∧ val r < 256 ^ 2) := ⟨fun r S' e => by
    have hq := step_ok HSO.out (be_range m.code 2) (be_len m.code 2) (by rw [hx, e])
    have := val_range hq.2 r.length (Nat.le_refl _)
    rwa [List.take_length, hq.1] at this⟩
  rw [hx] at HN HE
  clear hx
  generalize numS S m.code 2 = X at HE ⊢
  go_enter Try.func47, Try.ntmps47
  go_wp2_with fail
  refine HN.out.mono ?_
  clear HN p
  cases x with
  | error x =>
    rintro e w2 ⟨G', hG', hT', he⟩
    have he2 : e = .panicked [{ v := .iface 63 (.agg #[.int .i64 x]), recovered := false }] := he
    subst he2
    clear he
    have HG := Aside0.mk hG'
    have HT := Aside0.mk hT'
    clear hG' hT'
    go_wp2_with fail
    rw [HE.out]
    exact ⟨rfl, EndsM.wrong (HM.out.blk14 hg) HG.out HT.out⟩
  | ok x =>
    obtain ⟨r, S'⟩ := x
    rintro e w2 ⟨G', hG', hT', rfl, hC2⟩
    have hgG : ¬ G' g := fun h => (hG' g h).elim hg (fun h => by have := HXF.out; omega)
    have hM2 := HM.out.turn hg hT' hG'
    obtain ⟨A5, c5, A8, c8, A13, c13, hx, hl1, hl2, hl3, h5, h8, h13⟩ := hM2
    have HXA : Aside0 (∀ v : Int, MsgAt lo (w2.setCell ⟨g, 12, none⟩ (.int .i64 v)) g G' { m with code := v }) := ⟨fun v => ⟨A5, c5, A8, c8, A13, c13, hx.set 12 _, hl1, hl2, hl3, F_set h5 _, F_set h8 _, F_set h13 _⟩⟩
    have p : w2.cell? ⟨g, 12, none⟩ = some (.int .i64 m.code) := (hx.cell 12).trans rfl
    have pf : w2.frozen? ⟨g, 12, none⟩ = false := hx.free 12
    have hxl2 := hx.lt
    have HG := Aside0.mk hG'
    have HT := Aside0.mk hT'
    have HC2 := Aside0.mk hC2
    have HGG := Aside0.mk hgG
    have hv := HV.out r S' rfl
    have hw2 : IntKind.i64.wrap (val r) = val r := by exact IntWalk.i64_in _ (by omega)
    clear hv
    clear hG' hT' hC2 hx hl1 hl2 hl3 h5 h8 h13 hgG HM
    go_wp2_with fail
    rw [HE.out]
    refine bodyPost_end (results_none rfl _ _ _) rfl ?_
    exact EndsM.right HG.out HT.out HGG.out hb HC2.out (HXA.out _)

set_option maxHeartbeats 2000000 in
theorem opM_any {w : World} {base b g : Nat} {G : Nat → Prop} {S : St} {m : Msg} (h : Cod w base G b S) (hM : MsgAt lo w g G m) (hg : ¬ G g) (hb : base ≤ g) (hS : OkS S) (h0 : 0 ≤ m.op) (hn : m.op ≤ 4611686018427387904) :
    Calls Try.prog 38 #[.pointer (some ⟨b, 0, none⟩), .pointer (some ⟨g, 0, none⟩)] w fun e w' => EndsM lo w base G b g (thenS (countS S m.op 1 64 1) fun v => { m with op := v }) e w' := by
  have HN := Aside0.mk (count_any h hS m.op h0 hn 1 (by omega) (by omega) 64 1 (by omega) (by omega))
  have HM := Aside0.mk hM
  obtain ⟨A5, c5, A8, c8, A13, c13, hx, hl1, hl2, hl3, h5, h8, h13⟩ := hM
  have hxl := hx.lt
  have HXF : Aside0 (g < w.heap.size) := ⟨hxl⟩
  have p : w.cell? ⟨g, 3, none⟩ = some (.int .i64 m.op) := (hx.cell 3).trans rfl
  have HE := Aside0.mk ((rfl : countS S m.op 1 64 1 = countS S m.op 1 64 1))
  clear h hS hx hl1 hl2 hl3 h5 h8 h13
  obtain ⟨x, hx⟩ : ∃ x, countS S m.op 1 64 1 = x := ⟨_, rfl⟩
  rw [hx] at HN ⊢
  clear hx HE
  go_enter Try.func38, Try.ntmps38
  go_wp2_with fail
  refine HN.out.mono ?_
  clear HN p
  cases x with
  | error x =>
    rintro e w2 ⟨G', hG', hT', he⟩
    have he2 : e = .panicked [{ v := .iface 63 (.agg #[.int .i64 x]), recovered := false }] := he
    subst he2
    clear he
    have HG := Aside0.mk hG'
    have HT := Aside0.mk hT'
    clear hG' hT'
    go_wp2_with fail
    exact ⟨rfl, EndsM.wrong (HM.out.blk14 hg) HG.out HT.out⟩
  | ok x =>
    obtain ⟨r, S'⟩ := x
    rintro e w2 ⟨G', hG', hT', rfl, hC2⟩
    have hgG : ¬ G' g := fun h => (hG' g h).elim hg (fun h => by have := HXF.out; omega)
    have hM2 := HM.out.turn hg hT' hG'
    obtain ⟨A5, c5, A8, c8, A13, c13, hx, hl1, hl2, hl3, h5, h8, h13⟩ := hM2
    have HXA : Aside0 (∀ v : Int, MsgAt lo (w2.setCell ⟨g, 3, none⟩ (.int .i64 v)) g G' { m with op := v }) := ⟨fun v => ⟨A5, c5, A8, c8, A13, c13, hx.set 3 _, hl1, hl2, hl3, F_set h5 _, F_set h8 _, F_set h13 _⟩⟩
    have p : w2.cell? ⟨g, 3, none⟩ = some (.int .i64 m.op) := (hx.cell 3).trans rfl
    have pf : w2.frozen? ⟨g, 3, none⟩ = false := hx.free 3
    have hxl2 := hx.lt
    have HG := Aside0.mk hG'
    have HT := Aside0.mk hT'
    have HC2 := Aside0.mk hC2
    have HGG := Aside0.mk hgG
    clear hG' hT' hC2 hx hl1 hl2 hl3 h5 h8 h13 hgG HM
    go_wp2_with fail
    refine bodyPost_end (results_none rfl _ _ _) rfl ?_
    exact EndsM.right HG.out HT.out HGG.out hb HC2.out (HXA.out _)

set_option maxHeartbeats 2000000 in
theorem commitM_any {w : World} {base b g : Nat} {G : Nat → Prop} {S : St} {m : Msg} (h : Cod w base G b S) (hM : MsgAt lo w g G m) (hg : ¬ G g) (hb : base ≤ g) (hS : OkS S) (h0 : 0 ≤ m.commit) (hn : m.commit ≤ 4611686018427387904) :
    Calls Try.prog 39 #[.pointer (some ⟨b, 0, none⟩), .pointer (some ⟨g, 0, none⟩)] w fun e w' => EndsM lo w base G b g (thenS (countS S m.commit 1 64 1) fun v => { m with commit := v }) e w' := by
  have HN := Aside0.mk (count_any h hS m.commit h0 hn 1 (by omega) (by omega) 64 1 (by omega) (by omega))
  have HM := Aside0.mk hM
  obtain ⟨A5, c5, A8, c8, A13, c13, hx, hl1, hl2, hl3, h5, h8, h13⟩ := hM
  have hxl := hx.lt
  have HXF : Aside0 (g < w.heap.size) := ⟨hxl⟩
  have p : w.cell? ⟨g, 4, none⟩ = some (.int .i64 m.commit) := (hx.cell 4).trans rfl
  have HE := Aside0.mk ((rfl : countS S m.commit 1 64 1 = countS S m.commit 1 64 1))
  clear h hS hx hl1 hl2 hl3 h5 h8 h13
  obtain ⟨x, hx⟩ : ∃ x, countS S m.commit 1 64 1 = x := ⟨_, rfl⟩
  rw [hx] at HN ⊢
  clear hx HE
  go_enter Try.func39, Try.ntmps39
  go_wp2_with fail
  refine HN.out.mono ?_
  clear HN p
  cases x with
  | error x =>
    rintro e w2 ⟨G', hG', hT', he⟩
    have he2 : e = .panicked [{ v := .iface 63 (.agg #[.int .i64 x]), recovered := false }] := he
    subst he2
    clear he
    have HG := Aside0.mk hG'
    have HT := Aside0.mk hT'
    clear hG' hT'
    go_wp2_with fail
    exact ⟨rfl, EndsM.wrong (HM.out.blk14 hg) HG.out HT.out⟩
  | ok x =>
    obtain ⟨r, S'⟩ := x
    rintro e w2 ⟨G', hG', hT', rfl, hC2⟩
    have hgG : ¬ G' g := fun h => (hG' g h).elim hg (fun h => by have := HXF.out; omega)
    have hM2 := HM.out.turn hg hT' hG'
    obtain ⟨A5, c5, A8, c8, A13, c13, hx, hl1, hl2, hl3, h5, h8, h13⟩ := hM2
    have HXA : Aside0 (∀ v : Int, MsgAt lo (w2.setCell ⟨g, 4, none⟩ (.int .i64 v)) g G' { m with commit := v }) := ⟨fun v => ⟨A5, c5, A8, c8, A13, c13, hx.set 4 _, hl1, hl2, hl3, F_set h5 _, F_set h8 _, F_set h13 _⟩⟩
    have p : w2.cell? ⟨g, 4, none⟩ = some (.int .i64 m.commit) := (hx.cell 4).trans rfl
    have pf : w2.frozen? ⟨g, 4, none⟩ = false := hx.free 4
    have hxl2 := hx.lt
    have HG := Aside0.mk hG'
    have HT := Aside0.mk hT'
    have HC2 := Aside0.mk hC2
    have HGG := Aside0.mk hgG
    clear hG' hT' hC2 hx hl1 hl2 hl3 h5 h8 h13 hgG HM
    go_wp2_with fail
    refine bodyPost_end (results_none rfl _ _ _) rfl ?_
    exact EndsM.right HG.out HT.out HGG.out hb HC2.out (HXA.out _)

end Go.Proofs.Ytmjbdeoomohanaa.Mine

/- wire: body. -/
set_option linter.unusedSimpArgs false
set_option linter.unusedVariables false
namespace Go.Proofs.Ytmjbdeoomohanaa.Mine
open Go.RowKit Go.Maps Go.Proofs.YtmjbdeoomohanaaW.PrintWords Go.Proofs.YtmjbdeoomohanaaW.PrintLast Go.Proofs.YtmjbdeoomohanaaW.PrintMore Go.Proofs.Ytmjbdeoomohanaa.PWirePacks Go.Proofs.Ytmjbdeoomohanaa.Turn
variable {lo : Nat}

set_option maxHeartbeats 2000000 in
theorem bodyM_any {w : World} {base b g : Nat} {G : Nat → Prop} {S : St} {m : Msg} (h : Cod w base G b S) (hM : MsgAt lo w g G m) (hg : ¬ G g) (hb : base ≤ g) {N : Nat} (hS : OkT N S) (hN : N ≤ 549755813888) (hn : m.body.length ≤ 549755813888) :
    Calls Try.prog 43 #[.pointer (some ⟨b, 0, none⟩), .pointer (some ⟨g, 0, none⟩)] w fun e w' => EndsM lo w base G b g (thenS (textS S m.body) fun v => { m with body := v }) e w' := by
  have HM := Aside0.mk hM
  obtain ⟨A5, c5, A8, c8, A13, c13, hx, hl1, hl2, hl3, h5, h8, h13⟩ := hM
  have hxl := hx.lt
  have HXF : Aside0 (g < w.heap.size) := ⟨hxl⟩
  have HN := Aside0.mk (text_any h hS hN A8 c8 m.body hl2 hn h8)
  have p : w.cell? ⟨g, 8, none⟩ = some (.slice A8 m.body.length c8) := (hx.cell 8).trans rfl
  clear h hS hx hl1 hl2 hl3 h5 h8 h13
  obtain ⟨x, hx⟩ : ∃ x, textS S m.body = x := ⟨_, rfl⟩
  rw [hx] at HN ⊢
  clear hx
  go_enter Try.func43, Try.ntmps43
  go_wp2_with fail
  refine HN.out.mono ?_
  clear HN p
  cases x with
  | error x =>
    rintro e w2 ⟨G', hG', hT', he⟩
    have he2 : e = .panicked [{ v := .iface 63 (.agg #[.int .i64 x]), recovered := false }] := he
    subst he2
    clear he
    have HG := Aside0.mk hG'
    have HT := Aside0.mk hT'
    clear hG' hT'
    go_wp2_with fail
    exact ⟨rfl, EndsM.wrong (HM.out.blk14 hg) HG.out HT.out⟩
  | ok x =>
    obtain ⟨r, S'⟩ := x
    rintro e w2 ⟨G', hG', hT', ⟨A3, c3, rfl, hc3, hF3⟩, hC2⟩
    have hgG : ¬ G' g := fun h => (hG' g h).elim hg (fun h => by have := HXF.out; omega)
    have hM2 := HM.out.turn hg hT' hG'
    obtain ⟨A5, c5, A8, c8, A13, c13, hx, hl1, hl2, hl3, h5, h8, h13⟩ := hM2
    have hF4 : Kd.F (Kd.int .u8) w2 (fun k => ¬ G' k ∧ Off lo g k) A3 r.length r := Kd.F_mono hF3 (fun k hk => ⟨hk.1, hk.2.elim id (fun h => by have := HXF.out; omega)⟩)
    have HXA : Aside0 (MsgAt lo (w2.setCell ⟨g, 8, none⟩ (.slice A3 r.length c3)) g G' { m with body := r }) := ⟨⟨A5, c5, A3, c3, A13, c13, hx.set 8 _, hl1, hc3, hl3, F_set h5 _, F_set hF4 _, F_set h13 _⟩⟩
    have p : w2.cell? ⟨g, 8, none⟩ = some (.slice A8 m.body.length c8) := (hx.cell 8).trans rfl
    have pf : w2.frozen? ⟨g, 8, none⟩ = false := hx.free 8
    have hxl2 := hx.lt
    have HG := Aside0.mk hG'
    have HT := Aside0.mk hT'
    have HC2 := Aside0.mk hC2
    have HGG := Aside0.mk hgG
    clear hG' hT' hC2 hx hl1 hl2 hl3 h5 h8 h13 hgG HM hF3 hF4
    go_wp2_with fail
    refine bodyPost_end (results_none rfl _ _ _) rfl ?_
    exact EndsM.right HG.out HT.out HGG.out hb HC2.out HXA.out
end Go.Proofs.Ytmjbdeoomohanaa.Mine

/- wire: the builtin copy into a row of one's own whose elements share. -/
set_option linter.unusedSimpArgs false
set_option linter.unusedVariables false
namespace Go.Proofs.Ytmjbdeoomohanaa.Mine
open Go.RowKit Go.Maps Go.Proofs.YtmjbdeoomohanaaW.PrintWords Go.Proofs.YtmjbdeoomohanaaW.PrintLast Go.Proofs.YtmjbdeoomohanaaW.PrintMore Go.Proofs.Ytmjbdeoomohanaa.PWirePacks Go.Proofs.Ytmjbdeoomohanaa.Turn

section
variable {V : Type} {sz : Nat}
theorem flat_len : ∀ (rows : List (List V)), (∀ r ∈ rows, r.length = sz) → rows.flatten.length = rows.length * sz
  | [], _ => by simp
  | r :: rs, h => by
    rw [List.flatten_cons, List.length_append, flat_len rs (fun x hx => h x (List.mem_cons_of_mem _ hx)), h r List.mem_cons_self, List.length_cons, Nat.add_mul]
    omega
theorem flat_drop : ∀ (rows : List (List V)) (j : Nat), (∀ r ∈ rows, r.length = sz) → rows.flatten.drop (j * sz) = (rows.drop j).flatten
  | [], j, _ => by simp
  | r :: rs, 0, h => by simp
  | r :: rs, j + 1, h => by
    have hr := h r List.mem_cons_self
    rw [List.flatten_cons, List.drop_succ_cons, ← flat_drop rs j (fun x hx => h x (List.mem_cons_of_mem _ hx)), Nat.add_mul, Nat.one_mul, Nat.add_comm, ← List.drop_drop, List.drop_left' hr]
theorem flat_at (rows : List (List V)) (h : ∀ r ∈ rows, r.length = sz) {j i : Nat} {r : List V} (hj : rows[j]? = some r) (hi : i < sz) : rows.flatten[j * sz + i]? = r[i]? := by
  obtain ⟨hl, rfl⟩ := List.getElem?_eq_some_iff.1 hj
  rw [← List.getElem?_drop, flat_drop rows j h, List.drop_eq_getElem_cons hl, List.flatten_cons, List.getElem?_append_left (by rw [h _ (List.getElem_mem hl)]; exact hi)]
end

def rawR (sz : Nat) : List Value → List Value → Prop := fun x cs => cs = x ∧ cs.length = sz ∧ ∀ u ∈ cs, u.oneCell' = true
theorem flat_of_reps {sz : Nat} : ∀ {rows : List (List Value)} {inner : List Value}, Reps (rawR sz) sz rows inner → inner = rows.flatten ∧ ∀ r ∈ rows, r.length = sz ∧ ∀ u ∈ r, u.oneCell' = true
  | [], inner, h => by
    have := h.1
    simp at this
    exact ⟨by rw [this]; rfl, fun r hr => by cases hr⟩
  | r :: rs, inner, h => by
    have h0 := h.2 0 r rfl
    rw [Nat.zero_mul, List.drop_zero] at h0
    have ht : Reps (rawR sz) sz rs (inner.drop sz) := by
      refine ⟨by rw [List.length_drop, h.1, List.length_cons, Nat.add_mul]; omega, fun j p hj => ?_⟩
      have := h.2 (j + 1) p hj
      rwa [Nat.add_mul, Nat.one_mul, Nat.add_comm, ← List.drop_drop] at this
    obtain ⟨e, hr⟩ := flat_of_reps ht
    obtain ⟨h1, h2, h3⟩ := h0
    rw [h1] at h2 h3
    refine ⟨?_, fun x hx => ?_⟩
    · rw [List.flatten_cons, ← e, ← h1, List.take_append_drop]
    · rcases List.mem_cons.1 hx with rfl | hx
      · exact ⟨h2, h3⟩
      · exact hr x hx
theorem reps_flat {sz : Nat} (rows : List (List Value)) (h : ∀ r ∈ rows, r.length = sz ∧ ∀ u ∈ r, u.oneCell' = true) : Reps (rawR sz) sz rows rows.flatten := by
  refine ⟨flat_len rows (fun r hr => (h r hr).1), fun j p hj => ?_⟩
  obtain ⟨hl, rfl⟩ := List.getElem?_eq_some_iff.1 hj
  have hm := h _ (List.getElem_mem hl)
  rw [flat_drop rows j (fun r hr => (h r hr).1), List.drop_eq_getElem_cons hl, List.flatten_cons, List.take_left' hm.1]
  exact ⟨rfl, hm⟩

theorem N_copied {α : Type} {d : Kd α} {e base n cap g m : Nat} {ok okp : Nat → Prop} {W : World} {zs ys : List α} {A : Option Addr} (hs0 : 0 < d.sz) (hN : Kd.N d e W base ok (.slice (some ⟨g, 0, none⟩) n cap) zs) (hF : Kd.F d W okp A m ys) (hokp : ∀ k, okp k → ok k ∧ k ≠ g) :
    ∃ (cur : Array Value) (cs : List Value), W.heap[g]? = some (.cells cur e (0, 0)) ∧ cs.length = Nat.min m n * d.sz ∧ (0 < m → ∃ ad, A = some ad ∧ ∀ j v, cs[j]? = some v → W.cell? (ad.add j) = some v) ∧ cs.length ≤ cur.size ∧ (∀ v ∈ cs, v.oneCell' = true) ∧
      Kd.N d e (W.setRow g (cs ++ cur.toList.drop cs.length).toArray) base ok (.slice (some ⟨g, 0, none⟩) n cap) (ys.take n ++ zs.drop m) := by
  obtain ⟨hown, rows, hl, ⟨h0, inner, hO, hR⟩, hf⟩ := hN
  obtain ⟨hxl, hO⟩ := hO
  rcases hO with ⟨h, _⟩ | ⟨g', cap', cur, hv, hb, hh, hnc, hcm, hsz, htk⟩
  · cases h
  simp only [Value.slice.injEq, Option.some.injEq, Addr.mk.injEq, true_and, and_true] at hv
  obtain ⟨rfl, rfl, rfl⟩ := hv
  obtain ⟨hin, hrow⟩ := flat_of_reps hR
  obtain ⟨news, hnl, hnr, hnf⟩ := Kd.reads_raw (Kd.F_rows hF) (fun y c hk => ⟨d.K_len (Kd.FK_now hk), d.K_one (Kd.FK_now hk)⟩)
  have hym : ys.length = m := Kd.F_len hF
  have hnew : ∀ r ∈ news, r.length = d.sz ∧ ∀ u ∈ r, u.oneCell' = true := by
    intro r hr
    obtain ⟨j, hj, rfl⟩ := List.mem_iff_getElem.1 hr
    have hk := hnf j _ _ (List.getElem?_eq_getElem (by omega)) (List.getElem?_eq_getElem hj)
    exact ⟨d.K_len (Kd.FK_now hk), d.K_one (Kd.FK_now hk)⟩
  have htake : ∀ r ∈ news.take rows.length, r.length = d.sz ∧ ∀ u ∈ r, u.oneCell' = true := fun r hr => hnew r (List.mem_of_mem_take hr)
  have hlen : (news.take rows.length).flatten.length = Nat.min m rows.length * d.sz := by
    rw [flat_len _ (fun r hr => (htake r hr).1), List.length_take, hnl, hym, Nat.min_comm]
  have hmn : Nat.min m rows.length * d.sz ≤ rows.length * d.sz := Nat.mul_le_mul_right _ (Nat.min_le_right _ _)
  have hcs : rows.length * d.sz ≤ cap * d.sz := Nat.mul_le_mul_right _ hnc
  have hsz : cur.size = cap * d.sz := hsz
  have htk : cur.toList.take (rows.length * d.sz) = inner := htk
  have hrl : (news.take rows.length ++ rows.drop m).length = rows.length := by
    rw [List.length_append, List.length_take, List.length_drop, hnl, hym]
    omega
  have hrow' : ∀ r ∈ news.take rows.length ++ rows.drop m, r.length = d.sz ∧ ∀ u ∈ r, u.oneCell' = true := fun r hr => (List.mem_append.1 hr).elim (htake r) (fun h => hrow r (List.mem_of_mem_drop h))
  have hfl : (news.take rows.length).flatten ++ (rows.drop m).flatten = (news.take rows.length ++ rows.drop m).flatten := List.flatten_append.symm
  have hfll : ((news.take rows.length).flatten ++ (rows.drop m).flatten).length = rows.length * d.sz := by
    rw [hfl, flat_len _ (fun r hr => (hrow' r hr).1), hrl]
  have hrd : (rows.drop m).flatten = (cur.toList.drop (news.take rows.length).flatten.length).take (rows.length * d.sz - (news.take rows.length).flatten.length) := by
    rw [← List.drop_take, htk, hin, hlen, flat_drop _ _ (fun r hr => (hrow r hr).1)]
    by_cases hmr : m ≤ rows.length
    · rw [show Nat.min m rows.length = m from Nat.min_eq_left hmr]
    · rw [show Nat.min m rows.length = rows.length from Nat.min_eq_right (by omega), List.drop_eq_nil_of_le (by omega), List.drop_eq_nil_of_le (Nat.le_refl _)]
  refine ⟨cur, (news.take rows.length).flatten, hh, hlen, fun hm => ?_, by rw [hlen, hsz]; omega, ?_, fun k hk => hown k hk, news.take rows.length ++ rows.drop m, ?_, ⟨fun k hk => hk.symm, (news.take rows.length).flatten ++ (rows.drop m).flatten, ⟨?_, .inr ⟨g, cap, _, ?_, hb, setRow_heap W g cur _ e _ hh, ?_, hcm, ?_, ?_⟩⟩, ?_⟩, ?_⟩
  · obtain ⟨ad, rfl, hq⟩ := hnr.2.2 hm
    refine ⟨ad, rfl, fun q v hv => ?_⟩
    have hql := (List.getElem?_eq_some_iff.1 hv).1
    rw [hlen] at hql
    have hj : q / d.sz < Nat.min m rows.length := Nat.div_lt_of_lt_mul (by rw [Nat.mul_comm]; exact hql)
    have hi := Nat.mod_lt q hs0
    have hj1 : q / d.sz < m := Nat.lt_of_lt_of_le hj (Nat.min_le_left _ _)
    have hj2 : q / d.sz < rows.length := Nat.lt_of_lt_of_le hj (Nat.min_le_right _ _)
    have hjn : news[q / d.sz]? = some (news[q / d.sz]'(by omega)) := List.getElem?_eq_getElem (by omega)
    have hjt : (news.take rows.length)[q / d.sz]? = some (news[q / d.sz]'(by omega)) := by rw [List.getElem?_take_of_lt hj2]; exact hjn
    have h1 := flat_at _ (fun r hr => (htake r hr).1) hjt hi
    have hqq : q / d.sz * d.sz + q % d.sz = q := Nat.div_add_mod' q d.sz
    rw [hqq, hv] at h1
    obtain ⟨c, hc1, ⟨hc2, _⟩, hc3⟩ := hq _ _ hjn
    have h2 := hc3 (q % d.sz) v (by rw [hc2]; exact h1.symm)
    rwa [hqq] at h2
  · intro v hv
    obtain ⟨r, hr, hvr⟩ := List.mem_flatten.1 hv
    exact (htake r hr).2 v hvr
  · rw [hrl, List.length_append, List.length_take, List.length_drop]
    omega
  · rw [hrl]; exact hfll
  · rw [hrl]
  · rw [hrl]; exact hnc
  · simp only [List.size_toArray, List.length_append, List.length_drop, Array.length_toList]
    change _ = cap * d.sz
    rw [hlen, hsz]
    omega
  · rw [hrl]
    change List.take (rows.length * d.sz) _ = _
    rw [hrd, List.take_append, List.take_of_length_le (by rw [hlen]; exact hmn)]
  · rw [hfl]; exact reps_flat _ hrow'
  · intro j x c hx hc
    have hgo : ∀ a b : Nat, (Value.slice (some ⟨g, 0, none⟩) a b).ownBlock = some g := fun a b => by simp [Value.ownBlock]
    have hlt : (ys.take rows.length).length = (news.take rows.length).length := by rw [List.length_take, List.length_take, hnl]
    by_cases hj : j < (news.take rows.length).length
    · rw [List.getElem?_append_left (by omega)] at hx
      rw [List.getElem?_append_left hj] at hc
      have hjr : j < rows.length := by rw [List.length_take] at hj; omega
      rw [List.getElem?_take_of_lt hjr] at hx hc
      refine Kd.FK_mono (Kd.FK_step (hnf j x c hx hc) (fun k hk _ => setRow_other W g k _ (hokp k hk).2)) (fun k hk => ⟨(hokp k hk).1, fun he => (hokp k hk).2 ?_⟩)
      rw [hgo] at he
      exact Option.some.inj he
    · rw [List.getElem?_append_right (by omega), List.getElem?_drop] at hx
      rw [List.getElem?_append_right (by omega), List.getElem?_drop] at hc
      rw [hlt] at hx
      refine Kd.FK_step (hf _ x c hx hc) (fun k hk _ => setRow_other W g k _ (fun he => hk.2 ?_))
      rw [hgo, he]
theorem run_copy_none {P : Program} (w : World) (dT sT ty elem : TypeId) (i : TypeInfo) (hu : P.underlying dT = some (.slice elem)) (hi : P.info? elem = some i) (D : Option Addr) (n cap c : Nat) :
    (Builtin.copy_ #[dT, sT] ty #[.slice D n cap, .slice none 0 c]).run P w = .ok (goInt 0) w := by
  cases D <;> simp [Builtin.copy_, Builtin.firstCells, storeCells, run_underlying hu, sizeOf, typeInfo, hi, Builtin.lenOf, Result.andThen]

theorem step_copy_N {α : Type} {P : Program} {ops : Array Oper} {o : Oper} {a : Act} {W : World} {K : Act → World → Prop} {Q : Exit → Act → World → Prop} {E : Prop} (d : Kd α)
    (hgd : o.guard = none) (x y : Operand) (dT sT : TypeId) (ho : o.op = .call { callee := .builtin .copy, args := #[x, y], argTypes := #[dT, sT] }) (e : TypeId) (hu : P.underlying dT = some (.slice e)) (hsz : (P.info? e).map (·.size) = some d.sz) (hs0 : 0 < d.sz)
    {base n cap g m c : Nat} {ok okp : Nat → Prop} {zs ys : List α} {A : Option Addr} (hx : a.eval x = .slice (some ⟨g, 0, none⟩) n cap) (hy : a.eval y = .slice A m c)
    (hN : Kd.N d e W base ok (.slice (some ⟨g, 0, none⟩) n cap) zs) (hF : Kd.F d W okp A m ys) (hokp : ∀ k, okp k → ok k ∧ k ≠ g)
    (hK : ∀ w', Kd.N d e w' base ok (.slice (some ⟨g, 0, none⟩) n cap) (ys.take n ++ zs.drop m) → Turned (fun k => k = g) W w' → K (a.put o.dst (goInt (Nat.min m n))) w') :
    if Region.wanted o (yielded ops a.tmps) = true then Oper.wp P o a W K Q else E := by
  obtain ⟨cur, cs, hg, hcl, hsrc, hfit, h1, hN'⟩ := N_copied hs0 hN hF hokp
  rcases A with _ | ad
  · have hm0 : m = 0 := by
      rcases Nat.eq_zero_or_pos m with h | h
      · exact h
      · obtain ⟨ad, e, _⟩ := hsrc h
        cases e
    subst hm0
    have hys : ys = [] := List.eq_nil_of_length_eq_zero (Kd.F_len hF)
    subst hys
    have hw : Region.wanted o (yielded ops a.tmps) = true := by simp [Region.wanted, hgd]
    rw [if_pos hw]
    obtain ⟨i, hi, _⟩ := Option.map_eq_some_iff.1 hsz
    have hrun := run_copy_none (P := P) W dT sT o.type e i hu hi (some ⟨g, 0, none⟩) n cap c
    have hk := hK W (by simpa using hN) (Turned.refl _ W)
    rw [show Nat.min 0 n = 0 from Nat.zero_min n] at hk
    unfold Oper.wp
    simp [execOp, ho, resolve, invoke, builtin, hx, hy, hrun, Result.andThen]
    exact hk
  · refine step_copy_cells hgd x y dT sT ho e d.sz hu hsz g 0 n cap ad m c hx hy cur e hg cs hcl ?_ (by simpa using hfit) h1 ?_
    · intro j v hj
      rcases Nat.eq_zero_or_pos m with h | h
      · subst h
        rw [show Nat.min 0 n = 0 from Nat.zero_min n, Nat.zero_mul] at hcl
        rw [List.eq_nil_of_length_eq_zero hcl] at hj
        simp at hj
      · obtain ⟨ad', e', h2⟩ := hsrc h
        cases e'
        exact h2 j v hj
    · have := hK _ hN' ((Turned.refl (fun k => k = g) W).setRow (.inl rfl) _)
      simpa using this
end Go.Proofs.Ytmjbdeoomohanaa.Mine

/- wire: a made row; what blocks does. -/
set_option linter.unusedSimpArgs false
set_option linter.unusedVariables false
namespace Go.Proofs.Ytmjbdeoomohanaa.Mine
open Go.RowKit Go.Maps Go.Proofs.YtmjbdeoomohanaaW.PrintWords Go.Proofs.YtmjbdeoomohanaaW.PrintLast Go.Proofs.YtmjbdeoomohanaaW.PrintMore Go.Proofs.Ytmjbdeoomohanaa.PWirePacks Go.Proofs.Ytmjbdeoomohanaa.Turn
variable {lo : Nat}

theorem made_flat (z : Array Value) (n : Nat) (hz : 0 < z.size) : (madeCells z (n * z.size)).toList = (List.replicate n z.toList).flatten := by
  have hl : ∀ r ∈ List.replicate n z.toList, r.length = z.size := fun r hr => by rw [List.eq_of_mem_replicate hr]; simp
  apply List.ext_getElem?
  intro q
  by_cases hq : q < n * z.size
  · have hj : q / z.size < n := Nat.div_lt_of_lt_mul (by rw [Nat.mul_comm]; exact hq)
    have hm := Nat.mod_lt q hz
    have h1 := flat_at (List.replicate n z.toList) hl (j := q / z.size) (i := q % z.size) (r := z.toList) (by simp [hj]) hm
    rw [Nat.div_add_mod'] at h1
    rw [h1]
    simp [madeCells, hq, hm]
  · rw [List.getElem?_eq_none (by simp [madeCells]; omega), List.getElem?_eq_none (by rw [flat_len _ hl, List.length_replicate]; omega)]

theorem N_new {α : Type} (d : Kd α) (e : Nat) {base : Nat} {ok : Nat → Prop} (W : World) (n : Nat) (z : Array Value) (z0 : α) (hz : z.size = d.sz) (hs0 : 0 < d.sz) (hzero : Kd.FK d W (fun _ => False) z0 z.toList) (hok : ok W.heap.size) (hb : base ≤ W.heap.size) (hn : n ≤ 9223372036854775807) :
    Kd.N d e (W.alloc (.cells (madeCells z (n * d.sz)) e)) base ok (.slice (some ⟨W.heap.size, 0, none⟩) n n) (List.replicate n z0) := by
  have hone := Kd.FK_now hzero
  have hrow : ∀ r ∈ List.replicate n z.toList, r.length = d.sz ∧ ∀ u ∈ r, u.oneCell' = true := fun r hr => by
    rw [List.eq_of_mem_replicate hr]
    exact ⟨d.K_len hone, d.K_one hone⟩
  have hmf : (madeCells z (n * d.sz)).toList = (List.replicate n z.toList).flatten := by rw [← hz]; exact made_flat z n (by omega)
  have hbl : (W.alloc (.cells (madeCells z (n * d.sz)) e)).heap[W.heap.size]? = some (.cells (madeCells z (n * d.sz)) e (0, 0)) := Blk.new W _ e
  refine ⟨fun k hk => by simp [Value.ownBlock] at hk; rw [← hk]; exact hok, List.replicate n z.toList, by rw [List.length_replicate, List.length_replicate], ⟨fun k hk => hk.symm, (List.replicate n z.toList).flatten, ⟨?_, .inr ⟨W.heap.size, n, _, ?_, hb, hbl, ?_, hn, ?_, ?_⟩⟩, reps_flat _ hrow⟩, ?_⟩
  · exact flat_len _ (fun r hr => (hrow r hr).1)
  · rw [List.length_replicate]
  · rw [List.length_replicate]; exact Nat.le_refl _
  · rw [size_madeCells]; rfl
  · rw [List.length_replicate]
    rw [List.take_of_length_le (by rw [Array.length_toList, size_madeCells]; exact Nat.le_refl _), hmf]
  · intro j x c hx hc
    have hx2 := List.eq_of_mem_replicate (List.mem_of_getElem? hx)
    have hc2 := List.eq_of_mem_replicate (List.mem_of_getElem? hc)
    rw [hx2, hc2]
    exact Kd.FK_mono (Kd.FK_step hzero (fun _ hk => hk.elim)) (fun _ hk => hk.elim)

theorem N_turn {α : Type} {d : Kd α} {e base g : Nat} {w w' : World} {G G' : Nat → Prop} {v : Value} {xs : List α} (hg : g < w.heap.size) (h : Kd.N d e w base (fun k => ¬ G k ∧ Off lo g k) v xs) (ht : Turned G w w') (hG : ∀ k, G' k → G k ∨ w.heap.size ≤ k) : Kd.N d e w' base (fun k => ¬ G' k ∧ Off lo g k) v xs :=
  Kd.N_mono (Kd.N_step (Kd.N_bound h) (fun k hk hlt => ht.block k hlt hk.1.1)) (fun k hk => ⟨fun hq => (hG k hq).elim hk.1.1 (fun h2 => by have := hk.2; omega), hk.1.2⟩)

theorem run_make_27 (n : Nat) (hn : n ≤ 65536) (W : World) : (Instr.makeSlice 27 (.int .i64 n) (.int .i64 n)).run Try.prog W = .ok (.slice (some ⟨W.heap.size, 0, none⟩) n n) (W.alloc (.cells (madeCells #[.slice none 0 0] (n * 1)) 24)) := by
  obtain ⟨i0, hi, hzz⟩ := Option.map_eq_some_iff.1 info24
  simp only [Prod.mk.injEq] at hzz
  obtain ⟨hz0, hz1, hz2⟩ := hzz
  rw [run_make W 27 24 i0 (.slice none 0 0) Try.underlying27 hi hz0 .i64 .i64 n n (by omega) (by omega) (by rw [hz2]; omega) (by omega), hz1]
  simp [Value.cells]
theorem run_make_23 (n : Nat) (hn : n ≤ 65536) (W : World) : (Instr.makeSlice 23 (.int .i64 n) (.int .i64 n)).run Try.prog W = .ok (.slice (some ⟨W.heap.size, 0, none⟩) n n) (W.alloc (.cells (madeCells #[.int .u64 0, .int .u64 0, .slice none 0 0] (n * 3)) 44)) := by
  obtain ⟨i0, hi, hzz⟩ := Option.map_eq_some_iff.1 info44
  simp only [Prod.mk.injEq] at hzz
  obtain ⟨hz0, hz1, hz2⟩ := hzz
  rw [run_make W 23 44 i0 (.agg #[.int .u64 0, .int .u64 0, .slice none 0 0]) Try.underlying23 hi hz0 .i64 .i64 n n (by omega) (by omega) (by rw [hz2]; omega) (by omega), hz1]
  simp [Value.cells]

def shortS (S : St) (n : Nat) : Bool := match S with | .W _ => false | .R l => decide (l.length < n * 128)
def rowS (S : St) : List (List Int) → Except Int (List (List Int) × St)
  | [] => .ok ([], S)
  | x :: xs => match step S x 128 with
    | .error e => .error e
    | .ok (r, S') => match rowS S' xs with
      | .error e => .error e
      | .ok (rs, S'') => .ok (r :: rs, S'')
def pad {α : Type} (l : List α) (n : Nat) (z : α) : List α := l.take n ++ (List.replicate n z).drop l.length
theorem pad_length {α : Type} (l : List α) (n : Nat) (z : α) : (pad l n z).length = n := by
  simp [pad]
  omega
def blocksS (S : St) (bs : List (List Int)) : Except Int (List (List Int) × St) :=
  match countS S bs.length 2 4096 2 with
  | .error x => .error x
  | .ok (n, S1) => if shortS S1 n.toNat then .error 201 else rowS S1 (pad bs n.toNat [])
def prep {α : Type} (D : List α) (x : Except Int (List α × St)) : Except Int (List α × St) :=
  match x with
  | .error e => .error e
  | .ok (rs, S) => .ok (D ++ rs, S)
end Go.Proofs.Ytmjbdeoomohanaa.Mine

/- wire: the builtin copy into such a row, as a step of a plain walk. -/
set_option linter.unusedSimpArgs false
set_option linter.unusedVariables false
namespace Go.Proofs.Ytmjbdeoomohanaa.Mine
open Go.RowKit Go.Maps Go.Proofs.YtmjbdeoomohanaaW.PrintWords Go.Proofs.YtmjbdeoomohanaaW.PrintLast Go.Proofs.YtmjbdeoomohanaaW.PrintMore Go.Proofs.Ytmjbdeoomohanaa.PWirePacks Go.Proofs.Ytmjbdeoomohanaa.Turn

theorem run_copy_N {α : Type} {P : Program} {W : World} (d : Kd α) (dT sT ty e : TypeId) (hu : P.underlying dT = some (.slice e)) (hsz : (P.info? e).map (·.size) = some d.sz) (hs0 : 0 < d.sz)
    {base n cap g m c : Nat} {ok okp : Nat → Prop} {zs ys : List α} {A : Option Addr}
    (hN : Kd.N d e W base ok (.slice (some ⟨g, 0, none⟩) n cap) zs) (hF : Kd.F d W okp A m ys) (hokp : ∀ k, okp k → ok k ∧ k ≠ g) :
    ∃ w', (Builtin.copy_ #[dT, sT] ty #[.slice (some ⟨g, 0, none⟩) n cap, .slice A m c]).run P W = .ok (goInt (Nat.min m n)) w' ∧ Kd.N d e w' base ok (.slice (some ⟨g, 0, none⟩) n cap) (ys.take n ++ zs.drop m) ∧ Turned (fun k => k = g) W w' := by
  obtain ⟨cur, cs, hg, hcl, hsrc, hfit, h1, hN'⟩ := N_copied hs0 hN hF hokp
  obtain ⟨i, hi, hiz⟩ := Option.map_eq_some_iff.1 hsz
  rcases A with _ | ad
  · have hm0 : m = 0 := by
      rcases Nat.eq_zero_or_pos m with h | h
      · exact h
      · obtain ⟨ad, e, _⟩ := hsrc h
        cases e
    subst hm0
    have hys : ys = [] := List.eq_nil_of_length_eq_zero (Kd.F_len hF)
    subst hys
    refine ⟨W, ?_, by simpa using hN, Turned.refl _ W⟩
    rw [show Nat.min 0 n = 0 from Nat.zero_min n]
    exact Mine.run_copy_none W dT sT ty e i hu hi _ n cap c
  · have := Go.Proofs.Ytmjbdeoomohanaa.Turn.run_copy_cells (P := P) W dT sT ty e i hu hi g 0 n cap ad m c cur e hg cs (by rw [hiz]; exact hcl) ?_ (by simpa using hfit) h1
    · refine ⟨_, this, by simpa using hN', (Turned.refl (fun k => k = g) W).setRow (.inl rfl) _⟩
    · intro j v hj
      rcases Nat.eq_zero_or_pos m with h | h
      · subst h
        rw [show Nat.min 0 n = 0 from Nat.zero_min n, Nat.zero_mul] at hcl
        rw [List.eq_nil_of_length_eq_zero hcl] at hj
        simp at hj
      · obtain ⟨ad', e', h2⟩ := hsrc h
        cases e'
        exact h2 j v hj

theorem copy_N {α : Type} {P : Program} {ops : Array Oper} {o : Oper} {rest : List Oper} {a : Act} {W : World} {Q : Exit → Act → World → Prop} (d : Kd α) (hgd : o.guard = none) (x y : Operand) (dT sT : TypeId) (ho : o.op = .call { callee := .builtin .copy, args := #[x, y], argTypes := #[dT, sT] }) (e : TypeId) (hu : P.underlying dT = some (.slice e)) (hsz : (P.info? e).map (·.size) = some d.sz) (hs0 : 0 < d.sz)
    {base n cap g m c : Nat} {ok okp : Nat → Prop} {zs ys : List α} {A : Option Addr} (hx : a.eval x = .slice (some ⟨g, 0, none⟩) n cap) (hy : a.eval y = .slice A m c)
    (hN : Kd.N d e W base ok (.slice (some ⟨g, 0, none⟩) n cap) zs) (hF : Kd.F d W okp A m ys) (hokp : ∀ k, okp k → ok k ∧ k ≠ g)
    (hK : ∀ w', Kd.N d e w' base ok (.slice (some ⟨g, 0, none⟩) n cap) (ys.take n ++ zs.drop m) → Turned (fun k => k = g) W w' → wpList P ops Q rest (a.put o.dst (goInt (Nat.min m n))) w') :
    wpList P ops Q (o :: rest) a W := by
  obtain ⟨w', hr, h1, h2⟩ := run_copy_N (P := P) (c := c) d dT sT o.type e hu hsz hs0 hN hF hokp
  refine wpList_plain hgd fun K hKK => ?_
  unfold Oper.wp execOp
  simp only [ho, resolve, invoke, builtin, Sem.run_bind, Sem.run_pure, Result.andThen_ok, List.map_toArray, List.map_cons, List.map_nil, hx, hy, hr]
  exact hKK _ _ (hK w' h1 h2)
end Go.Proofs.Ytmjbdeoomohanaa.Mine
