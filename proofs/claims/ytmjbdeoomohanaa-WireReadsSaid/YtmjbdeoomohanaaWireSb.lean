/- wire: the document's reader: list, raws. -/
import Derived.Test.YtmjbdeoomohanaaWireSa
set_option linter.unusedSimpArgs false
set_option linter.unusedVariables false
namespace Go.Proofs.Ytmjbdeoomohanaa.Mine
open Go.RowKit Go.Maps Go.Proofs.YtmjbdeoomohanaaW.PrintWords Go.Proofs.YtmjbdeoomohanaaW.PrintLast Go.Proofs.YtmjbdeoomohanaaW.PrintMore Go.Proofs.Ytmjbdeoomohanaa.PWirePacks Go.Proofs.Ytmjbdeoomohanaa.Turn

def entL (l : List Int) : Except Int (S44 × List Int) := match numL l 8 with
  | .error x => .error x
  | .ok (a, l1) => match numL l1 8 with
    | .error x => .error x
    | .ok (b, l2) => match txtL l2 with
      | .error x => .error x
      | .ok (c, l3) => .ok (⟨a, b, c⟩, l3)
/-- n things, one behind the other. -/
def manyL {α : Type} (f : List Int → Except Int (α × List Int)) : Nat → List Int → Except Int (List α × List Int)
  | 0, l => .ok ([], l)
  | n + 1, l => match f l with
    | .error x => .error x
    | .ok (a, l1) => match manyL f n l1 with
      | .error x => .error x
      | .ok (s, l2) => .ok (a :: s, l2)
/-- D was read; so many more are to be. -/
def going {α : Type} (f : List Int → Except Int (α × List Int)) (D : List α) (m : Nat) (Z : Except Int (List Int)) : Except Int (List α × List Int) :=
  Z.bind fun l => (manyL f m l).map fun y => (D ++ y.1, y.2)
theorem going_zero {α : Type} {f : List Int → Except Int (α × List Int)} {D : List α} {l : List Int} : going f D 0 (.ok l) = .ok (D, l) := by
  simp [going, manyL, Except.bind, Except.map]
theorem going_step {α : Type} {f : List Int → Except Int (α × List Int)} {D : List α} {m : Nat} {l : List Int} {a : α} (h : ∀ y, f l = .ok y → a = y.1) : going f D (m + 1) (.ok l) = going f (D ++ [a]) m (rest (f l)) := by
  cases hf : f l with
  | error x => simp [going, manyL, Except.bind, Except.map, hf, rest]
  | ok y =>
    obtain ⟨y1, y2⟩ := y
    obtain rfl := h _ hf
    simp only [going, manyL, Except.bind, hf, rest]
    cases manyL f m y2 with
    | error x => rfl
    | ok z => simp [Except.map]
theorem going_error {α : Type} {f : List Int → Except Int (α × List Int)} {D : List α} {m : Nat} {x : Int} : going f D m (.error x) = .error x := rfl
theorem ent_rest (l : List Int) : rest (entL l) = rest ((rest ((rest (numL l 8)).bind fun l => numL l 8)).bind txtL) := by
  unfold entL
  cases numL l 8 with
  | error x => rfl
  | ok y =>
    obtain ⟨a, l1⟩ := y
    show rest (match numL l1 8 with | .error x => .error x | .ok (b, l2) => match txtL l2 with | .error x => .error x | .ok (c, l3) => .ok ((⟨a, b, c⟩ : S44), l3)) = rest ((rest (numL l1 8)).bind txtL)
    cases numL l1 8 with
    | error x => rfl
    | ok y =>
      obtain ⟨b, l2⟩ := y
      show rest (match txtL l2 with | .error x => .error x | .ok (c, l3) => .ok ((⟨a, b, c⟩ : S44), l3)) = rest (txtL l2)
      cases txtL l2 <;> rfl
theorem ent_val {l : List Int} {a b : Int} {q : List Int} (ha : ∀ y, numL l 8 = .ok y → a = y.1) (hb : ∀ y, (rest (numL l 8)).bind (fun l => numL l 8) = .ok y → b = y.1) (hq : ∀ y, (rest ((rest (numL l 8)).bind fun l => numL l 8)).bind txtL = .ok y → q = y.1) : ∀ y, entL l = .ok y → (⟨a, b, q⟩ : S44) = y.1 := by
  intro y hy
  unfold entL at hy
  cases h1 : numL l 8 with
  | error x => rw [h1] at hy; cases hy
  | ok y1 =>
    obtain ⟨a1, l1⟩ := y1
    rw [h1] at hy ha hb hq
    obtain rfl := ha _ rfl
    have hb2 : ∀ y, numL l1 8 = .ok y → b = y.1 := hb
    have hq2 : ∀ y, (rest (numL l1 8)).bind txtL = .ok y → q = y.1 := hq
    cases h2 : numL l1 8 with
    | error x => simp only [h2] at hy; cases hy
    | ok y2 =>
      obtain ⟨b1, l2⟩ := y2
      obtain rfl := hb2 _ h2
      rw [h2] at hq2
      have hq3 : ∀ y, txtL l2 = .ok y → q = y.1 := hq2
      simp only [h2] at hy
      cases h3 : txtL l2 with
      | error x => simp only [h3] at hy; cases hy
      | ok y3 =>
        obtain ⟨c1, l3⟩ := y3
        obtain rfl := hq3 _ h3
        simp only [h3] at hy
        cases hy
        rfl
def logL (l : List Int) : Except Int (List S44 × List Int) := match cntL l 1 64 2 with
  | .error x => .error x
  | .ok (n, l1) => manyL entL n.toNat l1

set_option maxHeartbeats 4000000 in
theorem listU {w : World} {h p : Nat} {X : Except Int (List Int)} (r : RdE w h p X) :
    Calls Try.prog 55 #[.pointer (some ⟨p, 0, none⟩)] w (EndsX k44 44 w h p (X.bind logL)) := by
  have HR := Aside0.mk r
  have hpl := r.lt.1
  obtain ⟨TOT, hTOT⟩ : ∃ T, X.bind logL = T := ⟨_, rfl⟩
  rw [hTOT]
  have HTX := Aside0.mk hTOT
  clear r hTOT
  go_enter Try.func55, Try.ntmps55
  go_wp2_with fail
  refine (numU HR.out 1 (by omega) 64 2 (by omega) (by omega)).mono ?_
  rintro e w1 ⟨hT1, v, rfl, hv0, hv1, hvY, hR1⟩
  have hw : IntKind.i64.wrap v = v := IntWalk.i64_in _ (by omega)
  obtain ⟨n, rfl⟩ : ∃ n : Nat, v = n := ⟨v.toNat, by omega⟩
  have HTOT : Aside0 (TOT = going entL [] n (rest (X.bind fun l => cntL l 1 64 2))) := ⟨by
    rw [← HTX.out]
    cases X with
    | error x => rfl
    | ok l =>
      have e1 : (Except.ok l : Except Int (List Int)).bind (fun l => cntL l 1 64 2) = cntL l 1 64 2 := rfl
      have e2 : (Except.ok l : Except Int (List Int)).bind logL = logL l := rfl
      rw [e1] at hvY ⊢
      rw [e2, logL]
      cases hc : cntL l 1 64 2 with
      | error x => rfl
      | ok z =>
        have e3 := hvY z hc
        show manyL entL z.1.toNat z.2 = (manyL entL n z.2).map fun y => ([] ++ y.1, y.2)
        rw [← e3, Int.toNat_natCast]
        cases manyL entL n z.2 with
        | error x => rfl
        | ok y => simp [Except.map]⟩
  obtain ⟨Z0, hZ0⟩ : ∃ Z0, rest (X.bind fun l => cntL l 1 64 2) = Z0 := ⟨_, rfl⟩
  rw [hZ0] at HTOT hR1
  have HT1 := Aside0.mk hT1
  have HR1 := Aside0.mk hR1
  clear hT1 hR1 hvY hZ0 HTX
  go_wp2_with fail
  go_loopw [3, 5] (fun v i wr => ∃ (k : Nat) (D : List S44) (Z : Except Int (List Int)) (A : Option Addr) (c : Nat), k ≤ n ∧ v = .slice A D.length c ∧ i = .int .i64 k ∧ Aside0 (TOT = going entL D (n - k) Z) ∧ Aside0 (Kd.R k44 44 wr w.heap.size (fun _ => True) (.slice A D.length c) D) ∧ Aside0 (D.length = k) ∧ Aside0 (RdE wr h p Z) ∧ Aside0 (Turned (fun k => k = p) w wr)) (fun _ i _ => n - (intOf i).toNat)
  case atStart => exact ⟨0, [], Z0, none, 0, Nat.zero_le _, rfl, rfl, HTOT, ⟨Kd.R_nil _ _ _ _ _⟩, ⟨rfl⟩, HR1, HT1⟩
  case round =>
    clear HTOT HR1 HT1
    obtain ⟨k, D, Z, Av, cv, hk, rfl, rfl, HTO, HROW, HD, HRE, HTW⟩ := hrel
    by_cases hkn : k < n
    · cases Z with
      | error x =>
        obtain ⟨hx, l, hRd⟩ := HRE.out
        obtain ⟨h1, h2, h3, A0, c0, h4, h5, h6⟩ := hRd
        have h40 : World.cell? wr ⟨p, 0, none⟩ = some (.slice A0 l.length c0) := Blk.cell h4 0
        have h41 : World.cell? wr ⟨p, 1, none⟩ = some (.int .i64 x) := Blk.cell h4 1
        have hb : (x == 0) = false := by simpa using hx
        clear h1 h2 h3 h4 h5 h6 hx
        go_wp2_with fail
        go_ret
        exact ⟨HTW.out, _, D, rfl, HROW.out, by have := HD.out; omega, fun y hy => (by rw [HTO.out, going_error] at hy; cases hy), by rw [HTO.out, going_error]; exact HRE.out⟩
      | ok l =>
        have hRd : Rd wr h p l 0 := HRE.out
        obtain ⟨h1, h2, h3, A0, c0, h4, h5, h6⟩ := hRd
        have h40 : World.cell? wr ⟨p, 0, none⟩ = some (.slice A0 l.length c0) := Blk.cell h4 0
        have h41 : World.cell? wr ⟨p, 1, none⟩ = some (.int .i64 0) := Blk.cell h4 1
        clear h1 h2 h3 h4 h5 h6
        go_wp2_with fail
        refine (anyU HRE.out 8 (by omega)).mono ?_
        rintro e w1 ⟨hT1, a, rfl, ha0, ha1, haY, hR1⟩
        have HT1 := Aside0.mk hT1
        have HR1 := Aside0.mk hR1
        have HAY := Aside0.mk haY
        have hz1 := hT1.size
        clear hT1 hR1 haY h40 h41
        obtain ⟨g, hg⟩ : ∃ g, w1.heap.size = g := ⟨_, rfl⟩
        have hx1 := Blk.new w1 #[.int .u64 a, .int .u64 0, .slice none 0 0] 44
        have hsz1 : (w1.alloc (.cells #[.int .u64 a, .int .u64 0, .slice none 0 0] 44)).heap.size = w1.heap.size + 1 := by simp
        have hro1 := Kd.R_below (Kd.R_elderB (R_turn HROW.out HT1.out hpl) w1.heap.size (Nat.le_refl _)) (below_alloc (Below.refl _ w1) (.cells #[.int .u64 a, .int .u64 0, .slice none 0 0] 44))
        have hta := (HTW.out.then_ HT1.out (fun k hk => .inl hk)).alloc (.cells #[.int .u64 a, .int .u64 0, .slice none 0 0] 44)
        have hre1 := HR1.out.below (below_alloc (Below.refl _ w1) (.cells #[.int .u64 a, .int .u64 0, .slice none 0 0] 44))
        have hpg := HR1.out.lt.1
        have hwb := HTW.out.size
        go_wp2_with fail
        rw [hg] at hx1 hro1 hsz1 hpg hz1
        generalize w1.alloc (.cells #[.int .u64 a, .int .u64 0, .slice none 0 0] 44) = W1 at *
        clear hg
        have HTA := Aside0.mk hta
        have HX1 := Aside0.mk hx1
        have HRO1 := Aside0.mk hro1
        have HRE1 := Aside0.mk hre1
        clear hta hx1 hro1 hre1 HT1 HR1 HTW HROW
        refine (anyU HRE1.out 8 (by omega)).mono ?_
        rintro e w2 ⟨hT2, b, rfl, hb0, hb1, hbY, hR2⟩
        have hx2 := hT2.blk HX1.out (by omega)
        have HX2 : Aside0 (Blk w2 g #[.int .u64 a, .int .u64 0, .slice none 0 0] 44) := ⟨hx2⟩
        have HRO2 := Aside0.mk (R_turn HRO1.out hT2 hpl)
        have HTB := Aside0.mk (HTA.out.then_ hT2 (fun k hk => .inl hk))
        have HR2 := Aside0.mk hR2
        have HBY := Aside0.mk hbY
        have hz2 := hT2.size
        have hpgg : g ≠ p := by omega
        have h2x := HX2.out
        have h2x0 : World.cell? w2 ⟨g, 0, none⟩ = some (.int .u64 a) := Blk.cell h2x 0
        have h2xf0 : World.frozen? w2 ⟨g, 0, none⟩ = false := Blk.free h2x 0
        have h2x1 : World.cell? w2 ⟨g, 1, none⟩ = some (.int .u64 0) := Blk.cell h2x 1
        have h2xf1 : World.frozen? w2 ⟨g, 1, none⟩ = false := Blk.free h2x 1
        have h2x2 : World.cell? w2 ⟨g, 2, none⟩ = some (.slice none 0 0) := Blk.cell h2x 2
        have h2xf2 : World.frozen? w2 ⟨g, 2, none⟩ = false := Blk.free h2x 2
        have hgl := h2x.lt
        clear hT2 hx2 hR2 hbY h2x HTA HX1 HRO1
        go_wp2_with fail
        have hT2s : Turned (fun k => k = g) w2 (w2.setCell ⟨g, 1, none⟩ (.int .u64 b)) := Turned.setCell (S := fun k => k = g) (Turned.refl _ w2) (.inl rfl) _
        have hR2s := HR2.out.turn hT2s (fun k hk => by have := HR2.out.lt; omega)
        refine (textU hR2s).mono ?_
        rintro e w3 ⟨hT3, v3, q, rfl, hq, hq4, hqY, hR3⟩
        have hsz2 : (w2.setCell ⟨g, 1, none⟩ (.int .u64 b)).heap.size = w2.heap.size := by simp [World.setCell]
        have HX3 : Aside0 (Blk w3 g #[.int .u64 a, .int .u64 b, .slice none 0 0] 44) := ⟨hT3.blk (HX2.out.set 1 _) hpgg⟩
        have HRO3 := Aside0.mk (R_turn (Kd.R_far HRO2.out (p := ⟨g, 1, none⟩) (fun k hk => hk.2) (.int .u64 b)) hT3 hpl)
        have HTC := Aside0.mk ((HTB.out.setCell (p := ⟨g, 1, none⟩) (.inr (by show w.heap.size ≤ g; omega)) (.int .u64 b)).then_ hT3 (fun k hk => .inl hk))
        have HR3 := Aside0.mk hR3
        have HQY := Aside0.mk hqY
        obtain ⟨A3, c3, rfl⟩ := Kd.R_slice hq
        have hz3 := hT3.size
        rw [hsz2] at hz3 hq
        have HQ3 := Aside0.mk hq
        have hqb := Kd.R_bound hq
        have h3x := HX3.out
        have h3x0 : World.cell? w3 ⟨g, 0, none⟩ = some (.int .u64 a) := Blk.cell h3x 0
        have h3xf0 : World.frozen? w3 ⟨g, 0, none⟩ = false := Blk.free h3x 0
        have h3x1 : World.cell? w3 ⟨g, 1, none⟩ = some (.int .u64 b) := Blk.cell h3x 1
        have h3xf1 : World.frozen? w3 ⟨g, 1, none⟩ = false := Blk.free h3x 1
        have h3x2 : World.cell? w3 ⟨g, 2, none⟩ = some (.slice none 0 0) := Blk.cell h3x 2
        have h3xf2 : World.frozen? w3 ⟨g, 2, none⟩ = false := Blk.free h3x 2
        have hgl3 := h3x.lt
        have hqlow : ∀ k, (Value.slice A3 q.length c3).ownBlock = some k → w2.heap.size ≤ k := fun k hk => (hqb.1 k hk).2.1
        have HQL := Aside0.mk hqlow
        have HRB := Aside0.mk (Kd.R_bound HRO3.out)
        have HVL : Aside0 (∀ k, (Value.slice Av D.length cv).ownBlock = some k → w.heap.size ≤ k ∧ k < w2.heap.size) := ⟨fun k hk => by have := (Kd.R_bound HRO2.out).1 k hk; exact ⟨this.2.1, this.2.2.1⟩⟩
        clear hT2s hR2s hT3 hR3 hqY hsz2 hq hqb h3x HTB HX2 HRO2 hqlow
        have HAP : Aside0 (∀ k, some k = (Value.slice A3 q.length c3).ownBlock → k ≠ g ∧ some k ≠ (.slice Av D.length cv : Value).ownBlock) := ⟨fun k hk => ⟨fun e => by have := HQL.out k hk.symm; omega, fun e => by have := HQL.out k hk.symm; have := HVL.out k e.symm; omega⟩⟩
        have HSZ : Aside0 ((w3.setCell ⟨g, 2, none⟩ (.slice A3 q.length c3)).heap.size = w3.heap.size) := ⟨by simp [World.setCell]⟩
        go_wp2_with (at_builtin; refine Kd.R_append k44 (w0 := w3.setCell ⟨g, 2, none⟩ (.slice A3 q.length c3)) w.heap.size rfl (.tmp 31) (.tmp 33) 23 44 (.agg #[.int .u64 0, .int .u64 0, .slice none 0 0]) 40 rfl Try.underlying23 info44 rfl (by decide) (by omega) (.slice Av D.length cv) D (⟨a, b, q⟩ : S44) [.int .u64 a, .int .u64 b, .slice A3 q.length c3] (fun k => k ≠ g) (fun k => some k = (.slice A3 q.length c3 : Value).ownBlock) rfl (by simp [Act.eval, Act.put, World.setCell]) ?aP HAP.out ?aF ?aO (Below.refl _ _) ?aS ?aL ?_; (case aP => exact k44_mkM _ _ _ (⟨a, b, q⟩ : S44) (Kd.R_far (Kd.R_tight rfl (Kd.R_lower HQ3.out (by omega))) (p := ⟨g, 2, none⟩) (fun k hk => (HAP.out k hk).1) _)); (case aF => (intro k hk; have := HSZ.out; omega)); (case aO => exact Kd.R_mono (Kd.R_far HRO3.out (p := ⟨g, 2, none⟩) (fun k hk => hk.2) _) (fun k hk => hk.2)); (case aS => (have := HSZ.out; omega)); (case aL => (have := HD.out; omega)); intro v1 w6 ho hb hg hat; have HO := Aside0.mk ho; have HB := Aside0.mk hb; have HG := Aside0.mk hg; clear ho hb hg hat)
        obtain ⟨A4, c4, rfl⟩ := Kd.R_slice HO.out
        have hTf : Turned (fun k => k = g ∨ (Value.slice Av D.length cv).ownBlock = some k) w3 w6 := (Turned.setCell (S := fun k => k = g ∨ (Value.slice Av D.length cv).ownBlock = some k) (Turned.refl _ w3) (p := ⟨g, 2, none⟩) (.inl (.inl rfl)) (.slice A3 q.length c3)).grown HG.out (fun k hk => .inl (.inr hk))
        have HTF := Aside0.mk hTf
        clear hTf
        go_roundw
        case rel =>
          refine ⟨k + 1, D ++ [⟨a, b, q⟩], rest (entL l), A4, c4, by omega, rfl, by go_num, ⟨?_⟩, ⟨Kd.R_mono HO.out (fun _ _ => trivial)⟩, ⟨by have := HD.out; simp; omega⟩, ⟨?_⟩, ⟨HTC.out.then_ HTF.out (fun k hk => .inr (hk.elim (fun e => by omega) (fun e => (HVL.out k e).1)))⟩⟩
          · rw [HTO.out, show n - k = (n - (k + 1)) + 1 by omega]
            exact going_step (ent_val HAY.out HBY.out HQY.out)
          · rw [ent_rest]
            exact HR3.out.turn HTF.out (fun k hk => by have := HR3.out.lt; exact hk.elim (fun e => by omega) (fun e => by have := (HVL.out k e).1; omega))
        case measure => simp [intOf]; omega
    · obtain rfl : k = n := by omega
      go_wp2_with fail
      go_ret
      refine ⟨HTW.out, _, D, rfl, HROW.out, by have := HD.out; omega, fun y hy => ?_, ?_⟩
      · rw [HTO.out, Nat.sub_self] at hy
        cases Z with
        | error x => cases hy
        | ok l => rw [going_zero] at hy; cases hy; rfl
      · rw [HTO.out, Nat.sub_self]
        cases Z with
        | error x => exact HRE.out
        | ok l => rw [going_zero]; exact HRE.out
def one128 (l : List Int) : Except Int (List Int × List Int) := cutL l 128
def rawL (l : List Int) : Except Int (List (List Int) × List Int) := match cntL l 2 4096 2 with
  | .error x => .error x
  | .ok (n, l1) => manyL one128 n.toNat l1

set_option maxHeartbeats 4000000 in
theorem rawsU {w : World} {h p : Nat} {X : Except Int (List Int)} (r : RdE w h p X) :
    Calls Try.prog 57 #[.pointer (some ⟨p, 0, none⟩)] w (EndsX (Kd.slice 5 (Kd.int .u8)) 24 w h p (X.bind rawL)) := by
  have HR := Aside0.mk r
  have hpl := r.lt.1
  obtain ⟨TOT, hTOT⟩ : ∃ T, X.bind rawL = T := ⟨_, rfl⟩
  rw [hTOT]
  have HTX := Aside0.mk hTOT
  clear r hTOT
  go_enter Try.func57, Try.ntmps57
  go_wp2_with fail
  refine (numU HR.out 2 (by omega) 4096 2 (by omega) (by omega)).mono ?_
  rintro e w1 ⟨hT1, v, rfl, hv0, hv1, hvY, hR1⟩
  have hw : IntKind.i64.wrap v = v := IntWalk.i64_in _ (by omega)
  obtain ⟨n, rfl⟩ : ∃ n : Nat, v = n := ⟨v.toNat, by omega⟩
  have HTOT : Aside0 (TOT = going one128 [] n (rest (X.bind fun l => cntL l 2 4096 2))) := ⟨by
    rw [← HTX.out]
    cases X with
    | error x => rfl
    | ok l =>
      have e1 : (Except.ok l : Except Int (List Int)).bind (fun l => cntL l 2 4096 2) = cntL l 2 4096 2 := rfl
      have e2 : (Except.ok l : Except Int (List Int)).bind rawL = rawL l := rfl
      rw [e1] at hvY ⊢
      rw [e2, rawL]
      cases hc : cntL l 2 4096 2 with
      | error x => rfl
      | ok z =>
        have e3 := hvY z hc
        show manyL one128 z.1.toNat z.2 = (manyL one128 n z.2).map fun y => ([] ++ y.1, y.2)
        rw [← e3, Int.toNat_natCast]
        cases manyL one128 n z.2 with
        | error x => rfl
        | ok y => simp [Except.map]⟩
  obtain ⟨Z0, hZ0⟩ : ∃ Z0, rest (X.bind fun l => cntL l 2 4096 2) = Z0 := ⟨_, rfl⟩
  rw [hZ0] at HTOT hR1
  have HT1 := Aside0.mk hT1
  have HR1 := Aside0.mk hR1
  clear hT1 hR1 hvY hZ0 HTX
  go_wp2_with fail
  go_loopw [3, 5] (fun v i wr => ∃ (k : Nat) (D : List (List Int)) (Z : Except Int (List Int)) (A : Option Addr) (c : Nat), k ≤ n ∧ v = .slice A D.length c ∧ i = .int .i64 k ∧ Aside0 (TOT = going one128 D (n - k) Z) ∧ Aside0 (Kd.R (Kd.slice 5 (Kd.int .u8)) 24 wr w.heap.size (fun _ => True) (.slice A D.length c) D) ∧ Aside0 (D.length = k) ∧ Aside0 (RdE wr h p Z) ∧ Aside0 (Turned (fun k => k = p) w wr)) (fun _ i _ => n - (intOf i).toNat)
  case atStart => exact ⟨0, [], Z0, none, 0, Nat.zero_le _, rfl, rfl, HTOT, ⟨Kd.R_nil _ _ _ _ _⟩, ⟨rfl⟩, HR1, HT1⟩
  case round =>
    clear HTOT HR1 HT1
    obtain ⟨k, D, Z, Av, cv, hk, rfl, rfl, HTO, HROW, HD, HRE, HTW⟩ := hrel
    by_cases hkn : k < n
    · cases Z with
      | error x =>
        obtain ⟨hx, l, hRd⟩ := HRE.out
        obtain ⟨h1, h2, h3, A0, c0, h4, h5, h6⟩ := hRd
        have h40 : World.cell? wr ⟨p, 0, none⟩ = some (.slice A0 l.length c0) := Blk.cell h4 0
        have h41 : World.cell? wr ⟨p, 1, none⟩ = some (.int .i64 x) := Blk.cell h4 1
        have hb : (x == 0) = false := by simpa using hx
        clear h1 h2 h3 h4 h5 h6 hx
        go_wp2_with fail
        go_ret
        exact ⟨HTW.out, _, D, rfl, HROW.out, by have := HD.out; omega, fun y hy => (by rw [HTO.out, going_error] at hy; cases hy), by rw [HTO.out, going_error]; exact HRE.out⟩
      | ok l =>
        have hRd : Rd wr h p l 0 := HRE.out
        obtain ⟨h1, h2, h3, A0, c0, h4, h5, h6⟩ := hRd
        have h40 : World.cell? wr ⟨p, 0, none⟩ = some (.slice A0 l.length c0) := Blk.cell h4 0
        have h41 : World.cell? wr ⟨p, 1, none⟩ = some (.int .i64 0) := Blk.cell h4 1
        clear h1 h2 h3 h4 h5 h6
        go_wp2_with fail
        refine (takeU HRE.out 128).mono ?_
        rintro e w2 ⟨hT1, A, c, q, rfl, hqc, hqn, hF, hqY, hR2⟩
        have HTA := Aside0.mk (HTW.out.then_ hT1 (fun k hk => .inl hk))
        have HR2 := Aside0.mk hR2
        have HQY := Aside0.mk hqY
        have HRO2 := Aside0.mk (R_turn HROW.out hT1 hpl)
        have HF := Aside0.mk (Kd.F_now (Kd.F_alloc hF (.cells #[] 5)))
        have hz2 := hT1.size
        have hzw := HTW.out.size
        have HEM := Aside0.mk (R_empty (Kd.int .u8) 5 w2 w2.heap.size (Nat.le_refl _))
        have HB0 := Aside0.mk (below_alloc (Below.refl w2.heap.size w2) (.cells #[] 5))
        clear hT1 hR2 hqY hF HTW HROW h40 h41
        go_wp2_with (first
          | ((with_reducible refine gate_dst (N := 27) rfl ?_); at_builtin; refine Kd.R_append_rows (Kd.int .u8) (w0 := w2) w2.heap.size rfl (.tmp 25) (.tmp 26) 24 5 (.int .u8 0) 1 rfl Try.underlying24 info5 rfl (by decide) (by omega) (.slice (some ⟨w2.heap.size, 0, none⟩) 0 0) ([] : List Int) q _ _ _ (fun _ => True) (fun _ => False) rfl rfl HEM.out HF.out (fun _ _ h => h) (fun _ h => h.elim) (fun _ _ => trivial) HB0.out (by simp) (by simp; omega) ?_; intro v3 w3 ho hb hg hat; rw [List.nil_append] at ho; clear hg hat; obtain ⟨A3, c3, rfl⟩ := Kd.R_slice ho; have HRB := Aside0.mk (Kd.R_bound HRO2.out); have HRO3 := Aside0.mk (Kd.R_below HRO2.out hb); have HB3 := Aside0.mk hb; have HR3 := Aside0.mk (HR2.out.below hb); have HQ3 := Aside0.mk ho; have HQB := Aside0.mk (Kd.R_bound ho).1; have hz3 := hb.size; have HAP : Aside0 (∀ k, some k = (Value.slice A3 q.length c3).ownBlock → True ∧ some k ≠ (.slice Av D.length cv : Value).ownBlock) := ⟨fun k hk => ⟨trivial, fun e => by have := (HQB.out k hk.symm).2.1; have := (HRB.out.1 k e.symm).2.2.1; omega⟩⟩; have HVL : Aside0 (∀ k, (Value.slice Av D.length cv).ownBlock = some k → w.heap.size ≤ k) := ⟨fun k hk => (HRB.out.1 k hk).2.1⟩; clear ho hb HRB HQB)
          | (at_builtin; refine Kd.R_append (Kd.slice 5 (Kd.int .u8)) (w0 := w3) w.heap.size rfl (.tmp 24) (.tmp 28) 27 24 (.slice none 0 0) 24 rfl Try.underlying27 info24 rfl (by decide) (by omega) (.slice Av D.length cv) D q [.slice A3 q.length c3] (fun _ => True) (fun k => some k = (.slice A3 q.length c3 : Value).ownBlock) rfl rfl ?aP HAP.out (fun _ _ => trivial) ?aO (Below.refl _ _) ?aS ?aL ?_; (case aP => exact Kd.M_row (Kd.R_tight rfl (Kd.R_lower HQ3.out (by omega)))); (case aO => exact HRO3.out); (case aS => omega); (case aL => (have := HD.out; omega)); intro v1 w6 ho hb hg hat; have HO := Aside0.mk ho; have HB := Aside0.mk hb; have HG := Aside0.mk hg; clear ho hb hg hat))
        obtain ⟨A4, c4, rfl⟩ := Kd.R_slice HO.out
        have HTF : Aside0 (Turned (fun k => (Value.slice Av D.length cv).ownBlock = some k) w3 w6) := ⟨(Turned.refl _ w3).grown HG.out (fun k hk => .inl hk)⟩
        go_roundw
        case rel =>
          refine ⟨k + 1, D ++ [q], rest (one128 l), A4, c4, by omega, rfl, by go_num, ⟨?_⟩, ⟨HO.out⟩, ⟨by have := HD.out; simp; omega⟩, ⟨?_⟩, ⟨(HTA.out.then_ (Turned.of_below HB3.out (fun _ => False)) (fun _ hk => hk.elim)).then_ HTF.out (fun k hk => .inr (HVL.out k hk))⟩⟩
          · rw [HTO.out, show n - k = (n - (k + 1)) + 1 by omega]
            exact going_step HQY.out
          · exact HR3.out.turn HTF.out (fun k hk => by have := HR3.out.lt; have := HVL.out k hk; omega)
        case measure => simp [intOf]; omega
    · obtain rfl : k = n := by omega
      go_wp2_with fail
      go_ret
      refine ⟨HTW.out, _, D, rfl, HROW.out, by have := HD.out; omega, fun y hy => ?_, ?_⟩
      · rw [HTO.out, Nat.sub_self] at hy
        cases Z with
        | error x => cases hy
        | ok l => rw [going_zero] at hy; cases hy; rfl
      · rw [HTO.out, Nat.sub_self]
        cases Z with
        | error x => exact HRE.out
        | ok l => rw [going_zero]; exact HRE.out
end Go.Proofs.Ytmjbdeoomohanaa.Mine
