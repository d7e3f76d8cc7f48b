import Derived.Test.YtmjbdeoomohanaaCopy
import Derived.Test.YtmjbdeoomohanaaPWirePacksx0
import Derived.Lib.EndianBits
import Derived.Deep.QuietTactic
import Derived.BigQuiet

/- wire: which fields a type has; the two looks through a list. -/
set_option linter.unusedSimpArgs false
set_option linter.unusedVariables false
namespace Go.Proofs.Ytmjbdeoomohanaa.Mine
open Go.RowKit Go.Maps Go.Proofs.YtmjbdeoomohanaaW.PrintWords Go.Proofs.YtmjbdeoomohanaaW.PrintLast Go.Proofs.YtmjbdeoomohanaaW.PrintMore Go.Proofs.Ytmjbdeoomohanaa.PWirePacks Go.Proofs.Ytmjbdeoomohanaa.Turn

def hasN (t : Int) : Int := ([0, 29, 5, 1, 27, 25, 1, 224, 224, 4864, 2816, 256, 6912, 5376, 3328] : List Int).getD t.toNat 0
theorem has_small (t : Int) (h : 15 ≤ t) : hasN t = 0 := by
  unfold hasN
  rw [List.getD_eq_getElem?_getD, List.getElem?_eq_none (by simp; omega)]
  rfl

set_option maxHeartbeats 1000000 in
theorem has_any (t : Int) (h0 : 0 ≤ t) (h1 : t ≤ 255) (w : World) : Calls Try.prog 21 #[.int .u8 t] w fun e w' => e = .returned (.int .i64 (hasN t)) ∧ Below w.heap.size w w' := by
  by_cases h : 15 ≤ t
  · have HH := Aside0.mk (has_small t h)
    have hw : IntKind.i64.wrap t = t := IntWalk.i64_in _ (by omega)
    go_enter Try.func21, Try.ntmps21
    go_wp2
    go_ret
    exact ⟨by rw [HH.out]; rfl, below_alloc (Below.refl _ _) _⟩
  · have hd : t = 0 ∨ t = 1 ∨ t = 2 ∨ t = 3 ∨ t = 4 ∨ t = 5 ∨ t = 6 ∨ t = 7 ∨ t = 8 ∨ t = 9 ∨ t = 10 ∨ t = 11 ∨ t = 12 ∨ t = 13 ∨ t = 14 := by omega
    rcases hd with rfl | rfl | rfl | rfl | rfl | rfl | rfl | rfl | rfl | rfl | rfl | rfl | rfl | rfl | rfl <;>
      (go_enter Try.func21, Try.ntmps21
       go_wp2
       go_ret
       exact ⟨rfl, below_alloc (Below.refl _ _) _⟩)

/-- The place of the first that is so, from i on; -1: there is none. -/
def firstAt {α : Type} (so : α → Bool) (l : List α) (i : Nat) : Int :=
  if h : i < l.length then (if so l[i] then i else firstAt so l (i + 1)) else -1
termination_by l.length - i
theorem first_any {α : Type} (so : α → Bool) (l : List α) : decide (0 ≤ firstAt so l 0) = l.any so := by
  have key : ∀ m i, i + m = l.length → decide (0 ≤ firstAt so l i) = (l.drop i).any so := by
    intro m
    induction m with
    | zero =>
      intro i hi
      rw [firstAt, dif_neg (by omega), List.drop_eq_nil_of_le (by omega)]
      rfl
    | succ m ih =>
      intro i hi
      rw [firstAt, dif_pos (show i < l.length by omega), List.drop_eq_getElem_cons (show i < l.length by omega), List.any_cons]
      cases h : so l[i] with
      | true => simp
      | false => simpa using ih (i + 1) (by omega)
  simpa using key l.length 0 (by omega)

def longE (x : S44) : Bool := decide (x.f2.length > 2048)
def oddB (b : List Int) : Bool := !decide (b.length = 128)
set_option maxHeartbeats 1000000 in
theorem longE_any (p q : Int) (A : Option Addr) (m : Nat) (c : Nat) (w : World) : Calls Try.prog 24 #[.agg #[.int .u64 p, .int .u64 q, .slice A m c]] w fun e w' => e = .returned (.bool (decide (m > 2048))) ∧ Below w.heap.size w w' := by
  go_enter Try.func24, Try.ntmps24
  go_wp2
  go_ret
  exact ⟨by congr 2; simp; omega, below_alloc (Below.refl _ _) _⟩
set_option maxHeartbeats 1000000 in
theorem oddB_any (A : Option Addr) (m : Nat) (c : Nat) (w : World) : Calls Try.prog 26 #[.slice A m c] w fun e w' => e = .returned (.bool (!decide (m = 128))) ∧ w = w' := by
  go_enter Try.func26, Try.ntmps26
  go_wp2
  go_ret
  refine ⟨?_, rfl⟩
  congr 2
  by_cases h : m = 128
  · subst h; simp
  · simp [h]; omega

set_option maxHeartbeats 2000000 in
theorem index50_any (A : Option Addr) (c : Nat) (l : List S44) (w : World) (hl : l.length ≤ 4611686018427387904) (hr : Kd.C k44 w A l.length l) :
    Calls Try.prog 50 #[.slice A l.length c, .func (.func 24) #[] #[]] w fun e w' => e = .returned (.int .i64 (firstAt longE l 0)) ∧ Below w.heap.size w w' := by
  have HR := Aside0.mk hr
  clear hr
  go_enter Try.func50, Try.ntmps50
  go_wp2
  go_loopw [8] (fun i wr => ∃ k : Nat, k ≤ l.length ∧ i = .int .i64 k ∧ Aside0 (firstAt longE l 0 = firstAt longE l k) ∧ Aside0 (Below w.heap.size w wr)) (fun i _ => l.length - (intOf i).toNat)
  case atStart => exact ⟨0, Nat.zero_le _, rfl, ⟨rfl⟩, ⟨Below.refl _ _⟩⟩
  case round =>
    obtain ⟨k, hk, rfl, HI, HB⟩ := hrel
    by_cases hlt : k < l.length
    · have HC := Kd.C_below HR.out HB.out
      obtain ⟨ad, A2, c2, e, y0, y1, y2, hl2, hB2⟩ := at_T44 HC (k : Int) (by omega) (by omega)
      cases e
      rw [Int.toNat_natCast] at y0 y1 y2
      clear hB2
      have hx2 : rd_T44 l (k : Int) = l[k] := by
        unfold rd_T44
        rw [List.getD_eq_getElem?_getD, Int.toNat_natCast, List.getElem?_eq_getElem hlt]
        rfl
      generalize rd_T44 l (k : Int) = x at *
      have han : (ad.add (k * 3)).block < wr.heap.size := World.block_lt_of_cell? wr _ y0
      cases hq : longE x with
      | true =>
        have HI2 : firstAt longE l k = k := by rw [firstAt, dif_pos hlt, ← hx2, if_pos hq]
        have HI3 := Aside0.mk HI2
        have HQ := Aside0.mk hq
        clear HI2 hx2 hq HC
        go_wp2_with (go_at_call 24; refine (longE_any x.f0 x.f1 A2 x.f2.length c2 _).mono ?_; rintro e w' ⟨rfl, hb⟩; rw [show decide (x.f2.length > 2048) = _ from HQ.out]; have HB2 := Aside0.mk (below_then HB.out HB.out.size hb); clear hb)
        go_ret
        exact ⟨by rw [HI.out, HI3.out]; rfl, HB2.out⟩
      | false =>
        have HI2 : firstAt longE l k = firstAt longE l (k + 1) := by rw [firstAt, dif_pos hlt, ← hx2, if_neg (by rw [hq]; simp)]
        have HI3 := Aside0.mk HI2
        have HQ := Aside0.mk hq
        clear HI2 hx2 hq HC
        go_wp2_with (go_at_call 24; refine (longE_any x.f0 x.f1 A2 x.f2.length c2 _).mono ?_; rintro e w' ⟨rfl, hb⟩; rw [show decide (x.f2.length > 2048) = _ from HQ.out]; have HB2 := Aside0.mk (below_then HB.out HB.out.size hb); clear hb)
        go_roundw
        case rel => exact ⟨k + 1, by omega, by go_num, ⟨HI.out.trans HI3.out⟩, HB2⟩
        case measure => simp [intOf]; omega
    · have HI2 : firstAt longE l k = -1 := by rw [firstAt, dif_neg hlt]
      have HI3 := Aside0.mk HI2
      clear HI2
      go_wp2
      go_ret
      exact ⟨by rw [HI.out, HI3.out]; rfl, HB.out⟩

set_option maxHeartbeats 2000000 in
theorem index51_any (A : Option Addr) (c : Nat) (l : List (List Int)) (w : World) (hl : l.length ≤ 4611686018427387904) (hr : Kd.C (Kd.slice 5 (Kd.int .u8)) w A l.length l) :
    Calls Try.prog 51 #[.slice A l.length c, .func (.func 26) #[] #[]] w fun e w' => e = .returned (.int .i64 (firstAt oddB l 0)) ∧ Below w.heap.size w w' := by
  have HR := Aside0.mk hr
  clear hr
  go_enter Try.func51, Try.ntmps51
  go_wp2
  go_loopw [8] (fun i wr => ∃ k : Nat, k ≤ l.length ∧ i = .int .i64 k ∧ Aside0 (firstAt oddB l 0 = firstAt oddB l k) ∧ Aside0 (Below w.heap.size w wr)) (fun i _ => l.length - (intOf i).toNat)
  case atStart => exact ⟨0, Nat.zero_le _, rfl, ⟨rfl⟩, ⟨Below.refl _ _⟩⟩
  case round =>
    obtain ⟨k, hk, rfl, HI, HB⟩ := hrel
    by_cases hlt : k < l.length
    · have HC := Kd.C_below HR.out HB.out
      obtain ⟨ad, A2, c2, e, y0, hl2, hB2⟩ := at_L2 HC (k : Int) (by omega) (by omega)
      cases e
      rw [Int.toNat_natCast] at y0
      clear hB2
      have hx2 : rd_L2 l (k : Int) = l[k] := by
        unfold rd_L2
        rw [List.getD_eq_getElem?_getD, Int.toNat_natCast, List.getElem?_eq_getElem hlt]
        rfl
      generalize rd_L2 l (k : Int) = x at *
      have han : (ad.add (k)).block < wr.heap.size := World.block_lt_of_cell? wr _ y0
      cases hq : oddB x with
      | true =>
        have HI2 : firstAt oddB l k = k := by rw [firstAt, dif_pos hlt, ← hx2, if_pos hq]
        have HI3 := Aside0.mk HI2
        have HQ := Aside0.mk hq
        clear HI2 hx2 hq HC
        go_wp2_with (go_at_call 26; refine (oddB_any A2 x.length c2 _).mono ?_; rintro e w' ⟨rfl, rfl⟩; rw [show (!decide (x.length = 128)) = _ from HQ.out]; have HB2 := HB)
        go_ret
        exact ⟨by rw [HI.out, HI3.out]; rfl, HB2.out⟩
      | false =>
        have HI2 : firstAt oddB l k = firstAt oddB l (k + 1) := by rw [firstAt, dif_pos hlt, ← hx2, if_neg (by rw [hq]; simp)]
        have HI3 := Aside0.mk HI2
        have HQ := Aside0.mk hq
        clear HI2 hx2 hq HC
        go_wp2_with (go_at_call 26; refine (oddB_any A2 x.length c2 _).mono ?_; rintro e w' ⟨rfl, rfl⟩; rw [show (!decide (x.length = 128)) = _ from HQ.out]; have HB2 := HB)
        go_roundw
        case rel => exact ⟨k + 1, by omega, by go_num, ⟨HI.out.trans HI3.out⟩, HB2⟩
        case measure => simp [intOf]; omega
    · have HI2 : firstAt oddB l k = -1 := by rw [firstAt, dif_neg hlt]
      have HI3 := Aside0.mk HI2
      clear HI2
      go_wp2
      go_ret
      exact ⟨by rw [HI.out, HI3.out]; rfl, HB.out⟩

set_option maxHeartbeats 1000000 in
theorem any23_any (A : Option Addr) (c : Nat) (l : List S44) (w : World) (hl : l.length ≤ 4611686018427387904) (hr : Kd.C k44 w A l.length l) :
    Calls Try.prog 23 #[.slice A l.length c, .func (.func 24) #[] #[]] w fun e w' => e = .returned (.bool (l.any longE)) ∧ Below w.heap.size w w' := by
  have HR := Aside0.mk hr
  clear hr
  have HF := Aside0.mk (first_any longE l)
  go_enter Try.func23, Try.ntmps23
  go_wp2_with (go_at_call 50; refine (index50_any A c l _ hl HR.out).mono ?_; rintro e w' ⟨rfl, hb⟩; have HB2 := Aside0.mk hb; clear hb)
  go_ret
  exact ⟨by rw [← HF.out]; rfl, HB2.out⟩

set_option maxHeartbeats 1000000 in
theorem any25_any (A : Option Addr) (c : Nat) (l : List (List Int)) (w : World) (hl : l.length ≤ 4611686018427387904) (hr : Kd.C (Kd.slice 5 (Kd.int .u8)) w A l.length l) :
    Calls Try.prog 25 #[.slice A l.length c, .func (.func 26) #[] #[]] w fun e w' => e = .returned (.bool (l.any oddB)) ∧ Below w.heap.size w w' := by
  have HR := Aside0.mk hr
  clear hr
  have HF := Aside0.mk (first_any oddB l)
  go_enter Try.func25, Try.ntmps25
  go_wp2_with (go_at_call 51; refine (index51_any A c l _ hl HR.out).mono ?_; rintro e w' ⟨rfl, hb⟩; have HB2 := Aside0.mk hb; clear hb)
  go_ret
  exact ⟨by rw [← HF.out]; rfl, HB2.out⟩
end Go.Proofs.Ytmjbdeoomohanaa.Mine

/- wire: the state of a coder, of a message in memory; Clone; bytes. -/
set_option linter.unusedSimpArgs false
set_option linter.unusedVariables false
namespace Go.Proofs.Ytmjbdeoomohanaa.Mine
open Go.RowKit Go.Maps Go.Proofs.YtmjbdeoomohanaaW.PrintWords Go.Proofs.YtmjbdeoomohanaaW.PrintLast Go.Proofs.YtmjbdeoomohanaaW.PrintMore Go.Proofs.Ytmjbdeoomohanaa.PWirePacks Go.Proofs.Ytmjbdeoomohanaa.Turn

/-- What a coder holds: bytes that are laid, or bytes that are still to be read. -/
inductive St where
  | W (l : List Int)
  | R (l : List Int)
def step (S : St) (bs : List Int) (n : Nat) : Except Int (List Int × St) :=
  match S with
  | .W l => .ok (bs, .W (l ++ bs))
  | .R l => if l.length < n then .error 201 else .ok (l.take n, .R (l.drop n))
/-- The panic of package wire. -/
def wrongs (x : Int) : Ending := .panicked [{ v := .iface 63 (.agg #[.int .i64 x]), recovered := false }]

/-- The coder in block b; what it may write is G, all of it from base on. -/
def Cod (w : World) (base : Nat) (G : Nat → Prop) (b : Nat) (S : St) : Prop :=
  G b ∧ (∀ k, G k → k < w.heap.size ∧ base ≤ k) ∧ match S with
  | .W l => ∃ v, Blk w b #[v, .bool false] 48 ∧ Kd.R (Kd.int .u8) 5 w base G v l
  | .R l => ∃ A c, Blk w b #[.slice A l.length c, .bool true] 48 ∧ l.length ≤ c ∧ Kd.F (Kd.int .u8) w (fun k => k < base) A l.length l
section
variable {w w' : World} {base b : Nat} {G G' : Nat → Prop} {S : St}
theorem Cod.step (h : Cod w base G b S) {X : Nat → Prop} (ht : Turned X w w') (hX : ∀ k, X k → ¬ G k ∧ base ≤ k) : Cod w' base G b S := by
  obtain ⟨h1, h2, h3⟩ := h
  refine ⟨h1, fun k hk => ⟨Nat.lt_of_lt_of_le (h2 k hk).1 ht.size, (h2 k hk).2⟩, ?_⟩
  cases S with
  | W l =>
    obtain ⟨v, h4, h5⟩ := h3
    exact ⟨v, ht.blk h4 (fun hx => (hX b hx).1 h1), Kd.R_step h5 (fun k hk hlt => ht.block k hlt (fun hx => (hX k hx).1 hk))⟩
  | R l =>
    obtain ⟨A, c, h4, h5, h6⟩ := h3
    exact ⟨A, c, ht.blk h4 (fun hx => (hX b hx).1 h1), h5, Kd.F_step h6 (fun k hk hlt => ht.block k hlt (fun hx => by have := (hX k hx).2; omega))⟩
theorem Cod.below (h : Cod w base G b S) (hb : Below w.heap.size w w') : Cod w' base G b S := h.step (Turned.of_below hb (fun _ => False)) (fun _ hk => hk.elim)
theorem Cod.size (h : Cod w base G b S) : base ≤ w.heap.size := by
  have := h.2.1 b h.1
  omega
end

theorem C_len0 {α : Type} {d : Kd α} {w : World} {n : Nat} {xs : List α} (h : d.C w none n xs) : xs = [] := by
  obtain ⟨h1, _, h3⟩ := h
  rcases Nat.eq_zero_or_pos n with h0 | h0
  · exact List.eq_nil_of_length_eq_zero (by omega)
  · obtain ⟨ad, e, _⟩ := h3 h0
    cases e
theorem R_empty {α : Type} (d : Kd α) (e : Nat) (w : World) (base : Nat) (hb : base ≤ w.heap.size) : d.R e (w.alloc (.cells #[] e)) base (fun _ => True) (.slice (some ⟨w.heap.size, 0, none⟩) 0 0) [] :=
  ⟨fun _ _ => trivial, [], World.ownsRow_made w #[] 0 hb (Nat.zero_le _) (by simp), Reps.none _ _⟩

set_option maxHeartbeats 1000000 in
theorem clone_any (A : Option Addr) (c : Nat) (l : List Int) (w : World) (hl : l.length ≤ 140737488355328) (hr : Kd.C (Kd.int .u8) w A l.length l) :
    Calls Try.prog 60 #[.slice A l.length c] w fun e w' => ∃ v, e = .returned v ∧ Kd.R (Kd.int .u8) 5 w' w.heap.size (fun _ => True) v l ∧ Below w.heap.size w w' := by
  have HR := Aside0.mk hr
  clear hr
  rcases A with _ | ad
  · obtain rfl := C_len0 HR.out
    have heq := fun w => Lib.run_eql_slice_nil (P := Try.prog) w 24 5 none 0 c 0 0 Try.underlying24
    go_enter Try.func60, Try.ntmps60
    go_wp2
    go_ret
    exact ⟨_, rfl, Kd.R_nil _ _ _ _ _, Below.refl _ _⟩
  · have heq := fun w => Lib.run_eql_slice_nil (P := Try.prog) w 24 5 (some ad) l.length c 0 0 Try.underlying24
    go_enter Try.func60, Try.ntmps60
    go_wp2_with (at_builtin; refine Kd.R_append_rows (Kd.int .u8) (w0 := w) w.heap.size rfl (.tmp 5) (.tmp 6) 24 5 (.int .u8 0) 1 rfl Try.underlying24 info5 rfl (by decide) (by omega) (.slice (some ⟨w.heap.size, 0, none⟩) 0 0) ([] : List Int) l _ _ _ (fun _ => True) (fun _ => False) rfl rfl ?aO (Kd.C_alloc HR.out _) (fun _ _ h => h) (fun _ h => h.elim) (fun _ _ => trivial) (below_alloc (Below.refl _ _) _) (by simp) (by simp; omega) ?_; (case aO => exact R_empty _ _ _ _ (Nat.le_refl _)); intro v102 w6 ho hb hg hat; rw [List.nil_append] at ho; have HO := Aside0.mk ho; have HB := Aside0.mk hb; clear ho hb hg hat)
    go_ret
    exact ⟨_, rfl, HO.out, HB.out⟩

/-- How a step of the coder ends. -/
def Ends (w : World) (base : Nat) (G : Nat → Prop) (b : Nat) (Q : Nat → Prop) (x : Except Int (List Int × St)) (e : Ending) (w' : World) : Prop :=
  ∃ G' : Nat → Prop, (∀ k, G' k → G k ∨ w.heap.size ≤ k) ∧ Turned G w w' ∧ match x with
  | .ok (r, S') => (∃ A c, e = .returned (.slice A r.length c) ∧ r.length ≤ c ∧ Kd.F (Kd.int .u8) w' (fun k => ¬ G' k ∧ (Q k ∨ w.heap.size ≤ k)) A r.length r) ∧ Cod w' base G' b S'
  | .error x => e = wrongs x

theorem R_over_blk {w : World} {base b : Nat} {G : Nat → Prop} {v v1 : Value} {l : List Int} {cs : Array Value} (hb : Blk w b cs 48) (h : Kd.R (Kd.int .u8) 5 w base G v l) : some b ≠ v.ownBlock := fun e => Kd.R_ne h hb (by decide) e

theorem F_turn {α : Type} {d : Kd α} {w w' : World} {G G' Q : Nat → Prop} {A : Option Addr} {n : Nat} {l : List α} (hr : Kd.F d w (fun k => ¬ G k ∧ Q k) A n l) (ht : Turned G w w') (hG : ∀ k, G' k → G k ∨ w.heap.size ≤ k) : Kd.F d w' (fun k => ¬ G' k ∧ (Q k ∨ w.heap.size ≤ k)) A n l :=
  Kd.F_mono (Kd.F_step (Kd.F_bound hr) (fun k hk hlt => ht.block k hlt hk.1.1)) (fun k hk => ⟨fun h => (hG k h).elim hk.1.1 (fun h2 => by have := hk.2; omega), .inl hk.1.2⟩)

theorem bytesW_close {w w1 : World} {base b : Nat} {G Q : Nat → Prop} {l bs : List Int} {A Av A1 : Option Addr} {c cv c1 n : Nat} (h1 : G b) (h2 : ∀ k, G k → k < w.heap.size ∧ base ≤ k) (h3 : Blk w b #[.slice Av l.length cv, .bool false] 48) (h4 : Kd.R (Kd.int .u8) 5 w base G (.slice Av l.length cv) l) (hr : Kd.F (Kd.int .u8) w (fun k => ¬ G k ∧ Q k) A bs.length bs)
    (hz : Blk w1 b #[.slice Av l.length cv, .bool false] 48) (ho : Kd.R (Kd.int .u8) 5 w1 base (fun k => G k ∨ w.heap.size ≤ k) (.slice A1 n c1) (l ++ bs)) (hg : w.grownBy w1 (Value.slice Av l.length cv).ownBlock) (hat : (Value.slice A1 n c1).ownBlock = (Value.slice Av l.length cv).ownBlock ∨ ∃ b, (Value.slice A1 n c1).ownBlock = some b ∧ w.heap.size ≤ b) (hc : bs.length ≤ c) :
    Ends w base G b Q (.ok (bs, .W (l ++ bs))) (.returned (.slice A bs.length c)) (w1.setCell ⟨b, 0, none⟩ (.slice A1 n c1)) := by
  have hG : ∀ k, (fun k => G k ∨ (w.heap.size ≤ k ∧ k < w1.heap.size)) k → G k ∨ w.heap.size ≤ k := fun k hk => hk.imp id (fun h => h.1)
  have ht : Turned G w (w1.setCell ⟨b, 0, none⟩ (.slice A1 n c1)) := ((Turned.refl G w).grown hg (fun k hk => .inl (h4.1 k hk))).setCell (.inl h1) _
  have hbase : base ≤ w.heap.size := by have := h2 b h1; omega
  refine ⟨_, hG, ht, ⟨A, c, rfl, hc, F_turn hr ht hG⟩, .inl h1, fun k hk => ?_, .slice A1 n c1, hz.set 0 _, ?_⟩
  · have hs : (w1.setCell ⟨b, 0, none⟩ (.slice A1 n c1)).heap.size = w1.heap.size := by simp [World.setCell]
    have := hg.size
    rcases hk with hk | hk
    · have := h2 k hk; omega
    · omega
  · have hne : some b ≠ (Value.slice A1 n c1).ownBlock := R_over_blk (v1 := .nilIface) hz ho
    have hq : Kd.R (Kd.int .u8) 5 w1 base (fun k => (G k ∨ (w.heap.size ≤ k ∧ k < w1.heap.size)) ∧ k ≠ b) (.slice A1 n c1) (l ++ bs) :=
      Kd.R_mono (Kd.R_tight rfl ho) (fun k hk => ⟨(ho.1 k hk.symm).imp id (fun h => ⟨h, Kd.R_lt ho k hk.symm⟩), fun e => hne (by rw [← e]; exact hk)⟩)
    exact Kd.R_mono (Kd.R_step hq (fun k hk _ => Below.heap_setCell w1 _ _ k hk.2)) (fun k hk => hk.1)

set_option maxHeartbeats 2000000 in
theorem bytes_W {w : World} {base b : Nat} {G Q : Nat → Prop} {l bs : List Int} (h : Cod w base G b (.W l)) (A : Option Addr) (c : Nat) (n : Int) (hl : bs.length ≤ c) (hr : Kd.F (Kd.int .u8) w (fun k => ¬ G k ∧ Q k) A bs.length bs) (hfit : l.length + bs.length ≤ 140737488355328) :
    Calls Try.prog 53 #[.pointer (some ⟨b, 0, none⟩), .slice A bs.length c, .int .i64 n] w fun e w' => Ends w base G b Q (.ok (bs, .W (l ++ bs))) e w' := by
  obtain ⟨h1, h2, v, h3, h4⟩ := h
  have hbase : base ≤ w.heap.size := by have := h2 b h1; omega
  obtain ⟨Av, cv, rfl, hcv, hCv⟩ := Kd.R_reads h4
  have hlt := h3.lt
  have h3' : Kd.R (Kd.int .u8) 5 w base (fun k => G k ∨ w.heap.size ≤ k) (.slice Av l.length cv) l := Kd.R_mono h4 (fun k hk => .inl hk)
  have HC := Aside0.mk (Kd.F_now hr)
  have HF := Aside0.mk hr
  have H1 := Aside0.mk h1
  have H2 := Aside0.mk h2
  have H3 := Aside0.mk h3
  have H4 := Aside0.mk h4
  have HO := Aside0.mk h3'
  have h30 : World.cell? w ⟨b, 0, none⟩ = some (.slice Av l.length cv) := Blk.cell h3 0
  have h3f0 : World.frozen? w ⟨b, 0, none⟩ = false := Blk.free h3 0
  have h31 : World.cell? w ⟨b, 1, none⟩ = some (.bool false) := Blk.cell h3 1
  have h3f1 : World.frozen? w ⟨b, 1, none⟩ = false := Blk.free h3 1
  clear hr h1 h2 h3 h4 h3' hCv
  go_enter Try.func53, Try.ntmps53
  go_wp2_with (at_builtin; refine Kd.R_append_rows (Kd.int .u8) (w0 := w) base rfl (.tmp 17) (.tmp 18) 24 5 (.int .u8 0) 1 rfl Try.underlying24 info5 rfl (by decide) (by omega) (.slice Av l.length cv) l bs _ _ _ (fun k => G k ∨ w.heap.size ≤ k) (fun _ => False) rfl rfl HO.out HC.out (fun _ _ h => h) (fun _ h => h.elim) (fun _ hk => .inr hk) (Below.refl _ _) hbase (by omega) ?_; intro v1 w1 ho hb hg hat; obtain ⟨A1, c1, rfl, hc1, hC1⟩ := Kd.R_reads ho; rw [show (l ++ bs).length = l.length + bs.length from by simp] at ho hat ⊢; have hz : Blk w1 b #[.slice Av l.length cv, .bool false] 48 := (hg.block b hlt (fun e => R_over_blk (v1 := .nilIface) H3.out H4.out e)).trans H3.out; have HZ := Aside0.mk hz; have z0 : w1.cell? ⟨b, 0, none⟩ = some (.slice Av l.length cv) := (hz.cell 0).trans rfl; have zf : w1.frozen? ⟨b, 0, none⟩ = false := hz.free 0; have HOO := Aside0.mk ho; have HG := Aside0.mk hg; have HAT := Aside0.mk hat; clear ho hb hg hat hC1 hz)
  go_ret
  exact bytesW_close H1.out H2.out H3.out H4.out HF.out HZ.out HOO.out HG.out HAT.out hl

set_option maxHeartbeats 2000000 in
theorem bytes_short {w : World} {base b : Nat} {G Q : Nat → Prop} {l : List Int} (h : Cod w base G b (.R l)) (A : Option Addr) (m c : Nat) (n : Nat) (hn : l.length < n) (bs : List Int) :
    Calls Try.prog 53 #[.pointer (some ⟨b, 0, none⟩), .slice A m c, .int .i64 n] w fun e w' => Ends w base G b Q (step (.R l) bs n) e w' := by
  obtain ⟨h1, h2, A0, c0, h3, h4, h5⟩ := h
  have HS : Aside0 (step (.R l) bs n = .error 201) := ⟨by rw [step, if_pos hn]⟩
  have hlt := h3.lt
  have h30 : World.cell? w ⟨b, 0, none⟩ = some (.slice A0 l.length c0) := Blk.cell h3 0
  have h3f0 : World.frozen? w ⟨b, 0, none⟩ = false := Blk.free h3 0
  have h31 : World.cell? w ⟨b, 1, none⟩ = some (.bool true) := Blk.cell h3 1
  have h3f1 : World.frozen? w ⟨b, 1, none⟩ = false := Blk.free h3 1
  clear h1 h2 h3 h4 h5
  go_enter Try.func53, Try.ntmps53
  go_wp2
  rw [HS.out]
  exact ⟨rfl, G, fun _ hk => .inl hk, Turned.refl _ _, rfl⟩

theorem bytesR_close {w w1 : World} {base b : Nat} {G Q : Nat → Prop} {l : List Int} {A0 A1 : Option Addr} {c0 c1 n : Nat} (h : Cod w base G b (.R l)) (h3 : Blk w b #[.slice A0 l.length c0, .bool true] 48) (h5 : Kd.F (Kd.int .u8) w (fun k => k < base) A0 l.length l) (hn : n ≤ l.length) (h4 : l.length ≤ c0)
    (hr : Kd.R (Kd.int .u8) 5 w1 w.heap.size (fun _ => True) (.slice A1 n c1) (l.take n)) (hb : Below w.heap.size w w1) (A' : Option Addr) (hA : A' = if c0 = n then A0 else A0.map (fun x => x.add n)) {m' c' : Nat} (hm : m' = l.length - n) (hc' : c' = c0 - n) :
    Ends w base G b Q (.ok (l.take n, .R (l.drop n))) (.returned (.slice A1 n c1)) (w1.setCell ⟨b, 0, none⟩ (.slice A' m' c')) := by
  subst hm hc'
  have hlen : (l.take n).length = n := by rw [List.length_take]; omega
  obtain ⟨h1, h2, _⟩ := h
  have hs : (w1.setCell ⟨b, 0, none⟩ (.slice A' (l.length - n) (c0 - n))).heap.size = w1.heap.size := by simp [World.setCell]
  have hlt := h3.lt
  have ht : Turned G w (w1.setCell ⟨b, 0, none⟩ (.slice A' (l.length - n) (c0 - n))) := (Turned.of_below hb G).setCell (.inl h1) _
  refine ⟨G, fun _ hk => .inl hk, ht, ⟨A1, c1, by rw [hlen], by rw [hlen]; exact (Kd.R_reads' hr).2.1, ?_⟩, h1, fun k hk => ⟨by rw [hs]; have := (h2 k hk).1; have := hb.size; omega, (h2 k hk).2⟩, A', c0 - n, ?_, by rw [List.length_drop]; omega, ?_⟩
  · have hf := Kd.R_F (Kd.R_bound hr)
    rw [hlen]
    refine Kd.F_mono (Kd.F_far hf (p := ⟨b, 0, none⟩) (fun k hk e => ?_) _) (fun k hk => ⟨fun hG => ?_, .inr hk.2.1⟩)
    · have : k = b := e
      have := hk.2.1
      omega
    · have := (h2 k hG).1
      have := hk.2.1
      omega
  · have hz : Blk w1 b #[.slice A0 l.length c0, .bool true] 48 := (hb.block _ hlt).trans h3
    rw [List.length_drop]
    exact hz.set 0 _
  · refine Kd.F_step (W1 := w1.setCell ⟨b, 0, none⟩ (.slice A' (l.length - n) (c0 - n))) (W := w) (Kd.F_imp h5 (fun W' hC => ?_)) (fun k hk hlt => ht.block k hlt (fun hG => by have := (h2 k hG).2; omega))
    have hd := Kd.C_drop hC hn h4
    rw [show (Kd.int IntKind.u8).sz = 1 from rfl, Nat.mul_one] at hd
    rw [hA]
    exact hd

set_option maxHeartbeats 2000000 in
theorem bytes_R {w : World} {base b : Nat} {G Q : Nat → Prop} {l : List Int} (h : Cod w base G b (.R l)) (A : Option Addr) (m c : Nat) (n : Nat) (hn : n ≤ l.length) (hl : l.length ≤ 140737488355328) (bs : List Int) :
    Calls Try.prog 53 #[.pointer (some ⟨b, 0, none⟩), .slice A m c, .int .i64 n] w fun e w' => Ends w base G b Q (step (.R l) bs n) e w' := by
  have HH := Aside0.mk h
  obtain ⟨h1, h2, A0, c0, h3, h4, h5⟩ := h
  have HS : Aside0 (step (.R l) bs n = .ok (l.take n, .R (l.drop n))) := ⟨by rw [step, if_neg (by omega)]⟩
  have hlt := h3.lt
  have h30 : World.cell? w ⟨b, 0, none⟩ = some (.slice A0 l.length c0) := Blk.cell h3 0
  have h3f0 : World.frozen? w ⟨b, 0, none⟩ = false := Blk.free h3 0
  have h31 : World.cell? w ⟨b, 1, none⟩ = some (.bool true) := Blk.cell h3 1
  have h3f1 : World.frozen? w ⟨b, 1, none⟩ = false := Blk.free h3 1
  have H3 := Aside0.mk h3
  have H5 := Aside0.mk h5
  clear h1 h2 h3 h5
  go_enter Try.func53, Try.ntmps53
  go_wp2_with fail
  have hlen : (l.take n).length = n := by rw [List.length_take]; omega
  have hcl := clone_any A0 c0 (l.take n) w (by omega) (Kd.C_take (Kd.F_now H5.out) hn)
  rw [hlen] at hcl
  refine hcl.mono ?_
  rintro e w1 ⟨v, rfl, hr1, hb1⟩
  obtain ⟨A1, c1, rfl, hc1, hC1⟩ := Kd.R_reads hr1
  rw [hlen] at hr1 ⊢
  have HR1 := Aside0.mk hr1
  have HB1 := Aside0.mk hb1
  have h31 := (hb1.block _ hlt).trans H3.out
  have h32 : Blk w1 b #[.slice A0 l.length c0, .bool true] 48 := h31
  have H32 := Aside0.mk h32
  have hlt1 := h32.lt
  have h320 : World.cell? w1 ⟨b, 0, none⟩ = some (.slice A0 l.length c0) := Blk.cell h32 0
  have h32f0 : World.frozen? w1 ⟨b, 0, none⟩ = false := Blk.free h32 0
  have h321 : World.cell? w1 ⟨b, 1, none⟩ = some (.bool true) := Blk.cell h32 1
  have h32f1 : World.frozen? w1 ⟨b, 1, none⟩ = false := Blk.free h32 1
  clear hcl hr1 hb1 h31 h32 hC1 hlen
  by_cases hcn : c0 = n
  · go_wp2_with fail
    rw [HS.out]
    go_ret
    exact bytesR_close HH.out H3.out H5.out hn h4 HR1.out HB1.out _ (by rw [if_pos hcn]) (by omega) (by omega)
  · go_wp2_with fail
    rw [HS.out]
    go_ret
    exact bytesR_close HH.out H3.out H5.out hn h4 HR1.out HB1.out _ (by rw [if_neg hcn]) rfl rfl

def Fits (S : St) (m : Nat) : Prop := match S with | .W l => l.length + m ≤ 140737488355328 | .R l => l.length ≤ 140737488355328
/-- bytes, whatever the coder does: bs lies where it may be read; what is laid fits. -/
theorem bytes_any {w : World} {base b : Nat} {G Q : Nat → Prop} {S : St} (h : Cod w base G b S) (A : Option Addr) (c : Nat) (bs : List Int) (n : Nat) (hl : bs.length ≤ c) (hr : Kd.F (Kd.int .u8) w (fun k => ¬ G k ∧ Q k) A bs.length bs) (hfit : Fits S bs.length) :
    Calls Try.prog 53 #[.pointer (some ⟨b, 0, none⟩), .slice A bs.length c, .int .i64 n] w fun e w' => Ends w base G b Q (step S bs n) e w' := by
  cases S with
  | W l => exact bytes_W h A c n hl hr hfit
  | R l =>
    by_cases hn : n ≤ l.length
    · exact bytes_R h A bs.length c n hn hfit bs
    · exact bytes_short h A bs.length c n (by omega) bs
end Go.Proofs.Ytmjbdeoomohanaa.Mine

/- wire: number. -/
set_option linter.unusedSimpArgs false
set_option linter.unusedVariables false
namespace Go.Proofs.Ytmjbdeoomohanaa.Mine
open Go.RowKit Go.Maps Go.Proofs.YtmjbdeoomohanaaW.PrintWords Go.Proofs.YtmjbdeoomohanaaW.PrintLast Go.Proofs.YtmjbdeoomohanaaW.PrintMore Go.Proofs.Ytmjbdeoomohanaa.PWirePacks Go.Proofs.Ytmjbdeoomohanaa.Turn


def dig (n : Int) (sz i : Nat) : Int := n / 2 ^ (8 * (sz - 1 - i)) % 256
def be (n : Int) (sz : Nat) : List Int := (List.range sz).map (dig n sz)
def val (l : List Int) : Int := l.foldl (fun a x => a * 256 + x) 0
def filled (n : Int) (sz k : Nat) : Array Value := ((List.range sz).map (fun i => if i < k then Value.int .u8 (dig n sz i) else Value.int .u8 0)).toArray
theorem filled_at (n : Int) (sz k i : Nat) (hi : i < sz) : (filled n sz k)[i]? = some (if i < k then Value.int .u8 (dig n sz i) else Value.int .u8 0) := by
  simp [filled, hi]
theorem filled_out (n : Int) (sz k i : Nat) (hi : sz ≤ i) : (filled n sz k)[i]? = none := by simp [filled, hi]
theorem filled_size (n : Int) (sz k : Nat) : (filled n sz k).size = sz := by simp [filled]
theorem filled_set (n : Int) (sz k : Nat) (hk : k < sz) : (filled n sz k).setIfInBounds k (.int .u8 (dig n sz k)) = filled n sz (k + 1) := by
  apply Array.ext_getElem?
  intro i
  by_cases hi : i < sz
  · rw [Array.getElem?_setIfInBounds, filled_at n sz (k + 1) i hi, filled_size]
    by_cases e : k = i
    · subst e
      rw [if_pos rfl, if_pos hk, if_pos (by omega)]
    · rw [if_neg e, filled_at n sz k i hi]
      by_cases h : i < k
      · rw [if_pos h, if_pos (by omega)]
      · rw [if_neg h, if_neg (by omega)]
  · rw [filled_out n sz (k + 1) i (by omega), Array.getElem?_eq_none (by simp [filled_size]; omega)]
theorem filled_zero (n : Int) (sz : Nat) : filled n sz 0 = madeCells (Value.int .u8 0).cells (sz * 1) := by
  apply Array.ext
  · simp [filled, madeCells]
  · intro i h1 h2
    simp [filled, madeCells, Value.cells, Nat.mod_one]
theorem run_make_bytes (sz : Nat) (hz : sz ≤ 8) (W : World) : (Instr.makeSlice 24 (.int .i64 sz) (.int .i64 sz)).run Try.prog W = .ok (.slice (some ⟨W.heap.size, 0, none⟩) sz sz) (W.alloc (.cells (filled 0 sz 0) 5)) := by
  obtain ⟨i0, hi, hzz⟩ := Option.map_eq_some_iff.1 info5
  simp only [Prod.mk.injEq] at hzz
  obtain ⟨hz0, hz1, hz2⟩ := hzz
  rw [run_make W 24 5 i0 (.int .u8 0) Try.underlying24 hi hz0 .i64 .i64 sz sz (by omega) (by omega) (by rw [hz2]; omega) (by omega), filled_zero, hz1]
  simp

theorem be_len (n : Int) (sz : Nat) : (be n sz).length = sz := by simp [be]
theorem be_range (n : Int) (sz : Nat) : ∀ x ∈ be n sz, 0 ≤ x ∧ x < 256 := by
  intro x hx
  obtain ⟨i, _, rfl⟩ := List.mem_map.1 hx
  unfold dig
  omega
/-- What a coder holds is small, and bytes. -/
def OkS : St → Prop
  | .W l => l.length ≤ 1099511627776
  | .R l => l.length ≤ 1099511627776 ∧ ∀ x ∈ l, 0 ≤ x ∧ x < 256
theorem OkS.fits {S : St} (h : OkS S) (m : Nat) (hm : m ≤ 1099511627776) : Fits S m := by
  cases S with
  | W l => exact Nat.le_trans (Nat.add_le_add h hm) (by omega)
  | R l => exact Nat.le_trans h.1 (by omega)
theorem step_ok {S S' : St} {bs r : List Int} {n : Nat} (h : OkS S) (hb : ∀ x ∈ bs, 0 ≤ x ∧ x < 256) (hn : bs.length = n) (hs : step S bs n = .ok (r, S')) : r.length = n ∧ ∀ x ∈ r, 0 ≤ x ∧ x < 256 := by
  cases S with
  | W l =>
    simp only [step, Except.ok.injEq, Prod.mk.injEq] at hs
    obtain ⟨rfl, rfl⟩ := hs
    exact ⟨hn, hb⟩
  | R l =>
    simp only [step] at hs
    split at hs
    · cases hs
    · simp only [Except.ok.injEq, Prod.mk.injEq] at hs
      obtain ⟨rfl, rfl⟩ := hs
      exact ⟨by rw [List.length_take]; omega, fun x hx => h.2 x (List.mem_of_mem_take hx)⟩

theorem blk_C {w : World} {g : Nat} {n : Int} {sz : Nat} (h : Blk w g (filled n sz sz) 5) (hz8 : sz ≤ 8) : Kd.C (Kd.int .u8) w (some ⟨g, 0, none⟩) (be n sz).length (be n sz) := by
  rw [be_len]
  refine ⟨be_len _ _, ?_, fun _ => ⟨_, rfl, fun j p hj => ⟨[.int .u8 p], rfl, rfl, fun i u hu => ?_⟩⟩⟩
  · omega
  match i, hu with
  | 0, hu =>
    simp only [List.getElem?_cons_zero, Option.some.injEq] at hu
    subst hu
    have hjl : j < sz := by
      have := (List.getElem?_eq_some_iff.1 hj).1
      rwa [be_len] at this
    have hp : dig n sz j = p := by
      simpa [be, hjl] using hj
    have h2 := (h.cell j).trans (filled_at n sz sz j hjl)
    rw [if_pos hjl, hp] at h2
    rcases Nat.eq_zero_or_pos j with rfl | hj0
    · simpa [Addr.add, Kd.int, Kd.scalar] using h2
    · simpa [Addr.add, Kd.int, Kd.scalar, Nat.ne_of_gt hj0] using h2
  | i + 1, hu => simp at hu

theorem or_turned (k : IntKind) (a b : Int) : bits .or k a b = bits .or k b a := by
  unfold bits
  simp [BitVec.or_comm]
theorem val_take {r : List Int} {j : Nat} (hj : j < r.length) : val (r.take (j + 1)) = val (r.take j) * 256 + r.getD j 0 := by
  rw [List.take_succ_eq_append_getElem hj, val, List.foldl_append, List.getD_eq_getElem?_getD, List.getElem?_eq_getElem hj]
  rfl
theorem val_range {r : List Int} (h : ∀ x ∈ r, 0 ≤ x ∧ x < 256) : ∀ j, j ≤ r.length → 0 ≤ val (r.take j) ∧ val (r.take j) < 256 ^ j := by
  intro j
  induction j with
  | zero => intro _; simp [val]
  | succ j ih =>
    intro hj
    have h1 := ih (by omega)
    have h2 : 0 ≤ r.getD j 0 ∧ r.getD j 0 < 256 := by
      rw [List.getD_eq_getElem?_getD, List.getElem?_eq_getElem (show j < r.length by omega)]
      exact h _ (List.getElem_mem _)
    rw [val_take (show j < r.length by omega), Int.pow_succ]
    omega
theorem join_byte {r : List Int} (h : ∀ x ∈ r, 0 ≤ x ∧ x < 256) {j : Nat} (hj : j < r.length) (h8 : r.length ≤ 8) : bits .or .u64 (IntKind.u64.wrap (val (r.take j) * 256)) (IntKind.u64.wrap (r.getD j 0)) = val (r.take (j + 1)) := by
  have h1 := val_range h j (by omega)
  have h2 : 0 ≤ r.getD j 0 ∧ r.getD j 0 < 256 := by
    rw [List.getD_eq_getElem?_getD, List.getElem?_eq_getElem hj]
    exact h _ (List.getElem_mem _)
  have h3 : (256 : Int) ^ j ≤ 72057594037927936 := by
    have hd : j = 0 ∨ j = 1 ∨ j = 2 ∨ j = 3 ∨ j = 4 ∨ j = 5 ∨ j = 6 ∨ j = 7 := by omega
    rcases hd with rfl | rfl | rfl | rfl | rfl | rfl | rfl | rfl <;> decide
  have e1 : IntKind.u64.wrap (val (r.take j) * 256) = val (r.take j) * 256 := by rw [IntKind.wrap_u64]; omega
  have e2 : IntKind.u64.wrap (r.getD j 0) = r.getD j 0 := by rw [IntKind.wrap_u64]; omega
  rw [val_take hj, e1, e2, or_turned, u64_or8 _ _ h2.1 h2.2 (by omega) (by omega) (by omega)]
  omega

/-- How number ends. -/
def EndsN (w : World) (base : Nat) (G : Nat → Prop) (b : Nat) (x : Except Int (List Int × St)) (e : Ending) (w' : World) : Prop :=
  ∃ G' : Nat → Prop, (∀ k, G' k → G k ∨ w.heap.size ≤ k) ∧ Turned G w w' ∧ match x with
  | .ok (r, S') => e = .returned (.int .u64 (val r)) ∧ Cod w' base G' b S'
  | .error x => e = wrongs x

set_option maxHeartbeats 2000000 in
theorem number_any {w : World} {base b : Nat} {G : Nat → Prop} {S : St} (h : Cod w base G b S) (hS : OkS S) (n : Int) (h0 : 0 ≤ n) (hn : n < 18446744073709551616) (sz : Nat) (hz : 0 < sz) (hz8 : sz ≤ 8) :
    Calls Try.prog 33 #[.pointer (some ⟨b, 0, none⟩), .int .u64 n, .int .i64 sz] w fun e w' => EndsN w base G b (step S (be n sz) sz) e w' := by
  have hmk := run_make_bytes sz hz8
  have HC := Aside0.mk h
  have HS := Aside0.mk hS
  clear h hS
  go_enter Try.func33, Try.ntmps33
  go_wp2_with fail
  have HB0 : Aside0 (Blk (w.alloc (.cells (filled 0 sz 0) 5)) w.heap.size (filled n sz 0) 5) := ⟨by rw [filled_zero n, ← filled_zero 0]; exact Blk.new _ _ _⟩
  go_loopw [15] (fun i wr => ∃ k : Nat, k ≤ sz ∧ i = .int .i64 k ∧ Aside0 (Blk wr w.heap.size (filled n sz k) 5) ∧ Aside0 (Below w.heap.size w wr)) (fun i _ => sz - (intOf i).toNat)
  case atStart => exact ⟨0, Nat.zero_le _, rfl, HB0, ⟨below_alloc (Below.refl _ _) _⟩⟩
  case round =>
    obtain ⟨k, hk, rfl, HX, HB⟩ := hrel
    clear HB0
    by_cases hlt : k < sz
    · have hw1 : IntKind.i64.wrap ((sz : Int) - 1) = (sz : Int) - 1 := IntWalk.i64_in _ (by omega)
      have hw2 : IntKind.i64.wrap ((sz : Int) - 1 - k) = (sz : Int) - 1 - k := IntWalk.i64_in _ (by omega)
      have hw3 : IntKind.i64.wrap (8 * ((sz : Int) - 1 - k)) = 8 * ((sz : Int) - 1 - k) := IntWalk.i64_in _ (by omega)
      have x0 : wr.cell? ⟨w.heap.size, k, none⟩ = some (.int .u8 0) := (HX.out.cell k).trans (by rw [filled_at _ _ _ _ hlt, if_neg (by omega)])
      have xf : wr.frozen? ⟨w.heap.size, k, none⟩ = false := HX.out.free k
      go_wp2_with fail
      go_roundw
      case rel => exact ⟨k + 1, by omega, by go_num, ⟨by rw [← filled_set n sz k hlt]; exact HX.out.set k _⟩, ⟨HB.out.setCell (Nat.le_refl _) _⟩⟩
      case measure => simp [intOf]; omega
    · obtain rfl : k = sz := by omega
      clear hlt hk hmk
      go_wp2_with fail
      have hcod := HC.out.below HB.out
      have hF : Kd.F (Kd.int .u8) wr (fun q => ¬ G q ∧ w.heap.size ≤ q) (some ⟨w.heap.size, 0, none⟩) (be n k).length (be n k) := fun W' hW =>
        blk_C (hz8 := hz8) ((hW w.heap.size ⟨fun hG => by have := (HC.out.2.1 _ hG).1; omega, Nat.le_refl _⟩ HX.out.lt).trans HX.out)
      have hby := bytes_any hcod (some ⟨w.heap.size, 0, none⟩) k (be n k) k (by rw [be_len]; exact Nat.le_refl _) hF (HS.out.fits _ (by rw [be_len]; omega))
      rw [be_len] at hby
      refine hby.mono ?_
      clear hby hF hcod
      obtain ⟨x, hx⟩ : ∃ x, step S (be n k) k = x := ⟨_, rfl⟩
      rw [hx]
      have HSX := Aside0.mk hx
      cases x with
      | error x =>
        rintro e w2 ⟨G', hG', hT', he⟩
        have he2 : e = .panicked [{ v := .iface 63 (.agg #[.int .i64 x]), recovered := false }] := he
        subst he2
        clear he
        have HG := Aside0.mk hG'
        have HT := Aside0.mk hT'
        clear hG' hT' hx
        go_wp2_with fail
        rw [HSX.out]
        exact ⟨rfl, G', fun q hq => (HG.out q hq).imp id (fun h => Nat.le_trans HB.out.size h), (Turned.of_below HB.out G).then_ HT.out (fun _ hk => .inl hk), rfl⟩
      | ok x =>
        obtain ⟨r, S'⟩ := x
        have hr := step_ok HS.out (be_range n k) (be_len n k) hx
        rintro e w2 ⟨G', hG', hT', ⟨A2, c2, rfl, hc2, hF2⟩, hC2⟩
        have HG := Aside0.mk hG'
        have HT := Aside0.mk hT'
        have HC2 := Aside0.mk hC2
        have HR := Aside0.mk (Kd.F_now hF2)
        have HV := Aside0.mk hr.2
        have hrl : r.length = k := hr.1
        clear hG' hT' hx hr hF2 hC2
        go_wp2_with fail
        go_loopw [1, 35] (fun acc i wr2 => ∃ j : Nat, j ≤ r.length ∧ i = .int .i64 j ∧ acc = .int .u64 (val (r.take j)) ∧ Aside0 (w2 = wr2)) (fun _ i _ => r.length - (intOf i).toNat)
        case atStart => exact ⟨0, Nat.zero_le _, rfl, rfl, ⟨rfl⟩⟩
        case round =>
          obtain ⟨j, hj, rfl, rfl, HW⟩ := hrel
          obtain rfl := HW.out
          by_cases hjl : j < r.length
          · obtain ⟨ad, cs, e, _, hK, hcc⟩ := Kd.C_get HR.out 0 (j : Int) (by omega) (by omega)
            cases e
            have hx0 := hcc 0 (.int .u8 (r.getD j 0)) (by rw [show cs = [.int .u8 (r.getD ((j : Int)).toNat 0)] from hK]; simp)
            replace hx0 : w2.cell? (ad.add j) = some (.int .u8 (r.getD j 0)) := by
              rw [Int.toNat_natCast] at hx0
              simpa [Kd.int, Kd.scalar] using hx0
            clear hcc hK
            generalize hxx : r.getD j 0 = x at hx0
            have HXX := Aside0.mk hxx
            clear hxx
            go_wp2_with fail
            go_roundw
            case rel => exact ⟨j + 1, by omega, by go_num, by rw [← HXX.out, join_byte HV.out hjl (by omega)], ⟨by first | exact rfl | exact trivial⟩⟩
            case measure => simp [intOf]; omega
          · obtain rfl : j = r.length := by omega
            rw [List.take_length]
            go_wp2_with fail
            rw [HSX.out]
            go_ret
            exact ⟨G', fun q hq => (HG.out q hq).imp id (fun h => Nat.le_trans HB.out.size h), (Turned.of_below HB.out G).then_ HT.out (fun _ hk => .inl hk), rfl, HC2.out⟩
end Go.Proofs.Ytmjbdeoomohanaa.Mine

/- wire: a message as data; which fields are set. -/
set_option linter.unusedSimpArgs false
set_option linter.unusedVariables false
namespace Go.Proofs.Ytmjbdeoomohanaa.Mine
open Go.RowKit Go.Maps Go.Proofs.YtmjbdeoomohanaaW.PrintWords Go.Proofs.YtmjbdeoomohanaaW.PrintLast Go.Proofs.YtmjbdeoomohanaaW.PrintMore Go.Proofs.Ytmjbdeoomohanaa.PWirePacks Go.Proofs.Ytmjbdeoomohanaa.Turn

structure Msg where
  ty : Int
  view : Int
  normal : Int
  op : Int
  commit : Int
  log : List S44
  client : Int
  seq : Int
  body : List Int
  key : Int
  shard : Int
  stripe : Int
  code : Int
  blocks : List (List Int)
/-- A message's cells. -/
def mcells (m : Msg) (A5 : Option Addr) (c5 : Nat) (A8 : Option Addr) (c8 : Nat) (A13 : Option Addr) (c13 : Nat) : Array Value :=
  #[.int .u8 m.ty, .int .u64 m.view, .int .u64 m.normal, .int .i64 m.op, .int .i64 m.commit, .slice A5 m.log.length c5, .int .u64 m.client, .int .u64 m.seq, .slice A8 m.body.length c8, .int .u64 m.key, .int .u8 m.shard, .int .u32 m.stripe, .int .i64 m.code, .slice A13 m.blocks.length c13]

def bitN (c : Bool) (f : Int) : Int := if c then f else 0
set_option maxHeartbeats 1000000 in
theorem bit_any (c : Bool) (f : Int) (w : World) : Calls Try.prog 49 #[.bool c, .int .i64 f] w fun e w' => e = .returned (.int .i64 (bitN c f)) ∧ w' = w := by
  cases c
  · go_enter Try.func49, Try.ntmps49
    go_wp2
    go_ret
    exact ⟨rfl, rfl⟩
  · go_enter Try.func49, Try.ntmps49
    go_wp2
    go_ret
    exact ⟨rfl, rfl⟩


/-- Which fields are set, in their order. -/
def setL (m : Msg) : List Bool := [m.view != 0, m.normal != 0, m.op != 0, m.commit != 0, decide (0 < m.log.length), m.client != 0, m.seq != 0, decide (0 < m.body.length), m.key != 0, m.shard != 0, m.stripe != 0, m.code != 0, decide (0 < m.blocks.length)]
def orL : List Bool → Nat → Nat
  | [], _ => 0
  | c :: s, k => (if c then 2 ^ k else 0) ||| orL s (k + 1)
theorem orL_bit : ∀ (s : List Bool) (k i : Nat), (orL s k).testBit i = (decide (k ≤ i) && s.getD (i - k) false)
  | [], k, i => by simp [orL]
  | c :: s, k, i => by
    rw [orL, Nat.testBit_or, orL_bit s (k + 1) i]
    rcases Nat.lt_trichotomy i k with h | rfl | h
    · have h1 : (if c then 2 ^ k else 0 : Nat).testBit i = false := by
        split
        · rw [Nat.testBit_two_pow]; exact decide_eq_false (by omega)
        · simp
      rw [h1]
      simp [show ¬ k ≤ i by omega, show ¬ k + 1 ≤ i by omega]
    · have h1 : (if c then 2 ^ i else 0 : Nat).testBit i = c := by
        split
        · rw [Nat.testBit_two_pow]; simp [*]
        · simp [*]
      rw [h1]
      simp [show ¬ i + 1 ≤ i by omega]
    · have h1 : (if c then 2 ^ k else 0 : Nat).testBit i = false := by
        split
        · rw [Nat.testBit_two_pow]; exact decide_eq_false (by omega)
        · simp
      rw [h1]
      obtain ⟨j, rfl⟩ : ∃ j, i = k + 1 + j := ⟨i - (k + 1), by omega⟩
      simp [show k + 1 + j - k = j + 1 by omega, show k + 1 + j - (k + 1) = j by omega, show k ≤ k + 1 + j by omega]
theorem orL_lt : ∀ (s : List Bool) (k : Nat), orL s k < 2 ^ (k + s.length)
  | [], k => by simp [orL]; exact Nat.two_pow_pos _
  | c :: s, k => by
    rw [orL]
    refine Nat.or_lt_two_pow ?_ (by have := orL_lt s (k + 1); rwa [show k + 1 + s.length = k + (c :: s).length by simp; omega] at this)
    split
    · exact Nat.pow_lt_pow_right (by omega) (by simp)
    · exact Nat.two_pow_pos _
theorem or_i64 (a b : Nat) (ha : a < 2 ^ 62) (hb : b < 2 ^ 62) : bits .or .i64 (a : Int) (b : Int) = ((a ||| b : Nat) : Int) := by
  have h := Nat.or_lt_two_pow ha hb
  have e1 : (BitVec.ofInt IntKind.i64.bits (a : Int) ||| BitVec.ofInt IntKind.i64.bits (b : Int)).toNat = a ||| b := by
    rw [show IntKind.i64.bits = 64 from rfl, BitVec.toNat_or, BitVec.ofInt_natCast, BitVec.ofInt_natCast, BitVec.toNat_ofNat, BitVec.toNat_ofNat, Nat.mod_eq_of_lt (by omega), Nat.mod_eq_of_lt (by omega)]
  show IntKind.i64.wrap ((BitVec.ofInt IntKind.i64.bits (a : Int) ||| BitVec.ofInt IntKind.i64.bits (b : Int)).toNat : Int) = _
  rw [e1, IntKind.wrap_i64]
  omega
theorem andNot_i64 (a b : Nat) (ha : a < 2 ^ 62) (hb : b < 2 ^ 62) : (bits .andNot .i64 (a : Int) (b : Int) != 0) = (List.range 62).any fun i => a.testBit i && !b.testBit i := by
  obtain ⟨V, hV⟩ : ∃ V, (BitVec.ofNat 64 a &&& ~~~BitVec.ofNat 64 b) = V := ⟨_, rfl⟩
  have hbit : ∀ i, V.toNat.testBit i = (decide (i < 64) && a.testBit i && !b.testBit i) := fun i => by
    rw [BitVec.testBit_toNat, ← hV, BitVec.getLsbD_and, BitVec.getLsbD_not, BitVec.getLsbD_ofNat, BitVec.getLsbD_ofNat]
    by_cases hi : i < 64 <;> simp [hi]
  have hle : V.toNat < 2 ^ 62 := by
    rw [← hV, BitVec.toNat_and]
    refine Nat.lt_of_le_of_lt Nat.and_le_left ?_
    rw [BitVec.toNat_ofNat, Nat.mod_eq_of_lt (by omega)]
    exact ha
  have hval : bits .andNot .i64 (a : Int) (b : Int) = (V.toNat : Int) := by
    have e : (BitVec.ofInt IntKind.i64.bits (a : Int) &&& ~~~BitVec.ofInt IntKind.i64.bits (b : Int)).toNat = V.toNat := by
      rw [← hV]
      show (BitVec.ofInt 64 (a : Int) &&& ~~~BitVec.ofInt 64 (b : Int)).toNat = _
      rw [BitVec.ofInt_natCast, BitVec.ofInt_natCast]
    show IntKind.i64.wrap ((BitVec.ofInt IntKind.i64.bits (a : Int) &&& ~~~BitVec.ofInt IntKind.i64.bits (b : Int)).toNat : Int) = _
    rw [e, IntKind.wrap_i64]
    omega
  rw [hval]
  cases hq : (List.range 62).any fun i => a.testBit i && !b.testBit i with
  | true =>
    rw [List.any_eq_true] at hq
    obtain ⟨i, hi, h1⟩ := hq
    have hi2 : i < 62 := by simpa using hi
    have h2 := hbit i
    rw [bne_iff_ne]
    intro h3
    have h4 : V.toNat = 0 := by omega
    rw [h4, Nat.zero_testBit, Bool.and_assoc, h1] at h2
    simp at h2
    omega
  | false =>
    rw [List.any_eq_false] at hq
    have h4 : V.toNat = 0 := by
      apply Nat.eq_of_testBit_eq
      intro i
      rw [Nat.zero_testBit, hbit i, Bool.and_assoc]
      by_cases hi : i < 62
      · have := hq i (by simpa using hi)
        have h5 : (a.testBit i && !b.testBit i) = false := by simpa using this
        rw [h5, Bool.and_false]
      · have : a.testBit i = false := Nat.testBit_lt_two_pow (Nat.lt_of_lt_of_le ha (Nat.pow_le_pow_right (by omega) (by omega)))
        simp [this]
    rw [h4]
    rfl
/-- Is a field set that the type does not have? -/
def badF (s : List Bool) (h : Nat) : Bool := (List.range 62).any fun i => s.getD i false && !h.testBit i
def setN (m : Msg) : Int := (orL (setL m) 0 : Nat)
theorem bitN_nat (c : Bool) (k : Nat) : bitN c ((2 ^ k : Nat) : Int) = ((if c then 2 ^ k else 0 : Nat) : Int) := by
  unfold bitN
  cases c <;> simp
theorem setN_bad (m : Msg) (h : Nat) (hh : h < 2 ^ 62) : (bits .andNot .i64 (setN m) (h : Int) != 0) = badF (setL m) h := by
  have hl := orL_lt (setL m) 0
  have hl2 : orL (setL m) 0 < 2 ^ 62 := Nat.lt_of_lt_of_le hl (Nat.pow_le_pow_right (by omega) (by simp [setL]))
  rw [setN, andNot_i64 _ _ hl2 hh, badF]
  congr 1
  funext i
  rw [orL_bit]
  simp

set_option maxHeartbeats 4000000 in
set_option maxRecDepth 100000 in
theorem set_any (m : Msg) (A5 : Option Addr) (c5 : Nat) (A8 : Option Addr) (c8 : Nat) (A13 : Option Addr) (c13 : Nat) (w : World) :
    Calls Try.prog 22 #[.agg (mcells m A5 c5 A8 c8 A13 c13)] w fun e w' => e = .returned (.int .i64 (setN m)) ∧ Below w.heap.size w w' := by
  obtain ⟨x0, x1, x2, x3, x4, x5, x6, x7, x8, x9, x10, x11, x12, x13⟩ := m
  have HN : Aside0 (setN ⟨x0, x1, x2, x3, x4, x5, x6, x7, x8, x9, x10, x11, x12, x13⟩ = bits BinOp.or IntKind.i64 (bits BinOp.or IntKind.i64 (bits BinOp.or IntKind.i64 (bits BinOp.or IntKind.i64 (bits BinOp.or IntKind.i64 (bits BinOp.or IntKind.i64 (bits BinOp.or IntKind.i64 (bits BinOp.or IntKind.i64 (bits BinOp.or IntKind.i64 (bits BinOp.or IntKind.i64 (bits BinOp.or IntKind.i64 (bits BinOp.or IntKind.i64 (bitN (x1 != 0) 1) (bitN (x2 != 0) 2)) (bitN (x3 != 0) 4)) (bitN (x4 != 0) 8)) (bitN (decide (0 < x5.length)) 16)) (bitN (x6 != 0) 32)) (bitN (x7 != 0) 64)) (bitN (decide (0 < x8.length)) 128)) (bitN (x9 != 0) 256)) (bitN (x10 != 0) 512)) (bitN (x11 != 0) 1024)) (bitN (x12 != 0) 2048)) (bitN (decide (0 < x13.length)) 4096)) := ⟨by
    have hb : ∀ (c : Bool) (k : Nat) (f : Int), f = ((2 ^ k : Nat) : Int) → bitN c f = ((if c then 2 ^ k else 0 : Nat) : Int) := fun c k f hf => by rw [hf]; exact bitN_nat c k
    rw [hb _ 0 1 rfl, hb _ 1 2 rfl, hb _ 2 4 rfl, hb _ 3 8 rfl, hb _ 4 16 rfl, hb _ 5 32 rfl, hb _ 6 64 rfl, hb _ 7 128 rfl, hb _ 8 256 rfl, hb _ 9 512 rfl, hb _ 10 1024 rfl, hb _ 11 2048 rfl, hb _ 12 4096 rfl]
    have hs : ∀ (c : Bool) (k : Nat), k ≤ 12 → (if c then 2 ^ k else 0 : Nat) < 2 ^ 62 := fun c k hk => by
      split
      · exact Nat.pow_lt_pow_right (by omega) (by omega)
      · exact Nat.two_pow_pos _
    have ho : ∀ (a b : Nat), a < 2 ^ 62 → b < 2 ^ 62 → a ||| b < 2 ^ 62 := fun a b ha hb => Nat.or_lt_two_pow ha hb
    repeat rw [or_i64 _ _ (by repeat' (first | apply ho | (apply hs; omega))) (by apply hs; omega)]
    unfold setN setL
    simp only [orL, Nat.or_zero, Nat.or_assoc, Nat.zero_add]⟩
  unfold mcells
  simp only
  go_enter Try.func22, Try.ntmps22
  go_wp2_with fail
  go_quiet ((go_at_call 49; exact Calls.quiet_of_same (bit_any _ _ _)))
  go_wp2
  go_ret
  exact ⟨by rw [HN.out]; rfl, pw_below_drewN (below_alloc (Below.refl _ _) _) _⟩
end Go.Proofs.Ytmjbdeoomohanaa.Mine

/- wire: count and text. -/
set_option linter.unusedSimpArgs false
set_option linter.unusedVariables false
namespace Go.Proofs.Ytmjbdeoomohanaa.Mine
open Go.RowKit Go.Maps Go.Proofs.YtmjbdeoomohanaaW.PrintWords Go.Proofs.YtmjbdeoomohanaaW.PrintLast Go.Proofs.YtmjbdeoomohanaaW.PrintMore Go.Proofs.Ytmjbdeoomohanaa.PWirePacks Go.Proofs.Ytmjbdeoomohanaa.Turn

def countS (S : St) (n : Int) (sz : Nat) (most bad : Int) : Except Int (Int × St) :=
  match step S (be n sz) sz with
  | .error x => .error x
  | .ok (r, S') => if most < val r then .error bad else .ok (val r, S')

theorem val_nat {r : List Int} (h : ∀ x ∈ r, 0 ≤ x ∧ x < 256) : 0 ≤ val r := by
  have := (val_range h r.length (Nat.le_refl _)).1
  rwa [List.take_length] at this

/-- How count ends. -/
def EndsC (w : World) (base : Nat) (G : Nat → Prop) (b : Nat) (x : Except Int (Int × St)) (e : Ending) (w' : World) : Prop :=
  ∃ G' : Nat → Prop, (∀ k, G' k → G k ∨ w.heap.size ≤ k) ∧ Turned G w w' ∧ match x with
  | .ok (r, S') => e = .returned (.int .i64 r) ∧ Cod w' base G' b S'
  | .error x => e = wrongs x

set_option maxHeartbeats 2000000 in
theorem count_any {w : World} {base b : Nat} {G : Nat → Prop} {S : St} (h : Cod w base G b S) (hS : OkS S) (n : Int) (h0 : 0 ≤ n) (hn : n ≤ 4611686018427387904) (sz : Nat) (hz : 0 < sz) (hz8 : sz ≤ 8) (most bad : Int) (hm0 : 0 ≤ most) (hm : most ≤ 4611686018427387904) :
    Calls Try.prog 58 #[.pointer (some ⟨b, 0, none⟩), .int .i64 n, .int .i64 sz, .int .i64 most, .int .i64 bad] w fun e w' => EndsC w base G b (countS S n sz most bad) e w' := by
  have HN := Aside0.mk (number_any h hS n h0 (by omega) sz hz hz8)
  have HSO := Aside0.mk hS
  clear h hS
  have hw1 : IntKind.u64.wrap n = n := by rw [IntKind.wrap_u64]; omega
  have hw2 : IntKind.u64.wrap most = most := by rw [IntKind.wrap_u64]; omega
  have HE := Aside0.mk (countS.eq_def S n sz most bad)
  obtain ⟨x, hx⟩ : ∃ x, step S (be n sz) sz = x := ⟨_, rfl⟩
  have HV : Aside0 (∀ r S', x = .ok (r, S') → 0 ≤ val r) := ⟨fun r S' e => val_nat (step_ok HSO.out (be_range n sz) (be_len n sz) (by rw [hx, e])).2⟩
  rw [hx] at HN HE
  clear hx
  generalize countS S n sz most bad = X at HE ⊢
  go_enter Try.func58, Try.ntmps58
  go_wp2_with fail
  refine HN.out.mono ?_
  cases x with
  | error x =>
    rintro e w2 ⟨G', hG', hT', he⟩
    have he2 : e = .panicked [{ v := .iface 63 (.agg #[.int .i64 x]), recovered := false }] := he
    subst he2
    clear he
    have HG := Aside0.mk hG'
    have HT := Aside0.mk hT'
    clear hG' hT'
    go_wp2_with fail
    rw [HE.out]
    exact ⟨rfl, G', HG.out, HT.out, rfl⟩
  | ok x =>
    obtain ⟨r, S'⟩ := x
    rintro e w2 ⟨G', hG', hT', rfl, hC2⟩
    have HG := Aside0.mk hG'
    have HT := Aside0.mk hT'
    have HC2 := Aside0.mk hC2
    have hv0 := HV.out r S' rfl
    clear hG' hT' hC2
    obtain ⟨v, hv⟩ : ∃ v, val r = v := ⟨_, rfl⟩
    simp only at HE
    rw [hv] at HE hv0 ⊢
    clear hv
    by_cases hlt : most < v
    · have HX : Aside0 (X = .error bad) := ⟨by rw [HE.out, if_pos hlt]⟩
      clear HE
      go_wp2_with fail
      rw [HX.out]
      exact ⟨rfl, G', HG.out, HT.out, rfl⟩
    · have HX : Aside0 (X = .ok (v, S')) := ⟨by rw [HE.out, if_neg hlt]⟩
      have hw3 : IntKind.i64.wrap v = v := IntWalk.i64_in _ (by omega)
      clear HE
      go_wp2_with fail
      rw [HX.out]
      go_ret
      exact ⟨G', HG.out, HT.out, rfl, HC2.out⟩
def textS (S : St) (bs : List Int) : Except Int (List Int × St) :=
  match countS S bs.length 2 2048 2 with
  | .error x => .error x
  | .ok (n, S') => step S' bs n.toNat

/-- What a coder holds is less than N. -/
def OkT (N : Nat) : St → Prop
  | .W l => l.length ≤ N
  | .R l => l.length ≤ N ∧ ∀ x ∈ l, 0 ≤ x ∧ x < 256
theorem OkT.ok {N : Nat} {S : St} (h : OkT N S) (hN : N ≤ 1099511627776) : OkS S := by
  cases S with
  | W l => exact Nat.le_trans h hN
  | R l => exact ⟨Nat.le_trans h.1 hN, h.2⟩
theorem OkT.mono {N N' : Nat} {S : St} (h : OkT N S) (hN : N ≤ N') : OkT N' S := by
  cases S with
  | W l => exact Nat.le_trans h hN
  | R l => exact ⟨Nat.le_trans h.1 hN, h.2⟩
theorem OkT.step {N : Nat} {S S' : St} {bs r : List Int} {n : Nat} (h : OkT N S) (hs : step S bs n = .ok (r, S')) : OkT (N + bs.length) S' := by
  cases S with
  | W l =>
    simp only [Mine.step, Except.ok.injEq, Prod.mk.injEq] at hs
    obtain ⟨rfl, rfl⟩ := hs
    have : l.length ≤ N := h
    simp only [OkT, List.length_append]
    omega
  | R l =>
    simp only [Mine.step] at hs
    split at hs
    · cases hs
    · simp only [Except.ok.injEq, Prod.mk.injEq] at hs
      obtain ⟨rfl, rfl⟩ := hs
      have h1 := h.1
      simp only [OkT, List.length_drop]
      exact ⟨by omega, fun x hx => h.2 x (List.mem_of_mem_drop hx)⟩
theorem OkT.count {N : Nat} {S S' : St} {n m : Int} {sz : Nat} {most bad : Int} (h : OkT N S) (hs : countS S n sz most bad = .ok (m, S')) (hN : N ≤ 1099511627776) : OkT (N + sz) S' ∧ 0 ≤ m ∧ m ≤ most := by
  unfold countS at hs
  split at hs
  · cases hs
  · rename_i r S1 h1
    split at hs
    · cases hs
    · simp only [Except.ok.injEq, Prod.mk.injEq] at hs
      obtain ⟨rfl, rfl⟩ := hs
      have h2 := h.step h1
      rw [be_len] at h2
      exact ⟨h2, val_nat (step_ok (h.ok hN) (be_range _ _) (be_len _ _) h1).2, by omega⟩
theorem OkT.fits {N : Nat} {S : St} (h : OkT N S) (m : Nat) (hm : N + m ≤ 140737488355328) : Fits S m := by
  cases S with
  | W l => exact Nat.le_trans (Nat.add_le_add_right h m) hm
  | R l => exact Nat.le_trans h.1 (by omega)

theorem Ends.after {w w1 w' : World} {base b : Nat} {G G1 Q : Nat → Prop} {x : Except Int (List Int × St)} {e : Ending} (hG : ∀ k, G1 k → G k ∨ w.heap.size ≤ k) (hT : Turned G w w1) (h : Ends w1 base G1 b (fun k => Q k ∨ w.heap.size ≤ k) x e w') : Ends w base G b Q x e w' := by
  obtain ⟨G', hG', hT', h3⟩ := h
  refine ⟨G', fun k hk => (hG' k hk).elim (hG k) (fun h => .inr (Nat.le_trans hT.size h)), hT.then_ hT' hG, ?_⟩
  cases x with
  | error x => exact h3
  | ok x =>
    obtain ⟨r, S'⟩ := x
    obtain ⟨⟨A, c, he, hc, hF⟩, hC⟩ := h3
    exact ⟨⟨A, c, he, hc, Kd.F_mono hF (fun k hk => ⟨hk.1, hk.2.elim id (fun h => .inr (Nat.le_trans hT.size h))⟩)⟩, hC⟩

set_option maxHeartbeats 2000000 in
theorem text_any {w : World} {base b : Nat} {G Q : Nat → Prop} {S : St} (h : Cod w base G b S) {N : Nat} (hS : OkT N S) (hN : N ≤ 549755813888) (A : Option Addr) (c : Nat) (bs : List Int) (hl : bs.length ≤ c) (hbs : bs.length ≤ 549755813888) (hr : Kd.F (Kd.int .u8) w (fun k => ¬ G k ∧ Q k) A bs.length bs) :
    Calls Try.prog 59 #[.pointer (some ⟨b, 0, none⟩), .slice A bs.length c] w fun e w' => Ends w base G b Q (textS S bs) e w' := by
  have HN := Aside0.mk (count_any h (hS.ok (by omega)) bs.length (by omega) (by omega) 2 (by omega) (by omega) 2048 2 (by omega) (by omega))
  have HF := Aside0.mk hr
  have HS := Aside0.mk hS
  have HE := Aside0.mk (textS.eq_def S bs)
  clear h hr hS
  obtain ⟨x, hx⟩ : ∃ x, countS S bs.length 2 2048 2 = x := ⟨_, rfl⟩
  have HV : Aside0 (∀ r S', x = .ok (r, S') → OkT (N + 2) S' ∧ 0 ≤ r ∧ r ≤ 2048) := ⟨fun r S' e => HS.out.count (by rw [hx, e]) (by omega)⟩
  rw [hx] at HN HE
  clear hx
  generalize textS S bs = X at HE ⊢
  go_enter Try.func59, Try.ntmps59
  go_wp2_with fail
  refine HN.out.mono ?_
  cases x with
  | error x =>
    rintro e w2 ⟨G', hG', hT', he⟩
    have he2 : e = .panicked [{ v := .iface 63 (.agg #[.int .i64 x]), recovered := false }] := he
    subst he2
    clear he
    have HG := Aside0.mk hG'
    have HT := Aside0.mk hT'
    clear hG' hT'
    go_wp2_with fail
    rw [HE.out]
    exact ⟨rfl, G', HG.out, HT.out, rfl⟩
  | ok x =>
    obtain ⟨r, S'⟩ := x
    rintro e w2 ⟨G', hG', hT', rfl, hC2⟩
    obtain ⟨hv1, hv2, hv3⟩ := HV.out r S' rfl
    obtain ⟨k, rfl⟩ : ∃ k : Nat, r = k := ⟨r.toNat, by omega⟩
    have HB := Aside0.mk (bytes_any hC2 A c bs k hl (F_turn HF.out hT' hG') (hv1.fits _ (by omega)))
    have HG := Aside0.mk hG'
    have HT := Aside0.mk hT'
    simp only [Int.toNat_natCast] at HE
    clear hG' hT' hC2 hv1
    generalize step S' bs k = y at HB HE
    go_wp2_with fail
    refine HB.out.mono ?_
    cases y with
    | error y =>
      intro e w3 hE
      obtain ⟨G3, hG3, hT3, he⟩ := hE
      have he2 : e = .panicked [{ v := .iface 63 (.agg #[.int .i64 y]), recovered := false }] := he
      subst he2
      have HH := Aside0.mk (show Ends w2 base G' b (fun k => Q k ∨ w.heap.size ≤ k) (.error y) _ w3 from ⟨G3, hG3, hT3, rfl⟩)
      clear hG3 hT3 he
      go_wp2_with fail
      rw [HE.out]
      exact ⟨rfl, HH.out.after HG.out HT.out⟩
    | ok y =>
      obtain ⟨q, S3⟩ := y
      rintro e w3 ⟨G3, hG3, hT3, ⟨A3, c3, rfl, hc3, hF3⟩, hC3⟩
      have HH := Aside0.mk (show Ends w2 base G' b (fun k => Q k ∨ w.heap.size ≤ k) (.ok (q, S3)) _ w3 from ⟨G3, hG3, hT3, ⟨A3, c3, rfl, hc3, hF3⟩, hC3⟩)
      clear hG3 hT3 hF3 hC3
      go_wp2_with fail
      rw [HE.out]
      go_ret
      exact HH.out.after HG.out HT.out
end Go.Proofs.Ytmjbdeoomohanaa.Mine
