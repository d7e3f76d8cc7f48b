import Derived.Test.YtopehfjohifpnaaDoorZ17
import Derived.Deep.RegionHeld3
section
set_option linter.unusedSimpArgs false
set_option linter.unusedVariables false
namespace Go.Proofs.YtopehfjohifpnaaDoor.Mine
open Go.RowKit Go.Shelf Go.Proofs.YtopehfjohifpnaaDoorW.PrintWords Go.Proofs.YtopehfjohifpnaaDoorW.PrintLast Go.Proofs.YtopehfjohifpnaaDoorW.PrintMore Go.Proofs.YtopehfjohifpnaaDoor.Turn Go.Proofs.YtopehfjohifpnaaDoor.Doc
def Bt (l : List S25) : Prop := ∀ i, i < l.length → ∀ b ∈ (itm l i).f4, 0 ≤ b ∧ b < 256
theorem str_inj : ∀ {a b : List Int}, (∀ x ∈ a, 0 ≤ x ∧ x < 256) → (∀ x ∈ b, 0 ≤ x ∧ x < 256) → (strOfNums a).toList = (strOfNums b).toList → a = b := fun {a b} ha hb h => by
  rw [Lib.toList_data, Lib.toList_data] at h
  have e : ∀ l : List Int, (strOfNums l).data.toList = l.map (fun x => UInt8.ofNat x.toNat) := fun l => by
    unfold strOfNums
    simp
  rw [e, e] at h
  induction a generalizing b with
  | nil => cases b with
    | nil => rfl
    | cons c b => simp at h
  | cons d a ih => cases b with
    | nil => simp at h
    | cons c b =>
      simp only [List.map_cons, List.cons.injEq] at h
      have h1 := ha d List.mem_cons_self
      have h2 := hb c List.mem_cons_self
      have h3 := congrArg UInt8.toNat h.1
      simp only [UInt8.toNat_ofNat'] at h3
      rw [ih (fun x hx => ha x (List.mem_cons_of_mem _ hx)) (fun x hx => hb x (List.mem_cons_of_mem _ hx)) h.2, (by omega : d = c)]
set_option maxRecDepth 100000 in
set_option maxHeartbeats 8000000 in
theorem sameU_any (A1 A2 : Option Addr) (c1 c2 : Nat) (l u : List S25) (hbl : Bt l) (hbu : Bt u) (w : World) (hr1 : Kd.C k25 w A1 l.length l) (hr2 : Kd.C k25 w A2 u.length u) :
    Calls Tryd.prog 11 #[.slice A1 l.length c1, .slice A2 u.length c2] w fun e w' => (∃ b, e = .returned (.bool b) ∧ (b = true ↔ l = u)) ∧ Below w.heap.size w w' := by
  have HR1 := Aside0.mk hr1
  have HR2 := Aside0.mk hr2
  have HBL := Aside0.mk hbl
  have HBU := Aside0.mk hbu
  have hln := hr1.2.1
  have hln2 := hr2.2.1
  clear hr1 hr2 hbl hbu
  by_cases hlen : l.length = u.length
  case neg =>
    have HN := Aside0.mk (fun e : l = u => hlen (by rw [e]))
    have hd : ((l.length : Int) != (u.length : Int)) = true := bne_iff_ne.2 (by omega)
    have hd2 : (l.length == u.length) = false := beq_eq_false_iff_ne.2 hlen
    go_enter Tryd.func11, Tryd.ntmps11
    go_wp2_with fail
    go_ret
    exact ⟨⟨false, rfl, ⟨fun e => (by cases e), fun e => absurd e HN.out⟩⟩, Below.refl _ _⟩
  case pos =>
    have HLEN := Aside0.mk hlen
    rw [← hlen]
    clear hlen hln2
    go_enter Tryd.func11, Tryd.ntmps11
    go_wp2_with fail
    go_loopw [5] (fun v X => ∃ i : Nat, i ≤ l.length ∧ v = .int .i64 i ∧ Aside0 (∀ j, j < i → itm l j = itm u j) ∧ Aside0 (Below w.heap.size w X)) (fun v _ => l.length - (intOf v).toNat)
    case atStart => exact ⟨0, Nat.zero_le _, rfl, ⟨fun j hj => absurd hj (Nat.not_lt_zero _)⟩, ⟨Below.refl _ _⟩⟩
    case round =>
      rename World => X
      obtain ⟨i, hi, rfl, HEQ, HB⟩ := hrel
      by_cases hlt : i < l.length
      · have hbd1 := HBL.out i hlt
        have hbd2 := HBU.out i (by have := HLEN.out; omega)
        have HNX : Aside0 (l = u → itm l i = itm u i) := ⟨fun e => by rw [e]⟩
        obtain ⟨ad, A4, c4, e, g0, g1, g2, g3, g4, g5, h6, h7⟩ := cells_I (Kd.C_below HR1.out HB.out) hlt
        subst e
        obtain ⟨ad', A4', c4', e, g0', g1', g2', g3', g4', g5', h6', h7'⟩ := cells_I (Kd.C_below HR2.out HB.out) (i := i) (by have := HLEN.out; omega)
        subst e
        have hbl := World.block_lt_of_cell? _ _ g0
        have hbl' := World.block_lt_of_cell? _ _ g0'
        obtain ⟨x, hx⟩ : ∃ x, itm l i = x := ⟨_, rfl⟩
        obtain ⟨x', hx'⟩ : ∃ x', itm u i = x' := ⟨_, rfl⟩
        rw [hx] at g0 g1 g2 g3 g4 g5 h6 h7 hbd1 HNX
        rw [hx'] at g0' g1' g2' g3' g4' g5' h6' h7' hbd2 HNX
        have HX1 := Aside0.mk hx
        have HX2 := Aside0.mk hx'
        clear hx hx'
        obtain ⟨p, k, m, t, bd, q⟩ := x
        obtain ⟨p', k', m', t', bd', q'⟩ := x'
        simp only at g0 g1 g2 g3 g4 g5 h6 h7 g0' g1' g2' g3' g4' g5' h6' h7' hbd1 hbd2
        have HC1 := Aside0.mk h7
        have HC2 := Aside0.mk h7'
        have HST : Aside0 ((strOfNums bd).toList = (strOfNums bd').toList → bd = bd') := ⟨str_inj hbd1 hbd2⟩
        obtain ⟨nb, hnb⟩ : ∃ nb, bd.length = nb := ⟨_, rfl⟩
        obtain ⟨nb', hnb'⟩ : ∃ nb', bd'.length = nb' := ⟨_, rfl⟩
        rw [hnb] at g4 HC1 h6
        rw [hnb'] at g4' HC2 h6'
        have HNB := Aside0.mk hnb
        have HNB' := Aside0.mk hnb'
        clear h6 h6' h7 h7' hbd1 hbd2 hnb hnb'
        have hsz : (X.alloc (.cells #[.string p, .int .u8 k, .int .i64 m, .int .i64 t, .slice A4 nb c4, .string q] 25)).heap.size = X.heap.size + 1 := Array.size_push ..
        have HX6 : Aside0 (Blk ((X.alloc (.cells #[.string p, .int .u8 k, .int .i64 m, .int .i64 t, .slice A4 nb c4, .string q] 25)).alloc (.cells #[.string p', .int .u8 k', .int .i64 m', .int .i64 t', .slice A4' nb' c4', .string q'] 25)) X.heap.size #[.string p, .int .u8 k, .int .i64 m, .int .i64 t, .slice A4 nb c4, .string q] 25) := ⟨(Blk.new X _ _).alloc _⟩
        have HX7 : Aside0 (Blk ((X.alloc (.cells #[.string p, .int .u8 k, .int .i64 m, .int .i64 t, .slice A4 nb c4, .string q] 25)).alloc (.cells #[.string p', .int .u8 k', .int .i64 m', .int .i64 t', .slice A4' nb' c4', .string q'] 25)) (X.heap.size + 1) #[.string p', .int .u8 k', .int .i64 m', .int .i64 t', .slice A4' nb' c4', .string q'] 25) := ⟨by have h := Blk.new (X.alloc (.cells #[.string p, .int .u8 k, .int .i64 m, .int .i64 t, .slice A4 nb c4, .string q] 25)) #[.string p', .int .u8 k', .int .i64 m', .int .i64 t', .slice A4' nb' c4', .string q'] 25; rw [hsz] at h; exact h⟩
        have HB2 : Aside0 (Below X.heap.size X ((X.alloc (.cells #[.string p, .int .u8 k, .int .i64 m, .int .i64 t, .slice A4 nb c4, .string q] 25)).alloc (.cells #[.string p', .int .u8 k', .int .i64 m', .int .i64 t', .slice A4' nb' c4', .string q'] 25))) := ⟨below_alloc (below_alloc (Below.refl _ X) _) _⟩
        have HSZ := Aside0.mk hsz
        clear hsz
        go_upto_region 8 with (fail)
        clear g0 g1 g2 g3 g4 g5 g0' g1' g2' g3' g4' g5' hbl hbl'
        have HB3 := Aside0.mk (below_step HB.out HB2.out)
        have cv1 := Kd.C_string (P := Tryd.prog) (src := 23) (dst := 9) (c := c4) Tryd.underlying23 Tryd.underlying5 Tryd.underlying9 (Kd.C_below HC1.out HB2.out)
        have cv2 := Kd.C_string (P := Tryd.prog) (src := 23) (dst := 9) (c := c4') Tryd.underlying23 Tryd.underlying5 Tryd.underlying9 (Kd.C_below HC2.out HB2.out)
        generalize (X.alloc (.cells #[.string p, .int .u8 k, .int .i64 m, .int .i64 t, .slice A4 nb c4, .string q] 25)).alloc (.cells #[.string p', .int .u8 k', .int .i64 m', .int .i64 t', .slice A4' nb' c4', .string q'] 25) = X2 at *
        have e6 := HX6.out.lt
        have e7 := HX7.out.lt
        have d0 : X2.cell? ⟨X.heap.size, 0, none⟩ = some (.string p) := (Blk.cell HX6.out 0).trans rfl
        have f0 : X2.cell? ⟨X.heap.size + 1, 0, none⟩ = some (.string p') := (Blk.cell HX7.out 0).trans rfl
        have d1 : X2.cell? ⟨X.heap.size, 1, none⟩ = some (.int .u8 k) := (Blk.cell HX6.out 1).trans rfl
        have f1 : X2.cell? ⟨X.heap.size + 1, 1, none⟩ = some (.int .u8 k') := (Blk.cell HX7.out 1).trans rfl
        have d2 : X2.cell? ⟨X.heap.size, 2, none⟩ = some (.int .i64 m) := (Blk.cell HX6.out 2).trans rfl
        have f2 : X2.cell? ⟨X.heap.size + 1, 2, none⟩ = some (.int .i64 m') := (Blk.cell HX7.out 2).trans rfl
        have d3 : X2.cell? ⟨X.heap.size, 3, none⟩ = some (.int .i64 t) := (Blk.cell HX6.out 3).trans rfl
        have f3 : X2.cell? ⟨X.heap.size + 1, 3, none⟩ = some (.int .i64 t') := (Blk.cell HX7.out 3).trans rfl
        have d4 : X2.cell? ⟨X.heap.size, 4, none⟩ = some (.slice A4 nb c4) := (Blk.cell HX6.out 4).trans rfl
        have f4 : X2.cell? ⟨X.heap.size + 1, 4, none⟩ = some (.slice A4' nb' c4') := (Blk.cell HX7.out 4).trans rfl
        have d5 : X2.cell? ⟨X.heap.size, 5, none⟩ = some (.string q) := (Blk.cell HX6.out 5).trans rfl
        have f5 : X2.cell? ⟨X.heap.size + 1, 5, none⟩ = some (.string q') := (Blk.cell HX7.out 5).trans rfl
        have HIF : Aside0 (p.toList = p'.toList → q.toList = q'.toList → (strOfNums bd).toList = (strOfNums bd').toList → k = k' → m = m' → t = t' → ∀ j, j < i + 1 → itm l j = itm u j) := ⟨fun a1 a2 a3 a4 a5 a6 j hj => by
          rcases Nat.lt_or_ge j i with h | h
          · exact HEQ.out j h
          · obtain rfl : j = i := by omega
            rw [HX1.out, HX2.out, toList_inj.1 a1, toList_inj.1 a2, HST.out a3, a4, a5, a6]⟩
        have HNE : Aside0 (l = u → p.toList = p'.toList ∧ k = k' ∧ m = m' ∧ t = t' ∧ q.toList = q'.toList ∧ (strOfNums bd).toList = (strOfNums bd').toList) := ⟨fun e => by
          have e2 := HNX.out e
          injection e2 with b1 b2 b3 b4 b5 b6
          rw [b1, b2, b3, b4, b5, b6]
          exact ⟨rfl, rfl, rfl, rfl, rfl, rfl⟩⟩
        clear HNX HST HX1 HX2 HEQ
        generalize strOfNums bd = sb at *
        generalize strOfNums bd' = sb' at *
        go_wp2_with fail
        case roundEnd =>
          go_roundw
          case rel => exact ⟨i + 1, by omega, by go_num, ⟨HIF.out (by assumption) (by assumption) (by rename_i h; simpa using h) (by assumption) (by assumption) (by assumption)⟩, HB3⟩
          case measure => simp [intOf]; omega
        all_goals
          go_ret
          refine ⟨⟨false, rfl, ⟨fun e => (by cases e), fun e => ?_⟩⟩, HB3.out⟩
          obtain ⟨a1, a2, a3, a4, a5, a6⟩ := HNE.out e
          rename_i h
          first | exact absurd a1 h | exact absurd a2 h | exact absurd a3 h | exact absurd a4 h | exact absurd a5 h | (rw [a6] at h; simp at h)
      · obtain rfl : i = l.length := by omega
        go_wp2_with fail
        go_ret
        exact ⟨⟨true, rfl, ⟨fun _ => List.ext_getElem HLEN.out (fun j h1 h2 => by rw [← itm_at h1, ← itm_at h2]; exact HEQ.out j h1), fun _ => rfl⟩⟩, HB.out⟩
end Go.Proofs.YtopehfjohifpnaaDoor.Mine
end
section
set_option linter.unusedSimpArgs false
set_option linter.unusedVariables false
namespace Go.Proofs.YtopehfjohifpnaaDoor.Mine
open Go.RowKit Go.Shelf Go.Proofs.YtopehfjohifpnaaDoorW.PrintWords Go.Proofs.YtopehfjohifpnaaDoorW.PrintLast Go.Proofs.YtopehfjohifpnaaDoorW.PrintMore Go.Proofs.YtopehfjohifpnaaDoor.Turn Go.Proofs.YtopehfjohifpnaaDoor.Doc
theorem same_l2 (l u : List Int) (hlu : l.length = u.length) (hl : l.length ≤ 1000000) : ∀ (n K i : Nat), l.length - i = n → i ≤ l.length → n < K → ∃ b, tabularylaw12_same.l0 K l u (i : Int) = some b ∧ (b = true ↔ l.drop i = u.drop i)
  | 0, K, i, h, hi, hK => by
    obtain ⟨K, rfl⟩ : ∃ k, K = k + 1 := ⟨K - 1, by omega⟩
    rw [tabularylaw12_same.l0.eq_2, if_neg (by omega), List.drop_eq_nil_of_le (by omega), List.drop_eq_nil_of_le (by omega)]
    exact ⟨true, rfl, by simp⟩
  | n + 1, K, i, h, hi, hK => by
    obtain ⟨K, rfl⟩ : ∃ k, K = k + 1 := ⟨K - 1, by omega⟩
    have h1 : wrap64 ((i : Int) + 1) = ((i + 1 : Nat) : Int) := by rw [wrap_id (by omega) (by omega)]; rfl
    have a1 : i < l.length := by omega
    have a2 : i < u.length := by omega
    have e1 : rd l (i : Int) = l[i] := by unfold rd; rw [Int.toNat_natCast, List.getD_eq_getElem?_getD, List.getElem?_eq_getElem a1]; rfl
    have e2 : rd u (i : Int) = u[i] := by unfold rd; rw [Int.toNat_natCast, List.getD_eq_getElem?_getD, List.getElem?_eq_getElem a2]; rfl
    rw [tabularylaw12_same.l0.eq_2, if_pos (by omega), if_pos (by omega), if_pos (by omega), e1, e2, List.drop_eq_getElem_cons a1, List.drop_eq_getElem_cons a2]
    by_cases hx : l[i] = u[i]
    · rw [if_pos hx, h1]
      obtain ⟨b, hb, hiff⟩ := same_l2 l u hlu hl n K (i + 1) (by omega) (by omega) (by omega)
      exact ⟨b, hb, by rw [hiff, hx]; exact ⟨fun e => by rw [e], fun e => by injection e⟩⟩
    · rw [if_neg hx]
      exact ⟨false, rfl, ⟨fun e => (by cases e), fun e => absurd (by injection e) hx⟩⟩
theorem sameB_any (A1 A2 : Option Addr) (c1 c2 : Nat) (l u : List Int) (hl : l.length ≤ 1000000) (h1 : l.length ≤ c1) (h2 : u.length ≤ c2) (w : World) (hC1 : Kd.C (Kd.int .u8) w A1 l.length l) (hC2 : Kd.C (Kd.int .u8) w A2 u.length u) :
    Calls Tryd.prog 10 #[.slice A1 l.length c1, .slice A2 u.length c2] w fun e w' => (∃ b, e = .returned (.bool b) ∧ (b = true ↔ l = u)) ∧ Below w.heap.size w w' := by
  have key : ∃ b, tabularylaw12_same.f 1000001 l u = some b ∧ (b = true ↔ l = u) := by
    unfold tabularylaw12_same.f
    by_cases h : l.length = u.length
    · rw [if_pos (by omega)]
      exact same_l2 l u h hl l.length 1000001 0 (by omega) (Nat.zero_le _) (by omega)
    · rw [if_neg (by omega)]
      exact ⟨false, rfl, ⟨fun e => (by cases e), fun e => absurd (by rw [e]) h⟩⟩
  obtain ⟨b, hb, hiff⟩ := key
  refine (tabularylaw12_same.calls 1000001 A1 c1 l A2 c2 u b w hC1 h1 hC2 h2 hb).mono ?_
  rintro e w' ⟨rfl, n, rfl⟩
  exact ⟨⟨b, rfl, hiff⟩, pw_below_drewN (Below.refl _ _) n⟩
theorem cut_up {P : Program} (t e : TypeId) (kh : IntKind) {i : TypeInfo} (ht : P.underlying t = some (.slice e)) (hi : P.info? e = some i) (A : Option Addr) (n c : Nat) (j : Int) (h0 : 0 ≤ j) (hc : j ≤ c) :
    ∀ W : World, (Instr.slice t (.slice A n c) none (some (.int kh j)) none).run P W = .ok (.slice A j.toNat c) W := by
  intro W
  have hel : P.elem t = e := by simp [Program.elem, ht]
  have hu : P.underlying t = some (.slice (P.elem t)) := by rw [hel]; exact ht
  have ha : (A.map fun x => x.add 0) = A := by cases A <;> simp [Addr.add]
  rw [run_slice_h W t A n c hu kh j h0 (by omega), hel]
  simp [sizeOf, typeInfo, hi, sliced, Result.andThen, ha]
def EndsBegin (w : World) (e : Ending) (w' : World) : Prop := e = .returned (.bool true) ∧ Below w.heap.size w w'
set_option maxRecDepth 100000 in
set_option maxHeartbeats 8000000 in
theorem packBegins_any (A A' : Option Addr) (c c' : Nat) (l u : List S25) (cut i0 : Int) (w : World) (hbl : Bt l) (hbu : Bt u) (hc : l.length ≤ c) (hr : Kd.C k25 w A l.length l) (hr' : Kd.C k25 w A' u.length u) (hV : Vars w i0) :
    Calls Tryd.prog 4 #[.slice A l.length c, .slice A' u.length c', .int .i64 cut] w (EndsBegin w) := by
  have HR := Aside0.mk hr
  have HR' := Aside0.mk hr'
  have HV := Aside0.mk hV
  have HL := hr.2.1
  have HAW := Aside0.mk (awake_any i0 w hV)
  have HW1 : Aside0 (∀ X, Kd.C k25 X A l.length l → Vars X i0 → Calls Tryd.prog 9 #[.slice A l.length c] X (EndsWrite X (writeF l))) := ⟨fun X h1 h2 => write_any A c l i0 X h1 h2⟩
  have HW2 : Aside0 (∀ X, Kd.C k25 X A' u.length u → Vars X i0 → Calls Tryd.prog 9 #[.slice A' u.length c'] X (EndsWrite X (writeF u))) := ⟨fun X h1 h2 => write_any A' c' u i0 X h1 h2⟩
  have HWK : Aside0 (∀ (k : Nat) X, k ≤ l.length → Kd.C k25 X A l.length l → Vars X i0 → Calls Tryd.prog 9 #[.slice A k c] X (EndsWrite X (writeF (l.take k)))) := ⟨fun k X hk h1 h2 => by
    have hlk : (l.take k).length = k := by rw [List.length_take]; omega
    have h := write_any A c (l.take k) i0 X (Kd.C_take h1 hk) h2
    rw [hlk] at h
    exact h⟩
  have HSU : Aside0 (∀ X, Kd.C k25 X A l.length l → Kd.C k25 X A' u.length u → Calls Tryd.prog 11 #[.slice A l.length c, .slice A' u.length c'] X fun e w' => (∃ b, e = .returned (.bool b) ∧ (b = true ↔ l = u)) ∧ Below X.heap.size X w') := ⟨fun X h1 h2 => sameU_any A A' c c' l u hbl hbu X h1 h2⟩
  have HE : Aside0 (EndsBegin w = fun e w' => e = .returned (.bool true) ∧ Below w.heap.size w w') := ⟨rfl⟩
  obtain ⟨PE, hPE⟩ : ∃ PE, EndsBegin w = PE := ⟨_, rfl⟩
  rw [hPE] at HE ⊢
  clear hr hr' hV hbl hbu hPE
  go_enter Tryd.func4, Tryd.ntmps4
  go_wp2_with fail
  refine HAW.out.mono ?_
  rintro e w1 ⟨rfl, hb⟩
  have HB1 := Aside0.mk hb
  clear hb HAW
  go_wp2_with fail
  refine (HW1.out w1 (Kd.C_below HR.out HB1.out) (HV.out.below HB1.out)).mono ?_
  rintro e w2 ⟨A2, c2, rfl, ho2, hb2⟩
  have HB2 := Aside0.mk (below_step HB1.out hb2)
  obtain ⟨_, _, e2, hc2, hC2⟩ := Kd.R_reads ho2
  cases e2
  have HC2 := Aside0.mk hC2
  clear ho2 hb2 hC2 HB1 HW1
  by_cases h0 : (writeF l).2.2 = 0
  case neg =>
    have hz := write_err h0
    have hne : ((writeF l).2.2 != 0) = true := bne_iff_ne.2 h0
    have hl0 : (writeF l).1.length = 0 := by rw [hz]; rfl
    generalize writeF l = R at *
    obtain ⟨rb, ra, re⟩ := R
    simp only at hne hl0 h0
    simp only
    rw [hl0]
    clear hz h0 HWK
    go_wp2_with fail
    rw [HE.out]
    exact ⟨rfl, HB2.out⟩
  case pos =>
    obtain ⟨-, hf, hfl, -⟩ := write_ok h0
    have HT := Aside0.mk (fun k hk => write_take h0 k hk)
    have HJ := Aside0.mk (fun h => write_inj (u := u) h0 h)
    have HJ2 : Aside0 (l = u → (writeF l).1 = (writeF u).1) := ⟨fun e => by rw [e]⟩
    rw [h0]
    have HF := Aside0.mk hf
    generalize (writeF l).2.1 = ra
    have hbl : (writeF l).1.length ≤ 131072 := by rw [hf]; exact hfl
    generalize (writeF l).1 = B at *
    have HBL := Aside0.mk hbl
    clear h0 hf hfl hbl
    by_cases hcut : 0 ≤ cut ∧ cut ≤ l.length
    case' pos =>
      obtain ⟨k, rfl⟩ : ∃ k : Nat, cut = k := ⟨cut.toNat, by omega⟩
      have hk : k ≤ l.length := by omega
    case' neg =>
      obtain ⟨k, hkk⟩ : ∃ k : Nat, l.length / 2 = k := ⟨_, rfl⟩
      have hk : k ≤ l.length := by omega
    all_goals
      go_wp2_with fail
    all_goals
      clear hcut
      refine (HWK.out k w2 hk (Kd.C_below HR.out HB2.out) (HV.out.below HB2.out)).mono ?_
      rintro e w3 ⟨A3, c3, rfl, ho3, hb3⟩
      have HB3 := Aside0.mk (below_step HB2.out hb3)
      obtain ⟨_, _, e3, hc3, hC3⟩ := Kd.R_reads ho3
      cases e3
      have HC3 := Aside0.mk hC3
      have HC2 := Aside0.mk (Kd.C_below HC2.out hb3)
      have h3 := HT.out k hk
      obtain ⟨-, hf3, hfl3, -⟩ := write_ok h3
      rw [h3]
      clear ho3 hb3 hC3 h3 HT HWK HB2
      generalize (writeF (l.take k)).2.1 = ra3
      generalize (writeF (l.take k)).1 = L3 at *
      have HFB : Aside0 (B = flatP (l.take k) ++ (flatP (l.drop k) ++ zs 1024)) := ⟨by rw [HF.out, flat_take l k, List.append_assoc]⟩
      generalize flatP (l.take k) = P at *
      generalize flatP (l.drop k) = Q at *
      obtain ⟨n3, hn3⟩ : ∃ n, L3.length = n := ⟨_, rfl⟩
      obtain ⟨nb, hnb⟩ : ∃ n, B.length = n := ⟨_, rfl⟩
      obtain ⟨p, hp⟩ : ∃ n, P.length = n := ⟨_, rfl⟩
      have e1 : n3 = p + 1024 := by rw [← hn3, hf3, List.length_append, zs_length, hp]
      have e2 : n3 ≤ nb := by rw [← hnb, HFB.out, List.length_append, List.length_append, zs_length, hp]; omega
      have e4 : nb ≤ 131072 := by rw [← hnb]; exact HBL.out
      rw [hn3] at HC3 hc3
      rw [hnb] at HC2 hc2
      rw [hn3, hnb]
      have HSM : Aside0 (∀ X, Kd.C (Kd.int .u8) X A3 n3 L3 → Kd.C (Kd.int .u8) X A2 nb B → Calls Tryd.prog 10 #[.slice A3 p c3, .slice A2 p c2] X fun e w' => e = .returned (.bool true) ∧ Below X.heap.size X w') := ⟨fun X h1 h2 => by
        rw [← hn3] at h1
        rw [← hnb] at h2
        have k1 := Kd.C_take (m := p) h1 (by omega)
        have k2 := Kd.C_take (m := p) h2 (by omega)
        rw [show L3.take p = P by rw [hf3]; exact List.take_left' hp] at k1
        rw [show B.take p = P by rw [HFB.out]; exact List.take_left' hp] at k2
        have h := same_any A3 A2 c3 c2 P (by omega) (by omega) (by omega) X k1 k2
        rw [hp] at h
        exact h⟩
      have hcu : ∀ (A : Option Addr) (n c : Nat), n3 ≤ c → ∀ W : World, (Instr.slice 23 (.slice A n c) none (some (.int .i64 ((n3 : Int) - 1024))) none).run Tryd.prog W = .ok (.slice A p c) W := fun A n c h2 W => by
        obtain ⟨i05, hi05, _⟩ := info_parts info5
        have h := cut_up (P := Tryd.prog) 23 5 .i64 Tryd.underlying23 hi05 A n c ((n3 : Int) - 1024) (by omega) (by omega) W
        rw [show ((n3 : Int) - 1024).toNat = p by omega] at h
        exact h
      have hcu3 := hcu A3 n3 c3 (by omega)
      have hcub := hcu A2 nb c2 (by omega)
      have hd1 : decide ((nb : Int) < (n3 : Int)) = false := decide_eq_false (by omega)
      have hd2 : decide (nb < n3) = false := decide_eq_false (by omega)
      have hd3 : ¬ ((nb : Int) < (n3 : Int)) := by omega
      have hd4 : ¬ (nb < n3) := by omega
      have HN := Aside0.mk hn3
      have HNB := Aside0.mk hnb
      have HP := Aside0.mk hp
      clear hf3 hfl3 hn3 hnb hp HFB hcu e1
      have HSX : Aside0 (∀ x : Behind w3, Calls Tryd.prog 10 #[.slice A3 p c3, .slice A2 p c2] (later w3 x) fun e w' => e = .returned (.bool true) ∧ Below (later w3 x).heap.size (later w3 x) w') := ⟨fun x => HSM.out (later w3 x) (later_C HC3.out x) (later_C HC2.out x)⟩
      go_upto_region 9 with (fail)
      refine wp_region_behind (by kernel_rfl) (by kernel_rfl) ?_
      repeat (go_big_quiet_step (first | (go_at_call 10; exact calls_behind _ (HSX.out _))))
      refine wpQuiet_nil ?_
      rintro _ ⟨x, rfl⟩
      have HB4 : Aside0 (Below w.heap.size w (later w3 x)) := ⟨below_step HB3.out x.below⟩
      have HC4 := Aside0.mk (later_C HC2.out x)
      clear HSX HSM HC2 HC3 HB3 hcu3 hcub
      generalize later w3 x = w4 at *
      go_wp2_with fail
      refine (HW2.out w4 (Kd.C_below HR'.out HB4.out) (HV.out.below HB4.out)).mono ?_
      rintro e w5 ⟨A5, c5, rfl, ho5, hb5⟩
      have HB5 := Aside0.mk (below_step HB4.out hb5)
      have HC5 := Aside0.mk (Kd.C_below HC4.out hb5)
      obtain ⟨_, _, e5, hc5, hC5⟩ := Kd.R_reads ho5
      cases e5
      have HU5 := Aside0.mk hC5
      clear ho5 hb5 hC5 HB4 HC4 HW2
      by_cases hg : (writeF u).2.2 = 0
      · have HJU := Aside0.mk (HJ.out hg)
        rw [hg]
        clear hg HJ
        generalize (writeF u).2.1 = ua at *
        generalize (writeF u).1 = U at *
        obtain ⟨nu, hnu⟩ : ∃ n, U.length = n := ⟨_, rfl⟩
        have HSB : Aside0 (∀ X, Kd.C (Kd.int .u8) X A2 nb B → Kd.C (Kd.int .u8) X A5 nu U → Calls Tryd.prog 10 #[.slice A2 nb c2, .slice A5 nu c5] X fun e w' => (∃ b, e = .returned (.bool b) ∧ (b = true ↔ B = U)) ∧ Below X.heap.size X w') := ⟨fun X h1 h2 => by
          rw [← HNB.out] at h1
          rw [← hnu] at h2
          have h := sameB_any A2 A5 c2 c5 B U (by rw [HNB.out]; omega) (by rw [HNB.out]; exact hc2) hc5 X h1 h2
          rw [HNB.out, hnu] at h
          exact h⟩
        rw [hnu] at hc5 HU5
        rw [hnu]
        clear hnu
        go_wp2_with fail
        refine (HSB.out w5 HC5.out HU5.out).mono ?_
        rintro e w6 ⟨⟨b1, rfl, hi1⟩, hb6⟩
        have HB6 := Aside0.mk (below_step HB5.out hb6)
        have HI1 := Aside0.mk hi1
        clear hi1 hb6 HB5 HSB HC5 HU5
        go_wp2_with fail
        refine (HSU.out w6 (Kd.C_below HR.out HB6.out) (Kd.C_below HR'.out HB6.out)).mono ?_
        rintro e w7 ⟨⟨b2, rfl, hi2⟩, hb7⟩
        have HB7 := Aside0.mk (below_step HB6.out hb7)
        have hbb : b1 = b2 := by
          have h : b1 = true ↔ b2 = true := HI1.out.trans (Iff.trans ⟨HJU.out, HJ2.out⟩ hi2.symm)
          cases b1 <;> cases b2 <;> simp at h ⊢
        subst hbb
        have hee : (b1 == b1) = true := by simp
        clear hi2 hb7 HB6
        go_wp2_with fail
        rw [HE.out]
        exact ⟨rfl, HB7.out⟩
      · have hne : ((writeF u).2.2 != 0) = true := bne_iff_ne.2 hg
        clear hg HJ HJ2 HU5 hc5
        generalize writeF u = R at *
        obtain ⟨rb, r2, re⟩ := R
        simp only at hne
        simp only
        go_wp2_with fail
        rw [HE.out]
        exact ⟨rfl, HB5.out⟩
end Go.Proofs.YtopehfjohifpnaaDoor.Mine
end
