/- wire: Parse. -/
import Derived.Test.YtmjbdeoomohanaaWireP
import Derived.Test.YtmjbdeoomohanaaWireQ
import Derived.Test.YtmjbdeoomohanaaWireN2
set_option linter.unusedSimpArgs false
set_option linter.unusedVariables false
namespace Go.Proofs.Ytmjbdeoomohanaa.Mine
open Go.RowKit Go.Maps Go.Proofs.YtmjbdeoomohanaaW.PrintWords Go.Proofs.YtmjbdeoomohanaaW.PrintLast Go.Proofs.YtmjbdeoomohanaaW.PrintMore Go.Proofs.Ytmjbdeoomohanaa.PWirePacks Go.Proofs.Ytmjbdeoomohanaa.Turn
variable {lo : Nat}

def zM (t : Int) : Msg := ⟨t, 0, 0, 0, 0, [], 0, 0, [], 0, 0, 0, 0, []⟩
def leftS : St → Nat
  | .W _ => 0
  | .R r => r.length
/-- What Parse reads. -/
def parseS (l : List Int) : Except Int Msg :=
  match numS (.R l) 0 1 with
  | .error e => .error e
  | .ok (t, S1) => if hasB t = 0 then .error 1 else
    match allS S1 (zM t) with
    | .error e => .error e
    | .ok (m, S2) => if 0 < leftS S2 then .error 6 else .ok m

/-- How Parse ends. -/
def EndsP (w : World) (x : Except Int Msg) (e : Ending) (w' : World) : Prop :=
  Below w.heap.size w w' ∧ ∃ cs, match x with
  | .ok m => e = .returned (.tuple #[.agg cs, .int .i64 0]) ∧ ArgF w' (fun k => w.heap.size ≤ k) m cs
  | .error x => e = .returned (.tuple #[.agg cs, .int .i64 x]) ∧ ArgF w' (fun k => w.heap.size ≤ k) (zM 0) cs

theorem run_results17 (tmps : Array Value) (g b : Nat) (x : Int) (w : World) (h2 : tmps[2]? = some (.pointer (some ⟨g, 0, none⟩))) (h3 : tmps[3]? = some (.pointer (some ⟨b, 0, none⟩))) (v0 v1 v2 v3 v4 v5 v6 v7 v8 v9 v10 v11 v12 v13 : Value) (hg : Blk w g #[v0, v1, v2, v3, v4, v5, v6, v7, v8, v9, v10, v11, v12, v13] 29) (hb : Blk w b #[.int .i64 x] 26) : (results Try.f17 tmps).run Try.prog w = .ok (.tuple #[.agg #[v0, v1, v2, v3, v4, v5, v6, v7, v8, v9, v10, v11, v12, v13], .int .i64 x]) w := by
  have hg0 : w.cell? ⟨g, 0, none⟩ = some v0 := (hg.cell 0).trans rfl
  have hg1 : w.cell? ⟨g, 1, none⟩ = some v1 := (hg.cell 1).trans rfl
  have hg2 : w.cell? ⟨g, 2, none⟩ = some v2 := (hg.cell 2).trans rfl
  have hg3 : w.cell? ⟨g, 3, none⟩ = some v3 := (hg.cell 3).trans rfl
  have hg4 : w.cell? ⟨g, 4, none⟩ = some v4 := (hg.cell 4).trans rfl
  have hg5 : w.cell? ⟨g, 5, none⟩ = some v5 := (hg.cell 5).trans rfl
  have hg6 : w.cell? ⟨g, 6, none⟩ = some v6 := (hg.cell 6).trans rfl
  have hg7 : w.cell? ⟨g, 7, none⟩ = some v7 := (hg.cell 7).trans rfl
  have hg8 : w.cell? ⟨g, 8, none⟩ = some v8 := (hg.cell 8).trans rfl
  have hg9 : w.cell? ⟨g, 9, none⟩ = some v9 := (hg.cell 9).trans rfl
  have hg10 : w.cell? ⟨g, 10, none⟩ = some v10 := (hg.cell 10).trans rfl
  have hg11 : w.cell? ⟨g, 11, none⟩ = some v11 := (hg.cell 11).trans rfl
  have hg12 : w.cell? ⟨g, 12, none⟩ = some v12 := (hg.cell 12).trans rfl
  have hg13 : w.cell? ⟨g, 13, none⟩ = some v13 := (hg.cell 13).trans rfl
  have hb0 : w.cell? ⟨b, 0, none⟩ = some (.int .i64 x) := (hb.cell 0).trans rfl
  clear hg hb
  simp [results, Try.results17, h2, h3, go_sem, hg0, hg1, hg2, hg3, hg4, hg5, hg6, hg7, hg8, hg9, hg10, hg11, hg12, hg13, hb0]

theorem zM_arg (w : World) (ok : Nat → Prop) : ArgF w ok (zM 0) #[.int .u8 0, .int .u64 0, .int .u64 0, .int .i64 0, .int .i64 0, .slice none 0 0, .int .u64 0, .int .u64 0, .slice none 0 0, .int .u64 0, .int .u8 0, .int .u32 0, .int .i64 0, .slice none 0 0] :=
  ⟨none, 0, none, 0, none, 0, rfl, Nat.le_refl _, Nat.le_refl _, Nat.le_refl _, Kd.F_nil _ _ _, Kd.F_nil _ _ _, Kd.F_nil _ _ _⟩

theorem leaves_wrong {w w2 : World} {tmps : Array Value} {x : Int} (h2 : tmps[2]? = some (.pointer (some ⟨w.heap.size, 0, none⟩))) (h3 : tmps[3]? = some (.pointer (some ⟨w.heap.size + 1, 0, none⟩))) (hbl : Below w.heap.size w w2) (hg : ∃ cs : Array Value, cs.size = 14 ∧ Blk w2 w.heap.size cs 29) (hb : Blk w2 (w.heap.size + 1) #[.int .i64 0] 26) :
    Leaves Try.prog Try.f17 tmps (fun e w' => EndsP w (.error x) e w') [{ target := .fn (.func 32) #[.pointer (some ⟨w.heap.size, 0, none⟩), .pointer (some ⟨w.heap.size + 1, 0, none⟩)], args := #[] }] (.panicking [{ v := .iface 63 (.agg #[.int .i64 x]), recovered := false }]) w2 := by
  obtain ⟨cs, hz, hg⟩ := hg
  obtain ⟨v0, v1, v2, v3, v4, v5, v6, v7, v8, v9, v10, v11, v12, v13, rfl⟩ : ∃ v0 v1 v2 v3 v4 v5 v6 v7 v8 v9 v10 v11 v12 v13, cs = #[v0, v1, v2, v3, v4, v5, v6, v7, v8, v9, v10, v11, v12, v13] := by
    rcases cs with ⟨l⟩
    match l, hz with
    | [v0, v1, v2, v3, v4, v5, v6, v7, v8, v9, v10, v11, v12, v13], _ => exact ⟨v0, v1, v2, v3, v4, v5, v6, v7, v8, v9, v10, v11, v12, v13, rfl⟩
  refine leaves_cons (f := 32) (args := #[.pointer (some ⟨w.heap.size, 0, none⟩), .pointer (some ⟨w.heap.size + 1, 0, none⟩)]) (by simp) (by simp [go_sem]) ?_
  refine (catch_wrong w.heap.size (w.heap.size + 1) x 0 v0 v1 v2 v3 v4 v5 v6 v7 v8 v9 v10 v11 v12 v13 [] w2 hg (by omega) hb).mono ?_
  rintro e u' w3 ⟨rfl, rfl, ht, hb', hg'⟩
  simp only [Leaves, settle, List.dropWhile]
  refine ⟨_, run_results17 tmps _ _ x w3 h2 h3 _ _ _ _ _ _ _ _ _ _ _ _ _ _ hg' hb', ?_, _, rfl, zM_arg _ _⟩
  exact below_turned hbl ht hbl.size (fun k hk => by omega)

theorem leaves_right {w w2 : World} {tmps : Array Value} {m : Msg} (h2 : tmps[2]? = some (.pointer (some ⟨w.heap.size, 0, none⟩))) (h3 : tmps[3]? = some (.pointer (some ⟨w.heap.size + 1, 0, none⟩))) (hbl : Below w.heap.size w w2) {cs : Array Value} (hg : Blk w2 w.heap.size cs 29) (hm : ArgF w2 (fun k => w.heap.size ≤ k) m cs) (hb : Blk w2 (w.heap.size + 1) #[.int .i64 0] 26) :
    Leaves Try.prog Try.f17 tmps (fun e w' => EndsP w (.ok m) e w') [{ target := .fn (.func 32) #[.pointer (some ⟨w.heap.size, 0, none⟩), .pointer (some ⟨w.heap.size + 1, 0, none⟩)], args := #[] }] .returning w2 := by
  refine leaves_cons (f := 32) (args := #[.pointer (some ⟨w.heap.size, 0, none⟩), .pointer (some ⟨w.heap.size + 1, 0, none⟩)]) (by simp) (by simp [go_sem]) ?_
  refine (catch_idle _ _ w2).mono ?_
  rintro e u' w3 ⟨rfl, rfl, rfl⟩
  simp only [Leaves, settle]
  have hm2 := hm
  obtain ⟨A5, c5, A8, c8, A13, c13, rfl, -⟩ := hm2
  exact ⟨_, run_results17 tmps _ _ 0 w3 h2 h3 _ _ _ _ _ _ _ _ _ _ _ _ _ _ hg hb, hbl, _, rfl, hm⟩

theorem ArgF.step2 {w w' : World} {ok S : Nat → Prop} {m : Msg} {cs : Array Value} {q : Nat} (h : ArgF w ok m cs) (hT : Turned S w w') (he : w'.heap[q]? = w.heap[q]?) (hS : ∀ k, ok k → k ≠ q → ¬ S k) : ArgF w' ok m cs :=
  h.step (fun k hk hlt => by
    by_cases hke : k = q
    · rw [hke]; exact he
    · exact hT.block k hlt (hS k hk hke))
theorem zM_ok (t : Int) : OkM (zM t) := by
  intro i hi
  have hd : i = 0 ∨ i = 1 ∨ i = 2 ∨ i = 3 ∨ i = 4 ∨ i = 5 ∨ i = 6 ∨ i = 7 ∨ i = 8 ∨ i = 9 ∨ i = 10 ∨ i = 11 ∨ i = 12 := by omega
  rcases hd with rfl | rfl | rfl | rfl | rfl | rfl | rfl | rfl | rfl | rfl | rfl | rfl | rfl <;> simp [okF, zM]

set_option maxHeartbeats 4000000 in
theorem parse_any {w : World} {A : Option Addr} {c : Nat} {l : List Int} (hl : l.length ≤ c) (hn : l.length ≤ 1073741824) (hb : ∀ x ∈ l, 0 ≤ x ∧ x < 256) (hr : Kd.C (Kd.int .u8) w A l.length l) :
    Calls Try.prog 17 #[.slice A l.length c] w fun e w' => EndsP w (parseS l) e w' := by
  have hmf : ∀ (fn : Fn) (first cap : Array Value) (w : World), (Instr.makeFunc fn first cap).run Try.prog w = .ok (.func fn first cap) w := fun _ _ _ _ => rfl
  have HR := Aside0.mk hr
  have HL := Aside0.mk hl
  have HN := Aside0.mk hn
  have HBY := Aside0.mk hb
  have HE := Aside0.mk (parseS.eq_def l)
  generalize parseS l = X at HE ⊢
  clear hr hb
  go_enter_defers Try.func17, Try.ntmps17
  go_wp2_with fail
  have HB0 : Aside0 (Below w.heap.size w (((w.alloc (.cells #[.int .u8 0, .int .u64 0, .int .u64 0, .int .i64 0, .int .i64 0, .slice none 0 0, .int .u64 0, .int .u64 0, .slice none 0 0, .int .u64 0, .int .u8 0, .int .u32 0, .int .i64 0, .slice none 0 0] 29)).alloc (.cells #[.int .i64 0] 26)).alloc (.cells #[.slice A l.length c, .bool true] 48))) := ⟨below_alloc (below_alloc (below_alloc (Below.refl _ _) _) _) _⟩
  have HCOD : Aside0 (Cod (((w.alloc (.cells #[.int .u8 0, .int .u64 0, .int .u64 0, .int .i64 0, .int .i64 0, .slice none 0 0, .int .u64 0, .int .u64 0, .slice none 0 0, .int .u64 0, .int .u8 0, .int .u32 0, .int .i64 0, .slice none 0 0] 29)).alloc (.cells #[.int .i64 0] 26)).alloc (.cells #[.slice A l.length c, .bool true] 48)) w.heap.size (fun k => k = w.heap.size + 1 + 1) (w.heap.size + 1 + 1) (.R l)) := by
    refine ⟨⟨rfl, fun k hk => ⟨by simp; omega, by omega⟩, A, c, ?_, HL.out, Kd.F_below (Kd.C_F (Kd.heap_int _) HR.out) HB0.out⟩⟩
    have := Blk.new ((w.alloc (.cells #[.int .u8 0, .int .u64 0, .int .u64 0, .int .i64 0, .int .i64 0, .slice none 0 0, .int .u64 0, .int .u64 0, .slice none 0 0, .int .u64 0, .int .u8 0, .int .u32 0, .int .i64 0, .slice none 0 0] 29)).alloc (.cells #[.int .i64 0] 26)) #[.slice A l.length c, .bool true] 48
    rwa [show ((w.alloc (.cells #[.int .u8 0, .int .u64 0, .int .u64 0, .int .i64 0, .int .i64 0, .slice none 0 0, .int .u64 0, .int .u64 0, .slice none 0 0, .int .u64 0, .int .u8 0, .int .u32 0, .int .i64 0, .slice none 0 0] 29)).alloc (.cells #[.int .i64 0] 26)).heap.size = w.heap.size + 1 + 1 by simp] at this
  have HMB : Aside0 (Blk (((w.alloc (.cells #[.int .u8 0, .int .u64 0, .int .u64 0, .int .i64 0, .int .i64 0, .slice none 0 0, .int .u64 0, .int .u64 0, .slice none 0 0, .int .u64 0, .int .u8 0, .int .u32 0, .int .i64 0, .slice none 0 0] 29)).alloc (.cells #[.int .i64 0] 26)).alloc (.cells #[.slice A l.length c, .bool true] 48)) w.heap.size #[.int .u8 0, .int .u64 0, .int .u64 0, .int .i64 0, .int .i64 0, .slice none 0 0, .int .u64 0, .int .u64 0, .slice none 0 0, .int .u64 0, .int .u8 0, .int .u32 0, .int .i64 0, .slice none 0 0] 29) := ⟨((Blk.new w _ 29).alloc _).alloc _⟩
  have HEB : Aside0 (Blk (((w.alloc (.cells #[.int .u8 0, .int .u64 0, .int .u64 0, .int .i64 0, .int .i64 0, .slice none 0 0, .int .u64 0, .int .u64 0, .slice none 0 0, .int .u64 0, .int .u8 0, .int .u32 0, .int .i64 0, .slice none 0 0] 29)).alloc (.cells #[.int .i64 0] 26)).alloc (.cells #[.slice A l.length c, .bool true] 48)) (w.heap.size + 1) #[.int .i64 0] 26) := by
    have := (Blk.new (w.alloc (.cells #[.int .u8 0, .int .u64 0, .int .u64 0, .int .i64 0, .int .i64 0, .slice none 0 0, .int .u64 0, .int .u64 0, .slice none 0 0, .int .u64 0, .int .u8 0, .int .u32 0, .int .i64 0, .slice none 0 0] 29)) #[.int .i64 0] 26).alloc (.cells #[.slice A l.length c, .bool true] 48)
    rw [show (w.alloc (.cells #[.int .u8 0, .int .u64 0, .int .u64 0, .int .i64 0, .int .i64 0, .slice none 0 0, .int .u64 0, .int .u64 0, .slice none 0 0, .int .u64 0, .int .u8 0, .int .u32 0, .int .i64 0, .slice none 0 0] 29)).heap.size = w.heap.size + 1 by simp] at this
    exact ⟨this⟩
  have hz3 : w.heap.size + 3 ≤ (((w.alloc (.cells #[.int .u8 0, .int .u64 0, .int .u64 0, .int .i64 0, .int .i64 0, .slice none 0 0, .int .u64 0, .int .u64 0, .slice none 0 0, .int .u64 0, .int .u8 0, .int .u32 0, .int .i64 0, .slice none 0 0] 29)).alloc (.cells #[.int .i64 0] 26)).alloc (.cells #[.slice A l.length c, .bool true] 48)).heap.size := by simp
  have hl0 : (((w.alloc (.cells #[.int .u8 0, .int .u64 0, .int .u64 0, .int .i64 0, .int .i64 0, .slice none 0 0, .int .u64 0, .int .u64 0, .slice none 0 0, .int .u64 0, .int .u8 0, .int .u32 0, .int .i64 0, .slice none 0 0] 29)).alloc (.cells #[.int .i64 0] 26)).alloc (.cells #[.slice A l.length c, .bool true] 48)).heap.size = w.heap.size + 3 := by simp
  have HL0 := Aside0.mk hl0
  clear hz3 hl0
  generalize (((w.alloc (.cells #[.int .u8 0, .int .u64 0, .int .u64 0, .int .i64 0, .int .i64 0, .slice none 0 0, .int .u64 0, .int .u64 0, .slice none 0 0, .int .u64 0, .int .u8 0, .int .u32 0, .int .i64 0, .slice none 0 0] 29)).alloc (.cells #[.int .i64 0] 26)).alloc (.cells #[.slice A l.length c, .bool true] 48)) = W3 at *
  have HOKS : Aside0 (OkT 1073741824 (.R l)) := ⟨⟨HN.out, HBY.out⟩⟩
  refine (number_any HCOD.out (HOKS.out.ok (by omega)) 0 (by omega) (by omega) 1 (by omega) (by omega)).mono ?_
  obtain ⟨y, hy⟩ : ∃ y, step (.R l) (be 0 1) 1 = y := ⟨_, rfl⟩
  rw [hy]
  have HY := Aside0.mk hy
  clear hy
  cases y with
  | error y =>
    rintro e w2 ⟨G', hG', hT', he⟩
    have he2 : e = .panicked [{ v := .iface 63 (.agg #[.int .i64 y]), recovered := false }] := he
    subst he2
    have HX : Aside0 (X = .error y) := ⟨by rw [HE.out]; simp [numS, HY.out]⟩
    have HLV : Aside0 (∀ tmps : Array Value, tmps[2]? = some (.pointer (some ⟨w.heap.size, 0, none⟩)) → tmps[3]? = some (.pointer (some ⟨w.heap.size + 1, 0, none⟩)) → Leaves Try.prog Try.f17 tmps (fun e w' => EndsP w (.error y) e w') [{ target := .fn (.func 32) #[.pointer (some ⟨w.heap.size, 0, none⟩), .pointer (some ⟨w.heap.size + 1, 0, none⟩)], args := #[] }] (.panicking [{ v := .iface 63 (.agg #[.int .i64 y]), recovered := false }]) w2) :=
      ⟨fun tmps h2 h3 => leaves_wrong h2 h3 (below_turned HB0.out hT' HB0.out.size (fun k hk => by omega)) ⟨_, rfl, hT'.blk HMB.out (by omega)⟩ (hT'.blk HEB.out (by omega))⟩
    clear hG' hT' he HE
    go_wp2_with fail
    rw [HX.out]
    exact HLV.out _ rfl rfl
  | ok y =>
    obtain ⟨r, S1⟩ := y
    rintro e w2 ⟨G', hG', hT', rfl, hC2⟩
    have hso := step_ok (HOKS.out.ok (by omega)) (be_range 0 1) (be_len 0 1) HY.out
    have hvr := val_range hso.2 1 (by rw [hso.1]; omega)
    rw [List.take_of_length_le (by rw [hso.1]; omega)] at hvr
    obtain ⟨hv0, hv1⟩ := hvr
    have HX : Aside0 (X = (if hasB (val r) = 0 then .error 1 else match allS S1 (zM (val r)) with
      | .error e => .error e
      | .ok (m, S2) => if 0 < leftS S2 then .error 6 else .ok m)) := ⟨by rw [HE.out]; simp only [numS, HY.out]⟩
    have HOK1 := Aside0.mk (HOKS.out.step HY.out)
    obtain ⟨t, ht⟩ : ∃ t, val r = t := ⟨_, rfl⟩
    rw [ht] at HX hv0 hv1 ⊢
    have hv2 : t < 256 := hv1
    have hwr : IntKind.u8.wrap t = t := by rw [IntKind.wrap_u8]; omega
    have hmb := hT'.blk HMB.out (show ¬ w.heap.size = w.heap.size + 1 + 1 by omega)
    have HMB2 := Aside0.mk hmb
    have HEB2 := Aside0.mk (hT'.blk HEB.out (show ¬ w.heap.size + 1 = w.heap.size + 1 + 1 by omega))
    have hmb0 : World.cell? w2 ⟨w.heap.size, 0, none⟩ = some (.int .u8 0) := Blk.cell hmb 0
    have hmbf0 : World.frozen? w2 ⟨w.heap.size, 0, none⟩ = false := Blk.free hmb 0
    have hl2 := Blk.lt hmb
    have HC2 := Aside0.mk hC2
    have HB2 := Aside0.mk (below_turned HB0.out hT' HB0.out.size (fun k hk => by omega))
    have HG := Aside0.mk hG'
    have HYM := HY
    clear hso hv1 ht HE hG' hT' hC2 hmb HMB HEB HB0
    go_wp2_with fail
    have HB3 : Aside0 (Below w.heap.size w (w2.setCell ⟨w.heap.size, 0, none⟩ (.int .u8 t))) := ⟨below_turned HB2.out ((Turned.refl (fun k => k = w.heap.size) w2).setCell (.inl rfl) _) HB2.out.size (fun k hk => by omega)⟩
    have hg0 : ¬ G' w.heap.size := fun h => (HG.out _ h).elim (fun h => by omega) (fun h => by have := HL0.out; omega)
    have HG0 := Aside0.mk hg0
    refine (has_any t hv0 (by omega) _).mono ?_
    rintro e w5 ⟨rfl, hb5⟩
    have HMB5 : Aside0 (Blk w5 w.heap.size #[.int .u8 t, .int .u64 0, .int .u64 0, .int .i64 0, .int .i64 0, .slice none 0 0, .int .u64 0, .int .u64 0, .slice none 0 0, .int .u64 0, .int .u8 0, .int .u32 0, .int .i64 0, .slice none 0 0] 29) := ⟨(hb5.block _ (by simp [World.setCell]; exact hl2)).trans (Blk.set HMB2.out 0 (.int .u8 t))⟩
    have HEB5 : Aside0 (Blk w5 (w.heap.size + 1) #[.int .i64 0] 26) := ⟨(hb5.block _ (by simp [World.setCell]; exact Blk.lt HEB2.out)).trans (Blk.far (p := ⟨w.heap.size, 0, none⟩) HEB2.out (by simp) _)⟩
    have HB5 := Aside0.mk (below_step HB3.out hb5)
    have HC5 := Aside0.mk ((HC2.out.step (X := fun k => k = w.heap.size) ((Turned.refl (fun k => k = w.heap.size) w2).setCell (.inl rfl) (.int .u8 t)) (fun k hk => by rw [hk]; exact ⟨hg0, Nat.le_refl _⟩)).below hb5)
    rw [(hasN_nat t).1]
    have HHB := Aside0.mk (hasN_nat t).2
    obtain ⟨hh, hhe⟩ : ∃ hh, hasB t = hh := ⟨_, rfl⟩
    rw [hhe] at HX ⊢
    clear hhe hb5 hg0 HB3 HMB2 HEB2 HC2 HB2 hmb0 hmbf0 hl2
    by_cases hz : hh = 0
    · have hz1 : ((hh : Int) == 0) = true := by rw [hz]; rfl
      have HX2 : Aside0 (X = .error 1) := ⟨by rw [HX.out, if_pos hz]⟩
      have HLV : Aside0 (∀ tmps : Array Value, tmps[2]? = some (.pointer (some ⟨w.heap.size, 0, none⟩)) → tmps[3]? = some (.pointer (some ⟨w.heap.size + 1, 0, none⟩)) → Leaves Try.prog Try.f17 tmps (fun e w' => EndsP w (.error 1) e w') [{ target := .fn (.func 32) #[.pointer (some ⟨w.heap.size, 0, none⟩), .pointer (some ⟨w.heap.size + 1, 0, none⟩)], args := #[] }] (.panicking [{ v := .iface 63 (.agg #[.int .i64 1]), recovered := false }]) w5) :=
        ⟨fun tmps h2 h3 => leaves_wrong h2 h3 HB5.out ⟨_, rfl, HMB5.out⟩ HEB5.out⟩
      clear hz HX
      go_wp2_with fail
      rw [HX2.out]
      exact HLV.out _ rfl rfl
    · have hz1 : ((hh : Int) == 0) = false := beq_eq_false_iff_ne.2 (by omega)
      have HX2 : Aside0 (X = (match allS S1 (zM t) with
        | .error e => .error e
        | .ok (m, S2) => if 0 < leftS S2 then .error 6 else .ok m)) := ⟨by rw [HX.out, if_neg hz]⟩
      have HMA : Aside0 (MsgAt 0 w5 w.heap.size G' (zM t)) := ⟨⟨none, 0, none, 0, none, 0, HMB5.out, Nat.le_refl _, Nat.le_refl _, Nat.le_refl _, Kd.F_nil _ _ _, Kd.F_nil _ _ _, Kd.F_nil _ _ _⟩⟩
      have HAL := Aside0.mk (allM_any HC5.out HMA.out HG0.out (Nat.le_refl _) HOK1.out (by rw [be_len]; omega) (zM_ok t) hv0 (by show t ≤ 255; omega))
      obtain ⟨y, hy⟩ : ∃ y, allS S1 (zM t) = y := ⟨_, rfl⟩
      rw [hy] at HAL HX2
      have HMO := Aside0.mk (fun {m' : Msg} {S' : St} (e : y = .ok (m', S')) => allS_mode (hy.trans e))
      clear hy hz HX HMA
      go_wp2_with fail
      refine HAL.out.mono ?_
      cases y with
      | error y =>
        rintro e w6 ⟨G3, hG3, hT3, he, hbk⟩
        have he2 : e = .panicked [{ v := .iface 63 (.agg #[.int .i64 y]), recovered := false }] := he
        subst he2
        have HLV : Aside0 (∀ tmps : Array Value, tmps[2]? = some (.pointer (some ⟨w.heap.size, 0, none⟩)) → tmps[3]? = some (.pointer (some ⟨w.heap.size + 1, 0, none⟩)) → Leaves Try.prog Try.f17 tmps (fun e w' => EndsP w (.error y) e w') [{ target := .fn (.func 32) #[.pointer (some ⟨w.heap.size, 0, none⟩), .pointer (some ⟨w.heap.size + 1, 0, none⟩)], args := #[] }] (.panicking [{ v := .iface 63 (.agg #[.int .i64 y]), recovered := false }]) w6) :=
          ⟨fun tmps h2 h3 => leaves_wrong h2 h3 (below_turned HB5.out hT3 HB5.out.size (fun k hk => hk.elim (fun h => (HC5.out.2.1 k h).2) (fun h => by omega))) hbk (hT3.blk HEB5.out (fun hk => hk.elim (fun h => (HG.out _ h).elim (fun h => by omega) (fun h => by have := HL0.out; omega)) (fun h => by omega)))⟩
        clear hG3 hT3 he hbk
        go_wp2_with fail
        rw [HX2.out]
        exact HLV.out _ rfl rfl
      | ok y =>
        obtain ⟨m, S2⟩ := y
        rintro e w6 ⟨G3, hG3, hT3, rfl, hC6, hM6, hg6⟩
        obtain ⟨r, rfl⟩ : ∃ r, S2 = .R r := by
          have := HMO.out rfl
          have h1 : isR S1 = true := by
            have := HC5.out
            cases S1 with
            | R l => rfl
            | W l => have h2 := step_mode HYM.out; cases h2
          rw [h1] at this
          cases S2 with
          | R r => exact ⟨r, rfl⟩
          | W l => cases this
        have HX3 : Aside0 (X = if 0 < r.length then .error 6 else .ok m) := ⟨HX2.out⟩
        have hG36 : ∀ k, G3 k → w.heap.size ≤ k := fun k hk => (hG3 k hk).elim (fun h => (HC5.out.2.1 k h).2) (fun h => Nat.le_trans HB5.out.size h)
        have hb6 := below_turned HB5.out hT3 HB5.out.size (fun k hk => hk.elim (fun h => (HC5.out.2.1 k h).2) (fun h => by omega))
        have HEB6 : Aside0 (Blk w6 (w.heap.size + 1) #[.int .i64 0] 26) := ⟨hT3.blk HEB5.out (fun hk => hk.elim (fun h => (HG.out _ h).elim (fun h => by omega) (fun h => by have := HL0.out; omega)) (fun h => by omega))⟩
        obtain ⟨A5, c5, A8, c8, A13, c13, hx, hl1, hl2, hl3, h5, h8, h13⟩ := hM6
        have HX14 : Aside0 (Blk w6 w.heap.size #[.int .u8 m.ty, .int .u64 m.view, .int .u64 m.normal, .int .i64 m.op, .int .i64 m.commit, .slice A5 m.log.length c5, .int .u64 m.client, .int .u64 m.seq, .slice A8 m.body.length c8, .int .u64 m.key, .int .u8 m.shard, .int .u32 m.stripe, .int .i64 m.code, .slice A13 m.blocks.length c13] 29) := ⟨hx⟩
        obtain ⟨q1, q2, A0, c0, q3, q4, q5⟩ := hC6
        have p0 : w6.cell? ⟨w.heap.size + 1 + 1, 0, none⟩ = some (.slice A0 r.length c0) := (q3.cell 0).trans rfl
        have hlb := q3.lt
        have HARG : Aside0 (ArgF w6 (fun k => ¬ G3 k ∧ Off 0 w.heap.size k) m #[.int .u8 m.ty, .int .u64 m.view, .int .u64 m.normal, .int .i64 m.op, .int .i64 m.commit, .slice A5 m.log.length c5, .int .u64 m.client, .int .u64 m.seq, .slice A8 m.body.length c8, .int .u64 m.key, .int .u8 m.shard, .int .u32 m.stripe, .int .i64 m.code, .slice A13 m.blocks.length c13]) := ⟨⟨A5, c5, A8, c8, A13, c13, rfl, hl1, hl2, hl3, h5, h8, h13⟩⟩
        have HB6 := Aside0.mk hb6
        by_cases hr : 0 < r.length
        · have HX4 : Aside0 (X = .error 6) := ⟨by rw [HX3.out, if_pos hr]⟩
          have hr1 : decide (0 < r.length) = true := by simpa using hr
          have HLV : Aside0 (∀ tmps : Array Value, tmps[2]? = some (.pointer (some ⟨w.heap.size, 0, none⟩)) → tmps[3]? = some (.pointer (some ⟨w.heap.size + 1, 0, none⟩)) → Leaves Try.prog Try.f17 tmps (fun e w' => EndsP w (.error 6) e w') [{ target := .fn (.func 32) #[.pointer (some ⟨w.heap.size, 0, none⟩), .pointer (some ⟨w.heap.size + 1, 0, none⟩)], args := #[] }] (.panicking [{ v := .iface 63 (.agg #[.int .i64 6]), recovered := false }]) w6) :=
            ⟨fun tmps h2 h3 => leaves_wrong h2 h3 hb6 ⟨_, rfl, HX14.out⟩ HEB6.out⟩
          clear hG3 hT3 hg6 hG36 hb6 hx hl1 hl2 hl3 h5 h8 h13 q1 q2 q3 q4 q5 hr HX2 HX3
          go_wp2_with fail
          rw [HX4.out]
          exact HLV.out _ rfl rfl
        · have HX4 : Aside0 (X = .ok m) := ⟨by rw [HX3.out, if_neg hr]⟩
          have hr1 : decide (0 < r.length) = false := by simpa using hr
          have hx14 := HX14.out
          have hx140 : World.cell? w6 ⟨w.heap.size, 0, none⟩ = some (.int .u8 m.ty) := Blk.cell hx14 0
          have hx14f0 : World.frozen? w6 ⟨w.heap.size, 0, none⟩ = false := Blk.free hx14 0
          have hx141 : World.cell? w6 ⟨w.heap.size, 1, none⟩ = some (.int .u64 m.view) := Blk.cell hx14 1
          have hx14f1 : World.frozen? w6 ⟨w.heap.size, 1, none⟩ = false := Blk.free hx14 1
          have hx142 : World.cell? w6 ⟨w.heap.size, 2, none⟩ = some (.int .u64 m.normal) := Blk.cell hx14 2
          have hx14f2 : World.frozen? w6 ⟨w.heap.size, 2, none⟩ = false := Blk.free hx14 2
          have hx143 : World.cell? w6 ⟨w.heap.size, 3, none⟩ = some (.int .i64 m.op) := Blk.cell hx14 3
          have hx14f3 : World.frozen? w6 ⟨w.heap.size, 3, none⟩ = false := Blk.free hx14 3
          have hx144 : World.cell? w6 ⟨w.heap.size, 4, none⟩ = some (.int .i64 m.commit) := Blk.cell hx14 4
          have hx14f4 : World.frozen? w6 ⟨w.heap.size, 4, none⟩ = false := Blk.free hx14 4
          have hx145 : World.cell? w6 ⟨w.heap.size, 5, none⟩ = some (.slice A5 m.log.length c5) := Blk.cell hx14 5
          have hx14f5 : World.frozen? w6 ⟨w.heap.size, 5, none⟩ = false := Blk.free hx14 5
          have hx146 : World.cell? w6 ⟨w.heap.size, 6, none⟩ = some (.int .u64 m.client) := Blk.cell hx14 6
          have hx14f6 : World.frozen? w6 ⟨w.heap.size, 6, none⟩ = false := Blk.free hx14 6
          have hx147 : World.cell? w6 ⟨w.heap.size, 7, none⟩ = some (.int .u64 m.seq) := Blk.cell hx14 7
          have hx14f7 : World.frozen? w6 ⟨w.heap.size, 7, none⟩ = false := Blk.free hx14 7
          have hx148 : World.cell? w6 ⟨w.heap.size, 8, none⟩ = some (.slice A8 m.body.length c8) := Blk.cell hx14 8
          have hx14f8 : World.frozen? w6 ⟨w.heap.size, 8, none⟩ = false := Blk.free hx14 8
          have hx149 : World.cell? w6 ⟨w.heap.size, 9, none⟩ = some (.int .u64 m.key) := Blk.cell hx14 9
          have hx14f9 : World.frozen? w6 ⟨w.heap.size, 9, none⟩ = false := Blk.free hx14 9
          have hx1410 : World.cell? w6 ⟨w.heap.size, 10, none⟩ = some (.int .u8 m.shard) := Blk.cell hx14 10
          have hx14f10 : World.frozen? w6 ⟨w.heap.size, 10, none⟩ = false := Blk.free hx14 10
          have hx1411 : World.cell? w6 ⟨w.heap.size, 11, none⟩ = some (.int .u32 m.stripe) := Blk.cell hx14 11
          have hx14f11 : World.frozen? w6 ⟨w.heap.size, 11, none⟩ = false := Blk.free hx14 11
          have hx1412 : World.cell? w6 ⟨w.heap.size, 12, none⟩ = some (.int .i64 m.code) := Blk.cell hx14 12
          have hx14f12 : World.frozen? w6 ⟨w.heap.size, 12, none⟩ = false := Blk.free hx14 12
          have hx1413 : World.cell? w6 ⟨w.heap.size, 13, none⟩ = some (.slice A13 m.blocks.length c13) := Blk.cell hx14 13
          have hx14f13 : World.frozen? w6 ⟨w.heap.size, 13, none⟩ = false := Blk.free hx14 13
          have heb := HEB6.out
          have heb0 : World.cell? w6 ⟨(w.heap.size + 1), 0, none⟩ = some (.int .i64 0) := Blk.cell heb 0
          have hebf0 : World.frozen? w6 ⟨(w.heap.size + 1), 0, none⟩ = false := Blk.free heb 0
          have hle := Blk.lt heb
          have hlx := Blk.lt hx14
          clear hG3 hT3 hg6 hG36 hb6 hx hl1 hl2 hl3 h5 h8 h13 q1 q2 q3 q4 q5 hr HX2 HX3 hx14 heb
          go_wp2_with fail
          have k0 : Blk _ w.heap.size #[.int .u8 m.ty, .int .u64 m.view, .int .u64 m.normal, .int .i64 m.op, .int .i64 m.commit, .slice A5 m.log.length c5, .int .u64 m.client, .int .u64 m.seq, .slice A8 m.body.length c8, .int .u64 m.key, .int .u8 m.shard, .int .u32 m.stripe, .int .i64 m.code, .slice A13 m.blocks.length c13] 29 := Blk.set HX14.out 0 (.int .u8 m.ty)
          have k1 : Blk _ w.heap.size #[.int .u8 m.ty, .int .u64 m.view, .int .u64 m.normal, .int .i64 m.op, .int .i64 m.commit, .slice A5 m.log.length c5, .int .u64 m.client, .int .u64 m.seq, .slice A8 m.body.length c8, .int .u64 m.key, .int .u8 m.shard, .int .u32 m.stripe, .int .i64 m.code, .slice A13 m.blocks.length c13] 29 := Blk.set k0 1 (.int .u64 m.view)
          have k2 : Blk _ w.heap.size #[.int .u8 m.ty, .int .u64 m.view, .int .u64 m.normal, .int .i64 m.op, .int .i64 m.commit, .slice A5 m.log.length c5, .int .u64 m.client, .int .u64 m.seq, .slice A8 m.body.length c8, .int .u64 m.key, .int .u8 m.shard, .int .u32 m.stripe, .int .i64 m.code, .slice A13 m.blocks.length c13] 29 := Blk.set k1 2 (.int .u64 m.normal)
          have k3 : Blk _ w.heap.size #[.int .u8 m.ty, .int .u64 m.view, .int .u64 m.normal, .int .i64 m.op, .int .i64 m.commit, .slice A5 m.log.length c5, .int .u64 m.client, .int .u64 m.seq, .slice A8 m.body.length c8, .int .u64 m.key, .int .u8 m.shard, .int .u32 m.stripe, .int .i64 m.code, .slice A13 m.blocks.length c13] 29 := Blk.set k2 3 (.int .i64 m.op)
          have k4 : Blk _ w.heap.size #[.int .u8 m.ty, .int .u64 m.view, .int .u64 m.normal, .int .i64 m.op, .int .i64 m.commit, .slice A5 m.log.length c5, .int .u64 m.client, .int .u64 m.seq, .slice A8 m.body.length c8, .int .u64 m.key, .int .u8 m.shard, .int .u32 m.stripe, .int .i64 m.code, .slice A13 m.blocks.length c13] 29 := Blk.set k3 4 (.int .i64 m.commit)
          have k5 : Blk _ w.heap.size #[.int .u8 m.ty, .int .u64 m.view, .int .u64 m.normal, .int .i64 m.op, .int .i64 m.commit, .slice A5 m.log.length c5, .int .u64 m.client, .int .u64 m.seq, .slice A8 m.body.length c8, .int .u64 m.key, .int .u8 m.shard, .int .u32 m.stripe, .int .i64 m.code, .slice A13 m.blocks.length c13] 29 := Blk.set k4 5 (.slice A5 m.log.length c5)
          have k6 : Blk _ w.heap.size #[.int .u8 m.ty, .int .u64 m.view, .int .u64 m.normal, .int .i64 m.op, .int .i64 m.commit, .slice A5 m.log.length c5, .int .u64 m.client, .int .u64 m.seq, .slice A8 m.body.length c8, .int .u64 m.key, .int .u8 m.shard, .int .u32 m.stripe, .int .i64 m.code, .slice A13 m.blocks.length c13] 29 := Blk.set k5 6 (.int .u64 m.client)
          have k7 : Blk _ w.heap.size #[.int .u8 m.ty, .int .u64 m.view, .int .u64 m.normal, .int .i64 m.op, .int .i64 m.commit, .slice A5 m.log.length c5, .int .u64 m.client, .int .u64 m.seq, .slice A8 m.body.length c8, .int .u64 m.key, .int .u8 m.shard, .int .u32 m.stripe, .int .i64 m.code, .slice A13 m.blocks.length c13] 29 := Blk.set k6 7 (.int .u64 m.seq)
          have k8 : Blk _ w.heap.size #[.int .u8 m.ty, .int .u64 m.view, .int .u64 m.normal, .int .i64 m.op, .int .i64 m.commit, .slice A5 m.log.length c5, .int .u64 m.client, .int .u64 m.seq, .slice A8 m.body.length c8, .int .u64 m.key, .int .u8 m.shard, .int .u32 m.stripe, .int .i64 m.code, .slice A13 m.blocks.length c13] 29 := Blk.set k7 8 (.slice A8 m.body.length c8)
          have k9 : Blk _ w.heap.size #[.int .u8 m.ty, .int .u64 m.view, .int .u64 m.normal, .int .i64 m.op, .int .i64 m.commit, .slice A5 m.log.length c5, .int .u64 m.client, .int .u64 m.seq, .slice A8 m.body.length c8, .int .u64 m.key, .int .u8 m.shard, .int .u32 m.stripe, .int .i64 m.code, .slice A13 m.blocks.length c13] 29 := Blk.set k8 9 (.int .u64 m.key)
          have k10 : Blk _ w.heap.size #[.int .u8 m.ty, .int .u64 m.view, .int .u64 m.normal, .int .i64 m.op, .int .i64 m.commit, .slice A5 m.log.length c5, .int .u64 m.client, .int .u64 m.seq, .slice A8 m.body.length c8, .int .u64 m.key, .int .u8 m.shard, .int .u32 m.stripe, .int .i64 m.code, .slice A13 m.blocks.length c13] 29 := Blk.set k9 10 (.int .u8 m.shard)
          have k11 : Blk _ w.heap.size #[.int .u8 m.ty, .int .u64 m.view, .int .u64 m.normal, .int .i64 m.op, .int .i64 m.commit, .slice A5 m.log.length c5, .int .u64 m.client, .int .u64 m.seq, .slice A8 m.body.length c8, .int .u64 m.key, .int .u8 m.shard, .int .u32 m.stripe, .int .i64 m.code, .slice A13 m.blocks.length c13] 29 := Blk.set k10 11 (.int .u32 m.stripe)
          have k12 : Blk _ w.heap.size #[.int .u8 m.ty, .int .u64 m.view, .int .u64 m.normal, .int .i64 m.op, .int .i64 m.commit, .slice A5 m.log.length c5, .int .u64 m.client, .int .u64 m.seq, .slice A8 m.body.length c8, .int .u64 m.key, .int .u8 m.shard, .int .u32 m.stripe, .int .i64 m.code, .slice A13 m.blocks.length c13] 29 := Blk.set k11 12 (.int .i64 m.code)
          have k13 : Blk _ w.heap.size #[.int .u8 m.ty, .int .u64 m.view, .int .u64 m.normal, .int .i64 m.op, .int .i64 m.commit, .slice A5 m.log.length c5, .int .u64 m.client, .int .u64 m.seq, .slice A8 m.body.length c8, .int .u64 m.key, .int .u8 m.shard, .int .u32 m.stripe, .int .i64 m.code, .slice A13 m.blocks.length c13] 29 := Blk.set k12 13 (.slice A13 m.blocks.length c13)
          have t0 := (Turned.refl (fun k => k = w.heap.size ∨ k = w.heap.size + 1) w6).setCell (p := ⟨w.heap.size, 0, none⟩) (.inl (.inl rfl)) (.int .u8 m.ty)
          have t1 := t0.setCell (p := ⟨w.heap.size, 1, none⟩) (.inl (.inl rfl)) (.int .u64 m.view)
          have t2 := t1.setCell (p := ⟨w.heap.size, 2, none⟩) (.inl (.inl rfl)) (.int .u64 m.normal)
          have t3 := t2.setCell (p := ⟨w.heap.size, 3, none⟩) (.inl (.inl rfl)) (.int .i64 m.op)
          have t4 := t3.setCell (p := ⟨w.heap.size, 4, none⟩) (.inl (.inl rfl)) (.int .i64 m.commit)
          have t5 := t4.setCell (p := ⟨w.heap.size, 5, none⟩) (.inl (.inl rfl)) (.slice A5 m.log.length c5)
          have t6 := t5.setCell (p := ⟨w.heap.size, 6, none⟩) (.inl (.inl rfl)) (.int .u64 m.client)
          have t7 := t6.setCell (p := ⟨w.heap.size, 7, none⟩) (.inl (.inl rfl)) (.int .u64 m.seq)
          have t8 := t7.setCell (p := ⟨w.heap.size, 8, none⟩) (.inl (.inl rfl)) (.slice A8 m.body.length c8)
          have t9 := t8.setCell (p := ⟨w.heap.size, 9, none⟩) (.inl (.inl rfl)) (.int .u64 m.key)
          have t10 := t9.setCell (p := ⟨w.heap.size, 10, none⟩) (.inl (.inl rfl)) (.int .u8 m.shard)
          have t11 := t10.setCell (p := ⟨w.heap.size, 11, none⟩) (.inl (.inl rfl)) (.int .u32 m.stripe)
          have t12 := t11.setCell (p := ⟨w.heap.size, 12, none⟩) (.inl (.inl rfl)) (.int .i64 m.code)
          have t13 := t12.setCell (p := ⟨w.heap.size, 13, none⟩) (.inl (.inl rfl)) (.slice A13 m.blocks.length c13)
          have hT7 := t13.setCell (p := ⟨w.heap.size + 1, 0, none⟩) (.inl (.inr rfl)) (.int .i64 0)
          have hg7 := Blk.far k13 (p := ⟨w.heap.size + 1, 0, none⟩) (by simp) (.int .i64 0)
          have he7 := Blk.set (Blk.far (Blk.far (Blk.far (Blk.far (Blk.far (Blk.far (Blk.far (Blk.far (Blk.far (Blk.far (Blk.far (Blk.far (Blk.far (Blk.far HEB6.out (p := ⟨w.heap.size, 0, none⟩) (by simp) (.int .u8 m.ty)) (p := ⟨w.heap.size, 1, none⟩) (by simp) (.int .u64 m.view)) (p := ⟨w.heap.size, 2, none⟩) (by simp) (.int .u64 m.normal)) (p := ⟨w.heap.size, 3, none⟩) (by simp) (.int .i64 m.op)) (p := ⟨w.heap.size, 4, none⟩) (by simp) (.int .i64 m.commit)) (p := ⟨w.heap.size, 5, none⟩) (by simp) (.slice A5 m.log.length c5)) (p := ⟨w.heap.size, 6, none⟩) (by simp) (.int .u64 m.client)) (p := ⟨w.heap.size, 7, none⟩) (by simp) (.int .u64 m.seq)) (p := ⟨w.heap.size, 8, none⟩) (by simp) (.slice A8 m.body.length c8)) (p := ⟨w.heap.size, 9, none⟩) (by simp) (.int .u64 m.key)) (p := ⟨w.heap.size, 10, none⟩) (by simp) (.int .u8 m.shard)) (p := ⟨w.heap.size, 11, none⟩) (by simp) (.int .u32 m.stripe)) (p := ⟨w.heap.size, 12, none⟩) (by simp) (.int .i64 m.code)) (p := ⟨w.heap.size, 13, none⟩) (by simp) (.slice A13 m.blocks.length c13)) 0 (.int .i64 0)
          have he8 := Eq.trans (show Blk _ (w.heap.size + 1) #[.int .i64 0] 26 from he7) HEB6.out.symm
          have ha7 := HARG.out.step2 hT7 he8 (fun k hk hne h => h.elim (fun h => hk.2.1 h) hne)
          rw [HX4.out]
          exact leaves_right rfl rfl (below_turned HB6.out hT7 HB6.out.size (fun k hk => by omega)) hg7 (ha7.mono (fun k hk => by have := hk.2; omega)) he7
end Go.Proofs.Ytmjbdeoomohanaa.Mine
