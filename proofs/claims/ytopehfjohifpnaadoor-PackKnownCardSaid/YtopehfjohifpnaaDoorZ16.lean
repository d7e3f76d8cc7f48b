import Derived.Test.YtopehfjohifpnaaDoorZ15
import Derived.Deep.RegionHeld3
section
set_option linter.unusedSimpArgs false
set_option linter.unusedVariables false
namespace Go.Proofs.YtopehfjohifpnaaDoor.Mine
open Go.RowKit Go.Shelf Go.Proofs.YtopehfjohifpnaaDoorW.PrintWords Go.Proofs.YtopehfjohifpnaaDoorW.PrintLast Go.Proofs.YtopehfjohifpnaaDoorW.PrintMore Go.Proofs.YtopehfjohifpnaaDoor.Turn Go.Proofs.YtopehfjohifpnaaDoor.Doc
section
variable {P : Program} (w : World)
theorem append_both (base : Nat) (t ty e : TypeId) (i : TypeInfo) (z : Value) (size bytes : Nat) (ht : P.underlying t = some (.slice e)) (hi : P.info? e = some i) (hz : i.zero = some z)
    (hsize : i.size = size) (hby : i.bytes = bytes) (hzs : z.cells.size = size) (hsz : 0 < size)
    (v : Value) (n : Nat) (xs : List Value) (hown : w.ownsRow base e size v n xs)
    (a : Addr) (m c : Nat) (news : List Value) (hl : news.length = m * size) (hnews : ∀ j u, news[j]? = some u → w.cell? (a.add j) = some u) (h1 : ∀ u ∈ news, u.oneCell' = true)
    (h63 : n + m ≤ maxLen) (hbytes : (n + m) * bytes ≤ 140737488355328) (hbase : base ≤ w.heap.size) :
    ∃ v' w', (Builtin.append_ #[t, t] ty #[v, .slice (some a) m c]).run P w = .ok v' w' ∧ w'.ownsRow base e size v' (n + m) (xs ++ news) ∧ w'.ownsRow base e size v n xs ∧ w.grownBy w' v.ownBlock ∧
      (v'.ownBlock = v.ownBlock ∨ v'.ownBlock = some w.heap.size) := by
  obtain ⟨v', w', hr, h2, h3, -, h5⟩ := run_append_own_at (P := P) w base t ty e i z size bytes ht hi hz hsize hby hzs hsz v n xs hown a m c news hl hnews h1 h63 hbytes hbase
  refine ⟨v', w', hr, h2, ?_, h3, h5⟩
  subst hsize
  subst hby
  have hlen := hown.1
  rcases hown.2 with ⟨rfl, rfl⟩ | ⟨g, cap, cur, rfl, hbg, hg, hnc, hcm, hcs, htake⟩
  · have hx : xs = [] := List.eq_nil_of_length_eq_zero (by simpa using hlen)
    subst hx
    exact World.ownsRow_nil w' base e i.size
  · by_cases hroom : n + m ≤ cap
    · have hfit : n * i.size + news.length ≤ cur.size := by rw [hl, hcs, ← Nat.add_mul]; exact Nat.mul_le_mul_right _ hroom
      have hr2 := run_append_room (P := P) w t ty e i ht hi g n cap cur hg a m c news hl hnews h1 hroom hfit
      have e9 := hr.symm.trans hr2
      injection e9 with ev ew
      rw [ev] at h2
      have h4 := own_take (m := n) h2 (by omega)
      rw [List.take_left' hlen] at h4
      exact h4
    · have holds : ∀ j u, xs[j]? = some u → w.cell? ((⟨g, 0, none⟩ : Addr).add j) = some u := hown.cells (g := g) rfl
      have hm63 : n + m ≤ 9223372036854775807 := by simp only [maxLen] at h63; omega
      have hr2 := run_append_grow (P := P) w t ty e i z ht hi hz ⟨g, 0, none⟩ n cap xs hlen holds a m c news hl hnews (by omega) (by omega) (growslice_fits (by omega) hbytes)
      have e9 := hr.symm.trans hr2
      injection e9 with ev ew
      refine ⟨hlen, .inr ⟨g, cap, cur, rfl, hbg, ?_, hnc, hcm, hcs, htake⟩⟩
      rw [ew]
      have hlt : g < w.heap.size := (Array.getElem?_eq_some_iff.1 hg).1
      exact (heap_alloc_old w.drew _ hlt).trans hg
end
section
variable {P : Program} {ops : Array Oper} {o : Oper} {a : Act} {Q : Exit → Act → World → Prop} {K : Act → World → Prop}
end
abbrev Raw := ByteArray × Int × Int × Int × (Option Addr × Nat × Nat) × ByteArray
def rawV (r : Raw) : List Value := [.string r.1, .int .u8 r.2.1, .int .i64 r.2.2.1, .int .i64 r.2.2.2.1, .slice r.2.2.2.2.1.1 r.2.2.2.2.1.2.1 r.2.2.2.2.1.2.2, .string r.2.2.2.2.2]
def rawI (x : S25) (A : Option Addr) (c : Nat) : Raw := (x.f0, x.f1, x.f2, x.f3, (A, x.f4.length, c), x.f5)
def bare (x : S25) : S25 := ⟨x.f0, x.f1, x.f2, x.f3, [], x.f5⟩
def rawB (x : S25) : Raw := (x.f0, x.f1, x.f2, x.f3, (none, 0, 0), x.f5)
def rawL (rs : List Raw) : List Value := (rs.map rawV).flatten
theorem rawV_len (r : Raw) : (rawV r).length = 6 := rfl
theorem rawL_len : ∀ rs : List Raw, (rawL rs).length = rs.length * 6
  | [] => rfl
  | r :: rs => by
    show (rawV r ++ rawL rs).length = _
    rw [List.length_append, rawV_len, rawL_len rs, List.length_cons]
    omega
theorem rawL_snoc (rs : List Raw) (r : Raw) : rawL (rs ++ [r]) = rawL rs ++ rawV r := by simp [rawL]
theorem rawL_get : ∀ (rs : List Raw) (j i : Nat) (r : Raw), rs[j]? = some r → i < 6 → (rawL rs)[j * 6 + i]? = (rawV r)[i]?
  | [], j, i, r, h, _ => by simp at h
  | q :: rs, 0, i, r, h, hi => by
    simp only [List.getElem?_cons_zero, Option.some.injEq] at h
    subst h
    show (rawV q ++ rawL rs)[0 * 6 + i]? = _
    rw [List.getElem?_append_left (by rw [rawV_len]; omega)]
    congr 1
    omega
  | q :: rs, j + 1, i, r, h, hi => by
    rw [List.getElem?_cons_succ] at h
    show (rawV q ++ rawL rs)[(j + 1) * 6 + i]? = _
    rw [List.getElem?_append_right (by rw [rawV_len]; omega), rawV_len, show (j + 1) * 6 + i - 6 = j * 6 + i by omega]
    exact rawL_get rs j i r h hi
theorem raw_C {W : World} {base n : Nat} {v : Value} {rs : List Raw} {ys : List S25} (h : W.ownsRow base 25 6 v n (rawL rs)) (hn : rs.length = ys.length)
    (hb : ∀ (j : Nat) (r : Raw) (y : S25), rs[j]? = some r → ys[j]? = some y → ∃ A c, r = rawI y A c ∧ y.f4.length ≤ c ∧ Kd.C (Kd.int .u8) W A y.f4.length y.f4) :
    ∃ A c, v = .slice A ys.length c ∧ ys.length ≤ c ∧ Kd.C k25 W A ys.length ys := by
  have hl := h.1
  rw [rawL_len] at hl
  have hnn : n = ys.length := by omega
  subst hnn
  rcases h.2 with ⟨rfl, h0⟩ | ⟨g, cap, cur, rfl, hbg, hg, hnc, hcm, hcs, htake⟩
  · have hy : ys = [] := List.eq_nil_of_length_eq_zero h0
    subst hy
    exact ⟨none, 0, rfl, Nat.le_refl _, rfl, by simp, fun hp => absurd hp (by simp)⟩
  · refine ⟨_, cap, rfl, hnc, rfl, Nat.le_trans hnc (by simp only [maxLen] at hcm; omega), fun _ => ⟨_, rfl, fun j y hj => ?_⟩⟩
    have hjl : j < ys.length := (List.getElem?_eq_some_iff.1 hj).1
    have hjr : j < rs.length := by omega
    obtain ⟨A, c, e, hc, hC⟩ := hb j rs[j] y (List.getElem?_eq_getElem hjr) hj
    refine ⟨_, rfl, k25_mk W y hc hC, fun i u hu => ?_⟩
    have hi6 : i < 6 := (List.getElem?_eq_some_iff.1 hu).1
    refine h.cells (g := g) rfl (j * 6 + i) u ?_
    rw [rawL_get rs j i _ (List.getElem?_eq_getElem hjr) hi6, e]
    exact hu
end Go.Proofs.YtopehfjohifpnaaDoor.Mine
end
section
set_option linter.unusedSimpArgs false
set_option linter.unusedVariables false
namespace Go.Proofs.YtopehfjohifpnaaDoor.Mine
open Go.RowKit Go.Shelf Go.Proofs.YtopehfjohifpnaaDoorW.PrintWords Go.Proofs.YtopehfjohifpnaaDoorW.PrintLast Go.Proofs.YtopehfjohifpnaaDoorW.PrintMore Go.Proofs.YtopehfjohifpnaaDoor.Turn Go.Proofs.YtopehfjohifpnaaDoor.Doc
structure Wr (W : World) (B T base : Nat) (vt vi : Value) (cl : Bool) (rs : List Raw) (L : List Int) : Prop where
  blk : Blk W B #[.pointer (some ⟨T, 0, none⟩), vi, .bool cl] 64
  tape : Tape W T base vt L
  row : W.ownsRow base 25 6 vi rs.length (rawL rs)
  hB : base ≤ B
  hT : base ≤ T
def InW (B T : Nat) (vt vi : Value) (k : Nat) : Prop := k = B ∨ k = T ∨ vt.ownBlock = some k ∨ vi.ownBlock = some k
theorem Wr.keep {W W' : World} {B T base : Nat} {vt vi : Value} {cl : Bool} {rs : List Raw} {L : List Int} (h : Wr W B T base vt vi cl rs L) (hk : ∀ k, InW B T vt vi k → k < W.heap.size → W'.heap[k]? = W.heap[k]?) : Wr W' B T base vt vi cl rs L :=
  ⟨(hk B (.inl rfl) (Blk.lt h.blk)).trans h.blk, h.tape.keep (fun k h1 h2 => hk k (h1.elim (fun e => .inr (.inl e)) (fun e => .inr (.inr (.inl e)))) h2), own_move h.row (fun k h1 => hk k (.inr (.inr (.inr h1))) (own_lt h.row k h1)), h.hB, h.hT⟩
theorem Wr.below {W W' : World} {B T base : Nat} {vt vi : Value} {cl : Bool} {rs : List Raw} {L : List Int} (h : Wr W B T base vt vi cl rs L) (hb : Below W.heap.size W W') : Wr W' B T base vt vi cl rs L := h.keep (fun k _ hlt => hb.block k hlt)
theorem Wr.base_le {W : World} {B T base : Nat} {vt vi : Value} {cl : Bool} {rs : List Raw} {L : List Int} (h : Wr W B T base vt vi cl rs L) : ∀ k, InW B T vt vi k → base ≤ k := fun k hk => by
  rcases hk with rfl | rfl | hk | hk
  · exact h.hB
  · exact h.hT
  · exact (h.tape.own_rg k hk).1
  · exact own_base h.row k hk
theorem Wr.ne {W : World} {B T base : Nat} {vt vi : Value} {cl : Bool} {rs : List Raw} {L : List Int} (h : Wr W B T base vt vi cl rs L) : B ≠ T ∧ vt.ownBlock ≠ some B ∧ vi.ownBlock ≠ some B ∧ vt.ownBlock ≠ some T ∧ vi.ownBlock ≠ some T ∧ ∀ k, vt.ownBlock = some k → vi.ownBlock ≠ some k := by
  have hb := h.blk
  have ht := h.tape.1
  refine ⟨fun e => ?_, fun e => Kd.R_ne h.tape.2 hb (by decide) e.symm, fun e => own_ne h.row hb (by decide) e.symm, h.tape.ne, fun e => own_ne h.row ht (by decide) e.symm, fun k h1 h2 => ?_⟩
  · subst e
    have := hb.symm.trans ht
    injection this with e2
    injection e2 with e3 e4 e5
    exact absurd e4 (by decide)
  · obtain ⟨cells, hc⟩ := own_typed h.row k h2
    exact Kd.R_ne h.tape.2 hc (by decide) h1.symm
set_option maxRecDepth 100000 in
set_option maxHeartbeats 4000000 in
theorem new_any (W : World) : Calls Tryd.prog 16 #[] W fun e W' => e = .returned (.pointer (some ⟨W.heap.size + 1, 0, none⟩)) ∧ Wr W' (W.heap.size + 1) W.heap.size W.heap.size (.slice none 0 0) (.slice none 0 0) false [] [] ∧ Below W.heap.size W W' := by
  have h1 := Blk.new W #[.slice none 0 0] 59
  have h2 := Blk.new (W.alloc (.cells #[.slice none 0 0] 59)) #[.pointer (some ⟨W.heap.size, 0, none⟩), .slice none 0 0, .bool false] 64
  rw [show (W.alloc (.cells #[.slice none 0 0] 59)).heap.size = W.heap.size + 1 from Array.size_push ..] at h2
  have HWR : Aside0 (Wr ((W.alloc (.cells #[.slice none 0 0] 59)).alloc (.cells #[.pointer (some ⟨W.heap.size, 0, none⟩), .slice none 0 0, .bool false] 64)) (W.heap.size + 1) W.heap.size W.heap.size (.slice none 0 0) (.slice none 0 0) false [] []) := ⟨h2, ⟨h1.alloc _, Kd.R_nil _ _ _ _ _⟩, World.ownsRow_nil _ _ _ _, by omega, Nat.le_refl _⟩
  have HB : Aside0 (Below W.heap.size W ((W.alloc (.cells #[.slice none 0 0] 59)).alloc (.cells #[.pointer (some ⟨W.heap.size, 0, none⟩), .slice none 0 0, .bool false] 64))) := ⟨below_alloc (below_alloc (Below.refl _ W) _) _⟩
  clear h1 h2
  go_enter Tryd.func16, Tryd.ntmps16
  go_wp2_with fail
  go_ret
  exact ⟨rfl, HWR.out, HB.out⟩
set_option maxRecDepth 100000 in
set_option maxHeartbeats 4000000 in
theorem lenW_any {W : World} {B T base : Nat} {vt vi : Value} {cl : Bool} {rs : List Raw} {L : List Int} (h : Wr W B T base vt vi cl rs L) : Calls Tryd.prog 18 #[.pointer (some ⟨B, 0, none⟩)] W fun e W' => e = .returned (.int .i64 L.length) ∧ Below W.heap.size W W' := by
  have HW := Aside0.mk h
  have k0 : W.cell? ⟨B, 0, none⟩ = some (.pointer (some ⟨T, 0, none⟩)) := (Blk.cell h.blk 0).trans rfl
  have hlt := Blk.lt h.blk
  clear h
  go_enter Tryd.func18, Tryd.ntmps18
  go_wp2_with fail
  refine (len_tape W HW.out.tape).mono ?_
  rintro e w1 ⟨rfl, hb⟩
  have HB := Aside0.mk hb
  clear hb
  go_wp2_with fail
  go_ret
  exact ⟨rfl, HB.out⟩
def EndsClose (W : World) (B T base : Nat) (vt vi : Value) (cl : Bool) (rs : List Raw) (L : List Int) (e : Ending) (W' : World) : Prop :=
  if cl = true then (e = .returned (.tuple #[.slice none 0 0, .int .i64 7]) ∧ Below W.heap.size W W') else
  ∃ A c, e = .returned (.tuple #[.slice A (L ++ zs 1024).length c, .int .i64 0]) ∧ Wr W' B T base vt vi true rs L ∧ RB W' W.heap.size (.slice A (L ++ zs 1024).length c) (L ++ zs 1024) ∧ Turned (Eq B) W W'
set_option maxRecDepth 100000 in
set_option maxHeartbeats 8000000 in
theorem close_any {W : World} {B T base : Nat} {vt vi : Value} {cl : Bool} {rs : List Raw} {L : List Int} (h : Wr W B T base vt vi cl rs L) (hl : L.length ≤ 131072) : Calls Tryd.prog 19 #[.pointer (some ⟨B, 0, none⟩)] W (EndsClose W B T base vt vi cl rs L) := by
  obtain ⟨A0, c0, rfl⟩ := Kd.R_slice h.tape.2
  have HW := Aside0.mk h
  have k0 : W.cell? ⟨B, 0, none⟩ = some (.pointer (some ⟨T, 0, none⟩)) := (Blk.cell h.blk 0).trans rfl
  have k2 : W.cell? ⟨B, 2, none⟩ = some (.bool cl) := (Blk.cell h.blk 2).trans rfl
  have kf : W.frozen? ⟨B, 2, none⟩ = false := Blk.free h.blk 2
  have hlt := Blk.lt h.blk
  clear h
  cases cl
  case true =>
    unfold EndsClose
    simp only [if_true]
    go_enter Tryd.func19, Tryd.ntmps19
    go_wp2_with fail
    go_ret2
    exact ⟨rfl, Below.refl _ _⟩
  case false =>
    have HE : Aside0 (EndsClose W B T base (.slice A0 L.length c0) vi false rs L = fun e W' => ∃ A c, e = .returned (.tuple #[.slice A (L ++ zs 1024).length c, .int .i64 0]) ∧ Wr W' B T base (.slice A0 L.length c0) vi true rs L ∧ RB W' W.heap.size (.slice A (L ++ zs 1024).length c) (L ++ zs 1024) ∧ Turned (Eq B) W W') := ⟨by
      unfold EndsClose
      simp only [Bool.false_eq_true, if_false]⟩
    obtain ⟨PE, hPE⟩ : ∃ PE, EndsClose W B T base (.slice A0 L.length c0) vi false rs L = PE := ⟨_, rfl⟩
    rw [hPE] at HE ⊢
    clear hPE
    go_enter Tryd.func19, Tryd.ntmps19
    go_upto_region 7 with (fail)
    have hX : Wr (W.setCell ⟨B, 2, none⟩ (.bool true)) B T base (.slice A0 L.length c0) vi true rs L := by
      obtain ⟨n1, n2, n3, -, -, -⟩ := HW.out.ne
      refine ⟨(HW.out.blk.set 2 (.bool true)).trans rfl, HW.out.tape.keep (fun k h1 _ => Below.heap_setCell W ⟨B, 2, none⟩ (.bool true) k (fun e => ?_)), own_move HW.out.row (fun k hk => Below.heap_setCell W ⟨B, 2, none⟩ (.bool true) k (fun e => ?_)), HW.out.hB, HW.out.hT⟩
      · rcases h1 with h1 | h1
        · exact n1 (e.symm.trans h1)
        · exact n2 (by rw [h1]; exact congrArg some e)
      · exact n3 (by rw [hk]; exact congrArg some e)
    have hT : Turned (Eq B) W (W.setCell ⟨B, 2, none⟩ (.bool true)) := (Turned.refl (Eq B) W).setCell (p := ⟨B, 2, none⟩) (.inl rfl) _
    have HX := Aside0.mk hX
    have HT := Aside0.mk hT
    have HSZ : Aside0 ((W.setCell ⟨B, 2, none⟩ (.bool true)).heap.size = W.heap.size) := ⟨by simp [World.setCell]⟩
    clear hX hT k0 k2 kf hlt
    generalize W.setCell ⟨B, 2, none⟩ (.bool true) = X at *
    have k0 : X.cell? ⟨B, 0, none⟩ = some (.pointer (some ⟨T, 0, none⟩)) := (Blk.cell HX.out.blk 0).trans rfl
    have k1 : X.cell? ⟨T, 0, none⟩ = some (.slice A0 L.length c0) := (Blk.cell HX.out.tape.1 0).trans rfl
    have hlB := Blk.lt HX.out.blk
    have hlT := Blk.lt HX.out.tape.1
    obtain ⟨n, hn⟩ : ∃ n : Nat, n = 1024 := ⟨_, rfl⟩
    obtain ⟨X2, hmk, hsz2, hbe2, hC2⟩ := make_n n (by omega) X.drew
    have hC1 : Kd.C (Kd.int .u8) X2 A0 L.length L := by
      obtain ⟨A', c', e3, hc, hC⟩ := Kd.R_reads HX.out.tape.2
      cases e3
      exact Kd.C_below hC ((below_drew (Below.refl X.heap.size X)).trans hbe2)
    have hcc : L.length ≤ c0 := by
      obtain ⟨A', c', e3, hc, hC⟩ := Kd.R_reads HX.out.tape.2
      cases e3
      exact hc
    have hz := zs_length n
    obtain ⟨zz, hzz⟩ : ∃ zz, zs n = zz := ⟨_, rfl⟩
    rw [hzz] at hz hC2
    have HZZ : Aside0 (zs 1024 = zz) := ⟨by rw [← hn]; exact hzz⟩
    have h2 := C_two 23 (y := zz) (c2 := n) hC1 hcc (by rw [hz]; exact hC2) (Nat.le_of_eq hz)
    rw [hz] at h2
    have hsl : sumLen [L, zz] ≤ 1000000 := by simp only [sumLen, List.map_cons, List.map_nil, List.sum_cons, List.sum_nil, hz]; omega
    have hcf : [L, zz].flatten = L ++ zz := by simp
    have hcc2 := concat_any (some ⟨X2.heap.size, 0, none⟩) 2 [L, zz] (by show 2 ≤ 1000; omega) hsl _ h2
    rw [hcf] at hcc2
    have HCC : Aside0 (Calls Tryd.prog 28 #[.slice (some ⟨X2.heap.size, 0, none⟩) 2 2] (X2.alloc (.cells #[.slice A0 L.length c0, .slice (some ⟨X.heap.size, 0, none⟩) n n] 23)) fun e W' => ∃ A' c', e = .returned (.slice A' (L ++ zz).length c') ∧ RB W' (X2.alloc (.cells #[.slice A0 L.length c0, .slice (some ⟨X.heap.size, 0, none⟩) n n] 23)).heap.size (.slice A' (L ++ zz).length c') (L ++ zz) ∧ Below (X2.alloc (.cells #[.slice A0 L.length c0, .slice (some ⟨X.heap.size, 0, none⟩) n n] 23)).heap.size (X2.alloc (.cells #[.slice A0 L.length c0, .slice (some ⟨X.heap.size, 0, none⟩) n n] 23)) W') := ⟨hcc2⟩
    have HBX : Aside0 (Below X.heap.size X (X2.alloc (.cells #[.slice A0 L.length c0, .slice (some ⟨X.heap.size, 0, none⟩) n n] 23))) := ⟨below_alloc ((below_drew (Below.refl X.heap.size X)).trans hbe2) _⟩
    have kB2 : X2.cell? ⟨B, 0, none⟩ = some (.pointer (some ⟨T, 0, none⟩)) := pw_cell_below (w := X) ((below_drew (Below.refl X.heap.size X)).trans hbe2) k0
    have kX2 : X2.cell? ⟨T, 0, none⟩ = some (.slice A0 L.length c0) := pw_cell_below (w := X) ((below_drew (Below.refl X.heap.size X)).trans hbe2) k1
    clear h2 hC1 hC2 hcc hbe2 hz hzz hsl hsz2 hcc2 hcf
    have hmk2 : (Instr.makeSlice 23 (.int .i64 1024) (.int .i64 1024)).run Tryd.prog X.drew = .ok (.slice (some ⟨X.drew.heap.size, 0, none⟩) n n) X2 := by rw [← hmk, hn]; rfl
    clear hmk
    have HN := Aside0.mk hn
    clear hn
    have hmk3 : (Instr.makeSlice 23 (.int .i64 1024) (.int .i64 1024)).run Tryd.prog X.drew = .ok (.slice (some ⟨X.heap.size, 0, none⟩) n n) X2 := hmk2
    clear hmk2
    go_region_held3 (fun w' => w'.cell? ⟨B, 0, none⟩ = some (.pointer (some ⟨T, 0, none⟩)) ∧ w'.cell? ⟨T, 0, none⟩ = some (.slice A0 L.length c0)) (first | go_keep | assumption | exact ⟨k0, k1⟩ | (exact ⟨pw_cell_below hb5 (cell_alloc_l _ kB2), pw_cell_below hb5 (cell_alloc_l _ kX2)⟩)) (first | (go_at_call 28; refine HCC.out.mono ?_; rintro e X5 ⟨A5, c5, rfl, ho5, hb5⟩))
    go_wp2_with fail
    rw [HE.out]
    simp only
    rw [HZZ.out]
    exact ⟨A5, c5, by rw [List.length_append]; rfl, (HX.out.below HBX.out).below hb5, Kd.R_lower ho5 (by have := HBX.out.size; have := HSZ.out; omega), (HT.out.below HBX.out).below hb5⟩
end Go.Proofs.YtopehfjohifpnaaDoor.Mine
end
