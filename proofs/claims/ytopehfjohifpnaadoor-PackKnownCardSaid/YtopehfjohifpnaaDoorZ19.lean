import Derived.Test.YtopehfjohifpnaaDoorZ18
section
set_option linter.unusedSimpArgs false
set_option linter.unusedVariables false
namespace Go.Proofs.YtopehfjohifpnaaDoor.Mine
open Go.RowKit Go.Shelf Go.Proofs.YtopehfjohifpnaaDoorW.PrintWords Go.Proofs.YtopehfjohifpnaaDoorW.PrintLast Go.Proofs.YtopehfjohifpnaaDoorW.PrintMore Go.Proofs.YtopehfjohifpnaaDoor.Turn Go.Proofs.YtopehfjohifpnaaDoor.Doc
theorem C_twoI {W : World} {x y : S25} {A A' : Option Addr} {c c' n n' : Nat} (hn : n = x.f4.length) (hn' : n' = y.f4.length) (t : TypeId) (hl : n ≤ c) (hC : Kd.C (Kd.int .u8) W A n x.f4) (hl' : n' ≤ c') (hC' : Kd.C (Kd.int .u8) W A' n' y.f4) :
    Kd.C k25 (W.alloc (.cells #[.string x.f0, .int .u8 x.f1, .int .i64 x.f2, .int .i64 x.f3, .slice A n c, .string x.f5, .string y.f0, .int .u8 y.f1, .int .i64 y.f2, .int .i64 y.f3, .slice A' n' c', .string y.f5] t)) (some ⟨W.heap.size, 0, none⟩) [x, y].length [x, y] := by
  subst hn hn'
  have hb := Blk.new W #[.string x.f0, .int .u8 x.f1, .int .i64 x.f2, .int .i64 x.f3, .slice A x.f4.length c, .string x.f5, .string y.f0, .int .u8 y.f1, .int .i64 y.f2, .int .i64 y.f3, .slice A' y.f4.length c', .string y.f5] t
  have k1 := Kd.C_below hC (below_alloc (Below.refl _ W) (.cells #[.string x.f0, .int .u8 x.f1, .int .i64 x.f2, .int .i64 x.f3, .slice A x.f4.length c, .string x.f5, .string y.f0, .int .u8 y.f1, .int .i64 y.f2, .int .i64 y.f3, .slice A' y.f4.length c', .string y.f5] t))
  have k2 := Kd.C_below hC' (below_alloc (Below.refl _ W) (.cells #[.string x.f0, .int .u8 x.f1, .int .i64 x.f2, .int .i64 x.f3, .slice A x.f4.length c, .string x.f5, .string y.f0, .int .u8 y.f1, .int .i64 y.f2, .int .i64 y.f3, .slice A' y.f4.length c', .string y.f5] t))
  refine ⟨rfl, by simp, fun _ => ⟨_, rfl, fun j p hj => ?_⟩⟩
  match j, hj with
  | 0, hj =>
    cases hj
    refine ⟨_, rfl, k25_mk _ x hl k1, fun i u hu => ?_⟩
    match i, hu with
    | 0, hu => cases hu; exact (Blk.cell hb 0).trans rfl
    | 1, hu => cases hu; exact (Blk.cell hb 1).trans rfl
    | 2, hu => cases hu; exact (Blk.cell hb 2).trans rfl
    | 3, hu => cases hu; exact (Blk.cell hb 3).trans rfl
    | 4, hu => cases hu; exact (Blk.cell hb 4).trans rfl
    | 5, hu => cases hu; exact (Blk.cell hb 5).trans rfl
  | 1, hj =>
    cases hj
    refine ⟨_, rfl, k25_mk _ y hl' k2, fun i u hu => ?_⟩
    match i, hu with
    | 0, hu => cases hu; exact (Blk.cell hb 6).trans rfl
    | 1, hu => cases hu; exact (Blk.cell hb 7).trans rfl
    | 2, hu => cases hu; exact (Blk.cell hb 8).trans rfl
    | 3, hu => cases hu; exact (Blk.cell hb 9).trans rfl
    | 4, hu => cases hu; exact (Blk.cell hb 10).trans rfl
    | 5, hu => cases hu; exact (Blk.cell hb 11).trans rfl
theorem wnil_any (i0 : Int) (X : World) (hV : Vars X i0) : Calls Tryd.prog 9 #[.slice none 0 0] X fun e w' => (∃ A c, e = .returned (.tuple #[.slice A 1024 c, .int .i64 0, .int .i64 0]) ∧ Kd.C (Kd.int .u8) w' A 1024 (zs 1024)) ∧ Below X.heap.size X w' := by
  have h := write_any none 0 [] i0 X (nil_CI X) hV
  rw [kn_no] at h
  refine h.mono ?_
  rintro e w' ⟨A', c', rfl, ho, hb⟩
  obtain ⟨_, _, e2, hc, hC⟩ := Kd.R_reads ho
  cases e2
  rw [zs_length] at hC ⊢
  exact ⟨⟨A', c', rfl, hC⟩, hb⟩
theorem size1_any (i0 : Int) (p : ByteArray) (n m : Nat) (hw : (writeF [fileI p n]).1.length = m ∧ (writeF [fileI p n]).2.2 = 0) (X : World) (A : Option Addr) (c : Nat) (hV : Vars X i0) (hc : n ≤ c) (hC : Kd.C (Kd.int .u8) X A n (zs n)) :
    Calls Tryd.prog 12 #[.slice (some ⟨X.heap.size, 0, none⟩) 1 1] (X.alloc (.cells #[.string p, .int .u8 1, .int .i64 0, .int .i64 0, .slice A n c, .string NoB] 25)) fun e w' => e = .returned (.tuple #[.int .i64 m, .int .i64 0]) ∧ Below (X.alloc (.cells #[.string p, .int .u8 1, .int .i64 0, .int .i64 0, .slice A n c, .string NoB] 25)).heap.size (X.alloc (.cells #[.string p, .int .u8 1, .int .i64 0, .int .i64 0, .slice A n c, .string NoB] 25)) w' := by
  have h := sizeW_any (some ⟨X.heap.size, 0, none⟩) 1 [fileI p n] i0 _ (C_oneI (x := fileI p n) (by show n = (zs n).length; rw [zs_length]) 25 hc hC) (hV.below (below_alloc (Below.refl _ X) _))
  rw [hw.1, hw.2] at h
  exact h
theorem fold1_any (i0 : Int) (p : ByteArray) (m : Nat) (hw : (writeF [foldI p]).1.length = m ∧ (writeF [foldI p]).2.2 = 0) (X : World) (A : Option Addr) (c : Nat) (hV : Vars X i0) (hC : Kd.C (Kd.int .u8) X A 0 []) :
    Calls Tryd.prog 12 #[.slice (some ⟨X.heap.size, 0, none⟩) 1 1] (X.alloc (.cells #[.string p, .int .u8 2, .int .i64 0, .int .i64 0, .slice A 0 c, .string NoB] 25)) fun e w' => e = .returned (.tuple #[.int .i64 m, .int .i64 0]) ∧ Below (X.alloc (.cells #[.string p, .int .u8 2, .int .i64 0, .int .i64 0, .slice A 0 c, .string NoB] 25)).heap.size (X.alloc (.cells #[.string p, .int .u8 2, .int .i64 0, .int .i64 0, .slice A 0 c, .string NoB] 25)) w' := by
  have h := sizeW_any (some ⟨X.heap.size, 0, none⟩) 1 [foldI p] i0 _ (C_oneI (x := foldI p) rfl 25 (Nat.zero_le c) hC) (hV.below (below_alloc (Below.refl _ X) _))
  rw [hw.1, hw.2] at h
  exact h
def twoO (p q : ByteArray) (A A' : Option Addr) (n n' c c' : Nat) : Obj := .cells #[.string p, .int .u8 1, .int .i64 0, .int .i64 0, .slice A n c, .string NoB, .string q, .int .u8 1, .int .i64 0, .int .i64 0, .slice A' n' c', .string NoB] 25
theorem over_any (i0 : Int) (p q : ByteArray) (n n' : Nat) (hw : writeF [fileI p n, fileI q n'] = ([], 1, 2)) (X : World) (A A' : Option Addr) (c c' : Nat) (hV : Vars X i0) (hc : n ≤ c) (hC : Kd.C (Kd.int .u8) X A n (zs n)) (hc' : n' ≤ c') (hC' : Kd.C (Kd.int .u8) X A' n' (zs n')) :
    Calls Tryd.prog 9 #[.slice (some ⟨X.heap.size, 0, none⟩) 2 2] (X.alloc (twoO p q A A' n n' c c')) fun e w' => (∃ A c, e = .returned (.tuple #[.slice A 0 c, .int .i64 1, .int .i64 2])) ∧ Below (X.alloc (twoO p q A A' n n' c c')).heap.size (X.alloc (twoO p q A A' n n' c c')) w' := by
  have h := write_any (some ⟨X.heap.size, 0, none⟩) 2 [fileI p n, fileI q n'] i0 _ (C_twoI (x := fileI p n) (y := fileI q n') (by show n = (zs n).length; rw [zs_length]) (by show n' = (zs n').length; rw [zs_length]) 25 hc hC hc' hC') (hV.below (below_alloc (Below.refl _ X) _))
  rw [hw] at h
  refine h.mono ?_
  rintro e w' ⟨A1, c1, rfl, -, hb⟩
  exact ⟨⟨A1, c1, rfl⟩, hb⟩
theorem full_any (i0 : Int) (p q : ByteArray) (n n' m : Nat) (hw : (writeF [fileI p n, fileI q n']).1.length = m ∧ (writeF [fileI p n, fileI q n']).2.2 = 0) (X : World) (A A' : Option Addr) (c c' : Nat) (hV : Vars X i0) (hc : n ≤ c) (hC : Kd.C (Kd.int .u8) X A n (zs n)) (hc' : n' ≤ c') (hC' : Kd.C (Kd.int .u8) X A' n' (zs n')) :
    Calls Tryd.prog 12 #[.slice (some ⟨X.heap.size, 0, none⟩) 2 2] (X.alloc (twoO p q A A' n n' c c')) fun e w' => e = .returned (.tuple #[.int .i64 m, .int .i64 0]) ∧ Below (X.alloc (twoO p q A A' n n' c c')).heap.size (X.alloc (twoO p q A A' n n' c c')) w' := by
  have h := sizeW_any (some ⟨X.heap.size, 0, none⟩) 2 [fileI p n, fileI q n'] i0 _ (C_twoI (x := fileI p n) (y := fileI q n') (by show n = (zs n).length; rw [zs_length]) (by show n' = (zs n').length; rw [zs_length]) 25 hc hC hc' hC') (hV.below (below_alloc (Below.refl _ X) _))
  rw [hw.1, hw.2] at h
  exact h
theorem C_nil0 (A : Option Addr) (X : World) : Kd.C (Kd.int .u8) X A 0 [] := ⟨rfl, by simp, fun h => absurd h (by simp)⟩
theorem wr_below {W W' W0 : World} {B T : Nat} {vt vi : Value} {cl : Bool} {rs : List Raw} {L : List Int} (h : Wr W B T W0.heap.size vt vi cl rs L) (hB : Below W0.heap.size W0 W) (ht : Turned (InW B T vt vi) W W') : Below W0.heap.size W0 W' := hB.trans (ht.toBelow hB.size (fun k hk => h.base_le k hk))
theorem addK {W W0 : World} {B T : Nat} {vt vi : Value} {cl : Bool} {its : List S25} {L : List Int} (p : ByteArray) (r : Int) (hr : addR its L cl (foldI p) = r) (A : Option Addr) (c : Nat) (i0 : Int) (h : Wr W B T W0.heap.size vt vi cl (its.map rawB) L)
    (hB : Below W0.heap.size W0 W) (hV : Vars W0 i0) (hl : L.length ≤ 131072) (hn : its.length ≤ 1000) :
    Calls Tryd.prog 17 #[.pointer (some ⟨B, 0, none⟩), .agg #[.string p, .int .u8 2, .int .i64 0, .int .i64 0, .slice A 0 c, .string NoB]] W fun e W' => e = .returned (.int .i64 r) ∧ (∃ vt' vi', Wr W' B T W0.heap.size vt' vi' cl (if r = 0 then (its ++ [foldI p]).map rawB else its.map rawB) (if r = 0 then L ++ piecesF (foldI p) else L)) ∧ Below W0.heap.size W0 W' := by
  have h2 := add_any (foldI p) A c i0 h hB hV (fun X _ => C_nil0 A X) (Nat.zero_le c) hl hn
  unfold EndsAdd at h2
  rw [hr] at h2
  refine h2.mono ?_
  rintro e W' ⟨rfl, ⟨⟨vt', vi', h3, -, -⟩, h4⟩⟩
  exact ⟨rfl, ⟨vt', vi', h3⟩, wr_below h hB h4⟩
theorem closeK {W W0 : World} {B T n : Nat} {vt vi : Value} {rs : List Raw} {L : List Int} (h : Wr W B T W0.heap.size vt vi false rs L) (hB : Below W0.heap.size W0 W) (hl : L.length ≤ 131072) (hn : (L ++ zs 1024).length = n) :
    Calls Tryd.prog 19 #[.pointer (some ⟨B, 0, none⟩)] W fun e W' => (∃ A c, e = .returned (.tuple #[.slice A n c, .int .i64 0])) ∧ Wr W' B T W0.heap.size vt vi true rs L ∧ Below W0.heap.size W0 W' := by
  refine (close_any h hl).mono ?_
  intro e W' h2
  unfold EndsClose at h2
  rw [if_neg (by decide)] at h2
  obtain ⟨A, c, rfl, h3, -, h4⟩ := h2
  rw [hn]
  exact ⟨⟨A, c, rfl⟩, h3, hB.trans (h4.toBelow hB.size (fun k hk => by rw [← hk]; exact h.hB))⟩
theorem closeK2 {W W0 : World} {B T : Nat} {vt vi : Value} {rs : List Raw} {L : List Int} (h : Wr W B T W0.heap.size vt vi true rs L) (hB : Below W0.heap.size W0 W) (hl : L.length ≤ 131072) :
    Calls Tryd.prog 19 #[.pointer (some ⟨B, 0, none⟩)] W fun e W' => e = .returned (.tuple #[.slice none 0 0, .int .i64 7]) ∧ Wr W' B T W0.heap.size vt vi true rs L ∧ Below W0.heap.size W0 W' := by
  refine (close_any h hl).mono ?_
  intro e W' h2
  unfold EndsClose at h2
  rw [if_pos rfl] at h2
  exact ⟨h2.1, h.below h2.2, below_step hB h2.2⟩
theorem kn_one512 : (piecesF (foldI sA)).length = 512 := len_fold (p := sA) chk_a (by decide)
theorem addR7 (its : List S25) (L : List Int) (x : S25) : addR its L true x = 7 := by unfold addR; rw [if_pos rfl]
def strZ : Value → Nat
  | .string s => s.size
  | _ => 0
def EndsK (w : World) (e : Ending) (w' : World) : Prop := e = .returned (.bool true) ∧ Below w.heap.size w w'
set_option maxRecDepth 100000 in
set_option maxHeartbeats 16000000 in
theorem packKnown_any (i0 : Int) (w : World) (hV : Vars w i0) :
    Calls Tryd.prog 5 #[] w (EndsK w) := by
  have HV := Aside0.mk hV
  have HE : Aside0 (EndsK w = fun e w' => e = .returned (.bool true) ∧ Below w.heap.size w w') := ⟨rfl⟩
  obtain ⟨PE, hPE⟩ : ∃ PE, EndsK w = PE := ⟨_, rfl⟩
  rw [hPE] at HE ⊢
  clear hV hPE
  go_enter Tryd.func5, Tryd.ntmps5
  go_wp2_with fail
  refine (wnil_any i0 w HV.out).mono ?_
  rintro e w1 ⟨⟨B1, d1, rfl, hC1⟩, hb1⟩
  have HB1 := Aside0.mk hb1
  have HZ1 := Aside0.mk hC1
  have HV1 := Aside0.mk (HV.out.below hb1)
  have G1 : Aside0 (Below w1.heap.size w1 w1) := ⟨Below.refl _ _⟩
  clear hb1 hC1 HV
  go_wp2_with fail
  refine (folder_any sA w1).mono ?_
  rintro e w2 ⟨A2, c2, rfl, hC2, hb2⟩
  have G2 := Aside0.mk (below_step G1.out hb2)
  have Q2 := Aside0.mk (fold1_any i0 sA 1536 kn_fold w2 A2 c2 (HV1.out.below G2.out) hC2)
  have H2 := Aside0.mk (below_alloc G2.out (.cells #[.string sA, .int .u8 2, .int .i64 0, .int .i64 0, .slice A2 0 c2, .string NoB] 25))
  clear hb2 hC2
  go_wp2_with fail
  refine Q2.out.mono ?_
  rintro e w3 ⟨rfl, hb3⟩
  have G3 := Aside0.mk (below_step H2.out hb3)
  clear hb3 Q2 H2 G2
  go_wp2_with fail
  refine (file_any sA 512 (by omega) w3).mono ?_
  rintro e w4 ⟨A4, c4, rfl, hc4, hC4, hb4⟩
  have G4 := Aside0.mk (below_step G3.out hb4)
  have Q4 := Aside0.mk (size1_any i0 sA 512 2048 kn_512 w4 A4 c4 (HV1.out.below G4.out) hc4 hC4)
  have H4 := Aside0.mk (below_alloc G4.out (.cells #[.string sA, .int .u8 1, .int .i64 0, .int .i64 0, .slice A4 512 c4, .string NoB] 25))
  clear hb4 hC4 hc4
  go_wp2_with fail
  refine Q4.out.mono ?_
  rintro e w5 ⟨rfl, hb5⟩
  have G5 := Aside0.mk (below_step H4.out hb5)
  clear hb5 Q4 H4 G4
  go_wp2_with fail
  refine (file_any sA 65536 (by omega) w5).mono ?_
  rintro e w6 ⟨A6, c6, rfl, hc6, hC6, hb6⟩
  have G6 := Aside0.mk (below_step G5.out hb6)
  have Q6 := Aside0.mk (size1_any i0 sA 65536 67072 kn_one w6 A6 c6 (HV1.out.below G6.out) hc6 hC6)
  have H6 := Aside0.mk (below_alloc G6.out (.cells #[.string sA, .int .u8 1, .int .i64 0, .int .i64 0, .slice A6 65536 c6, .string NoB] 25))
  clear hb6 hC6 hc6
  go_wp2_with fail
  refine Q6.out.mono ?_
  rintro e w7 ⟨rfl, hb7⟩
  have G7 := Aside0.mk (below_step H6.out hb7)
  clear hb7 Q6 H6 G6
  go_wp2_with fail
  refine (file_any sA 65536 (by omega) w7).mono ?_
  rintro e w8 ⟨A8, c8, rfl, hc8, hC8, hb8⟩
  have G8 := Aside0.mk (below_step G7.out hb8)
  go_wp2_with fail
  refine (file_any sB 65536 (by omega) w8).mono ?_
  rintro e w9 ⟨A9, c9, rfl, hc9, hC9, hb9⟩
  have G9 := Aside0.mk (below_step G8.out hb9)
  have hD9 := Kd.C_below hC8 hb9
  have Q9 := Aside0.mk (over_any i0 sA sB 65536 65536 kn_over w9 A8 A9 c8 c9 (HV1.out.below G9.out) hc8 hD9 hc9 hC9)
  have H9 := Aside0.mk (below_alloc G9.out (twoO sA sB A8 A9 65536 65536 c8 c9))
  clear hb8 hb9 hC8 hC9 hD9 hc8 hc9
  go_wp2_with fail
  refine Q9.out.mono ?_
  rintro e w10 ⟨⟨X1, y1, rfl⟩, hb10⟩
  have G10 := Aside0.mk (below_step H9.out hb10)
  clear hb10 Q9 H9 G9
  go_wp2_with fail
  refine (blank_any B1 1024 d1 (by omega) w10 (Kd.C_below HZ1.out G10.out)).mono ?_
  rintro e w11 ⟨rfl, hb11⟩
  have G11 := Aside0.mk (below_step G10.out hb11)
  clear hb11 G10 HZ1
  go_wp2_with fail
  refine (file_any sA 65536 (by omega) w11).mono ?_
  rintro e w12 ⟨A12, c12, rfl, hc12, hC12, hb12⟩
  have G12 := Aside0.mk (below_step G11.out hb12)
  go_wp2_with fail
  refine (file_any sB 63489 (by omega) w12).mono ?_
  rintro e w13 ⟨A13, c13, rfl, hc13, hC13, hb13⟩
  have G13 := Aside0.mk (below_step G12.out hb13)
  have hD13 := Kd.C_below hC12 hb13
  have Q13 := Aside0.mk (over_any i0 sA sB 65536 63489 kn_over2 w13 A12 A13 c12 c13 (HV1.out.below G13.out) hc12 hD13 hc13 hC13)
  have H13 := Aside0.mk (below_alloc G13.out (twoO sA sB A12 A13 65536 63489 c12 c13))
  clear hb12 hb13 hC12 hC13 hD13 hc12 hc13
  go_wp2_with fail
  refine Q13.out.mono ?_
  rintro e w14 ⟨⟨X2, y2, rfl⟩, hb14⟩
  have G14 := Aside0.mk (below_step H13.out hb14)
  clear hb14 Q13 H13 G13
  go_wp2_with fail
  refine (file_any sA 65536 (by omega) w14).mono ?_
  rintro e w15 ⟨A15, c15, rfl, hc15, hC15, hb15⟩
  have G15 := Aside0.mk (below_step G14.out hb15)
  go_wp2_with fail
  refine (file_any sB 63488 (by omega) w15).mono ?_
  rintro e w16 ⟨A16, c16, rfl, hc16, hC16, hb16⟩
  have G16 := Aside0.mk (below_step G15.out hb16)
  have hD16 := Kd.C_below hC15 hb16
  have Q16 := Aside0.mk (full_any i0 sA sB 65536 63488 131072 kn_full w16 A15 A16 c15 c16 (HV1.out.below G16.out) hc15 hD16 hc16 hC16)
  have H16 := Aside0.mk (below_alloc G16.out (twoO sA sB A15 A16 65536 63488 c15 c16))
  clear hb15 hb16 hC15 hC16 hD16 hc15 hc16
  go_wp2_with fail
  refine Q16.out.mono ?_
  rintro e w17 ⟨rfl, hb17⟩
  have G17 := Aside0.mk (below_step H16.out hb17)
  clear hb17 Q16 H16 G16
  go_wp2_with fail
  go_loopw [18] (fun v X => ∃ j : Nat, j ≤ 101 ∧ v = .string (nS j) ∧ Aside0 (Below w1.heap.size w1 X)) (fun v _ => 101 - strZ v)
  case atStart => exact ⟨0, by omega, rfl, G17⟩
  case round =>
    rename World => X
    clear G17
    obtain ⟨j, hj, rfl, G0⟩ := hrel
    have hz := nS_size j
    by_cases hlt : j < 101
    · have o1 : ∀ w, (Op.stringOp .add (nS j) (⟨#[110]⟩ : ByteArray)).run Tryd.prog w = .ok (.string (nS (j + 1))) w := fun w => by rw [← nS_next]; exact run_string_add w _ _ (by omega) (by show ((1 : Nat) : Int) ≤ _; omega)
      have hz2 := nS_size (j + 1)
      generalize nS j = s0 at *
      go_wp2_with fail
      go_roundw
      case rel => exact ⟨j + 1, by omega, rfl, G0⟩
      case measure => simp [strZ, hz, hz2]; omega
    · obtain rfl : j = 101 := by omega
      obtain ⟨lg, hlg⟩ : ∃ s, nS 101 = s := ⟨_, rfl⟩
      have HS1 : Aside0 (∀ (X : World) A c, Vars X i0 → 0 ≤ c → Kd.C (Kd.int .u8) X A 0 (zs 0) → Calls Tryd.prog 12 #[.slice (some ⟨X.heap.size, 0, none⟩) 1 1] (X.alloc (.cells #[.string lg, .int .u8 1, .int .i64 0, .int .i64 0, .slice A 0 c, .string NoB] 25)) fun e w' => e = .returned (.tuple #[.int .i64 2560, .int .i64 0]) ∧ Below (X.alloc (.cells #[.string lg, .int .u8 1, .int .i64 0, .int .i64 0, .slice A 0 c, .string NoB] 25)).heap.size (X.alloc (.cells #[.string lg, .int .u8 1, .int .i64 0, .int .i64 0, .slice A 0 c, .string NoB] 25)) w') := ⟨fun X A c h1 h2 h3 => size1_any i0 lg 0 2560 (by rw [← hlg]; exact kn_longvol) X A c h1 h2 h3⟩
      have HP1 : Aside0 (∀ (X : World) (A : Option Addr) (c : Nat), Vars X i0 → Calls Tryd.prog 6 #[.agg #[.string lg, .int .u8 1, .int .i64 0, .int .i64 0, .slice A 0 c, .string NoB]] X fun e w' => (∃ A' c', e = .returned (.tuple #[.slice A' 1 c', .int .i64 0]) ∧ Kd.C k33 w' A' 1 [⟨KPath, lg⟩]) ∧ Below X.heap.size X w') := ⟨fun X A c hv => by
        have h := pairs_any lg 1 0 0 A 0 c NoB i0 X hv.len
        rw [(by rw [← hlg]; exact kn_pairsF : pairsF lg 1 0 0 0 NoB = ([⟨KPath, lg⟩], 0))] at h
        exact h.mono fun e w' ⟨A', c', h1, h2, h3⟩ => ⟨⟨A', c', h1, h2⟩, h3⟩⟩
      have HP2 : Aside0 (∀ (X : World) (A : Option Addr) (c : Nat), Vars X i0 → Calls Tryd.prog 6 #[.agg #[.string sL, .int .u8 4, .int .i64 0, .int .i64 0, .slice A 0 c, .string lg]] X fun e w' => (∃ A' c', e = .returned (.tuple #[.slice A' 1 c', .int .i64 0]) ∧ Kd.C k33 w' A' 1 [⟨KLink, lg⟩]) ∧ Below X.heap.size X w') := ⟨fun X A c hv => by
        have h := pairs_any sL 4 0 0 A 0 c lg i0 X hv.len
        rw [(by rw [← hlg]; exact kn_soft : pairsF sL 4 0 0 0 lg = ([⟨KLink, lg⟩], 0))] at h
        exact h.mono fun e w' ⟨A', c', h1, h2, h3⟩ => ⟨⟨A', c', h1, h2⟩, h3⟩⟩
      obtain ⟨t1, ht1⟩ : ∃ s, nS 90 ++ (⟨#[47]⟩ : ByteArray) = s := ⟨_, rfl⟩
      obtain ⟨t2, ht2⟩ : ∃ s, t1 ++ nS 90 = s := ⟨_, rfl⟩
      have HP3 : Aside0 (∀ (X : World) (A : Option Addr) (c : Nat), Vars X i0 → Calls Tryd.prog 6 #[.agg #[.string t2, .int .u8 1, .int .i64 0, .int .i64 0, .slice A 0 c, .string NoB]] X fun e w' => (∃ A' c', e = .returned (.tuple #[.slice A' 0 c', .int .i64 0]) ∧ Kd.C k33 w' A' 0 []) ∧ Below X.heap.size X w') := ⟨fun X A c hv => by
        have h := pairs_any t2 1 0 0 A 0 c NoB i0 X hv.len
        rw [(by rw [← ht2, ← ht1]; exact kn_cut : pairsF t2 1 0 0 0 NoB = ([], 0))] at h
        exact h.mono fun e w' ⟨A', c', h1, h2, h3⟩ => ⟨⟨A', c', h1, h2⟩, h3⟩⟩
      have hx90 : lg.extract 0 90 = nS 90 := by rw [← hlg]; exact nS_cut
      have z90 := nS_size 90
      have zt1 : t1.size = 91 := by rw [← ht1, ByteArray.size_append, z90]; rfl
      have o1 : ∀ w, (Op.stringOp .add (lg.extract 0 90) (⟨#[47]⟩ : ByteArray)).run Tryd.prog w = .ok (.string t1) w := fun w => by rw [hx90, ← ht1]; exact run_string_add w _ _ (by omega) (by show ((1 : Nat) : Int) ≤ _; omega)
      have o2 : ∀ w, (Op.stringOp .add t1 (lg.extract 0 90)).run Tryd.prog w = .ok (.string t2) w := fun w => by rw [hx90, ← ht2]; exact run_string_add w _ _ (by omega) (by omega)
      have hz2 : lg.size = 101 := by rw [← hlg]; exact hz
      rw [hlg]
      clear hz hlg ht1 ht2 hx90 z90 zt1 hj hlt
      go_wp2_with fail
      refine (file_any lg 0 (by omega) X).mono ?_
      rintro e v1 ⟨D1, f1, rfl, -, hD1, hb1⟩
      have G1 := Aside0.mk (below_step G0.out hb1)
      have K1 := Aside0.mk hD1
      clear hb1 hD1 G0
      go_upto_region 16 with (fail)
      obtain ⟨g1, hg1⟩ : ∃ g, v1.heap.size = g := ⟨_, rfl⟩
      have hx := Blk.new v1 #[.string lg, .int .u8 1, .int .i64 0, .int .i64 0, .slice D1 0 f1, .string NoB] 25
      rw [hg1] at hx
      have G2 := Aside0.mk (below_alloc G1.out (.cells #[.string lg, .int .u8 1, .int .i64 0, .int .i64 0, .slice D1 0 f1, .string NoB] 25))
      have K2 := Aside0.mk (Kd.C_below K1.out (below_alloc (Below.refl _ v1) (.cells #[.string lg, .int .u8 1, .int .i64 0, .int .i64 0, .slice D1 0 f1, .string NoB] 25)))
      generalize v1.alloc (.cells #[.string lg, .int .u8 1, .int .i64 0, .int .i64 0, .slice D1 0 f1, .string NoB] 25) = v2 at *
      have HXv2 := Aside0.mk hx
      rw [hg1]
      clear hx hg1 G1 K1
      have a0 : v2.cell? ⟨g1, 0, none⟩ = some (.string lg) := (Blk.cell HXv2.out 0).trans rfl
      have a1 : v2.cell? ⟨g1, 1, none⟩ = some (.int .u8 1) := (Blk.cell HXv2.out 1).trans rfl
      have a2 : v2.cell? ⟨g1, 2, none⟩ = some (.int .i64 0) := (Blk.cell HXv2.out 2).trans rfl
      have a3 : v2.cell? ⟨g1, 3, none⟩ = some (.int .i64 0) := (Blk.cell HXv2.out 3).trans rfl
      have a4 : v2.cell? ⟨g1, 4, none⟩ = some (.slice D1 0 f1) := (Blk.cell HXv2.out 4).trans rfl
      have a5 : v2.cell? ⟨g1, 5, none⟩ = some (.string NoB) := (Blk.cell HXv2.out 5).trans rfl
      have la := HXv2.out.lt
      go_wp2_with fail
      refine (HP1.out v2 D1 f1 (HV1.out.below G2.out)).mono ?_
      rintro e v3 ⟨⟨L1, m1, rfl, hR1⟩, hb⟩
      have G3 := Aside0.mk (below_step G2.out hb)
      have K3 := Aside0.mk (Kd.C_below K2.out hb)
      have HR1 := Aside0.mk hR1
      have HXv3 : Aside0 (Blk v3 g1 #[.string lg, .int .u8 1, .int .i64 0, .int .i64 0, .slice D1 0 f1, .string NoB] 25) := ⟨(hb.block g1 HXv2.out.lt).trans HXv2.out⟩
      clear hb hR1 a0 a1 a2 a3 a4 a5 la HXv2 G2 K2 HP1
      have b0 : v3.cell? ⟨g1, 0, none⟩ = some (.string lg) := (Blk.cell HXv3.out 0).trans rfl
      have b1 : v3.cell? ⟨g1, 1, none⟩ = some (.int .u8 1) := (Blk.cell HXv3.out 1).trans rfl
      have b2 : v3.cell? ⟨g1, 2, none⟩ = some (.int .i64 0) := (Blk.cell HXv3.out 2).trans rfl
      have b3 : v3.cell? ⟨g1, 3, none⟩ = some (.int .i64 0) := (Blk.cell HXv3.out 3).trans rfl
      have b4 : v3.cell? ⟨g1, 4, none⟩ = some (.slice D1 0 f1) := (Blk.cell HXv3.out 4).trans rfl
      have b5 : v3.cell? ⟨g1, 5, none⟩ = some (.string NoB) := (Blk.cell HXv3.out 5).trans rfl
      have lb := HXv3.out.lt
      have Q3 := Aside0.mk (HS1.out v3 D1 f1 (HV1.out.below G3.out) (Nat.zero_le _) K3.out)
      have G3a := Aside0.mk (below_alloc G3.out (.cells #[.string lg, .int .u8 1, .int .i64 0, .int .i64 0, .slice D1 0 f1, .string NoB] 25))
      have HR1a := Aside0.mk (Kd.C_below HR1.out (below_alloc (Below.refl _ v3) (.cells #[.string lg, .int .u8 1, .int .i64 0, .int .i64 0, .slice D1 0 f1, .string NoB] 25)))
      clear HS1 K3
      go_wp2_with fail
      refine Q3.out.mono ?_
      rintro e v4 ⟨rfl, hb⟩
      have G4 := Aside0.mk (below_step G3a.out hb)
      have HR4 := Aside0.mk (Kd.C_below HR1a.out hb)
      clear hb Q3 G3a HR1a HR1 G3 b0 b1 b2 b3 b4 b5 lb HXv3
      go_upto_region 19 with (fail)
      obtain ⟨g2, hg2⟩ : ∃ g, v4.heap.size = g := ⟨_, rfl⟩
      have hx := Blk.new v4 #[.string sL, .int .u8 4, .int .i64 0, .int .i64 0, .slice none 0 0, .string lg] 25
      rw [hg2] at hx
      have G5 := Aside0.mk (below_alloc G4.out (.cells #[.string sL, .int .u8 4, .int .i64 0, .int .i64 0, .slice none 0 0, .string lg] 25))
      have HR5 := Aside0.mk (Kd.C_below HR4.out (below_alloc (Below.refl _ v4) (.cells #[.string sL, .int .u8 4, .int .i64 0, .int .i64 0, .slice none 0 0, .string lg] 25)))
      generalize v4.alloc (.cells #[.string sL, .int .u8 4, .int .i64 0, .int .i64 0, .slice none 0 0, .string lg] 25) = v5 at *
      have HXv5 := Aside0.mk hx
      rw [hg2]
      clear hx hg2 G4 HR4
      have a0 : v5.cell? ⟨g2, 0, none⟩ = some (.string sL) := (Blk.cell HXv5.out 0).trans rfl
      have a1 : v5.cell? ⟨g2, 1, none⟩ = some (.int .u8 4) := (Blk.cell HXv5.out 1).trans rfl
      have a2 : v5.cell? ⟨g2, 2, none⟩ = some (.int .i64 0) := (Blk.cell HXv5.out 2).trans rfl
      have a3 : v5.cell? ⟨g2, 3, none⟩ = some (.int .i64 0) := (Blk.cell HXv5.out 3).trans rfl
      have a4 : v5.cell? ⟨g2, 4, none⟩ = some (.slice none 0 0) := (Blk.cell HXv5.out 4).trans rfl
      have a5 : v5.cell? ⟨g2, 5, none⟩ = some (.string lg) := (Blk.cell HXv5.out 5).trans rfl
      have la := HXv5.out.lt
      go_wp2_with fail
      refine (HP2.out v5 none 0 (HV1.out.below G5.out)).mono ?_
      rintro e v6 ⟨⟨L2, m2, rfl, hR2⟩, hb⟩
      have G6 := Aside0.mk (below_step G5.out hb)
      have HR6 := Aside0.mk (Kd.C_below HR5.out hb)
      have HS6 := Aside0.mk hR2
      have hm6 : v6.cell? ⟨1, 0, none⟩ = some (.int .i64 i0) := (HV1.out.below G6.out).len
      clear hb hR2 a0 a1 a2 a3 a4 a5 la HXv5 G5 HR5 HP2
      go_upto_region 20 with (fail)
      go_region_held3 (fun w' => Below w1.heap.size w1 w') (first | assumption | exact G6.out | exact below_drew G6.out | exact below_step (by assumption) hba | exact below_step (by assumption) hbp) (first | (go_at_call 14; refine (file_any t2 0 (by omega) _).mono ?_; rintro e wa ⟨Aa, ca, rfl, -, -, hba⟩) | (go_at_call 6; refine (HP3.out _ _ _ (HV1.out.below (by assumption))).mono ?_; rintro e wp ⟨⟨Ap, cp, rfl, -⟩, hbp⟩))
      have hw6 : Below v6.heap.size v6 wp := below_step ((below_drew (Below.refl v6.heap.size v6)).trans hba) hbp
      have G7 := Aside0.mk (below_step G6.out hw6)
      have HR7 := Kd.C_below HR6.out hw6
      have HS7 := Kd.C_below HS6.out hw6
      obtain ⟨ad1, e1, x0, x1⟩ := at_T33 HR7 0 (by omega) (by omega)
      obtain ⟨ad2, e2, x2, x3⟩ := at_T33 HS7 0 (by omega) (by omega)
      subst e1 e2
      have z1 : ad1.add 0 = ad1 := by unfold Addr.add; simp
      have z2 : ad2.add 0 = ad2 := by unfold Addr.add; simp
      have y0 : wp.cell? ad1 = some (.string KPath) := by rw [← z1]; exact x0
      have y1 : wp.cell? ⟨ad1.block, ad1.off + 1, none⟩ = some (.string lg) := by rw [← z1]; exact x1
      have y2 : wp.cell? ad2 = some (.string KLink) := by rw [← z2]; exact x2
      have y3 := World.block_lt_of_cell? _ _ y0
      have y4 := World.block_lt_of_cell? _ _ y2
      clear hba hbp hw6 HR6 HS6 HR7 HS7 x0 x1 x2 x3 z1 z2 G6 hm6 o1 o2 HP3
      go_wp2_with fail
      refine (new_any wp).mono ?_
      rintro e q1 ⟨rfl, hw, hb⟩
      obtain ⟨T, hT⟩ : ∃ T, wp.heap.size = T := ⟨_, rfl⟩
      have HV2 := Aside0.mk (HV1.out.below G7.out)
      have W1 := Aside0.mk hw
      have N1 := Aside0.mk hb
      have hBB : ∃ B, wp.heap.size + 1 = B := ⟨_, rfl⟩
      obtain ⟨B, hB⟩ := hBB
      rw [hB] at W1 ⊢
      clear hw hb y0 y1 y2 y3 y4 hT hB
      go_wp2_with fail
      refine (folder_any sAB q1).mono ?_
      rintro e q2 ⟨U2, z2, rfl, -, hb⟩
      have W2 := Aside0.mk (W1.out.below hb)
      have N2 := Aside0.mk (below_step N1.out hb)
      have R2 := Aside0.mk (addK (its := []) (L := []) sAB 112 kn_add1 U2 z2 i0 W2.out N2.out HV2.out (by show 0 ≤ 131072; omega) (by simp))
      clear hb W1 N1
      go_wp2_with fail
      refine R2.out.mono ?_
      rintro e q3 ⟨rfl, ⟨s3, i3, hw⟩, hb⟩
      rw [if_neg (by decide), if_neg (by decide)] at hw
      have W3 := Aside0.mk hw
      have N3 := Aside0.mk hb
      clear hw hb R2 W2 N2
      go_wp2_with fail
      refine (folder_any sA q3).mono ?_
      rintro e q4 ⟨U4, z4, rfl, -, hb⟩
      have W4 := Aside0.mk (W3.out.below hb)
      have N4 := Aside0.mk (below_step N3.out hb)
      have R4 := Aside0.mk (addK (its := []) (L := []) sA 0 kn_add2 U4 z4 i0 W4.out N4.out HV2.out (by show 0 ≤ 131072; omega) (by simp))
      clear hb W3 N3
      go_wp2_with fail
      refine R4.out.mono ?_
      rintro e q5 ⟨rfl, ⟨s5, i5, hw⟩, hb⟩
      simp only [if_true] at hw
      have W5 := Aside0.mk hw
      have N5 := Aside0.mk hb
      clear hw hb R4 W4 N4
      go_wp2_with fail
      refine (folder_any sAB q5).mono ?_
      rintro e q6 ⟨U6, z6, rfl, -, hb⟩
      have W6 := Aside0.mk (W5.out.below hb)
      have N6 := Aside0.mk (below_step N5.out hb)
      have R6 := Aside0.mk (addK (its := [foldI sA]) (L := piecesF (foldI sA)) sAB 0 kn_add3 U6 z6 i0 W6.out N6.out HV2.out (by have := kn_one512; omega) (by simp))
      clear hb W5 N5
      go_wp2_with fail
      refine R6.out.mono ?_
      rintro e q7 ⟨rfl, ⟨s7, i7, hw⟩, hb⟩
      simp only [if_true] at hw
      have W7 := Aside0.mk hw
      have N7 := Aside0.mk hb
      clear hw hb R6 W6 N6
      have hLen := kn_len
      have hZ : (piecesF (foldI sA) ++ piecesF (foldI sAB) ++ zs 1024).length = 2048 := by rw [List.length_append, kn_len, zs_length]
      have HWn := W7
      generalize piecesF (foldI sA) ++ piecesF (foldI sAB) = LL at *
      go_wp2_with fail
      refine (lenW_any HWn.out).mono ?_
      rintro e q8 ⟨rfl, hb⟩
      rw [hLen]
      have V8 := Aside0.mk (HWn.out.below hb)
      have N8 := Aside0.mk (below_step N7.out hb)
      have R8 := Aside0.mk (closeK V8.out N8.out (by omega) hZ)
      clear hb HWn W7 N7
      go_wp2_with fail
      refine R8.out.mono ?_
      rintro e q9 ⟨⟨U9, z9, rfl⟩, hw, hb⟩
      have R9 := Aside0.mk (closeK2 hw hb (by omega))
      clear hw hb R8 V8 N8
      go_wp2_with fail
      refine R9.out.mono ?_
      rintro e q10 ⟨rfl, hw, hb⟩
      have W10 := Aside0.mk hw
      have N10 := Aside0.mk hb
      clear hw hb R9
      go_wp2_with fail
      refine (folder_any sC q10).mono ?_
      rintro e q11 ⟨U11, z11, rfl, -, hb⟩
      have R11 := Aside0.mk (addK (its := [foldI sA, foldI sAB]) sC 7 (addR7 _ _ _) U11 z11 i0 (W10.out.below hb) (below_step N10.out hb) HV2.out (by omega) (by simp))
      clear hb W10 N10
      go_wp2_with fail
      refine R11.out.mono ?_
      rintro e q12 ⟨rfl, -, hb⟩
      have N12 := Aside0.mk hb
      clear hb R11
      go_wp2_with fail
      refine (new_any q12).mono ?_
      rintro e q13 ⟨rfl, hw, hb⟩
      have R13 := Aside0.mk (closeK (n := 1024) hw hb (by show 0 ≤ 131072; omega) (by rw [List.nil_append, zs_length]))
      obtain ⟨Bn, hBn⟩ : ∃ Bn, q12.heap.size + 1 = Bn := ⟨_, rfl⟩
      rw [hBn] at R13 ⊢
      clear hw hb
      go_wp2_with fail
      refine R13.out.mono ?_
      rintro e q14 ⟨⟨U14, z14, rfl⟩, hw, hb⟩
      have R14 := Aside0.mk (closeK2 hw hb (by show 0 ≤ 131072; omega))
      clear hw hb R13
      go_wp2_with fail
      refine R14.out.mono ?_
      rintro e q15 ⟨rfl, -, hb⟩
      have N15 := Aside0.mk (N12.out.trans (hb.mono N12.out.size))
      have G8 := Aside0.mk (below_step G7.out N15.out)
      clear hb R14 N12
      go_wp2_with fail
      refine (awake_any i0 q15 (HV1.out.below G8.out)).mono ?_
      rintro e q16 ⟨rfl, hb⟩
      have G9 := Aside0.mk (below_step G8.out hb)
      clear hb
      go_wp2_with fail
      rw [HE.out]
      exact ⟨rfl, below_step HB1.out G9.out⟩
end Go.Proofs.YtopehfjohifpnaaDoor.Mine
end
