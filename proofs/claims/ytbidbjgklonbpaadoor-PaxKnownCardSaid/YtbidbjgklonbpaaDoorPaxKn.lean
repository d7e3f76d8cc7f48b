/- pax: PaxKnown. -/
import Derived.Test.YtbidbjgklonbpaaDoorPaxU
import Derived.Test.YtbidbjgklonbpaaDoorPaxKp
set_option linter.unusedSimpArgs false
set_option linter.unusedVariables false
namespace Go.Proofs.YtbidbjgklonbpaaDoor.Mine
open Go.RowKit Go.Maps Go.Proofs.YtbidbjgklonbpaaDoorW.PrintWords Go.Proofs.YtbidbjgklonbpaaDoorW.PrintLast Go.Proofs.YtbidbjgklonbpaaDoorW.PrintMore Go.Proofs.YtbidbjgklonbpaaDoor.Turn Go.Proofs.YtbidbjgklonbpaaDoor.PPaxGets

set_option maxHeartbeats 2000000 in
set_option maxRecDepth 100000 in
theorem refused_any (s : ByteArray) (L : List Int) (place x : Int) (hL : bytesOf s = L) (h : getF L = ([], place, x)) (hs : s.size ≤ 1000) (w : World) (ht : Tab w) (hm : MaxL w) :
    Calls Tryd.prog 29 #[.string s, .int .i64 place, .int .i64 x] w fun e w' => e = .returned (.bool true) ∧ Below w.heap.size w w' := by
  subst hL
  have hcv := Lib.run_convert_string_bytes (P := Tryd.prog) w 9 24 5 s Tryd.underlying9 Tryd.underlying24 Tryd.underlying5
  have hb := Lib.bytesWorld_below w 5 s
  have HB := Aside0.mk hb
  have hcall := get_any (some ⟨w.heap.size, 0, none⟩) (grownCap w s.size 0 5) (bytesOf s) (Lib.bytesWorld w 5 s) (bytesOf_rg s) (by rw [bytesOf_length]; omega) (by rw [bytesOf_length]; exact grownCap_ge _ _ _ _) (by rw [bytesOf_length]; exact bytes_C w (Lib.bytesWorld_at_new w 5 s) (by omega)) (ht.below hb) (hm.below hb)
  rw [bytesOf_length, h] at hcall
  have e1 : (place == place) = true := by simp
  have e2 : (x == x) = true := by simp
  clear h ht hm hb
  go_enter Tryd.func29, Tryd.ntmps29
  go_wp2_with fail
  refine hcall.mono ?_
  rintro e w1 ⟨hb1, A1, c1, rfl, -, -⟩
  have HB1 := Aside0.mk (below_step HB.out hb1)
  clear hb1 hcall hcv
  go_wp2_with fail
  go_ret
  exact ⟨rfl, HB1.out⟩

theorem small_lit {l : List S23} (h : ∀ x ∈ l, x.f0.size ≤ 100 ∧ x.f1.size ≤ 100) : SmallP l := fun x hx => by have := h x hx; omega
theorem small_ba : SmallP [⟨⟨#[98]⟩, ⟨#[]⟩⟩, ⟨⟨#[97]⟩, ⟨#[]⟩⟩] := small_lit (by simp; decide)
theorem small_aa : SmallP [⟨⟨#[97]⟩, ⟨#[]⟩⟩, ⟨⟨#[97]⟩, ⟨#[]⟩⟩] := small_lit (by simp; decide)
theorem small_lA : SmallP lA := small_lit (by unfold lA; simp; decide)
theorem small_lB : SmallP lB := small_lit (by unfold lB; simp; decide)
theorem two_rows (W : World) (cs cs' : Array Value) (l l' : List S23) (h : cs.toList = cellsP l) (h' : cs'.toList = cellsP l') (hl : l.length ≤ 1000) (hl' : l'.length ≤ 1000) : Kd.C k23 ((W.alloc (.cells cs 23)).alloc (.cells cs' 23)) (some ⟨W.heap.size, 0, none⟩) l.length l ∧ Kd.C k23 ((W.alloc (.cells cs 23)).alloc (.cells cs' 23)) (some ⟨W.heap.size + 1, 0, none⟩) l'.length l' := by
  refine ⟨row_pairs ((Blk.new W cs 23).alloc _) l h (by omega), ?_⟩
  have := row_pairs (Blk.new (W.alloc (.cells cs 23)) cs' 23) l' h' (by omega)
  rwa [show (W.alloc (.cells cs 23)).heap.size = W.heap.size + 1 by simp] at this
theorem cells_one {W : World} {A : Option Addr} {k v : ByteArray} (h : Kd.C k23 W A [(⟨k, v⟩ : S23)].length [⟨k, v⟩]) : ∃ ad : Addr, A = some ad ∧ W.cell? ad = some (.string k) ∧ W.cell? ⟨ad.block, ad.off + 1, none⟩ = some (.string v) := by
  obtain ⟨ad, e, h0, h1⟩ := at_T23 h (0 : Int) (by omega) (by simp)
  exact ⟨ad, e, h0, h1⟩
def KnN (w : World) (g : Nat) (W : World) : Prop := Below w.heap.size w W ∧ Blk W g #[.int .i64 0, .int .i64 3, .int .i64 4, .int .i64 5, .int .i64 90] 3
theorem KnN.step {w W W' : World} {g : Nat} (h : KnN w g W) (hb : Below W.heap.size W W') : KnN w g W' := ⟨below_step h.1 hb, (hb.block _ h.2.lt).trans h.2⟩
theorem KnN.at {w W : World} {g : Nat} (h : KnN w g W) {k : Nat} (hk : k < 5) : ∃ n : Nat, n ≤ 90 ∧ W.cell? ⟨g, k, none⟩ = some (.int .i64 n) := by
  match k, hk with
  | 0, _ => exact ⟨0, by omega, (h.2.cell 0).trans rfl⟩
  | 1, _ => exact ⟨3, by omega, (h.2.cell 1).trans rfl⟩
  | 2, _ => exact ⟨4, by omega, (h.2.cell 2).trans rfl⟩
  | 3, _ => exact ⟨5, by omega, (h.2.cell 3).trans rfl⟩
  | 4, _ => exact ⟨90, by omega, (h.2.cell 4).trans rfl⟩
def KnW (w W : World) : Prop := Below w.heap.size w W ∧ Blk W w.heap.size #[.int .i64 97, .int .i64 98, .int .i64 99, .int .i64 101, .int .i64 102] 3
theorem KnW.step {w W W' : World} (h : KnW w W) (hb : Below W.heap.size W W') : KnW w W' := ⟨below_step h.1 hb, (hb.block _ h.2.lt).trans h.2⟩
theorem KnW.at {w W : World} (h : KnW w W) {k : Nat} (hk : k < 5) : W.cell? ⟨w.heap.size, k, none⟩ = some (.int .i64 (szs.getD k 0)) := by
  match k, hk with
  | 0, _ => exact (h.2.cell 0).trans rfl
  | 1, _ => exact (h.2.cell 1).trans rfl
  | 2, _ => exact (h.2.cell 2).trans rfl
  | 3, _ => exact (h.2.cell 3).trans rfl
  | 4, _ => exact (h.2.cell 4).trans rfl

set_option maxHeartbeats 8000000 in
set_option maxRecDepth 100000 in
theorem paxKnown_any (w : World) (ht : Tab w) (hm : MaxL w) : Calls Tryd.prog 10 #[] w fun e w' => e = .returned (.bool true) ∧ Below w.heap.size w w' := by
  have HT := Aside0.mk ht
  have HM := Aside0.mk hm
  clear ht hm
  have hadd : ∀ (k : Nat) W, k ≤ 1000 → (Op.stringOp .add (vS k) (⟨#[118]⟩ : ByteArray)).run Tryd.prog W = .ok (.string (vS (k + 1))) W := fun k W hk => by
    rw [← vS_succ]
    exact run_string_add_sum W _ _ (by rw [vS_size]; show k + 1 ≤ _; omega)
  have HADD := Aside0.mk hadd
  clear hadd
  go_enter Tryd.func10, Tryd.ntmps10
  go_wp2_with fail
  have HK0 : Aside0 (KnW w (w.alloc (.cells #[.int .i64 97, .int .i64 98, .int .i64 99, .int .i64 101, .int .i64 102] 3))) := ⟨below_alloc (Below.refl _ _) _, Blk.new w _ 3⟩
  generalize w.alloc (.cells #[.int .i64 97, .int .i64 98, .int .i64 99, .int .i64 101, .int .i64 102] 3) = W0 at *
  go_loopw [1, 3] (fun v1 v3 wr => ∃ k : Nat, k ≤ 91 ∧ v1 = .string (vS k) ∧ v3 = .int .i64 k ∧ Aside0 (KnW w wr)) (fun _ v3 _ => 91 - (intOf v3).toNat)
  case atStart => exact ⟨0, by omega, rfl, rfl, HK0⟩
  case round =>
    obtain ⟨k, hk, rfl, rfl, HK⟩ := hrel
    clear HK0
    by_cases hlt : k < 91
    case pos =>
      have ha := HADD.out k wr (by omega)
      go_wp2_with fail
      go_roundw
      case rel => exact ⟨k + 1, by omega, rfl, by go_num, HK⟩
      case measure => simp [intOf]; omega
    case neg =>
      obtain rfl : k = 91 := by omega
      go_wp2_with fail
      go_loopw [1, 4] (fun v1 v4 wr => ∃ k : Nat, k ≤ 5 ∧ v1 = .string (vS (91 + k)) ∧ v4 = .int .i64 k ∧ Aside0 (KnW w wr)) (fun _ v4 _ => 5 - (intOf v4).toNat)
      case atStart => exact ⟨0, by omega, rfl, rfl, HK⟩
      case round =>
        clear HK
        obtain ⟨k, hk, rfl, rfl, HK⟩ := hrel
        by_cases hlt : k < 5
        case pos =>
          obtain ⟨d, hd, he⟩ := size_v k hlt
          have HD := Aside0.mk hd
          have hcell := HK.out.at hlt
          have lx := fun x : Behind wr => later_cell hcell x
          have hwl := HK.out.2.lt
          have ll := fun x : Behind wr => Nat.lt_of_lt_of_le hwl x.below.size
          have HTX := Aside0.mk (fun x : Behind wr => HT.out.below (below_step HK.out.1 x.below))
          have HSX : Aside0 (∀ x : Behind wr, Calls Tryd.prog 14 #[.agg #[.string ⟨#[97]⟩, .string (vS (91 + k))]] (later wr x) fun e w' => e = .returned (.int .i64 (szs.getD k 0)) ∧ Below (later wr x).heap.size (later wr x) w') := ⟨fun x => by
            rw [← he]
            exact size_any ⟨#[97]⟩ (vS (91 + k)) (by decide) (by rw [vS_size]; omega) HD.out _ (HTX.out x)⟩
          have hvz : (vS (91 + k)).size = 91 + k := vS_size _
          have ha := fun W => HADD.out (91 + k) W (by omega)
          have hee : (szs.getD k 0 != szs.getD k 0) = false := by simp
          clear hd he hvz
          go_upto_region 10 with (fail)
          refine wp_region_behind (by kernel_rfl) (by kernel_rfl) ?_
          repeat (go_big_quiet_step (first | (go_at_call 14; exact calls_behind _ (HSX.out _))))
          refine wpQuiet_nil ?_
          rintro _ ⟨x, rfl⟩
          have HK2 := Aside0.mk (HK.out.step x.below)
          have ha2 := ha (later wr x)
          clear HSX HTX lx ll HK
          go_wp2_with fail
          go_roundw
          case rel => exact ⟨k + 1, by omega, rfl, by go_num, HK2⟩
          case measure => simp [intOf]; omega
        case neg =>
          obtain rfl : k = 5 := by omega
          clear HADD
          have HREC : Aside0 (∀ (k v : ByteArray) (W : World), Below w.heap.size w W → k.size ≤ 2000 → v.size ≤ 2000 → Calls Tryd.prog 12 #[.agg #[.string k, .string v]] W (EndsRec W k v (dOf (3 + k.size + v.size)))) := ⟨fun k v W hb h1 h2 => record_any k v (by omega) (by omega) (dOf_is (by omega)) W (HT.out.below hb)⟩
          have HPUT : Aside0 (∀ (l : List S23) (W : World) (cs : Array Value), cs.toList = cellsP l → l.length ≤ 10 → SmallP l → Below w.heap.size w W → Calls Tryd.prog 18 #[.slice (some ⟨W.heap.size, 0, none⟩) l.length l.length] (W.alloc (.cells cs 23)) (EndsPut (W.alloc (.cells cs 23)) (putF l))) := ⟨fun l W cs h hl hs hb => put_any _ _ l hs (by omega) _ (row_pairs (Blk.new W cs 23) l h (by omega)) (HT.out.below (below_alloc hb _))⟩
          unfold EndsRec at HREC
          unfold EndsPut at HPUT
          have HKA := Aside0.mk HK.out.1
          clear HK
          go_wp2_with fail
          have h1 := HREC.out ⟨#[]⟩ ⟨#[98]⟩ wr HKA.out (by decide) (by decide)
          rw [show fitN ⟨#[]⟩ ⟨#[98]⟩ = 91 from rfl] at h1
          generalize recV ⟨#[]⟩ ⟨#[98]⟩ _ = R1 at h1
          refine h1.mono ?_
          rintro e w1 ⟨A1, c1, rfl, -, hb1⟩
          have HB1 := Aside0.mk (below_step HKA.out hb1)
          clear hb1 h1
          go_wp2_with fail
          have h1 := HREC.out ⟨#[97, 61, 98]⟩ ⟨#[]⟩ w1 HB1.out (by decide) (by decide)
          rw [show fitN ⟨#[97, 61, 98]⟩ ⟨#[]⟩ = 91 from by decide] at h1
          generalize recV ⟨#[97, 61, 98]⟩ ⟨#[]⟩ _ = R2 at h1
          refine h1.mono ?_
          rintro e w2 ⟨A2, c2, rfl, -, hb2⟩
          have HB2 := Aside0.mk (below_step HB1.out hb2)
          clear hb2 h1
          go_wp2_with fail
          have h1 := HPUT.out [⟨⟨#[98]⟩, ⟨#[]⟩⟩, ⟨⟨#[97]⟩, ⟨#[]⟩⟩] w2 #[.string ⟨#[98]⟩, .string ⟨#[]⟩, .string ⟨#[97]⟩, .string ⟨#[]⟩] rfl (by decide) small_ba HB2.out
          rw [put_ba] at h1
          refine h1.mono ?_
          rintro e w3 ⟨A3, c3, rfl, -, hb3⟩
          have HB3 := Aside0.mk (below_step HB2.out (below_step (below_alloc (Below.refl w2.heap.size w2) _) hb3))
          clear hb3 h1
          go_wp2_with fail
          have h1 := HPUT.out [⟨⟨#[97]⟩, ⟨#[]⟩⟩, ⟨⟨#[97]⟩, ⟨#[]⟩⟩] w3 #[.string ⟨#[97]⟩, .string ⟨#[]⟩, .string ⟨#[97]⟩, .string ⟨#[]⟩] rfl (by decide) small_aa HB3.out
          rw [put_aa] at h1
          refine h1.mono ?_
          rintro e w4 ⟨A4, c4, rfl, -, hb4⟩
          have HB4 := Aside0.mk (below_step HB3.out (below_step (below_alloc (Below.refl w3.heap.size w3) _) hb4))
          clear hb4 h1 HPUT
          go_wp2_with fail
          have h2 := two_rows w4 #[.string ⟨#[97]⟩, .string ⟨#[49]⟩, .string ⟨#[98]⟩, .string ⟨#[50]⟩] #[.string ⟨#[98]⟩, .string ⟨#[51]⟩, .string ⟨#[99]⟩, .string ⟨#[52]⟩] lA lB rfl rfl (by decide) (by decide)
          have hst := below_alloc (below_alloc (Below.refl w4.heap.size w4) (.cells #[.string ⟨#[97]⟩, .string ⟨#[49]⟩, .string ⟨#[98]⟩, .string ⟨#[50]⟩] 23)) (.cells #[.string ⟨#[98]⟩, .string ⟨#[51]⟩, .string ⟨#[99]⟩, .string ⟨#[52]⟩] 23)
          have h1 := over_any (some ⟨w4.heap.size, 0, none⟩) (some ⟨w4.heap.size + 1, 0, none⟩) 2 2 lA lB (by decide) (by decide) small_lA small_lB (by decide) (by decide) _ h2.1 h2.2 (HT.out.below (below_step HB4.out hst))
          rw [over_AB] at h1
          refine Calls.mono h1 ?_
          rintro e w5 ⟨hb5, A5, c5, B5, rfl, -, hR5⟩
          have HB5 := Aside0.mk (below_step (below_step HB4.out hst) hb5)
          have HC5 := Aside0.mk (Kd.R_reads' hR5).2.2
          have HROW := Aside0.mk (row_pairs (Blk.new w5 #[.string ⟨#[97]⟩, .string ⟨#[49]⟩, .string ⟨#[98]⟩, .string ⟨#[51]⟩, .string ⟨#[99]⟩, .string ⟨#[52]⟩] 23) lC rfl (by decide))
          have hst2 := below_alloc (Below.refl w5.heap.size w5) (.cells #[.string ⟨#[97]⟩, .string ⟨#[49]⟩, .string ⟨#[98]⟩, .string ⟨#[51]⟩, .string ⟨#[99]⟩, .string ⟨#[52]⟩] 23)
          have HC6 := Aside0.mk (Kd.C_below HC5.out hst2)
          have HB6 := Aside0.mk (below_step HB5.out hst2)
          clear h1 h2 hst hb5 hR5 hst2
          go_wp2_with fail
          refine (pairs_same A5 (some ⟨w5.heap.size, 0, none⟩) 3 3 lC _ (by decide) (by decide) (by decide) HC6.out HROW.out).mono ?_
          rintro e w7 ⟨rfl, hb7⟩
          have HB7 := Aside0.mk (below_step HB6.out hb7)
          clear hb7 HB6 HB5 HC5 HC6 HROW HB4 HB3 HB2 HB1 HKA
          obtain ⟨s1, hs1⟩ : ∃ x, (⟨#[49, 48, 48, 32, 97, 61]⟩ : ByteArray) ++ vS 93 = x := ⟨_, rfl⟩
          obtain ⟨s2, hs2⟩ : ∃ x, s1 ++ (⟨#[10]⟩ : ByteArray) = x := ⟨_, rfl⟩
          have hz1 : s1.size = 99 := by rw [← hs1, ByteArray.size_append, vS_size]; rfl
          have hz2 : s2.size = 100 := by rw [← hs2, ByteArray.size_append, hz1]; rfl
          have hadd1 : ∀ W, (Op.stringOp .add (⟨#[49, 48, 48, 32, 97, 61]⟩ : ByteArray) (vS 93)).run Tryd.prog W = .ok (.string s1) W := fun W => by rw [← hs1]; exact run_string_add_sum W _ _ (by rw [vS_size]; decide)
          have hadd2 : ∀ W, (Op.stringOp .add s1 (⟨#[10]⟩ : ByteArray)).run Tryd.prog W = .ok (.string s2) W := fun W => by rw [← hs2]; exact run_string_add_sum W _ _ (by rw [hz1]; decide)
          have HS2 : Aside0 (bytesOf s2 = [49, 48, 48, 32, 97, 61] ++ List.replicate 93 118 ++ [10]) := ⟨by rw [← hs2, ← hs1, bytesOf_app, bytesOf_app, vS_bytes]; rfl⟩
          have hvz : (vS 96).size = 96 := vS_size 96
          have hcut := vS_cut 96 93 (by omega)
          clear hs1 hs2
          go_wp2_with fail
          have HN0 : Aside0 (KnN w w7.heap.size (w7.alloc (.cells #[.int .i64 0, .int .i64 3, .int .i64 4, .int .i64 5, .int .i64 90] 3))) := ⟨below_alloc HB7.out _, Blk.new w7 _ 3⟩
          generalize w7.heap.size = g at *
          generalize w7.alloc (.cells #[.int .i64 0, .int .i64 3, .int .i64 4, .int .i64 5, .int .i64 90] 3) = W8 at *
          clear hadd1 hadd2 hcut HB7 hz1
          go_loopw [131] (fun v131 wr => ∃ t : Nat, t ≤ 5 ∧ v131 = .int .i64 t ∧ Aside0 (KnN w g wr)) (fun v131 _ => 5 - (intOf v131).toNat)
          case atStart => exact ⟨0, by omega, rfl, HN0⟩
          case round =>
            clear HN0
            obtain ⟨t, ht, rfl, HN⟩ := hrel
            by_cases hlt : t < 5
            case pos =>
              obtain ⟨n, hn90, hcell⟩ := HN.out.at hlt
              have hcut := vS_cut 96 n (by omega)
              have h1 := HREC.out sKey (vS n) (wr.alloc (.cells #[.string sKey, .string (vS n)] 23)) (below_alloc HN.out.1 _) (by decide) (by rw [vS_size]; omega)
              have hfk := fit_key n (by omega)
              have hrv : recV sKey (vS n) (dOf (3 + sKey.size + (vS n).size)) = recP ⟨sKey, vS n⟩ := by unfold recV; rw [if_pos hfk]; rfl
              have HRL := Aside0.mk (recP_length hfk)
              rw [hfk, hrv] at h1
              have HGK := Aside0.mk (get_key n (by omega))
              have HRG := Aside0.mk (recP_rg ⟨sKey, vS n⟩)
              have hle := recP_len (p := ⟨sKey, vS n⟩) hfk
              have hvn : (vS n).size = n := vS_size n
              have HDO := Aside0.mk (dOf_is (n := 3 + sKey.size + (vS n).size) (by rw [hvn]; show 3 + 3 + n < _; omega))
              generalize vS n = vn at *
              generalize recP ⟨sKey, vn⟩ = R at *
              generalize dOf (3 + sKey.size + vn.size) = d at *
              have HX0 := Aside0.mk (Blk.new wr #[.string sKey, .string vn] 23)
              have HBX := Aside0.mk (below_alloc HN.out.1 (.cells #[.string sKey, .string vn] 23))
              have HNX := Aside0.mk (HN.out.step (below_alloc (Below.refl _ wr) (.cells #[.string sKey, .string vn] 23)))
              clear hfk hrv
              go_wp2_with fail
              refine Calls.mono h1 ?_
              rintro e w9 ⟨A9, c9, rfl, ho9, hb9⟩
              have hx9 : Blk w9 wr.heap.size #[.string sKey, .string vn] 23 := (hb9.block _ HX0.out.lt).trans HX0.out
              have HX9 := Aside0.mk hx9
              have HN9 := Aside0.mk (HNX.out.step hb9)
              have HO9 := Aside0.mk ho9
              have hl9 := hx9.lt
              have hx90 : World.cell? w9 ⟨wr.heap.size, 0, none⟩ = some (.string sKey) := Blk.cell hx9 0
              have hx91 : World.cell? w9 ⟨wr.heap.size, 1, none⟩ = some (.string vn) := Blk.cell hx9 1
              clear hb9 ho9 h1 hx9 HNX HBX HX0 hcell HN
              have h2 := get_any A9 c9 R w9 HRG.out (by omega) HO9.out.C.1 HO9.out.C.2 (HT.out.below HN9.out.1) (HM.out.below HN9.out.1)
              rw [HGK.out] at h2
              go_wp2_with fail
              with_reducible refine Calls.mono h2 ?_
              rintro e w10 ⟨hb10, A10, c10, rfl, hc10, hF10⟩
              have HN10 := Aside0.mk (HN9.out.step hb10)
              have hx10 : Blk w10 wr.heap.size #[.string sKey, .string vn] 23 := (hb10.block _ HX9.out.lt).trans HX9.out
              have hl10 := hx10.lt
              have hx100 : World.cell? w10 ⟨wr.heap.size, 0, none⟩ = some (.string sKey) := Blk.cell hx10 0
              have hx101 : World.cell? w10 ⟨wr.heap.size, 1, none⟩ = some (.string vn) := Blk.cell hx10 1
              obtain ⟨ad, e, hz0, hz1⟩ := cells_one (Kd.F_now hF10)
              subst e
              clear hb10 hF10 h2 hx90 hx91 hx10
              have lx0 := fun x : Behind w10 => later_cell hx100 x
              have lx1 := fun x : Behind w10 => later_cell hx101 x
              have lz0 := fun x : Behind w10 => later_cell hz0 x
              have lz1 := fun x : Behind w10 => later_cell hz1 x
              have ll := fun x : Behind w10 => Nat.lt_of_lt_of_le hl10 x.below.size
              have hbz := World.block_lt_of_cell? _ _ hz0
              have llz := fun x : Behind w10 => Nat.lt_of_lt_of_le hbz x.below.size
              have HTX := Aside0.mk (fun x : Behind w10 => HT.out.below (below_step HN10.out.1 x.below))
              have HSX : Aside0 (∀ x : Behind w10, Calls Tryd.prog 14 #[.agg #[.string sKey, .string vn]] (later w10 x) fun e w' => e = .returned (.int .i64 (R.length : Int)) ∧ Below (later w10 x).heap.size (later w10 x) w') := ⟨fun x => by
                have := size_any sKey vn (by decide) (by omega) HDO.out _ (HTX.out x)
                rwa [show 3 + (sKey.size : Int) + (vn.size : Int) + (d : Int) = (R.length : Int) by rw [HRL.out]; omega] at this⟩
              have hee : ((R.length : Int) != (R.length : Int)) = false := by simp
              clear HRL HDO HGK HRG
              go_upto_region 27 with (fail)
              refine wp_region_behind (by kernel_rfl) (by kernel_rfl) ?_
              repeat (go_big_quiet_step (first | (go_at_call 14; exact calls_behind _ (HSX.out _))))
              refine wpQuiet_nil ?_
              rintro _ ⟨x, rfl⟩
              have HN11 := Aside0.mk (HN10.out.step x.below)
              clear HSX HTX lx0 lx1 lz0 lz1 ll llz hx100 hx101 hz0 hz1 hl9 hl10 hbz hee
              go_wp2_with fail
              go_roundw
              case rel => exact ⟨t + 1, by omega, by go_num, HN11⟩
              case measure => simp [intOf]; omega
            case neg =>
              obtain rfl : t = 5 := by omega
              have hRK : Aside0 (∀ (W : World) (s : ByteArray) (L : List Int) (place x : Int), bytesOf s = L → getF L = ([], place, x) → s.size ≤ 1000 → Below w.heap.size w W → Calls Tryd.prog 29 #[.string s, .int .i64 place, .int .i64 x] W fun e w' => e = .returned (.bool true) ∧ Below W.heap.size W w') := ⟨fun W s L place x h1 h2 h3 hb => refused_any s L place x h1 h2 h3 W (HT.out.below hb) (HM.out.below hb)⟩
              have hk33 : ∀ W, (Op.stringOp .add (⟨#[97, 98, 99, 100, 101, 102, 103, 104, 105, 106, 107, 108, 109, 110, 111, 112, 113, 114, 115, 116, 117, 118, 119, 120, 121, 122, 49, 50, 51, 52, 53, 54]⟩ : ByteArray) (⟨#[55]⟩ : ByteArray)).run Tryd.prog W = .ok (.string (sK32 ++ ⟨#[55]⟩)) W := fun W => run_string_add_sum W _ _ (by decide)
              have HBB := Aside0.mk HN.out.1
              clear HN
              obtain ⟨sk, hsk⟩ : ∃ x, sK32 ++ (⟨#[55]⟩ : ByteArray) = x := ⟨_, rfl⟩
              rw [hsk] at hk33
              have hfk : fitN sk ⟨#[]⟩ = 91 := by rw [← hsk]; exact fit_33
              have hkz : sk.size = 33 := by rw [← hsk]; rfl
              clear hsk
              go_wp2_with fail
              have h1 := HREC.out sK32 ⟨#[]⟩ wr HBB.out (by decide) (by decide)
              rw [fit_32] at h1
              generalize recV sK32 ⟨#[]⟩ _ = R3 at h1
              refine Calls.mono h1 ?_
              rintro e w11 ⟨A11, c11, rfl, -, hb11⟩
              have HB11 := Aside0.mk (below_step HBB.out hb11)
              clear hb11 h1
              go_wp2_with fail
              have h1 := HREC.out sk ⟨#[]⟩ w11 HB11.out (by omega) (by decide)
              rw [hfk] at h1
              generalize recV sk ⟨#[]⟩ _ = R4 at h1
              refine Calls.mono h1 ?_
              rintro e w12 ⟨A12, c12, rfl, -, hb12⟩
              have HB12 := Aside0.mk (below_step HB11.out hb12)
              clear hb12 h1 hk33 hfk hkz HREC
              go_wp2_with fail
              refine (hRK.out _ ⟨#[53, 32, 97, 61, 98, 10]⟩ [53, 32, 97, 61, 98, 10] 0 90 rfl ref_1 (by first | decide | omega) HB12.out).mono ?_
              rintro e w13 ⟨rfl, hb⟩
              have HB13 := Aside0.mk (below_step HB12.out hb)
              clear hb
              go_wp2_with fail
              refine (hRK.out _ ⟨#[54, 32, 97, 61, 98, 99]⟩ [54, 32, 97, 61, 98, 99] 0 90 rfl ref_2 (by first | decide | omega) HB13.out).mono ?_
              rintro e w14 ⟨rfl, hb⟩
              have HB14 := Aside0.mk (below_step HB13.out hb)
              clear hb
              go_wp2_with fail
              refine (hRK.out _ ⟨#[49, 48, 48, 48, 48, 32, 97, 61, 98, 10]⟩ [49, 48, 48, 48, 48, 32, 97, 61, 98, 10] 0 90 rfl ref_3 (by first | decide | omega) HB14.out).mono ?_
              rintro e w15 ⟨rfl, hb⟩
              have HB15 := Aside0.mk (below_step HB14.out hb)
              clear hb
              go_wp2_with fail
              refine (hRK.out _ ⟨#[53, 32, 97, 98, 10]⟩ [53, 32, 97, 98, 10] 0 90 rfl ref_4 (by first | decide | omega) HB15.out).mono ?_
              rintro e w16 ⟨rfl, hb⟩
              have HB16 := Aside0.mk (below_step HB15.out hb)
              clear hb
              go_wp2_with fail
              refine (awake_any w16 (HT.out.below HB16.out) (HM.out.below HB16.out)).mono ?_
              rintro e w17 ⟨rfl, hb⟩
              have HB17 := Aside0.mk (below_step HB16.out hb)
              clear hb
              have hzz : ((s2.size : Int) == 100) = true := by rw [hz2]; rfl
              go_wp2_with fail
              refine (hRK.out _ s2 ([49, 48, 48, 32, 97, 61] ++ List.replicate 93 118 ++ [10]) 0 90 HS2.out ref_5 (by first | decide | omega) HB17.out).mono ?_
              rintro e w18 ⟨rfl, hb⟩
              have HB18 := Aside0.mk (below_step HB17.out hb)
              clear hb
              go_wp2_with fail
              refine (hRK.out _ ⟨#[55, 32, 97, 61, 98, 10]⟩ [55, 32, 97, 61, 98, 10] 0 90 rfl ref_6 (by first | decide | omega) HB18.out).mono ?_
              rintro e w19 ⟨rfl, hb⟩
              have HB19 := Aside0.mk (below_step HB18.out hb)
              clear hb
              go_wp2_with fail
              refine (hRK.out _ ⟨#[48, 54, 32, 97, 61, 98, 10]⟩ [48, 54, 32, 97, 61, 98, 10] 0 90 rfl ref_7 (by first | decide | omega) HB19.out).mono ?_
              rintro e w20 ⟨rfl, hb⟩
              have HB20 := Aside0.mk (below_step HB19.out hb)
              clear hb
              go_wp2_with fail
              refine (hRK.out _ ⟨#[54, 32, 61, 98, 99, 10]⟩ [54, 32, 61, 98, 99, 10] 0 91 rfl ref_8 (by first | decide | omega) HB20.out).mono ?_
              rintro e w21 ⟨rfl, hb⟩
              have HB21 := Aside0.mk (below_step HB20.out hb)
              clear hb
              go_wp2_with fail
              refine (hRK.out _ ⟨#[54, 32, 98, 61, 97, 10, 54, 32, 97, 61, 98, 10]⟩ [54, 32, 98, 61, 97, 10, 54, 32, 97, 61, 98, 10] 6 92 rfl ref_9 (by first | decide | omega) HB21.out).mono ?_
              rintro e w22 ⟨rfl, hb⟩
              have HB22 := Aside0.mk (below_step HB21.out hb)
              clear hb
              go_wp2_with fail
              go_ret
              exact ⟨rfl, HB22.out⟩
end Go.Proofs.YtbidbjgklonbpaaDoor.Mine
