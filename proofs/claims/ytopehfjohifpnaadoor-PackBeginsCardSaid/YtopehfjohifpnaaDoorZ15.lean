import Derived.Test.YtopehfjohifpnaaDoorZ14
import Derived.Deep.RegionHeld3
section
set_option linter.unusedSimpArgs false
set_option linter.unusedVariables false
namespace Go.Proofs.YtopehfjohifpnaaDoor.Mine
open Go.RowKit Go.Shelf Go.Proofs.YtopehfjohifpnaaDoorW.PrintWords Go.Proofs.YtopehfjohifpnaaDoorW.PrintLast Go.Proofs.YtopehfjohifpnaaDoorW.PrintMore Go.Proofs.YtopehfjohifpnaaDoor.Turn Go.Proofs.YtopehfjohifpnaaDoor.Doc
theorem nat_map_inj : ∀ {x y : List UInt8}, x.map (fun b => (b.toNat : Int)) = y.map (fun b => (b.toNat : Int)) → x = y
  | [], [], _ => rfl
  | [], c :: y, h => by simp at h
  | d :: x, [], h => by simp at h
  | d :: x, c :: y, h => by
    simp only [List.map_cons, List.cons.injEq] at h
    rw [nat_map_inj h.2, UInt8.toNat_inj.1 (by omega : d.toNat = c.toNat)]
theorem bytesOf_inj {a b : ByteArray} (h : bytesOf a = bytesOf b) : a = b := ByteArray.ext (Array.ext' (nat_map_inj h))
theorem nul_mem {s : ByteArray} (h : nulB s = false) : ∀ x ∈ bytesOf s, x ≠ 0 := by
  intro x hx e
  unfold bytesOf at hx
  obtain ⟨b, hb, rfl⟩ := List.mem_map.1 hx
  have h0 : b = 0 := UInt8.toNat_inj.1 (by show b.toNat = 0; omega)
  subst h0
  unfold nulB at h
  rw [List.contains_iff_mem.2 hb] at h
  cases h
theorem first_nul : ∀ (a b : List Int) (x y : Nat), (∀ c ∈ a, c ≠ 0) → (∀ c ∈ b, c ≠ 0) → a ++ zs x = b ++ zs y → a = b
  | [], [], _, _, _, _, _ => rfl
  | [], c :: b, x, y, _, hb, h => by
    cases x with
    | zero => simp [zs] at h
    | succ x =>
      have h' : (0 : Int) :: zs x = c :: (b ++ zs y) := h
      injection h' with h1 h2
      exact absurd h1.symm (hb c List.mem_cons_self)
  | c :: a, [], x, y, ha, _, h => by
    cases y with
    | zero => simp [zs] at h
    | succ y =>
      have h' : c :: (a ++ zs x) = (0 : Int) :: zs y := h
      injection h' with h1 h2
      exact absurd h1 (ha c List.mem_cons_self)
  | c :: a, d :: b, x, y, ha, hb, h => by
    have h' : c :: (a ++ zs x) = d :: (b ++ zs y) := h
    injection h' with h1 h2
    rw [h1, first_nul a b x y (fun z hz => ha z (List.mem_cons_of_mem _ hz)) (fun z hz => hb z (List.mem_cons_of_mem _ hz)) h2]
theorem pad_inj {s t : ByteArray} {n : Nat} (hs : nulB s = false) (ht : nulB t = false) (h : padL (bytesOf s) n = padL (bytesOf t) n) : s = t :=
  bytesOf_inj (first_nul _ _ _ _ (nul_mem hs) (nul_mem ht) h)
theorem digs_inj (b : Nat) (hb : 0 < b) : ∀ k n m, n < b ^ k → m < b ^ k → digs b k n = digs b k m → n = m
  | 0, n, m, hn, hm, _ => by simp at hn hm; omega
  | k + 1, n, m, hn, hm, h => by
    unfold digs at h
    obtain ⟨h1, h2⟩ := List.append_inj' h rfl
    have e2 : n % b = m % b := by injection h2 with h3; omega
    have e1 := digs_inj b hb k (n / b) (m / b) (Nat.div_lt_of_lt_mul (by rw [← Nat.pow_succ']; exact hn)) (Nat.div_lt_of_lt_mul (by rw [← Nat.pow_succ']; exact hm)) h1
    rw [← Nat.div_add_mod n b, ← Nat.div_add_mod m b, e1, e2]
theorem add_map_inj : ∀ {x y : List Int}, x.map (48 + ·) = y.map (48 + ·) → x = y
  | [], [], _ => rfl
  | [], c :: y, h => by simp at h
  | d :: x, [], h => by simp at h
  | d :: x, c :: y, h => by
    simp only [List.map_cons, List.cons.injEq] at h
    rw [add_map_inj h.2, (by omega : d = c)]
theorem octD_inj {k n m : Nat} (hn : n < 8 ^ k) (hm : m < 8 ^ k) (h : octD k n = octD k m) : n = m := digs_inj 8 (by omega) k n m hn hm (add_map_inj h)
theorem octD_head {k n : Nat} (hk : 0 < k) : ∃ c l, octD k n = c :: l ∧ c ≠ 128 := by
  obtain ⟨k, rfl⟩ : ∃ j, k = j + 1 := ⟨k - 1, by omega⟩
  unfold octD
  rw [digs_cons]
  have := Nat.mod_lt (n / 8 ^ k) (show 0 < 8 by omega)
  generalize n / 8 ^ k % 8 = r at *
  exact ⟨_, _, rfl, by show (48 + (r : Int)) ≠ 128; omega⟩
theorem oct_inj {n m : Int} {w : Nat} (hw : 2 ≤ w) (h0 : 0 ≤ n) (h1 : 0 ≤ m) (hn : (octF n w).2 = 0) (hm : (octF m w).2 = 0) (h : (octF n w).1 = (octF m w).1) : n = m := by
  unfold octF at hn hm h
  rw [if_neg (c := n < 0) (by omega)] at hn h
  rw [if_neg (c := m < 0) (by omega)] at hm h
  have hp : ∀ x : Int, 0 ≤ x → x < 8 ^ (w - 1) → x.toNat < 8 ^ (w - 1) := fun x a b => by
    have hc : ((8 ^ (w - 1) : Nat) : Int) = (8 : Int) ^ (w - 1) := by simp
    omega
  have hq : ∀ x : Nat, x / 256 ^ (w - 1) = 0 → x < 256 ^ (w - 1) := fun x a => by
    rcases Nat.div_eq_zero_iff.1 a with b | b
    · have := Nat.pow_pos (n := w - 1) (show 0 < 256 by omega); omega
    · exact b
  obtain ⟨c, l, e1, e2⟩ := octD_head (k := w - 1) (n := n.toNat) (by omega)
  obtain ⟨c', l', e1', e2'⟩ := octD_head (k := w - 1) (n := m.toNat) (by omega)
  by_cases c1 : n < 8 ^ (w - 1)
  · rw [if_pos (c := n < 8 ^ (w - 1)) c1] at h hn
    by_cases c2 : m < 8 ^ (w - 1)
    · rw [if_pos (c := m < 8 ^ (w - 1)) c2] at h hm
      have := octD_inj (hp n h0 c1) (hp m h1 c2) (List.append_inj' h rfl).1
      omega
    · rw [if_neg (c := m < 8 ^ (w - 1)) c2] at h hm
      by_cases c3 : m.toNat / 256 ^ (w - 1) = 0
      · rw [if_pos c3, e1] at h
        have h' : c :: (l ++ [0]) = 128 :: digs 256 (w - 1) m.toNat := h
        injection h' with h2 _
        exact absurd h2 e2
      · rw [if_neg c3] at hm; cases hm
  · rw [if_neg (c := n < 8 ^ (w - 1)) c1] at h hn
    by_cases c4 : n.toNat / 256 ^ (w - 1) = 0
    · rw [if_pos c4] at h
      by_cases c2 : m < 8 ^ (w - 1)
      · rw [if_pos (c := m < 8 ^ (w - 1)) c2, e1'] at h
        have h' : 128 :: digs 256 (w - 1) n.toNat = c' :: (l' ++ [0]) := h
        injection h' with h2 _
        exact absurd h2.symm e2'
      · rw [if_neg (c := m < 8 ^ (w - 1)) c2] at h hm
        by_cases c3 : m.toNat / 256 ^ (w - 1) = 0
        · rw [if_pos c3] at h
          injection h with _ h2
          have := digs_inj 256 (by omega) _ _ _ (hq _ c4) (hq _ c3) h2
          omega
        · rw [if_neg c3] at hm; cases hm
    · rw [if_neg c4] at hn; cases hn
theorem seal_parts {L : List Int} (hb : Bytes L) (hl : L.length = 512) : sealL L = L.take 148 ++ (((octF (sumH L) 7).1 ++ [32]) ++ L.drop 156) ∧ ((octF (sumH L) 7).1 ++ [32]).length = 8 := by
  have hrg := sumH_rg hb hl
  have h7 := octF_length (n := sumH L) (w := 7) (by omega) (octF_ok7 hrg.1 hrg.2)
  have h148 : (L.take 148).length = 148 := by rw [List.length_take]; omega
  have hl2 : (L.take 148 ++ (octF (sumH L) 7).1).length = 155 := by rw [List.length_append]; omega
  have e1 : setL L 148 (octF (sumH L) 7).1 = (L.take 148 ++ (octF (sumH L) 7).1) ++ L.drop 155 := by unfold setL; rw [h7]
  refine ⟨?_, by rw [List.length_append, h7]; rfl⟩
  unfold sealL
  rw [e1]
  unfold setL
  rw [List.take_left' hl2, List.drop_append, hl2, List.drop_eq_nil_of_le (by rw [hl2]; simp), List.nil_append, List.drop_drop]
  simp only [List.append_assoc]
  rfl
def layA (nm : ByteArray) (md sz tm : Int) : List Int := padL (bytesOf nm) 100 ++ (octF md 8).1 ++ (octF 0 8).1 ++ (octF 0 8).1 ++ (octF sz 12).1 ++ (octF tm 12).1
def layB (pf : ByteArray) (ty : Int) (lk : ByteArray) : List Int := [ty] ++ padL (bytesOf lk) 100 ++ magicL ++ zs 64 ++ (octF 0 8).1 ++ (octF 0 8).1 ++ padL (bytesOf pf) 155 ++ zs 12
section
variable {nm pf lk : ByteArray} {md sz tm ty : Int} (h : GoodH nm pf md sz tm ty lk)
include h
theorem layA_len : (layA nm md sz tm).length = 148 := by
  have hn := bytesOf_length nm
  have h1 := h.hnm
  have l1 : (padL (bytesOf nm) 100).length = 100 := pad_len (by omega)
  have o8 := oct8_len h.hmd.1 h.hmd.2
  have o0 : (octF 0 8).1.length = 8 := oct8_len (by omega) (by omega)
  have oz := oct12_len (n := sz) h.hsz.1 (by have := h.hsz.2; omega)
  have ot := oct12_len h.htm.1 h.htm.2
  unfold layA
  simp only [List.length_append]
  omega
theorem layF_parts : ∃ X : List Int, X.length = 8 ∧ layF nm pf md sz tm ty lk = layA nm md sz tm ++ (X ++ layB pf ty lk) := by
  have hCl : (layC nm pf md sz tm ty lk).length = 512 := by rw [← layC_eq h]; exact imgL_length (layP_len h)
  have hCb : Bytes (layC nm pf md sz tm ty lk) := by rw [← layC_eq h]; exact (layP_bytes h).img
  obtain ⟨e1, e2⟩ := seal_parts hCb hCl
  have hA := layA_len h
  have e3 : layC nm pf md sz tm ty lk = layA nm md sz tm ++ (zs 8 ++ layB pf ty lk) := by unfold layC layA layB; simp only [List.append_assoc]
  refine ⟨_, e2, ?_⟩
  unfold layF
  rw [layC_eq h, e1]
  generalize (octF (sumH (layC nm pf md sz tm ty lk)) 7).1 ++ [32] = X at *
  have e4 : (layA nm md sz tm ++ (zs 8 ++ layB pf ty lk)).drop 156 = layB pf ty lk := by
    rw [← List.append_assoc]
    exact List.drop_left' (by rw [List.length_append, hA, zs_length])
  rw [e3, List.take_left' hA, e4]
theorem layF_len : (layF nm pf md sz tm ty lk).length = 512 := by
  obtain ⟨X, hX, e⟩ := layF_parts h
  have hA := layA_len h
  have hl := bytesOf_length lk
  have hp := bytesOf_length pf
  have h2 := h.hlk
  have h3 := h.hpf
  have o0 : (octF 0 8).1.length = 8 := oct8_len (by omega) (by omega)
  have l2 : (padL (bytesOf lk) 100).length = 100 := pad_len (by omega)
  have l3 : (padL (bytesOf pf) 155).length = 155 := pad_len (by omega)
  rw [e]
  unfold layB
  simp only [List.length_append, zs_length, List.length_singleton, hA, hX, o0, l2, l3, magicL, List.length_cons, List.length_nil]
theorem layF_type (r : List Int) : (layF nm pf md sz tm ty lk ++ r).getD 156 0 = ty := by
  obtain ⟨X, hX, e⟩ := layF_parts h
  have hA := layA_len h
  have hl : (layA nm md sz tm ++ X).length = 156 := by rw [List.length_append, hA, hX]
  have e2 : layF nm pf md sz tm ty lk ++ r = (layA nm md sz tm ++ X) ++ (ty :: (padL (bytesOf lk) 100 ++ magicL ++ zs 64 ++ (octF 0 8).1 ++ (octF 0 8).1 ++ padL (bytesOf pf) 155 ++ zs 12 ++ r)) := by
    rw [e]
    unfold layB
    simp only [List.append_assoc, List.singleton_append]
    rfl
  rw [e2, List.getD_eq_getElem?_getD, List.getElem?_append_right (by omega), hl]
  rfl
end
theorem layF_inj {nm pf lk nm' pf' lk' : ByteArray} {md sz tm ty md' sz' tm' ty' : Int} (h : GoodH nm pf md sz tm ty lk) (h' : GoodH nm' pf' md' sz' tm' ty' lk')
    (e : layF nm pf md sz tm ty lk = layF nm' pf' md' sz' tm' ty' lk') : nm = nm' ∧ pf = pf' ∧ md = md' ∧ sz = sz' ∧ tm = tm' ∧ ty = ty' ∧ lk = lk' := by
  obtain ⟨X, hX, e1⟩ := layF_parts h
  obtain ⟨X', hX', e1'⟩ := layF_parts h'
  rw [e1, e1'] at e
  obtain ⟨eA, e⟩ := List.append_inj e ((layA_len h).trans (layA_len h').symm)
  obtain ⟨-, eB⟩ := List.append_inj e (hX.trans hX'.symm)
  have pl : ∀ {s : ByteArray} {n : Nat}, s.size ≤ n → (padL (bytesOf s) n).length = n := fun hs => pad_len (by rw [bytesOf_length]; exact hs)
  have oz := oct12_len (n := sz) h.hsz.1 (by have := h.hsz.2; omega)
  have oz' := oct12_len (n := sz') h'.hsz.1 (by have := h'.hsz.2; omega)
  have ot := oct12_len h.htm.1 h.htm.2
  have ot' := oct12_len h'.htm.1 h'.htm.2
  have om := oct8_len h.hmd.1 h.hmd.2
  have om' := oct8_len h'.hmd.1 h'.hmd.2
  unfold layA at eA
  unfold layB at eB
  obtain ⟨eA, a6⟩ := List.append_inj' eA (ot.trans ot'.symm)
  obtain ⟨eA, a5⟩ := List.append_inj' eA (oz.trans oz'.symm)
  obtain ⟨eA, a4⟩ := List.append_inj' eA rfl
  obtain ⟨eA, a3⟩ := List.append_inj' eA rfl
  obtain ⟨a1, a2⟩ := List.append_inj' eA (om.trans om'.symm)
  obtain ⟨eB, -⟩ := List.append_inj' eB rfl
  obtain ⟨eB, b7⟩ := List.append_inj' eB ((pl h.hpf).trans (pl h'.hpf).symm)
  obtain ⟨eB, -⟩ := List.append_inj' eB rfl
  obtain ⟨eB, -⟩ := List.append_inj' eB rfl
  obtain ⟨eB, -⟩ := List.append_inj' eB rfl
  obtain ⟨eB, -⟩ := List.append_inj' eB rfl
  obtain ⟨b1, b2⟩ := List.append_inj' eB ((pl h.hlk).trans (pl h'.hlk).symm)
  refine ⟨pad_inj h.nnul h'.nnul a1, pad_inj h.pnul h'.pnul b7, ?_, ?_, ?_, by injection b1, pad_inj h.lnul h'.lnul b2⟩
  · exact oct_inj (by omega) h.hmd.1 h'.hmd.1 (oct8_ok h.hmd.1 h.hmd.2) (oct8_ok h'.hmd.1 h'.hmd.2) a2
  · exact oct_inj (by omega) h.hsz.1 h'.hsz.1 (oct12_ok h.hsz.1 (by have := h.hsz.2; omega)) (oct12_ok h'.hsz.1 (by have := h'.hsz.2; omega)) a5
  · exact oct_inj (by omega) h.htm.1 h'.htm.1 (oct12_ok h.htm.1 h.htm.2) (oct12_ok h'.htm.1 h'.htm.2) a6
end Go.Proofs.YtopehfjohifpnaaDoor.Mine
end
section
set_option linter.unusedSimpArgs false
set_option linter.unusedVariables false
namespace Go.Proofs.YtopehfjohifpnaaDoor.Mine
open Go.RowKit Go.Shelf Go.Proofs.YtopehfjohifpnaaDoorW.PrintWords Go.Proofs.YtopehfjohifpnaaDoorW.PrintLast Go.Proofs.YtopehfjohifpnaaDoorW.PrintMore Go.Proofs.YtopehfjohifpnaaDoor.Turn Go.Proofs.YtopehfjohifpnaaDoor.Doc
def EndsItem (W0 W : World) (T : Nat) (v0 : Value) (l : List Int) (e : Ending) (X : World) : Prop := e = .returned (.tuple #[]) ∧ ∃ v, Zt W0 W X T v0 v l
set_option maxRecDepth 100000 in
set_option maxHeartbeats 8000000 in
theorem item_any {T : Nat} {v0 : Value} {l : List Int} (x : S25) (hm : mayX x = 0) (A : Option Addr) (c : Nat) (i0 : Int) (W0 W : World) (hT : Tape W T W0.heap.size v0 l) (hTb : W0.heap.size ≤ T) (hB : Below W0.heap.size W0 W) (hV : Vars W0 i0)
    (hC : Kd.C (Kd.int .u8) W0 A x.f4.length x.f4) (hc : x.f4.length ≤ c) (hl : l.length ≤ 1000000) :
    Calls Tryd.prog 26 #[.pointer (some ⟨T, 0, none⟩), .agg #[.string x.f0, .int .u8 x.f1, .int .i64 x.f2, .int .i64 x.f3, .slice A x.f4.length c, .string x.f5]] W (EndsItem W0 W T v0 (l ++ piecesF x)) := by
  obtain ⟨HME, hk, -⟩ := may_t hm
  have hps := may_path hm
  have hqs := may_q hm
  have hbs := may_body hm
  have HSM := Aside0.mk (pairs_small hm)
  have HPL : Aside0 ((pairsF x.f0 x.f1 x.f2 x.f3 x.f4.length x.f5).1.length ≤ 2) := ⟨by
    unfold pairsF pairsL
    split
    · simp
    · split <;> split <;> simp⟩
  have HPI : Aside0 (piecesF x = moreL (pairsF x.f0 x.f1 x.f2 x.f3 x.f4.length x.f5).1 ++ (fillL (putH (splitF x.f0).2.1 (splitF x.f0).1 x.f2 x.f4.length x.f3 (typF x.f1) (lkF x.f5)).1 ++ fillL x.f4)) := ⟨rfl⟩
  generalize piecesF x = PC at *
  have HE : Aside0 (EndsItem W0 W T v0 (l ++ PC) = fun e X => e = .returned (.tuple #[]) ∧ ∃ v, Zt W0 W X T v0 v (l ++ PC)) := ⟨rfl⟩
  obtain ⟨PE, hPE⟩ : ∃ PE, EndsItem W0 W T v0 (l ++ PC) = PE := ⟨_, rfl⟩
  rw [hPE] at HE ⊢
  clear hPE
  obtain ⟨p, k, m, t, b, q⟩ := x
  simp only at *
  have HV := Aside0.mk hV
  have HC0 := Aside0.mk hC
  have hz := hT.own_rg
  have HZ0 : Aside0 (Zt W0 W (W.alloc (.cells #[.string p, .int .u8 k, .int .i64 m, .int .i64 t, .slice A b.length c, .string q] 25)) T v0 v0 l) := ⟨(⟨hT, hB, Turned.refl _ _, .inl rfl⟩ : Zt W0 W W T v0 v0 l).step (below_alloc (Below.refl _ W) _)⟩
  have hx0 := Blk.new W #[.string p, .int .u8 k, .int .i64 m, .int .i64 t, .slice A b.length c, .string q] 25
  have hTl := Blk.lt hT.1
  have HPA := Aside0.mk (fun X h => pairs_any p k m t A b.length c q i0 X h)
  generalize pairsF p k m t b.length q = PF at *
  obtain ⟨L, pe⟩ := PF
  simp only at HPL HSM HPI HPA
  have HML : Aside0 ((moreL L).length ≤ 80000) := ⟨by
    unfold moreL
    split
    · simp
    · have h1 := putF_len L
      have h2 : (putH MoreB NoB 0 (putF L).1.length 0 120 NoB).1.length ≤ 512 := putH_len _ _ _ _ _ _ _
      rw [List.length_append, fillL_len, fillL_len]
      omega⟩
  have HSP := Aside0.mk (fun X => split_any p X)
  generalize splitF p = sf at *
  obtain ⟨s1, s2, s3⟩ := sf
  simp only at HPI HSP
  clear hT hB hV hC hm
  have c0 := (Blk.cell hx0 0).trans rfl
  have c1 := (Blk.cell hx0 1).trans rfl
  have c2 := (Blk.cell hx0 2).trans rfl
  have c3 := (Blk.cell hx0 3).trans rfl
  have c4 := (Blk.cell hx0 4).trans rfl
  have c5 := (Blk.cell hx0 5).trans rfl
  have hlt := hx0.lt
  have HX0 := Aside0.mk hx0
  clear hx0
  go_enter Tryd.func26, Tryd.ntmps26
  go_wp2_with fail
  refine (HPA.out _ ((HV.out.below HZ0.out.bel).len)).mono ?_
  rintro e X1 ⟨A1, c1', rfl, hC1, hb⟩
  have HZ1 := Aside0.mk (HZ0.out.step hb)
  have hx1 : Blk X1 W.heap.size #[.string p, .int .u8 k, .int .i64 m, .int .i64 t, .slice A b.length c, .string q] 25 := (hb.block _ HX0.out.lt).trans HX0.out
  have HC1 := Aside0.mk hC1
  have HX1 := Aside0.mk hx1
  clear hb hC1 c0 c1 c2 c3 c4 c5 HPA HZ0 HX0
  have d0 := (Blk.cell hx1 0).trans rfl
  have d1 := (Blk.cell hx1 1).trans rfl
  have d2 := (Blk.cell hx1 2).trans rfl
  have d3 := (Blk.cell hx1 3).trans rfl
  have d4 := (Blk.cell hx1 4).trans rfl
  have d5 := (Blk.cell hx1 5).trans rfl
  have hlt1 := hx1.lt
  clear hx1
  obtain ⟨kn, rfl⟩ : ∃ kn : Nat, k = kn := ⟨k.toNat, by omega⟩
  have hty := (HV.out.below HZ1.out.bel).typ kn (by omega) (by omega)
  have htl := World.block_lt_of_cell? _ _ hty
  have hkn : kn < 5 := by omega
  go_wp2_with fail
  go_region
  as_aux_lemma =>
    have HZ2 := Aside0.mk (HZ1.out.step (below_drew (below_alloc (Below.refl _ X1) (.cells #[.string NoB, .string NoB, .int .i64 m, .int .i64 b.length, .int .i64 t, .int .u8 (typF kn), .string q] 83))))
    have HX2 : Aside0 (Blk (X1.alloc (.cells #[.string NoB, .string NoB, .int .i64 m, .int .i64 b.length, .int .i64 t, .int .u8 (typF kn), .string q] 83)).drew W.heap.size #[.string p, .int .u8 kn, .int .i64 m, .int .i64 t, .slice A b.length c, .string q] 25) := ⟨(HX1.out.alloc _).drewN 1⟩
    have HH2 : Aside0 (Blk (X1.alloc (.cells #[.string NoB, .string NoB, .int .i64 m, .int .i64 b.length, .int .i64 t, .int .u8 (typF kn), .string q] 83)).drew X1.heap.size #[.string NoB, .string NoB, .int .i64 m, .int .i64 b.length, .int .i64 t, .int .u8 (typF kn), .string q] 83) := ⟨(Blk.new X1 _ _).drewN 1⟩
    have HBX2 := Aside0.mk (below_drew (below_alloc (Below.refl X1.heap.size X1) (.cells #[.string NoB, .string NoB, .int .i64 m, .int .i64 b.length, .int .i64 t, .int .u8 (typF kn), .string q] 83)))
    have hh : W.heap.size < X1.heap.size := hlt1
    obtain ⟨h, hhe⟩ : ∃ h, X1.heap.size = h := ⟨_, rfl⟩
    rw [hhe] at HH2 hh HBX2 ⊢
    have HHE := Aside0.mk hhe
    clear d0 d1 d2 d3 d4 d5 hlt1 HZ1 HX1 hty htl hhe hlt
    generalize (X1.alloc (.cells #[.string NoB, .string NoB, .int .i64 m, .int .i64 b.length, .int .i64 t, .int .u8 (typF kn), .string q] 83)).drew = X2 at *
    as_aux_lemma =>
      have d0 : X2.cell? ⟨W.heap.size, 0, none⟩ = some (.string p) := (Blk.cell HX2.out 0).trans rfl
      have hlt2 := HX2.out.lt
      go_wp2_with fail
      refine (HSP.out _).mono ?_
      rintro e X3 ⟨rfl, hb⟩
      have HZ3 := Aside0.mk (HZ2.out.step hb)
      have HX3 : Aside0 (Blk X3 W.heap.size #[.string p, .int .u8 kn, .int .i64 m, .int .i64 t, .slice A b.length c, .string q] 25) := ⟨(hb.block _ HX2.out.lt).trans HX2.out⟩
      have hH3 : Blk X3 h #[.string NoB, .string NoB, .int .i64 m, .int .i64 b.length, .int .i64 t, .int .u8 (typF kn), .string q] 83 := (hb.block _ HH2.out.lt).trans HH2.out
      have HBX3 := Aside0.mk (HBX2.out.trans (hb.mono (by have := HBX2.out.size; have := HHE.out; omega)))
      have g0 : X3.cell? ⟨h, 0, none⟩ = some (.string NoB) := (Blk.cell hH3 0).trans rfl
      have g1 : X3.cell? ⟨h, 1, none⟩ = some (.string NoB) := (Blk.cell hH3 1).trans rfl
      have gf0 : X3.frozen? ⟨h, 0, none⟩ = false := Blk.free hH3 0
      have gf1 : X3.frozen? ⟨h, 1, none⟩ = false := Blk.free hH3 1
      have hlh := hH3.lt
      have k5 : X3.cell? ⟨W.heap.size, 5, none⟩ = some (.string q) := (Blk.cell HX3.out 5).trans rfl
      have kl5 := HX3.out.lt
      have HB4 : Aside0 (Below h X3 ((X3.setCell ⟨h, 1, none⟩ (.string s1)).setCell ⟨h, 0, none⟩ (.string s2))) := ⟨((Below.refl h X3).setCell (p := ⟨h, 1, none⟩) (Nat.le_refl _) _).setCell (p := ⟨h, 0, none⟩) (Nat.le_refl _) _⟩
      have HH4 : Aside0 (Blk ((X3.setCell ⟨h, 1, none⟩ (.string s1)).setCell ⟨h, 0, none⟩ (.string s2)) h #[.string s2, .string s1, .int .i64 m, .int .i64 b.length, .int .i64 t, .int .u8 (typF kn), .string q] 83) := ⟨((hH3.set 1 (.string s1)).set 0 (.string s2)).trans rfl⟩
      have HT4 : Aside0 (Turned (Eq h) X3 ((X3.setCell ⟨h, 1, none⟩ (.string s1)).setCell ⟨h, 0, none⟩ (.string s2))) := ⟨((Turned.refl (Eq h) X3).setCell (p := ⟨h, 1, none⟩) (.inl rfl) _).setCell (p := ⟨h, 0, none⟩) (.inl rfl) _⟩
      clear hb d0 hlt2 HX2 HH2 HBX2 HZ2 hH3 HSP
      go_upto_if 45 with (fail)
      clear g0 g1 gf0 gf1 k5 kl5 hlh
      generalize (X3.setCell ⟨h, 1, none⟩ (.string s1)).setCell ⟨h, 0, none⟩ (.string s2) = X4 at *
      as_aux_lemma =>
        have hTh : T < h := by omega
        have hzh : ∀ k, v0.ownBlock = some k → k < h := fun k hk => by have := (hz k hk).2; omega
        have HZ4 : Aside0 (Zt W0 W X4 T v0 v0 l) := ⟨⟨HZ3.out.tape.keep (fun k hk _ => HB4.out.block k (by rcases hk with rfl | hk; exact hTh; exact hzh k hk)), HZ3.out.bel.trans (HB4.out.mono (by omega)), HZ3.out.turn.then_ HT4.out (fun k hk => .inr (by omega)), .inl rfl⟩⟩
        have HX4 : Aside0 (Blk X4 W.heap.size #[.string p, .int .u8 kn, .int .i64 m, .int .i64 t, .slice A b.length c, .string q] 25) := ⟨(HB4.out.block _ (by omega)).trans HX3.out⟩
        have HBX4 := Aside0.mk (HBX3.out.trans HB4.out)
        clear HZ3 HX3 HBX3 HB4 HT4
        go_cut [] (fun wx => Aside0 (Zt W0 W wx T v0 v0 l) ∧ Aside0 (Blk wx W.heap.size #[.string p, .int .u8 kn, .int .i64 m, .int .i64 t, .slice A b.length c, .string q] 25) ∧ Aside0 (Blk wx h #[.string s2, .string s1, .int .i64 m, .int .i64 b.length, .int .i64 t, .int .u8 (typF kn), .string (lkF q)] 83) ∧ Aside0 (Below h X1 wx))
        case first =>
          as_aux_lemma =>
            by_cases hq : 100 < q.size
            · have g6 : X4.frozen? ⟨h, 6, none⟩ = false := Blk.free HH4.out 6
              have g6c : X4.cell? ⟨h, 6, none⟩ = some (.string q) := (Blk.cell HH4.out 6).trans rfl
              have hl6 := HH4.out.lt
              have HB5 : Aside0 (Below h X4 (X4.setCell ⟨h, 6, none⟩ (.string NoB))) := ⟨(Below.refl h X4).setCell (p := ⟨h, 6, none⟩) (Nat.le_refl _) _⟩
              have HT5 : Aside0 (Turned (Eq h) X4 (X4.setCell ⟨h, 6, none⟩ (.string NoB))) := ⟨(Turned.refl (Eq h) X4).setCell (p := ⟨h, 6, none⟩) (.inl rfl) _⟩
              have HH5 : Aside0 (Blk (X4.setCell ⟨h, 6, none⟩ (.string NoB)) h #[.string s2, .string s1, .int .i64 m, .int .i64 b.length, .int .i64 t, .int .u8 (typF kn), .string NoB] 83) := ⟨(HH4.out.set 6 (.string NoB)).trans rfl⟩
              have elk : lkF q = NoB := by unfold lkF; rw [if_pos hq]
              go_wp2_with fail
              go_meet
              rw [elk]
              exact ⟨⟨HZ4.out.tape.keep (fun k hk _ => HB5.out.block k (by rcases hk with rfl | hk; exact hTh; exact hzh k hk)), HZ4.out.bel.trans (HB5.out.mono (by omega)), HZ4.out.turn.then_ HT5.out (fun k hk => .inr (by omega)), .inl rfl⟩, ⟨(HB5.out.block _ (by omega)).trans HX4.out⟩, HH5, ⟨HBX4.out.trans HB5.out⟩⟩
            · have elk : lkF q = q := by unfold lkF; rw [if_neg hq]
              go_wp2_with fail
              go_meet
              rw [elk]
              exact ⟨HZ4, HX4, HH4, HBX4⟩
        case rest =>
          as_aux_lemma =>
            obtain ⟨HZ5, HX5, HH5, HBX5⟩ := hcut
            clear HZ4 HX4 HH4 HBX4
            have hLn := HPL.out
            go_upto_if 49 with (fail)
            go_cut [] (fun wx => ∃ v, Aside0 (Zt W0 W wx T v0 v (l ++ moreL L)) ∧ Aside0 (Blk wx W.heap.size #[.string p, .int .u8 kn, .int .i64 m, .int .i64 t, .slice A b.length c, .string q] 25) ∧ Aside0 (Blk wx h #[.string s2, .string s1, .int .i64 m, .int .i64 b.length, .int .i64 t, .int .u8 (typF kn), .string (lkF q)] 83))
            case first =>
              as_aux_lemma =>
                by_cases hL : L = []
                · subst hL
                  go_wp2_with fail
                  go_meet
                  exact ⟨v0, by rw [show moreL [] = [] from rfl, List.append_nil]; exact HZ5, HX5, HH5⟩
                · have hLl : 0 < L.length := List.length_pos_iff.2 hL
                  have hdl : decide ((0 : Int) < (L.length : Int)) = true := decide_eq_true (by omega)
                  have HME2 : Aside0 (moreL L = fillL (putH MoreB NoB 0 (putF L).1.length 0 120 NoB).1 ++ fillL (putF L).1) := ⟨by unfold moreL; rw [if_neg hL]⟩
                  have HPT := Aside0.mk (fun X hC ht => put_any A1 c1' L HSM.out (by have := HPL.out; omega) X hC ht)
                  have hrl := putF_len L
                  generalize moreL L = ML at *
                  generalize putF L = PT at *
                  obtain ⟨rc, ra, re⟩ := PT
                  simp only at HME2 hrl
                  unfold EndsPut at HPT
                  simp only at HPT
                  go_wp2_with fail
                  refine (HPT.out _ (Kd.C_below HC1.out (by rw [HHE.out]; exact HBX5.out)) (HV.out.below HZ5.out.bel).tab).mono ?_
                  rintro e X6 ⟨A6, c6, rfl, ho6, hb6⟩
                  obtain ⟨hc6, hF6⟩ := own_F rfl ho6
                  have HZ6 := Aside0.mk (HZ5.out.step hb6)
                  have HX6 : Aside0 (Blk X6 W.heap.size #[.string p, .int .u8 kn, .int .i64 m, .int .i64 t, .slice A b.length c, .string q] 25) := ⟨(hb6.block _ HX5.out.lt).trans HX5.out⟩
                  have HH6 : Aside0 (Blk X6 h #[.string s2, .string s1, .int .i64 m, .int .i64 b.length, .int .i64 t, .int .u8 (typF kn), .string (lkF q)] 83) := ⟨(hb6.block _ HH5.out.lt).trans HH5.out⟩
                  have HF6 := Aside0.mk hF6
                  have hs5 : h < wc.heap.size := HH5.out.lt
                  clear ho6 hb6 hF6 HZ5 HX5 HH5 HPT HBX5
                  as_aux_lemma =>
                    have HPH := Aside0.mk (fun X => putH_any MoreB NoB 0 rc.length 0 120 NoB X)
                    have HSL := Aside0.mk (fun X e X' => EndsH.slice (W := X) (W' := X') (nm := MoreB) (pf := NoB) (md := 0) (sz := rc.length) (tm := 0) (ty := 120) (lk := NoB) (e := e))
                    generalize putH MoreB NoB 0 rc.length 0 120 NoB = PP at *
                    obtain ⟨pb, pe2⟩ := PP
                    simp only at HSL HME2
                    go_wp2_with fail
                    refine (HPH.out _).mono ?_
                    rintro e X7 hh7
                    obtain ⟨hb, A7, c7, rfl, hc7, h512, hF7⟩ := HSL.out _ _ _ hh7
                    have HZ7 := Aside0.mk (HZ6.out.step hb)
                    have HX7 : Aside0 (Blk X7 W.heap.size #[.string p, .int .u8 kn, .int .i64 m, .int .i64 t, .slice A b.length c, .string q] 25) := ⟨(hb.block _ HX6.out.lt).trans HX6.out⟩
                    have HH7 : Aside0 (Blk X7 h #[.string s2, .string s1, .int .i64 m, .int .i64 b.length, .int .i64 t, .int .u8 (typF kn), .string (lkF q)] 83) := ⟨(hb.block _ HH6.out.lt).trans HH6.out⟩
                    have HF7 := Aside0.mk (Kd.F_now hF7)
                    have HF6b := Aside0.mk (Kd.F_below HF6.out hb)
                    clear hh7 hb hF7 HPH HSL HZ6 HX6 HH6 HF6
                    go_wp2_with fail
                    refine (put_tape A7 c7 X7 HZ7.out.tape HF7.out hc7 (by omega) HZ7.out.bel.size).mono ?_
                    rintro e X8 ⟨rfl, v8, ht8, htu8, hat8⟩
                    have HZ8 := Aside0.mk (HZ7.out.put hTb ht8 htu8 hat8)
                    have HX8 := Aside0.mk (blk_put HZ7.out.tape HX7.out (by decide) (by omega) htu8)
                    have HH8 := Aside0.mk (blk_put HZ7.out.tape HH7.out (by decide) (by omega) htu8)
                    have HF8 := Aside0.mk (Kd.F_now (Kd.F_step HF6b.out (fun k hk hlt => htu8.block k hlt (fun hi => by
                      rcases hi with rfl | hi
                      · omega
                      · have := (hz k hi).2; omega))))
                    have hfl := fillL_len pb
                    clear ht8 htu8 hat8 HZ7 HX7 HH7 HF7 HF6b
                    go_wp2_with fail
                    refine (put_tape A6 c6 X8 HZ8.out.tape HF8.out hc6 (by simp only [List.length_append, hfl]; omega) HZ8.out.bel.size).mono ?_
                    rintro e X9 ⟨rfl, v9, ht9, htu9, hat9⟩
                    have HZ9 := Aside0.mk (HZ8.out.put hTb ht9 htu9 hat9)
                    have HX9 := Aside0.mk (blk_put HZ8.out.tape HX8.out (by decide) (by omega) htu9)
                    have HH9 := Aside0.mk (blk_put HZ8.out.tape HH8.out (by decide) (by omega) htu9)
                    clear ht9 htu9 hat9 HZ8 HX8 HH8 HF8
                    go_wp2_with fail
                    go_meet
                    exact ⟨v9, by rw [HME2.out, ← List.append_assoc]; exact HZ9, HX9, HH9⟩
            case rest =>
              as_aux_lemma =>
                obtain ⟨v, HZ9, HX9, HH9⟩ := hcut
                have e0 : wc.cell? ⟨h, 0, none⟩ = some (.string s2) := (Blk.cell HH9.out 0).trans rfl
                have e1 : wc.cell? ⟨h, 1, none⟩ = some (.string s1) := (Blk.cell HH9.out 1).trans rfl
                have e2 : wc.cell? ⟨h, 2, none⟩ = some (.int .i64 m) := (Blk.cell HH9.out 2).trans rfl
                have e3 : wc.cell? ⟨h, 3, none⟩ = some (.int .i64 b.length) := (Blk.cell HH9.out 3).trans rfl
                have e4 : wc.cell? ⟨h, 4, none⟩ = some (.int .i64 t) := (Blk.cell HH9.out 4).trans rfl
                have e5 : wc.cell? ⟨h, 5, none⟩ = some (.int .u8 (typF kn)) := (Blk.cell HH9.out 5).trans rfl
                have e6 : wc.cell? ⟨h, 6, none⟩ = some (.string (lkF q)) := (Blk.cell HH9.out 6).trans rfl
                have hle := HH9.out.lt
                have HPH := Aside0.mk (fun X => putH_any s2 s1 m b.length t (typF kn) (lkF q) X)
                have HSL := Aside0.mk (fun X e X' => EndsH.slice (W := X) (W' := X') (nm := s2) (pf := s1) (md := m) (sz := b.length) (tm := t) (ty := typF kn) (lk := lkF q) (e := e))
                generalize putH s2 s1 m b.length t (typF kn) (lkF q) = PP at *
                obtain ⟨pb, pe2⟩ := PP
                simp only at HSL HPI
                go_wp2_with fail
                refine (HPH.out _).mono ?_
                rintro e X10 hh10
                obtain ⟨hb, A10, c10, rfl, hc10, h512, hF10⟩ := HSL.out _ _ _ hh10
                have HZ10 := Aside0.mk (HZ9.out.step hb)
                have HX10 : Aside0 (Blk X10 W.heap.size #[.string p, .int .u8 kn, .int .i64 m, .int .i64 t, .slice A b.length c, .string q] 25) := ⟨(hb.block _ HX9.out.lt).trans HX9.out⟩
                have HF10 := Aside0.mk (Kd.F_now hF10)
                have hml := HML.out
                clear hh10 hb hF10 e0 e1 e2 e3 e4 e5 e6 hle HPH HSL HZ9 HX9 HH9
                as_aux_lemma =>
                  go_wp2_with fail
                  refine (put_tape A10 c10 X10 HZ10.out.tape HF10.out hc10 (by rw [List.length_append]; omega) HZ10.out.bel.size).mono ?_
                  rintro e X11 ⟨rfl, v11, ht11, htu11, hat11⟩
                  have HZ11 := Aside0.mk (HZ10.out.put hTb ht11 htu11 hat11)
                  have hX11 := blk_put HZ10.out.tape HX10.out (by decide) (by omega) htu11
                  have f4 : X11.cell? ⟨W.heap.size, 4, none⟩ = some (.slice A b.length c) := (Blk.cell hX11 4).trans rfl
                  have hl11 := hX11.lt
                  have hfl := fillL_len pb
                  have HCB := Aside0.mk (Kd.C_below HC0.out HZ11.out.bel)
                  clear ht11 htu11 hat11 hX11 HZ10 HX10 HF10
                  go_wp2_with fail
                  refine (put_tape A c X11 HZ11.out.tape HCB.out hc (by simp only [List.length_append, hfl]; omega) HZ11.out.bel.size).mono ?_
                  rintro e X12 ⟨rfl, v12, ht12, htu12, hat12⟩
                  have HZ12 := Aside0.mk (HZ11.out.put hTb ht12 htu12 hat12)
                  clear ht12 htu12 hat12 HZ11 f4
                  go_wp2_with fail
                  refine bodyPost_end (v := .tuple #[]) (by simp [results, Tryd.f26, go_sem]) rfl ?_
                  rw [HE.out, HPI.out]
                  refine ⟨rfl, v12, ?_⟩
                  rw [← List.append_assoc, ← List.append_assoc]
                  exact HZ12.out
end Go.Proofs.YtopehfjohifpnaaDoor.Mine
end
section
set_option linter.unusedSimpArgs false
set_option linter.unusedVariables false
namespace Go.Proofs.YtopehfjohifpnaaDoor.Mine
open Go.RowKit Go.Shelf Go.Proofs.YtopehfjohifpnaaDoorW.PrintWords Go.Proofs.YtopehfjohifpnaaDoorW.PrintLast Go.Proofs.YtopehfjohifpnaaDoorW.PrintMore Go.Proofs.YtopehfjohifpnaaDoor.Turn Go.Proofs.YtopehfjohifpnaaDoor.Doc
theorem moreL_len (L : List S33) : (moreL L).length ≤ 80000 := by
  unfold moreL
  split
  · simp
  · have h1 := putF_len L
    have h2 : (putH MoreB NoB 0 (putF L).1.length 0 120 NoB).1.length ≤ 512 := putH_len _ _ _ _ _ _ _
    rw [List.length_append, fillL_len, fillL_len]
    omega
theorem pieces_len {x : S25} (h : mayX x = 0) : (piecesF x).length ≤ 200000 := by
  have h1 := moreL_len (pairsF x.f0 x.f1 x.f2 x.f3 x.f4.length x.f5).1
  have h2 : (ownH x).1.length ≤ 512 := putH_len _ _ _ _ _ _ _
  have h3 := may_body h
  unfold piecesF
  rw [List.length_append, List.length_append, fillL_len, fillL_len]
  omega
set_option maxRecDepth 100000 in
theorem len_tape {T base : Nat} {v : Value} {l : List Int} (W : World) (hT : Tape W T base v l) : Calls Tryd.prog 27 #[.pointer (some ⟨T, 0, none⟩)] W fun e W' => e = .returned (.int .i64 l.length) ∧ Below W.heap.size W W' := by
  obtain ⟨A0, c0, rfl⟩ := Kd.R_slice hT.2
  have k0 : W.cell? ⟨T, 0, none⟩ = some (.slice A0 l.length c0) := (Blk.cell hT.1 0).trans rfl
  have hlt := Blk.lt hT.1
  clear hT
  go_enter Tryd.func27, Tryd.ntmps27
  go_wp2_with fail
  go_ret
  exact ⟨rfl, Below.refl _ _⟩
def EndsWrite (w : World) (r : List Int × Int × Int) (e : Ending) (w' : World) : Prop :=
  ∃ A c, e = .returned (.tuple #[.slice A r.1.length c, .int .i64 r.2.1, .int .i64 r.2.2]) ∧ RB w' w.heap.size (.slice A r.1.length c) r.1 ∧ Below w.heap.size w w'
set_option maxRecDepth 100000 in
set_option maxHeartbeats 8000000 in
theorem write_any (A : Option Addr) (c : Nat) (l : List S25) (i0 : Int) (w : World) (hr : Kd.C k25 w A l.length l) (hV : Vars w i0) :
    Calls Tryd.prog 9 #[.slice A l.length c] w (EndsWrite w (writeF l)) := by
  have HR := Aside0.mk hr
  have HV := Aside0.mk hV
  have HCK := Aside0.mk (checkT_any A c l i0 w hr hV.len)
  have HW : Aside0 (writeF l = if (checkT l).2 ≠ 0 then ([], (checkT l).1, (checkT l).2) else volG l l.length 0 []) := ⟨rfl⟩
  have HOK : Aside0 ((checkT l).2 = 0 → l.length ≤ 256 ∧ ∀ i, i < l.length → mayX (itm l i) = 0) := ⟨checkT_ok⟩
  have HE : Aside0 (EndsWrite w (writeF l) = fun e w' => ∃ A c, e = .returned (.tuple #[.slice A (writeF l).1.length c, .int .i64 (writeF l).2.1, .int .i64 (writeF l).2.2]) ∧ RB w' w.heap.size (.slice A (writeF l).1.length c) (writeF l).1 ∧ Below w.heap.size w w') := ⟨rfl⟩
  obtain ⟨PE, hPE⟩ : ∃ PE, EndsWrite w (writeF l) = PE := ⟨_, rfl⟩
  rw [hPE] at HE ⊢
  generalize writeF l = R at *
  obtain ⟨ct, hct⟩ : ∃ ct, checkT l = ct := ⟨_, rfl⟩
  rw [hct] at HCK HW HOK
  obtain ⟨ca, ce⟩ := ct
  simp only at HCK HW HOK
  clear hr hV hPE hct
  go_enter Tryd.func9, Tryd.ntmps9
  go_wp2_with fail
  refine HCK.out.mono ?_
  rintro e w1 ⟨rfl, hb⟩
  have HB1 := Aside0.mk hb
  clear hb HCK
  by_cases h0 : ce = 0
  case neg =>
    have hne : (ce != 0) = true := bne_iff_ne.2 h0
    have HY : Aside0 (R = ([], ca, ce)) := ⟨by rw [HW.out, if_pos h0]⟩
    clear HW HOK
    go_wp2_with fail
    go_ret3
    rw [HE.out, HY.out]
    exact ⟨none, 0, rfl, Kd.R_nil _ _ _ _ _, HB1.out⟩
  case pos =>
    subst h0
    have HY : Aside0 (R = volG l l.length 0 []) := ⟨by rw [HW.out, if_neg (fun e => e rfl)]⟩
    have hl := (HOK.out rfl).1
    have HM := Aside0.mk (HOK.out rfl).2
    clear HW HOK
    have HT1 : Aside0 (Tape (w1.alloc (.cells #[.slice none 0 0] 59)) w1.heap.size w.heap.size (.slice none 0 0) []) := ⟨Blk.new w1 _ _, Kd.R_nil _ _ _ _ _⟩
    have HB2 := Aside0.mk (below_alloc HB1.out (.cells #[.slice none 0 0] 59))
    have HTB := Aside0.mk HB1.out.size
    obtain ⟨T, hT⟩ : ∃ T, w1.heap.size = T := ⟨_, rfl⟩
    rw [hT] at HT1 HTB
    have hTT := Aside0.mk hT
    clear hT
    go_wp2_with fail
    rw [hTT.out]
    generalize w1.alloc (.cells #[.slice none 0 0] 59) = w2 at *
    clear hTT HB1
    go_loopw [21] (fun u X => ∃ (i : Nat) (acc : List Int) (v : Value), i ≤ l.length ∧ acc.length ≤ 131072 ∧ u = .int .i64 i ∧ Aside0 (Tape X T w.heap.size v acc) ∧ Aside0 (Below w.heap.size w X) ∧ Aside0 (R = volG l (l.length - i) i acc)) (fun u _ => l.length - (intOf u).toNat)
    case atStart => exact ⟨0, [], _, Nat.zero_le _, by simp, rfl, HT1, HB2, HY⟩
    case round =>
      clear HT1 HB2 HY
      rename World => X
      obtain ⟨i, acc, v, hi, hal, rfl, HT, HB, HY⟩ := hrel
      by_cases hlt : i < l.length
      · have HY2 : Aside0 (R = if 131072 < (acc ++ piecesF (itm l i)).length + 1024 then ([], (i : Int), 2) else volG l (l.length - (i + 1)) (i + 1) (acc ++ piecesF (itm l i))) := ⟨by rw [HY.out, show l.length - i = (l.length - (i + 1)) + 1 by omega]; rfl⟩
        obtain ⟨ad, A4, c4, e, h0, h1, h2, h3, h4, h5, h6, h7⟩ := cells_I HR.out hlt
        obtain ⟨ad', A4', c4', e', g0, g1, g2, g3, g4, g5, _, _⟩ := cells_I (Kd.C_below HR.out HB.out) hlt
        subst e
        have hw4 : X.cell? ⟨(ad.add (i * 6)).block, (ad.add (i * 6)).off + 4, none⟩ = some (.slice A4 (itm l i).f4.length c4) := pw_cell_below HB.out h4
        cases e'
        have e9 := g4.symm.trans hw4
        cases e9
        have HC7 := Aside0.mk h7
        have hm0 := HM.out i hlt
        have hpl := pieces_len hm0
        have hbl := World.block_lt_of_cell? _ _ g0
        clear h0 h1 h2 h3 h4 h5 h7 hw4
        have HIT := Aside0.mk (fun (W : World) hT hB => item_any (T := T) (v0 := v) (l := acc) (itm l i) hm0 A4 c4 i0 w W hT HTB.out hB HV.out HC7.out h6 (by omega))
        generalize piecesF (itm l i) = pc at *
        clear HY hm0
        obtain ⟨x, hx⟩ : ∃ x, itm l i = x := ⟨_, rfl⟩
        rw [hx] at g0 g1 g2 g3 g4 g5 HIT h6
        clear hx HC7
        obtain ⟨p, k, m, t, bd, q⟩ := x
        simp only at g0 g1 g2 g3 g4 g5 HIT h6
        have HT2 := Aside0.mk (HT.out.below (below_alloc (Below.refl _ X) (.cells #[.string p, .int .u8 k, .int .i64 m, .int .i64 t, .slice A4 bd.length c4, .string q] 25)))
        have HB2 := Aside0.mk (below_alloc HB.out (.cells #[.string p, .int .u8 k, .int .i64 m, .int .i64 t, .slice A4 bd.length c4, .string q] 25))
        clear HT HB
        go_wp2_with fail
        refine (HIT.out _ HT2.out HB2.out).mono ?_
        rintro e X2 ⟨rfl, v2, hz2⟩
        have HT3 := Aside0.mk hz2.tape
        have HB3 := Aside0.mk hz2.bel
        have hlen : (acc ++ pc).length ≤ 400000 := by rw [List.length_append]; omega
        obtain ⟨ac2, hac2⟩ : ∃ ac2, acc ++ pc = ac2 := ⟨_, rfl⟩
        rw [hac2] at HT3 HY2 hlen
        clear hz2 HIT HT2 HB2 hac2 g0 g1 g2 g3 g4 g5
        go_wp2_with fail
        refine (len_tape X2 HT3.out).mono ?_
        rintro e X3 ⟨rfl, hb⟩
        have HT4 := Aside0.mk (HT3.out.below hb)
        have HB4 := Aside0.mk (below_step HB3.out hb)
        clear hb HT3 HB3
        by_cases hbig : 131072 < ac2.length + 1024
        · have HZ : Aside0 (R = ([], (i : Int), 2)) := ⟨by rw [HY2.out, if_pos hbig]⟩
          have hd : decide ((131072 : Int) < (ac2.length : Int) + 1024) = true := decide_eq_true (by omega)
          clear HY2 hbig
          go_wp2_with fail
          go_ret3
          rw [HE.out, HZ.out]
          exact ⟨none, 0, rfl, Kd.R_nil _ _ _ _ _, HB4.out⟩
        · have HZ : Aside0 (R = volG l (l.length - (i + 1)) (i + 1) ac2) := ⟨by rw [HY2.out, if_neg hbig]⟩
          have hd : decide ((131072 : Int) < (ac2.length : Int) + 1024) = false := decide_eq_false (by omega)
          have hle : ac2.length ≤ 131072 := by omega
          clear HY2 hbig
          go_wp2_with fail
          go_roundw
          case rel => exact ⟨i + 1, ac2, v2, by omega, hle, by go_num, HT4, HB4, HZ⟩
          case measure => simp [intOf]; omega
      · obtain rfl : i = l.length := by omega
        have HZ : Aside0 (R = (acc ++ zs 1024, 0, 0)) := ⟨by rw [HY.out, Nat.sub_self]; rfl⟩
        obtain ⟨A0, c0, rfl⟩ := Kd.R_slice HT.out.2
        have k0 : X.cell? ⟨T, 0, none⟩ = some (.slice A0 acc.length c0) := (Blk.cell HT.out.1 0).trans rfl
        have hlT := Blk.lt HT.out.1
        clear HY
        obtain ⟨n, hn⟩ : ∃ n : Nat, n = 1024 := ⟨_, rfl⟩
        obtain ⟨X2, hmk, hsz2, hbe2, hC2⟩ := make_n n (by omega) X.drew
        have hC1 : Kd.C (Kd.int .u8) X2 A0 acc.length acc := by
          obtain ⟨A', c', e3, hc, hC⟩ := Kd.R_reads HT.out.2
          cases e3
          exact Kd.C_below hC ((below_drew (Below.refl X.heap.size X)).trans hbe2)
        have hcc : acc.length ≤ c0 := by
          obtain ⟨A', c', e3, hc, hC⟩ := Kd.R_reads HT.out.2
          cases e3
          exact hc
        have hz := zs_length n
        obtain ⟨zz, hzz⟩ : ∃ zz, zs n = zz := ⟨_, rfl⟩
        rw [hzz] at hz hC2
        have HZZ : Aside0 (zs 1024 = zz) := ⟨by rw [← hn]; exact hzz⟩
        have h2 := C_two 23 (y := zz) (c2 := n) hC1 hcc (by rw [hz]; exact hC2) (Nat.le_of_eq hz)
        rw [hz] at h2
        have hsl : sumLen [acc, zz] ≤ 1000000 := by simp only [sumLen, List.map_cons, List.map_nil, List.sum_cons, List.sum_nil, hz]; omega
        have hcf : [acc, zz].flatten = acc ++ zz := by simp
        have hcc2 := concat_any (some ⟨X2.heap.size, 0, none⟩) 2 [acc, zz] (by show 2 ≤ 1000; omega) hsl _ h2
        rw [hcf] at hcc2
        have HCC : Aside0 (Calls Tryd.prog 28 #[.slice (some ⟨X2.heap.size, 0, none⟩) 2 2] (X2.alloc (.cells #[.slice A0 acc.length c0, .slice (some ⟨X.heap.size, 0, none⟩) n n] 23)) fun e W' => ∃ A' c', e = .returned (.slice A' (acc ++ zz).length c') ∧ RB W' (X2.alloc (.cells #[.slice A0 acc.length c0, .slice (some ⟨X.heap.size, 0, none⟩) n n] 23)).heap.size (.slice A' (acc ++ zz).length c') (acc ++ zz) ∧ Below (X2.alloc (.cells #[.slice A0 acc.length c0, .slice (some ⟨X.heap.size, 0, none⟩) n n] 23)).heap.size (X2.alloc (.cells #[.slice A0 acc.length c0, .slice (some ⟨X.heap.size, 0, none⟩) n n] 23)) W') := ⟨hcc2⟩
        have HBB : Aside0 (Below w.heap.size w (X2.alloc (.cells #[.slice A0 acc.length c0, .slice (some ⟨X.heap.size, 0, none⟩) n n] 23))) := ⟨below_alloc ((below_drew HB.out).trans (hbe2.mono HB.out.size)) _⟩
        have HLZ : Aside0 ((acc ++ zz).length = (acc ++ zs 1024).length) := ⟨by rw [HZZ.out]⟩
        have HSZ := Aside0.mk hsz2
        have kX2 : X2.cell? ⟨T, 0, none⟩ = some (.slice A0 acc.length c0) := pw_cell_below (w := X) ((below_drew (Below.refl X.heap.size X)).trans hbe2) k0
        clear h2 hC1 hC2 hcc hbe2 hz hzz hsl hsz2 hcc2 hcf
        have hmk2 : (Instr.makeSlice 23 (.int .i64 1024) (.int .i64 1024)).run Tryd.prog X.drew = .ok (.slice (some ⟨X.drew.heap.size, 0, none⟩) n n) X2 := by rw [← hmk, hn]; rfl
        clear hmk
        have HN := Aside0.mk hn
        clear hn
        have hmk3 : (Instr.makeSlice 23 (.int .i64 1024) (.int .i64 1024)).run Tryd.prog X.drew = .ok (.slice (some ⟨X.heap.size, 0, none⟩) n n) X2 := hmk2
        clear hmk2
        go_wp2_with fail
        go_region_held3 (fun w' => w'.cell? ⟨T, 0, none⟩ = some (.slice A0 acc.length c0)) (first | go_keep | assumption | (exact pw_cell_below hb5 (cell_alloc_l _ kX2))) (first | (go_at_call 28; refine HCC.out.mono ?_; rintro e X5 ⟨A5, c5, rfl, ho5, hb5⟩))
        go_wp2_with fail
        go_ret3
        rw [HE.out, HZ.out]
        simp only
        rw [HZZ.out]
        exact ⟨A5, c5, by rw [List.length_append]; rfl, Kd.R_lower ho5 HBB.out.size, HBB.out.trans (hb5.mono HBB.out.size)⟩
end Go.Proofs.YtopehfjohifpnaaDoor.Mine
end
