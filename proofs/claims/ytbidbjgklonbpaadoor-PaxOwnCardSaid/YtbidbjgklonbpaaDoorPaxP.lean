/- pax: PaxGets. -/
import Derived.Test.YtbidbjgklonbpaaDoorPaxO
import Derived.Test.YtbidbjgklonbpaaDoorPaxH
set_option linter.unusedSimpArgs false
set_option linter.unusedVariables false
namespace Go.Proofs.YtbidbjgklonbpaaDoor.Mine
open Go.RowKit Go.Maps Go.Proofs.YtbidbjgklonbpaaDoorW.PrintWords Go.Proofs.YtbidbjgklonbpaaDoorW.PrintLast Go.Proofs.YtbidbjgklonbpaaDoorW.PrintMore Go.Proofs.YtbidbjgklonbpaaDoor.Turn Go.Proofs.YtbidbjgklonbpaaDoor.PPaxGets

theorem getG_len (L : List Int) : ∀ (m a : Nat) (acc : List S23), acc.length ≤ 64 → (getG L m a acc).1.length ≤ 64
  | 0, a, acc, h => h
  | m + 1, a, acc, h => by
    unfold getG
    split
    · exact h
    · split
      · simp
      · rename_i h64
        split
        · simp
        · split
          · simp
          · exact getG_len L m _ _ (by rw [List.length_append]; simp; omega)

theorem row201 (W : World) : Kd.C (Kd.int .u8) (W.alloc (.cells #[.int .u8 201] 5)) (some ⟨W.heap.size, 0, none⟩) 1 [201] :=
  Kd.C_of_reads (enc := Value.int .u8) (d := (0 : Int)) (h1 := fun _ => rfl) ⟨rfl, by omega, fun _ => ⟨_, rfl, fun j hj => by
    have : j = 0 := by omega
    subst this
    exact ((Blk.new W #[.int .u8 201] 5).cell 0).trans rfl⟩⟩

set_option maxHeartbeats 8000000 in
set_option maxRecDepth 100000 in
theorem paxGets_any (A : Option Addr) (c : Nat) (l : List Int) (w : World) (hb : ∀ x ∈ l, 0 ≤ x ∧ x < 256) (hl : l.length + 1 ≤ 140737488355328) (hc : l.length ≤ c) (hr : Kd.C (Kd.int .u8) w A l.length l) (ht : Tab w) (hm : ∃ m, w.cell? ⟨0, 0, none⟩ = some (.int .i64 m)) :
    Calls Tryd.prog 6 #[.slice A l.length c] w fun e w' => e = .returned (.bool true) ∧ Below w.heap.size w w' := by
  have HR := Aside0.mk hr
  have HG : Aside0 (∀ (W : World) (A : Option Addr) (c : Nat), Below w.heap.size w W → l.length ≤ c → Kd.C (Kd.int .u8) W A l.length l → Calls Tryd.prog 24 #[.slice A l.length c] W (EndsGet W (getF l))) := ⟨fun W A c hbw hc hr => get_any A c l W hb (by omega) hc hr (ht.below hbw) (by
    obtain ⟨m, hm⟩ := hm
    exact ⟨m, (World.cell?_of_block (hbw.block _ (World.block_lt_of_cell? _ _ hm))).trans hm⟩)⟩
  have HGR : Aside0 (∀ (W : World) (A : Option Addr) (c : Nat), l.length ≤ c → Kd.C (Kd.int .u8) W A l.length l → Calls Tryd.prog 25 #[.slice A l.length c] W (EndsGet W (getF l))) := ⟨fun W A c hc hr => getR_any A c l W hb (by omega) hc hr⟩
  have HLEN : Aside0 ((getF l).1.length ≤ 64) := ⟨getG_len l 66 0 [] (by simp)⟩
  unfold EndsGet at HG HGR
  generalize getF l = R at *
  obtain ⟨R1, R2, R3⟩ := R
  simp only at HG HGR HLEN
  clear hr hb ht hm
  go_enter Tryd.func6, Tryd.ntmps6
  go_wp2_with (first | (at_builtin; refine Kd.R_append_rows (Kd.int .u8) (w0 := w) w.heap.size rfl (.tmp 10) (.tmp 11) 24 5 (.int .u8 0) 1 rfl Tryd.underlying24 info5 rfl (by decide) (by omega) (.slice none 0 0) ([] : List Int) l _ _ _ (fun _ => True) (fun _ => False) rfl rfl (Kd.R_nil _ _ _ _ _) HR.out (fun _ _ h => h) (fun _ h => h.elim) (fun _ _ => trivial) (Below.refl _ _) (Nat.le_refl _) (by simp; omega) ?_; intro v1 w1 ho hb hg hat; rw [List.nil_append] at ho; obtain ⟨A1, c1, rfl, hc1, -⟩ := Kd.R_reads ho; have HO := Aside0.mk ho; have HB := Aside0.mk hb; have HRO := Aside0.mk (Kd.R_step ho (fun k _ hlt => (below_alloc (Below.refl _ w1) (.cells #[.int .u8 201] 5)).block k hlt)); have HBO := Aside0.mk (below_alloc hb (.cells #[.int .u8 201] 5)); have HROW := Aside0.mk (row201 w1); clear ho hb hg hat hc1) | (at_builtin; refine Kd.R_append_rows (Kd.int .u8) (w0 := w) w.heap.size rfl (.tmp 13) (.tmp 14) 24 5 (.int .u8 0) 1 rfl Tryd.underlying24 info5 rfl (by decide) (by omega) (.slice A1 l.length c1) l [201] _ _ _ (fun _ => True) (fun _ => False) rfl rfl HRO.out HROW.out (fun _ _ h => h) (fun _ h => h.elim) (fun _ _ => trivial) HBO.out HBO.out.size (by omega) ?_; intro v2 w2 ho hb hg hat; obtain ⟨A2, c2, rfl, hc2, hC2⟩ := Kd.R_reads ho; have HC2 := Aside0.mk hC2; have HB2 := Aside0.mk hb; rw [List.length_append, List.length_singleton] at hc2; clear ho hb hg hat hC2 HRO HBO HROW HO HB))
  have hla : (l ++ [(201 : Int)]).length = l.length + 1 := by simp
  refine (HG.out w2 A2 c2 HB2.out (by omega) (C_prefix HC2.out)).mono ?_
  rintro e w3 ⟨hb3, A3, c3, rfl, hc3, hF3⟩
  have HB3 := Aside0.mk (below_step HB2.out hb3)
  have HC3 := Aside0.mk (Kd.C_below HC2.out hb3)
  have HF3 := Aside0.mk hF3
  clear hb3 hF3
  go_wp2_with fail
  refine (HGR.out w3 A c hc (Kd.C_below HR.out HB3.out)).mono ?_
  rintro e w4 ⟨hb4, A4, c4, rfl, hc4, hF4⟩
  have HB4 := Aside0.mk (below_step HB3.out hb4)
  have HC4 := Aside0.mk (Kd.C_below HC3.out hb4)
  have HP3 := Aside0.mk (Kd.C_below (Kd.F_now HF3.out) hb4)
  have HP4 := Aside0.mk (Kd.F_now hF4)
  clear hb4 hF4
  have e1 : (R2 == R2) = true := by simp
  have e2 : (R3 == R3) = true := by simp
  go_wp2_with fail
  have hr64 := HLEN.out
  refine (tabularylaw09_pairs.calls (R1.length + 1) A3 c3 R1 A4 c4 R1 true _ HP3.out hc3 HP4.out hc4 (by unfold tabularylaw09_pairs.f; rw [if_pos rfl]; exact pairs_eq R1 R1.length 0 (by omega) (by omega) (by omega) (by omega))).mono ?_
  rintro e w5 ⟨rfl, hd5⟩
  have hb5 := hd5.below
  have HB5 := Aside0.mk (below_step HB4.out hb5)
  have HC5 := Aside0.mk (Kd.C_below HC4.out hb5)
  clear hb5 hd5
  go_wp2_with fail
  refine (bytes_any A2 c2 l A c l _ (by omega) (C_prefix HC5.out) (by omega) (Kd.C_below HR.out HB5.out) hc).mono ?_
  rintro e w6 ⟨rfl, hb6⟩
  have HB6 := Aside0.mk (below_step HB5.out hb6)
  obtain ⟨ad, e, hx⟩ := Kd.at_int (Kd.C_below HC5.out hb6) (l.length : Int) (by omega) (by rw [List.length_append, List.length_singleton]; omega)
  subst e
  have hx2 : w6.cell? (ad.add l.length) = some (.int .u8 201) := by
    rw [Int.toNat_natCast] at hx
    rw [hx]
    simp [rd]
  have e3 : decide (l = l) = true := decide_eq_true rfl
  clear hx hb6
  go_wp2_with fail
  go_ret
  exact ⟨rfl, HB6.out⟩
end Go.Proofs.YtbidbjgklonbpaaDoor.Mine
