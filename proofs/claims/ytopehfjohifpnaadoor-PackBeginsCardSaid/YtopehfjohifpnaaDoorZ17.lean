import Derived.Test.YtopehfjohifpnaaDoorZ3
import Derived.Test.YtopehfjohifpnaaDoorZ16
import Derived.Deep.RegionHeld3
section
namespace Go.Proofs.YtopehfjohifpnaaDoor.Doc
open Go.RowKit Go.Proofs.YtopehfjohifpnaaDoorW.PrintWords Go.Proofs.YtopehfjohifpnaaDoorW.PrintLast Go.Proofs.YtopehfjohifpnaaDoorW.PrintMore
attribute [local go_sem] max2_int min2_int max_two min_two max_three min_three max_four min_four
set_option linter.unusedVariables false
set_option linter.unusedSimpArgs false
def tabularylaw12_folder.f (a0 : ByteArray) : Option (ByteArray × Int × Int × Int × List Int × ByteArray) := some (a0, 2, 0, 0, ([] : List Int), (⟨#[]⟩ : ByteArray))
set_option maxHeartbeats 8000000 in
set_option maxRecDepth 100000 in
theorem tabularylaw12_folder.calls (a0 : ByteArray) (r1 : ByteArray) (r2 : Int) (r3 : Int) (r4 : Int) (r5 : List Int) (r6 : ByteArray) (w : World) (h : tabularylaw12_folder.f a0 = some (r1, r2, r3, r4, r5, r6)) :
  Calls Tryd.prog 13 #[.string a0] w fun e w' => ∃ v4_ : Value, e = .returned (.agg #[.string r1, .int .u8 r2, .int .i64 r3, .int .i64 r4, v4_, .string r6]) ∧ Kd.R (Kd.int .u8) 5 w' w.heap.size (fun _ => True) v4_ r5 ∧ Below w.heap.size w w' := by
 have hu25 := Tryd.underlying25
 have HB := Aside0.mk (Below.refl w.heap.size w)
 have H : (some (a0, 2, 0, 0, ([] : List Int), (⟨#[]⟩ : ByteArray))) = some (r1, r2, r3, r4, r5, r6) := h
 clear h
 simp only [Option.some.injEq, Prod.mk.injEq] at H
 obtain ⟨rfl, rfl, rfl, rfl, rfl, rfl⟩ := H
 go_enter Tryd.func13, Tryd.ntmps13
 go_wp2_with (first | ((with_reducible refine gate_dst (N := 2) rfl ?_); refine box_event ?hg (N := 2) ?hd (cs := #[.string (⟨#[]⟩ : ByteArray), .int .u8 0, .int .i64 0, .int .i64 0, .slice none 0 0, .string (⟨#[]⟩ : ByteArray)]) (t := 25) ?hr ?_; (case hd => rfl); (case hg => rfl); (case hr => first | (go_simp; done) | (go_simp; rfl)); intro gb157 hg w2 hbox hb; have n0_ := Aside0.mk (below_step (hb_) hb); have n1_ := Aside0.mk (hbox); have n2_ := Aside0.mk ((by rw [hg]; exact (below_size (hb_)) : w.heap.size ≤ gb157)); have n3_ := Aside0.mk ((by rw [hg]; exact (below_size (hb_)) : w.heap.size ≤ gb157)); clear HB; have HB := n0_; have BK157 := n1_; have GW157 := n2_; have GE157 := n3_; clear n0_ n1_ n2_ n3_; clear hb hbox hg; have hcz3_0 : w2.cell? ⟨gb157, 0, none⟩ = some (.string (⟨#[]⟩ : ByteArray)) := (blk_cell BK157.out 0).trans rfl; have hcz3_1 : w2.cell? ⟨gb157, 1, none⟩ = some (.int .u8 0) := (blk_cell BK157.out 1).trans rfl; have hcz3_2 : w2.cell? ⟨gb157, 2, none⟩ = some (.int .i64 0) := (blk_cell BK157.out 2).trans rfl; have hcz3_3 : w2.cell? ⟨gb157, 3, none⟩ = some (.int .i64 0) := (blk_cell BK157.out 3).trans rfl; have hcz3_4 : w2.cell? ⟨gb157, 4, none⟩ = some (.slice none 0 0) := (blk_cell BK157.out 4).trans rfl; have hcz3_5 : w2.cell? ⟨gb157, 5, none⟩ = some (.string (⟨#[]⟩ : ByteArray)) := (blk_cell BK157.out 5).trans rfl; have hfz3_0 := blk_frozen BK157.out 0; have hfz3_1 := blk_frozen BK157.out 1; have hfz3_2 := blk_frozen BK157.out 2; have hfz3_3 := blk_frozen BK157.out 3; have hfz3_4 := blk_frozen BK157.out 4; have hfz3_5 := blk_frozen BK157.out 5))
 refine bodyPost_ret (results_cell_row rfl _ _ gb157 25 #[.string a0, .int .u8 2, .int .i64 0, .int .i64 0, .slice none 0 0, .string (⟨#[]⟩ : ByteArray)] (0, 0) _ rfl (by (with_reducible repeat (first | refine blk_drewN ?_ _ | refine blk_drew ?_ | refine blk_alloc ?_ _)); refine blk_put (cs := #[.string a0, .int .u8 2, .int .i64 0, .int .i64 0, .slice none 0 0, .string (⟨#[]⟩ : ByteArray)]) ?_ 5 _ rfl; (with_reducible repeat (first | refine blk_drewN ?_ _ | refine blk_drew ?_ | refine blk_alloc ?_ _)); refine blk_put (cs := #[.string a0, .int .u8 2, .int .i64 0, .int .i64 0, .slice none 0 0, .string (⟨#[]⟩ : ByteArray)]) ?_ 4 _ rfl; (with_reducible repeat (first | refine blk_drewN ?_ _ | refine blk_drew ?_ | refine blk_alloc ?_ _)); refine blk_put (cs := #[.string a0, .int .u8 2, .int .i64 0, .int .i64 0, .slice none 0 0, .string (⟨#[]⟩ : ByteArray)]) ?_ 3 _ rfl; (with_reducible repeat (first | refine blk_drewN ?_ _ | refine blk_drew ?_ | refine blk_alloc ?_ _)); refine blk_put (cs := #[.string a0, .int .u8 2, .int .i64 0, .int .i64 0, .slice none 0 0, .string (⟨#[]⟩ : ByteArray)]) ?_ 2 _ rfl; (with_reducible repeat (first | refine blk_drewN ?_ _ | refine blk_drew ?_ | refine blk_alloc ?_ _)); refine blk_put (cs := #[.string a0, .int .u8 0, .int .i64 0, .int .i64 0, .slice none 0 0, .string (⟨#[]⟩ : ByteArray)]) ?_ 1 _ rfl; (with_reducible repeat (first | refine blk_drewN ?_ _ | refine blk_drew ?_ | refine blk_alloc ?_ _)); refine blk_put (cs := #[.string (⟨#[]⟩ : ByteArray), .int .u8 0, .int .i64 0, .int .i64 0, .slice none 0 0, .string (⟨#[]⟩ : ByteArray)]) ?_ 0 _ rfl; (with_reducible repeat (first | refine blk_drewN ?_ _ | refine blk_drew ?_ | refine blk_alloc ?_ _)); exact BK157.out) Tryd.underlying25 rfl (by kernel_rfl)) rfl ?_
 exact ⟨_, er_, by first | exact Kd.R_nil _ _ _ _ _ | exact Kd.N_nil _ _ _ _ _ | exact Kd.V_nil _ _ _ _ _ | exact Kd.Q_nil _ _ _ _ _ | exact Kd.S_nil _ _ _ _ _, by repeat (first | (with_reducible first | exact HB.out | apply below_alloc | apply pw_below_drewN | apply below_drew1 | refine below_set ?_ GE157.out) | exact HB.out)⟩
def tabularylaw12_file.f (a0 : ByteArray) (a1 : Int) : Option (ByteArray × Int × Int × Int × List Int × ByteArray) := if 0 ≤ a1 then (if (a1 : Int).toNat ≤ 281474976710656 then (some (a0, 1, 0, 0, (List.replicate (a1 : Int).toNat 0), (⟨#[]⟩ : ByteArray))) else (none)) else (none)
set_option maxHeartbeats 8000000 in
set_option maxRecDepth 100000 in
theorem tabularylaw12_file.calls (a0 : ByteArray) (a1 : Int) (r1 : ByteArray) (r2 : Int) (r3 : Int) (r4 : Int) (r5 : List Int) (r6 : ByteArray) (w : World) (h : tabularylaw12_file.f a0 a1 = some (r1, r2, r3, r4, r5, r6)) :
  Calls Tryd.prog 14 #[.string a0, .int .i64 a1] w fun e w' => ∃ v4_ : Value, e = .returned (.agg #[.string r1, .int .u8 r2, .int .i64 r3, .int .i64 r4, v4_, .string r6]) ∧ Kd.R (Kd.int .u8) 5 w' w.heap.size (fun _ => True) v4_ r5 ∧ Below w.heap.size w w' := by
 have hu25 := Tryd.underlying25
 have HB := Aside0.mk (Below.refl w.heap.size w)
 have H : (if 0 ≤ a1 then (if (a1 : Int).toNat ≤ 281474976710656 then (some (a0, 1, 0, 0, (List.replicate (a1 : Int).toNat 0), (⟨#[]⟩ : ByteArray))) else (none)) else (none)) = some (r1, r2, r3, r4, r5, r6) := h
 clear h
 by_cases c3 : 0 ≤ a1
 ·rw [if_pos c3] at H
  have c3b0 := eq_true c3
  have c3b1 : decide (0 ≤ a1) = true := decide_eq_true c3
  clear c3
  by_cases c4 : (a1 : Int).toNat ≤ 281474976710656
  ·rw [if_pos c4] at H
   have c4b0 := eq_true c4
   have c4b1 : decide ((a1 : Int).toNat ≤ 281474976710656) = true := decide_eq_true c4
   clear c4
   obtain ⟨y159, hy159⟩ : ∃ y_ : List Int, y_ = (List.replicate (a1 : Int).toNat 0) := ⟨_, rfl⟩
   replace H : (some (a0, 1, 0, 0, y159, (⟨#[]⟩ : ByteArray))) = some (r1, r2, r3, r4, r5, r6) := by first | (rw [hy159]; with_reducible exact H) | (have H2_ := (Option.bind_some _ _).symm.trans H; rw [hy159]; with_reducible exact H2_) | (have H2_ := (Option.bind_some _ _).symm.trans H; with_reducible exact H2_) | with_reducible exact H | (rw [hy159]; exact H) | exact H
   have Ny159 := Aside0.mk hy159
   clear hy159
   simp only [Option.some.injEq, Prod.mk.injEq] at H
   obtain ⟨rfl, rfl, rfl, rfl, rfl, rfl⟩ := H
   go_enter Tryd.func14, Tryd.ntmps14
   go_wp2_with (first | ((with_reducible refine gate_dst (N := 4) rfl ?_); refine box_event ?hg (N := 4) ?hd (cs := #[.string (⟨#[]⟩ : ByteArray), .int .u8 0, .int .i64 0, .int .i64 0, .slice none 0 0, .string (⟨#[]⟩ : ByteArray)]) (t := 25) ?hr ?_; (case hd => rfl); (case hg => rfl); (case hr => first | (go_simp; done) | (go_simp; rfl)); intro gb158 hg w5 hbox hb; have n0_ := Aside0.mk (below_step (hb_) hb); have n1_ := Aside0.mk (hbox); have n2_ := Aside0.mk ((by rw [hg]; exact (below_size (hb_)) : w.heap.size ≤ gb158)); have n3_ := Aside0.mk ((by rw [hg]; exact (below_size (hb_)) : w.heap.size ≤ gb158)); clear HB; have HB := n0_; have BK158 := n1_; have GW158 := n2_; have GE158 := n3_; clear n0_ n1_ n2_ n3_; clear hb hbox hg) | ((with_reducible refine gate_dst (N := 7) rfl ?_); refine Kd.R_make (Kd.int .u8) _ 5 rfl (N := 7) rfl 23 _ _ rfl a1 rfl rfl Tryd.underlying23 (.int .u8 0) 1 info5 rfl (by decide) (by omega) 0 (ok := fun _ => True) (okp := fun _ => True) rfl (fun _ hk => hk) trivial (of_decide_eq_true (as_)) (Nat.le_trans (Nat.mul_le_mul_right _ (of_decide_eq_true (as_) : a1.toNat ≤ 281474976710656)) (by omega)) (Below.refl _ _) (Nat.le_refl _) ?_; intro v160 w6 ho7 hb hg_ hnew_; clear hg_ hnew_; (first | rw [← Ny159.out] at ho7 | (simp only [Int.reduceToNat] at ho7; rw [← Ny159.out] at ho7)); have n0_ := Aside0.mk (Kd.R_lower ho7 (below_size (by repeat (first | (with_reducible first | exact HB.out | apply below_alloc | apply pw_below_drewN | apply below_drew1 | refine below_set ?_ GE158.out) | exact HB.out)))); have n1_ := Aside0.mk (blk_below (g := gb158) (o := .cells #[.string (⟨#[]⟩ : ByteArray), .int .u8 0, .int .i64 0, .int .i64 0, .slice none 0 0, .string (⟨#[]⟩ : ByteArray)] 25 (0, 0)) (by (with_reducible repeat (first | refine blk_drewN ?_ _ | refine blk_drew ?_ | refine blk_alloc ?_ _)); exact BK158.out) hb); have n2_ := Aside0.mk (below_step (by repeat (first | (with_reducible first | exact HB.out | apply below_alloc | apply pw_below_drewN | apply below_drew1 | refine below_set ?_ GE158.out) | exact HB.out)) hb); clear BK158; clear HB; have HO161 := n0_; have BK158 := n1_; have HB := n2_; clear n0_ n1_ n2_; clear hb ho7; obtain ⟨Ao8, co8, eo8⟩ := Kd.R_slice HO161.out; subst eo8; have hcz9_0 : w6.cell? ⟨gb158, 0, none⟩ = some (.string (⟨#[]⟩ : ByteArray)) := (blk_cell BK158.out 0).trans rfl; have hcz9_1 : w6.cell? ⟨gb158, 1, none⟩ = some (.int .u8 0) := (blk_cell BK158.out 1).trans rfl; have hcz9_2 : w6.cell? ⟨gb158, 2, none⟩ = some (.int .i64 0) := (blk_cell BK158.out 2).trans rfl; have hcz9_3 : w6.cell? ⟨gb158, 3, none⟩ = some (.int .i64 0) := (blk_cell BK158.out 3).trans rfl; have hcz9_4 : w6.cell? ⟨gb158, 4, none⟩ = some (.slice none 0 0) := (blk_cell BK158.out 4).trans rfl; have hcz9_5 : w6.cell? ⟨gb158, 5, none⟩ = some (.string (⟨#[]⟩ : ByteArray)) := (blk_cell BK158.out 5).trans rfl; have hfz9_0 := blk_frozen BK158.out 0; have hfz9_1 := blk_frozen BK158.out 1; have hfz9_2 := blk_frozen BK158.out 2; have hfz9_3 := blk_frozen BK158.out 3; have hfz9_4 := blk_frozen BK158.out 4; have hfz9_5 := blk_frozen BK158.out 5))
   refine bodyPost_ret (results_cell_row rfl _ _ gb158 25 #[.string a0, .int .u8 1, .int .i64 0, .int .i64 0, .slice Ao8 y159.length co8, .string (⟨#[]⟩ : ByteArray)] (0, 0) _ rfl (by (with_reducible repeat (first | refine blk_drewN ?_ _ | refine blk_drew ?_ | refine blk_alloc ?_ _)); refine blk_put (cs := #[.string a0, .int .u8 1, .int .i64 0, .int .i64 0, .slice Ao8 y159.length co8, .string (⟨#[]⟩ : ByteArray)]) ?_ 5 _ rfl; (with_reducible repeat (first | refine blk_drewN ?_ _ | refine blk_drew ?_ | refine blk_alloc ?_ _)); refine blk_put (cs := #[.string a0, .int .u8 1, .int .i64 0, .int .i64 0, .slice none 0 0, .string (⟨#[]⟩ : ByteArray)]) ?_ 4 _ rfl; (with_reducible repeat (first | refine blk_drewN ?_ _ | refine blk_drew ?_ | refine blk_alloc ?_ _)); refine blk_put (cs := #[.string a0, .int .u8 1, .int .i64 0, .int .i64 0, .slice none 0 0, .string (⟨#[]⟩ : ByteArray)]) ?_ 3 _ rfl; (with_reducible repeat (first | refine blk_drewN ?_ _ | refine blk_drew ?_ | refine blk_alloc ?_ _)); refine blk_put (cs := #[.string a0, .int .u8 1, .int .i64 0, .int .i64 0, .slice none 0 0, .string (⟨#[]⟩ : ByteArray)]) ?_ 2 _ rfl; (with_reducible repeat (first | refine blk_drewN ?_ _ | refine blk_drew ?_ | refine blk_alloc ?_ _)); refine blk_put (cs := #[.string a0, .int .u8 0, .int .i64 0, .int .i64 0, .slice none 0 0, .string (⟨#[]⟩ : ByteArray)]) ?_ 1 _ rfl; (with_reducible repeat (first | refine blk_drewN ?_ _ | refine blk_drew ?_ | refine blk_alloc ?_ _)); refine blk_put (cs := #[.string (⟨#[]⟩ : ByteArray), .int .u8 0, .int .i64 0, .int .i64 0, .slice none 0 0, .string (⟨#[]⟩ : ByteArray)]) ?_ 0 _ rfl; (with_reducible repeat (first | refine blk_drewN ?_ _ | refine blk_drew ?_ | refine blk_alloc ?_ _)); exact BK158.out) Tryd.underlying25 rfl (by kernel_rfl)) rfl ?_
   exact ⟨_, er_, by (with_reducible repeat (first | apply Kd.R_alloc | apply Kd.R_drewN | apply Kd.R_drew)); exact Kd.R_mono (Kd.R_far (p := ⟨gb158, 5, none⟩) (Kd.R_far (p := ⟨gb158, 4, none⟩) (Kd.R_far (p := ⟨gb158, 3, none⟩) (Kd.R_far (p := ⟨gb158, 2, none⟩) (Kd.R_far (p := ⟨gb158, 1, none⟩) (Kd.R_far (p := ⟨gb158, 0, none⟩) (Kd.R_types HO161.out BK158.out (by decide)) (fun _ hk => hk.2) (.string a0)) (fun _ hk => hk.2) (.int .u8 1)) (fun _ hk => hk.2) (.int .i64 0)) (fun _ hk => hk.2) (.int .i64 0)) (fun _ hk => hk.2) (.slice Ao8 y159.length co8)) (fun _ hk => hk.2) (.string (⟨#[]⟩ : ByteArray))) (fun _ hk => trivial), by repeat (first | (with_reducible first | exact HB.out | apply below_alloc | apply pw_below_drewN | apply below_drew1 | refine below_set ?_ GE158.out) | exact HB.out)⟩
  ·rw [if_neg c4] at H
   exact absurd H (by simp)
 ·rw [if_neg c3] at H
  exact absurd H (by simp)
end Go.Proofs.YtopehfjohifpnaaDoor.Doc
end
section
set_option linter.unusedSimpArgs false
set_option linter.unusedVariables false
namespace Go.Proofs.YtopehfjohifpnaaDoor.Mine
open Go.RowKit Go.Shelf Go.Proofs.YtopehfjohifpnaaDoorW.PrintWords Go.Proofs.YtopehfjohifpnaaDoorW.PrintLast Go.Proofs.YtopehfjohifpnaaDoorW.PrintMore Go.Proofs.YtopehfjohifpnaaDoor.Turn Go.Proofs.YtopehfjohifpnaaDoor.Doc
theorem check_one {x : S25} (hm : mayX x = 0) (hu : (upF x.f0).size = 0) (h3 : x.f1 ≠ 3) : checkT [x] = (0, 0) := by
  have e : checkG [x] [x].length 0 = if mayX x ≠ 0 then (((0 : Nat) : Int), mayX x) else
    if 0 < 0 ∧ cmpF (itm [x] (0 - 1)).f0 x.f0 ≠ -1 then (((0 : Nat) : Int), 111) else
    if (upF x.f0).size ≠ 0 ∧ hasF ([x].take 0) (upF x.f0) 2 = false then (((0 : Nat) : Int), 112) else
    if x.f1 = 3 ∧ hasF ([x].take 0) x.f5 1 = false then (((0 : Nat) : Int), 113) else (0, 0) := rfl
  unfold checkT
  rw [if_neg (by simp), e, if_neg (fun e => e hm), if_neg (fun e => absurd e.1 (Nat.lt_irrefl 0)), if_neg (fun e => e.1 hu), if_neg (fun e => h3 e.1)]
set_option maxRecDepth 100000 in
theorem write_one {x : S25} (hm : mayX x = 0) (hu : (upF x.f0).size = 0) (h3 : x.f1 ≠ 3) : writeF [x] = if 131072 < (piecesF x).length + 1024 then ([], 0, 2) else (piecesF x ++ zs 1024, 0, 0) := by
  unfold writeF
  rw [check_one hm hu h3, if_neg (by simp)]
  show (if 131072 < ([] ++ piecesF x).length + 1024 then (([], ((0 : Nat) : Int), 2) : List Int × Int × Int) else (([] ++ piecesF x) ++ zs 1024, 0, 0)) = _
  rw [List.nil_append]
  rfl
theorem plain_len {x : S25} (hm : mayX x = 0) (hp : pairsL x.f0 x.f5 = []) : (piecesF x).length = 512 + (x.f4.length + 511) / 512 * 512 := by
  rw [pieces_eq hm, hp, moreL_nil, List.nil_append, List.length_append, layF_len (own_good hm), fillL_len]
abbrev sA : ByteArray := ⟨#[97]⟩
abbrev sAB : ByteArray := ⟨#[97, 47, 98]⟩
def fileI (p : ByteArray) (n : Nat) : S25 := ⟨p, 1, 0, 0, zs n, NoB⟩
def foldI (p : ByteArray) : S25 := ⟨p, 2, 0, 0, [], NoB⟩
theorem may_file {p : ByteArray} {n : Nat} (hp : (checkF p).2 = 0) (hn : n ≤ 65536) : mayX (fileI p n) = 0 := by
  unfold mayX mayF mayT fileI
  simp only
  rw [if_neg (fun e => e hp), if_neg (by simp), if_neg (fun e => e.2 rfl), if_neg (by decide), if_neg (by decide), if_neg (by decide), if_neg (by rw [zs_length]; omega)]
theorem no_pairs {p : ByteArray} (hp : (checkF p).2 = 0) (hs : p.size ≤ 100) : pairsL p NoB = [] := by
  have h : (splitF p).2.2 = 0 := by unfold splitF; rw [if_neg (fun e => e hp), if_pos hs]
  unfold pairsL
  rw [if_neg (by decide), if_neg (fun e => e h)]
  rfl
theorem chk_a : (checkF sA).2 = 0 := by decide +kernel
theorem up_a : (upF sA).size = 0 := by decide +kernel
theorem vol_file {p : ByteArray} {n : Nat} (hp : (checkF p).2 = 0) (hs : p.size ≤ 100) (hu : (upF p).size = 0) (hn : n ≤ 65536) (hb : 512 + (n + 511) / 512 * 512 + 1024 ≤ 131072) : (writeF [fileI p n]).1.length = 512 + (n + 511) / 512 * 512 + 1024 ∧ (writeF [fileI p n]).2.2 = 0 := by
  have hl := plain_len (may_file hp hn) (no_pairs hp hs)
  have hz : (fileI p n).f4.length = n := zs_length n
  rw [hz] at hl
  rw [write_one (may_file hp hn) hu (by show (1 : Int) ≠ 3; decide), if_neg (by omega)]
  exact ⟨by rw [List.length_append, hl, zs_length], rfl⟩
theorem vol_a3 : (writeF [fileI sA 3]).1.length = 2048 ∧ (writeF [fileI sA 3]).2.2 = 0 := vol_file chk_a (by decide) up_a (by omega) (by omega)
theorem vol_a513 : (writeF [fileI sA 513]).1.length = 2560 ∧ (writeF [fileI sA 513]).2.2 = 0 := vol_file chk_a (by decide) up_a (by omega) (by omega)
theorem vol_ab : writeF [foldI sAB] = ([], 0, 112) := by
  have h : checkT [foldI sAB] = (0, 112) := by decide +kernel
  unfold writeF
  rw [h, if_pos (by decide)]
theorem vol_no : (writeF []).1.length = 1024 ∧ (writeF []).2.2 = 0 := by
  have h : checkT [] = (0, 0) := rfl
  unfold writeF
  rw [h, if_neg (by decide)]
  show ([] ++ zs 1024).length = 1024 ∧ (0 : Int) = 0
  rw [List.nil_append, zs_length]
  exact ⟨rfl, rfl⟩
theorem file_any (p : ByteArray) (n : Nat) (hn : n ≤ 65536) (w : World) : Calls Tryd.prog 14 #[.string p, .int .i64 n] w fun e w' => ∃ A c, e = .returned (.agg #[.string p, .int .u8 1, .int .i64 0, .int .i64 0, .slice A n c, .string NoB]) ∧ n ≤ c ∧ Kd.C (Kd.int .u8) w' A n (zs n) ∧ Below w.heap.size w w' := by
  refine (tabularylaw12_file.calls p n p 1 0 0 (zs n) NoB w ?_).mono ?_
  · unfold tabularylaw12_file.f
    rw [if_pos (by omega), if_pos (by omega), Int.toNat_natCast]
    rfl
  · rintro e w' ⟨v, rfl, hv, hb⟩
    obtain ⟨A, c, rfl, hc, hC⟩ := Kd.R_reads hv
    rw [zs_length] at hc hC ⊢
    exact ⟨A, c, rfl, hc, hC, hb⟩
theorem folder_any (p : ByteArray) (w : World) : Calls Tryd.prog 13 #[.string p] w fun e w' => ∃ A c, e = .returned (.agg #[.string p, .int .u8 2, .int .i64 0, .int .i64 0, .slice A 0 c, .string NoB]) ∧ Kd.C (Kd.int .u8) w' A 0 [] ∧ Below w.heap.size w w' := by
  refine (tabularylaw12_folder.calls p p 2 0 0 [] NoB w rfl).mono ?_
  rintro e w' ⟨v, rfl, hv, hb⟩
  obtain ⟨A, c, rfl, hc, hC⟩ := Kd.R_reads hv
  exact ⟨A, c, rfl, hC, hb⟩
theorem C_oneI {W : World} {x : S25} {A : Option Addr} {c n : Nat} (hn : n = x.f4.length) (t : TypeId) (hl : n ≤ c) (hC : Kd.C (Kd.int .u8) W A n x.f4) :
    Kd.C k25 (W.alloc (.cells #[.string x.f0, .int .u8 x.f1, .int .i64 x.f2, .int .i64 x.f3, .slice A n c, .string x.f5] t)) (some ⟨W.heap.size, 0, none⟩) [x].length [x] := by
  subst hn
  have hb := Blk.new W #[.string x.f0, .int .u8 x.f1, .int .i64 x.f2, .int .i64 x.f3, .slice A x.f4.length c, .string x.f5] t
  have k1 := Kd.C_below hC (below_alloc (Below.refl _ W) (.cells #[.string x.f0, .int .u8 x.f1, .int .i64 x.f2, .int .i64 x.f3, .slice A x.f4.length c, .string x.f5] t))
  refine ⟨rfl, by simp, fun _ => ⟨_, rfl, fun j p hj => ?_⟩⟩
  match j, hj with
  | 0, hj =>
    cases hj
    refine ⟨_, rfl, k25_mk _ x hl k1, fun i u hu => ?_⟩
    match i, hu with
    | 0, hu => cases hu; exact (Blk.cell hb 0).trans rfl
    | 1, hu => cases hu; exact (Blk.cell hb 1).trans rfl
    | 2, hu => cases hu; exact (Blk.cell hb 2).trans rfl
    | 3, hu => cases hu; exact (Blk.cell hb 3).trans rfl
    | 4, hu => cases hu; exact (Blk.cell hb 4).trans rfl
    | 5, hu => cases hu; exact (Blk.cell hb 5).trans rfl
theorem nil_CI (W : World) : Kd.C k25 W none 0 [] := ⟨rfl, by simp, fun h => absurd h (by simp)⟩
set_option maxRecDepth 100000 in
set_option maxHeartbeats 8000000 in
theorem awake_any (i0 : Int) (w : World) (hV : Vars w i0) :
    Calls Tryd.prog 8 #[] w fun e w' => e = .returned (.bool true) ∧ Below w.heap.size w w' := by
  have HV := Aside0.mk hV
  have S1 : Aside0 (∀ (X : World) A c, Below w.heap.size w X → c ≥ 3 → Kd.C (Kd.int .u8) X A 3 (zs 3) → Calls Tryd.prog 12 #[.slice (some ⟨X.heap.size, 0, none⟩) 1 1] (X.alloc (.cells #[.string sA, .int .u8 1, .int .i64 0, .int .i64 0, .slice A 3 c, .string NoB] 25)) fun e w' => e = .returned (.tuple #[.int .i64 2048, .int .i64 0]) ∧ Below (X.alloc (.cells #[.string sA, .int .u8 1, .int .i64 0, .int .i64 0, .slice A 3 c, .string NoB] 25)).heap.size (X.alloc (.cells #[.string sA, .int .u8 1, .int .i64 0, .int .i64 0, .slice A 3 c, .string NoB] 25)) w') := ⟨fun X A c hb hc hC => by
    have h := sizeW_any (some ⟨X.heap.size, 0, none⟩) 1 [fileI sA 3] i0 _ (C_oneI (x := fileI sA 3) rfl 25 hc hC) (hV.below (below_alloc hb _))
    rw [vol_a3.1, vol_a3.2] at h
    exact h⟩
  have S2 : Aside0 (∀ (X : World) A c, Below w.heap.size w X → c ≥ 513 → Kd.C (Kd.int .u8) X A 513 (zs 513) → Calls Tryd.prog 12 #[.slice (some ⟨X.heap.size, 0, none⟩) 1 1] (X.alloc (.cells #[.string sA, .int .u8 1, .int .i64 0, .int .i64 0, .slice A 513 c, .string NoB] 25)) fun e w' => e = .returned (.tuple #[.int .i64 2560, .int .i64 0]) ∧ Below (X.alloc (.cells #[.string sA, .int .u8 1, .int .i64 0, .int .i64 0, .slice A 513 c, .string NoB] 25)).heap.size (X.alloc (.cells #[.string sA, .int .u8 1, .int .i64 0, .int .i64 0, .slice A 513 c, .string NoB] 25)) w') := ⟨fun X A c hb hc hC => by
    have h := sizeW_any (some ⟨X.heap.size, 0, none⟩) 1 [fileI sA 513] i0 _ (C_oneI (x := fileI sA 513) (by show 513 = (zs 513).length; rw [zs_length]) 25 hc hC) (hV.below (below_alloc hb _))
    rw [vol_a513.1, vol_a513.2] at h
    exact h⟩
  have S3 : Aside0 (∀ (X : World) A c, Below w.heap.size w X → Kd.C (Kd.int .u8) X A 0 [] → Calls Tryd.prog 9 #[.slice (some ⟨X.heap.size, 0, none⟩) 1 1] (X.alloc (.cells #[.string sAB, .int .u8 2, .int .i64 0, .int .i64 0, .slice A 0 c, .string NoB] 25)) fun e w' => (∃ A' c', e = .returned (.tuple #[.slice A' 0 c', .int .i64 0, .int .i64 112])) ∧ Below (X.alloc (.cells #[.string sAB, .int .u8 2, .int .i64 0, .int .i64 0, .slice A 0 c, .string NoB] 25)).heap.size (X.alloc (.cells #[.string sAB, .int .u8 2, .int .i64 0, .int .i64 0, .slice A 0 c, .string NoB] 25)) w') := ⟨fun X A c hb hC => by
    have h := write_any (some ⟨X.heap.size, 0, none⟩) 1 [foldI sAB] i0 _ (C_oneI (x := foldI sAB) rfl 25 (Nat.zero_le c) hC) (hV.below (below_alloc hb _))
    rw [vol_ab] at h
    refine h.mono ?_
    rintro e w' ⟨A', c', rfl, _, hb⟩
    exact ⟨⟨A', c', rfl⟩, hb⟩⟩
  have S4 : Aside0 (∀ (X : World), Below w.heap.size w X → Calls Tryd.prog 9 #[.slice none 0 0] X fun e w' => (∃ A' c' a', e = .returned (.tuple #[.slice A' 1024 c', .int .i64 a', .int .i64 0])) ∧ Below X.heap.size X w') := ⟨fun X hb => by
    have h := write_any none 0 [] i0 X (nil_CI X) (hV.below hb)
    refine h.mono ?_
    rintro e w' ⟨A', c', rfl, _, hb⟩
    rw [vol_no.1, vol_no.2]
    exact ⟨⟨A', c', _, rfl⟩, hb⟩⟩
  clear hV
  go_enter Tryd.func8, Tryd.ntmps8
  go_wp2_with fail
  refine (file_any sA 3 (by omega) w).mono ?_
  rintro e w1 ⟨A1, c1, rfl, hc1, hC1, hb1⟩
  have Q1 := Aside0.mk (S1.out w1 A1 c1 hb1 hc1 hC1)
  have HB1 := Aside0.mk (below_alloc hb1 (.cells #[.string sA, .int .u8 1, .int .i64 0, .int .i64 0, .slice A1 3 c1, .string NoB] 25))
  clear S1 hb1 hc1 hC1
  go_wp2_with fail
  refine Q1.out.mono ?_
  rintro e w2 ⟨rfl, hb2⟩
  have HB2 := Aside0.mk (below_step HB1.out hb2)
  clear Q1 hb2 HB1
  go_wp2_with fail
  refine (file_any sA 513 (by omega) w2).mono ?_
  rintro e w3 ⟨A3, c3, rfl, hc3, hC3, hb3⟩
  have Q3 := Aside0.mk (S2.out w3 A3 c3 (below_step HB2.out hb3) hc3 hC3)
  have HB3 := Aside0.mk (below_alloc (below_step HB2.out hb3) (.cells #[.string sA, .int .u8 1, .int .i64 0, .int .i64 0, .slice A3 513 c3, .string NoB] 25))
  clear S2 hb3 hc3 hC3
  go_wp2_with fail
  refine Q3.out.mono ?_
  rintro e w4 ⟨rfl, hb4⟩
  have HB4 := Aside0.mk (below_step HB3.out hb4)
  clear Q3 hb4 HB3
  go_wp2_with fail
  refine (folder_any sAB w4).mono ?_
  rintro e w5 ⟨A5, c5, rfl, hC5, hb5⟩
  have Q5 := Aside0.mk (S3.out w5 A5 c5 (below_step HB4.out hb5) hC5)
  have HB5 := Aside0.mk (below_alloc (below_step HB4.out hb5) (.cells #[.string sAB, .int .u8 2, .int .i64 0, .int .i64 0, .slice A5 0 c5, .string NoB] 25))
  clear S3 hb5 hC5
  go_wp2_with fail
  refine Q5.out.mono ?_
  rintro e w6 ⟨⟨A6, c6, rfl⟩, hb6⟩
  have HB6 := Aside0.mk (below_step HB5.out hb6)
  clear Q5 hb6 HB5
  go_wp2_with fail
  refine (S4.out w6 HB6.out).mono ?_
  rintro e w7 ⟨⟨A7, c7, a7, rfl⟩, hb7⟩
  have HB7 := Aside0.mk (below_step HB6.out hb7)
  clear hb7 HB6
  go_wp2_with fail
  go_ret
  exact ⟨rfl, HB7.out⟩
end Go.Proofs.YtopehfjohifpnaaDoor.Mine
end
section
set_option linter.unusedSimpArgs false
set_option linter.unusedVariables false
namespace Go.Proofs.YtopehfjohifpnaaDoor.Mine
open Go.RowKit Go.Shelf Go.Proofs.YtopehfjohifpnaaDoorW.PrintWords Go.Proofs.YtopehfjohifpnaaDoorW.PrintLast Go.Proofs.YtopehfjohifpnaaDoorW.PrintMore Go.Proofs.YtopehfjohifpnaaDoor.Turn Go.Proofs.YtopehfjohifpnaaDoor.Doc
end Go.Proofs.YtopehfjohifpnaaDoor.Mine
end
section
set_option linter.unusedSimpArgs false
set_option linter.unusedVariables false
namespace Go.Proofs.YtopehfjohifpnaaDoor.Mine
open Go.RowKit Go.Shelf Go.Proofs.YtopehfjohifpnaaDoorW.PrintWords Go.Proofs.YtopehfjohifpnaaDoorW.PrintLast Go.Proofs.YtopehfjohifpnaaDoorW.PrintMore Go.Proofs.YtopehfjohifpnaaDoor.Turn Go.Proofs.YtopehfjohifpnaaDoor.Doc
end Go.Proofs.YtopehfjohifpnaaDoor.Mine
end
section
set_option linter.unusedSimpArgs false
set_option linter.unusedVariables false
namespace Go.Proofs.YtopehfjohifpnaaDoor.Mine
open Go.RowKit Go.Shelf Go.Proofs.YtopehfjohifpnaaDoorW.PrintWords Go.Proofs.YtopehfjohifpnaaDoorW.PrintLast Go.Proofs.YtopehfjohifpnaaDoorW.PrintMore Go.Proofs.YtopehfjohifpnaaDoor.Turn Go.Proofs.YtopehfjohifpnaaDoor.Doc
end Go.Proofs.YtopehfjohifpnaaDoor.Mine
end
section
set_option linter.unusedSimpArgs false
set_option linter.unusedVariables false
namespace Go.Proofs.YtopehfjohifpnaaDoor.Mine
open Go.RowKit Go.Shelf Go.Proofs.YtopehfjohifpnaaDoorW.PrintWords Go.Proofs.YtopehfjohifpnaaDoorW.PrintLast Go.Proofs.YtopehfjohifpnaaDoorW.PrintMore Go.Proofs.YtopehfjohifpnaaDoor.Turn Go.Proofs.YtopehfjohifpnaaDoor.Doc
end Go.Proofs.YtopehfjohifpnaaDoor.Mine
end
section
namespace Go.Proofs.YtopehfjohifpnaaDoor.Doc
open Go.RowKit Go.Proofs.YtopehfjohifpnaaDoorW.PrintWords Go.Proofs.YtopehfjohifpnaaDoorW.PrintLast Go.Proofs.YtopehfjohifpnaaDoorW.PrintMore
attribute [local go_sem] max2_int min2_int max_two min_two max_three min_three max_four min_four
set_option linter.unusedVariables false
set_option linter.unusedSimpArgs false
def tabularylaw12_same.l0 : Nat → List Int → List Int → Int → Option (Bool)
 | 0, _, _, _ => none
 | k + 1, x0, x1, x5 => if x5 < (x0.length : Int) then (if 0 ≤ x5 then (if x5 < (x1.length : Int) then (if (rd x0 x5) = (rd x1 x5) then (tabularylaw12_same.l0 k x0 x1 (wrap64 (x5 + 1))) else (some false)) else (none)) else (none)) else (some true)
def tabularylaw12_same.f (k : Nat) (l0 : List Int) (l1 : List Int) : Option (Bool) := if (l0.length : Int) = (l1.length : Int) then (tabularylaw12_same.l0 k l0 l1 0) else (some false)
theorem tabularylaw12_same.mono_l : ∀ k, (∀ y0 y1 y2, LeO (tabularylaw12_same.l0 k y0 y1 y2) (tabularylaw12_same.l0 (k + 1) y0 y1 y2))
 | 0 => fun _ _ _ r h => by simp [tabularylaw12_same.l0] at h
 | k + 1 => by
  have ih0 := tabularylaw12_same.mono_l k
  ·intro y0 y1 y2
   unfold tabularylaw12_same.l0
   repeat' first
   | (with_reducible exact ih0 _ _ _)
   | (with_reducible exact LeO.refl _)
   | (with_reducible exact LeO.none _)
   | (with_reducible refine LeO.ite ?_ ?_)
   | (with_reducible refine LeO.bind ?_ (fun _ => ?_))
theorem tabularylaw12_same.mono : ∀ a0 a1 k, LeO (tabularylaw12_same.f k a0 a1) (tabularylaw12_same.f (k + 1) a0 a1) := by
 intro a0 a1 k
 have ih0 := tabularylaw12_same.mono_l k
 unfold tabularylaw12_same.f
 repeat' first
   | (with_reducible exact ih0 _ _ _)
   | (with_reducible exact LeO.refl _)
   | (with_reducible exact LeO.none _)
   | (with_reducible refine LeO.ite ?_ ?_)
   | (with_reducible refine LeO.bind ?_ (fun _ => ?_))
set_option maxHeartbeats 8000000 in
set_option maxRecDepth 100000 in
theorem tabularylaw12_same.calls (k : Nat) (A0 : Option Addr) (c0 : Nat) (l0 : List Int) (A1 : Option Addr) (c1 : Nat) (l1 : List Int) (r : Bool) (w : World) (hr0 : Kd.C (Kd.int .u8) w A0 l0.length l0) (hc0 : l0.length ≤ c0) (hr1 : Kd.C (Kd.int .u8) w A1 l1.length l1) (hc1 : l1.length ≤ c1) (h : tabularylaw12_same.f k l0 l1 = some r) :
  Calls Tryd.prog 10 #[.slice A0 l0.length c0, .slice A1 l1.length c1] w fun e w' => e = .returned (.bool r) ∧ Drawn0 w w' := by
 have HR0 := Aside0.mk hr0
 have HC0 := Aside0.mk hc0
 clear hr0 hc0
 have HR1 := Aside0.mk hr1
 have HC1 := Aside0.mk hc1
 clear hr1 hc1
 have H : (if (l0.length : Int) = (l1.length : Int) then (tabularylaw12_same.l0 k l0 l1 0) else (some false)) = some r := h
 clear h
 by_cases c3 : (l0.length : Int) = (l1.length : Int)
 ·rw [if_pos c3] at H
  have c3b0 : ((l0.length : Int) == (l1.length : Int)) = true := beq_iff_eq.mpr c3
  have c3b1 : ((l0.length : Int) != (l1.length : Int)) = false := bne_eq_false_iff_eq.mpr c3
  have c3b2 : (l0.length == l1.length) = true := by first | simpa using c3 | (simp at c3 ⊢; omega)
  clear c3
  have H' := Aside0.mk H
  clear H
  go_enter Tryd.func10, Tryd.ntmps10
  go_wp2
  repeat (go_quiet (fail); try go_wp2)
  go_loopg [5] k (fun kq v5 w' => ∃ (x5_1 : Int), v5 = .int .i64 x5_1 ∧ Aside0 (tabularylaw12_same.l0 kq l0 l1 x5_1 = some r) ∧ Aside0 (kq ≤ k) ∧ Drawn0 w w')
  case atStart => exact ⟨(0), (by first | rfl | (simp; done) | (simp [*]; done)), H', ⟨Nat.le_refl _⟩, by repeat (first | exact Drawn0.refl _ | apply Drawn0.step)⟩
  case round =>
   clear H'
   try clear c1
   try clear p2
   try clear c3
   try clear c3b0
   try clear c3b1
   try clear c3b2
   obtain ⟨x5_1, rfl, HA, HK1, ⟨m1, rfl⟩⟩ := hrel
   cases gk with
   | zero => exact absurd HA.out (by simp [tabularylaw12_same.l0])
   | succ k1 =>
    have H := HA.out
    clear HA
    simp only [tabularylaw12_same.l0] at H
    by_cases c4 : x5_1 < (l0.length : Int)
    ·rw [if_pos c4] at H
     have c4b0 : decide (x5_1 < (l0.length : Int)) = true := decide_eq_true c4
     clear c4
     by_cases c5 : 0 ≤ x5_1
     ·rw [if_pos c5] at H
      have c5b0 : decide (0 ≤ x5_1) = true := decide_eq_true c5
      clear c5
      by_cases c6 : x5_1 < (l1.length : Int)
      ·rw [if_pos c6] at H
       have c6b0 : decide (x5_1 < (l1.length : Int)) = true := decide_eq_true c6
       clear c6
       by_cases c7 : (rd l0 x5_1) = (rd l1 x5_1)
       ·rw [if_pos c7] at H
        have c7b0 : ((rd l0 x5_1) == (rd l1 x5_1)) = true := beq_iff_eq.mpr c7
        have c7b1 : ((rd l0 x5_1) != (rd l1 x5_1)) = false := bne_eq_false_iff_eq.mpr c7
        clear c7
        have H' := Aside0.mk H
        clear H
        have p173 : 0 ≤ (x5_1 : Int) := of_decide_eq_true (as_)
        have q173 : x5_1 < (l0.length : Int) := of_decide_eq_true (as_)
        obtain ⟨ad173, e173, hx173_0⟩ := Kd.at_int HR0.out x5_1 p173 q173
        cases e173
        replace p173 := eq_true p173
        replace q173 := eq_true q173
        have p174 : 0 ≤ (x5_1 : Int) := of_decide_eq_true (as_)
        have q174 : x5_1 < (l1.length : Int) := of_decide_eq_true (as_)
        obtain ⟨ad174, e174, hx174_0⟩ := Kd.at_int HR1.out x5_1 p174 q174
        cases e174
        replace p174 := eq_true p174
        replace q174 := eq_true q174
        go_wp2
        repeat (go_quiet (fail); try go_wp2)
        go_roundg k1
        case measure => have := HK1.out; omega
        case rel => exact ⟨(wrap64 (x5_1 + 1)), (by first | rfl | (simp; done) | (simp [*]; done)), H', ⟨by have := HK1.out; omega⟩, by repeat (first | exact Drawn0.refl _ | apply Drawn0.step)⟩
       ·rw [if_neg c7] at H
        have c7b0 : ((rd l0 x5_1) == (rd l1 x5_1)) = false := beq_eq_false_iff_ne.mpr c7
        have c7b1 : ((rd l0 x5_1) != (rd l1 x5_1)) = true := bne_iff_ne.mpr c7
        obtain rfl := Option.some.inj H
        have p173 : 0 ≤ (x5_1 : Int) := of_decide_eq_true (as_)
        have q173 : x5_1 < (l0.length : Int) := of_decide_eq_true (as_)
        obtain ⟨ad173, e173, hx173_0⟩ := Kd.at_int HR0.out x5_1 p173 q173
        cases e173
        replace p173 := eq_true p173
        replace q173 := eq_true q173
        have p174 : 0 ≤ (x5_1 : Int) := of_decide_eq_true (as_)
        have q174 : x5_1 < (l1.length : Int) := of_decide_eq_true (as_)
        obtain ⟨ad174, e174, hx174_0⟩ := Kd.at_int HR1.out x5_1 p174 q174
        cases e174
        replace p174 := eq_true p174
        replace q174 := eq_true q174
        go_wp2
        repeat (go_quiet (fail); try go_wp2)
        go_ret
        exact ⟨by first | rfl | (simp; done) | (simp [*]; done), by repeat (first | exact Drawn0.refl _ | apply Drawn0.step)⟩
      ·rw [if_neg c6] at H
       exact absurd H (by simp)
     ·rw [if_neg c5] at H
      exact absurd H (by simp)
    ·rw [if_neg c4] at H
     have c4b0 : decide (x5_1 < (l0.length : Int)) = false := decide_eq_false c4
     clear c4
     obtain rfl := Option.some.inj H
     go_wp2
     repeat (go_quiet (fail); try go_wp2)
     go_ret
     exact ⟨by first | rfl | (simp; done) | (simp [*]; done), by repeat (first | exact Drawn0.refl _ | apply Drawn0.step)⟩
 ·rw [if_neg c3] at H
  have c3b0 : ((l0.length : Int) == (l1.length : Int)) = false := beq_eq_false_iff_ne.mpr c3
  have c3b1 : ((l0.length : Int) != (l1.length : Int)) = true := bne_iff_ne.mpr c3
  have c3b2 : (l0.length == l1.length) = false := by first | simpa using c3 | (simp at c3 ⊢; omega)
  obtain rfl := Option.some.inj H
  go_enter Tryd.func10, Tryd.ntmps10
  go_wp2
  repeat (go_quiet (fail); try go_wp2)
  go_ret
  exact ⟨by first | rfl | (simp; done) | (simp [*]; done), by repeat (first | exact Drawn0.refl _ | apply Drawn0.step)⟩
end Go.Proofs.YtopehfjohifpnaaDoor.Doc
end
section
set_option linter.unusedSimpArgs false
set_option linter.unusedVariables false
namespace Go.Proofs.YtopehfjohifpnaaDoor.Mine
open Go.RowKit Go.Shelf Go.Proofs.YtopehfjohifpnaaDoorW.PrintWords Go.Proofs.YtopehfjohifpnaaDoorW.PrintLast Go.Proofs.YtopehfjohifpnaaDoorW.PrintMore Go.Proofs.YtopehfjohifpnaaDoor.Turn Go.Proofs.YtopehfjohifpnaaDoor.Doc
theorem same_l (l : List Int) (hl : l.length ≤ 1000000) : ∀ (n K i : Nat), l.length - i = n → i ≤ l.length → n < K → tabularylaw12_same.l0 K l l (i : Int) = some true := by
  intro n
  induction n with
  | zero =>
    intro K i h hi hK
    obtain ⟨K, rfl⟩ : ∃ k, K = k + 1 := ⟨K - 1, by omega⟩
    unfold tabularylaw12_same.l0
    rw [if_neg (by omega)]
  | succ n ih =>
    intro K i h hi hK
    obtain ⟨K, rfl⟩ : ∃ k, K = k + 1 := ⟨K - 1, by omega⟩
    unfold tabularylaw12_same.l0
    rw [if_pos (by omega), if_pos (by omega), if_pos (by omega), if_pos rfl]
    have h1 : wrap64 ((i : Int) + 1) = ((i + 1 : Nat) : Int) := by rw [wrap_id (by omega) (by omega)]; rfl
    rw [h1]
    exact ih K (i + 1) (by omega) (by omega) (by omega)
theorem same_any (A1 A2 : Option Addr) (c1 c2 : Nat) (l : List Int) (hl : l.length ≤ 1000000) (h1 : l.length ≤ c1) (h2 : l.length ≤ c2) (w : World) (hC1 : Kd.C (Kd.int .u8) w A1 l.length l) (hC2 : Kd.C (Kd.int .u8) w A2 l.length l) :
    Calls Tryd.prog 10 #[.slice A1 l.length c1, .slice A2 l.length c2] w fun e w' => e = .returned (.bool true) ∧ Below w.heap.size w w' := by
  refine (tabularylaw12_same.calls 1000001 A1 c1 l A2 c2 l true w hC1 h1 hC2 h2 ?_).mono ?_
  · unfold tabularylaw12_same.f
    rw [if_pos rfl]
    exact same_l l hl l.length 1000001 0 (by omega) (Nat.zero_le _) (by omega)
  · rintro e w' ⟨rfl, n, rfl⟩
    exact ⟨rfl, pw_below_drewN (Below.refl _ _) n⟩
end Go.Proofs.YtopehfjohifpnaaDoor.Mine
end
